/- Layer 13, the reference: a row of takers that is read; Tickets, find, holds. -/
import Derived.Test.YtkgabeloofjohaaGapO
namespace Go.Proofs.Ytkgabeloofjohaa.Gap
set_option linter.unusedVariables false
set_option linter.unusedSimpArgs false
open Go.RowKit Go.Proofs.YtkgabeloofjohaaW.PrintWords Go.Proofs.Ytkgabeloofjohaa.Kit

abbrev TK : TypeId := 39
abbrev TKs : TypeId := 25
abbrev TR : TypeId := 28
structure RT where
  t : Int
  hs : List Hd
def kT : Kd RT := Kd.iso (Kd.pair (Kd.int .u64) (Kd.slice TH kH)) (fun x => (x.t, x.hs))
theorem kT_K {w : World} {x : RT} {cs : List Value} (h : kT.K w x cs) : ∃ A c, cs = [.int .u64 x.t, .slice A x.hs.length c] ∧ x.hs.length ≤ c ∧ kH.C w A x.hs.length x.hs := by
  obtain ⟨c0, c1, rfl, h0, A, c, rfl, hl, hC⟩ := h
  rw [show c0 = [.int .u64 x.t] from h0]
  exact ⟨A, c, rfl, hl, hC⟩
theorem kT_M {w : World} {base : Nat} {ok : Nat → Prop} {x : RT} {cs : List Value} (h : kT.M w base ok x cs) : ∃ v, cs = [.int .u64 x.t, v] ∧ kH.R TH w base ok v x.hs := by
  obtain ⟨c0, c1, rfl, h0, v, rfl, hR⟩ := h
  rw [show c0 = [.int .u64 x.t] from h0]
  exact ⟨v, rfl, hR⟩
theorem kT_mkM {w : World} {base : Nat} {ok : Nat → Prop} (x : RT) {v : Value} (h : kH.R TH w base ok v x.hs) : kT.M w base ok x [.int .u64 x.t, v] := ⟨[.int .u64 x.t], [v], rfl, rfl, ⟨v, rfl, h⟩⟩
theorem kT_at {w : World} {A : Option Addr} {n : Nat} {xs : List RT} (h : kT.C w A n xs) (i : Nat) (hi : i < n) : ∃ b o x B d, A = some ⟨b, o, none⟩ ∧ xs[i]? = some x ∧ w.cell? ⟨b, o + i * 2, none⟩ = some (.int .u64 x.t) ∧ w.cell? ⟨b, o + i * 2 + 1, none⟩ = some (.slice B x.hs.length d) ∧ kH.C w B x.hs.length x.hs := by
  obtain ⟨b, o, x, cs, rfl, hx, hK, hc⟩ := C_at (s := 2) rfl (by omega) h i hi
  obtain ⟨B, d, rfl, _, hC⟩ := kT_K hK
  exact ⟨b, o, x, B, d, rfl, hx, hc 0 _ rfl, hc 1 _ rfl, hC⟩
theorem int_lit0 (W : World) : (Kd.int .u64).R TU (W.alloc (.cells #[] TU)) W.heap.size (fun _ => True) (.slice (some ⟨W.heap.size, 0, none⟩) 0 0) [] :=
  ⟨fun _ _ => trivial, OwnRow.lit W W.heap.size (ps := []) (inner := []) (Reps.none _ _) (Nat.le_refl _) (by simp)⟩

def rtickets (xs : List RT) : List Int := xs.map (·.t)
theorem rtickets_succ {xs : List RT} {i : Nat} {x : RT} (h : xs[i]? = some x) : rtickets (xs.take (i + 1)) = rtickets (xs.take i) ++ [x.t] := by
  unfold rtickets
  rw [List.take_add_one, h, Option.toList_some, List.map_append]
  rfl
set_option maxRecDepth 100000 in
set_option maxHeartbeats 4000000 in
theorem refTickets (A : Option Addr) (n c : Nat) (xs : List RT) (last : Int) (w : World) (hC : kT.C w A n xs) (hs : n ≤ 256) :
    Calls Try.prog 18 #[.agg #[.slice A n c, .int .u64 last]] w fun e w' => ∃ v1, e = .returned v1 ∧ (Kd.int .u64).R TU w' w.heap.size (fun _ => True) v1 (rtickets xs) ∧ Below w.heap.size w w' := by
  obtain ⟨W, hW⟩ : ∃ W, W = w.alloc (.cells #[.slice A n c, .int .u64 last] TR) := ⟨_, rfl⟩
  have hb : Below w.heap.size w W := by rw [hW]; exact (Below.refl _ _).alloc (Nat.le_refl _) _
  have HG : Aside0 (Blk W w.heap.size [.slice A n c, .int .u64 last] TR) := ⟨by rw [hW]; exact Blk.newA w _ _⟩
  obtain ⟨W2, hW2⟩ : ∃ W2, W2 = W.alloc (.cells #[] TU) := ⟨_, rfl⟩
  have HR0 : Aside0 ((Kd.int .u64).R TU W2 W.heap.size (fun _ => True) (.slice (some ⟨W.heap.size, 0, none⟩) 0 0) []) := ⟨by rw [hW2]; exact int_lit0 W⟩
  have HS2 : Aside0 (w.heap.size + 1 ≤ W2.heap.size) := ⟨by rw [hW2, hW]; simp⟩
  have HB2 : Aside0 (Below w.heap.size w W2) := ⟨by rw [hW2]; exact hb.alloc hb.size _⟩
  have HG2 : Aside0 (Blk W2 w.heap.size [.slice A n c, .int .u64 last] TR) := ⟨by rw [hW2]; exact HG.out.alloc _⟩
  have HC : Aside0 (∀ W', Below w.heap.size w W' → kT.C W' A n xs) := ⟨fun W' h => Kd.C_below hC h⟩
  have HL := Aside0.mk hC.1
  clear hC hb HG
  have HX : Aside0 (rtickets (xs.take n) = rtickets xs) := ⟨by rw [List.take_of_length_le (by rw [HL.out]; exact Nat.le_refl _)]⟩
  go_enter Try.func18, Try.ntmps18
  go_upto_region 2 with (fail)
  have hsz : (w.alloc (.cells #[.slice A n c, .int .u64 last] TR)).heap.size = W.heap.size := by rw [hW]
  have hww : (w.alloc (.cells #[.slice A n c, .int .u64 last] TR)).alloc (.cells #[] TU) = W2 := by rw [hW2, hW]
  have hs1 : W.heap.size = w.heap.size + 1 := by rw [hW]; simp
  rw [hs1] at HR0
  rw [hww]
  clear hsz hww hs1 hW hW2
  have HZe : Aside0 (w.heap.size = w.heap.size) := ⟨rfl⟩
  clear HZe
  generalize hz : w.heap.size = z at *
  have g0 := HG2.out.cell 0 _ rfl
  go_wp2_with fail
  go_loopw [4, 3] (fun x u wr => ∃ i : Nat, i ≤ n ∧ x = .int .i64 i ∧ Aside0 ((Kd.int .u64).R TU wr (z + 1) (fun _ => True) u (rtickets (xs.take i))) ∧ Aside0 (Below (z + 1) W2 wr)) (fun x u _ => n - (intOf x).toNat)
  case atStart => exact ⟨0, Nat.zero_le _, rfl, HR0, ⟨⟨rfl, rfl, rfl, Nat.le_refl _, fun _ _ => rfl⟩⟩⟩
  case round =>
    clear g0
    obtain ⟨i, hi, rfl, HR, HB⟩ := hrel
    have HGr := Aside0.mk (HG2.out.below HB.out (by omega))
    have g0 := HGr.out.cell 0 _ rfl
    by_cases hlt : i < n
    · have HZ : Aside0 (Below z w wr) := ⟨HB2.out.trans (HB.out.mono (by omega))⟩
      obtain ⟨b, o, x, B, d, rfl, hx, c0, _⟩ := kT_at (HC.out wr HZ.out) i hlt
      have i1 : (i : Int) < (n : Int) := by omega
      have HT2 := Aside0.mk (rtickets_succ hx)
      have hll : (rtickets (xs.take i)).length ≤ i := by simp [rtickets]; omega
      have HLl := Aside0.mk hll
      have HSz : Aside0 (z + 1 ≤ wr.heap.size) := ⟨Nat.le_trans HS2.out HB.out.size⟩
      clear hx hll HZ
      generalize rtickets (xs.take i) = L0 at *
      generalize x.t = kt at *
      go_wp2_with ((with_reducible refine gate_builtin (b := .append) (xs := #[.tmp 13, .tmp 20]) rfl ?_); at_builtin; refine Kd.R_append (Kd.int .u64) (w0 := W2) (z + 1) rfl (.tmp 13) (.tmp 20) TUs TU (.int .u64 0) 8 rfl Try.underlying29 (by kernel_rfl) rfl (by decide) (by omega) _ L0 kt [.int .u64 kt] (fun _ => True) (fun _ => False) rfl rfl ?aP (fun _ hk => hk.elim) ?aF ?aO ?aB ?aS ?aL ?_; (case aP => rfl); (case aF => exact fun _ _ => trivial); (case aO => exact HR.out); (case aB => exact HB.out); (case aS => exact HSz.out); (case aL => have := HLl.out; omega); intro v1 w2 ho hb hg hat; have HO2 := Aside0.mk ho; have HB2 := Aside0.mk hb; clear ho hb hg hat HR g0 c0)
      go_roundw
      case rel => exact ⟨i + 1, by omega, by go_num, ⟨by rw [HT2.out]; exact HO2.out⟩, HB2⟩
      case measure => simp [intOf]; omega
    · obtain rfl : i = n := by omega
      clear hi
      rw [HX.out] at HR
      go_wp2
      go_ret
      exact ⟨u3, rfl, by rw [hz]; exact Kd.R_lower HR.out (by omega), by rw [hz]; exact HB2.out.trans (HB.out.mono (by omega))⟩

set_option maxRecDepth 100000 in
set_option maxHeartbeats 4000000 in
theorem refHolds (A : Option Addr) (n c : Nat) (xs : List Hd) (w : World) (hC : kH.C w A n xs) (hs : n ≤ 2932031007317) :
    Calls Try.prog 33 #[.slice A n c] w fun e w' => ∃ v1, e = .returned v1 ∧ kH.R TH w' w.heap.size (fun _ => True) v1 xs ∧ Below w.heap.size w w' := by
  have hu := Try.underlying52
  obtain ⟨W, hW⟩ : ∃ W, W = w.alloc (.cells #[] TH) := ⟨_, rfl⟩
  have HB2 : Aside0 (Below w.heap.size w W) := ⟨by rw [hW]; exact (Below.refl _ _).alloc (Nat.le_refl _) _⟩
  have HR0 : Aside0 (kH.R TH W w.heap.size (fun _ => True) (.slice (some ⟨w.heap.size, 0, none⟩) 0 0) []) := ⟨by rw [hW]; exact kH_lit0 w⟩
  have HC : Aside0 (∀ W', Below w.heap.size w W' → kH.C W' A n xs) := ⟨fun W' h => Kd.C_below hC h⟩
  have HL := Aside0.mk hC.1
  have HX : Aside0 (xs.take n = xs) := ⟨List.take_of_length_le (by rw [HL.out]; exact Nat.le_refl _)⟩
  clear hC
  go_enter Try.func33, Try.ntmps33
  go_upto_region 2 with (fail)
  rw [← hW]
  clear hW
  generalize hz : w.heap.size = z at *
  go_wp2_with fail
  go_loopw [4, 3] (fun x u wr => ∃ i : Nat, i ≤ n ∧ x = .int .i64 i ∧ Aside0 (kH.R TH wr z (fun _ => True) u (xs.take i)) ∧ Aside0 (Below z w wr)) (fun x u _ => n - (intOf x).toNat)
  case atStart => exact ⟨0, Nat.zero_le _, rfl, HR0, HB2⟩
  case round =>
    obtain ⟨i, hi, rfl, HR, HB⟩ := hrel
    by_cases hlt : i < n
    · obtain ⟨b, o, x, rfl, hx, c0, c1, c2, c3⟩ := kH_at (HC.out wr HB.out) i hlt
      have i1 : (i : Int) < (n : Int) := by omega
      have HT2 : Aside0 (xs.take (i + 1) = xs.take i ++ [x]) := ⟨by rw [List.take_add_one, hx]; rfl⟩
      have hll : (xs.take i).length ≤ i := by rw [List.length_take]; omega
      have HLl := Aside0.mk hll
      have HSz : Aside0 (z ≤ wr.heap.size) := ⟨by have := HB.out.size; omega⟩
      clear hx hll
      generalize xs.take i = L0 at *
      obtain ⟨⟨xlo, xhi, xop⟩, xal⟩ := x
      simp only [] at c0 c1 c2 c3
      go_wp2_with ((with_reducible refine gate_builtin (b := .append) (xs := #[.tmp 12, .tmp 17]) rfl ?_); at_builtin; refine Kd.R_append kH (w0 := w) z rfl (.tmp 12) (.tmp 17) THs TH (.agg #[.string ByteArray.empty, .string ByteArray.empty, .bool false, .bool false]) 48 rfl Try.underlying32 infoH rfl kH_pos (by omega) _ L0 ⟨⟨xlo, xhi, xop⟩, xal⟩ [.string xlo, .string xhi, .bool xop, .bool xal] (fun _ => True) (fun _ => False) rfl rfl ?aP (fun _ hk => hk.elim) ?aF ?aO ?aB ?aS ?aL ?_; (case aP => exact kH_mkM _ _ _ ⟨⟨xlo, xhi, xop⟩, xal⟩); (case aF => exact fun _ _ => trivial); (case aO => exact HR.out); (case aB => exact HB.out); (case aS => exact HSz.out); (case aL => have := HLl.out; omega); intro v1 w2 ho hb hg hat; have HO2 := Aside0.mk ho; have HB2 := Aside0.mk hb; clear ho hb hg hat HR c0 c1 c2 c3)
      go_roundw
      case rel => exact ⟨i + 1, by omega, by go_num, ⟨by rw [HT2.out]; exact HO2.out⟩, HB2⟩
      case measure => simp [intOf]; omega
    · obtain rfl : i = n := by omega
      clear hi
      rw [HX.out] at HR
      go_wp2
      go_ret
      exact ⟨u3, rfl, by rw [hz]; exact HR.out, by rw [hz]; exact HB.out⟩

set_option maxRecDepth 100000 in
set_option maxHeartbeats 4000000 in
theorem lawHolds (A : Option Addr) (n c : Nat) (xs : List Hd) (w : World) (hC : kH.C w A n xs) (hs : n ≤ 2932031007317) :
    Calls Try.prog 15 #[.slice A n c] w fun e w' => ∃ v1, e = .returned v1 ∧ kH.R TH w' w.heap.size (fun _ => True) v1 xs ∧ Below w.heap.size w w' := by
  have hu := Try.underlying52
  obtain ⟨W, hW⟩ : ∃ W, W = w.alloc (.cells #[] TH) := ⟨_, rfl⟩
  have HB2 : Aside0 (Below w.heap.size w W) := ⟨by rw [hW]; exact (Below.refl _ _).alloc (Nat.le_refl _) _⟩
  have HR0 : Aside0 (kH.R TH W w.heap.size (fun _ => True) (.slice (some ⟨w.heap.size, 0, none⟩) 0 0) []) := ⟨by rw [hW]; exact kH_lit0 w⟩
  have HC : Aside0 (∀ W', Below w.heap.size w W' → kH.C W' A n xs) := ⟨fun W' h => Kd.C_below hC h⟩
  have HL := Aside0.mk hC.1
  have HX : Aside0 (xs.take n = xs) := ⟨List.take_of_length_le (by rw [HL.out]; exact Nat.le_refl _)⟩
  clear hC
  go_enter Try.func15, Try.ntmps15
  go_upto_region 2 with (fail)
  rw [← hW]
  clear hW
  generalize hz : w.heap.size = z at *
  go_wp2_with fail
  go_loopw [4, 3] (fun x u wr => ∃ i : Nat, i ≤ n ∧ x = .int .i64 i ∧ Aside0 (kH.R TH wr z (fun _ => True) u (xs.take i)) ∧ Aside0 (Below z w wr)) (fun x u _ => n - (intOf x).toNat)
  case atStart => exact ⟨0, Nat.zero_le _, rfl, HR0, HB2⟩
  case round =>
    obtain ⟨i, hi, rfl, HR, HB⟩ := hrel
    by_cases hlt : i < n
    · obtain ⟨b, o, x, rfl, hx, c0, c1, c2, c3⟩ := kH_at (HC.out wr HB.out) i hlt
      have i1 : (i : Int) < (n : Int) := by omega
      have HT2 : Aside0 (xs.take (i + 1) = xs.take i ++ [x]) := ⟨by rw [List.take_add_one, hx]; rfl⟩
      have hll : (xs.take i).length ≤ i := by rw [List.length_take]; omega
      have HLl := Aside0.mk hll
      have HSz : Aside0 (z ≤ wr.heap.size) := ⟨by have := HB.out.size; omega⟩
      clear hx hll
      generalize xs.take i = L0 at *
      obtain ⟨⟨xlo, xhi, xop⟩, xal⟩ := x
      simp only [] at c0 c1 c2 c3
      go_wp2_with ((with_reducible refine gate_builtin (b := .append) (xs := #[.tmp 12, .tmp 17]) rfl ?_); at_builtin; refine Kd.R_append kH (w0 := w) z rfl (.tmp 12) (.tmp 17) THs TH (.agg #[.string ByteArray.empty, .string ByteArray.empty, .bool false, .bool false]) 48 rfl Try.underlying32 infoH rfl kH_pos (by omega) _ L0 ⟨⟨xlo, xhi, xop⟩, xal⟩ [.string xlo, .string xhi, .bool xop, .bool xal] (fun _ => True) (fun _ => False) rfl rfl ?aP (fun _ hk => hk.elim) ?aF ?aO ?aB ?aS ?aL ?_; (case aP => exact kH_mkM _ _ _ ⟨⟨xlo, xhi, xop⟩, xal⟩); (case aF => exact fun _ _ => trivial); (case aO => exact HR.out); (case aB => exact HB.out); (case aS => exact HSz.out); (case aL => have := HLl.out; omega); intro v1 w2 ho hb hg hat; have HO2 := Aside0.mk ho; have HB2 := Aside0.mk hb; clear ho hb hg hat HR c0 c1 c2 c3)
      go_roundw
      case rel => exact ⟨i + 1, by omega, by go_num, ⟨by rw [HT2.out]; exact HO2.out⟩, HB2⟩
      case measure => simp [intOf]; omega
    · obtain rfl : i = n := by omega
      clear hi
      rw [HX.out] at HR
      go_wp2
      go_ret
      exact ⟨u3, rfl, by rw [hz]; exact HR.out, by rw [hz]; exact HB.out⟩

def rfind (xs : List RT) (n : Int) : Int := match xs.findIdx? (fun k => decide (k.t = n)) with | some i => (i : Int) | none => -1
set_option maxRecDepth 100000 in
set_option maxHeartbeats 4000000 in
theorem refFind (A : Option Addr) (m c : Nat) (xs : List RT) (last n : Int) (w : World) (hC : kT.C w A m xs) (hs : m ≤ 256) :
    Calls Try.prog 34 #[.agg #[.slice A m c, .int .u64 last], .int .u64 n] w fun e w' => e = .returned (.int .i64 (rfind xs n)) ∧ Below w.heap.size w w' := by
  obtain ⟨W, hW⟩ : ∃ W, W = w.alloc (.cells #[.slice A m c, .int .u64 last] TR) := ⟨_, rfl⟩
  have hb : Below w.heap.size w W := by rw [hW]; exact (Below.refl _ _).alloc (Nat.le_refl _) _
  have HG : Aside0 (Blk W w.heap.size [.slice A m c, .int .u64 last] TR) := ⟨by rw [hW]; exact Blk.newA w _ _⟩
  have HC := Aside0.mk (Kd.C_below hC hb)
  have HL := Aside0.mk hC.1
  have HB := Aside0.mk hb
  clear hC hb
  obtain ⟨q, hq⟩ : ∃ q, q = rfind xs n := ⟨_, rfl⟩
  rw [← hq]
  have HQ := Aside0.mk hq
  clear hq
  go_enter Try.func34, Try.ntmps34
  go_upto_region 1 with (fail)
  rw [← hW]
  clear hW
  generalize hz : w.heap.size = z at *
  have g0 := HG.out.cell 0 _ rfl
  go_wp2_with fail
  go_loopw [5] (fun x wr => ∃ i : Nat, i ≤ m ∧ x = .int .i64 i ∧ wr = W ∧ Aside0 (∀ j, j < i → ∀ y, xs[j]? = some y → decide (y.t = n) = false)) (fun x _ => m - (intOf x).toNat)
  case atStart => exact ⟨0, Nat.zero_le _, rfl, rfl, ⟨fun j hj => absurd hj (Nat.not_lt_zero j)⟩⟩
  case round =>
    obtain ⟨i, hi, rfl, rfl, HP⟩ := hrel
    by_cases hlt : i < m
    · obtain ⟨b, o, x, B, d, rfl, hx, c0, _⟩ := kT_at HC.out i hlt
      have i1 : (i : Int) < (m : Int) := by omega
      have HK := Aside0.mk hx
      clear hx
      obtain ⟨xt, hxt⟩ : ∃ t, t = x.t := ⟨_, rfl⟩
      rw [← hxt] at c0
      by_cases he : xt = n
      · have HI : Aside0 (q = (i : Int)) := ⟨by
          have : xs.findIdx? (fun k => decide (k.t = n)) = some i := by
            obtain ⟨hl, e⟩ := List.getElem?_eq_some_iff.1 HK.out
            refine List.findIdx?_eq_some_iff_getElem.2 ⟨hl, by rw [e, ← hxt]; exact decide_eq_true he, fun j hj => ?_⟩
            have := HP.out j hj _ (List.getElem?_eq_getElem (by omega))
            simpa using this
          rw [HQ.out]
          unfold rfind
          rw [this]⟩
        clear hxt
        subst he
        go_wp2
        go_ret
        exact ⟨by rw [HI.out]; rfl, by rw [hz]; exact HB.out⟩
      · have HP1 : Aside0 (∀ j, j < i + 1 → ∀ y, xs[j]? = some y → decide (y.t = n) = false) := ⟨fun j hj y hy => by
          rcases Nat.lt_or_ge j i with h | h
          · exact HP.out j h y hy
          · obtain rfl : j = i := by omega
            rw [HK.out] at hy
            injection hy with hy
            rw [← hy, ← hxt]
            exact decide_eq_false he⟩
        clear hxt
        go_wp2
        go_roundw
        case rel => exact ⟨i + 1, by omega, by go_num, trivial, HP1⟩
        case measure => simp [intOf]; omega
    · obtain rfl : i = m := by omega
      have HI : Aside0 (q = -1) := ⟨by
        have : xs.findIdx? (fun k => decide (k.t = n)) = none := List.findIdx?_eq_none_iff.2 (fun x hx => by
          obtain ⟨j, hj⟩ := List.getElem?_of_mem hx
          exact HP.out j (by rw [← HL.out]; exact (List.getElem?_eq_some_iff.1 hj).1) x hj)
        rw [HQ.out]
        unfold rfind
        rw [this]⟩
      clear hi
      go_wp2
      go_ret
      exact ⟨by rw [HI.out]; rfl, by rw [hz]; exact HB.out⟩
end Go.Proofs.Ytkgabeloofjohaa.Gap
