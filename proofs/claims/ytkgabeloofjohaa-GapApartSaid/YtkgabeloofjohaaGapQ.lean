/- Layer 13, the reference: Ahead. -/
import Derived.Test.YtkgabeloofjohaaGapP
import Derived.Deep.RegionHeld3
namespace Go.Proofs.Ytkgabeloofjohaa.Gap
set_option linter.unusedVariables false
set_option linter.unusedSimpArgs false
open Go.RowKit Go.Proofs.YtkgabeloofjohaaW.PrintWords Go.Proofs.Ytkgabeloofjohaa.Kit

def raheadP (xs : List RT) (x : RT) (i : Nat) : List Int := ((xs.take i).filter (fun y => wayB y.hs x.hs)).map (·.t)
theorem raheadP_zero (xs : List RT) (x : RT) : raheadP xs x 0 = [] := by simp [raheadP]
theorem raheadP_succ {xs : List RT} {x y : RT} {i : Nat} (h : xs[i]? = some y) : raheadP xs x (i + 1) = raheadP xs x i ++ (if wayB y.hs x.hs then [y.t] else []) := by
  unfold raheadP
  rw [List.take_add_one, h, Option.toList_some, List.filter_append, List.map_append]
  congr 1
  by_cases hx : wayB y.hs x.hs = true
  · simp [hx]
  · simp [hx]
theorem raheadP_le (xs : List RT) (x : RT) (i : Nat) : (raheadP xs x i).length ≤ i := by
  unfold raheadP
  rw [List.length_map]
  exact Nat.le_trans (List.length_filter_le _ _) (by rw [List.length_take]; omega)

theorem refAheadNone (A : Option Addr) (m c : Nat) (xs : List RT) (last n : Int) (w : World) (hC : kT.C w A m xs) (hs : m ≤ 256) (hf : rfind xs n = -1) :
    Calls Try.prog 29 #[.agg #[.slice A m c, .int .u64 last], .int .u64 n] w fun e w' => e = .returned (.tuple #[.slice none 0 0, .int .i64 130]) ∧ Below w.heap.size w w' := by
  have hu := Try.underlying28
  obtain ⟨W, hW⟩ : ∃ W, W = w.alloc (.cells #[.slice A m c, .int .u64 last] TR) := ⟨_, rfl⟩
  have hb : Below w.heap.size w W := by rw [hW]; exact (Below.refl _ _).alloc (Nat.le_refl _) _
  have HG : Aside0 (Blk W w.heap.size [.slice A m c, .int .u64 last] TR) := ⟨by rw [hW]; exact Blk.newA w _ _⟩
  have HF := Aside0.mk (refFind A m c xs last n W (Kd.C_below hC hb) hs)
  rw [hf] at HF
  have HB := Aside0.mk hb
  clear hC hb hf
  go_enter Try.func29, Try.ntmps29
  go_upto_region 1 with (fail)
  rw [← hW]
  clear hW
  generalize hz : w.heap.size = z at *
  have g0 := HG.out.cell 0 _ rfl
  have g1 := HG.out.cell 1 _ rfl
  go_wp2_with fail
  refine HF.out.mono ?_
  rintro e w1 ⟨rfl, hb1⟩
  have HB1 : Aside0 (Below z w w1) := ⟨HB.out.trans (hb1.mono (by have := HB.out.size; omega))⟩
  clear g0 g1 hb1 HF
  go_wp2
  exact bodyPost_ret (results_tmp2 rfl _ _ _) rfl ⟨rfl, by rw [hz]; exact HB1.out⟩

set_option maxRecDepth 100000 in
set_option maxHeartbeats 4000000 in
theorem refAheadOk (A : Option Addr) (m c at_ : Nat) (xs : List RT) (x : RT) (last n : Int) (w : World) (hC : kT.C w A m xs) (hs : m ≤ 256) (hl : ∀ y ∈ xs, y.hs.length ≤ 256) (hf : rfind xs n = (at_ : Int)) (hx : xs[at_]? = some x) :
    Calls Try.prog 29 #[.agg #[.slice A m c, .int .u64 last], .int .u64 n] w fun e w' => ∃ v1, e = .returned (.tuple #[v1, .int .i64 0]) ∧ (Kd.int .u64).R TU w' w.heap.size (fun _ => True) v1 (raheadP xs x at_) ∧ Below w.heap.size w w' := by
  have hu := Try.underlying28
  have hatm : at_ < m := by
    have := (List.getElem?_eq_some_iff.1 hx).1
    rw [← hC.1]
    exact this
  obtain ⟨W, hW⟩ : ∃ W, W = w.alloc (.cells #[.slice A m c, .int .u64 last] TR) := ⟨_, rfl⟩
  have hb : Below w.heap.size w W := by rw [hW]; exact (Below.refl _ _).alloc (Nat.le_refl _) _
  have HG : Aside0 (Blk W w.heap.size [.slice A m c, .int .u64 last] TR) := ⟨by rw [hW]; exact Blk.newA w _ _⟩
  have HF := Aside0.mk (refFind A m c xs last n W (Kd.C_below hC hb) hs)
  rw [hf] at HF
  have HB := Aside0.mk hb
  have HC : Aside0 (∀ W', Below w.heap.size w W' → kT.C W' A m xs) := ⟨fun W' h => Kd.C_below hC h⟩
  have HX := Aside0.mk hx
  have HLn := Aside0.mk hl
  have HZ1 : Aside0 (W.heap.size = w.heap.size + 1) := ⟨by rw [hW]; simp⟩
  clear hC hb hf hx hl
  go_enter Try.func29, Try.ntmps29
  go_upto_region 1 with (fail)
  rw [← hW]
  clear hW
  generalize hz : w.heap.size = z at *
  have g0 := HG.out.cell 0 _ rfl
  have g1 := HG.out.cell 1 _ rfl
  go_wp2_with fail
  refine HF.out.mono ?_
  rintro e w1 ⟨rfl, hb1⟩
  have HB1 : Aside0 (Below (z + 1) W w1) := ⟨by rw [← HZ1.out]; exact hb1⟩
  have HS1 : Aside0 (z + 1 ≤ w1.heap.size) := ⟨by have := hb1.size; have := HZ1.out; omega⟩
  clear g0 g1 hb1 HF
  have i2 : (0 : Int) ≤ (at_ : Int) := by omega
  have i0 : decide ((at_ : Int) < 0) = false := decide_eq_false (by omega)
  go_upto_region 5 with (fail)
  obtain ⟨W2, hW2⟩ : ∃ W2, W2 = w1.alloc (.cells #[] TU) := ⟨_, rfl⟩
  rw [← hW2]
  have HR0 : Aside0 ((Kd.int .u64).R TU W2 (z + 1) (fun _ => True) (.slice (some ⟨w1.heap.size, 0, none⟩) 0 0) []) := ⟨by rw [hW2]; exact Kd.R_lower (int_lit0 w1) HS1.out⟩
  have HB2 : Aside0 (Below (z + 1) W W2) := ⟨by rw [hW2]; exact HB1.out.alloc (by exact HS1.out) _⟩
  have HS2 : Aside0 (z + 1 ≤ W2.heap.size) := ⟨by rw [hW2, World.size_alloc]; have := HS1.out; omega⟩
  clear hW2 HB1 HS1
  generalize w1.heap.size = z1 at *
  go_wp2_with fail
  go_loopw [8, 7] (fun v u wr => ∃ i : Nat, i ≤ at_ ∧ v = .int .i64 i ∧ Aside0 ((Kd.int .u64).R TU wr (z + 1) (fun _ => True) u (raheadP xs x i)) ∧ Aside0 (Below (z + 1) W2 wr)) (fun v u _ => at_ - (intOf v).toNat)
  case atStart => exact ⟨0, Nat.zero_le _, rfl, ⟨by rw [raheadP_zero]; exact HR0.out⟩, ⟨⟨rfl, rfl, rfl, Nat.le_refl _, fun _ _ => rfl⟩⟩⟩
  case round =>
    obtain ⟨i, hi, rfl, HR, HB'⟩ := hrel
    by_cases hlt : i < at_
    · have HZr : Aside0 (Below z w wr) := ⟨HB.out.trans ((HB2.out.trans HB'.out).mono (by omega))⟩
      have HGr := Aside0.mk (HG.out.below (HB2.out.trans HB'.out) (by omega))
      have g0 := HGr.out.cell 0 _ rfl
      obtain ⟨b, o, y, B, d, rfl, hy, c0, c1, hCy⟩ := kT_at (HC.out wr HZr.out) i (by omega)
      obtain ⟨b', o', x', B', d', ee, hx', _, k1, hCx⟩ := kT_at (HC.out wr HZr.out) at_ hatm
      injection ee with ee
      injection ee with e1 e2 _
      subst e1 e2
      rw [HX.out] at hx'
      injection hx' with hx'
      subst hx'
      have HYy := Aside0.mk hy
      have i1 : (i : Int) < (at_ : Int) := by omega
      have i3 : (i : Int) < (m : Int) := by omega
      have i4 : (at_ : Int) < (m : Int) := by omega
      have HA := Aside0.mk (raheadP_succ (x := x) hy)
      have HL := Aside0.mk (raheadP_le xs x i)
      have HSz : Aside0 (z + 1 ≤ wr.heap.size) := ⟨Nat.le_trans HS2.out HB'.out.size⟩
      have HW : Aside0 (∀ W', Below wr.heap.size wr W' → Calls Try.prog 9 #[.slice B y.hs.length d, .slice B' x.hs.length d'] W' fun e w' => e = .returned (.bool (wayB y.hs x.hs)) ∧ Below W'.heap.size W' w') := ⟨fun W' hW' => by
        have h1 := HLn.out y (List.mem_of_getElem? hy)
        have h2 := HLn.out x (List.mem_of_getElem? HX.out)
        exact refWay B B' d d' y.hs x.hs W' (Kd.C_below hCy hW') (Kd.C_below hCx hW') (by omega) (by omega)⟩
      clear hCy hCx hy HZr
      generalize wayB y.hs x.hs = q at *
      generalize y.hs.length = ly at *
      generalize x.hs.length = lx at *
      obtain ⟨yt, hyt⟩ : ∃ t, t = y.t := ⟨_, rfl⟩
      rw [← hyt] at c0 HA
      clear hyt
      go_upto_region 8 with (fail)
      go_region_held3 (fun w' => Below wr.heap.size wr w' ∧ w'.cell? ⟨z, 0, none⟩ = some (.slice (some ⟨b, o, none⟩) m c) ∧ w'.cell? ⟨b, o + i * 2 + 1, none⟩ = some (.slice B ly d) ∧ w'.cell? ⟨b, o + at_ * 2 + 1, none⟩ = some (.slice B' lx d')) (first | exact ⟨‹_›, ‹_›, ‹_›, ‹_›⟩ | exact ⟨(Below.refl _ wr).drew, ‹_›, ‹_›, ‹_›⟩)
        (first
          | (go_at_call 9; refine (HW.out _ (Below.refl _ wr).drew).mono ?_; rintro e w9 ⟨rfl, hb9⟩; have hS9 : Below wr.heap.size wr w9 ∧ w9.cell? ⟨z, 0, none⟩ = some (.slice (some ⟨b, o, none⟩) m c) ∧ w9.cell? ⟨b, o + i * 2 + 1, none⟩ = some (.slice B ly d) ∧ w9.cell? ⟨b, o + at_ * 2 + 1, none⟩ = some (.slice B' lx d') := ⟨(Below.refl _ wr).drew.trans hb9, pw_cell_below ((Below.refl _ wr).drew.trans hb9) g0, pw_cell_below ((Below.refl _ wr).drew.trans hb9) c1, pw_cell_below ((Below.refl _ wr).drew.trans hb9) k1⟩; obtain ⟨hs1, hs2, hs3, hs4⟩ := hS9))
      have HB9 : Aside0 (Below (z + 1) W2 w9) := ⟨HB'.out.trans (hs1.mono (by have := HSz.out; omega))⟩
      have HR9 := Aside0.mk (Kd.R_below HR.out hs1)
      have HSz9 : Aside0 (z + 1 ≤ w9.heap.size) := ⟨by have := HSz.out; have := hs1.size; omega⟩
      have c9 := pw_cell_below hs1 c0
      clear hb9 hs1 hs3 hs4 HR HB' HW c0 c1 k1 g0
      have g0 := hs2
      clear hs2
      generalize raheadP xs x i = L0 at *
      cases q with
      | true =>
        have HA2 : Aside0 (raheadP xs x (i + 1) = L0 ++ [yt]) := ⟨by rw [HA.out]; rfl⟩
        clear HA
        go_wp2_with ((with_reducible refine gate_builtin (b := .append) (xs := #[.tmp 33, .tmp 40]) rfl ?_); at_builtin; refine Kd.R_append (Kd.int .u64) (w0 := W2) (z + 1) rfl (.tmp 33) (.tmp 40) TUs TU (.int .u64 0) 8 rfl Try.underlying29 (by kernel_rfl) rfl (by decide) (by omega) u7 L0 yt [.int .u64 yt] (fun _ => True) (fun _ => False) rfl rfl ?aP (fun _ hk => hk.elim) ?aF ?aO ?aB ?aS ?aL ?_; (case aP => rfl); (case aF => exact fun _ _ => trivial); (case aO => exact HR9.out); (case aB => exact HB9.out); (case aS => exact HSz9.out); (case aL => have := HL.out; omega); intro v1 w2 ho hb hg hat; have HO2 := Aside0.mk ho; have HB2' := Aside0.mk hb; clear ho hb hg hat HR9 HB9 c9 g0)
        go_roundw
        case rel => exact ⟨i + 1, by omega, by go_num, ⟨by rw [HA2.out]; exact HO2.out⟩, HB2'⟩
        case measure => simp [intOf]; omega
      | false =>
        have HA2 : Aside0 (raheadP xs x (i + 1) = L0) := ⟨by rw [HA.out]; simp⟩
        clear HA
        go_wp2
        go_roundw
        case rel => exact ⟨i + 1, by omega, by go_num, ⟨by rw [HA2.out]; exact HR9.out⟩, HB9⟩
        case measure => simp [intOf]; omega
    · obtain rfl : i = at_ := by omega
      clear hi
      go_wp2
      exact bodyPost_ret (results_tmp2 rfl _ _ _) rfl ⟨u7, rfl, by rw [hz]; exact Kd.R_lower HR.out (by omega), by rw [hz]; exact HB.out.trans ((HB2.out.trans HB'.out).mono (by omega))⟩
end Go.Proofs.Ytkgabeloofjohaa.Gap
