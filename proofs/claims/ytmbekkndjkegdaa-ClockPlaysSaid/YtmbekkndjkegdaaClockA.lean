/- Layer 6's clock: what New, Take, Frontier, Last and place do to memory. -/
import Derived.Test.YtmbekkndjkegdaaKit
import Derived.Laws.LoneSync
import Derived.IntWalk
import Derived.StillTailTactics
namespace Go.Proofs.Ytmbekkndjkegdaa.Clock
set_option linter.unusedVariables false
set_option linter.unusedSimpArgs false
open Go.RowKit Go.Proofs.YtmbekkndjkegdaaW.PrintWords Go.Proofs.Ytmbekkndjkegdaa.Kit

abbrev TC : TypeId := 55
/-- A clock's cells. -/
def ck (m : Bool) (l f : Int) (rs : List Int) : List Value := .bool m :: .int .u64 l :: .int .u64 f :: nums .u64 rs

theorem u64Load (b o : Nat) (v : Int) (w : World) (h : w.cell? ⟨b, o, none⟩ = some (.int .u64 v)) :
    Calls Try.prog 21 #[.pointer (some ⟨b, o, none⟩)] w fun e w' => e = .returned (.int .u64 v) ∧ w = w' := by
  have ha := run_call_load (P := Try.prog) Try.func28 (by kernel_rfl) (by kernel_rfl) (by kernel_rfl) .u64 (by kernel_rfl) h
  go_enter Try.func21, Try.ntmps21
  go_wp2
  go_ret
  exact ⟨rfl, rfl⟩
theorem u64Store (b o : Nat) (v u : Int) (w : World) (h : w.cell? ⟨b, o, none⟩ = some (.int .u64 u)) (z : w.frozen? ⟨b, o, none⟩ = false) :
    Calls Try.prog 16 #[.pointer (some ⟨b, o, none⟩), .int .u64 v] w fun e w' => e = .returned (.tuple #[]) ∧ w.setCell ⟨b, o, none⟩ (.int .u64 v) = w' := by
  have ha := run_call_store (P := Try.prog) (k := .u64) (y := v) Try.func27 (by kernel_rfl) (by kernel_rfl) (by kernel_rfl) (by kernel_rfl) h z
  go_enter Try.func16, Try.ntmps16
  go_wp2
  go_end0
  exact ⟨rfl, rfl⟩
theorem u64Cas (b o : Nat) (u v : Int) (w : World) (h : w.cell? ⟨b, o, none⟩ = some (.int .u64 u)) (z : w.frozen? ⟨b, o, none⟩ = false) :
    Calls Try.prog 22 #[.pointer (some ⟨b, o, none⟩), .int .u64 u, .int .u64 v] w fun e w' => e = .returned (.bool true) ∧ w.setCell ⟨b, o, none⟩ (.int .u64 v) = w' := by
  have ha := run_call_cas_hit (P := Try.prog) Try.func29 (by kernel_rfl) (by kernel_rfl) (by kernel_rfl) .u64 (by kernel_rfl) (y := v) h z
  go_enter Try.func22, Try.ntmps22
  go_wp2
  go_ret
  exact ⟨rfl, rfl⟩

theorem nums_get (k : IntKind) (xs : List Int) (i : Nat) (h : i < xs.length) : (nums k xs)[i]? = some (.int k (rd xs i)) := by
  simp [nums, rd, h]
theorem nums_set (k : IntKind) (xs : List Int) (i : Nat) (v : Int) : (nums k xs).set i (.int k v) = nums k (xs.set i v) := by
  simp [nums, List.map_set]
def zeros : List Int := List.replicate 4096 0
theorem zeros_len : zeros.length = 4096 := List.length_replicate
theorem zeros_rd (i : Int) (h0 : 0 ≤ i) : rd zeros i = 0 := by
  unfold rd zeros
  rw [List.getD_eq_getElem?_getD, List.getElem?_replicate]
  split <;> rfl
theorem zeroC (W : World) : (zeroValue TC).run Try.prog W = .ok (.agg (ck false 0 0 zeros).toArray) W := by kernel_rfl

/-- A clock in block p: the last stamp, the frontier, the ring. -/
structure Clk (w : World) (p : Nat) (l f : Int) (rs : List Int) : Prop where
  row : Blk w p (ck true l f rs) TC
  len : rs.length = 4096
  f0 : 0 ≤ f
  fl : f ≤ l
  lM : l ≤ 4611686018427387904
  gap : l - f ≤ 4096
theorem Clk.below {w w' : World} {p : Nat} {l f : Int} {rs : List Int} (h : Clk w p l f rs) (hb : Below w.heap.size w w') : Clk w' p l f rs := ⟨h.row.belowSize hb, h.len, h.f0, h.fl, h.lM, h.gap⟩
theorem Clk.only {S : Nat → Prop} {w w' : World} {p : Nat} {l f : Int} {rs : List Int} (h : Clk w p l f rs) (ho : Only S w w') (hp : ¬ S p) : Clk w' p l f rs := ⟨ho.blk h.row hp, h.len, h.f0, h.fl, h.lM, h.gap⟩
theorem Clk.c0 {w : World} {p : Nat} {l f : Int} {rs : List Int} (h : Clk w p l f rs) : w.cell? ⟨p, 0, none⟩ = some (.bool true) := h.row.cell 0 _ rfl
theorem Clk.c1 {w : World} {p : Nat} {l f : Int} {rs : List Int} (h : Clk w p l f rs) : w.cell? ⟨p, 1, none⟩ = some (.int .u64 l) := h.row.cell 1 _ rfl
theorem Clk.c2 {w : World} {p : Nat} {l f : Int} {rs : List Int} (h : Clk w p l f rs) : w.cell? ⟨p, 2, none⟩ = some (.int .u64 f) := h.row.cell 2 _ rfl
theorem Clk.cr {w : World} {p : Nat} {l f : Int} {rs : List Int} (h : Clk w p l f rs) (i : Nat) (hi : i < 4096) : w.cell? ⟨p, 3 + i, none⟩ = some (.int .u64 (rd rs i)) := by
  have := h.row.cell (3 + i) (.int .u64 (rd rs i)) (by
    have h0 := nums_get .u64 rs i (by rw [h.len]; exact hi)
    rw [show 3 + i = i + 1 + 1 + 1 by omega]
    exact h0)
  exact this

theorem isCalls (p : Nat) (l f : Int) (rs : List Int) (w : World) (h : Clk w p l f rs) :
    Calls Try.prog 20 #[.pointer (some ⟨p, 0, none⟩)] w fun e w' => e = .returned (.bool true) ∧ w = w' := by
  have h0 := h.c0
  clear h
  go_enter Try.func20, Try.ntmps20
  go_wp2
  go_ret
  exact ⟨rfl, rfl⟩
theorem frontierCalls (p : Nat) (l f : Int) (rs : List Int) (w : World) (h : Clk w p l f rs) :
    Calls Try.prog 13 #[.pointer (some ⟨p, 0, none⟩)] w fun e w' => e = .returned (.int .u64 f) ∧ w = w' := by
  have HI := Aside0.mk (isCalls p l f rs w h)
  have HL := Aside0.mk (u64Load p 2 f w h.c2)
  clear h
  go_enter Try.func13, Try.ntmps13
  go_wp2_with fail
  refine HI.out.mono ?_
  rintro e w' ⟨rfl, rfl⟩
  go_wp2_with fail
  refine HL.out.mono ?_
  rintro e w' ⟨rfl, rfl⟩
  go_wp2
  go_ret
  exact ⟨rfl, rfl⟩
theorem lastCalls (p : Nat) (l f : Int) (rs : List Int) (w : World) (h : Clk w p l f rs) :
    Calls Try.prog 18 #[.pointer (some ⟨p, 0, none⟩)] w fun e w' => e = .returned (.int .u64 l) ∧ w = w' := by
  have HI := Aside0.mk (isCalls p l f rs w h)
  have HL := Aside0.mk (u64Load p 1 l w h.c1)
  clear h
  go_enter Try.func18, Try.ntmps18
  go_wp2_with fail
  refine HI.out.mono ?_
  rintro e w' ⟨rfl, rfl⟩
  go_wp2_with fail
  refine HL.out.mono ?_
  rintro e w' ⟨rfl, rfl⟩
  go_wp2
  go_ret
  exact ⟨rfl, rfl⟩

theorem newArg (l : Int) (hl : 4611686018427387904 < l) (w : World) :
    Calls Try.prog 7 #[.int .u64 l] w fun e w' => e = .returned (.tuple #[.pointer none, .int .i64 1]) ∧ w = w' := by
  go_enter Try.func7, Try.ntmps7
  go_wp2
  go_ret2
  exact ⟨rfl, rfl⟩
theorem ckSet (l f : Int) (zs : List Int) : (ck false l f zs).toArray.setIfInBounds 0 (.bool true) = (ck true l f zs).toArray := by simp [ck]
theorem ckNe (m : Bool) (l f : Int) (zs : List Int) : ¬ (ck m l f zs).toArray = #[] := by simp [ck]
theorem newCalls (l : Int) (h0 : 0 ≤ l) (hl : l ≤ 4611686018427387904) (w : World) :
    Calls Try.prog 7 #[.int .u64 l] w fun e w' => e = .returned (.tuple #[.pointer (some ⟨w.heap.size, 0, none⟩), .int .i64 0]) ∧ Clk w' w.heap.size l l zeros ∧ Below w.heap.size w w' := by
  have hz := zeroC
  have hne := ckNe false 0 0 zeros
  have HZ := Aside0.mk (ckSet 0 0 zeros)
  generalize (ck false 0 0 zeros).toArray = Z at *
  go_enter Try.func7, Try.ntmps7
  go_wp2_with fail
  obtain ⟨W, hW⟩ : ∃ W, W = w.alloc (.cells (Z.setIfInBounds 0 (.bool true)) TC) := ⟨_, rfl⟩
  have HB : Aside0 (Below w.heap.size w W) := ⟨by rw [hW]; exact (Below.refl _ _).alloc (Nat.le_refl _) _⟩
  have HX : Aside0 (Blk W w.heap.size (ck true 0 0 zeros) TC) := ⟨by
    rw [hW, HZ.out]
    exact Blk.new w _ _⟩
  rw [← hW]
  clear hW HZ hz hne
  refine (u64Store _ 1 l 0 _ (HX.out.cell 1 _ rfl) (HX.out.free 1)).mono ?_
  rintro e w1 ⟨rfl, hw1⟩
  have HX1 : Aside0 (Blk w1 w.heap.size (ck true l 0 zeros) TC) := ⟨by rw [← hw1]; exact HX.out.put 1 (.int .u64 l)⟩
  have HB1 : Aside0 (Below w.heap.size w w1) := ⟨by rw [← hw1]; exact HB.out.setCell (p := ⟨w.heap.size, 1, none⟩) (Nat.le_refl _) _⟩
  clear hw1 HX HB
  go_wp2_with fail
  refine (u64Store _ 2 l 0 _ (HX1.out.cell 2 _ rfl) (HX1.out.free 2)).mono ?_
  rintro e w2 ⟨rfl, hw2⟩
  have HX2 : Aside0 (Blk w2 w.heap.size (ck true l l zeros) TC) := ⟨by rw [← hw2]; exact HX1.out.put 2 (.int .u64 l)⟩
  have HB2 : Aside0 (Below w.heap.size w w2) := ⟨by rw [← hw2]; exact HB1.out.setCell (p := ⟨w.heap.size, 2, none⟩) (Nat.le_refl _) _⟩
  clear hw2 HX1 HB1
  go_wp2
  go_ret2
  exact ⟨rfl, ⟨HX2.out, zeros_len, h0, Int.le_refl _, hl, by omega⟩, HB2.out⟩

theorem placeCalls (p : Nat) (l f s : Int) (rs : List Int) (w : World) (h : Clk w p l f rs) (h0 : 0 ≤ s) :
    Calls Try.prog 23 #[.pointer (some ⟨p, 0, none⟩), .int .u64 s] w fun e w' => e = .returned (.pointer (some ⟨p, 3 + s.toNat % 4096, none⟩)) ∧ w = w' := by
  have h0c := h.c0
  clear h
  have i1 : 0 ≤ s % 4096 := Int.emod_nonneg _ (by decide)
  have i2 : s % 4096 < 4096 := Int.emod_lt_of_pos _ (by decide)
  have i3 : (s % 4096).toNat = s.toNat % 4096 := by omega
  have i4 : s.tmod 4096 = s % 4096 := Int.tmod_eq_emod_of_nonneg h0
  go_enter Try.func23, Try.ntmps23
  go_wp2
  go_ret
  exact ⟨rfl, rfl⟩

theorem takeEnd (p : Nat) (f : Int) (rs : List Int) (w : World) (h : Clk w p 4611686018427387904 f rs) :
    Calls Try.prog 11 #[.pointer (some ⟨p, 0, none⟩)] w fun e w' => e = .returned (.tuple #[.int .u64 0, .int .i64 4]) ∧ w = w' := by
  have HI := Aside0.mk (isCalls p _ f rs w h)
  have HL := Aside0.mk (u64Load p 1 _ w h.c1)
  clear h
  go_enter Try.func11, Try.ntmps11
  go_wp2_with fail
  refine HI.out.mono ?_
  rintro e w' ⟨rfl, rfl⟩
  go_wp2_with fail
  go_loopw [4, 12, 15, 23] (fun a b c d wr => wr = w) (fun _ _ _ _ _ => 0)
  case atStart => rfl
  case round =>
    subst hrel
    go_wp2_with fail
    refine HL.out.mono ?_
    rintro e w' ⟨rfl, rfl⟩
    go_wp2
    go_ret2
    exact ⟨rfl, rfl⟩
theorem takeFull (p : Nat) (l f : Int) (rs : List Int) (w : World) (h : Clk w p l f rs) (h1 : l < 4611686018427387904) (h2 : l - f = 4096) :
    Calls Try.prog 11 #[.pointer (some ⟨p, 0, none⟩)] w fun e w' => e = .returned (.tuple #[.int .u64 0, .int .i64 2]) ∧ w = w' := by
  have HI := Aside0.mk (isCalls p _ f rs w h)
  have HL := Aside0.mk (u64Load p 1 _ w h.c1)
  have HF := Aside0.mk (u64Load p 2 _ w h.c2)
  have hf0 := h.f0
  clear h
  go_enter Try.func11, Try.ntmps11
  go_wp2_with fail
  refine HI.out.mono ?_
  rintro e w' ⟨rfl, rfl⟩
  go_wp2_with fail
  go_loopw [4, 12, 15, 23] (fun a b c d wr => wr = w) (fun _ _ _ _ _ => 0)
  case atStart => rfl
  case round =>
    subst hrel
    go_wp2_with fail
    refine HL.out.mono ?_
    rintro e w' ⟨rfl, rfl⟩
    go_wp2_with fail
    refine HF.out.mono ?_
    rintro e w' ⟨rfl, rfl⟩
    go_wp2
    go_ret2
    exact ⟨rfl, rfl⟩
theorem takeOk (p : Nat) (l f : Int) (rs : List Int) (w : World) (h : Clk w p l f rs) (h1 : l < 4611686018427387904) (h2 : l - f < 4096) :
    Calls Try.prog 11 #[.pointer (some ⟨p, 0, none⟩)] w fun e w' => e = .returned (.tuple #[.int .u64 (l + 1), .int .i64 0]) ∧ Clk w' p (l + 1) f rs ∧ Only (fun i => i = p) w w' := by
  have HI := Aside0.mk (isCalls p _ f rs w h)
  have HL := Aside0.mk (u64Load p 1 _ w h.c1)
  have HF := Aside0.mk (u64Load p 2 _ w h.c2)
  have HC := Aside0.mk (u64Cas p 1 l (l + 1) w h.c1 (h.row.free 1))
  have hf0 := h.f0
  have hfl := h.fl
  have H := Aside0.mk h
  clear h
  go_enter Try.func11, Try.ntmps11
  go_wp2_with fail
  refine HI.out.mono ?_
  rintro e w' ⟨rfl, rfl⟩
  go_wp2_with fail
  go_loopw [4, 12, 15, 23] (fun a b c d wr => wr = w) (fun _ _ _ _ _ => 0)
  case atStart => rfl
  case round =>
    subst hrel
    go_wp2_with fail
    refine HL.out.mono ?_
    rintro e w' ⟨rfl, rfl⟩
    go_wp2_with fail
    refine HF.out.mono ?_
    rintro e w' ⟨rfl, rfl⟩
    go_wp2_with fail
    refine HC.out.mono ?_
    rintro e w' ⟨rfl, hw'⟩
    have HX : Aside0 (Clk w' p (l + 1) f rs) := ⟨⟨by rw [← hw']; exact H.out.row.put 1 (.int .u64 (l + 1)), H.out.len, H.out.f0, by omega, by omega, by omega⟩⟩
    have HO : Aside0 (Only (fun i => i = p) wr w') := ⟨by rw [← hw']; exact Only.setCell (S := fun i => i = p) (Only.refl _ wr) (p := ⟨p, 1, none⟩) (Or.inl rfl) _⟩
    clear hw'
    go_wp2
    go_ret2
    exact ⟨rfl, HX.out, HO.out⟩
end Go.Proofs.Ytmbekkndjkegdaa.Clock
