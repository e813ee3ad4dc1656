/- Layer 10's readers: New, and enter and leave with the lock held. -/
import Derived.Test.YtohpcifpnfomnaaSnapA
namespace Go.Proofs.Ytohpcifpnfomnaa.Snap
set_option linter.unusedVariables false
set_option linter.unusedSimpArgs false
open Go.RowKit Go.Proofs.YtohpcifpnfomnaaW.PrintWords Go.Proofs.Ytohpcifpnfomnaa.Kit Go.MuLone

theorem skSet (st fl : Int) (zs : List Int) : (sk false st fl zs).toArray.setIfInBounds 0 (.bool true) = (sk true st fl zs).toArray := by simp [sk]
theorem skNe (m : Bool) (st fl : Int) (zs : List Int) : ¬ (sk m st fl zs).toArray = #[] := by simp [sk]
theorem zeros_rd (i : Int) : rd zeros i = 0 := by
  unfold rd zeros
  rw [List.getD_eq_getElem?_getD, List.getElem?_replicate]
  split <;> rfl
theorem newArg (l : Int) (hl : 4611686018427387904 < l) (w : World) :
    Calls Try.prog 7 #[.int .u64 l] w fun e w' => e = .returned (.tuple #[.pointer none, .int .i64 1]) ∧ w = w' := by
  go_enter Try.func7, Try.ntmps7
  go_wp2
  go_ret2
  exact ⟨rfl, rfl⟩
theorem newCalls (l : Int) (h0 : 0 ≤ l) (hl : l ≤ 4611686018427387904) (w : World) :
    Calls Try.prog 7 #[.int .u64 l] w fun e w' => e = .returned (.tuple #[.pointer (some ⟨w.heap.size, 0, none⟩), .int .i64 0]) ∧ Sn w' w.heap.size 0 l zeros ∧ Below w.heap.size w w' := by
  have hz := zeroS
  have hne := skNe false 0 0 zeros
  have HZ := Aside0.mk (skSet 0 0 zeros)
  generalize (sk false 0 0 zeros).toArray = Z at *
  go_enter Try.func7, Try.ntmps7
  go_wp2_with fail
  obtain ⟨W, hW⟩ : ∃ W, W = w.alloc (.cells (Z.setIfInBounds 0 (.bool true)) TS) := ⟨_, rfl⟩
  have HB : Aside0 (Below w.heap.size w W) := ⟨by rw [hW]; exact (Below.refl _ _).alloc (Nat.le_refl _) _⟩
  have HX : Aside0 (Blk W w.heap.size (sk true 0 0 zeros) TS) := ⟨by
    rw [hW, HZ.out]
    exact Blk.new w _ _⟩
  rw [← hW]
  clear hW HZ hz hne
  refine (u64Store _ 3 l 0 _ (HX.out.cell 3 _ rfl) (HX.out.free 3)).mono ?_
  rintro e w1 ⟨rfl, hw1⟩
  have HX1 : Aside0 (Blk w1 w.heap.size (sk true 0 l zeros) TS) := ⟨by rw [← hw1]; exact HX.out.put 3 (.int .u64 l)⟩
  have HB1 : Aside0 (Below w.heap.size w w1) := ⟨by rw [← hw1]; exact HB.out.setCell (p := ⟨w.heap.size, 3, none⟩) (Nat.le_refl _) _⟩
  clear hw1 HX HB
  go_wp2
  go_ret2
  exact ⟨rfl, ⟨HX1.out, zeros_len, h0, hl, fun i _ => by rw [zeros_rd]; omega⟩, HB1.out⟩

theorem Sn.set {w : World} {p : Nat} {st fl : Int} {rs : List Int} (h : Sn w p st fl rs) (q : Nat) (hq : q < 256) (v : Int) (h0 : 0 ≤ v) (h1 : v ≤ 4611686018427387905) : Sn (w.setCell ⟨p, 4 + q, none⟩ (.int .u64 v)) p st fl (rs.set q v) where
  row := by
    have := h.row.put (4 + q) (.int .u64 v)
    have e : (sk true st fl rs).set (4 + q) (.int .u64 v) = sk true st fl (rs.set q v) := by
      unfold sk
      rw [show 4 + q = q + 1 + 1 + 1 + 1 by omega]
      simp only [List.set_cons_succ, nums_set]
    rw [e] at this
    exact this
  len := by rw [List.length_set]; exact h.len
  f0 := h.f0
  fM := h.fM
  r0 := fun i hi => by
    have hl := h.len
    by_cases e : q = i
    · subst e
      have : rd (rs.set q v) (q : Int) = v := by simp [rd, hl, hi]
      rw [this]
      exact ⟨h0, h1⟩
    · have : rd (rs.set q v) (i : Int) = rd rs (i : Int) := by simp [rd, List.getElem?_set, e]
      rw [this]
      exact h.r0 i hi

set_option maxRecDepth 100000 in
set_option maxHeartbeats 1600000 in
theorem enterHit (p : Nat) (st fl s : Int) (rs : List Int) (q : Nat) (w : World) (h : Sn w p st fl rs) (h1 : fl ≤ s) (h2 : s ≤ 4611686018427387904) (hq : q < 256) (hz : rd rs (q : Int) = 0) (hf : ∀ i : Nat, i < q → rd rs (i : Int) ≠ 0) :
    Calls Try.prog 21 #[.pointer (some ⟨p, 0, none⟩), .int .u64 s] w fun e w' => e = .returned (.tuple #[.int .i64 q, .int .i64 0]) ∧ Sn w' p st fl (rs.set q (s + 1)) ∧ Only (fun i => i = p) w w' := by
  have H := Aside0.mk h
  have HF := Aside0.mk hf
  have HZ := Aside0.mk hz
  have h0 := h.f0
  have HL := Aside0.mk (u64Load p 3 fl w h.c3)
  clear h hf hz
  go_enter Try.func21, Try.ntmps21
  go_wp2_with fail
  refine HL.out.mono ?_
  rintro e w' ⟨rfl, rfl⟩
  go_wp2_with fail
  go_loopw [17] (fun x wr => ∃ j : Nat, j ≤ q ∧ x = .int .i64 j ∧ wr = w) (fun x _ => 256 - (intOf x).toNat)
  case atStart => exact ⟨0, Nat.zero_le _, rfl, rfl⟩
  case round =>
    obtain ⟨j, hj, rfl, rfl⟩ := hrel
    have hj2 : j < 256 := by omega
    by_cases e : j = q
    · subst e
      have HC := Aside0.mk (u64Cas p (4 + j) 0 (s + 1) wr (by rw [H.out.cr j hj2, HZ.out]) (H.out.row.free _))
      go_wp2_with fail
      refine HC.out.mono ?_
      rintro e w' ⟨rfl, hw'⟩
      have HX : Aside0 (Sn w' p st fl (rs.set j (s + 1))) := ⟨by rw [← hw']; exact H.out.set j hj2 (s + 1) (by omega) (by omega)⟩
      have HO : Aside0 (Only (fun i => i = p) wr w') := ⟨by rw [← hw']; exact Only.setCell (S := fun i => i = p) (Only.refl _ wr) (p := ⟨p, 4 + j, none⟩) (Or.inl rfl) _⟩
      clear hw' HC
      go_wp2
      go_ret2
      exact ⟨rfl, HX.out, HO.out⟩
    · have HC := Aside0.mk (u64CasMiss p (4 + j) _ 0 (s + 1) (HF.out j (by omega)) wr (H.out.cr j hj2) (H.out.row.free _))
      go_wp2_with fail
      refine HC.out.mono ?_
      rintro e w' ⟨rfl, rfl⟩
      go_wp2
      go_roundw
      case rel => exact ⟨j + 1, by omega, by go_num, trivial⟩
      case measure => simp [intOf]; omega
theorem enterArg (p : Nat) (s : Int) (w : World) (h2 : 4611686018427387904 < s) :
    Calls Try.prog 21 #[.pointer (some ⟨p, 0, none⟩), .int .u64 s] w fun e w' => e = .returned (.tuple #[.int .i64 0, .int .i64 1]) ∧ w = w' := by
  go_enter Try.func21, Try.ntmps21
  go_wp2
  go_ret2
  exact ⟨rfl, rfl⟩
theorem enterLow (p : Nat) (st fl s : Int) (rs : List Int) (w : World) (h : Sn w p st fl rs) (h1 : s < fl) :
    Calls Try.prog 21 #[.pointer (some ⟨p, 0, none⟩), .int .u64 s] w fun e w' => e = .returned (.tuple #[.int .i64 0, .int .i64 101]) ∧ w = w' := by
  have HL := Aside0.mk (u64Load p 3 fl w h.c3)
  have hM := h.fM
  clear h
  go_enter Try.func21, Try.ntmps21
  go_wp2_with fail
  refine HL.out.mono ?_
  rintro e w' ⟨rfl, rfl⟩
  go_wp2
  go_ret2
  exact ⟨rfl, rfl⟩
set_option maxRecDepth 100000 in
set_option maxHeartbeats 1600000 in
theorem enterFull (p : Nat) (st fl s : Int) (rs : List Int) (w : World) (h : Sn w p st fl rs) (h1 : fl ≤ s) (h2 : s ≤ 4611686018427387904) (hf : ∀ i : Nat, i < 256 → rd rs (i : Int) ≠ 0) :
    Calls Try.prog 21 #[.pointer (some ⟨p, 0, none⟩), .int .u64 s] w fun e w' => e = .returned (.tuple #[.int .i64 0, .int .i64 2]) ∧ w = w' := by
  have H := Aside0.mk h
  have HF := Aside0.mk hf
  have h0 := h.f0
  have HL := Aside0.mk (u64Load p 3 fl w h.c3)
  clear h hf
  go_enter Try.func21, Try.ntmps21
  go_wp2_with fail
  refine HL.out.mono ?_
  rintro e w' ⟨rfl, rfl⟩
  go_wp2_with fail
  go_loopw [17] (fun x wr => ∃ j : Nat, j ≤ 256 ∧ x = .int .i64 j ∧ wr = w) (fun x _ => 256 - (intOf x).toNat)
  case atStart => exact ⟨0, Nat.zero_le _, rfl, rfl⟩
  case round =>
    obtain ⟨j, hj, rfl, rfl⟩ := hrel
    by_cases hj2 : j < 256
    · have HC := Aside0.mk (u64CasMiss p (4 + j) _ 0 (s + 1) (HF.out j hj2) wr (H.out.cr j hj2) (H.out.row.free _))
      go_wp2_with fail
      refine HC.out.mono ?_
      rintro e w' ⟨rfl, rfl⟩
      go_wp2
      go_roundw
      case rel => exact ⟨j + 1, by omega, by go_num, trivial⟩
      case measure => simp [intOf]; omega
    · go_wp2
      go_ret2
      exact ⟨rfl, rfl⟩
end Go.Proofs.Ytohpcifpnfomnaa.Snap
