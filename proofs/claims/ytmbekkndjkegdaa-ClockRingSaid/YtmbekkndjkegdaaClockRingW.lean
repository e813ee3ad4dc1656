/- The walk of the law ClockRing. -/
import Derived.Test.YtmbekkndjkegdaaClockE
import Derived.Test.YtmbekkndjkegdaaClockMakesW
import Derived.Deep.CutBlock
import Derived.Deep.DeepCutAuto
namespace Go.Proofs.Ytmbekkndjkegdaa.Clock
set_option linter.unusedVariables false
set_option linter.unusedSimpArgs false
open Go.RowKit Go.Proofs.YtmbekkndjkegdaaW.PrintWords Go.Proofs.Ytmbekkndjkegdaa.Kit

theorem mark_zeros (s t : Int) : at_ (mark zeros s) t = if t.toNat % 4096 = s.toNat % 4096 then s else 0 := by
  rw [mark_at zeros s t zeros_len, at_zeros]

set_option maxRecDepth 100000 in
set_option maxHeartbeats 4000000 in
theorem ring_walk (l0 l k : Int) (hl0 : 0 ≤ l0) (hl : (4611686018427379712 < l0 ∧ l = 0) ∨ (l0 ≤ 4611686018427379712 ∧ l0 = l)) (hk0 : 0 ≤ k) (hk1 : k < 65536) (w : World) :
    Calls Try.prog 4 #[.int .u64 l0, .int .u16 k] w fun e w' => e = .returned (.bool true) ∧ Below w.heap.size w w' := by
  have h0 : 0 ≤ l := by omega
  have h1 : l ≤ 4611686018427379712 := by omega
  go_enter Try.func4, Try.ntmps4
  go_upto_if 16 with (fail)
  go_cut [0] (fun v wc => v = .int .u64 l ∧ w = wc)
  case first =>
    rcases hl with ⟨h, rfl⟩ | ⟨h, rfl⟩
    · go_wp2
      go_meet
      exact ⟨rfl, rfl⟩
    · go_wp2
      go_meet
      exact ⟨rfl, rfl⟩
  case rest =>
  clear hl
  obtain ⟨rfl, rfl⟩ := hcut
  go_wp2_with fail
  refine (newCalls l h0 (by omega) _).mono ?_
  rintro e w1 ⟨rfl, ha, hb⟩
  have HA1 : Aside0 (Clk w1 w.heap.size (l + ((0 : Nat) : Int)) l zeros) := ⟨by simpa using ha⟩
  have HB1 := Aside0.mk hb
  clear ha hb
  go_wp2_with fail
  go_loopw [7, 8, 9] (fun a b c wr => ∃ j : Nat, j ≤ 4096 ∧ a = .int .u64 ((j : Int) + 1) ∧ Aside0 (Clk wr w.heap.size (l + j) l zeros) ∧ Aside0 (Below w.heap.size w wr)) (fun a _ _ _ => 4097 - (intOf a).toNat)
  case atStart => exact ⟨0, by omega, rfl, HA1, HB1⟩
  case round =>
    clear HA1 HB1
    obtain ⟨j, hj, rfl, HA, HB⟩ := hrel
    by_cases hlt : j < 4096
    · have e1 : l + (j : Int) + 1 = l + ((j : Int) + 1) := by omega
      go_wp2_with fail
      refine (takeOk _ _ _ _ _ HA.out (by omega) (by omega)).mono ?_
      rw [e1]
      rintro e w2 ⟨rfl, ha2, ho2⟩
      have HA2 : Aside0 (Clk w2 w.heap.size (l + ((j + 1 : Nat) : Int)) l zeros) := ⟨ha2⟩
      have HB2 : Aside0 (Below w.heap.size w w2) := ⟨HB.out.trans (ho2.below (fun i (e : i = w.heap.size) => Nat.le_of_eq e.symm) HB.out.size)⟩
      clear ha2 ho2 HA HB e1
      go_wp2
      go_roundw
      case rel => exact ⟨j + 1, by omega, by congr 1, HA2, HB2⟩
      case measure => simp [intOf]; omega
    · have e : j = 4096 := by omega
      subst e
      have HA2 : Aside0 (Clk wr w.heap.size (l + 4096) l zeros) := HA
      clear HA
      have i4 : k.tmod 4096 = k % 4096 := Int.tmod_eq_emod_of_nonneg hk0
      have i1 : 0 ≤ k % 4096 := Int.emod_nonneg _ (by decide)
      have i2 : k % 4096 < 4096 := Int.emod_lt_of_pos _ (by decide)
      generalize hd : k % 4096 = d at *
      clear hd
      go_wp2_with fail
      refine (takeFull _ _ _ _ _ HA2.out (by omega) (by omega)).mono ?_
      rintro e w2 ⟨rfl, rfl⟩
      go_wp2_with fail
      have hz : ∀ t, at_ zeros t = 0 := at_zeros
      by_cases hd0 : d = 0
      · subst hd0
        rw [Int.add_zero]
        refine (doneOk _ _ _ (l + 1) _ _ HA2.out (fun t => by rw [hz]; omega) (by omega) (by omega) (by rw [hz]; omega)).mono ?_
        rintro e w3 ⟨rfl, f', g1, g2, g3, g4, g5, g6⟩
        have e1 : f' = l + 1 := by
          by_cases ea : f' = l
          · subst ea
            rw [mark_zeros, if_pos rfl] at g4
            exact absurd rfl g4
          · by_cases eb : f' = l + 1
            · exact eb
            · have := g3 (l + 2) (by omega) (by omega)
              rw [mark_zeros, if_neg (by omega)] at this
              omega
        subst e1
        have HA3 := Aside0.mk g5
        have HB3 : Aside0 (Below w.heap.size w w3) := ⟨HB.out.trans (g6.below (fun i (e : i = w.heap.size) => Nat.le_of_eq e.symm) HB.out.size)⟩
        clear g1 g2 g3 g4 g5 g6 HA2 HB hz
        go_wp2_with fail
        refine (takeOk _ _ _ _ _ HA3.out (by omega) (by omega)).mono ?_
        rintro e w4 ⟨rfl, ha4, ho4⟩
        have HA4 := Aside0.mk ha4
        have HB4 : Aside0 (Below w.heap.size w w4) := ⟨HB3.out.trans (ho4.below (fun i (e : i = w.heap.size) => Nat.le_of_eq e.symm) HB3.out.size)⟩
        clear ha4 ho4 HA3 HB3
        go_wp2_with fail
        refine (frontierCalls _ _ _ _ _ HA4.out).mono ?_
        rintro e w5 ⟨rfl, rfl⟩
        go_wp2
        go_ret
        exact ⟨rfl, HB4.out⟩
      · have h5 : ¬ l + 1 + d = l + 1 := by omega
        refine (doneOk _ _ _ (l + 1 + d) _ _ HA2.out (fun t => by rw [hz]; omega) (by omega) (by omega) (by rw [hz]; omega)).mono ?_
        rintro e w3 ⟨rfl, f', g1, g2, g3, g4, g5, g6⟩
        have e1 : f' = l := by
          by_cases ea : f' = l
          · exact ea
          · have := g3 (l + 1) (by omega) (by omega)
            rw [mark_zeros, if_neg (by omega)] at this
            omega
        subst e1
        have HA3 := Aside0.mk g5
        have HB3 : Aside0 (Below w.heap.size w w3) := ⟨HB.out.trans (g6.below (fun i (e : i = w.heap.size) => Nat.le_of_eq e.symm) HB.out.size)⟩
        clear g1 g2 g3 g4 g5 g6 HA2 HB hz
        go_wp2_with fail
        refine (takeFull _ _ _ _ _ HA3.out (by omega) (by omega)).mono ?_
        rintro e w4 ⟨rfl, rfl⟩
        go_wp2_with fail
        refine (frontierCalls _ _ _ _ _ HA3.out).mono ?_
        rintro e w5 ⟨rfl, rfl⟩
        go_wp2_with fail
        refine (doneOk _ _ _ (f' + 1) _ _ HA3.out (fun t => by rw [mark_zeros]; split <;> omega) (by omega) (by omega) (by rw [mark_zeros, if_neg (by omega)]; omega)).mono ?_
        rintro e w5 ⟨rfl, f2, g1, g2, g3, g4, g5, g6⟩
        have HB5 : Aside0 (Below w.heap.size w w5) := ⟨HB3.out.trans (g6.below (fun i (e : i = w.heap.size) => Nat.le_of_eq e.symm) HB3.out.size)⟩
        clear g1 g2 g3 g4 g5 g6 HA3 HB3
        go_wp2
        go_ret
        exact ⟨rfl, HB5.out⟩
theorem u16_range {x : Int} (h : (Lit.int .u16 x).wf = true) : 0 ≤ x ∧ x < 65536 := by
  simp [Lit.wf, IntKind.min, IntKind.max, IntKind.signed, IntKind.bits] at h
  omega
theorem clockRing_walk (l0 k : Int) (w : World) (hl0 : 0 ≤ l0) (hk : 0 ≤ k ∧ k < 65536) :
    Calls Try.prog 4 #[.int .u64 l0, .int .u16 k] w fun e w' => e = .returned (.bool true) ∧ Below w.heap.size w w' := by
  by_cases h : 4611686018427379712 < l0
  · exact ring_walk l0 0 k hl0 (Or.inl ⟨h, rfl⟩) hk.1 hk.2 w
  · exact ring_walk l0 l0 k hl0 (Or.inr ⟨by omega, rfl⟩) hk.1 hk.2 w
end Go.Proofs.Ytmbekkndjkegdaa.Clock
