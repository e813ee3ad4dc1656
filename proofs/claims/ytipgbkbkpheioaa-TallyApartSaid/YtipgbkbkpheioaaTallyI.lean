/- Layer 5's histogram: Below. -/
import Derived.Test.YtipgbkbkpheioaaTallyH
namespace Go.Proofs.Ytipgbkbkpheioaa.Tally
set_option linter.unusedVariables false
set_option linter.unusedSimpArgs false
open Go.RowKit Go.Proofs.YtipgbkbkpheioaaW.PrintWords Go.Proofs.Ytipgbkbkpheioaa.Kit

def u64 (n : Int) : Int := IntKind.u64.wrap n
def sumU (xs : List Int) : Int := xs.foldl (fun n s => u64 (n + s)) 0
theorem sumU_take (xs : List Int) (j : Nat) (h : j < xs.length) : sumU (xs.take (j + 1)) = u64 (sumU (xs.take j) + rd xs j) := by
  rw [take_rd xs j h, sumU, List.foldl_append]
  rfl
/-- Are the thousandths reached behind size j? -/
def reached (xs : List Int) (t : Int) (j : Nat) : Prop := u64 (u64 t * sumU xs) ≤ u64 (1000 * sumU (xs.take (j + 1)))
/-- The least size. -/
structure Least (xs : List Int) (t : Int) (r : Int) : Prop where mk :: (out : (∃ j : Nat, j < 65 ∧ r = j ∧ reached xs t j ∧ ∀ i, i < j → ¬ reached xs t i) ∨ (r = 64 ∧ ∀ i, i < 65 → ¬ reached xs t i))

theorem belowSmall (v : Value) (t : Int) (h : t < 0) (w : World) : Calls Try.prog 20 #[v, .int .i64 t] w fun e w' => e = .returned (.tuple #[.int .i64 0, .int .i64 1]) ∧ w = w' := by
  go_enter Try.func20, Try.ntmps20
  go_wp2
  go_ret2
  exact ⟨rfl, rfl⟩
theorem belowBig (v : Value) (t : Int) (h0 : 0 ≤ t) (h : 1000 < t) (w : World) : Calls Try.prog 20 #[v, .int .i64 t] w fun e w' => e = .returned (.tuple #[.int .i64 0, .int .i64 1]) ∧ w = w' := by
  go_enter Try.func20, Try.ntmps20
  go_wp2
  go_ret2
  exact ⟨rfl, rfl⟩

theorem u64_self (t : Int) (h0 : 0 ≤ t) (h1 : t ≤ 1000) : u64 t = t := by unfold u64; rw [IntKind.wrap_u64]; omega
theorem u64_def (t : Int) : IntKind.u64.wrap t = u64 t := rfl

def BelowPost (xs : List Int) (t : Int) (w : World) (e : Ending) (w' : World) : Prop :=
  ∃ r1 r2, e = .returned (.tuple #[.int .i64 r1, .int .i64 r2]) ∧ ((sumU xs = 0 ∧ r1 = 0 ∧ r2 = 5) ∨ (sumU xs ≠ 0 ∧ r2 = 0 ∧ Least xs t r1)) ∧ Below w.heap.size w w'

set_option maxHeartbeats 1600000 in
theorem belowCalls (p : Nat) (xs : List Int) (t : Int) (w : World) (h : Hist w p xs) (h0 : 0 ≤ t) (h1 : t ≤ 1000) :
    Calls Try.prog 20 #[.pointer (some ⟨p, 0, none⟩), .int .i64 t] w (BelowPost xs t w) := by
  have HL := Aside0.mk h.len
  have HT := Aside0.mk (u64_self t h0 h1)
  have Hp := Aside0.mk h
  clear h
  go_enter Try.func20, Try.ntmps20
  go_wp2_with fail
  refine (countsCalls p xs _ Hp.out).mono ?_
  rintro e w1 ⟨v, rfl, hR, hB⟩
  obtain ⟨A, c, rfl, hl, hC⟩ := Kd.R_reads hR
  have HC := Aside0.mk hC
  have HB := Aside0.mk hB
  clear hR hl hC hB
  have hl65 : xs.length = 65 := HL.out
  rw [hl65] at *
  clear hl65
  have HC : Aside0 (Kd.C (Kd.int .u64) w1 A 65 xs) := ⟨by have := HC.out; rwa [HL.out] at this⟩
  go_wp2_with fail
  go_loop [6, 23] (fun s i => ∃ j : Nat, j ≤ 65 ∧ i = .int .i64 j ∧ s = .int .u64 (sumU (xs.take j))) (fun _ i => 65 - (intOf i).toNat)
  case atStart => exact ⟨0, Nat.zero_le _, rfl, rfl⟩
  case round =>
    obtain ⟨j, hj, rfl, rfl⟩ := hrel
    by_cases hlt : j < 65
    · obtain ⟨ad, e, hx⟩ := Kd.at_int HC.out (j : Int) (by omega) (by omega)
      subst e
      simp only [Int.toNat_natCast] at hx
      have HS := sumU_take xs j (by rw [HL.out]; exact hlt)
      rw [← u64_def] at HS
      have HS' := Aside0.mk HS
      clear HS
      generalize sumU (xs.take j) = s0 at *
      generalize rd xs j = x0 at *
      go_wp2
      go_round
      case rel => exact ⟨j + 1, by omega, by go_num, by rw [HS'.out]⟩
      case measure => simp [intOf]; omega
    · obtain rfl : j = 65 := by omega
      have HE : Aside0 (xs.take 65 = xs) := ⟨by rw [List.take_of_length_le]; rw [HL.out]; omega⟩
      rw [HE.out]
      clear hj hlt
      by_cases hz : sumU xs = 0
      · rw [hz]
        go_wp2
        go_ret2
        exact ⟨0, 5, rfl, Or.inl ⟨hz, rfl, rfl⟩, HB.out⟩
      · have hzb : (sumU xs == 0) = false := by rw [beq_eq_false_iff_ne]; exact hz
        have HZ := Aside0.mk hz
        clear hz
        obtain ⟨N, hN⟩ : ∃ N, N = IntKind.u64.wrap (t * sumU xs) := ⟨_, rfl⟩
        have hN1 : IntKind.u64.wrap (t * sumU xs) = N := hN.symm
        have HN : Aside0 (u64 (u64 t * sumU xs) = N) := ⟨by rw [HT.out]; exact hN1⟩
        clear hN
        generalize hS : sumU xs = S at *
        have HSum := Aside0.mk hS
        clear hS
        go_wp2_with fail
        go_loop [10, 35] (fun s i => ∃ j : Nat, j ≤ 65 ∧ i = .int .i64 j ∧ s = .int .u64 (sumU (xs.take j)) ∧ Aside0 (∀ i, i < j → ¬ reached xs t i)) (fun _ i => 65 - (intOf i).toNat)
        case atStart => exact ⟨0, Nat.zero_le _, rfl, rfl, ⟨fun i hi => absurd hi (Nat.not_lt_zero _)⟩⟩
        case round =>
          obtain ⟨j, hj, rfl, rfl, HA⟩ := hrel
          by_cases hlt : j < 65
          · obtain ⟨ad, e, hx⟩ := Kd.at_int HC.out (j : Int) (by omega) (by omega)
            subst e
            simp only [Int.toNat_natCast] at hx
            have HS := sumU_take xs j (by rw [HL.out]; exact hlt)
            have HRd : Aside0 (reached xs t j ↔ N ≤ IntKind.u64.wrap (1000 * sumU (xs.take (j + 1)))) := ⟨by unfold reached; rw [HSum.out, HN.out]; exact Iff.rfl⟩
            rw [← u64_def] at HS
            have hS2 : IntKind.u64.wrap (sumU (xs.take j) + rd xs j) = sumU (xs.take (j + 1)) := HS.symm
            clear HS
            generalize sumU (xs.take j) = s0 at *
            generalize rd xs j = x0 at *
            generalize hs1 : sumU (xs.take (j + 1)) = s1 at *
            have HS' := Aside0.mk hs1
            clear hs1
            generalize hM : IntKind.u64.wrap (1000 * s1) = M at *
            by_cases hr : N ≤ M
            · have HRt := Aside0.mk (HRd.out.2 hr)
              go_wp2
              go_ret2
              exact ⟨j, 0, rfl, Or.inr ⟨by rw [HSum.out]; exact HZ.out, rfl, ⟨Or.inl ⟨j, hlt, rfl, HRt.out, HA.out⟩⟩⟩, HB.out⟩
            · have HRf : Aside0 (∀ i, i < j + 1 → ¬ reached xs t i) := ⟨fun i hi => by
                rcases Nat.lt_or_ge i j with h | h
                · exact HA.out i h
                · obtain rfl : i = j := by omega
                  exact fun hh => hr (HRd.out.1 hh)⟩
              go_wp2
              go_round
              case rel => exact ⟨j + 1, by omega, by go_num, by rw [HS'.out], HRf⟩
              case measure => simp [intOf]; omega
          · obtain rfl : j = 65 := by omega
            go_wp2
            go_ret2
            exact ⟨64, 0, rfl, Or.inr ⟨by rw [HSum.out]; exact HZ.out, rfl, ⟨Or.inr ⟨rfl, HA.out⟩⟩⟩, HB.out⟩
end Go.Proofs.Ytipgbkbkpheioaa.Tally
