/- Layer 10's readers: the least one. -/
import Derived.Test.YtohpcifpnfomnaaSnapD
namespace Go.Proofs.Ytohpcifpnfomnaa.Snap
set_option linter.unusedVariables false
set_option linter.unusedSimpArgs false
open Go.RowKit Go.Proofs.YtohpcifpnfomnaaW.PrintWords Go.Proofs.Ytohpcifpnfomnaa.Kit Go.MuLone

/-- The least of the stamps in the first slots, and whether there is one. -/
def leastStep (v : Int) (s : Int × Bool) : Int × Bool := if 0 < v ∧ (s.2 = false ∨ v - 1 < s.1) then (v - 1, true) else s
def leastTo (rs : List Int) : Nat → Int × Bool
  | 0 => (0, false)
  | j + 1 => leastStep (rd rs (j : Int)) (leastTo rs j)

set_option maxRecDepth 100000 in
set_option maxHeartbeats 1600000 in
theorem leastCalls (p : Nat) (st fl : Int) (rs : List Int) (w : World) (h : Sn w p st fl rs) :
    Calls Try.prog 37 #[.pointer (some ⟨p, 0, none⟩)] w fun e w' => e = .returned (.tuple #[.int .u64 (leastTo rs 256).1, .bool (leastTo rs 256).2]) ∧ w = w' := by
  have H := Aside0.mk h
  clear h
  go_enter Try.func37, Try.ntmps37
  go_wp2_with fail
  go_loopw [4, 5, 8] (fun a b x wr => ∃ (j : Nat) (l : Int) (sm : Bool), j ≤ 256 ∧ a = .int .u64 l ∧ b = .bool sm ∧ x = .int .i64 j ∧ Aside0 (leastTo rs j = (l, sm)) ∧ wr = w) (fun _ _ x _ => 256 - (intOf x).toNat)
  case atStart => exact ⟨0, 0, false, Nat.zero_le _, rfl, rfl, rfl, ⟨rfl⟩, rfl⟩
  case round =>
    obtain ⟨j, l, sm, hj, rfl, rfl, rfl, HL, rfl⟩ := hrel
    by_cases hj2 : j < 256
    · have HC := Aside0.mk (u64Load p (4 + j) _ wr (H.out.cr j hj2))
      have HT : Aside0 (leastTo rs (j + 1) = leastStep (rd rs (j : Int)) (l, sm)) := ⟨by rw [leastTo, HL.out]⟩
      have hr := H.out.r0 j hj2
      generalize rd rs (j : Int) = v at *
      go_wp2_with fail
      refine HC.out.mono ?_
      rintro e w' ⟨rfl, rfl⟩
      clear HC
      by_cases hv : 0 < v
      · cases sm with
        | false =>
          have HE : Aside0 (leastTo rs (j + 1) = (v - 1, true)) := ⟨by rw [HT.out]; unfold leastStep; rw [if_pos ⟨hv, Or.inl rfl⟩]⟩
          clear HT
          go_wp2
          go_roundw
          case rel => exact ⟨j + 1, v - 1, true, by omega, rfl, rfl, by go_num, HE, trivial⟩
          case measure => simp [intOf]; omega
        | true =>
          by_cases hl : v - 1 < l
          · have HE : Aside0 (leastTo rs (j + 1) = (v - 1, true)) := ⟨by rw [HT.out]; unfold leastStep; rw [if_pos ⟨hv, Or.inr hl⟩]⟩
            clear HT
            go_wp2
            go_roundw
            case rel => exact ⟨j + 1, v - 1, true, by omega, rfl, rfl, by go_num, HE, trivial⟩
            case measure => simp [intOf]; omega
          · have HE : Aside0 (leastTo rs (j + 1) = (l, true)) := ⟨by rw [HT.out]; unfold leastStep; rw [if_neg (by simp; omega)]⟩
            clear HT
            go_wp2
            go_roundw
            case rel => exact ⟨j + 1, l, true, by omega, rfl, rfl, by go_num, HE, trivial⟩
            case measure => simp [intOf]; omega
      · have HE : Aside0 (leastTo rs (j + 1) = (l, sm)) := ⟨by rw [HT.out]; unfold leastStep; rw [if_neg (fun h => hv h.1)]⟩
        clear HT
        go_wp2
        go_roundw
        case rel => exact ⟨j + 1, l, sm, by omega, rfl, rfl, by go_num, HE, trivial⟩
        case measure => simp [intOf]; omega
    · have e : j = 256 := by omega
      subst e
      go_wp2
      go_ret2
      exact ⟨by rw [HL.out]; rfl, rfl⟩
set_option maxRecDepth 100000 in
set_option maxHeartbeats 1600000 in
theorem lleastCalls (p : Nat) (fl : Int) (rs : List Int) (w : World) (h : Sn w p 0 fl rs) :
    Calls Try.prog 25 #[.pointer (some ⟨p, 0, none⟩)] w fun e w' => e = .returned (.tuple #[.int .u64 (leastTo rs 256).1, .bool (leastTo rs 256).2]) ∧ Sn w' p 0 fl rs ∧ Only (fun i => i = p) w w' := by
  have HI := Aside0.mk (isCalls p 0 fl rs w h)
  have H := Aside0.mk h
  clear h
  go_enter_defers Try.func25, Try.ntmps25
  go_wp2_with fail
  refine HI.out.mono ?_
  rintro e w' ⟨rfl, rfl⟩
  go_wp2_with fail
  refine (lock_free muLib ⟨p, 1, none⟩ w H.out.c1 (H.out.row.free 1)).mono ?_
  rintro e w1 ⟨rfl, hw1⟩
  have H1 : Aside0 (Sn w1 p 1 fl rs) := ⟨by rw [hw1]; exact H.out.lock 1⟩
  have HO1 : Aside0 (Only (fun i => i = p) w w1) := ⟨by rw [hw1]; exact lockOnly w p _⟩
  clear hw1 H HI
  go_wp2_with fail
  refine (leastCalls p 1 fl rs w1 H1.out).mono ?_
  rintro e w2 ⟨rfl, rfl⟩
  have H2 := H1
  have HO2 := HO1
  clear H1 HO1
  go_wp2_with fail
  refine leaves_cons (f := 20) (args := #[.pointer (some ⟨p, 1, none⟩)]) (by simp) (by simp [go_sem]) ?_
  refine (unlock_deferred muLib ⟨p, 1, none⟩ .returning _ H2.out.c1 (H2.out.row.free 1)).mono ?_
  rintro e u' w3 ⟨rfl, rfl, hw3⟩
  have H3 : Aside0 (Sn w3 p 0 fl rs) := ⟨by rw [hw3]; exact H2.out.lock 0⟩
  have HO3 : Aside0 (Only (fun i => i = p) w w3) := ⟨by rw [hw3]; exact HO2.out.trans (lockOnly w1 p _)⟩
  clear hw3 H2 HO2
  exact ⟨_, results_tmp2 rfl _ _ _, rfl, H3.out, HO3.out⟩
end Go.Proofs.Ytohpcifpnfomnaa.Snap
