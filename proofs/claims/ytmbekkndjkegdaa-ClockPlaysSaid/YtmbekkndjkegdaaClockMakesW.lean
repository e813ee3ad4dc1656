/- The walk of the law ClockMakes. -/
import Derived.Test.YtmbekkndjkegdaaClockC
import Derived.Test.YtmbekkndjkegdaaOpen
namespace Go.Proofs.Ytmbekkndjkegdaa.Clock
set_option linter.unusedVariables false
set_option linter.unusedSimpArgs false
open Go.RowKit Go.Proofs.YtmbekkndjkegdaaW.PrintWords Go.Proofs.Ytmbekkndjkegdaa.Kit

theorem u64_range {x : Int} (h : (Lit.int .u64 x).wf = true) : 0 ≤ x ∧ x < 18446744073709551616 := by
  simp [Lit.wf, IntKind.min, IntKind.max, IntKind.signed, IntKind.bits] at h
  omega

theorem openL_self (rs : List Int) (l : Int) : openL rs l l = [] := by
  unfold openL
  rw [Int.sub_self]
  rfl
theorem zeroM (W : World) : (zeroValue TM).run Try.prog W = .ok (.agg #[.int .u64 0, .int .u64 0, .slice none 0 0]) W := by kernel_rfl
theorem front_self (bg l : Int) : PClockPlays.vellumref06_Frontier.f bg l [] = some l := rfl
theorem refNewArg (l : Int) (h : 4611686018427387904 < l) : PClockPlays.vellumref06_New.f l = some (0, 0, [], 1) := by
  unfold PClockPlays.vellumref06_New.f
  rw [if_pos h]
theorem refNew (l : Int) (h : l ≤ 4611686018427387904) : PClockPlays.vellumref06_New.f l = some (l, l, [], 0) := by
  unfold PClockPlays.vellumref06_New.f
  rw [if_neg (by omega)]

set_option maxRecDepth 100000 in
set_option maxHeartbeats 4000000 in
theorem clockMakes_walk (l : Int) (w : World) (h0 : 0 ≤ l) :
    Calls Try.prog 3 #[.int .u64 l] w fun e w' => e = .returned (.bool true) ∧ Below w.heap.size w w' := by
  have hz := zeroM
  by_cases hl : l ≤ 4611686018427387904
  · have HN := Aside0.mk (refNew l hl)
    go_enter Try.func3, Try.ntmps3
    go_wp2_with fail
    refine (newCalls l h0 hl _).mono ?_
    rintro e w1 ⟨rfl, ha, hb⟩
    have HA1 := Aside0.mk ha
    have HB1 := Aside0.mk hb
    clear ha hb
    go_wp2_with fail
    refine (PClockPlays.vellumref06_New.calls l l l [] 0 w1 HN.out).mono ?_
    rintro e w2 ⟨v2, rfl, hR2, hb2⟩
    obtain ⟨A2, c2, rfl⟩ := Kd.R_slice hR2
    have HA2 := Aside0.mk (HA1.out.below hb2)
    have HB2 := Aside0.mk (HB1.out.trans (hb2.mono HB1.out.size))
    have HR2 := Aside0.mk hR2
    clear hR2 hb2 HA1 HB1
    go_upto_region 3 with (fail)
    obtain ⟨W, hW⟩ : ∃ W, W = w2.alloc (.cells #[.int .u64 l, .int .u64 l, .slice A2 0 c2] TM) := ⟨_, rfl⟩
    have hb3 : Below w2.heap.size w2 W := by rw [hW]; exact (Below.refl _ _).alloc (Nat.le_refl _) _
    have HX : Aside0 (Blk W w2.heap.size [.int .u64 l, .int .u64 l, .slice A2 0 c2] TM) := ⟨by rw [hW]; exact Blk.newA w2 _ _⟩
    have HA3 := Aside0.mk (HA2.out.below hb3)
    have HB3 := Aside0.mk (HB2.out.trans (hb3.mono HB2.out.size))
    have HR3 := Aside0.mk (Kd.R_reads' (Kd.R_below HR2.out hb3))
    have HI := Aside0.mk (isLaw w.heap.size l l l zeros [] A2 c2 W HA3.out (openL_self zeros l) HR3.out.2.2 HR3.out.2.1 (front_self l l))
    rw [← hW]
    clear hW hb3 HA2 HB2 HR2 HA3 HR3
    have x0 := HX.out.cell 0 _ rfl
    have x1 := HX.out.cell 1 _ rfl
    have x2 := HX.out.cell 2 _ rfl
    go_wp2_with fail
    refine HI.out.mono ?_
    rintro e w4 ⟨rfl, hb4⟩
    have HB4 := Aside0.mk (HB3.out.trans (hb4.mono HB3.out.size))
    clear hb4 HB3 HX HI x0 x1 x2
    go_wp2_with fail
    refine (awakeCalls _).mono ?_
    rintro e w5 ⟨rfl, hb5⟩
    have HB5 := Aside0.mk (HB4.out.trans (hb5.mono HB4.out.size))
    clear hb5 HB4
    go_wp2
    go_ret
    exact ⟨rfl, HB5.out⟩
  · have HN := Aside0.mk (refNewArg l (by omega))
    go_enter Try.func3, Try.ntmps3
    go_wp2_with fail
    refine (newArg l (by omega) _).mono ?_
    rintro e w1 ⟨rfl, rfl⟩
    go_wp2_with fail
    refine (PClockPlays.vellumref06_New.calls l 0 0 [] 1 w HN.out).mono ?_
    rintro e w2 ⟨v2, rfl, hR2, hb2⟩
    obtain ⟨A2, c2, rfl⟩ := Kd.R_slice hR2
    have HB2 := Aside0.mk hb2
    clear hR2 hb2
    go_wp2_with fail
    have HB3 : Aside0 (Below w.heap.size w (w2.alloc (.cells #[.int .u64 0, .int .u64 0, .slice A2 0 c2] TM))) := ⟨HB2.out.alloc HB2.out.size _⟩
    refine (awakeCalls _).mono ?_
    rintro e w3 ⟨rfl, hb3⟩
    have HB4 := Aside0.mk (HB3.out.trans (hb3.mono HB3.out.size))
    clear hb3 HB3
    go_wp2
    go_ret
    exact ⟨rfl, HB4.out⟩
end Go.Proofs.Ytmbekkndjkegdaa.Clock
