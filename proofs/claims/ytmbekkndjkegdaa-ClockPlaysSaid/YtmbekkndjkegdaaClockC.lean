/- The law's own helpers over layer 6: is, awake. -/
import Derived.Test.YtmbekkndjkegdaaClockB
import Derived.Test.YtmbekkndjkegdaaPClockPlaysx1
import Derived.Deep.RegionHeld3
namespace Go.Proofs.Ytmbekkndjkegdaa.Clock
set_option linter.unusedVariables false
set_option linter.unusedSimpArgs false
open Go.RowKit Go.Proofs.YtmbekkndjkegdaaW.PrintWords Go.Proofs.Ytmbekkndjkegdaa.Kit

theorem wrap_next (i : Nat) (h : i < 140737488355329) : wrap64 ((i : Int) + 1) = ((i + 1 : Nat) : Int) := by unfold wrap64; omega
theorem same_l (x0 : List Int) (h2 : x0.length ≤ 17592186044000) (d : Nat) : ∀ (k i : Nat), i + d = x0.length → d < k → PClockPlays.vellumref06_Same.l0 k x0 x0 i = some true := by
  induction d with
  | zero =>
    intro k i hi hk
    obtain ⟨k, rfl⟩ : ∃ m, k = m + 1 := ⟨k - 1, by omega⟩
    simp only [PClockPlays.vellumref06_Same.l0]
    rw [if_neg (by omega)]
  | succ d ih =>
    intro k i hi hk
    obtain ⟨k, rfl⟩ : ∃ m, k = m + 1 := ⟨k - 1, by omega⟩
    simp only [PClockPlays.vellumref06_Same.l0]
    simp only [wrap_next i (by omega), ih k (i + 1) (by omega) (by omega)]
    simp
theorem same_is (x0 : List Int) (h2 : x0.length ≤ 17592186044000) : PClockPlays.vellumref06_Same.f (x0.length + 1) x0 x0 = some true := by
  have := same_l x0 h2 x0.length (x0.length + 1) 0 (by omega) (by omega)
  simp only [PClockPlays.vellumref06_Same.f]
  simpa using this
abbrev TM : TypeId := 29
theorem openL_len {w : World} {p : Nat} {l f : Int} {rs : List Int} (h : Clk w p l f rs) : (openL rs f l).length ≤ 4096 := by
  have := openTo_len rs f (l - f).toNat
  have h1 := h.gap
  unfold openL
  omega

set_option maxRecDepth 100000 in
set_option maxHeartbeats 4000000 in
theorem isLaw (p : Nat) (bg l f : Int) (rs os : List Int) (A : Option Addr) (c : Nat) (w : World) (h : Clk w p l f rs) (ho : openL rs f l = os) (hC : (Kd.int .u64).C w A os.length os) (hc : os.length ≤ c)
    (hF : PClockPlays.vellumref06_Frontier.f bg l os = some f) :
    Calls Try.prog 9 #[.pointer (some ⟨p, 0, none⟩), .agg #[.int .u64 bg, .int .u64 l, .slice A os.length c]] w fun e w' => e = .returned (.bool true) ∧ Below w.heap.size w w' := by
  have HLn : Aside0 (os.length ≤ 4096) := ⟨by rw [← ho]; exact openL_len h⟩
  have HF := Aside0.mk hF
  have HO := Aside0.mk ho
  have H := Aside0.mk h
  have HC := Aside0.mk hC
  have HcL := Aside0.mk hc
  have HS := Aside0.mk (same_is os (by have := HLn.out; omega))
  obtain ⟨W, hW⟩ : ∃ W, W = w.alloc (.cells #[.int .u64 bg, .int .u64 l, .slice A os.length c] TM) := ⟨_, rfl⟩
  have HB0 : Aside0 (Below w.heap.size w W) := ⟨by rw [hW]; exact (Below.refl _ _).alloc (Nat.le_refl _) _⟩
  have HX : Aside0 (Blk W w.heap.size [.int .u64 bg, .int .u64 l, .slice A os.length c] TM) := ⟨by rw [hW]; exact Blk.newA w _ _⟩
  clear h hC hc hF ho
  go_enter Try.func9, Try.ntmps9
  go_upto_region 1 with (fail)
  rw [← hW]
  clear hW
  have x0 := HX.out.cell 0 _ rfl
  have x1 := HX.out.cell 1 _ rfl
  have x2 := HX.out.cell 2 _ rfl
  go_region_held3 (fun w' => w'.cell? ⟨w.heap.size, 0, none⟩ = some (.int .u64 bg) ∧ w'.cell? ⟨w.heap.size, 1, none⟩ = some (.int .u64 l) ∧ w'.cell? ⟨w.heap.size, 2, none⟩ = some (.slice A os.length c)) (first | exact ⟨‹_›, ‹_›, ‹_›⟩ | (simp; exact ⟨‹_›, ‹_›, ‹_›⟩))
    (first
      | (go_at_call 13; refine (frontierCalls p l f rs _ (H.out.below (HB0.out.drew))).mono ?_; rintro e w1 ⟨rfl, rfl⟩)
      | (go_at_call 17; refine (PClockPlays.vellumref06_Frontier.calls bg l A c os f _ (Kd.C_below HC.out (HB0.out.drew)) HcL.out HF.out).mono ?_; rintro e w2 ⟨rfl, hb2⟩; have HB2 := Aside0.mk ((HB0.out.drew).trans (hb2.mono (HB0.out.drew).size)); have HX2 := Aside0.mk ((HX.out.drew).belowSize hb2); have y0 := HX2.out.cell 0 _ rfl; have y1 := HX2.out.cell 1 _ rfl; have y2 := HX2.out.cell 2 _ rfl; clear hb2)
      | (go_at_call 18; refine (lastCalls p l f rs _ (H.out.below HB2.out)).mono ?_; rintro e w3 ⟨rfl, rfl⟩)
      | (go_at_call 14; refine (openCalls p l f rs _ (H.out.below HB2.out)).mono ?_; rintro e w4 ⟨v4, rfl, hR4, hb4⟩; rw [HO.out] at hR4; obtain ⟨A4, c4, rfl⟩ := Kd.R_slice hR4; have HR4 := Aside0.mk (Kd.R_reads' hR4); have HB4 := Aside0.mk (HB2.out.trans (hb4.mono HB2.out.size)); have HX4 := Aside0.mk (HX2.out.belowSize hb4); have z0 := HX4.out.cell 0 _ rfl; have z1 := HX4.out.cell 1 _ rfl; have z2 := HX4.out.cell 2 _ rfl; clear hR4 hb4)
      | (go_at_call 19; refine (PClockPlays.vellumref06_Same.calls _ _ c4 os A c os true _ HR4.out.2.2 HR4.out.2.1 (Kd.C_below HC.out HB4.out) HcL.out HS.out).mono ?_; rintro e w5 ⟨rfl, ⟨nd5, rfl⟩⟩))
  have HB5 := Aside0.mk (pw_below_drewN HB4.out nd5)
  go_wp2
  go_ret
  exact ⟨rfl, HB5.out⟩

set_option maxHeartbeats 1600000 in
theorem awakeCalls (w : World) : Calls Try.prog 10 #[] w fun e w' => e = .returned (.bool true) ∧ Below w.heap.size w w' := by
  go_enter Try.func10, Try.ntmps10
  go_wp2_with fail
  refine (newCalls 7 (by decide) (by decide) _).mono ?_
  rintro e w1 ⟨rfl, ha, hb⟩
  have HA := Aside0.mk ha
  have HB := Aside0.mk hb
  clear ha hb
  go_wp2_with fail
  refine (takeOk _ 7 7 _ _ HA.out (by decide) (by decide)).mono ?_
  rintro e w2 ⟨rfl, ha2, ho2⟩
  have HA2 := Aside0.mk ha2
  have HB2 : Aside0 (Below w.heap.size w w2) := ⟨HB.out.trans (ho2.below (fun i (e : i = w.heap.size) => Nat.le_of_eq e.symm) HB.out.size)⟩
  clear ha2 ho2 HA HB
  go_wp2_with fail
  refine (frontierCalls _ _ _ _ _ HA2.out).mono ?_
  rintro e w3 ⟨rfl, rfl⟩
  go_wp2
  go_ret
  exact ⟨rfl, HB2.out⟩
end Go.Proofs.Ytmbekkndjkegdaa.Clock
