/- The walk of the law TallySizes. -/
import Derived.Test.YtipgbkbkpheioaaTallyK
import Derived.Test.YtipgbkbkpheioaaTallyQ
import Derived.Test.YtipgbkbkpheioaaOpen
namespace Go.Proofs.Ytipgbkbkpheioaa.Tally
set_option linter.unusedVariables false
set_option linter.unusedSimpArgs false
open Go.RowKit Go.Proofs.YtipgbkbkpheioaaW.PrintWords Go.Proofs.Ytipgbkbkpheioaa.Kit

theorem u64s_opens : Opens Try.prog 39 (Kd.slice 43 (Kd.int .u64)) (fun xs => xs.length * 8 ≤ 140737488351232 ∧ ∀ x ∈ xs, (Lit.int .u64 x).wf = true) :=
  opens_slice Try.underlying39 (by kernel_rfl) 8 (by kernel_rfl) (opens_int .u64 Try.underlying43)
theorem u64_range {x : Int} (h : (Lit.int .u64 x).wf = true) : 0 ≤ x ∧ x < 18446744073709551616 := by
  simp [Lit.wf, IntKind.min, IntKind.max, IntKind.signed, IntKind.bits] at h
  omega

set_option maxHeartbeats 2000000 in
theorem tallySizes_walk (t : Int) (A : Option Addr) (c : Nat) (l : List Int) (w : World) (hC : (Kd.int .u64).C w A l.length l) (hle : l.length ≤ c) (hl : l.length * 8 ≤ 140737488351232) (hr0 : ∀ x ∈ l, (Lit.int .u64 x).wf = true) :
    Calls Try.prog 5 #[.slice A l.length c, .int .i64 t] w fun e w' => e = .returned (.bool true) ∧ Below w.heap.size w w' := by
  have HC := Aside0.mk hC
  have HLe := Aside0.mk hle
  have HR : Aside0 (∀ n ∈ l, 0 ≤ n ∧ n < 18446744073709551616) := ⟨fun n hn => u64_range (hr0 n hn)⟩
  have HBl := Aside0.mk (below_both l HR.out (by omega) t)
  have HCn := Aside0.mk (ref_counts l HR.out (by omega) (l.length + 67) (by omega))
  obtain ⟨m, hm'⟩ : ∃ m, m = l.length := ⟨_, rfl⟩
  have Hm := Aside0.mk hm'
  rw [← hm'] at hl ⊢
  clear hm' hC hle hr0
  go_enter Try.func5, Try.ntmps5
  go_wp2_with fail
  refine (newHist _).mono ?_
  rintro e w1 ⟨rfl, hh, hb⟩
  have Hh : Aside0 (Hist w1 w.heap.size (cnts (l.take 0))) := ⟨⟨hh, by simp [cnts]⟩⟩
  have Hb := Aside0.mk hb
  clear hh hb
  go_wp2_with fail
  go_loopw [6] (fun i wr => ∃ j : Nat, j ≤ m ∧ i = .int .i64 j ∧ Aside0 (Hist wr w.heap.size (cnts (l.take j))) ∧ Aside0 (Below w.heap.size w wr)) (fun i _ => m - (intOf i).toNat)
  case atStart => exact ⟨0, Nat.zero_le _, rfl, Hh, Hb⟩
  case round =>
    clear Hh Hb
    obtain ⟨j, hj, rfl, HH, HB⟩ := hrel
    by_cases hlt : j < m
    · obtain ⟨ad, e, hx⟩ := Kd.at_int HC.out (j : Int) (by omega) (by rw [← Hm.out]; omega)
      subst e
      simp only [Int.toNat_natCast] at hx
      have hx := pw_cell_below HB.out hx
      have hlt' : j < l.length := by rw [← Hm.out]; exact hlt
      have HX := Aside0.mk (HR.out (rd l j) (by simp [rd, hlt']))
      have HT := Aside0.mk (cnts_take l j hlt')
      clear hlt'
      generalize rd l j = x at *
      go_wp2_with fail
      refine (countCalls _ _ x _ HH.out HX.out.1 HX.out.2).mono ?_
      rintro e w2 ⟨rfl, hh, ho⟩
      have HH2 : Aside0 (Hist w2 w.heap.size (cnts (l.take (j + 1)))) := ⟨by rw [HT.out]; exact hh⟩
      have HB2 : Aside0 (Below w.heap.size w w2) := ⟨HB.out.trans (ho.below (fun i e => by omega) HB.out.size)⟩
      clear hh ho HH HB hx
      go_wp2
      go_roundw
      case rel => exact ⟨j + 1, by omega, by go_num, HH2, HB2⟩
      case measure => simp [intOf]; omega
    · have HE : l.take j = l := by rw [List.take_of_length_le]; rw [← Hm.out]; omega
      rw [HE] at HH
      clear HE
      obtain ⟨⟨r1, r2, hr, hbl⟩⟩ := HBl
      have HRf := Aside0.mk hr
      have HBl := Aside0.mk hbl
      clear hr hbl
      go_wp2_with fail
      refine (HBl.out _ _ HH.out).mono ?_
      rintro e w2 ⟨rfl, hb2⟩
      have HH2 := Aside0.mk (HH.out.below hb2)
      have HB2 : Aside0 (Below w.heap.size w w2) := ⟨HB.out.trans (hb2.mono HB.out.size)⟩
      clear HH HB hb2
      have HCa : Aside0 ((Kd.int .u64).C w2 A l.length l) := ⟨Kd.C_below HC.out HB2.out⟩
      go_wp2_with fail
      rw [Hm.out]
      refine (PBelow.vellumref05_Below.calls _ A c l t r1 r2 _ HCa.out HLe.out HRf.out).mono ?_
      rintro e w3 ⟨rfl, hb3⟩
      have HH3 := Aside0.mk (HH2.out.below hb3)
      have HB3 : Aside0 (Below w.heap.size w w3) := ⟨HB2.out.trans (hb3.mono HB2.out.size)⟩
      have HCa3 : Aside0 ((Kd.int .u64).C w3 A l.length l) := ⟨Kd.C_below HC.out HB3.out⟩
      clear HH2 HB2 hb3 HCa
      go_wp2_with fail
      refine (countsCalls _ _ _ HH3.out).mono ?_
      rintro e w4 ⟨v4, rfl, hR4, hb4⟩
      obtain ⟨A4, c4, rfl⟩ := Kd.R_slice hR4
      have HB4 : Aside0 (Below w.heap.size w w4) := ⟨HB3.out.trans (hb4.mono HB3.out.size)⟩
      have HCa4 : Aside0 ((Kd.int .u64).C w4 A l.length l) := ⟨Kd.C_below HC.out HB4.out⟩
      have HR4 := Aside0.mk hR4
      clear HH3 HB3 hb4 HCa3 hR4
      go_wp2_with fail
      refine (PBelow.vellumref05_Counts.calls _ A c l (cnts l) _ HCa4.out HLe.out HCn.out).mono ?_
      rintro e w5 ⟨v5, rfl, hR5, hb5⟩
      obtain ⟨A5, c5, rfl⟩ := Kd.R_slice hR5
      have HB5 : Aside0 (Below w.heap.size w w5) := ⟨HB4.out.trans (hb5.mono HB4.out.size)⟩
      have HRa := Aside0.mk (Kd.R_reads' (Kd.R_below HR4.out hb5))
      have HRb := Aside0.mk (Kd.R_reads' hR5)
      have HSm := Aside0.mk (counts_self (cnts l) (by rw [cnts_len]; omega))
      clear HB4 hb5 HCa4 HR4 hR5
      go_wp2_with fail
      refine (Pcounts.vellumlaw05_counts.calls 66 _ c4 _ _ c5 _ true _ HRa.out.2.2 HRa.out.2.1 HRb.out.2.2 HRb.out.2.1 HSm.out).mono ?_
      rintro e w6 ⟨rfl, ⟨nd, rfl⟩⟩
      have HB6 := Aside0.mk (pw_below_drewN HB5.out nd)
      generalize w5.drewN nd = w6 at *
      clear HRa HRb HB5 HSm
      go_wp2_with fail
      refine (awakeCalls _).mono ?_
      rintro e w7 ⟨rfl, hb7⟩
      have HB7 : Aside0 (Below w.heap.size w w7) := ⟨HB6.out.trans (hb7.mono HB6.out.size)⟩
      clear hb7 HB6
      go_wp2
      go_ret
      exact ⟨rfl, HB7.out⟩
end Go.Proofs.Ytipgbkbkpheioaa.Tally
