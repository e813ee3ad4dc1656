/- The law's own helpers over layer 10: is, awake; each call beside the document's. -/
import Derived.Test.YtohpcifpnfomnaaSnapI
import Derived.Deep.RegionHeld3
namespace Go.Proofs.Ytohpcifpnfomnaa.Snap
set_option linter.unusedVariables false
set_option linter.unusedSimpArgs false
open Go.RowKit Go.Proofs.YtohpcifpnfomnaaW.PrintWords Go.Proofs.Ytohpcifpnfomnaa.Kit Go.MuLone

abbrev TM : TypeId := 43
abbrev MR (w : World) (base : Nat) (s : Value) (vs : List RS) : Prop := rk.R TR w base (fun _ => True) s vs

/-! each call, by both -/
theorem enterBoth (p : Nat) (fl s : Int) (rs : List Int) (hs : 0 ≤ s) (hf0 : 0 ≤ fl) (hl : rs.length = 256) (hr : ∀ i : Nat, i < 256 → 0 ≤ rd rs (i : Int)) :
    ∃ (r en : Int) (rs' : List Int), PSnapPlays.vellumref10_Enter.f 257 fl (rds rs) s = some (fl, rds rs', r, en) ∧
      ∀ w, Sn w p 0 fl rs → Calls Try.prog 8 #[.pointer (some ⟨p, 0, none⟩), .int .u64 s] w fun e w' => e = .returned (.tuple #[.int .i64 r, .int .i64 en]) ∧ Sn w' p 0 fl rs' ∧ Only (fun i => i = p) w w' := by
  by_cases h1 : 4611686018427387904 < s
  · refine ⟨0, 1, rs, ?_, fun w h => enterGen p fl s 0 1 rs rs w h ⟨fun W hW => (enterArg p s W h1).mono fun e w' ⟨he, hw⟩ => ⟨he, hw ▸ hW, hw ▸ Only.refl _ _⟩⟩⟩
    unfold PSnapPlays.vellumref10_Enter.f
    rw [if_pos (show s > 4611686018427387904 from h1)]
  · by_cases h2 : s < fl
    · refine ⟨0, 101, rs, ?_, fun w h => enterGen p fl s 0 101 rs rs w h ⟨fun W hW => (enterLow p 1 fl s rs W hW h2).mono fun e w' ⟨he, hw⟩ => ⟨he, hw ▸ hW, hw ▸ Only.refl _ _⟩⟩⟩
      unfold PSnapPlays.vellumref10_Enter.f
      rw [if_neg (show ¬ s > 4611686018427387904 from h1), if_pos h2]
    · rcases firstFree rs 256 with hf | ⟨q, hq, hz, hf⟩
      · exact ⟨0, 2, rs, refEnter_full rs fl s hl hr (by omega) (by omega) hf, fun w h => enterGen p fl s 0 2 rs rs w h ⟨fun W hW => (enterFull p 1 fl s rs W hW (by omega) (by omega) hf).mono fun e w' ⟨he, hw⟩ => ⟨he, hw ▸ hW, hw ▸ Only.refl _ _⟩⟩⟩
      · exact ⟨q, 0, rs.set q (s + 1), refEnter_hit rs fl s q hl hr (by omega) (by omega) hs hq hz hf, fun w h => enterGen p fl s q 0 rs _ w h ⟨fun W hW => enterHit p 1 fl s rs q W hW (by omega) (by omega) hq hz hf⟩⟩
theorem leaveBoth (p : Nat) (fl s : Int) (rs : List Int) (hl : rs.length = 256) (hr : ∀ i : Nat, i < 256 → 0 ≤ rd rs (i : Int)) :
    ∃ (en : Int) (rs' : List Int), PSnapPlays.vellumref10_Leave.f 257 fl (rds rs) s = some (fl, rds rs', en) ∧
      ∀ w, Sn w p 0 fl rs → Calls Try.prog 9 #[.pointer (some ⟨p, 0, none⟩), .int .i64 s] w fun e w' => e = .returned (.int .i64 en) ∧ Sn w' p 0 fl rs' ∧ Only (fun i => i = p) w w' := by
  by_cases h : s < 0 ∨ 256 ≤ s
  · exact ⟨100, rs, refLeave_out rs fl s hl h, fun w hw => leaveGen p fl s 100 rs rs w hw ⟨fun W hW => (leaveOut p s W h).mono fun e w' ⟨he, hw⟩ => ⟨he, hw ▸ hW, hw ▸ Only.refl _ _⟩⟩⟩
  · obtain ⟨q, rfl⟩ : ∃ q : Nat, s = q := ⟨s.toNat, by omega⟩
    have hq : q < 256 := by omega
    exact ⟨_, rs.set q 0, refLeave_in rs fl q hl hq (hr q hq), fun w hw => leaveGen p fl q _ rs _ w hw ⟨fun W hW => leaveIn p 1 fl rs q W hW hq⟩⟩

set_option maxRecDepth 100000 in
set_option maxHeartbeats 4000000 in
theorem isLaw (p : Nat) (fl : Int) (rs : List Int) (os : List RS) (A : Option Addr) (c base : Nat) (w : World) (h : Sn w p 0 fl rs) (ho : rds rs = os) (hR : MR w base (.slice A os.length c) os) :
    Calls Try.prog 15 #[.pointer (some ⟨p, 0, none⟩), .agg #[.int .u64 fl, .slice A os.length c]] w fun e w' => e = .returned (.bool true) ∧ Sn w' p 0 fl rs ∧ Only (fun i => i = p) w w' := by
  have HLen : Aside0 (os.length ≤ 256) := ⟨by rw [← ho]; have := rds_len rs; rw [h.len] at this; exact this⟩
  have HLe : Aside0 (PSnapPlays.vellumref10_Least.f 257 fl os = some (leastTo rs 256)) := ⟨by rw [← ho]; exact refLeast rs fl h.len⟩
  have HS := Aside0.mk (refSame os HLen.out)
  have HO := Aside0.mk ho
  have hpl : p < w.heap.size := h.row.lt
  obtain ⟨W, hW⟩ : ∃ W, W = w.alloc (.cells #[.int .u64 fl, .slice A os.length c] TM) := ⟨_, rfl⟩
  have hb0 : Below w.heap.size w W := by rw [hW]; exact (Below.refl _ _).alloc (Nat.le_refl _) _
  have HX : Aside0 (Blk W w.heap.size [.int .u64 fl, .slice A os.length c] TM) := ⟨by rw [hW]; exact Blk.newA w _ _⟩
  have HB0 := Aside0.mk hb0
  have H := Aside0.mk (h.below hb0)
  have HR := Aside0.mk (Kd.R_below hR hb0)
  have HLst : Aside0 (∀ W, Sn W p 0 fl rs → Calls Try.prog 25 #[.pointer (some ⟨p, 0, none⟩)] W fun e w' => e = .returned (.tuple #[.int .u64 (leastTo rs 256).1, .bool (leastTo rs 256).2]) ∧ Sn w' p 0 fl rs ∧ Only (fun i => i = p) W w') := ⟨fun W hW => lleastCalls p fl rs W hW⟩
  clear h hR ho hb0
  generalize leastTo rs 256 = ls at *
  obtain ⟨l, sm⟩ := ls
  simp only at HLst
  go_enter Try.func15, Try.ntmps15
  go_wp2_with fail
  rw [← hW]
  clear hW
  refine (HLst.out W H.out).mono ?_
  rintro e w1 ⟨rfl, h1, ho1⟩
  have H1 := Aside0.mk h1
  have HX1 := Aside0.mk (ho1.blk HX.out (by omega))
  have HR1 := Aside0.mk (ho1.Rt H.out.row (by decide) HR.out)
  have HO1 : Aside0 (Only (fun i => i = p) w w1) := ⟨(Only.ofBelow HB0.out).trans ho1⟩
  clear h1 ho1 HX HR HB0 H HLst
  have x0 := HX1.out.cell 0 _ rfl
  have x1 := HX1.out.cell 1 _ rfl
  go_wp2_with fail
  refine (PSnapPlays.vellumref10_Least.calls 257 fl A c os l sm _ (Kd.R_reads' HR1.out).2.2 (Kd.R_reads' HR1.out).2.1 HLe.out).mono ?_
  rintro e w2 ⟨rfl, hb2⟩
  have H2 := Aside0.mk (H1.out.below hb2)
  have HX2 := Aside0.mk (HX1.out.belowSize hb2)
  have HR2 := Aside0.mk (Kd.R_below HR1.out hb2)
  have HO2 : Aside0 (Only (fun i => i = p) w w2) := ⟨HO1.out.trans (Only.ofBelow hb2)⟩
  clear hb2 H1 HX1 HR1 HO1 x0 x1
  have y0 := HX2.out.cell 0 _ rfl
  have y1 := HX2.out.cell 1 _ rfl
  have HD2 := Aside0.mk (H2.out.below ((Below.refl _ w2).drew))
  have HF := Aside0.mk (floorCalls p 0 fl rs _ HD2.out)
  have HRd := Aside0.mk (readersCalls p fl rs _ HD2.out)
  go_upto_region 3 with (fail)
  go_region_held3 (fun w' => w'.cell? ⟨w.heap.size, 0, none⟩ = some (.int .u64 fl) ∧ w'.cell? ⟨w.heap.size, 1, none⟩ = some (.slice A os.length c)) (first | exact ⟨‹_›, ‹_›⟩ | (simp; exact ⟨‹_›, ‹_›⟩))
    (first
      | (go_at_call 12; refine (HF.out).mono ?_; rintro e w3 ⟨rfl, rfl⟩)
      | (go_at_call 10; refine (HRd.out).mono ?_; rintro e w4 ⟨v4, rfl, hR4, h4, ho4⟩; rw [HO.out] at hR4; obtain ⟨A4, c4, rfl⟩ := Kd.R_slice hR4; have HR4 := Aside0.mk (Kd.R_reads' hR4); have H4 := Aside0.mk h4; have HO4 := Aside0.mk (HO2.out.drew.trans ho4); have HX4 := Aside0.mk (ho4.blk (HX2.out.drew) (by omega)); have HR5 := Aside0.mk (Kd.R_reads' (ho4.Rt HD2.out.row (by decide) (Kd.R_below HR2.out ((Below.refl _ w2).drew)))); have z0 := HX4.out.cell 0 _ rfl; have z1 := HX4.out.cell 1 _ rfl; clear hR4 h4 ho4)
      | (go_at_call 27; refine (PSnapPlays.vellumref10_Same.calls 257 _ c4 os A c os true _ HR4.out.2.2 HR4.out.2.1 HR5.out.2.2 HR5.out.2.1 HS.out).mono ?_; rintro e w5 ⟨rfl, ⟨nd5, rfl⟩⟩))
  have H5 := Aside0.mk (H4.out.below (pw_below_drewN (Below.refl _ _) nd5))
  have HO5 := Aside0.mk (HO4.out.drewN nd5)
  go_wp2
  go_ret
  exact ⟨rfl, H5.out, HO5.out⟩

theorem least1 : leastTo (zeros.set 0 (9 + 1)) 256 = (9, true) := by decide +kernel
theorem least2 : leastTo ((zeros.set 0 (9 + 1)).set 0 0) 256 = (0, false) := by decide +kernel
theorem raise1 : upTo 5 (capL (leastTo (zeros.set 0 (9 + 1)) 256) (capM 20)) = 9 := by rw [least1]; decide
theorem raise2 : upTo 9 (capL (leastTo ((zeros.set 0 (9 + 1)).set 0 0) 256) (capM 20)) = 20 := by rw [least2]; decide
theorem leave1 : (if rd (zeros.set 0 (9 + 1)) ((0 : Nat) : Int) = 0 then 100 else 0) = (0 : Int) := by decide +kernel
set_option maxRecDepth 100000 in
set_option maxHeartbeats 4000000 in
theorem awakeCalls (w : World) : Calls Try.prog 13 #[] w fun e w' => e = .returned (.bool true) ∧ Below w.heap.size w w' := by
  have HE : Aside0 (∀ W, Sn W w.heap.size 0 5 zeros → Calls Try.prog 8 #[.pointer (some ⟨w.heap.size, 0, none⟩), .int .u64 9] W fun e w' => e = .returned (.tuple #[.int .i64 0, .int .i64 0]) ∧ Sn w' w.heap.size 0 5 (zeros.set 0 (9 + 1)) ∧ Only (fun i => i = w.heap.size) W w') :=
    ⟨fun W hW => enterGen w.heap.size 5 9 0 0 _ _ W hW ⟨fun W hW => enterHit w.heap.size 1 5 9 zeros 0 W hW (by decide) (by decide) (by decide) (zeros_rd _) (fun i hi => by omega)⟩⟩
  have HR1 : Aside0 (∀ W, Sn W w.heap.size 0 5 (zeros.set 0 (9 + 1)) → Calls Try.prog 11 #[.pointer (some ⟨w.heap.size, 0, none⟩), .int .u64 20] W fun e w' => e = .returned (.int .u64 9) ∧ Sn w' w.heap.size 0 9 (zeros.set 0 (9 + 1)) ∧ Only (fun i => i = w.heap.size) W w') :=
    ⟨fun W hW => by have := lraiseCalls w.heap.size 5 20 _ W hW (by decide); rw [raise1] at this; exact this⟩
  have HLv : Aside0 (∀ W, Sn W w.heap.size 0 9 (zeros.set 0 (9 + 1)) → Calls Try.prog 9 #[.pointer (some ⟨w.heap.size, 0, none⟩), .int .i64 0] W fun e w' => e = .returned (.int .i64 0) ∧ Sn w' w.heap.size 0 9 ((zeros.set 0 (9 + 1)).set 0 0) ∧ Only (fun i => i = w.heap.size) W w') :=
    ⟨fun W hW => leaveGen w.heap.size 9 0 0 _ _ W hW ⟨fun W hW => by have := leaveIn w.heap.size 1 9 _ 0 W hW (by decide); rw [leave1] at this; exact this⟩⟩
  have HR2 : Aside0 (∀ W, Sn W w.heap.size 0 9 ((zeros.set 0 (9 + 1)).set 0 0) → Calls Try.prog 11 #[.pointer (some ⟨w.heap.size, 0, none⟩), .int .u64 20] W fun e w' => e = .returned (.int .u64 20) ∧ Sn w' w.heap.size 0 20 ((zeros.set 0 (9 + 1)).set 0 0) ∧ Only (fun i => i = w.heap.size) W w') :=
    ⟨fun W hW => by have := lraiseCalls w.heap.size 9 20 _ W hW (by decide); rw [raise2] at this; exact this⟩
  have HN := Aside0.mk (newCalls 5 (by decide) (by decide) w)
  generalize (zeros.set 0 (9 + 1)).set 0 0 = rs2 at *
  generalize zeros.set 0 (9 + 1) = rs1 at *
  generalize zeros = rs0 at *
  go_enter Try.func13, Try.ntmps13
  go_wp2_with fail
  refine HN.out.mono ?_
  rintro e w1 ⟨rfl, ha, hb⟩
  have HA := Aside0.mk ha
  have HB := Aside0.mk hb
  clear ha hb HN
  go_wp2_with fail
  refine (HE.out _ HA.out).mono ?_
  rintro e w2 ⟨rfl, ha2, ho2⟩
  have HA2 := Aside0.mk ha2
  have HB2 : Aside0 (Below w.heap.size w w2) := ⟨HB.out.trans (ho2.below (fun i (e : i = w.heap.size) => Nat.le_of_eq e.symm) HB.out.size)⟩
  clear ha2 ho2 HA HB HE
  go_wp2_with fail
  refine (HR1.out _ HA2.out).mono ?_
  rintro e w3 ⟨rfl, ha3, ho3⟩
  have HA3 := Aside0.mk ha3
  have HB3 : Aside0 (Below w.heap.size w w3) := ⟨HB2.out.trans (ho3.below (fun i (e : i = w.heap.size) => Nat.le_of_eq e.symm) HB2.out.size)⟩
  clear ha3 ho3 HA2 HB2 HR1
  go_wp2_with fail
  refine (HLv.out _ HA3.out).mono ?_
  rintro e w4 ⟨rfl, ha4, ho4⟩
  have HA4 := Aside0.mk ha4
  have HB4 : Aside0 (Below w.heap.size w w4) := ⟨HB3.out.trans (ho4.below (fun i (e : i = w.heap.size) => Nat.le_of_eq e.symm) HB3.out.size)⟩
  clear ha4 ho4 HA3 HB3 HLv
  go_wp2_with fail
  refine (HR2.out _ HA4.out).mono ?_
  rintro e w5 ⟨rfl, ha5, ho5⟩
  have HB5 : Aside0 (Below w.heap.size w w5) := ⟨HB4.out.trans (ho5.below (fun i (e : i = w.heap.size) => Nat.le_of_eq e.symm) HB4.out.size)⟩
  clear ha5 ho5 HA4 HB4 HR2
  go_wp2
  go_ret
  exact ⟨rfl, HB5.out⟩
end Go.Proofs.Ytohpcifpnfomnaa.Snap
