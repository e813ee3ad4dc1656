/- The walk of the law SnapMakes. -/
import Derived.Test.YtohpcifpnfomnaaSnapJ
import Derived.Test.YtohpcifpnfomnaaOpen
import Derived.Deep.CutBlock
import Derived.Deep.DeepCutAuto
namespace Go.Proofs.Ytohpcifpnfomnaa.Snap
set_option linter.unusedVariables false
set_option linter.unusedSimpArgs false
open Go.RowKit Go.Proofs.YtohpcifpnfomnaaW.PrintWords Go.Proofs.Ytohpcifpnfomnaa.Kit Go.MuLone

theorem u64_range {x : Int} (h : (Lit.int .u64 x).wf = true) : 0 ≤ x ∧ x < 18446744073709551616 := by
  simp [Lit.wf, IntKind.min, IntKind.max, IntKind.signed, IntKind.bits] at h
  omega
theorem zeroM (W : World) : (zeroValue TM).run Try.prog W = .ok (.agg #[.int .u64 0, .slice none 0 0]) W := by kernel_rfl
/-- Readers in memory, at a block of the law's own. -/
structure Cl (w0 w : World) (p : Nat) (fl : Int) (rs : List Int) : Prop where
  sn : Sn w p 0 fl rs
  hp : w0.heap.size ≤ p
  below : Below w0.heap.size w0 w
theorem Cl.belowed {w0 w w' : World} {p : Nat} {fl : Int} {rs : List Int} (h : Cl w0 w p fl rs) (hb : Below w.heap.size w w') : Cl w0 w' p fl rs := ⟨h.sn.below hb, h.hp, h.below.trans (hb.mono h.below.size)⟩
theorem Cl.turned {w0 w w' : World} {p : Nat} {fl fl' : Int} {rs rs' : List Int} (h : Cl w0 w p fl rs) (hk : Sn w' p 0 fl' rs') (ho : Only (fun i => i = p) w w') : Cl w0 w' p fl' rs' :=
  ⟨hk, h.hp, h.below.trans (ho.below (fun i e => by have := h.hp; omega) h.below.size)⟩

set_option maxRecDepth 100000 in
set_option maxHeartbeats 4000000 in
theorem snapMakes_walk (l : Int) (w : World) (h0 : 0 ≤ l) :
    Calls Try.prog 5 #[.int .u64 l] w fun e w' => e = .returned (.bool true) ∧ Below w.heap.size w w' := by
  have hz := zeroM
  by_cases hl : l ≤ 4611686018427387904
  · have HN := Aside0.mk (refNew l hl)
    have HP := Aside0.mk (newCalls l h0 hl w)
    have HZ := Aside0.mk rds_zeros
    generalize zeros = rs0 at *
    go_enter Try.func5, Try.ntmps5
    go_wp2_with fail
    refine HP.out.mono ?_
    rintro e w1 ⟨rfl, ha, hb⟩
    have HA1 : Aside0 (Cl w w1 w.heap.size l rs0) := ⟨⟨ha, Nat.le_refl _, hb⟩⟩
    clear ha hb HP
    go_wp2_with fail
    refine (PSnapPlays.vellumref10_New.calls l l [] 0 w1 HN.out).mono ?_
    rintro e w2 ⟨v2, rfl, hR2, hb2⟩
    obtain ⟨A2, c2, rfl⟩ := Kd.R_slice hR2
    have HA2 := Aside0.mk (HA1.out.belowed hb2)
    have HR2 := Aside0.mk hR2
    clear hR2 hb2 HA1
    go_upto_region 3 with (fail)
    obtain ⟨W, hW⟩ : ∃ W, W = w2.alloc (.cells #[.int .u64 l, .slice A2 0 c2] TM) := ⟨_, rfl⟩
    have hb3 : Below w2.heap.size w2 W := by rw [hW]; exact (Below.refl _ _).alloc (Nat.le_refl _) _
    have HX : Aside0 (Blk W w2.heap.size [.int .u64 l, .slice A2 0 c2] TM) := ⟨by rw [hW]; exact Blk.newA w2 _ _⟩
    have HA3 := Aside0.mk (HA2.out.belowed hb3)
    have HR3 := Aside0.mk (Kd.R_below HR2.out hb3)
    have HI := Aside0.mk (isLaw w.heap.size l rs0 [] A2 c2 _ W HA3.out.sn HZ.out HR3.out)
    rw [← hW]
    clear hW hb3 HA2 HR2 HR3
    have x0 := HX.out.cell 0 _ rfl
    have x1 := HX.out.cell 1 _ rfl
    go_wp2_with fail
    refine HI.out.mono ?_
    rintro e w4 ⟨rfl, ha4, ho4⟩
    have HA4 := Aside0.mk (HA3.out.turned ha4 ho4)
    clear ha4 ho4 HA3 HX HI x0 x1
    go_wp2_with fail
    refine (awakeCalls _).mono ?_
    rintro e w5 ⟨rfl, hb5⟩
    have HB5 := Aside0.mk (HA4.out.belowed hb5).below
    clear hb5 HA4
    go_wp2
    go_ret
    exact ⟨rfl, HB5.out⟩
  · have HN := Aside0.mk (refNewArg l (by omega))
    go_enter Try.func5, Try.ntmps5
    go_wp2_with fail
    refine (newArg l (by omega) _).mono ?_
    rintro e w1 ⟨rfl, rfl⟩
    go_wp2_with fail
    refine (PSnapPlays.vellumref10_New.calls l 0 [] 1 w HN.out).mono ?_
    rintro e w2 ⟨v2, rfl, hR2, hb2⟩
    obtain ⟨A2, c2, rfl⟩ := Kd.R_slice hR2
    have HB2 := Aside0.mk hb2
    clear hR2 hb2
    go_wp2_with fail
    have HB3 : Aside0 (Below w.heap.size w (w2.alloc (.cells #[.int .u64 0, .slice A2 0 c2] TM))) := ⟨HB2.out.alloc HB2.out.size _⟩
    refine (awakeCalls _).mono ?_
    rintro e w3 ⟨rfl, hb3⟩
    have HB4 := Aside0.mk (HB3.out.trans (hb3.mono HB3.out.size))
    clear hb3 HB3
    go_wp2
    go_ret
    exact ⟨rfl, HB4.out⟩
end Go.Proofs.Ytohpcifpnfomnaa.Snap
