/- Layer 10's readers: raise. -/
import Derived.Test.YtohpcifpnfomnaaSnapE
import Derived.Deep.CutBlock
import Derived.Deep.DeepCutAuto
namespace Go.Proofs.Ytohpcifpnfomnaa.Snap
set_option linter.unusedVariables false
set_option linter.unusedSimpArgs false
open Go.RowKit Go.Proofs.YtohpcifpnfomnaaW.PrintWords Go.Proofs.Ytohpcifpnfomnaa.Kit Go.MuLone Go.Proofs.YtohpcifpnfomnaaW.PrintMore
attribute [local go_sem] max2_int min2_int max_two min_two

/-- Up to where the floor is raised. -/
def capM (x : Int) : Int := if 4611686018427387904 < x then 4611686018427387904 else x
def capL (s : Int × Bool) (x : Int) : Int := cond s.2 (if s.1 < x then s.1 else x) x
def upTo (fl x : Int) : Int := if fl < x then x else fl

theorem upTo_ge (fl x : Int) (h : 0 ≤ fl) : 0 ≤ upTo fl x := by unfold upTo; split <;> omega
theorem upTo_le (fl x M : Int) (h : fl ≤ M) (k : x ≤ M) : upTo fl x ≤ M := by unfold upTo; split <;> omega
set_option maxRecDepth 100000 in
set_option maxHeartbeats 1600000 in
theorem raiseCalls (p : Nat) (st fl x : Int) (rs : List Int) (w : World) (h : Sn w p st fl rs) (hx : 0 ≤ x) :
    Calls Try.prog 24 #[.pointer (some ⟨p, 0, none⟩), .int .u64 x] w fun e w' => e = .returned (.int .u64 (upTo fl (capL (leastTo rs 256) (capM x)))) ∧ Sn w' p st (upTo fl (capL (leastTo rs 256) (capM x))) rs ∧ Only (fun i => i = p) w w' := by
  have H := Aside0.mk h
  have HC := Aside0.mk (leastCalls p st fl rs w h)
  have hM : capM x ≤ 4611686018427387904 := by unfold capM; split <;> omega
  have hcap : (if 4611686018427387904 < x then 4611686018427387904 else x) = capM x := rfl
  clear h
  generalize leastTo rs 256 = ls at *
  obtain ⟨l, sm⟩ := ls
  simp only at HC
  cases sm with
  | false =>
    have HTN : Aside0 (capM x ≤ 4611686018427387904) := ⟨hM⟩
    simp only [capL, cond_false]
    go_enter Try.func24, Try.ntmps24
    go_wp2_with fail
    refine HC.out.mono ?_
    rintro e w' ⟨rfl, rfl⟩
    go_upto_region 5 with (fail)
    have HW : Aside0 (Sn w.drew p st fl rs) := ⟨H.out.below ((Below.refl _ w).drew)⟩
    have HLd := Aside0.mk (u64Load p 3 fl w.drew HW.out.c3)
    have HSt := Aside0.mk (u64Store p 3 (upTo fl (capM x)) fl w.drew HW.out.c3 (HW.out.row.free 3))
    have hup : (if fl < capM x then capM x else fl) = upTo fl (capM x) := rfl
    go_region_with (first
      | (go_at_call 23; refine (HLd.out).mono ?_; rintro e w1 ⟨rfl, rfl⟩)
      | (go_at_call 17; refine (HSt.out).mono ?_; rintro e w2 ⟨rfl, hw2⟩))
    have HS : Aside0 (Sn w2 p st (upTo fl (capM x)) rs) := ⟨⟨by rw [← hw2]; exact HW.out.row.put 3 _, H.out.len, upTo_ge _ _ H.out.f0, upTo_le _ _ _ H.out.fM HTN.out, H.out.r0⟩⟩
    have HO : Aside0 (Only (fun i => i = p) w w2) := ⟨by rw [← hw2]; exact Only.setCell (S := fun i => i = p) (Only.refl _ w).drew (p := ⟨p, 3, none⟩) (Or.inl rfl) _⟩
    have HL2 := Aside0.mk (u64Load p 3 _ w2 HS.out.c3)
    clear hw2 HW HLd HSt hup H
    go_wp2_with fail
    refine HL2.out.mono ?_
    rintro e w3 ⟨rfl, rfl⟩
    go_wp2
    go_ret
    exact ⟨rfl, HS.out, HO.out⟩
  | true =>
    simp only [capL, cond_true]
    have htn : (if l < capM x then l else capM x) ≤ 4611686018427387904 := by split <;> omega
    obtain ⟨tn, hcl⟩ : ∃ tn, (if l < capM x then l else capM x) = tn := ⟨_, rfl⟩
    rw [hcl] at htn
    rw [hcl]
    have HTN : Aside0 (tn ≤ 4611686018427387904) := ⟨htn⟩
    go_enter Try.func24, Try.ntmps24
    go_wp2_with fail
    refine HC.out.mono ?_
    rintro e w' ⟨rfl, rfl⟩
    go_upto_region 5 with (fail)
    have HW : Aside0 (Sn w.drew p st fl rs) := ⟨H.out.below ((Below.refl _ w).drew)⟩
    have HLd := Aside0.mk (u64Load p 3 fl w.drew HW.out.c3)
    have HSt := Aside0.mk (u64Store p 3 (upTo fl (tn)) fl w.drew HW.out.c3 (HW.out.row.free 3))
    have hup : (if fl < tn then tn else fl) = upTo fl (tn) := rfl
    go_region_with (first
      | (go_at_call 23; refine (HLd.out).mono ?_; rintro e w1 ⟨rfl, rfl⟩)
      | (go_at_call 17; refine (HSt.out).mono ?_; rintro e w2 ⟨rfl, hw2⟩))
    have HS : Aside0 (Sn w2 p st (upTo fl (tn)) rs) := ⟨⟨by rw [← hw2]; exact HW.out.row.put 3 _, H.out.len, upTo_ge _ _ H.out.f0, upTo_le _ _ _ H.out.fM HTN.out, H.out.r0⟩⟩
    have HO : Aside0 (Only (fun i => i = p) w w2) := ⟨by rw [← hw2]; exact Only.setCell (S := fun i => i = p) (Only.refl _ w).drew (p := ⟨p, 3, none⟩) (Or.inl rfl) _⟩
    have HL2 := Aside0.mk (u64Load p 3 _ w2 HS.out.c3)
    clear hw2 HW HLd HSt hup H
    go_wp2_with fail
    refine HL2.out.mono ?_
    rintro e w3 ⟨rfl, rfl⟩
    go_wp2
    go_ret
    exact ⟨rfl, HS.out, HO.out⟩
end Go.Proofs.Ytohpcifpnfomnaa.Snap
