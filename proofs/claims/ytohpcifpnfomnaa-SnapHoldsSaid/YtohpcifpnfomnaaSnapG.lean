/- Layer 10's readers: Raise under the lock. -/
import Derived.Test.YtohpcifpnfomnaaSnapF
namespace Go.Proofs.Ytohpcifpnfomnaa.Snap
set_option linter.unusedVariables false
set_option linter.unusedSimpArgs false
open Go.RowKit Go.Proofs.YtohpcifpnfomnaaW.PrintWords Go.Proofs.Ytohpcifpnfomnaa.Kit Go.MuLone

set_option maxRecDepth 100000 in
set_option maxHeartbeats 1600000 in
theorem lraiseCalls (p : Nat) (fl s : Int) (rs : List Int) (w : World) (h : Sn w p 0 fl rs) (hs0 : 0 ≤ s) :
    Calls Try.prog 11 #[.pointer (some ⟨p, 0, none⟩), .int .u64 s] w fun e w' => e = .returned (.int .u64 (upTo fl (capL (leastTo rs 256) (capM s)))) ∧ Sn w' p 0 (upTo fl (capL (leastTo rs 256) (capM s))) rs ∧ Only (fun i => i = p) w w' := by
  have HI := Aside0.mk (isCalls p 0 fl rs w h)
  have H := Aside0.mk h
  clear h
  go_enter_defers Try.func11, Try.ntmps11
  go_wp2_with fail
  refine HI.out.mono ?_
  rintro e w' ⟨rfl, rfl⟩
  go_wp2_with fail
  refine (lock_free muLib ⟨p, 1, none⟩ w H.out.c1 (H.out.row.free 1)).mono ?_
  rintro e w1 ⟨rfl, hw1⟩
  have H1 : Aside0 (Sn w1 p 1 fl rs) := ⟨by rw [hw1]; exact H.out.lock 1⟩
  have HO1 : Aside0 (Only (fun i => i = p) w w1) := ⟨by rw [hw1]; exact lockOnly w p _⟩
  clear hw1 H HI
  go_wp2_with fail
  refine (raiseCalls p 1 fl s rs w1 H1.out hs0).mono ?_
  rintro e w2 ⟨rfl, h2, ho2⟩
  have H2 := Aside0.mk h2
  have HO2 := Aside0.mk (HO1.out.trans ho2)
  clear h2 ho2 H1 HO1
  go_wp2_with fail
  refine leaves_cons (f := 20) (args := #[.pointer (some ⟨p, 1, none⟩)]) (by simp) (by simp [go_sem]) ?_
  refine (unlock_deferred muLib ⟨p, 1, none⟩ .returning _ H2.out.c1 (H2.out.row.free 1)).mono ?_
  rintro e u' w3 ⟨rfl, rfl, hw3⟩
  have H3 : Aside0 (Sn w3 p 0 (upTo fl (capL (leastTo rs 256) (capM s))) rs) := ⟨by rw [hw3]; exact H2.out.lock 0⟩
  have HO3 : Aside0 (Only (fun i => i = p) w w3) := ⟨by rw [hw3]; exact HO2.out.trans (lockOnly w2 p _)⟩
  clear hw3 H2 HO2
  exact ⟨_, results_tmp rfl _ _ _, rfl, H3.out, HO3.out⟩
end Go.Proofs.Ytohpcifpnfomnaa.Snap
