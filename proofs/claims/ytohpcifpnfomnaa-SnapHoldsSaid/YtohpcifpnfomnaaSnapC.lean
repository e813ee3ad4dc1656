/- Layer 10's readers: the calls that hold the lock. -/
import Derived.Test.YtohpcifpnfomnaaSnapB
namespace Go.Proofs.Ytohpcifpnfomnaa.Snap
set_option linter.unusedVariables false
set_option linter.unusedSimpArgs false
open Go.RowKit Go.Proofs.YtohpcifpnfomnaaW.PrintWords Go.Proofs.Ytohpcifpnfomnaa.Kit Go.MuLone

theorem Sn.lock {w : World} {p : Nat} {st fl : Int} {rs : List Int} (h : Sn w p st fl rs) (st' : Int) : Sn (w.setCell ⟨p, 1, none⟩ (.int .i32 st')) p st' fl rs := ⟨h.row.put 1 (.int .i32 st'), h.len, h.f0, h.fM, h.r0⟩
theorem lockOnly (w : World) (p : Nat) (v : Value) : Only (fun i => i = p) w (w.setCell ⟨p, 1, none⟩ v) := Only.setCell (S := fun i => i = p) (Only.refl _ w) (p := ⟨p, 1, none⟩) (Or.inl rfl) _

set_option maxRecDepth 100000 in
set_option maxHeartbeats 1600000 in
theorem enterGen (p : Nat) (fl s r en : Int) (rs rs' : List Int) (w : World) (h : Sn w p 0 fl rs)
    (HC : Aside0 (∀ W, Sn W p 1 fl rs → Calls Try.prog 21 #[.pointer (some ⟨p, 0, none⟩), .int .u64 s] W fun e w' => e = .returned (.tuple #[.int .i64 r, .int .i64 en]) ∧ Sn w' p 1 fl rs' ∧ Only (fun i => i = p) W w')) :
    Calls Try.prog 8 #[.pointer (some ⟨p, 0, none⟩), .int .u64 s] w fun e w' => e = .returned (.tuple #[.int .i64 r, .int .i64 en]) ∧ Sn w' p 0 fl rs' ∧ Only (fun i => i = p) w w' := by
  have HI := Aside0.mk (isCalls p 0 fl rs w h)
  have H := Aside0.mk h
  clear h
  go_enter_defers Try.func8, Try.ntmps8
  go_wp2_with fail
  refine HI.out.mono ?_
  rintro e w' ⟨rfl, rfl⟩
  go_wp2_with fail
  refine (lock_free muLib ⟨p, 1, none⟩ w H.out.c1 (H.out.row.free 1)).mono ?_
  rintro e w1 ⟨rfl, hw1⟩
  have H1 : Aside0 (Sn w1 p 1 fl rs) := ⟨by rw [hw1]; exact H.out.lock 1⟩
  have HO1 : Aside0 (Only (fun i => i = p) w w1) := ⟨by rw [hw1]; exact lockOnly w p _⟩
  clear hw1 H HI
  go_wp2_with fail
  refine (HC.out w1 H1.out).mono ?_
  rintro e w2 ⟨rfl, h2, ho2⟩
  have H2 := Aside0.mk h2
  have HO2 := Aside0.mk (HO1.out.trans ho2)
  clear h2 ho2 HC H1 HO1
  go_wp2_with fail
  refine leaves_cons (f := 20) (args := #[.pointer (some ⟨p, 1, none⟩)]) (by simp) (by simp [go_sem]) ?_
  refine (unlock_deferred muLib ⟨p, 1, none⟩ .returning _ H2.out.c1 (H2.out.row.free 1)).mono ?_
  rintro e u' w3 ⟨rfl, rfl, hw3⟩
  have H3 : Aside0 (Sn w3 p 0 fl rs') := ⟨by rw [hw3]; exact H2.out.lock 0⟩
  have HO3 : Aside0 (Only (fun i => i = p) w w3) := ⟨by rw [hw3]; exact HO2.out.trans (lockOnly w2 p _)⟩
  clear hw3 H2 HO2
  exact ⟨_, results_tmp2 rfl _ _ _, rfl, H3.out, HO3.out⟩
end Go.Proofs.Ytohpcifpnfomnaa.Snap
