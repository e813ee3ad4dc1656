/- Layer 12's list: Delete. -/
import Derived.Test.YtnpjppnahfehnaaSkipJ
import Derived.Test.YtnpjppnahfehnaaSkipI
namespace Go.Proofs.Ytnpjppnahfehnaa.Skip
set_option linter.unusedVariables false
set_option linter.unusedSimpArgs false
open Go.RowKit Go.Proofs.YtnpjppnahfehnaaW.PrintWords Go.Proofs.Ytnpjppnahfehnaa.Kit Go.MuLone

set_option maxRecDepth 100000 in
set_option maxHeartbeats 1600000 in
theorem deleteGen (g : Nat) (hd : Nd) (ns ns' : List Nd) (key : ByteArray) (a : Int) (b : Bool) (w : World) (h : Sk w g 0 hd ns)
    (HC : Aside0 (∀ W, Sk W g 1 hd ns → Calls Try.prog 37 #[.pointer (some ⟨g, 0, none⟩), .string key] W fun e w' => e = .returned (.tuple #[.int .i64 a, .bool b]) ∧ Lv W w' g 1 hd ns ns')) :
    Calls Try.prog 19 #[.pointer (some ⟨g, 0, none⟩), .string key] w fun e w' => e = .returned (.tuple #[.int .i64 a, .bool b]) ∧ Lv w w' g 0 hd ns ns' := by
  have HI := Aside0.mk (isTrue g 0 hd ns w h)
  have H := Aside0.mk h
  clear h
  go_enter_defers Try.func19, Try.ntmps19
  go_wp2_with fail
  refine HI.out.mono ?_
  rintro e w' ⟨rfl, rfl⟩
  go_wp2_with fail
  refine (lock_free muLib ⟨g, 1, none⟩ w (H.out.row.cell 1 _ rfl) (H.out.row.free 1)).mono ?_
  rintro e w1 ⟨rfl, hw1⟩
  have HW := Aside0.mk hw1
  have H1 : Aside0 (Sk w1 g 1 hd ns) := ⟨by rw [hw1]; exact H.out.lock 1⟩
  clear hw1 H HI
  go_wp2_with fail
  refine (HC.out w1 H1.out).mono ?_
  rintro e w2 ⟨rfl, h2⟩
  have H2 := Aside0.mk h2
  clear h2 HC H1
  go_wp2_with fail
  refine leaves_cons (f := 35) (args := #[.pointer (some ⟨g, 1, none⟩)]) (by simp) (by simp [go_sem]) ?_
  refine (unlock_deferred muLib ⟨g, 1, none⟩ .returning _ (H2.out.sk.row.cell 1 _ rfl) (H2.out.sk.row.free 1)).mono ?_
  rintro e u' w3 ⟨rfl, rfl, hw3⟩
  have H3 : Aside0 (Lv w w3 g 0 hd ns ns') := ⟨by rw [hw3]; exact H2.out.wrap HW.out⟩
  clear hw3 H2 HW
  exact ⟨_, results_tmp2 rfl _ _ _, rfl, H3.out⟩
theorem deleteOld (g : Nat) (hd : Nd) (lo t : List Nd) (z : Nd) (key : ByteArray) (w : World) (h : Sk w g 0 hd (lo ++ z :: t)) (hlo : ∀ x ∈ lo, ltB x.k key = true) (hhi : ∀ x ∈ z :: t, ltB x.k key = false) (hm : z.k = key) (hlen : (lo ++ z :: t).length < 4611686018427387904) :
    Calls Try.prog 19 #[.pointer (some ⟨g, 0, none⟩), .string key] w fun e w' => e = .returned (.tuple #[.int .i64 z.v, .bool true]) ∧ Lv w w' g 0 hd (lo ++ z :: t) (lo ++ t) :=
  deleteGen g hd _ _ key z.v true w h ⟨fun W hW => removeHit g 1 hd lo t z key W hW hlo hhi hm hlen⟩
theorem deleteNone (g : Nat) (hd : Nd) (lo hi : List Nd) (key : ByteArray) (w : World) (h : Sk w g 0 hd (lo ++ hi)) (hlo : ∀ x ∈ lo, ltB x.k key = true) (hhi : ∀ x ∈ hi, ltB x.k key = false) (hm : Miss hi key) :
    Calls Try.prog 19 #[.pointer (some ⟨g, 0, none⟩), .string key] w fun e w' => e = .returned (.tuple #[.int .i64 0, .bool false]) ∧ Lv w w' g 0 hd (lo ++ hi) (lo ++ hi) :=
  deleteGen g hd _ _ key 0 false w h ⟨fun W hW => (removeMiss g 1 hd lo hi key W hW hlo hhi hm).mono fun e w' ⟨he, hb⟩ => ⟨he, Lv.same hW hb⟩⟩

end Go.Proofs.Ytnpjppnahfehnaa.Skip
