/- Layer 12's list: Get. -/
import Derived.Test.YtnpjppnahfehnaaSkipE
namespace Go.Proofs.Ytnpjppnahfehnaa.Skip
set_option linter.unusedVariables false
set_option linter.unusedSimpArgs false
open Go.RowKit Go.Proofs.YtnpjppnahfehnaaW.PrintWords Go.Proofs.Ytnpjppnahfehnaa.Kit Go.MuLone

theorem getMiss (g : Nat) (hd : Nd) (lo hi : List Nd) (key : ByteArray) (w : World) (h : Sk w g 0 hd (lo ++ hi)) (hlo : ∀ x ∈ lo, ltB x.k key = true) (hhi : ∀ x ∈ hi, ltB x.k key = false) (hm : Miss hi key) :
    Calls Try.prog 20 #[.pointer (some ⟨g, 0, none⟩), .string key] w fun e w' => e = .returned (.tuple #[.int .i64 0, .bool false]) ∧ Below w.heap.size w w' := by
  have HI := Aside0.mk (isTrue g 0 hd _ w h)
  have HF := Aside0.mk (findMiss g 0 hd lo hi key w h hlo hhi hm)
  clear h hlo hhi hm
  go_enter Try.func20, Try.ntmps20
  go_wp2_with fail
  refine HI.out.mono ?_
  rintro e w' ⟨rfl, rfl⟩
  go_wp2_with fail
  refine HF.out.mono ?_
  rintro e w1 ⟨rfl, hb⟩
  have HB := Aside0.mk hb
  clear hb
  go_wp2
  go_ret2
  exact ⟨rfl, HB.out⟩
theorem getHit (g : Nat) (hd : Nd) (lo : List Nd) (key : ByteArray) (w : World) (z : Nd) (t : List Nd) (h : Sk w g 0 hd (lo ++ z :: t)) (hlo : ∀ x ∈ lo, ltB x.k key = true) (hhi : ∀ x ∈ z :: t, ltB x.k key = false) (hm : z.k = key) :
    Calls Try.prog 20 #[.pointer (some ⟨g, 0, none⟩), .string key] w fun e w' => e = .returned (.tuple #[.int .i64 z.v, .bool true]) ∧ Below w.heap.size w w' := by
  have HI := Aside0.mk (isTrue g 0 hd _ w h)
  have HF := Aside0.mk (findHit g 0 hd lo key w z t h hlo hhi hm)
  have HN := Aside0.mk (h.lnk.node (x := z) (List.mem_cons_of_mem _ (List.mem_append_right _ List.mem_cons_self)))
  clear h hlo hhi hm
  go_enter Try.func20, Try.ntmps20
  go_wp2_with fail
  refine HI.out.mono ?_
  rintro e w' ⟨rfl, rfl⟩
  go_wp2_with fail
  refine HF.out.mono ?_
  rintro e w1 ⟨rfl, hb⟩
  have HB := Aside0.mk hb
  have HL := Aside0.mk (i64Load z.p 1 _ w1 ((HN.out.belowSize hb).cell 1 _ rfl))
  clear hb
  go_wp2_with fail
  refine HL.out.mono ?_
  rintro e w' ⟨rfl, rfl⟩
  go_wp2
  go_ret2
  exact ⟨rfl, HB.out⟩

end Go.Proofs.Ytnpjppnahfehnaa.Skip
