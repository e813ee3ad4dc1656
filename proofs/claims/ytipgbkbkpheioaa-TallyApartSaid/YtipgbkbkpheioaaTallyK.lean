/- Layer 5's awake: a counter of its own counts. -/
import Derived.Test.YtipgbkbkpheioaaTallyC
namespace Go.Proofs.Ytipgbkbkpheioaa.Tally
set_option linter.unusedVariables false
set_option linter.unusedSimpArgs false
open Go.RowKit Go.Proofs.YtipgbkbkpheioaaW.PrintWords Go.Proofs.Ytipgbkbkpheioaa.Kit

set_option maxHeartbeats 800000 in
theorem awakeCalls (w : World) : Calls Try.prog 8 #[] w fun e w' => e = .returned (.bool true) ∧ Below w.heap.size w w' := by
  go_enter Try.func8, Try.ntmps8
  go_wp2_with fail
  refine (newOk 2 (by omega) (by omega) _).mono ?_
  rintro e w1 ⟨rfl, hc, hb⟩
  have Hc := Aside0.mk hc
  have Hb := Aside0.mk hb
  clear hc hb
  go_wp2_with fail
  refine (addCalls _ _ _ 1 4 _ Hc.out).mono ?_
  rintro e w2 ⟨rfl, rfl⟩
  have Hc2 := Aside0.mk (Hc.out.added 1 4)
  have Hb2 : Aside0 (Below w.heap.size w (w1.setCell ⟨w.heap.size, shardOf 1 (List.replicate 2 (0 : Int)).length, none⟩ (.int .i64 (wrap64 (rd (List.replicate 2 0) (shardOf 1 (List.replicate 2 (0 : Int)).length) + 4))))) := ⟨Hb.out.setCell (by simp) _⟩
  generalize w1.setCell ⟨w.heap.size, shardOf 1 (List.replicate 2 (0 : Int)).length, none⟩ (.int .i64 (wrap64 (rd (List.replicate 2 0) (shardOf 1 (List.replicate 2 (0 : Int)).length) + 4))) = w2 at *
  go_wp2_with fail
  refine (sumCalls _ _ _ _ Hc2.out).mono ?_
  rintro e w3 ⟨rfl, hb3⟩
  have Hb3 : Aside0 (Below w.heap.size w w3) := ⟨Hb2.out.trans (hb3.mono Hb2.out.size)⟩
  have hs : sumW (added (List.replicate 2 0) 1 4) = 4 := by decide +kernel
  rw [hs]
  clear hb3
  go_wp2
  go_ret
  exact ⟨rfl, Hb3.out⟩

end Go.Proofs.Ytipgbkbkpheioaa.Tally
