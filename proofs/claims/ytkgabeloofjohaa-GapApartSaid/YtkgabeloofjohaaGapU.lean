/- Layer 13, the law's helpers: awake. -/
import Derived.Test.YtkgabeloofjohaaGapT
import Derived.Test.YtkgabeloofjohaaWRepsOne
namespace Go.Proofs.Ytkgabeloofjohaa.Gap
set_option linter.unusedVariables false
set_option linter.unusedSimpArgs false
open Go.RowKit Go.Proofs.YtkgabeloofjohaaW.PrintWords Go.Proofs.Ytkgabeloofjohaa.Kit

def openH : Hd := ⟨⟨⟨#[]⟩, ⟨#[]⟩, true⟩, true⟩
theorem openH_C (W : World) : kH.C (W.alloc (.cells #[.string ⟨#[]⟩, .string ⟨#[]⟩, .bool true, .bool true] TH)) (some ⟨W.heap.size, 0, none⟩) 1 [openH] := by
  have hr : kH.R TH (W.alloc (.cells #[.string ⟨#[]⟩, .string ⟨#[]⟩, .bool true, .bool true] TH)) 0 (fun _ => True) (.slice (some ⟨W.heap.size, 0, none⟩) 1 1) [openH] :=
    ⟨fun _ _ => trivial, OwnRow.lit W 0 (ps := [openH]) (inner := [.string ⟨#[]⟩, .string ⟨#[]⟩, .bool true, .bool true]) (Reps.c4 (kH_mkM W 0 (fun _ => True) openH) (Reps.none _ _)) (Nat.zero_le _) (by simp)⟩
  obtain ⟨A, c, e, _, hC⟩ := Kd.R_reads hr
  injection e with e1 e2 e3
  subst e1
  exact hC
theorem has_own (k : Tk) (ht : k.t = 1) : hasV (regrant ([] ++ [k])) 1 = .tuple #[.bool true, .int .i64 0] := by
  have : findT (regrant ([] ++ [k])) 1 = some (gr1 [k] k) := by
    simp [findT, regrant, gr1, ht]
  unfold hasV
  rw [this]
  have e : aheadK [k] k = [] := by simp [aheadK, isAhead]
  simp [gr1, e]
set_option maxRecDepth 100000 in
set_option maxHeartbeats 4000000 in
theorem awakeCalls (w : World) : Calls Try.prog 13 #[] w fun e w' => e = .returned (.bool true) ∧ Below w.heap.size w w' := by
  go_enter Try.func13, Try.ntmps13
  go_wp2_with fail
  refine (newCalls w).mono ?_
  rintro e w1 ⟨rfl, hg1, hb1, hu1⟩
  have HG1 := Aside0.mk hg1
  have HB1 := Aside0.mk hb1
  have HU1 := Aside0.mk hu1
  clear hg1 hb1 hu1
  go_upto_region 4 with (fail)
  go_wp2_with fail
  have HC := Aside0.mk (openH_C w1)
  have hb2 : Below w1.heap.size w1 (w1.alloc (.cells #[.string ⟨#[]⟩, .string ⟨#[]⟩, .bool true, .bool true] TH)) := (Below.refl _ w1).alloc (Nat.le_refl _) _
  have HG2 := Aside0.mk (HG1.out.below hb2)
  have HB2 := Aside0.mk (HB1.out.trans (hb2.mono HB1.out.size))
  have HBl : Aside0 (∃ cs, (w1.alloc (.cells #[.string ⟨#[]⟩, .string ⟨#[]⟩, .bool true, .bool true] TH)).heap[w1.heap.size]? = some (.cells cs TH (0, 0))) := ⟨⟨_, heap_alloc_new w1 _⟩⟩
  clear hb2 HG1 HB1
  generalize w1.alloc (.cells #[.string ⟨#[]⟩, .string ⟨#[]⟩, .bool true, .bool true] TH) = w2 at *
  generalize w1.heap.size = q at *
  refine (takeOk w.heap.size (.slice none 0 0) (some ⟨q, 0, none⟩) 1 1 [openH] [] 0 w2 HG2.out HC.out (fun a ha => by injection ha with ha; rw [← ha]; exact HBl.out) (by omega) (by simp) (by omega) (by omega)).mono ?_
  rintro e w3 ⟨v', k, rfl, hg3, ht, hhs, hgr, ho3, hu3⟩
  have HB3 : Aside0 (Below w.heap.size w w3) := ⟨HB2.out.trans (ho3.below (fun i hi => HU1.out i hi) HB2.out.size)⟩
  have HG3 := Aside0.mk hg3
  have HU3 : Aside0 (∀ i, use w.heap.size v' (regrant ([] ++ [k])) i → w.heap.size ≤ i) := ⟨fun i hi => by
    rcases hu3 i (use_regrant _ _ _ _ hi) with h | h
    · exact HU1.out i h
    · have := HB2.out.size
      omega⟩
  have HK := Aside0.mk (has_own k ht)
  clear hg3 ht hhs hgr ho3 hu3 HBl HC HG2 HB2
  generalize regrant ([] ++ [k]) = ts at *
  go_wp2_with fail
  refine (hasCalls w.heap.size v' ts (0 + 1) 1 w3 HG3.out).mono ?_
  rintro e w4 ⟨rfl, hg4, ho4⟩
  rw [HK.out]
  have HB4 : Aside0 (Below w.heap.size w w4) := ⟨HB3.out.trans (ho4.below (fun i hi => HU3.out i hi) HB3.out.size)⟩
  clear hg4 ho4 HG3 HB3
  go_wp2
  go_ret
  exact ⟨rfl, HB4.out⟩
end Go.Proofs.Ytkgabeloofjohaa.Gap
