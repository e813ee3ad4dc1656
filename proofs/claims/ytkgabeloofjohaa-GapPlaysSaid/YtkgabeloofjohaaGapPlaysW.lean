/- The walk of the law GapPlays (printed by wip/tools/gapp.py). -/
import Derived.Test.YtkgabeloofjohaaGapZ
namespace Go.Proofs.Ytkgabeloofjohaa.Gap
set_option linter.unusedVariables false
set_option linter.unusedSimpArgs false
open Go.RowKit Go.Proofs.YtkgabeloofjohaaW.PrintWords Go.Proofs.YtkgabeloofjohaaW.PrintLast Go.Proofs.Ytkgabeloofjohaa.Kit

set_option maxRecDepth 100000 in
set_option maxHeartbeats 8000000 in
theorem gapPlays_walk (L : Option Addr) (d : Nat) (xs : List Ac) (w : World) (hC : kA.C w L xs.length xs) (hxl : xs.length * 40 ≤ 140737488351232) (hok : ∀ x ∈ xs, okAc x) :
    Calls Try.prog 4 #[.slice L xs.length d] w fun e w' => e = .returned (.bool true) ∧ Below w.heap.size w w' := by
  have hu := Try.underlying28
  have huA := Try.underlying34
  have hz := zeroTR
  have HC : Aside0 (∀ W', Below w.heap.size w W' → kA.C W' L xs.length xs) := ⟨fun W' h => Kd.C_below hC h⟩
  have HOk := Aside0.mk hok
  obtain ⟨m, hm'⟩ : ∃ m, m = xs.length := ⟨_, rfl⟩
  have Hm := Aside0.mk hm'
  rw [← hm'] at hxl HC ⊢
  have HMl := Aside0.mk (show m ≤ 3518437208780 by omega)
  clear hm' hC hok hxl
  go_enter Try.func4, Try.ntmps4
  go_wp2_with fail
  refine (newCalls w).mono ?_
  rintro e w1 ⟨rfl, hg1, hb1, hu1⟩
  have HG1 := Aside0.mk hg1
  have HB1 := Aside0.mk hb1
  have HU1 := Aside0.mk hu1
  clear hg1 hb1 hu1
  go_upto_region 2 with (fail)
  have HPl0 : Aside0 (Pl w (w1.alloc (.cells #[.slice none 0 0, .int .u64 0] TR)) w1.heap.size w.heap.size (.slice none 0 0) [] 0 none 0) := ⟨by
    have hb := (Below.refl _ w1).alloc (Nat.le_refl _) (.cells #[.slice none 0 0, .int .u64 0] TR)
    refine Pl.new (HG1.out.below hb) (Blk.newA w1 _ _) (fun i hi => ⟨HU1.out i hi, ?_⟩) HB1.out.size (HB1.out.trans (hb.mono HB1.out.size))
    have := HG1.out.lt hi
    omega⟩
  clear HG1 HU1
  generalize w1.alloc (.cells #[.slice none 0 0, .int .u64 0] TR) = w2 at *
  have HGz : Aside0 (w.heap.size ≤ w1.heap.size) := ⟨HB1.out.size⟩
  clear HB1
  generalize w1.heap.size = zb at *
  have g0 := HPl0.out.box.cell 0 _ rfl
  have g1 := HPl0.out.box.cell 1 _ rfl
  go_wp2_with fail
  refine (isCalls w.heap.size (.slice none 0 0) [] 0 none 0 w2 HPl0.out.st (by omega)).mono ?_
  rintro e w3 ⟨rfl, hs3, ho3⟩
  have HPl1 := Aside0.mk (HPl0.out.prog hs3 ho3)
  clear hs3 ho3 HPl0 g0 g1
  go_wp2_with fail
  go_loopw [5, 6] (fun v5 v6 wr => ∃ (i : Nat) (v : Value) (ts : List Tk) (last : Int) (A : Option Addr) (c : Nat), i ≤ m ∧ v6 = .int .i64 i ∧ (∃ bb, v5 = .bool bb) ∧ last ≤ (i : Int) ∧ Aside0 (Pl w wr zb w.heap.size v ts last A c)) (fun _ v6 _ => m - (intOf v6).toNat)
  case atStart => exact ⟨0, .slice none 0 0, [], 0, none, 0, Nat.zero_le _, rfl, ⟨false, rfl⟩, Int.le_refl _, HPl1⟩
  case round =>
    clear HPl1
    obtain ⟨i, v, ts, last, A, c, hi, rfl, ⟨bb, rfl⟩, hle, HPl⟩ := hrel
    have HLe := Aside0.mk hle
    clear hle
    have hml := HMl.out
    by_cases hlt : i < m
    · have hxs : i < xs.length := by rw [← Hm.out]; exact hlt
      obtain ⟨b, o, x, B, dd, rfl, hx, c0, c1', c2, hcx⟩ := kA_at (HC.out wr HPl.out.below) i hlt
      have i1 : (i : Int) < (m : Int) := by omega
      have HDo : Aside0 (Calls Try.prog 7 #[ptrV w.heap.size, .agg #[.slice A ts.length c, .int .u64 last], .agg #[.int .i64 x.kd, .slice B x.l.length dd, .int .i64 x.n]] wr.drew (DoesP w.heap.size v ts last wr.drew)) := ⟨by
        have hb := (Below.refl wr.heap.size wr).drew
        have hok := HOk.out x (List.mem_of_getElem? hx)
        have h48 := hok.2.1.1
        have hl := HLe.out
        exact doesCalls w.heap.size v ts last A c x.kd x.n B x.l.length dd x.l wr.drew (HPl.out.st.below hb) (Kd.C_below hcx hb) (by omega) (by omega)⟩
      have g0 := HPl.out.box.cell 0 _ rfl
      have g1 := HPl.out.box.cell 1 _ rfl
      clear hx hxs hcx
      obtain ⟨xk, xl, xn⟩ := x
      simp only [] at c0 c1' c2 HDo
      generalize xl.length = nl at *
      generalize hln : ts.length = ln at *
      go_upto_region 8 with (fail)
      refine start_ (n := 12) (S := fun w' => w'.cell? ⟨zb, 0, none⟩ = some (.slice A ln c) ∧ w'.cell? ⟨zb, 1, none⟩ = some (.int .u64 last) ∧ w'.cell? ⟨b, o + i * 3, none⟩ = some (.int .i64 xk) ∧ w'.cell? ⟨b, o + i * 3 + 1, none⟩ = some (.slice B nl dd) ∧ w'.cell? ⟨b, o + i * 3 + 2, none⟩ = some (.int .i64 xn)) (ds := [6, 10]) #[false, false, false, false, false, false, false, false, false, false, false, false] (by kernel_rfl) rfl rfl ⟨g0, g1, c0, c1', c2⟩ (fun hHeld => ?_)
      refine pure_ (i := 0) (N := some 24) (v := ?_) (a' := ?_) #[true, false, false, false, false, false, false, false, false, false, false, false] rfl rfl (by kernel_rfl) (fun _ _ _ h => h) (Or.inl ⟨by rfl, ?_⟩) ?_ ?_
      rotate_left
      · intro w'
        go_simp
        with_reducible rfl
      rotate_left
      · simp only [Act.put, List.setIfInBounds_toArray, List.set_cons_zero, List.set_cons_succ, i64_w, i32_w]
        rfl
      refine pure_ (i := 2) (N := some 26) (v := ?_) (a' := ?_) #[true, false, true, false, false, false, false, false, false, false, false, false] rfl rfl (by kernel_rfl) (fun _ _ _ h => h) (Or.inl ⟨by rfl, ?_⟩) ?_ ?_
      rotate_left
      · intro w'
        go_simp
        with_reducible rfl
      rotate_left
      · simp only [Act.put, List.setIfInBounds_toArray, List.set_cons_zero, List.set_cons_succ, i64_w, i32_w]
        rfl
      refine pure_ (i := 3) (N := some 27) (v := ?_) (a' := ?_) #[true, false, true, true, false, false, false, false, false, false, false, false] rfl rfl (by kernel_rfl) (fun _ _ _ h => h) (Or.inl ⟨by rfl, ?_⟩) ?_ ?_
      rotate_left
      · intro w'
        go_simp
        with_reducible rfl
      rotate_left
      · simp only [Act.put, List.setIfInBounds_toArray, List.set_cons_zero, List.set_cons_succ, i64_w, i32_w]
        rfl
      refine pure_ (i := 4) (N := some 28) (v := ?_) (a' := ?_) #[true, false, true, true, true, false, false, false, false, false, false, false] rfl rfl (by kernel_rfl) (fun _ _ _ h => h) (Or.inl ⟨by rfl, ?_⟩) ?_ ?_
      rotate_left
      · intro w'
        go_simp
        with_reducible rfl
      rotate_left
      · simp only [Act.put, List.setIfInBounds_toArray, List.set_cons_zero, List.set_cons_succ, i64_w, i32_w]
        rfl
      refine take_ (i := 1) (N := some 25) (v := ?_) (a' := ?_) #[true, true, true, true, true, false, false, false, false, false, false, false] rfl rfl (by kernel_rfl) (fun _ _ _ h => h) (Or.inl ⟨by rfl, ?_⟩) hHeld ?_ ?_
      rotate_left
      · rintro w' ⟨s0, s1, s2, s3, s4⟩
        go_simp
        with_reducible rfl
      rotate_left
      · simp only [Act.put, List.setIfInBounds_toArray, List.set_cons_zero, List.set_cons_succ, i64_w, i32_w]
        rfl
      refine take_ (i := 5) (N := some 29) (v := ?_) (a' := ?_) #[true, true, true, true, true, true, false, false, false, false, false, false] rfl rfl (by kernel_rfl) (fun _ _ _ h => h) (Or.inl ⟨by rfl, ?_⟩) hHeld ?_ ?_
      rotate_left
      · rintro w' ⟨s0, s1, s2, s3, s4⟩
        go_simp
        with_reducible rfl
      rotate_left
      · simp only [Act.put, List.setIfInBounds_toArray, List.set_cons_zero, List.set_cons_succ, i64_w, i32_w]
        rfl
      refine last_ (i := 6) (N := some 30) #[true, true, true, true, true, true, true, false, false, false, false, false] rfl rfl (by kernel_rfl) (by decide) (fun K hK => ?_)
      refine goes_ Try.func7 (by kernel_rfl) rfl #[ptrV w.heap.size, .agg #[.slice A ln c, .int .u64 last], .agg #[.int .i64 xk, .slice B nl dd, .int .i64 xn]] (by rfl) rfl rfl (by simp only [List.map_toArray, List.map_cons, List.map_nil]; rfl) ?_
      with_reducible refine (HDo.out).mono ?_
      rintro e w4 ⟨v', ts', last', A', c', rfl, hst, ho, hu5, hl1, hl2, hsp⟩
      have hp5 := HPl.out.acts hst ((Only.drew (Only.refl _ wr)).trans ho) hu5
      have h0 := hp5.2.cell 0 _ rfl
      have h1 := hp5.2.cell 1 _ rfl
      have h1' := (hp5.2.put 0 (.slice A' ts'.length c')).cell 1 _ rfl
      have f0 := hp5.2.free 0
      have f1 := hp5.2.free 1
      have f1' := (hp5.2.put 0 (.slice A' ts'.length c')).free 1
      refine ⟨_, rfl, ?_⟩
      refine hK.out _ _ ?_
      clear hK K
      refine norm_ (a' := ?_) ?_ ?_
      rotate_left
      · show Act.put _ (some 30) _ = _
        simp only [Act.put, List.setIfInBounds_toArray, List.set_cons_zero, List.set_cons_succ, i64_w, i32_w]
        rfl
      refine pure_ (i := 7) (N := some 23) (v := ?_) (a' := ?_) #[true, true, true, true, true, true, true, true, false, false, false, false] rfl rfl (by kernel_rfl) (fun _ _ _ h => h) (Or.inl ⟨by rfl, ?_⟩) ?_ ?_
      rotate_left
      · intro w'
        go_simp
        with_reducible rfl
      rotate_left
      · simp only [Act.put, List.setIfInBounds_toArray, List.set_cons_zero, List.set_cons_succ, i64_w, i32_w]
        rfl
      refine pure_ (i := 8) (N := some 31) (v := ?_) (a' := ?_) #[true, true, true, true, true, true, true, true, true, false, false, false] rfl rfl (by kernel_rfl) (fun _ _ _ h => h) (Or.inl ⟨by rfl, ?_⟩) ?_ ?_
      rotate_left
      · intro w'
        go_simp
        with_reducible rfl
      rotate_left
      · simp only [Act.put, List.setIfInBounds_toArray, List.set_cons_zero, List.set_cons_succ, i64_w, i32_w]
        rfl
      refine pure_ (i := 9) (N := some 32) (v := ?_) (a' := ?_) #[true, true, true, true, true, true, true, true, true, true, false, false] rfl rfl (by kernel_rfl) (fun _ _ _ h => h) (Or.inl ⟨by rfl, ?_⟩) ?_ ?_
      rotate_left
      · intro w'
        go_simp
        with_reducible rfl
      rotate_left
      · simp only [Act.put, List.setIfInBounds_toArray, List.set_cons_zero, List.set_cons_succ, i64_w, i32_w]
        rfl
      refine last_ (i := 10) (N := none) #[true, true, true, true, true, true, true, true, true, true, true, false] rfl rfl (by kernel_rfl) (by decide) (fun K hK => ?_)
      refine skip_ (w1 := ?_) (by rfl) rfl ?_ ?_
      rotate_left
      · go_simp
        rfl
      refine hK.out _ _ ?_
      clear hK K
      refine pure_ (i := 11) (N := some 5) (v := ?_) (a' := ?_) #[true, true, true, true, true, true, true, true, true, true, true, true] rfl rfl (by kernel_rfl) (fun _ _ _ h => h) (Or.inl ⟨by rfl, ?_⟩) ?_ ?_
      rotate_left
      · intro w'
        go_simp
        with_reducible rfl
      rotate_left
      · simp only [Act.put, List.setIfInBounds_toArray, List.set_cons_zero, List.set_cons_succ, i64_w, i32_w]
        rfl
      refine done_ (by kernel_rfl) ?_
      have HPl5 := Aside0.mk hp5.1
      clear g0 g1 c0 c1' c2 h0 h1 h1' f0 f1 f1' hst ho hu5 hp5 HDo HPl
      generalize (w4.setCell ⟨zb, 0, none⟩ (.slice A' ts'.length c')).setCell ⟨zb, 1, none⟩ (.int .u64 last') = w5 at *
      have HLe5 : Aside0 (last' ≤ (i : Int) + 1) := ⟨by have := HLe.out; omega⟩
      clear hl1 hl2 hsp HLe hln
      have i2 : IntKind.i64.wrap ((i : Int) + 1) = ((i + 1 : Nat) : Int) := IntWalk.i64_in _ (by omega)
      by_cases h60 : m < 60
      · have i3 : (m : Int) < 60 := by omega
        have g0 := HPl5.out.box.cell 0 _ rfl
        have g1 := HPl5.out.box.cell 1 _ rfl
        go_wp2_with fail
        refine (isCalls w.heap.size v' ts' last' A' c' w5 HPl5.out.st (by have := HLe5.out; omega)).mono ?_
        rintro e w6 ⟨rfl, hs6, ho6⟩
        have HPl6 := Aside0.mk (HPl5.out.prog hs6 ho6)
        clear hs6 ho6 HPl5 g0 g1
        go_wp2
        go_roundw
        case rel => exact ⟨i + 1, v', ts', last', A', c', by omega, by go_num, ⟨true, rfl⟩, by have := HLe5.out; omega, HPl6⟩
        case measure => simp [intOf]; omega
      · have i3 : ¬ (m : Int) < 60 := by omega
        go_wp2
        go_roundw
        case rel => exact ⟨i + 1, v', ts', last', A', c', by omega, by go_num, ⟨true, rfl⟩, by have := HLe5.out; omega, HPl5⟩
        case measure => simp [intOf]; omega
    · obtain rfl : i = m := by omega
      clear hi
      have g0 := HPl.out.box.cell 0 _ rfl
      have g1 := HPl.out.box.cell 1 _ rfl
      go_wp2_with fail
      refine (isCalls w.heap.size v ts last A c wr HPl.out.st (by have := HLe.out; omega)).mono ?_
      rintro e w6 ⟨rfl, hs6, ho6⟩
      have HPl6 := Aside0.mk (HPl.out.prog hs6 ho6)
      clear hs6 ho6 HPl g0 g1
      go_wp2_with fail
      refine (awakeCalls w6).mono ?_
      rintro e w9 ⟨rfl, hb9⟩
      have HB9 : Aside0 (Below w.heap.size w w9) := ⟨HPl6.out.below.trans (hb9.mono HPl6.out.below.size)⟩
      clear hb9 HPl6
      go_wp2
      go_ret
      exact ⟨rfl, HB9.out⟩
end Go.Proofs.Ytkgabeloofjohaa.Gap

