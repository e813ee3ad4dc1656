/- Layer 13: ranges that meet, as the document has them (vellumref02). -/
import Derived.Test.YtkgabeloofjohaaGapA
namespace Go.Proofs.Ytkgabeloofjohaa.Gap
set_option linter.unusedVariables false
set_option linter.unusedSimpArgs false
open Go.RowKit Go.Proofs.YtkgabeloofjohaaW.PrintWords Go.Proofs.Ytkgabeloofjohaa.Kit

set_option maxHeartbeats 2000000 in
theorem refBoth_ffff (alo ahi blo bhi : ByteArray) (hl : ltB alo blo = false) (hh : ltB bhi ahi = false) (w : World) : Calls Try.prog 39 #[.agg #[.string alo, .string ahi, .bool false], .agg #[.string blo, .string bhi, .bool false]] w fun e w' => e = .returned (bothR ⟨alo, ahi, false⟩ ⟨blo, bhi, false⟩).val ∧ Below w.heap.size w w' := by
  have hz := zeroRg
  have HO : outR ⟨alo, ahi, false⟩ ⟨blo, bhi, false⟩ = (⟨alo, ahi, false⟩ : Rg) := by
    unfold outR outHi maxS minS
    simp only [hl, hh]
    rfl
  have HR : Aside0 (bothR ⟨alo, ahi, false⟩ ⟨blo, bhi, false⟩ = if emptyB (⟨alo, ahi, false⟩ : Rg) then zR else (⟨alo, ahi, false⟩ : Rg)) := ⟨by unfold bothR; rw [HO]⟩
  generalize bothR ⟨alo, ahi, false⟩ ⟨blo, bhi, false⟩ = R at *
  clear HO
  have hg : (Op.bytesLess blo.toList alo.toList || blo.toList == alo.toList) = true := by rw [leq_not_lt, hl]; rfl
  have hh2 : Op.bytesLess bhi.toList ahi.toList = false := hh
  clear hl hh
  obtain ⟨hb4, hx4, hy4⟩ := four w #[.string alo, .string ahi, .bool false] #[.string blo, .string bhi, .bool false] #[.string ByteArray.empty, .string ByteArray.empty, .bool false] #[.string alo, .string ahi, .bool false] TRg
  have HB4 := Aside0.mk hb4
  have HX4 := Aside0.mk hx4
  have HY4 := Aside0.mk hy4
  clear hb4 hx4 hy4
  go_enter Try.func39, Try.ntmps39
  go_upto_region 8 with (fail)
  obtain ⟨V, hV⟩ : ∃ V, V = ((((w.alloc (.cells #[.string alo, .string ahi, .bool false] TRg)).alloc (.cells #[.string blo, .string bhi, .bool false] TRg)).alloc (.cells #[.string ByteArray.empty, .string ByteArray.empty, .bool false] TRg)).alloc (.cells #[.string alo, .string ahi, .bool false] TRg)) := ⟨_, rfl⟩
  rw [← hV] at HB4 HX4 HY4
  rw [← hV]
  clear hV hg hh2
  have HB := HB4
  have HX := HX4
  have HY := HY4
  clear HB4 HX4 HY4
  have HE := Aside0.mk (refEmpty (⟨alo, ahi, false⟩ : Rg) V)
  simp only [Rg.val] at HE
  have y0 := HY.out.cell 0 _ rfl
  have y1 := HY.out.cell 1 _ rfl
  have y2 := HY.out.cell 2 _ rfl
  go_wp2_with fail
  refine HE.out.mono ?_
  rintro e W ⟨rfl, hb⟩
  have HX2 := Aside0.mk (HX.out.belowSize hb)
  have HY2 := Aside0.mk (HY.out.belowSize hb)
  have HB2 := Aside0.mk (HB.out.trans (hb.mono HB.out.size))
  clear hb HE HX HY HB y0 y1 y2
  have y0 := HY2.out.cell 0 _ rfl
  have y1 := HY2.out.cell 1 _ rfl
  have y2 := HY2.out.cell 2 _ rfl
  have x0 := HX2.out.cell 0 _ rfl
  have x1 := HX2.out.cell 1 _ rfl
  have x2 := HX2.out.cell 2 _ rfl
  have f0 := HX2.out.free 0
  have f1 := HX2.out.free 1
  have f2 := HX2.out.free 2
  generalize emptyB (⟨alo, ahi, false⟩ : Rg) = q at *
  cases q with
  | true =>
    have HZ := Aside0.mk (setR W (w.heap.size + 1 + 1) zR _ HX2.out rfl)
    have HB3 := Aside0.mk (set3 HB2.out (w.heap.size + 1 + 1) (by omega) (.string ByteArray.empty) (.string ByteArray.empty) (.bool false))
    go_wp2
    exact bodyPost_ret (v := zR.val) (results_cell_row rfl _ _ _ TRg _ (0, 0) _ rfl HZ.out.out Try.underlying50 rfl (by kernel_rfl)) rfl ⟨by rw [HR.out]; rfl, HB3.out⟩
  | false =>
    have HZ := Aside0.mk (setR W (w.heap.size + 1 + 1) (⟨alo, ahi, false⟩ : Rg) _ HX2.out rfl)
    have HB3 := Aside0.mk (set3 HB2.out (w.heap.size + 1 + 1) (by omega) (.string alo) (.string ahi) (.bool false))
    go_wp2
    exact bodyPost_ret (v := Rg.val (⟨alo, ahi, false⟩ : Rg)) (results_cell_row rfl _ _ _ TRg _ (0, 0) _ rfl HZ.out.out Try.underlying50 rfl (by kernel_rfl)) rfl ⟨by rw [HR.out]; rfl, HB3.out⟩

set_option maxHeartbeats 2000000 in
theorem refBoth_ffft (alo ahi blo bhi : ByteArray) (hl : ltB alo blo = false) (hh : ltB bhi ahi = true) (w : World) : Calls Try.prog 39 #[.agg #[.string alo, .string ahi, .bool false], .agg #[.string blo, .string bhi, .bool false]] w fun e w' => e = .returned (bothR ⟨alo, ahi, false⟩ ⟨blo, bhi, false⟩).val ∧ Below w.heap.size w w' := by
  have hz := zeroRg
  have HO : outR ⟨alo, ahi, false⟩ ⟨blo, bhi, false⟩ = (⟨alo, bhi, false⟩ : Rg) := by
    unfold outR outHi maxS minS
    simp only [hl, hh]
    rfl
  have HR : Aside0 (bothR ⟨alo, ahi, false⟩ ⟨blo, bhi, false⟩ = if emptyB (⟨alo, bhi, false⟩ : Rg) then zR else (⟨alo, bhi, false⟩ : Rg)) := ⟨by unfold bothR; rw [HO]⟩
  generalize bothR ⟨alo, ahi, false⟩ ⟨blo, bhi, false⟩ = R at *
  clear HO
  have hg : (Op.bytesLess blo.toList alo.toList || blo.toList == alo.toList) = true := by rw [leq_not_lt, hl]; rfl
  have hh2 : Op.bytesLess bhi.toList ahi.toList = true := hh
  clear hl hh
  obtain ⟨hb4, hx4, hy4⟩ := four w #[.string alo, .string ahi, .bool false] #[.string blo, .string bhi, .bool false] #[.string ByteArray.empty, .string ByteArray.empty, .bool false] #[.string alo, .string bhi, .bool false] TRg
  have HB4 := Aside0.mk hb4
  have HX4 := Aside0.mk hx4
  have HY4 := Aside0.mk hy4
  clear hb4 hx4 hy4
  go_enter Try.func39, Try.ntmps39
  go_upto_region 8 with (fail)
  obtain ⟨V, hV⟩ : ∃ V, V = ((((w.alloc (.cells #[.string alo, .string ahi, .bool false] TRg)).alloc (.cells #[.string blo, .string bhi, .bool false] TRg)).alloc (.cells #[.string ByteArray.empty, .string ByteArray.empty, .bool false] TRg)).alloc (.cells #[.string alo, .string bhi, .bool false] TRg)) := ⟨_, rfl⟩
  rw [← hV] at HB4 HX4 HY4
  rw [← hV]
  clear hV hg hh2
  have HB := HB4
  have HX := HX4
  have HY := HY4
  clear HB4 HX4 HY4
  have HE := Aside0.mk (refEmpty (⟨alo, bhi, false⟩ : Rg) V)
  simp only [Rg.val] at HE
  have y0 := HY.out.cell 0 _ rfl
  have y1 := HY.out.cell 1 _ rfl
  have y2 := HY.out.cell 2 _ rfl
  go_wp2_with fail
  refine HE.out.mono ?_
  rintro e W ⟨rfl, hb⟩
  have HX2 := Aside0.mk (HX.out.belowSize hb)
  have HY2 := Aside0.mk (HY.out.belowSize hb)
  have HB2 := Aside0.mk (HB.out.trans (hb.mono HB.out.size))
  clear hb HE HX HY HB y0 y1 y2
  have y0 := HY2.out.cell 0 _ rfl
  have y1 := HY2.out.cell 1 _ rfl
  have y2 := HY2.out.cell 2 _ rfl
  have x0 := HX2.out.cell 0 _ rfl
  have x1 := HX2.out.cell 1 _ rfl
  have x2 := HX2.out.cell 2 _ rfl
  have f0 := HX2.out.free 0
  have f1 := HX2.out.free 1
  have f2 := HX2.out.free 2
  generalize emptyB (⟨alo, bhi, false⟩ : Rg) = q at *
  cases q with
  | true =>
    have HZ := Aside0.mk (setR W (w.heap.size + 1 + 1) zR _ HX2.out rfl)
    have HB3 := Aside0.mk (set3 HB2.out (w.heap.size + 1 + 1) (by omega) (.string ByteArray.empty) (.string ByteArray.empty) (.bool false))
    go_wp2
    exact bodyPost_ret (v := zR.val) (results_cell_row rfl _ _ _ TRg _ (0, 0) _ rfl HZ.out.out Try.underlying50 rfl (by kernel_rfl)) rfl ⟨by rw [HR.out]; rfl, HB3.out⟩
  | false =>
    have HZ := Aside0.mk (setR W (w.heap.size + 1 + 1) (⟨alo, bhi, false⟩ : Rg) _ HX2.out rfl)
    have HB3 := Aside0.mk (set3 HB2.out (w.heap.size + 1 + 1) (by omega) (.string alo) (.string bhi) (.bool false))
    go_wp2
    exact bodyPost_ret (v := Rg.val (⟨alo, bhi, false⟩ : Rg)) (results_cell_row rfl _ _ _ TRg _ (0, 0) _ rfl HZ.out.out Try.underlying50 rfl (by kernel_rfl)) rfl ⟨by rw [HR.out]; rfl, HB3.out⟩

set_option maxHeartbeats 2000000 in
theorem refBoth_fftf (alo ahi blo bhi : ByteArray) (hl : ltB alo blo = true) (hh : ltB bhi ahi = false) (w : World) : Calls Try.prog 39 #[.agg #[.string alo, .string ahi, .bool false], .agg #[.string blo, .string bhi, .bool false]] w fun e w' => e = .returned (bothR ⟨alo, ahi, false⟩ ⟨blo, bhi, false⟩).val ∧ Below w.heap.size w w' := by
  have hz := zeroRg
  have HO : outR ⟨alo, ahi, false⟩ ⟨blo, bhi, false⟩ = (⟨blo, ahi, false⟩ : Rg) := by
    unfold outR outHi maxS minS
    simp only [hl, hh]
    rfl
  have HR : Aside0 (bothR ⟨alo, ahi, false⟩ ⟨blo, bhi, false⟩ = if emptyB (⟨blo, ahi, false⟩ : Rg) then zR else (⟨blo, ahi, false⟩ : Rg)) := ⟨by unfold bothR; rw [HO]⟩
  generalize bothR ⟨alo, ahi, false⟩ ⟨blo, bhi, false⟩ = R at *
  clear HO
  have hg : (Op.bytesLess blo.toList alo.toList || blo.toList == alo.toList) = false := by rw [leq_not_lt, hl]; rfl
  have hh2 : Op.bytesLess bhi.toList ahi.toList = false := hh
  clear hl hh
  obtain ⟨hb4, hx4, hy4⟩ := four w #[.string alo, .string ahi, .bool false] #[.string blo, .string bhi, .bool false] #[.string ByteArray.empty, .string ByteArray.empty, .bool false] #[.string blo, .string ahi, .bool false] TRg
  have HB4 := Aside0.mk hb4
  have HX4 := Aside0.mk hx4
  have HY4 := Aside0.mk hy4
  clear hb4 hx4 hy4
  go_enter Try.func39, Try.ntmps39
  go_upto_region 8 with (fail)
  obtain ⟨V, hV⟩ : ∃ V, V = ((((w.alloc (.cells #[.string alo, .string ahi, .bool false] TRg)).alloc (.cells #[.string blo, .string bhi, .bool false] TRg)).alloc (.cells #[.string ByteArray.empty, .string ByteArray.empty, .bool false] TRg)).alloc (.cells #[.string blo, .string ahi, .bool false] TRg)) := ⟨_, rfl⟩
  rw [← hV] at HB4 HX4 HY4
  rw [← hV]
  clear hV hg hh2
  have HB := HB4
  have HX := HX4
  have HY := HY4
  clear HB4 HX4 HY4
  have HE := Aside0.mk (refEmpty (⟨blo, ahi, false⟩ : Rg) V)
  simp only [Rg.val] at HE
  have y0 := HY.out.cell 0 _ rfl
  have y1 := HY.out.cell 1 _ rfl
  have y2 := HY.out.cell 2 _ rfl
  go_wp2_with fail
  refine HE.out.mono ?_
  rintro e W ⟨rfl, hb⟩
  have HX2 := Aside0.mk (HX.out.belowSize hb)
  have HY2 := Aside0.mk (HY.out.belowSize hb)
  have HB2 := Aside0.mk (HB.out.trans (hb.mono HB.out.size))
  clear hb HE HX HY HB y0 y1 y2
  have y0 := HY2.out.cell 0 _ rfl
  have y1 := HY2.out.cell 1 _ rfl
  have y2 := HY2.out.cell 2 _ rfl
  have x0 := HX2.out.cell 0 _ rfl
  have x1 := HX2.out.cell 1 _ rfl
  have x2 := HX2.out.cell 2 _ rfl
  have f0 := HX2.out.free 0
  have f1 := HX2.out.free 1
  have f2 := HX2.out.free 2
  generalize emptyB (⟨blo, ahi, false⟩ : Rg) = q at *
  cases q with
  | true =>
    have HZ := Aside0.mk (setR W (w.heap.size + 1 + 1) zR _ HX2.out rfl)
    have HB3 := Aside0.mk (set3 HB2.out (w.heap.size + 1 + 1) (by omega) (.string ByteArray.empty) (.string ByteArray.empty) (.bool false))
    go_wp2
    exact bodyPost_ret (v := zR.val) (results_cell_row rfl _ _ _ TRg _ (0, 0) _ rfl HZ.out.out Try.underlying50 rfl (by kernel_rfl)) rfl ⟨by rw [HR.out]; rfl, HB3.out⟩
  | false =>
    have HZ := Aside0.mk (setR W (w.heap.size + 1 + 1) (⟨blo, ahi, false⟩ : Rg) _ HX2.out rfl)
    have HB3 := Aside0.mk (set3 HB2.out (w.heap.size + 1 + 1) (by omega) (.string blo) (.string ahi) (.bool false))
    go_wp2
    exact bodyPost_ret (v := Rg.val (⟨blo, ahi, false⟩ : Rg)) (results_cell_row rfl _ _ _ TRg _ (0, 0) _ rfl HZ.out.out Try.underlying50 rfl (by kernel_rfl)) rfl ⟨by rw [HR.out]; rfl, HB3.out⟩

set_option maxHeartbeats 2000000 in
theorem refBoth_fftt (alo ahi blo bhi : ByteArray) (hl : ltB alo blo = true) (hh : ltB bhi ahi = true) (w : World) : Calls Try.prog 39 #[.agg #[.string alo, .string ahi, .bool false], .agg #[.string blo, .string bhi, .bool false]] w fun e w' => e = .returned (bothR ⟨alo, ahi, false⟩ ⟨blo, bhi, false⟩).val ∧ Below w.heap.size w w' := by
  have hz := zeroRg
  have HO : outR ⟨alo, ahi, false⟩ ⟨blo, bhi, false⟩ = (⟨blo, bhi, false⟩ : Rg) := by
    unfold outR outHi maxS minS
    simp only [hl, hh]
    rfl
  have HR : Aside0 (bothR ⟨alo, ahi, false⟩ ⟨blo, bhi, false⟩ = if emptyB (⟨blo, bhi, false⟩ : Rg) then zR else (⟨blo, bhi, false⟩ : Rg)) := ⟨by unfold bothR; rw [HO]⟩
  generalize bothR ⟨alo, ahi, false⟩ ⟨blo, bhi, false⟩ = R at *
  clear HO
  have hg : (Op.bytesLess blo.toList alo.toList || blo.toList == alo.toList) = false := by rw [leq_not_lt, hl]; rfl
  have hh2 : Op.bytesLess bhi.toList ahi.toList = true := hh
  clear hl hh
  obtain ⟨hb4, hx4, hy4⟩ := four w #[.string alo, .string ahi, .bool false] #[.string blo, .string bhi, .bool false] #[.string ByteArray.empty, .string ByteArray.empty, .bool false] #[.string blo, .string bhi, .bool false] TRg
  have HB4 := Aside0.mk hb4
  have HX4 := Aside0.mk hx4
  have HY4 := Aside0.mk hy4
  clear hb4 hx4 hy4
  go_enter Try.func39, Try.ntmps39
  go_upto_region 8 with (fail)
  obtain ⟨V, hV⟩ : ∃ V, V = ((((w.alloc (.cells #[.string alo, .string ahi, .bool false] TRg)).alloc (.cells #[.string blo, .string bhi, .bool false] TRg)).alloc (.cells #[.string ByteArray.empty, .string ByteArray.empty, .bool false] TRg)).alloc (.cells #[.string blo, .string bhi, .bool false] TRg)) := ⟨_, rfl⟩
  rw [← hV] at HB4 HX4 HY4
  rw [← hV]
  clear hV hg hh2
  have HB := HB4
  have HX := HX4
  have HY := HY4
  clear HB4 HX4 HY4
  have HE := Aside0.mk (refEmpty (⟨blo, bhi, false⟩ : Rg) V)
  simp only [Rg.val] at HE
  have y0 := HY.out.cell 0 _ rfl
  have y1 := HY.out.cell 1 _ rfl
  have y2 := HY.out.cell 2 _ rfl
  go_wp2_with fail
  refine HE.out.mono ?_
  rintro e W ⟨rfl, hb⟩
  have HX2 := Aside0.mk (HX.out.belowSize hb)
  have HY2 := Aside0.mk (HY.out.belowSize hb)
  have HB2 := Aside0.mk (HB.out.trans (hb.mono HB.out.size))
  clear hb HE HX HY HB y0 y1 y2
  have y0 := HY2.out.cell 0 _ rfl
  have y1 := HY2.out.cell 1 _ rfl
  have y2 := HY2.out.cell 2 _ rfl
  have x0 := HX2.out.cell 0 _ rfl
  have x1 := HX2.out.cell 1 _ rfl
  have x2 := HX2.out.cell 2 _ rfl
  have f0 := HX2.out.free 0
  have f1 := HX2.out.free 1
  have f2 := HX2.out.free 2
  generalize emptyB (⟨blo, bhi, false⟩ : Rg) = q at *
  cases q with
  | true =>
    have HZ := Aside0.mk (setR W (w.heap.size + 1 + 1) zR _ HX2.out rfl)
    have HB3 := Aside0.mk (set3 HB2.out (w.heap.size + 1 + 1) (by omega) (.string ByteArray.empty) (.string ByteArray.empty) (.bool false))
    go_wp2
    exact bodyPost_ret (v := zR.val) (results_cell_row rfl _ _ _ TRg _ (0, 0) _ rfl HZ.out.out Try.underlying50 rfl (by kernel_rfl)) rfl ⟨by rw [HR.out]; rfl, HB3.out⟩
  | false =>
    have HZ := Aside0.mk (setR W (w.heap.size + 1 + 1) (⟨blo, bhi, false⟩ : Rg) _ HX2.out rfl)
    have HB3 := Aside0.mk (set3 HB2.out (w.heap.size + 1 + 1) (by omega) (.string blo) (.string bhi) (.bool false))
    go_wp2
    exact bodyPost_ret (v := Rg.val (⟨blo, bhi, false⟩ : Rg)) (results_cell_row rfl _ _ _ TRg _ (0, 0) _ rfl HZ.out.out Try.underlying50 rfl (by kernel_rfl)) rfl ⟨by rw [HR.out]; rfl, HB3.out⟩

set_option maxHeartbeats 2000000 in
theorem refBoth_ftf (alo ahi blo bhi : ByteArray) (hl : ltB alo blo = false) (w : World) : Calls Try.prog 39 #[.agg #[.string alo, .string ahi, .bool false], .agg #[.string blo, .string bhi, .bool true]] w fun e w' => e = .returned (bothR ⟨alo, ahi, false⟩ ⟨blo, bhi, true⟩).val ∧ Below w.heap.size w w' := by
  have hz := zeroRg
  have HO : outR ⟨alo, ahi, false⟩ ⟨blo, bhi, true⟩ = (⟨alo, ahi, false⟩ : Rg) := by
    unfold outR outHi maxS minS
    simp only [hl]
    rfl
  have HR : Aside0 (bothR ⟨alo, ahi, false⟩ ⟨blo, bhi, true⟩ = if emptyB (⟨alo, ahi, false⟩ : Rg) then zR else (⟨alo, ahi, false⟩ : Rg)) := ⟨by unfold bothR; rw [HO]⟩
  generalize bothR ⟨alo, ahi, false⟩ ⟨blo, bhi, true⟩ = R at *
  clear HO
  have hg : (Op.bytesLess blo.toList alo.toList || blo.toList == alo.toList) = true := by rw [leq_not_lt, hl]; rfl
  clear hl
  obtain ⟨hb4, hx4, hy4⟩ := four w #[.string alo, .string ahi, .bool false] #[.string blo, .string bhi, .bool true] #[.string ByteArray.empty, .string ByteArray.empty, .bool false] #[.string alo, .string ahi, .bool false] TRg
  have HB4 := Aside0.mk hb4
  have HX4 := Aside0.mk hx4
  have HY4 := Aside0.mk hy4
  clear hb4 hx4 hy4
  go_enter Try.func39, Try.ntmps39
  go_upto_region 8 with (fail)
  obtain ⟨V, hV⟩ : ∃ V, V = ((((w.alloc (.cells #[.string alo, .string ahi, .bool false] TRg)).alloc (.cells #[.string blo, .string bhi, .bool true] TRg)).alloc (.cells #[.string ByteArray.empty, .string ByteArray.empty, .bool false] TRg)).alloc (.cells #[.string alo, .string ahi, .bool false] TRg)) := ⟨_, rfl⟩
  rw [← hV] at HB4 HX4 HY4
  rw [← hV]
  clear hV hg
  have HB := HB4
  have HX := HX4
  have HY := HY4
  clear HB4 HX4 HY4
  have HE := Aside0.mk (refEmpty (⟨alo, ahi, false⟩ : Rg) V)
  simp only [Rg.val] at HE
  have y0 := HY.out.cell 0 _ rfl
  have y1 := HY.out.cell 1 _ rfl
  have y2 := HY.out.cell 2 _ rfl
  go_wp2_with fail
  refine HE.out.mono ?_
  rintro e W ⟨rfl, hb⟩
  have HX2 := Aside0.mk (HX.out.belowSize hb)
  have HY2 := Aside0.mk (HY.out.belowSize hb)
  have HB2 := Aside0.mk (HB.out.trans (hb.mono HB.out.size))
  clear hb HE HX HY HB y0 y1 y2
  have y0 := HY2.out.cell 0 _ rfl
  have y1 := HY2.out.cell 1 _ rfl
  have y2 := HY2.out.cell 2 _ rfl
  have x0 := HX2.out.cell 0 _ rfl
  have x1 := HX2.out.cell 1 _ rfl
  have x2 := HX2.out.cell 2 _ rfl
  have f0 := HX2.out.free 0
  have f1 := HX2.out.free 1
  have f2 := HX2.out.free 2
  generalize emptyB (⟨alo, ahi, false⟩ : Rg) = q at *
  cases q with
  | true =>
    have HZ := Aside0.mk (setR W (w.heap.size + 1 + 1) zR _ HX2.out rfl)
    have HB3 := Aside0.mk (set3 HB2.out (w.heap.size + 1 + 1) (by omega) (.string ByteArray.empty) (.string ByteArray.empty) (.bool false))
    go_wp2
    exact bodyPost_ret (v := zR.val) (results_cell_row rfl _ _ _ TRg _ (0, 0) _ rfl HZ.out.out Try.underlying50 rfl (by kernel_rfl)) rfl ⟨by rw [HR.out]; rfl, HB3.out⟩
  | false =>
    have HZ := Aside0.mk (setR W (w.heap.size + 1 + 1) (⟨alo, ahi, false⟩ : Rg) _ HX2.out rfl)
    have HB3 := Aside0.mk (set3 HB2.out (w.heap.size + 1 + 1) (by omega) (.string alo) (.string ahi) (.bool false))
    go_wp2
    exact bodyPost_ret (v := Rg.val (⟨alo, ahi, false⟩ : Rg)) (results_cell_row rfl _ _ _ TRg _ (0, 0) _ rfl HZ.out.out Try.underlying50 rfl (by kernel_rfl)) rfl ⟨by rw [HR.out]; rfl, HB3.out⟩

set_option maxHeartbeats 2000000 in
theorem refBoth_ftt (alo ahi blo bhi : ByteArray) (hl : ltB alo blo = true) (w : World) : Calls Try.prog 39 #[.agg #[.string alo, .string ahi, .bool false], .agg #[.string blo, .string bhi, .bool true]] w fun e w' => e = .returned (bothR ⟨alo, ahi, false⟩ ⟨blo, bhi, true⟩).val ∧ Below w.heap.size w w' := by
  have hz := zeroRg
  have HO : outR ⟨alo, ahi, false⟩ ⟨blo, bhi, true⟩ = (⟨blo, ahi, false⟩ : Rg) := by
    unfold outR outHi maxS minS
    simp only [hl]
    rfl
  have HR : Aside0 (bothR ⟨alo, ahi, false⟩ ⟨blo, bhi, true⟩ = if emptyB (⟨blo, ahi, false⟩ : Rg) then zR else (⟨blo, ahi, false⟩ : Rg)) := ⟨by unfold bothR; rw [HO]⟩
  generalize bothR ⟨alo, ahi, false⟩ ⟨blo, bhi, true⟩ = R at *
  clear HO
  have hg : (Op.bytesLess blo.toList alo.toList || blo.toList == alo.toList) = false := by rw [leq_not_lt, hl]; rfl
  clear hl
  obtain ⟨hb4, hx4, hy4⟩ := four w #[.string alo, .string ahi, .bool false] #[.string blo, .string bhi, .bool true] #[.string ByteArray.empty, .string ByteArray.empty, .bool false] #[.string blo, .string ahi, .bool false] TRg
  have HB4 := Aside0.mk hb4
  have HX4 := Aside0.mk hx4
  have HY4 := Aside0.mk hy4
  clear hb4 hx4 hy4
  go_enter Try.func39, Try.ntmps39
  go_upto_region 8 with (fail)
  obtain ⟨V, hV⟩ : ∃ V, V = ((((w.alloc (.cells #[.string alo, .string ahi, .bool false] TRg)).alloc (.cells #[.string blo, .string bhi, .bool true] TRg)).alloc (.cells #[.string ByteArray.empty, .string ByteArray.empty, .bool false] TRg)).alloc (.cells #[.string blo, .string ahi, .bool false] TRg)) := ⟨_, rfl⟩
  rw [← hV] at HB4 HX4 HY4
  rw [← hV]
  clear hV hg
  have HB := HB4
  have HX := HX4
  have HY := HY4
  clear HB4 HX4 HY4
  have HE := Aside0.mk (refEmpty (⟨blo, ahi, false⟩ : Rg) V)
  simp only [Rg.val] at HE
  have y0 := HY.out.cell 0 _ rfl
  have y1 := HY.out.cell 1 _ rfl
  have y2 := HY.out.cell 2 _ rfl
  go_wp2_with fail
  refine HE.out.mono ?_
  rintro e W ⟨rfl, hb⟩
  have HX2 := Aside0.mk (HX.out.belowSize hb)
  have HY2 := Aside0.mk (HY.out.belowSize hb)
  have HB2 := Aside0.mk (HB.out.trans (hb.mono HB.out.size))
  clear hb HE HX HY HB y0 y1 y2
  have y0 := HY2.out.cell 0 _ rfl
  have y1 := HY2.out.cell 1 _ rfl
  have y2 := HY2.out.cell 2 _ rfl
  have x0 := HX2.out.cell 0 _ rfl
  have x1 := HX2.out.cell 1 _ rfl
  have x2 := HX2.out.cell 2 _ rfl
  have f0 := HX2.out.free 0
  have f1 := HX2.out.free 1
  have f2 := HX2.out.free 2
  generalize emptyB (⟨blo, ahi, false⟩ : Rg) = q at *
  cases q with
  | true =>
    have HZ := Aside0.mk (setR W (w.heap.size + 1 + 1) zR _ HX2.out rfl)
    have HB3 := Aside0.mk (set3 HB2.out (w.heap.size + 1 + 1) (by omega) (.string ByteArray.empty) (.string ByteArray.empty) (.bool false))
    go_wp2
    exact bodyPost_ret (v := zR.val) (results_cell_row rfl _ _ _ TRg _ (0, 0) _ rfl HZ.out.out Try.underlying50 rfl (by kernel_rfl)) rfl ⟨by rw [HR.out]; rfl, HB3.out⟩
  | false =>
    have HZ := Aside0.mk (setR W (w.heap.size + 1 + 1) (⟨blo, ahi, false⟩ : Rg) _ HX2.out rfl)
    have HB3 := Aside0.mk (set3 HB2.out (w.heap.size + 1 + 1) (by omega) (.string blo) (.string ahi) (.bool false))
    go_wp2
    exact bodyPost_ret (v := Rg.val (⟨blo, ahi, false⟩ : Rg)) (results_cell_row rfl _ _ _ TRg _ (0, 0) _ rfl HZ.out.out Try.underlying50 rfl (by kernel_rfl)) rfl ⟨by rw [HR.out]; rfl, HB3.out⟩

set_option maxHeartbeats 2000000 in
theorem refBoth_tff (alo ahi blo bhi : ByteArray) (hl : ltB alo blo = false) (w : World) : Calls Try.prog 39 #[.agg #[.string alo, .string ahi, .bool true], .agg #[.string blo, .string bhi, .bool false]] w fun e w' => e = .returned (bothR ⟨alo, ahi, true⟩ ⟨blo, bhi, false⟩).val ∧ Below w.heap.size w w' := by
  have hz := zeroRg
  have HO : outR ⟨alo, ahi, true⟩ ⟨blo, bhi, false⟩ = (⟨alo, bhi, false⟩ : Rg) := by
    unfold outR outHi maxS minS
    simp only [hl]
    rfl
  have HR : Aside0 (bothR ⟨alo, ahi, true⟩ ⟨blo, bhi, false⟩ = if emptyB (⟨alo, bhi, false⟩ : Rg) then zR else (⟨alo, bhi, false⟩ : Rg)) := ⟨by unfold bothR; rw [HO]⟩
  generalize bothR ⟨alo, ahi, true⟩ ⟨blo, bhi, false⟩ = R at *
  clear HO
  have hg : (Op.bytesLess blo.toList alo.toList || blo.toList == alo.toList) = true := by rw [leq_not_lt, hl]; rfl
  clear hl
  obtain ⟨hb4, hx4, hy4⟩ := four w #[.string alo, .string ahi, .bool true] #[.string blo, .string bhi, .bool false] #[.string ByteArray.empty, .string ByteArray.empty, .bool false] #[.string alo, .string bhi, .bool false] TRg
  have HB4 := Aside0.mk hb4
  have HX4 := Aside0.mk hx4
  have HY4 := Aside0.mk hy4
  clear hb4 hx4 hy4
  go_enter Try.func39, Try.ntmps39
  go_upto_region 8 with (fail)
  obtain ⟨V, hV⟩ : ∃ V, V = ((((w.alloc (.cells #[.string alo, .string ahi, .bool true] TRg)).alloc (.cells #[.string blo, .string bhi, .bool false] TRg)).alloc (.cells #[.string ByteArray.empty, .string ByteArray.empty, .bool false] TRg)).alloc (.cells #[.string alo, .string bhi, .bool false] TRg)) := ⟨_, rfl⟩
  rw [← hV] at HB4 HX4 HY4
  rw [← hV]
  clear hV hg
  have HB := HB4
  have HX := HX4
  have HY := HY4
  clear HB4 HX4 HY4
  have HE := Aside0.mk (refEmpty (⟨alo, bhi, false⟩ : Rg) V)
  simp only [Rg.val] at HE
  have y0 := HY.out.cell 0 _ rfl
  have y1 := HY.out.cell 1 _ rfl
  have y2 := HY.out.cell 2 _ rfl
  go_wp2_with fail
  refine HE.out.mono ?_
  rintro e W ⟨rfl, hb⟩
  have HX2 := Aside0.mk (HX.out.belowSize hb)
  have HY2 := Aside0.mk (HY.out.belowSize hb)
  have HB2 := Aside0.mk (HB.out.trans (hb.mono HB.out.size))
  clear hb HE HX HY HB y0 y1 y2
  have y0 := HY2.out.cell 0 _ rfl
  have y1 := HY2.out.cell 1 _ rfl
  have y2 := HY2.out.cell 2 _ rfl
  have x0 := HX2.out.cell 0 _ rfl
  have x1 := HX2.out.cell 1 _ rfl
  have x2 := HX2.out.cell 2 _ rfl
  have f0 := HX2.out.free 0
  have f1 := HX2.out.free 1
  have f2 := HX2.out.free 2
  generalize emptyB (⟨alo, bhi, false⟩ : Rg) = q at *
  cases q with
  | true =>
    have HZ := Aside0.mk (setR W (w.heap.size + 1 + 1) zR _ HX2.out rfl)
    have HB3 := Aside0.mk (set3 HB2.out (w.heap.size + 1 + 1) (by omega) (.string ByteArray.empty) (.string ByteArray.empty) (.bool false))
    go_wp2
    exact bodyPost_ret (v := zR.val) (results_cell_row rfl _ _ _ TRg _ (0, 0) _ rfl HZ.out.out Try.underlying50 rfl (by kernel_rfl)) rfl ⟨by rw [HR.out]; rfl, HB3.out⟩
  | false =>
    have HZ := Aside0.mk (setR W (w.heap.size + 1 + 1) (⟨alo, bhi, false⟩ : Rg) _ HX2.out rfl)
    have HB3 := Aside0.mk (set3 HB2.out (w.heap.size + 1 + 1) (by omega) (.string alo) (.string bhi) (.bool false))
    go_wp2
    exact bodyPost_ret (v := Rg.val (⟨alo, bhi, false⟩ : Rg)) (results_cell_row rfl _ _ _ TRg _ (0, 0) _ rfl HZ.out.out Try.underlying50 rfl (by kernel_rfl)) rfl ⟨by rw [HR.out]; rfl, HB3.out⟩

set_option maxHeartbeats 2000000 in
theorem refBoth_tft (alo ahi blo bhi : ByteArray) (hl : ltB alo blo = true) (w : World) : Calls Try.prog 39 #[.agg #[.string alo, .string ahi, .bool true], .agg #[.string blo, .string bhi, .bool false]] w fun e w' => e = .returned (bothR ⟨alo, ahi, true⟩ ⟨blo, bhi, false⟩).val ∧ Below w.heap.size w w' := by
  have hz := zeroRg
  have HO : outR ⟨alo, ahi, true⟩ ⟨blo, bhi, false⟩ = (⟨blo, bhi, false⟩ : Rg) := by
    unfold outR outHi maxS minS
    simp only [hl]
    rfl
  have HR : Aside0 (bothR ⟨alo, ahi, true⟩ ⟨blo, bhi, false⟩ = if emptyB (⟨blo, bhi, false⟩ : Rg) then zR else (⟨blo, bhi, false⟩ : Rg)) := ⟨by unfold bothR; rw [HO]⟩
  generalize bothR ⟨alo, ahi, true⟩ ⟨blo, bhi, false⟩ = R at *
  clear HO
  have hg : (Op.bytesLess blo.toList alo.toList || blo.toList == alo.toList) = false := by rw [leq_not_lt, hl]; rfl
  clear hl
  obtain ⟨hb4, hx4, hy4⟩ := four w #[.string alo, .string ahi, .bool true] #[.string blo, .string bhi, .bool false] #[.string ByteArray.empty, .string ByteArray.empty, .bool false] #[.string blo, .string bhi, .bool false] TRg
  have HB4 := Aside0.mk hb4
  have HX4 := Aside0.mk hx4
  have HY4 := Aside0.mk hy4
  clear hb4 hx4 hy4
  go_enter Try.func39, Try.ntmps39
  go_upto_region 8 with (fail)
  obtain ⟨V, hV⟩ : ∃ V, V = ((((w.alloc (.cells #[.string alo, .string ahi, .bool true] TRg)).alloc (.cells #[.string blo, .string bhi, .bool false] TRg)).alloc (.cells #[.string ByteArray.empty, .string ByteArray.empty, .bool false] TRg)).alloc (.cells #[.string blo, .string bhi, .bool false] TRg)) := ⟨_, rfl⟩
  rw [← hV] at HB4 HX4 HY4
  rw [← hV]
  clear hV hg
  have HB := HB4
  have HX := HX4
  have HY := HY4
  clear HB4 HX4 HY4
  have HE := Aside0.mk (refEmpty (⟨blo, bhi, false⟩ : Rg) V)
  simp only [Rg.val] at HE
  have y0 := HY.out.cell 0 _ rfl
  have y1 := HY.out.cell 1 _ rfl
  have y2 := HY.out.cell 2 _ rfl
  go_wp2_with fail
  refine HE.out.mono ?_
  rintro e W ⟨rfl, hb⟩
  have HX2 := Aside0.mk (HX.out.belowSize hb)
  have HY2 := Aside0.mk (HY.out.belowSize hb)
  have HB2 := Aside0.mk (HB.out.trans (hb.mono HB.out.size))
  clear hb HE HX HY HB y0 y1 y2
  have y0 := HY2.out.cell 0 _ rfl
  have y1 := HY2.out.cell 1 _ rfl
  have y2 := HY2.out.cell 2 _ rfl
  have x0 := HX2.out.cell 0 _ rfl
  have x1 := HX2.out.cell 1 _ rfl
  have x2 := HX2.out.cell 2 _ rfl
  have f0 := HX2.out.free 0
  have f1 := HX2.out.free 1
  have f2 := HX2.out.free 2
  generalize emptyB (⟨blo, bhi, false⟩ : Rg) = q at *
  cases q with
  | true =>
    have HZ := Aside0.mk (setR W (w.heap.size + 1 + 1) zR _ HX2.out rfl)
    have HB3 := Aside0.mk (set3 HB2.out (w.heap.size + 1 + 1) (by omega) (.string ByteArray.empty) (.string ByteArray.empty) (.bool false))
    go_wp2
    exact bodyPost_ret (v := zR.val) (results_cell_row rfl _ _ _ TRg _ (0, 0) _ rfl HZ.out.out Try.underlying50 rfl (by kernel_rfl)) rfl ⟨by rw [HR.out]; rfl, HB3.out⟩
  | false =>
    have HZ := Aside0.mk (setR W (w.heap.size + 1 + 1) (⟨blo, bhi, false⟩ : Rg) _ HX2.out rfl)
    have HB3 := Aside0.mk (set3 HB2.out (w.heap.size + 1 + 1) (by omega) (.string blo) (.string bhi) (.bool false))
    go_wp2
    exact bodyPost_ret (v := Rg.val (⟨blo, bhi, false⟩ : Rg)) (results_cell_row rfl _ _ _ TRg _ (0, 0) _ rfl HZ.out.out Try.underlying50 rfl (by kernel_rfl)) rfl ⟨by rw [HR.out]; rfl, HB3.out⟩

set_option maxHeartbeats 2000000 in
theorem refBoth_ttf (alo ahi blo bhi : ByteArray) (hl : ltB alo blo = false) (w : World) : Calls Try.prog 39 #[.agg #[.string alo, .string ahi, .bool true], .agg #[.string blo, .string bhi, .bool true]] w fun e w' => e = .returned (bothR ⟨alo, ahi, true⟩ ⟨blo, bhi, true⟩).val ∧ Below w.heap.size w w' := by
  have hz := zeroRg
  have HO : outR ⟨alo, ahi, true⟩ ⟨blo, bhi, true⟩ = (⟨alo, (⟨#[]⟩ : ByteArray), true⟩ : Rg) := by
    unfold outR outHi maxS minS
    simp only [hl]
    rfl
  have HR : Aside0 (bothR ⟨alo, ahi, true⟩ ⟨blo, bhi, true⟩ = if emptyB (⟨alo, (⟨#[]⟩ : ByteArray), true⟩ : Rg) then zR else (⟨alo, (⟨#[]⟩ : ByteArray), true⟩ : Rg)) := ⟨by unfold bothR; rw [HO]⟩
  generalize bothR ⟨alo, ahi, true⟩ ⟨blo, bhi, true⟩ = R at *
  clear HO
  have hg : (Op.bytesLess blo.toList alo.toList || blo.toList == alo.toList) = true := by rw [leq_not_lt, hl]; rfl
  clear hl
  obtain ⟨hb4, hx4, hy4⟩ := four w #[.string alo, .string ahi, .bool true] #[.string blo, .string bhi, .bool true] #[.string ByteArray.empty, .string ByteArray.empty, .bool false] #[.string alo, .string ⟨#[]⟩, .bool true] TRg
  have HB4 := Aside0.mk hb4
  have HX4 := Aside0.mk hx4
  have HY4 := Aside0.mk hy4
  clear hb4 hx4 hy4
  go_enter Try.func39, Try.ntmps39
  go_upto_region 8 with (fail)
  obtain ⟨V, hV⟩ : ∃ V, V = ((((w.alloc (.cells #[.string alo, .string ahi, .bool true] TRg)).alloc (.cells #[.string blo, .string bhi, .bool true] TRg)).alloc (.cells #[.string ByteArray.empty, .string ByteArray.empty, .bool false] TRg)).alloc (.cells #[.string alo, .string ⟨#[]⟩, .bool true] TRg)) := ⟨_, rfl⟩
  rw [← hV] at HB4 HX4 HY4
  rw [← hV]
  clear hV hg
  have HB := HB4
  have HX := HX4
  have HY := HY4
  clear HB4 HX4 HY4
  have HE := Aside0.mk (refEmpty (⟨alo, (⟨#[]⟩ : ByteArray), true⟩ : Rg) V)
  simp only [Rg.val] at HE
  have y0 := HY.out.cell 0 _ rfl
  have y1 := HY.out.cell 1 _ rfl
  have y2 := HY.out.cell 2 _ rfl
  go_wp2_with fail
  refine HE.out.mono ?_
  rintro e W ⟨rfl, hb⟩
  have HX2 := Aside0.mk (HX.out.belowSize hb)
  have HY2 := Aside0.mk (HY.out.belowSize hb)
  have HB2 := Aside0.mk (HB.out.trans (hb.mono HB.out.size))
  clear hb HE HX HY HB y0 y1 y2
  have y0 := HY2.out.cell 0 _ rfl
  have y1 := HY2.out.cell 1 _ rfl
  have y2 := HY2.out.cell 2 _ rfl
  have x0 := HX2.out.cell 0 _ rfl
  have x1 := HX2.out.cell 1 _ rfl
  have x2 := HX2.out.cell 2 _ rfl
  have f0 := HX2.out.free 0
  have f1 := HX2.out.free 1
  have f2 := HX2.out.free 2
  generalize emptyB (⟨alo, (⟨#[]⟩ : ByteArray), true⟩ : Rg) = q at *
  cases q with
  | true =>
    have HZ := Aside0.mk (setR W (w.heap.size + 1 + 1) zR _ HX2.out rfl)
    have HB3 := Aside0.mk (set3 HB2.out (w.heap.size + 1 + 1) (by omega) (.string ByteArray.empty) (.string ByteArray.empty) (.bool false))
    go_wp2
    exact bodyPost_ret (v := zR.val) (results_cell_row rfl _ _ _ TRg _ (0, 0) _ rfl HZ.out.out Try.underlying50 rfl (by kernel_rfl)) rfl ⟨by rw [HR.out]; rfl, HB3.out⟩
  | false =>
    have HZ := Aside0.mk (setR W (w.heap.size + 1 + 1) (⟨alo, (⟨#[]⟩ : ByteArray), true⟩ : Rg) _ HX2.out rfl)
    have HB3 := Aside0.mk (set3 HB2.out (w.heap.size + 1 + 1) (by omega) (.string alo) (.string ⟨#[]⟩) (.bool true))
    go_wp2
    exact bodyPost_ret (v := Rg.val (⟨alo, (⟨#[]⟩ : ByteArray), true⟩ : Rg)) (results_cell_row rfl _ _ _ TRg _ (0, 0) _ rfl HZ.out.out Try.underlying50 rfl (by kernel_rfl)) rfl ⟨by rw [HR.out]; rfl, HB3.out⟩

set_option maxHeartbeats 2000000 in
theorem refBoth_ttt (alo ahi blo bhi : ByteArray) (hl : ltB alo blo = true) (w : World) : Calls Try.prog 39 #[.agg #[.string alo, .string ahi, .bool true], .agg #[.string blo, .string bhi, .bool true]] w fun e w' => e = .returned (bothR ⟨alo, ahi, true⟩ ⟨blo, bhi, true⟩).val ∧ Below w.heap.size w w' := by
  have hz := zeroRg
  have HO : outR ⟨alo, ahi, true⟩ ⟨blo, bhi, true⟩ = (⟨blo, (⟨#[]⟩ : ByteArray), true⟩ : Rg) := by
    unfold outR outHi maxS minS
    simp only [hl]
    rfl
  have HR : Aside0 (bothR ⟨alo, ahi, true⟩ ⟨blo, bhi, true⟩ = if emptyB (⟨blo, (⟨#[]⟩ : ByteArray), true⟩ : Rg) then zR else (⟨blo, (⟨#[]⟩ : ByteArray), true⟩ : Rg)) := ⟨by unfold bothR; rw [HO]⟩
  generalize bothR ⟨alo, ahi, true⟩ ⟨blo, bhi, true⟩ = R at *
  clear HO
  have hg : (Op.bytesLess blo.toList alo.toList || blo.toList == alo.toList) = false := by rw [leq_not_lt, hl]; rfl
  clear hl
  obtain ⟨hb4, hx4, hy4⟩ := four w #[.string alo, .string ahi, .bool true] #[.string blo, .string bhi, .bool true] #[.string ByteArray.empty, .string ByteArray.empty, .bool false] #[.string blo, .string ⟨#[]⟩, .bool true] TRg
  have HB4 := Aside0.mk hb4
  have HX4 := Aside0.mk hx4
  have HY4 := Aside0.mk hy4
  clear hb4 hx4 hy4
  go_enter Try.func39, Try.ntmps39
  go_upto_region 8 with (fail)
  obtain ⟨V, hV⟩ : ∃ V, V = ((((w.alloc (.cells #[.string alo, .string ahi, .bool true] TRg)).alloc (.cells #[.string blo, .string bhi, .bool true] TRg)).alloc (.cells #[.string ByteArray.empty, .string ByteArray.empty, .bool false] TRg)).alloc (.cells #[.string blo, .string ⟨#[]⟩, .bool true] TRg)) := ⟨_, rfl⟩
  rw [← hV] at HB4 HX4 HY4
  rw [← hV]
  clear hV hg
  have HB := HB4
  have HX := HX4
  have HY := HY4
  clear HB4 HX4 HY4
  have HE := Aside0.mk (refEmpty (⟨blo, (⟨#[]⟩ : ByteArray), true⟩ : Rg) V)
  simp only [Rg.val] at HE
  have y0 := HY.out.cell 0 _ rfl
  have y1 := HY.out.cell 1 _ rfl
  have y2 := HY.out.cell 2 _ rfl
  go_wp2_with fail
  refine HE.out.mono ?_
  rintro e W ⟨rfl, hb⟩
  have HX2 := Aside0.mk (HX.out.belowSize hb)
  have HY2 := Aside0.mk (HY.out.belowSize hb)
  have HB2 := Aside0.mk (HB.out.trans (hb.mono HB.out.size))
  clear hb HE HX HY HB y0 y1 y2
  have y0 := HY2.out.cell 0 _ rfl
  have y1 := HY2.out.cell 1 _ rfl
  have y2 := HY2.out.cell 2 _ rfl
  have x0 := HX2.out.cell 0 _ rfl
  have x1 := HX2.out.cell 1 _ rfl
  have x2 := HX2.out.cell 2 _ rfl
  have f0 := HX2.out.free 0
  have f1 := HX2.out.free 1
  have f2 := HX2.out.free 2
  generalize emptyB (⟨blo, (⟨#[]⟩ : ByteArray), true⟩ : Rg) = q at *
  cases q with
  | true =>
    have HZ := Aside0.mk (setR W (w.heap.size + 1 + 1) zR _ HX2.out rfl)
    have HB3 := Aside0.mk (set3 HB2.out (w.heap.size + 1 + 1) (by omega) (.string ByteArray.empty) (.string ByteArray.empty) (.bool false))
    go_wp2
    exact bodyPost_ret (v := zR.val) (results_cell_row rfl _ _ _ TRg _ (0, 0) _ rfl HZ.out.out Try.underlying50 rfl (by kernel_rfl)) rfl ⟨by rw [HR.out]; rfl, HB3.out⟩
  | false =>
    have HZ := Aside0.mk (setR W (w.heap.size + 1 + 1) (⟨blo, (⟨#[]⟩ : ByteArray), true⟩ : Rg) _ HX2.out rfl)
    have HB3 := Aside0.mk (set3 HB2.out (w.heap.size + 1 + 1) (by omega) (.string blo) (.string ⟨#[]⟩) (.bool true))
    go_wp2
    exact bodyPost_ret (v := Rg.val (⟨blo, (⟨#[]⟩ : ByteArray), true⟩ : Rg)) (results_cell_row rfl _ _ _ TRg _ (0, 0) _ rfl HZ.out.out Try.underlying50 rfl (by kernel_rfl)) rfl ⟨by rw [HR.out]; rfl, HB3.out⟩

theorem refBoth (a b : Rg) (w : World) : Calls Try.prog 39 #[a.val, b.val] w fun e w' => e = .returned (bothR a b).val ∧ Below w.heap.size w w' := by
  obtain ⟨alo, ahi, ao⟩ := a
  obtain ⟨blo, bhi, bo⟩ := b
  cases ao with
  | false => cases bo with
    | false =>
      cases hl : ltB alo blo with
      | false => cases hh : ltB bhi ahi with
        | false => exact refBoth_ffff alo ahi blo bhi hl hh w
        | true => exact refBoth_ffft alo ahi blo bhi hl hh w
      | true => cases hh : ltB bhi ahi with
        | false => exact refBoth_fftf alo ahi blo bhi hl hh w
        | true => exact refBoth_fftt alo ahi blo bhi hl hh w
    | true => cases hl : ltB alo blo with
      | false => exact refBoth_ftf alo ahi blo bhi hl w
      | true => exact refBoth_ftt alo ahi blo bhi hl w
  | true => cases bo with
    | false => cases hl : ltB alo blo with
      | false => exact refBoth_tff alo ahi blo bhi hl w
      | true => exact refBoth_tft alo ahi blo bhi hl w
    | true => cases hl : ltB alo blo with
      | false => exact refBoth_ttf alo ahi blo bhi hl w
      | true => exact refBoth_ttt alo ahi blo bhi hl w

theorem toList_empty : ByteArray.empty.toList = [] := by rw [ByteArray.toList_eq]; rfl
theorem toList_nil (a : ByteArray) : a.toList = [] ↔ a = ByteArray.empty := by
  constructor
  · intro h
    apply key_inj
    rw [h, toList_empty]
  · rintro rfl
    exact toList_empty
theorem meet_zero (a b : Rg) : (decide ((bothR a b).lo.toList = []) && (decide ((bothR a b).hi.toList = []) && !(bothR a b).opn)) = emptyB (outR a b) := by
  unfold bothR
  cases h : emptyB (outR a b) with
  | true => rw [if_pos rfl]; simp [zR, toList_empty]
  | false =>
    rw [if_neg (by simp)]
    unfold emptyB at h
    cases ho : (outR a b).opn with
    | true => simp
    | false =>
      rw [ho] at h
      have h2 : ltB (outR a b).lo (outR a b).hi = true := by simpa using h
      have : (outR a b).hi.toList ≠ [] := by
        intro e
        unfold ltB at h2
        rw [e, bl_nil] at h2
        cases h2
      simp [this]
theorem refMeet (a b : Rg) (w : World) : Calls Try.prog 23 #[a.val, b.val] w fun e w' => e = .returned (.bool (meetB a b)) ∧ Below w.heap.size w w' := by
  have hz := zeroRg
  have HM := Aside0.mk (meet_zero a b)
  obtain ⟨q, hq⟩ : ∃ q, q = emptyB (outR a b) := ⟨_, rfl⟩
  have HQ : Aside0 (meetB a b = !q) := ⟨by rw [hq]; rfl⟩
  rw [← hq] at HM
  clear hq
  rw [HQ.out]
  clear HQ
  obtain ⟨V, hV⟩ : ∃ V, V = ((w.alloc (.cells a.cells.toArray TRg)).alloc (.cells b.cells.toArray TRg)) := ⟨_, rfl⟩
  have HB : Aside0 (Below w.heap.size w V) := ⟨by rw [hV]; exact ((Below.refl _ _).alloc (Nat.le_refl _) _).alloc (by simp) _⟩
  have hx : Blk V w.heap.size a.cells TRg := by rw [hV]; exact (Blk.newA w _ _).alloc _
  have hy : Blk V (w.heap.size + 1) b.cells TRg := by
    have := Blk.newA (w.alloc (.cells a.cells.toArray TRg)) b.cells.toArray TRg
    rw [show (w.alloc (.cells a.cells.toArray TRg)).heap.size = w.heap.size + 1 by simp] at this
    rw [hV]
    exact this
  have HC := Aside0.mk (refBoth a b V)
  generalize bothR a b = R at *
  obtain ⟨alo, ahi, ao⟩ := a
  obtain ⟨blo, bhi, bo⟩ := b
  obtain ⟨rlo, rhi, ro⟩ := R
  simp only [Rg.val] at HC ⊢
  simp only [Rg.cells] at hx hy hV
  have HX := Aside0.mk hx
  have HY := Aside0.mk hy
  clear hx hy
  go_enter Try.func23, Try.ntmps23
  go_upto_region 1 with (fail)
  rw [← hV]
  clear hV
  have x0 := HX.out.cell 0 _ rfl
  have x1 := HX.out.cell 1 _ rfl
  have x2 := HX.out.cell 2 _ rfl
  have y0 := HY.out.cell 0 _ rfl
  have y1 := HY.out.cell 1 _ rfl
  have y2 := HY.out.cell 2 _ rfl
  go_wp2_with fail
  refine HC.out.mono ?_
  rintro e w1 ⟨rfl, hb1⟩
  have HB1 := Aside0.mk (HB.out.trans (hb1.mono HB.out.size))
  clear hb1 HC HX HY HB x0 x1 x2 y0 y1 y2
  go_wp2
  all_goals
    go_ret
    have hm := HM.out
    refine ⟨congrArg (fun b => Ending.returned (Value.bool b)) (?_ : _ = !q), HB1.out⟩
    clear hz
    simp_all
end Go.Proofs.Ytkgabeloofjohaa.Gap
