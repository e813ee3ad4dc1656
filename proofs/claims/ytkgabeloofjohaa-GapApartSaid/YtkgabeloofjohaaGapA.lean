/- Layer 13: ranges that meet: the program's code.Meet and the document's (vellumref02). -/
import Derived.Test.YtkgabeloofjohaaOrd
import Derived.IntWalk
namespace Go.Proofs.Ytkgabeloofjohaa.Gap
set_option linter.unusedVariables false
set_option linter.unusedSimpArgs false
open Go.RowKit Go.Proofs.YtkgabeloofjohaaW.PrintWords Go.Proofs.Ytkgabeloofjohaa.Kit

abbrev TRg : TypeId := 50
abbrev TH : TypeId := 52
structure Rg where
  lo : ByteArray
  hi : ByteArray
  opn : Bool
def Rg.val (r : Rg) : Value := .agg #[.string r.lo, .string r.hi, .bool r.opn]
def Rg.cells (r : Rg) : List Value := [.string r.lo, .string r.hi, .bool r.opn]
theorem zeroRg (W : World) : (zeroValue TRg).run Try.prog W = .ok (.agg #[.string ByteArray.empty, .string ByteArray.empty, .bool false]) W := by kernel_rfl
/-- No key can be in it. -/
def emptyB (r : Rg) : Bool := !r.opn && !ltB r.lo r.hi

theorem codeEmpty (r : Rg) (w : World) : Calls Try.prog 64 #[r.val] w fun e w' => e = .returned (.bool (emptyB r)) ∧ Below w.heap.size w w' := by
  obtain ⟨lo, hi, opn⟩ := r
  simp only [Rg.val, emptyB]
  have HB : Aside0 (Below w.heap.size w (w.alloc (.cells #[.string lo, .string hi, .bool opn] TRg))) := ⟨(Below.refl _ _).alloc (Nat.le_refl _) _⟩
  cases opn with
  | true =>
    go_enter Try.func64, Try.ntmps64
    go_wp2
    go_ret
    exact ⟨rfl, HB.out⟩
  | false =>
    cases hl : ltB lo hi with
    | true =>
      have hl' : Op.bytesLess lo.toList hi.toList = true := hl
      clear hl
      go_enter Try.func64, Try.ntmps64
      go_wp2
      go_ret
      exact ⟨rfl, HB.out⟩
    | false =>
      have hl' : Op.bytesLess lo.toList hi.toList = false := hl
      clear hl
      go_enter Try.func64, Try.ntmps64
      go_wp2
      go_ret
      exact ⟨rfl, HB.out⟩

theorem refEmpty (r : Rg) (w : World) : Calls Try.prog 50 #[r.val] w fun e w' => e = .returned (.bool (emptyB r)) ∧ Below w.heap.size w w' := by
  obtain ⟨lo, hi, opn⟩ := r
  simp only [Rg.val, emptyB]
  have HB : Aside0 (Below w.heap.size w (w.alloc (.cells #[.string lo, .string hi, .bool opn] TRg))) := ⟨(Below.refl _ _).alloc (Nat.le_refl _) _⟩
  cases opn with
  | true =>
    go_enter Try.func50, Try.ntmps50
    go_wp2
    go_ret
    exact ⟨rfl, HB.out⟩
  | false =>
    have HL := Aside0.mk (leq_not_lt hi lo)
    obtain ⟨q, hq⟩ : ∃ q, q = (!ltB lo hi) := ⟨_, rfl⟩
    rw [← hq] at HL ⊢
    clear hq
    go_enter Try.func50, Try.ntmps50
    go_wp2
    go_ret
    refine ⟨?_, HB.out⟩
    exact congrArg (fun b => Ending.returned (Value.bool b)) (HL.out.trans (by simp))

/-- The keys of both. -/
def outHi (a b : Rg) : ByteArray := if a.opn && b.opn then ByteArray.empty else if a.opn then b.hi else if b.opn then a.hi else minS a.hi b.hi
def outR (a b : Rg) : Rg := ⟨maxS a.lo b.lo, outHi a b, a.opn && b.opn⟩
def zR : Rg := ⟨ByteArray.empty, ByteArray.empty, false⟩
def bothR (a b : Rg) : Rg := if emptyB (outR a b) then zR else outR a b
theorem setR (W : World) (g : Nat) (x : Rg) (cs : List Value) (h : Blk W g cs TRg) (hl : cs.length = 3) : Blk (((W.setCell ⟨g, 0, none⟩ (.string x.lo)).setCell ⟨g, 1, none⟩ (.string x.hi)).setCell ⟨g, 2, none⟩ (.bool x.opn)) g x.cells TRg := by
  match cs, hl with
  | [a, b, c], _ => exact ((h.put 0 _).put 1 _).put 2 _
theorem set3 {B : Nat} {w W : World} (h : Below B w W) (g : Nat) (hg : B ≤ g) (a b c : Value) : Below B w (((W.setCell ⟨g, 0, none⟩ a).setCell ⟨g, 1, none⟩ b).setCell ⟨g, 2, none⟩ c) :=
  ((h.setCell (p := ⟨g, 0, none⟩) hg a).setCell (p := ⟨g, 1, none⟩) hg b).setCell (p := ⟨g, 2, none⟩) hg c

/-- Four new blocks, one behind the other. -/
theorem four (w : World) (a b c d : Array Value) (t : TypeId) :
    Below w.heap.size w ((((w.alloc (.cells a t)).alloc (.cells b t)).alloc (.cells c t)).alloc (.cells d t)) ∧
      Blk ((((w.alloc (.cells a t)).alloc (.cells b t)).alloc (.cells c t)).alloc (.cells d t)) (w.heap.size + 1 + 1) c.toList t ∧
      Blk ((((w.alloc (.cells a t)).alloc (.cells b t)).alloc (.cells c t)).alloc (.cells d t)) (w.heap.size + 1 + 1 + 1) d.toList t := by
  have e2 : ((w.alloc (.cells a t)).alloc (.cells b t)).heap.size = w.heap.size + 1 + 1 := by simp
  have e3 : (((w.alloc (.cells a t)).alloc (.cells b t)).alloc (.cells c t)).heap.size = w.heap.size + 1 + 1 + 1 := by simp
  refine ⟨((((Below.refl _ _).alloc (Nat.le_refl _) _).alloc (by simp) _).alloc (by simp; omega) _).alloc (by simp; omega) _, ?_, ?_⟩
  · have := (Blk.newA ((w.alloc (.cells a t)).alloc (.cells b t)) c t).alloc (.cells d t)
    rw [e2] at this
    exact this
  · have := Blk.newA (((w.alloc (.cells a t)).alloc (.cells b t)).alloc (.cells c t)) d t
    rw [e3] at this
    exact this

set_option maxHeartbeats 2000000 in
theorem codeBoth_ff (alo ahi blo bhi : ByteArray) (w : World) : Calls Try.prog 65 #[.agg #[.string alo, .string ahi, .bool false], .agg #[.string blo, .string bhi, .bool false]] w fun e w' => e = .returned (bothR ⟨alo, ahi, false⟩ ⟨blo, bhi, false⟩).val ∧ Below w.heap.size w w' := by
  have hz := zeroRg
  have hmx := fun W => run_max_str (P := Try.prog) #[9, 9] 9 alo blo W
  have hmn := fun W => run_min_str (P := Try.prog) #[9, 9] 9 ahi bhi W
  have HO : Aside0 (outR ⟨alo, ahi, false⟩ ⟨blo, bhi, false⟩ = (⟨maxS alo blo, minS ahi bhi, false⟩ : Rg)) := ⟨rfl⟩
  have HR : Aside0 (bothR ⟨alo, ahi, false⟩ ⟨blo, bhi, false⟩ = if emptyB (outR ⟨alo, ahi, false⟩ ⟨blo, bhi, false⟩) then zR else outR ⟨alo, ahi, false⟩ ⟨blo, bhi, false⟩) := ⟨rfl⟩
  generalize bothR ⟨alo, ahi, false⟩ ⟨blo, bhi, false⟩ = R at *
  generalize outR ⟨alo, ahi, false⟩ ⟨blo, bhi, false⟩ = O at *
  obtain ⟨hb4, hx4, hy4⟩ := four w #[.string alo, .string ahi, .bool false] #[.string blo, .string bhi, .bool false] #[.string ByteArray.empty, .string ByteArray.empty, .bool false] #[.string (maxS alo blo), .string (minS ahi bhi), .bool false] TRg
  have HB4 := Aside0.mk hb4
  have HX4 := Aside0.mk hx4
  have HY4 := Aside0.mk hy4
  clear hb4 hx4 hy4
  go_enter Try.func65, Try.ntmps65
  go_upto_region 8 with (fail)
  obtain ⟨V, hV⟩ : ∃ V, V = ((((w.alloc (.cells #[.string alo, .string ahi, .bool false] TRg)).alloc (.cells #[.string blo, .string bhi, .bool false] TRg)).alloc (.cells #[.string ByteArray.empty, .string ByteArray.empty, .bool false] TRg)).alloc (.cells #[.string (maxS alo blo), .string (minS ahi bhi), .bool false] TRg)) := ⟨_, rfl⟩
  rw [← hV] at HB4 HX4 HY4
  rw [← hV]
  clear hV
  have HB := HB4
  have HX := HX4
  have HY := HY4
  clear HB4 HX4 HY4 hmx hmn
  have HE := Aside0.mk (codeEmpty O V)
  rw [HO.out] at HE
  simp only [Rg.val] at HE
  have y0 := HY.out.cell 0 _ rfl
  have y1 := HY.out.cell 1 _ rfl
  have y2 := HY.out.cell 2 _ rfl
  go_wp2_with fail
  refine HE.out.mono ?_
  rintro e W ⟨rfl, hb⟩
  rw [HO.out] at HR
  have HX2 := Aside0.mk (HX.out.belowSize hb)
  have HY2 := Aside0.mk (HY.out.belowSize hb)
  have HB2 := Aside0.mk (HB.out.trans (hb.mono HB.out.size))
  clear hb HE HX HY HB y0 y1 y2
  have y0 := HY2.out.cell 0 _ rfl
  have y1 := HY2.out.cell 1 _ rfl
  have y2 := HY2.out.cell 2 _ rfl
  have x0 := HX2.out.cell 0 _ rfl
  have x1 := HX2.out.cell 1 _ rfl
  have x2 := HX2.out.cell 2 _ rfl
  have f0 := HX2.out.free 0
  have f1 := HX2.out.free 1
  have f2 := HX2.out.free 2
  generalize hq : emptyB (⟨maxS alo blo, minS ahi bhi, false⟩ : Rg) = q at *
  clear hq
  cases q with
  | true =>
    have HR2 : Aside0 (R = zR) := ⟨by rw [HR.out]; rfl⟩
    have HZ := Aside0.mk (setR W (w.heap.size + 1 + 1) zR _ HX2.out rfl)
    have HB3 := Aside0.mk (set3 HB2.out (w.heap.size + 1 + 1) (by omega) (.string ByteArray.empty) (.string ByteArray.empty) (.bool false))
    go_wp2
    exact bodyPost_ret (v := zR.val) (results_cell_row rfl _ _ _ TRg _ (0, 0) _ rfl HZ.out.out Try.underlying50 rfl (by kernel_rfl)) rfl ⟨by rw [HR2.out], HB3.out⟩
  | false =>
    have HR2 : Aside0 (R = (⟨maxS alo blo, minS ahi bhi, false⟩ : Rg)) := ⟨by rw [HR.out]; rfl⟩
    have HZ := Aside0.mk (setR W (w.heap.size + 1 + 1) (⟨maxS alo blo, minS ahi bhi, false⟩ : Rg) _ HX2.out rfl)
    have HB3 := Aside0.mk (set3 HB2.out (w.heap.size + 1 + 1) (by omega) (.string (maxS alo blo)) (.string (minS ahi bhi)) (.bool false))
    go_wp2
    exact bodyPost_ret (v := Rg.val (⟨maxS alo blo, minS ahi bhi, false⟩ : Rg)) (results_cell_row rfl _ _ _ TRg _ (0, 0) _ rfl HZ.out.out Try.underlying50 rfl (by kernel_rfl)) rfl ⟨by rw [HR2.out], HB3.out⟩

set_option maxHeartbeats 2000000 in
theorem codeBoth_tf (alo ahi blo bhi : ByteArray) (w : World) : Calls Try.prog 65 #[.agg #[.string alo, .string ahi, .bool true], .agg #[.string blo, .string bhi, .bool false]] w fun e w' => e = .returned (bothR ⟨alo, ahi, true⟩ ⟨blo, bhi, false⟩).val ∧ Below w.heap.size w w' := by
  have hz := zeroRg
  have hmx := fun W => run_max_str (P := Try.prog) #[9, 9] 9 alo blo W
  have HO : Aside0 (outR ⟨alo, ahi, true⟩ ⟨blo, bhi, false⟩ = (⟨maxS alo blo, bhi, false⟩ : Rg)) := ⟨rfl⟩
  have HR : Aside0 (bothR ⟨alo, ahi, true⟩ ⟨blo, bhi, false⟩ = if emptyB (outR ⟨alo, ahi, true⟩ ⟨blo, bhi, false⟩) then zR else outR ⟨alo, ahi, true⟩ ⟨blo, bhi, false⟩) := ⟨rfl⟩
  generalize bothR ⟨alo, ahi, true⟩ ⟨blo, bhi, false⟩ = R at *
  generalize outR ⟨alo, ahi, true⟩ ⟨blo, bhi, false⟩ = O at *
  obtain ⟨hb4, hx4, hy4⟩ := four w #[.string alo, .string ahi, .bool true] #[.string blo, .string bhi, .bool false] #[.string ByteArray.empty, .string ByteArray.empty, .bool false] #[.string (maxS alo blo), .string (bhi), .bool false] TRg
  have HB4 := Aside0.mk hb4
  have HX4 := Aside0.mk hx4
  have HY4 := Aside0.mk hy4
  clear hb4 hx4 hy4
  go_enter Try.func65, Try.ntmps65
  go_upto_region 8 with (fail)
  obtain ⟨V, hV⟩ : ∃ V, V = ((((w.alloc (.cells #[.string alo, .string ahi, .bool true] TRg)).alloc (.cells #[.string blo, .string bhi, .bool false] TRg)).alloc (.cells #[.string ByteArray.empty, .string ByteArray.empty, .bool false] TRg)).alloc (.cells #[.string (maxS alo blo), .string (bhi), .bool false] TRg)) := ⟨_, rfl⟩
  rw [← hV] at HB4 HX4 HY4
  rw [← hV]
  clear hV
  have HB := HB4
  have HX := HX4
  have HY := HY4
  clear HB4 HX4 HY4 hmx
  have HE := Aside0.mk (codeEmpty O V)
  rw [HO.out] at HE
  simp only [Rg.val] at HE
  have y0 := HY.out.cell 0 _ rfl
  have y1 := HY.out.cell 1 _ rfl
  have y2 := HY.out.cell 2 _ rfl
  go_wp2_with fail
  refine HE.out.mono ?_
  rintro e W ⟨rfl, hb⟩
  rw [HO.out] at HR
  have HX2 := Aside0.mk (HX.out.belowSize hb)
  have HY2 := Aside0.mk (HY.out.belowSize hb)
  have HB2 := Aside0.mk (HB.out.trans (hb.mono HB.out.size))
  clear hb HE HX HY HB y0 y1 y2
  have y0 := HY2.out.cell 0 _ rfl
  have y1 := HY2.out.cell 1 _ rfl
  have y2 := HY2.out.cell 2 _ rfl
  have x0 := HX2.out.cell 0 _ rfl
  have x1 := HX2.out.cell 1 _ rfl
  have x2 := HX2.out.cell 2 _ rfl
  have f0 := HX2.out.free 0
  have f1 := HX2.out.free 1
  have f2 := HX2.out.free 2
  generalize hq : emptyB (⟨maxS alo blo, bhi, false⟩ : Rg) = q at *
  clear hq
  cases q with
  | true =>
    have HR2 : Aside0 (R = zR) := ⟨by rw [HR.out]; rfl⟩
    have HZ := Aside0.mk (setR W (w.heap.size + 1 + 1) zR _ HX2.out rfl)
    have HB3 := Aside0.mk (set3 HB2.out (w.heap.size + 1 + 1) (by omega) (.string ByteArray.empty) (.string ByteArray.empty) (.bool false))
    go_wp2
    exact bodyPost_ret (v := zR.val) (results_cell_row rfl _ _ _ TRg _ (0, 0) _ rfl HZ.out.out Try.underlying50 rfl (by kernel_rfl)) rfl ⟨by rw [HR2.out], HB3.out⟩
  | false =>
    have HR2 : Aside0 (R = (⟨maxS alo blo, bhi, false⟩ : Rg)) := ⟨by rw [HR.out]; rfl⟩
    have HZ := Aside0.mk (setR W (w.heap.size + 1 + 1) (⟨maxS alo blo, bhi, false⟩ : Rg) _ HX2.out rfl)
    have HB3 := Aside0.mk (set3 HB2.out (w.heap.size + 1 + 1) (by omega) (.string (maxS alo blo)) (.string (bhi)) (.bool false))
    go_wp2
    exact bodyPost_ret (v := Rg.val (⟨maxS alo blo, bhi, false⟩ : Rg)) (results_cell_row rfl _ _ _ TRg _ (0, 0) _ rfl HZ.out.out Try.underlying50 rfl (by kernel_rfl)) rfl ⟨by rw [HR2.out], HB3.out⟩

set_option maxHeartbeats 2000000 in
theorem codeBoth_ft (alo ahi blo bhi : ByteArray) (w : World) : Calls Try.prog 65 #[.agg #[.string alo, .string ahi, .bool false], .agg #[.string blo, .string bhi, .bool true]] w fun e w' => e = .returned (bothR ⟨alo, ahi, false⟩ ⟨blo, bhi, true⟩).val ∧ Below w.heap.size w w' := by
  have hz := zeroRg
  have hmx := fun W => run_max_str (P := Try.prog) #[9, 9] 9 alo blo W
  have HO : Aside0 (outR ⟨alo, ahi, false⟩ ⟨blo, bhi, true⟩ = (⟨maxS alo blo, ahi, false⟩ : Rg)) := ⟨rfl⟩
  have HR : Aside0 (bothR ⟨alo, ahi, false⟩ ⟨blo, bhi, true⟩ = if emptyB (outR ⟨alo, ahi, false⟩ ⟨blo, bhi, true⟩) then zR else outR ⟨alo, ahi, false⟩ ⟨blo, bhi, true⟩) := ⟨rfl⟩
  generalize bothR ⟨alo, ahi, false⟩ ⟨blo, bhi, true⟩ = R at *
  generalize outR ⟨alo, ahi, false⟩ ⟨blo, bhi, true⟩ = O at *
  obtain ⟨hb4, hx4, hy4⟩ := four w #[.string alo, .string ahi, .bool false] #[.string blo, .string bhi, .bool true] #[.string ByteArray.empty, .string ByteArray.empty, .bool false] #[.string (maxS alo blo), .string (ahi), .bool false] TRg
  have HB4 := Aside0.mk hb4
  have HX4 := Aside0.mk hx4
  have HY4 := Aside0.mk hy4
  clear hb4 hx4 hy4
  go_enter Try.func65, Try.ntmps65
  go_upto_region 8 with (fail)
  obtain ⟨V, hV⟩ : ∃ V, V = ((((w.alloc (.cells #[.string alo, .string ahi, .bool false] TRg)).alloc (.cells #[.string blo, .string bhi, .bool true] TRg)).alloc (.cells #[.string ByteArray.empty, .string ByteArray.empty, .bool false] TRg)).alloc (.cells #[.string (maxS alo blo), .string (ahi), .bool false] TRg)) := ⟨_, rfl⟩
  rw [← hV] at HB4 HX4 HY4
  rw [← hV]
  clear hV
  have HB := HB4
  have HX := HX4
  have HY := HY4
  clear HB4 HX4 HY4 hmx
  have HE := Aside0.mk (codeEmpty O V)
  rw [HO.out] at HE
  simp only [Rg.val] at HE
  have y0 := HY.out.cell 0 _ rfl
  have y1 := HY.out.cell 1 _ rfl
  have y2 := HY.out.cell 2 _ rfl
  go_wp2_with fail
  refine HE.out.mono ?_
  rintro e W ⟨rfl, hb⟩
  rw [HO.out] at HR
  have HX2 := Aside0.mk (HX.out.belowSize hb)
  have HY2 := Aside0.mk (HY.out.belowSize hb)
  have HB2 := Aside0.mk (HB.out.trans (hb.mono HB.out.size))
  clear hb HE HX HY HB y0 y1 y2
  have y0 := HY2.out.cell 0 _ rfl
  have y1 := HY2.out.cell 1 _ rfl
  have y2 := HY2.out.cell 2 _ rfl
  have x0 := HX2.out.cell 0 _ rfl
  have x1 := HX2.out.cell 1 _ rfl
  have x2 := HX2.out.cell 2 _ rfl
  have f0 := HX2.out.free 0
  have f1 := HX2.out.free 1
  have f2 := HX2.out.free 2
  generalize hq : emptyB (⟨maxS alo blo, ahi, false⟩ : Rg) = q at *
  clear hq
  cases q with
  | true =>
    have HR2 : Aside0 (R = zR) := ⟨by rw [HR.out]; rfl⟩
    have HZ := Aside0.mk (setR W (w.heap.size + 1 + 1) zR _ HX2.out rfl)
    have HB3 := Aside0.mk (set3 HB2.out (w.heap.size + 1 + 1) (by omega) (.string ByteArray.empty) (.string ByteArray.empty) (.bool false))
    go_wp2
    exact bodyPost_ret (v := zR.val) (results_cell_row rfl _ _ _ TRg _ (0, 0) _ rfl HZ.out.out Try.underlying50 rfl (by kernel_rfl)) rfl ⟨by rw [HR2.out], HB3.out⟩
  | false =>
    have HR2 : Aside0 (R = (⟨maxS alo blo, ahi, false⟩ : Rg)) := ⟨by rw [HR.out]; rfl⟩
    have HZ := Aside0.mk (setR W (w.heap.size + 1 + 1) (⟨maxS alo blo, ahi, false⟩ : Rg) _ HX2.out rfl)
    have HB3 := Aside0.mk (set3 HB2.out (w.heap.size + 1 + 1) (by omega) (.string (maxS alo blo)) (.string (ahi)) (.bool false))
    go_wp2
    exact bodyPost_ret (v := Rg.val (⟨maxS alo blo, ahi, false⟩ : Rg)) (results_cell_row rfl _ _ _ TRg _ (0, 0) _ rfl HZ.out.out Try.underlying50 rfl (by kernel_rfl)) rfl ⟨by rw [HR2.out], HB3.out⟩

set_option maxHeartbeats 2000000 in
theorem codeBoth_tt (alo ahi blo bhi : ByteArray) (w : World) : Calls Try.prog 65 #[.agg #[.string alo, .string ahi, .bool true], .agg #[.string blo, .string bhi, .bool true]] w fun e w' => e = .returned (bothR ⟨alo, ahi, true⟩ ⟨blo, bhi, true⟩).val ∧ Below w.heap.size w w' := by
  have hz := zeroRg
  have hmx := fun W => run_max_str (P := Try.prog) #[9, 9] 9 alo blo W
  have HO : Aside0 (outR ⟨alo, ahi, true⟩ ⟨blo, bhi, true⟩ = (⟨maxS alo blo, ByteArray.empty, true⟩ : Rg)) := ⟨rfl⟩
  have HR : Aside0 (bothR ⟨alo, ahi, true⟩ ⟨blo, bhi, true⟩ = if emptyB (outR ⟨alo, ahi, true⟩ ⟨blo, bhi, true⟩) then zR else outR ⟨alo, ahi, true⟩ ⟨blo, bhi, true⟩) := ⟨rfl⟩
  generalize bothR ⟨alo, ahi, true⟩ ⟨blo, bhi, true⟩ = R at *
  generalize outR ⟨alo, ahi, true⟩ ⟨blo, bhi, true⟩ = O at *
  obtain ⟨hb4, hx4, hy4⟩ := four w #[.string alo, .string ahi, .bool true] #[.string blo, .string bhi, .bool true] #[.string ByteArray.empty, .string ByteArray.empty, .bool false] #[.string (maxS alo blo), .string ByteArray.empty, .bool true] TRg
  have HB4 := Aside0.mk hb4
  have HX4 := Aside0.mk hx4
  have HY4 := Aside0.mk hy4
  clear hb4 hx4 hy4
  go_enter Try.func65, Try.ntmps65
  go_upto_region 8 with (fail)
  obtain ⟨V, hV⟩ : ∃ V, V = ((((w.alloc (.cells #[.string alo, .string ahi, .bool true] TRg)).alloc (.cells #[.string blo, .string bhi, .bool true] TRg)).alloc (.cells #[.string ByteArray.empty, .string ByteArray.empty, .bool false] TRg)).alloc (.cells #[.string (maxS alo blo), .string ByteArray.empty, .bool true] TRg)) := ⟨_, rfl⟩
  rw [← hV] at HB4 HX4 HY4
  rw [← hV]
  clear hV
  have HB := HB4
  have HX := HX4
  have HY := HY4
  clear HB4 HX4 HY4 hmx
  have HE := Aside0.mk (codeEmpty O V)
  rw [HO.out] at HE
  simp only [Rg.val] at HE
  have y0 := HY.out.cell 0 _ rfl
  have y1 := HY.out.cell 1 _ rfl
  have y2 := HY.out.cell 2 _ rfl
  go_wp2_with fail
  refine HE.out.mono ?_
  rintro e W ⟨rfl, hb⟩
  rw [HO.out] at HR
  have HX2 := Aside0.mk (HX.out.belowSize hb)
  have HY2 := Aside0.mk (HY.out.belowSize hb)
  have HB2 := Aside0.mk (HB.out.trans (hb.mono HB.out.size))
  clear hb HE HX HY HB y0 y1 y2
  have y0 := HY2.out.cell 0 _ rfl
  have y1 := HY2.out.cell 1 _ rfl
  have y2 := HY2.out.cell 2 _ rfl
  have x0 := HX2.out.cell 0 _ rfl
  have x1 := HX2.out.cell 1 _ rfl
  have x2 := HX2.out.cell 2 _ rfl
  have f0 := HX2.out.free 0
  have f1 := HX2.out.free 1
  have f2 := HX2.out.free 2
  generalize hq : emptyB (⟨maxS alo blo, ByteArray.empty, true⟩ : Rg) = q at *
  clear hq
  cases q with
  | true =>
    have HR2 : Aside0 (R = zR) := ⟨by rw [HR.out]; rfl⟩
    have HZ := Aside0.mk (setR W (w.heap.size + 1 + 1) zR _ HX2.out rfl)
    have HB3 := Aside0.mk (set3 HB2.out (w.heap.size + 1 + 1) (by omega) (.string ByteArray.empty) (.string ByteArray.empty) (.bool false))
    go_wp2
    exact bodyPost_ret (v := zR.val) (results_cell_row rfl _ _ _ TRg _ (0, 0) _ rfl HZ.out.out Try.underlying50 rfl (by kernel_rfl)) rfl ⟨by rw [HR2.out], HB3.out⟩
  | false =>
    have HR2 : Aside0 (R = (⟨maxS alo blo, ByteArray.empty, true⟩ : Rg)) := ⟨by rw [HR.out]; rfl⟩
    have HZ := Aside0.mk (setR W (w.heap.size + 1 + 1) (⟨maxS alo blo, ByteArray.empty, true⟩ : Rg) _ HX2.out rfl)
    have HB3 := Aside0.mk (set3 HB2.out (w.heap.size + 1 + 1) (by omega) (.string (maxS alo blo)) (.string ByteArray.empty) (.bool true))
    go_wp2
    exact bodyPost_ret (v := Rg.val (⟨maxS alo blo, ByteArray.empty, true⟩ : Rg)) (results_cell_row rfl _ _ _ TRg _ (0, 0) _ rfl HZ.out.out Try.underlying50 rfl (by kernel_rfl)) rfl ⟨by rw [HR2.out], HB3.out⟩

theorem codeBoth (a b : Rg) (w : World) : Calls Try.prog 65 #[a.val, b.val] w fun e w' => e = .returned (bothR a b).val ∧ Below w.heap.size w w' := by
  obtain ⟨alo, ahi, ao⟩ := a
  obtain ⟨blo, bhi, bo⟩ := b
  cases ao with
  | false => cases bo with
    | false => exact codeBoth_ff alo ahi blo bhi w
    | true => exact codeBoth_ft alo ahi blo bhi w
  | true => cases bo with
    | false => exact codeBoth_tf alo ahi blo bhi w
    | true => exact codeBoth_tt alo ahi blo bhi w
/-- Have two ranges a key in common? -/
def meetB (a b : Rg) : Bool := !emptyB (outR a b)
theorem empty_both (a b : Rg) : emptyB (bothR a b) = emptyB (outR a b) := by
  unfold bothR
  cases h : emptyB (outR a b) with
  | true => rw [if_pos rfl]; unfold emptyB zR; rw [show ltB ByteArray.empty ByteArray.empty = false from lt_irrefl _]; rfl
  | false => rw [if_neg (by simp), h]
theorem codeMeet (a b : Rg) (w : World) : Calls Try.prog 62 #[a.val, b.val] w fun e w' => e = .returned (.bool (meetB a b)) ∧ Below w.heap.size w w' := by
  have HM : Aside0 (meetB a b = !emptyB (bothR a b)) := ⟨by rw [empty_both]; rfl⟩
  rw [HM.out]
  clear HM
  obtain ⟨V, hV⟩ : ∃ V, V = ((w.alloc (.cells a.cells.toArray TRg)).alloc (.cells b.cells.toArray TRg)) := ⟨_, rfl⟩
  have HB : Aside0 (Below w.heap.size w V) := ⟨by rw [hV]; exact ((Below.refl _ _).alloc (Nat.le_refl _) _).alloc (by simp) _⟩
  have hx : Blk V w.heap.size a.cells TRg := by rw [hV]; exact (Blk.newA w _ _).alloc _
  have hy : Blk V (w.heap.size + 1) b.cells TRg := by
    have := Blk.newA (w.alloc (.cells a.cells.toArray TRg)) b.cells.toArray TRg
    rw [show (w.alloc (.cells a.cells.toArray TRg)).heap.size = w.heap.size + 1 by simp] at this
    rw [hV]
    exact this
  have HC := Aside0.mk (codeBoth a b V)
  have HE := Aside0.mk (fun V => codeEmpty (bothR a b) V)
  generalize emptyB (bothR a b) = q at *
  generalize bothR a b = R at *
  obtain ⟨alo, ahi, ao⟩ := a
  obtain ⟨blo, bhi, bo⟩ := b
  obtain ⟨rlo, rhi, ro⟩ := R
  simp only [Rg.val] at HC HE ⊢
  simp only [Rg.cells] at hx hy hV
  have HX := Aside0.mk hx
  have HY := Aside0.mk hy
  clear hx hy
  go_enter Try.func62, Try.ntmps62
  go_upto_region 1 with (fail)
  rw [← hV]
  clear hV
  have x0 := HX.out.cell 0 _ rfl
  have x1 := HX.out.cell 1 _ rfl
  have x2 := HX.out.cell 2 _ rfl
  have y0 := HY.out.cell 0 _ rfl
  have y1 := HY.out.cell 1 _ rfl
  have y2 := HY.out.cell 2 _ rfl
  go_wp2_with fail
  refine HC.out.mono ?_
  rintro e w1 ⟨rfl, hb1⟩
  have HB1 := Aside0.mk (HB.out.trans (hb1.mono HB.out.size))
  clear hb1 HC HX HY HB x0 x1 x2 y0 y1 y2
  go_wp2_with fail
  refine (HE.out _).mono ?_
  rintro e w2 ⟨rfl, hb2⟩
  have HB2 := Aside0.mk (HB1.out.trans (hb2.mono HB1.out.size))
  clear hb2 HE HB1
  go_wp2
  go_ret
  exact ⟨rfl, HB2.out⟩
end Go.Proofs.Ytkgabeloofjohaa.Gap
