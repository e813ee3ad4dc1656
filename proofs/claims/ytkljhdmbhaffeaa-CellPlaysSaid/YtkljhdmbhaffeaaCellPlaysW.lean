/- The walk of the law CellPlays. -/
import Derived.Test.YtkljhdmbhaffeaaCellE
import Derived.StillTailTactics
import Derived.Deep.CutBlock
import Derived.Deep.DeepCutAuto
namespace Go.Proofs.Ytkljhdmbhaffeaa.Cell
set_option linter.unusedVariables false
set_option linter.unusedSimpArgs false
open Go.RowKit Go.Proofs.YtkljhdmbhaffeaaW.PrintWords Go.Proofs.Ytkljhdmbhaffeaa.Kit

/-- A place and the reference's: both hold the same values. -/
structure Pl (w0 w : World) (p g : Nat) (A : Option Addr) (c : Nat) (vs : List Int) (n : Int) : Prop where
  at_ : At encI TC TN w p vs n
  blk : Blk w g [.slice A vs.length c, .int .u64 n] TM
  row : MR w w0.heap.size (.slice A vs.length c) vs
  op : w0.heap.size ≤ p
  og : w0.heap.size ≤ g
  ne : p ≠ g
  below : Below w0.heap.size w0 w
theorem Pl.belowed {w0 w w' : World} {p g : Nat} {A : Option Addr} {c : Nat} {vs : List Int} {n : Int} (h : Pl w0 w p g A c vs n) (hb : Below w.heap.size w w') : Pl w0 w' p g A c vs n :=
  ⟨h.at_.below hb, h.blk.belowSize hb, Kd.R_below h.row hb, h.op, h.og, h.ne, h.below.trans (hb.mono h.below.size)⟩
theorem Pl.put {w0 w w' : World} {p g : Nat} {A : Option Addr} {c : Nat} {vs vs' : List Int} {n n' : Int} {A' : Option Addr} {c' : Nat} (h : Pl w0 w p g A c vs n) (ha : At encI TC TN w' p vs' n') (hr : MR w' w0.heap.size (.slice A' vs'.length c') vs') (ho : Only (fun i => i = p) w w') :
    Pl w0 ((w'.setCell ⟨g, 0, none⟩ (.slice A' vs'.length c')).setCell ⟨g, 1, none⟩ (.int .u64 n')) p g A' c' vs' n' := by
  have hop := h.op
  have hog := h.og
  have hne := h.ne
  have b1 : Blk w' g [.slice A vs.length c, .int .u64 n] TM := ho.blk h.blk (fun e => h.ne e.symm)
  have hOz : Only (fun i => i = g) w' ((w'.setCell ⟨g, 0, none⟩ (.slice A' vs'.length c')).setCell ⟨g, 1, none⟩ (.int .u64 n')) :=
    Only.setCell (S := fun i => i = g) (Only.setCell (S := fun i => i = g) (Only.refl _ w') (p := ⟨g, 0, none⟩) (Or.inl rfl) _) (p := ⟨g, 1, none⟩) (Or.inl rfl) _
  refine ⟨ha.only hOz hne (Off.one b1 (by decide)), ?_, ?_, hop, hog, hne, ?_⟩
  · exact (b1.put 0 (.slice A' vs'.length c')).put 1 (.int .u64 n')
  · exact Kd.R_set (Kd.R_set hr b1.out (by decide) 0 _) (b1.put 0 (.slice A' vs'.length c')).out (by decide) 1 _
  · have hb1 : Below w0.heap.size w w' := ho.below (fun i e => by omega) h.below.size
    have hb2 : Below w0.heap.size w' ((w'.setCell ⟨g, 0, none⟩ (.slice A' vs'.length c')).setCell ⟨g, 1, none⟩ (.int .u64 n')) := hOz.below (fun i e => by omega) (Nat.le_trans h.below.size ho.size)
    exact (h.below.trans hb1).trans hb2
theorem Pl.is {w0 w : World} {p g : Nat} {A : Option Addr} {c : Nat} {vs : List Int} {n : Int} (h : Pl w0 w p g A c vs n) (hl : vs.length ≤ 17592186044000) :
    Calls Try.prog 7 #[.pointer (some ⟨p, 0, none⟩), .agg #[.slice A vs.length c, .int .u64 n]] w fun e w' => e = .returned (.bool true) ∧ Below w.heap.size w w' :=
  isCalls p vs n A c w h.at_ (Kd.R_reads' h.row).2.2 (Kd.R_reads' h.row).2.1 hl
theorem Pl.does {w0 w : World} {p g : Nat} {A : Option Addr} {c : Nat} {vs : List Int} {n : Int} (h : Pl w0 w p g A c vs n) (a : Act) (hl : vs.length ≤ 17592186044000) :
    Calls Try.prog 8 #[.pointer (some ⟨p, 0, none⟩), .agg #[.slice A vs.length c, .int .u64 n], .agg #[.int .i64 a.kind, .int .i64 a.off, .int .i64 a.n]] w fun e w' =>
      ∃ A' c', e = .returned (.tuple #[.agg #[.slice A' (stepV vs n a).1.length c', .int .u64 (stepV vs n a).2], .bool true]) ∧ Blk w' g [.slice A vs.length c, .int .u64 n] TM ∧
        Pl w0 ((w'.setCell ⟨g, 0, none⟩ (.slice A' (stepV vs n a).1.length c')).setCell ⟨g, 1, none⟩ (.int .u64 (stepV vs n a).2)) p g A' c' (stepV vs n a).1 (stepV vs n a).2 ∧ Only (fun i => i = p) w w' :=
  (doesCalls p vs n a w0.heap.size A c w h.at_ h.row h.below.size hl).mono fun e w' ⟨s, he, ha, hr, ho⟩ => by
    obtain ⟨A3, c3, rfl⟩ := Kd.R_slice hr
    exact ⟨A3, c3, he, ho.blk h.blk (fun e => h.ne e.symm), h.put ha hr ho, ho⟩

set_option maxRecDepth 100000 in
set_option maxHeartbeats 4000000 in
theorem cellPlays_walk (A : Option Addr) (c : Nat) (l : List Act) (w : World) (hC : kAct.C w A l.length l) (hl : l.length * 24 ≤ 140737488351232) :
    Calls Try.prog 3 #[.slice A l.length c] w fun e w' => e = .returned (.bool true) ∧ Below w.heap.size w w' := by
  have HC := Aside0.mk hC
  have hz := zeroM
  have hza := zeroA
  obtain ⟨m, hm'⟩ : ∃ m, m = l.length := ⟨_, rfl⟩
  have Hm := Aside0.mk hm'
  rw [← hm'] at hl ⊢
  clear hm' hC
  go_enter Try.func3, Try.ntmps3
  go_wp2_with fail
  refine (newCalls _).mono ?_
  rintro e w1 ⟨rfl, ha, hb⟩
  have HA1 := Aside0.mk ha
  have HB1 := Aside0.mk hb
  clear ha hb
  go_upto_region 2 with (fail)
  obtain ⟨W, hW⟩ : ∃ W, W = w1.alloc (.cells #[.slice none 0 0, .int .u64 0] TM) := ⟨_, rfl⟩
  have hb2 : Below w1.heap.size w1 W := by rw [hW]; exact (Below.refl _ _).alloc (Nat.le_refl _) _
  have hpl : w.heap.size < w1.heap.size := by obtain ⟨q, hq, _⟩ := HA1.out.out; exact hq.lt
  have HG : Aside0 (Blk W w1.heap.size [.slice none 0 0, .int .u64 0] TM) := ⟨by rw [hW]; exact Blk.newA w1 _ _⟩
  have HP : Aside0 (Pl w W w.heap.size w1.heap.size none 0 [] 0) := ⟨⟨HA1.out.below hb2, HG.out, Kd.R_nil _ _ _ _ _, Nat.le_refl _, Nat.le_of_lt hpl, Nat.ne_of_lt hpl, HB1.out.trans (hb2.mono HB1.out.size)⟩⟩
  rw [← hW]
  clear hW hb2 hpl HA1 HB1
  generalize w1.heap.size = g at *
  have HI := Aside0.mk (HP.out.is (by simp))
  have g0 := HG.out.cell 0 _ rfl
  have g1 := HG.out.cell 1 _ rfl
  go_wp2_with fail
  refine (HI.out).mono ?_
  rintro e w2 ⟨rfl, hb2⟩
  have HP2 : Aside0 (Pl w w2 w.heap.size g none 0 (stepsV ([], 0) (l.take 0)).1 (stepsV ([], 0) (l.take 0)).2) := ⟨HP.out.belowed hb2⟩
  clear hb2 HP HG HI g0 g1
  go_wp2_with fail
  go_loopw [5, 6] (fun b i wr => ∃ (j : Nat) (bv : Bool) (A1 : Option Addr) (c1 : Nat), j ≤ m ∧ b = .bool bv ∧ i = .int .i64 j ∧ Aside0 (Pl w wr w.heap.size g A1 c1 (stepsV ([], 0) (l.take j)).1 (stepsV ([], 0) (l.take j)).2)) (fun _ i _ => m - (intOf i).toNat)
  case atStart => exact ⟨0, false, none, 0, Nat.zero_le _, rfl, rfl, HP2⟩
  case round =>
    clear HP2
    obtain ⟨j, bv, A1, c1, hj, rfl, rfl, HP⟩ := hrel
    by_cases hlt : j < m
    · obtain ⟨b, o, x, e, hx, hx0, hx1, hx2⟩ := kAct_at HC.out j (by rw [← Hm.out]; exact hlt)
      subst e
      have HT := Aside0.mk (stepsV_take ([], 0) l j x hx)
      have HL : Aside0 ((stepsV ([], 0) (l.take j)).1.length + 1 ≤ 17592186044000) := ⟨by have := stepsV_len ([], 0) (l.take j); simp at this; omega⟩
      have HL2 := Aside0.mk (stepV_len (stepsV ([], 0) (l.take j)).1 (stepsV ([], 0) (l.take j)).2 x)
      generalize (stepsV ([], 0) (l.take j)).1 = vs at *
      generalize (stepsV ([], 0) (l.take j)).2 = n at *
      have hx0 := pw_cell_below HP.out.below hx0
      have hx1 := pw_cell_below HP.out.below hx1
      have hx2 := pw_cell_below HP.out.below hx2
      have g0 := HP.out.blk.cell 0 _ rfl
      have g1 := HP.out.blk.cell 1 _ rfl
      have HD := Aside0.mk ((HP.out.belowed ((Below.refl _ wr).drew)).does x (by have := HL.out; omega))
      clear hx HP
      go_wp2_with fail
      go_region_with (go_at_call 8; refine (HD.out).mono ?_; rintro e w3 ⟨A3, c3, rfl, hg3, hp3, _⟩; have HPf := Aside0.mk hp3; have f0 := hg3.free 0; have f1 := hg3.free 1; have q0 := hg3.cell 0 _ rfl; have q1 := hg3.cell 1 _ rfl; clear hg3 hp3 hx0 hx1 hx2 g0 g1)
      all_goals
        generalize (w3.setCell ⟨g, 0, none⟩ (.slice A3 (stepV vs n x).1.length c3)).setCell ⟨g, 1, none⟩ (.int .u64 (stepV vs n x).2) = wf at *
        clear f0 f1 q0 q1 HD
        have HI := Aside0.mk (HPf.out.is (by have := HL.out; have := HL2.out; omega))
        have g0 := HPf.out.blk.cell 0 _ rfl
        have g1 := HPf.out.blk.cell 1 _ rfl
        go_wp2_with fail
        refine (HI.out).mono ?_
        rintro e w4 ⟨rfl, hb4⟩
        have HP4 : Aside0 (Pl w w4 w.heap.size g A3 c3 (stepsV ([], 0) (l.take (j + 1))).1 (stepsV ([], 0) (l.take (j + 1))).2) := ⟨by rw [HT.out]; exact HPf.out.belowed hb4⟩
        clear hb4 HPf HI g0 g1 HL HL2 HT
        go_wp2
        go_roundw
        case rel => exact ⟨j + 1, true, A3, c3, by omega, rfl, by go_num, HP4⟩
        case measure => simp [intOf]; omega
    · have HB := Aside0.mk HP.out.below
      clear HP
      go_wp2_with fail
      refine (awakeCalls _).mono ?_
      rintro e w4 ⟨rfl, hb4⟩
      have HB4 : Aside0 (Below w.heap.size w w4) := ⟨HB.out.trans (hb4.mono HB.out.size)⟩
      clear hb4 HB
      go_wp2
      go_ret
      exact ⟨rfl, HB4.out⟩
end Go.Proofs.Ytkljhdmbhaffeaa.Cell
