/- The walk of the law SnapPlays. -/
import Derived.Test.YtohpcifpnfomnaaSnapP
namespace Go.Proofs.Ytohpcifpnfomnaa.Snap
set_option linter.unusedVariables false
set_option linter.unusedSimpArgs false
open Go.RowKit Go.Proofs.YtohpcifpnfomnaaW.PrintWords Go.Proofs.Ytohpcifpnfomnaa.Kit Go.MuLone

def kOp : Kd Op := Kd.iso (Kd.pair (Kd.int .i64) (Kd.pair (Kd.int .u64) (Kd.int .i64))) (fun x => (x.kind, x.stamp, x.i))
theorem kOp_cells {w : World} {x : Op} {cs : List Value} (h : kOp.K w x cs) : cs = [.int .i64 x.kind, .int .u64 x.stamp, .int .i64 x.i] := by
  obtain ⟨c0, c1, rfl, h0, c2, c3, rfl, h1, h2⟩ := h
  rw [show c0 = [.int .i64 x.kind] from h0, show c2 = [.int .u64 x.stamp] from h1, show c3 = [.int .i64 x.i] from h2]
  rfl
theorem kOp_at {w : World} {A : Option Addr} {n : Nat} {xs : List Op} (h : kOp.C w A n xs) (i : Nat) (hi : i < n) : ∃ b o x, A = some ⟨b, o, none⟩ ∧ xs[i]? = some x ∧ w.cell? ⟨b, o + i * 3, none⟩ = some (.int .i64 x.kind) ∧ w.cell? ⟨b, o + i * 3 + 1, none⟩ = some (.int .u64 x.stamp) ∧ w.cell? ⟨b, o + i * 3 + 2, none⟩ = some (.int .i64 x.i) := by
  obtain ⟨b, o, x, cs, rfl, hx, hK, hc⟩ := C_at (s := 3) rfl (by omega) h i hi
  have := kOp_cells hK
  subst this
  exact ⟨b, o, x, rfl, hx, hc 0 _ rfl, hc 1 _ rfl, hc 2 _ rfl⟩
theorem kOps_opens : Opens Try.prog 33 (Kd.slice TO kOp) (fun xs => xs.length * 24 ≤ 140737488351232 ∧ ∀ x ∈ xs, (Lit.int .i64 x.kind).wf = true ∧ (Lit.int .u64 x.stamp).wf = true ∧ (Lit.int .i64 x.i).wf = true) :=
  opens_slice Try.underlying33 (by kernel_rfl) 24 (by kernel_rfl)
    (opens_struct (fun x : Op => (x.kind, x.stamp, x.i)) (fun a => ⟨a.1, a.2.1, a.2.2⟩) (fun _ => rfl) Try.underlying35 3 (by kernel_rfl) _ rfl
      (opensFs_cons rfl (opens_int .i64 Try.underlying3) (opensFs_cons (by kernel_rfl) (opens_int .u64 Try.underlying22) (opensFs_one (by kernel_rfl) (by kernel_rfl) (opens_int .i64 Try.underlying3)))))

/-- Readers beside the document's. -/
structure Pc (w0 w : World) (p g : Nat) (fl : Int) (rs : List Int) (A : Option Addr) (c : Nat) : Prop where
  cl : Cl w0 w p fl rs
  blk : Blk w g [.int .u64 fl, .slice A (rds rs).length c] TM
  row : MR w w0.heap.size (.slice A (rds rs).length c) (rds rs)
  ne : p ≠ g
  hg : w0.heap.size ≤ g
theorem Pc.belowed {w0 w w' : World} {p g : Nat} {fl : Int} {rs : List Int} {A : Option Addr} {c : Nat} (h : Pc w0 w p g fl rs A c) (hb : Below w.heap.size w w') : Pc w0 w' p g fl rs A c :=
  ⟨h.cl.belowed hb, h.blk.belowSize hb, Kd.R_below h.row hb, h.ne, h.hg⟩
theorem Pc.is {w0 w : World} {p g : Nat} {fl : Int} {rs : List Int} {A : Option Addr} {c : Nat} (h : Pc w0 w p g fl rs A c) :
    Calls Try.prog 15 #[.pointer (some ⟨p, 0, none⟩), .agg #[.int .u64 fl, .slice A (rds rs).length c]] w fun e w' => e = .returned (.bool true) ∧ Pc w0 w' p g fl rs A c :=
  (isLaw p fl rs (rds rs) A c _ w h.cl.sn rfl h.row).mono fun e w' ⟨he, hs, ho⟩ => ⟨he, h.cl.turned hs ho, ho.blk h.blk (fun e => h.ne e.symm), ho.Rt h.cl.sn.row (by decide) h.row, h.ne, h.hg⟩
/-- What the play of a call leaves, once the document's readers are stored again. -/
theorem Pc.play {w0 w : World} {p g : Nat} {fl : Int} {rs : List Int} {A : Option Addr} {c : Nat} (h : Pc w0 w p g fl rs A c) (x : Op) (hst : 0 ≤ x.stamp) :
    Calls Try.prog 16 #[.pointer (some ⟨p, 0, none⟩), .agg #[.int .u64 fl, .slice A (rds rs).length c], .agg #[.int .i64 x.kind, .int .u64 x.stamp, .int .i64 x.i]] w fun e w' =>
      ∃ (fl' : Int) (rs' : List Int) (A' : Option Addr) (c' n' : Nat), e = .returned (.tuple #[.agg #[.int .u64 fl', .slice A' n' c'], .bool true]) ∧ Aside0 ((rds rs').length = n') ∧ Blk w' g [.int .u64 fl, .slice A (rds rs).length c] TM ∧
        Pc w0 ((w'.setCell ⟨g, 0, none⟩ (.int .u64 fl')).setCell ⟨g, 1, none⟩ (.slice A' n' c')) p g fl' rs' A' c' :=
  (playAny p fl rs x A c w0 w hst h.cl h.row).mono fun e w' ⟨fl', rs', A', c', he, hsn, hr, ho⟩ => by
    have hp := h.cl.hp
    have hg := h.hg
    have hne := h.ne
    have nr : ∀ b, Sp w w0.heap.size p b → w0.heap.size ≤ b := fun b hb => by
      rcases hb with e | ⟨e, _⟩
      · omega
      · exact e
    have hb1 : Blk w' g [.int .u64 fl, .slice A (rds rs).length c] TM := ho.blk h.blk (by
      rintro (e | ⟨_, cs, hc⟩)
      · exact hne e.symm
      · have e := hc.symm.trans h.blk.out
        simp only [Option.some.injEq, Obj.cells.injEq] at e
        exact absurd e.2.1 (by decide))
    have hbel : Below w0.heap.size w0 w' := h.cl.below.trans (ho.below nr h.cl.below.size)
    have hOz : Only (fun i => i = g) w' ((w'.setCell ⟨g, 0, none⟩ (.int .u64 fl')).setCell ⟨g, 1, none⟩ (.slice A' (rds rs').length c')) :=
      Only.setCell (S := fun i => i = g) (Only.setCell (S := fun i => i = g) (Only.refl _ w') (p := ⟨g, 0, none⟩) (Or.inl rfl) _) (p := ⟨g, 1, none⟩) (Or.inl rfl) _
    have hZ := (hb1.put 0 (.int .u64 fl')).put 1 (.slice A' (rds rs').length c')
    refine ⟨fl', rs', A', c', _, he, ⟨rfl⟩, hb1, ⟨⟨hsn.only hOz hne, hp, hbel.trans (hOz.below (fun i e => by omega) hbel.size)⟩, hZ, ?_, hne, hg⟩⟩
    exact Kd.R_set (Kd.R_set hr hb1.out (by decide) 0 _) (hb1.put 0 (.int .u64 fl')).out (by decide) 1 _

set_option maxRecDepth 100000 in
set_option maxHeartbeats 8000000 in
theorem snapPlays_walk (l0 : Int) (A : Option Addr) (c : Nat) (xs : List Op) (w : World) (hl0 : 0 ≤ l0) (hC : kOp.C w A xs.length xs) (hxl : xs.length * 24 ≤ 140737488351232) (hst : ∀ x ∈ xs, 0 ≤ x.stamp) :
    Calls Try.prog 6 #[.int .u64 l0, .slice A xs.length c] w fun e w' => e = .returned (.bool true) ∧ Below w.heap.size w w' := by
  have HC := Aside0.mk hC
  have HSt := Aside0.mk hst
  have hz := zeroM
  obtain ⟨m, hm'⟩ : ∃ m, m = xs.length := ⟨_, rfl⟩
  have Hm := Aside0.mk hm'
  rw [← hm'] at hxl ⊢
  clear hm' hC hst
  by_cases hl : l0 ≤ 4611686018427387904
  · have HN := Aside0.mk (refNew l0 hl)
    have HP0 := Aside0.mk (newCalls l0 hl0 hl w)
    have HZ := Aside0.mk rds_zeros
    generalize zeros = rs0 at *
    go_enter Try.func6, Try.ntmps6
    go_wp2_with fail
    refine HP0.out.mono ?_
    rintro e w1 ⟨rfl, ha, hb⟩
    have HA1 : Aside0 (Cl w w1 w.heap.size l0 rs0) := ⟨⟨ha, Nat.le_refl _, hb⟩⟩
    clear ha hb HP0
    go_wp2_with fail
    refine (PSnapPlays.vellumref10_New.calls l0 l0 [] 0 w1 HN.out).mono ?_
    rintro e w2 ⟨v2, rfl, hR2, hb2⟩
    obtain ⟨A2, c2, rfl⟩ := Kd.R_slice hR2
    have HA2 := Aside0.mk (HA1.out.belowed hb2)
    have HR2 : Aside0 (MR w2 w.heap.size (.slice A2 0 c2) []) := ⟨Kd.R_lower hR2 HA1.out.below.size⟩
    clear hR2 hb2 HA1
    go_upto_region 3 with (fail)
    obtain ⟨W, hW⟩ : ∃ W, W = w2.alloc (.cells #[.int .u64 l0, .slice A2 0 c2] TM) := ⟨_, rfl⟩
    have hb3 : Below w2.heap.size w2 W := by rw [hW]; exact (Below.refl _ _).alloc (Nat.le_refl _) _
    have HP : Aside0 (Pc w W w.heap.size w2.heap.size l0 rs0 A2 c2) := ⟨⟨HA2.out.belowed hb3, by rw [hW, HZ.out]; exact Blk.newA w2 _ _, by rw [HZ.out]; exact Kd.R_below HR2.out hb3, Nat.ne_of_lt HA2.out.sn.row.lt, HA2.out.below.size⟩⟩
    rw [← hW]
    clear hW hb3 HA2 HR2 HZ
    generalize w2.heap.size = g at *
    go_wp2_with fail
    go_loopw [9, 10] (fun b i wr => ∃ (j : Nat) (fl : Int) (rs : List Int) (A3 : Option Addr) (c3 : Nat), j ≤ m ∧ b = .bool true ∧ i = .int .i64 j ∧ Aside0 (Pc w wr w.heap.size g fl rs A3 c3)) (fun _ i _ => m - (intOf i).toNat)
    case atStart => exact ⟨0, l0, rs0, A2, c2, Nat.zero_le _, rfl, rfl, HP⟩
    case round =>
      clear HP hl
      obtain ⟨j, fl, rs, A3, c3, hj, rfl, rfl, HP⟩ := hrel
      by_cases hlt : j < m
      · obtain ⟨b, o, x, e, hx, hx0, hx1, hx2⟩ := kOp_at HC.out j (by rw [← Hm.out]; exact hlt)
        subst e
        have hx0 := pw_cell_below HP.out.cl.below hx0
        have hx1 := pw_cell_below HP.out.cl.below hx1
        have hx2 := pw_cell_below HP.out.cl.below hx2
        have HD := Aside0.mk ((HP.out.belowed ((Below.refl _ wr).drew)).play x (HSt.out x (List.mem_of_getElem? hx)))
        have g0 := HP.out.blk.cell 0 _ rfl
        have g1 := HP.out.blk.cell 1 _ rfl
        clear hx HP
        go_wp2_with fail
        go_region_with (go_at_call 16; refine (HD.out).mono ?_; rintro e w3 ⟨fl', rs', A4, c4, n4, rfl, HL4, hg3, hp3⟩; have HPf := Aside0.mk hp3; have f0 := hg3.free 0; have f1 := hg3.free 1; have q0 := hg3.cell 0 _ rfl; have q1 := hg3.cell 1 _ rfl; clear hg3 hp3 hx0 hx1 hx2 g0 g1)
        all_goals
          generalize (w3.setCell ⟨g, 0, none⟩ (.int .u64 fl')).setCell ⟨g, 1, none⟩ (.slice A4 n4 c4) = wf at *
          clear f0 f1 q0 q1 HD
          have HI := Aside0.mk (HPf.out.is)
          rw [HL4.out] at HI
          have g0 := HPf.out.blk.cell 0 _ rfl
          have g1 := HPf.out.blk.cell 1 _ rfl
          rw [HL4.out] at g1
          go_wp2_with fail
          refine (HI.out).mono ?_
          rintro e w4 ⟨rfl, hp4⟩
          have HP4 := Aside0.mk hp4
          clear hp4 HPf HI g0 g1
          go_wp2
          go_roundw
          case rel => exact ⟨j + 1, fl', rs', A4, c4, by omega, rfl, by go_num, HP4⟩
          case measure => simp [intOf]; omega
      · have HB := Aside0.mk HP.out.cl.below
        clear HP
        go_wp2_with fail
        refine (awakeCalls _).mono ?_
        rintro e w4 ⟨rfl, hb4⟩
        have HB4 : Aside0 (Below w.heap.size w w4) := ⟨HB.out.trans (hb4.mono HB.out.size)⟩
        clear hb4 HB
        go_wp2
        go_ret
        exact ⟨rfl, HB4.out⟩
  · have HN := Aside0.mk (refNewArg l0 (by omega))
    go_enter Try.func6, Try.ntmps6
    go_wp2_with fail
    refine (newArg l0 (by omega) _).mono ?_
    rintro e w1 ⟨rfl, rfl⟩
    go_wp2_with fail
    refine (PSnapPlays.vellumref10_New.calls l0 0 [] 1 w HN.out).mono ?_
    rintro e w2 ⟨v2, rfl, hR2, hb2⟩
    obtain ⟨A2, c2, rfl⟩ := Kd.R_slice hR2
    have HB2 := Aside0.mk hb2
    clear hR2 hb2
    go_wp2_with fail
    have HB3 : Aside0 (Below w.heap.size w (w2.alloc (.cells #[.int .u64 0, .slice A2 0 c2] TM))) := ⟨HB2.out.alloc HB2.out.size _⟩
    go_loopw [9, 10] (fun b i wr => b = .bool true ∧ i = .int .i64 0 ∧ Aside0 (Below w.heap.size w wr)) (fun _ _ _ => 0)
    case atStart => exact ⟨rfl, rfl, HB3⟩
    case round =>
      clear HB3
      obtain ⟨rfl, rfl, HB⟩ := hrel
      by_cases hm : 0 < m
      · go_wp2_with fail
        refine (awakeCalls _).mono ?_
        rintro e w4 ⟨rfl, hb4⟩
        have HB4 : Aside0 (Below w.heap.size w w4) := ⟨HB.out.trans (hb4.mono HB.out.size)⟩
        clear hb4 HB
        go_wp2
        go_ret
        exact ⟨rfl, HB4.out⟩
      · go_wp2_with fail
        refine (awakeCalls _).mono ?_
        rintro e w4 ⟨rfl, hb4⟩
        have HB4 : Aside0 (Below w.heap.size w w4) := ⟨HB.out.trans (hb4.mono HB.out.size)⟩
        clear hb4 HB
        go_wp2
        go_ret
        exact ⟨rfl, HB4.out⟩
end Go.Proofs.Ytohpcifpnfomnaa.Snap
