/- The walk of the law CellStays. -/
import Derived.Test.YtkljhdmbhaffeaaCellF
import Derived.Deep.CutBlock
import Derived.Deep.DeepCutAuto
namespace Go.Proofs.Ytkljhdmbhaffeaa.Cell
set_option linter.unusedVariables false
set_option linter.unusedSimpArgs false
open Go.RowKit Go.Proofs.YtkljhdmbhaffeaaW.PrintWords Go.Proofs.Ytkljhdmbhaffeaa.Kit

/-- A place and the reference's, and what was told of them ahead: a list of the caller's own, and the reference's list of that time. -/
structure St (w0 w : World) (p g L M : Nat) (A : Option Addr) (c : Nat) (vs : List Int) (n : Int) (A1 : Option Addr) (c1 : Nat) (us : List Int) (vt : Value) : Prop where
  pl : Pl (fun i => i < L ∨ M ≤ i) w0 w p g A c vs n
  told : MK (fun i => i < M) w L vt us
  was : MK (fun i => i < L) w w0.heap.size (.slice A1 us.length c1) us
  hp : p < L
  hg : g < L
  hL : L ≤ M
  hM : M ≤ w.heap.size
theorem St.belowed {w0 w w' : World} {p g L M : Nat} {A : Option Addr} {c : Nat} {vs : List Int} {n : Int} {A1 : Option Addr} {c1 : Nat} {us : List Int} {vt : Value} (h : St w0 w p g L M A c vs n A1 c1 us vt) (hb : Below w.heap.size w w') : St w0 w' p g L M A c vs n A1 c1 us vt :=
  ⟨h.pl.belowed hb, Kd.R_below h.told hb, Kd.R_below h.was hb, h.hp, h.hg, h.hL, Nat.le_trans h.hM hb.size⟩
theorem St.step {w0 w w' : World} {p g L M : Nat} {A A' : Option Addr} {c c' : Nat} {vs vs' : List Int} {n n' : Int} {A1 : Option Addr} {c1 : Nat} {us : List Int} {vt : Value} (h : St w0 w p g L M A c vs n A1 c1 us vt)
    (hp : Pl (fun i => i < L ∨ M ≤ i) w0 w' p g A' c' vs' n') (ho : Only (fun i => i = p ∨ i = g) w w') : St w0 w' p g L M A' c' vs' n' A1 c1 us vt := by
  obtain ⟨q, hq, _⟩ := h.pl.at_.out
  have h1 := h.hp
  have h2 := h.hg
  refine ⟨hp, ho.R h.told (fun i hi _ e => by omega), ?_, h1, h2, h.hL, Nat.le_trans h.hM ho.size⟩
  exact Kd.R_mono (ho.R (Kd.R_types (Kd.R_types h.was hq.out (by decide)) h.pl.blk.out (by decide)) (fun i _ hk e => e.elim hk.1.2 hk.2)) (fun _ hk => hk.1.1)

set_option maxRecDepth 100000 in
set_option maxHeartbeats 4000000 in
theorem cellStays_walk (A1 A2 : Option Addr) (c1 c2 : Nat) (l1 l2 : List Act) (w : World) (hC1 : kAct.C w A1 l1.length l1) (hl1 : l1.length * 24 ≤ 140737488351232) (hC2 : kAct.C w A2 l2.length l2) (hl2 : l2.length * 24 ≤ 140737488351232) :
    Calls Try.prog 4 #[.slice A1 l1.length c1, .slice A2 l2.length c2] w fun e w' => e = .returned (.bool true) ∧ Below w.heap.size w w' := by
  have HC1 := Aside0.mk hC1
  have HC2 := Aside0.mk hC2
  have hz := zeroM
  have hza := zeroA
  obtain ⟨m, hm'⟩ : ∃ m, m = l1.length := ⟨_, rfl⟩
  have Hm := Aside0.mk hm'
  obtain ⟨m2, hm2'⟩ : ∃ m, m = l2.length := ⟨_, rfl⟩
  have Hm2 := Aside0.mk hm2'
  rw [← hm'] at hl1 ⊢
  rw [← hm2'] at hl2 ⊢
  clear hm' hm2' hC1 hC2
  go_enter Try.func4, Try.ntmps4
  go_wp2_with fail
  refine (newCalls _).mono ?_
  rintro e w1 ⟨rfl, ha, hb⟩
  have HA1 := Aside0.mk ha
  have HB1 := Aside0.mk hb
  clear ha hb
  go_upto_region 2 with (fail)
  obtain ⟨W, hW⟩ : ∃ W, W = w1.alloc (.cells #[.slice none 0 0, .int .u64 0] TM) := ⟨_, rfl⟩
  have hb2 : Below w1.heap.size w1 W := by rw [hW]; exact (Below.refl _ _).alloc (Nat.le_refl _) _
  have hpl : w.heap.size < w1.heap.size := by obtain ⟨q, hq, _⟩ := HA1.out.out; exact hq.lt
  have HG : Aside0 (Blk W w1.heap.size [.slice none 0 0, .int .u64 0] TM) := ⟨by rw [hW]; exact Blk.newA w1 _ _⟩
  have HP2 : Aside0 (Pl (fun _ => True) w W w.heap.size w1.heap.size none 0 (stepsV ([], 0) (l1.take 0)).1 (stepsV ([], 0) (l1.take 0)).2) := ⟨⟨HA1.out.below hb2, HG.out, Kd.R_nil _ _ _ _ _, Nat.le_refl _, Nat.le_of_lt hpl, Nat.ne_of_lt hpl, HB1.out.trans (hb2.mono HB1.out.size)⟩⟩
  rw [← hW]
  clear hW hb2 hpl HA1 HB1 HG
  generalize w1.heap.size = g at *
  go_wp2_with fail
  go_loopw [7] (fun i wr => ∃ (j : Nat) (A3 : Option Addr) (c3 : Nat), j ≤ m ∧ i = .int .i64 j ∧ Aside0 (Pl (fun _ => True) w wr w.heap.size g A3 c3 (stepsV ([], 0) (l1.take j)).1 (stepsV ([], 0) (l1.take j)).2)) (fun i _ => m - (intOf i).toNat)
  case atStart => exact ⟨0, none, 0, Nat.zero_le _, rfl, HP2⟩
  case round =>
    clear HP2
    obtain ⟨j, A3, c3, hj, rfl, HP⟩ := hrel
    by_cases hlt : j < m
    · obtain ⟨b, o, x, e, hx, hx0, hx1, hx2⟩ := kAct_at HC1.out j (by rw [← Hm.out]; exact hlt)
      subst e
      have HT := Aside0.mk (stepsV_take ([], 0) l1 j x hx)
      have HL : Aside0 ((stepsV ([], 0) (l1.take j)).1.length + 1 ≤ 17592186044000) := ⟨by have := stepsV_len ([], 0) (l1.take j); simp at this; omega⟩
      generalize (stepsV ([], 0) (l1.take j)).1 = vs at *
      generalize (stepsV ([], 0) (l1.take j)).2 = n at *
      have hx0 := pw_cell_below HP.out.below hx0
      have hx1 := pw_cell_below HP.out.below hx1
      have hx2 := pw_cell_below HP.out.below hx2
      have g0 := HP.out.blk.cell 0 _ rfl
      have g1 := HP.out.blk.cell 1 _ rfl
      have HD := Aside0.mk ((HP.out.belowed ((Below.refl _ wr).drew)).does x (by have := HL.out; omega) (fun _ _ => trivial))
      clear hx HP
      go_wp2_with fail
      go_region_with (go_at_call 8; refine (HD.out).mono ?_; rintro e w3 ⟨A4, c4, rfl, hg3, hp3, _⟩; have HPf := Aside0.mk hp3; have f0 := hg3.free 0; have f1 := hg3.free 1; have q0 := hg3.cell 0 _ rfl; have q1 := hg3.cell 1 _ rfl; clear hg3 hp3 hx0 hx1 hx2 g0 g1)
      all_goals
        generalize (w3.setCell ⟨g, 0, none⟩ (.slice A4 (stepV vs n x).1.length c4)).setCell ⟨g, 1, none⟩ (.int .u64 (stepV vs n x).2) = wf at *
        clear f0 f1 q0 q1 HD
        have HP4 : Aside0 (Pl (fun _ => True) w wf w.heap.size g A4 c4 (stepsV ([], 0) (l1.take (j + 1))).1 (stepsV ([], 0) (l1.take (j + 1))).2) := ⟨by rw [HT.out]; exact HPf.out⟩
        clear HPf HL HT
        go_wp2
        go_roundw
        case rel => exact ⟨j + 1, A4, c4, by omega, by go_num, HP4⟩
        case measure => simp [intOf]; omega
    · have hvl := stepsV_len ([], 0) (l1.take j)
      generalize (stepsV ([], 0) (l1.take j)).1 = us at *
      generalize (stepsV ([], 0) (l1.take j)).2 = n at *
      have hul : us.length ≤ m := by simp at hvl; omega
      clear hvl
      go_wp2_with fail
      refine (allCalls _ us n _ HP.out.at_ (by omega)).mono ?_
      rintro e w2 ⟨vt, rfl, hRt, hb2⟩
      obtain ⟨At, ct, rfl⟩ := Kd.R_slice hRt
      have hS : St w w2 w.heap.size g wr.heap.size w2.heap.size A3 c3 (stepsV (us, n) (l2.take 0)).1 (stepsV (us, n) (l2.take 0)).2 A3 c3 us (.slice At us.length ct) := by
        obtain ⟨q, hq, _⟩ := HP.out.at_.out
        have hbd := Kd.R_mono (Kd.R_bound HP.out.row) (ok' := fun i => i < wr.heap.size) (fun i hi => hi.2.2.1)
        exact ⟨(HP.out.mono (fun i hi _ => Or.inl hi)).belowed hb2, Kd.R_mono (Kd.R_bound hRt) (fun i hi => hi.2.2.1), Kd.R_below hbd hb2, hq.lt, HP.out.blk.lt, hb2.size, Nat.le_refl _⟩
      obtain ⟨L, M, HS⟩ : ∃ L M, Aside0 (St w w2 w.heap.size g L M A3 c3 (stepsV (us, n) (l2.take 0)).1 (stepsV (us, n) (l2.take 0)).2 A3 c3 us (.slice At us.length ct)) := ⟨_, _, ⟨hS⟩⟩
      clear hS hRt hb2 HP
      have g0 : w2.cell? ⟨g, 0, none⟩ = some (.slice A3 us.length c3) := HS.out.pl.blk.cell 0 _ rfl
      go_wp2_with fail
      clear g0
      go_loopw [10] (fun i wr => ∃ (j : Nat) (A5 : Option Addr) (c5 : Nat), j ≤ m2 ∧ i = .int .i64 j ∧ Aside0 (St w wr w.heap.size g L M A5 c5 (stepsV (us, n) (l2.take j)).1 (stepsV (us, n) (l2.take j)).2 A3 c3 us (.slice At us.length ct))) (fun i _ => m2 - (intOf i).toNat)
      case atStart => exact ⟨0, _, _, Nat.zero_le _, rfl, HS⟩
      case round =>
        clear HS
        obtain ⟨j2, A5, c5, hj2, rfl, HS⟩ := hrel
        by_cases hlt2 : j2 < m2
        · obtain ⟨b, o, x, e, hx, hx0, hx1, hx2⟩ := kAct_at HC2.out j2 (by rw [← Hm2.out]; exact hlt2)
          subst e
          have HT := Aside0.mk (stepsV_take (us, n) l2 j2 x hx)
          have HL : Aside0 ((stepsV (us, n) (l2.take j2)).1.length + 1 ≤ 17592186044000) := ⟨by have := stepsV_len (us, n) (l2.take j2); simp at this; omega⟩
          generalize (stepsV (us, n) (l2.take j2)).1 = vs at *
          generalize (stepsV (us, n) (l2.take j2)).2 = k at *
          have hx0 := pw_cell_below HS.out.pl.below hx0
          have hx1 := pw_cell_below HS.out.pl.below hx1
          have hx2 := pw_cell_below HS.out.pl.below hx2
          have g0 := HS.out.pl.blk.cell 0 _ rfl
          have g1 := HS.out.pl.blk.cell 1 _ rfl
          have HSd := Aside0.mk (HS.out.belowed ((Below.refl _ wr).drew))
          have HD := Aside0.mk (HSd.out.pl.does x (by have := HL.out; omega) (fun i hi => Or.inr (Nat.le_trans HSd.out.hM hi)))
          clear hx HS
          go_wp2_with fail
          go_region_with (go_at_call 8; refine (HD.out).mono ?_; rintro e w3 ⟨A4, c4, rfl, hg3, hp3, ho3⟩; have HPf := Aside0.mk (HSd.out.step hp3 ho3); have f0 := hg3.free 0; have f1 := hg3.free 1; have q0 := hg3.cell 0 _ rfl; have q1 := hg3.cell 1 _ rfl; clear hg3 hp3 ho3 hx0 hx1 hx2 g0 g1)
          all_goals
            generalize (w3.setCell ⟨g, 0, none⟩ (.slice A4 (stepV vs k x).1.length c4)).setCell ⟨g, 1, none⟩ (.int .u64 (stepV vs k x).2) = wf at *
            clear f0 f1 q0 q1 HD HSd
            have HP4 : Aside0 (St w wf w.heap.size g L M A4 c4 (stepsV (us, n) (l2.take (j2 + 1))).1 (stepsV (us, n) (l2.take (j2 + 1))).2 A3 c3 us (.slice At us.length ct)) := ⟨by rw [HT.out]; exact HPf.out⟩
            clear HPf HL HT
            go_wp2
            go_roundw
            case rel => exact ⟨j2 + 1, A4, c4, by omega, by go_num, HP4⟩
            case measure => simp [intOf]; omega
        · have hvl := stepsV_len (us, n) (l2.take j2)
          generalize (stepsV (us, n) (l2.take j2)).1 = vs at *
          generalize (stepsV (us, n) (l2.take j2)).2 = k at *
          have hvs : vs.length ≤ 17592186044000 := by simp at hvl; omega
          clear hvl
          have HRt := Aside0.mk (Kd.R_reads' HS.out.told)
          have HRw := Aside0.mk (Kd.R_reads' HS.out.was)
          have HSm := Aside0.mk (same_is us (by omega))
          go_wp2_with fail
          refine (PCellPlays.vellumref07_Same.calls _ _ ct us A3 c3 us true _ HRt.out.2.2 HRt.out.2.1 HRw.out.2.2 HRw.out.2.1 HSm.out).mono ?_
          rintro e w4 ⟨rfl, ⟨nd4, rfl⟩⟩
          have HS4 := Aside0.mk (HS.out.belowed (pw_below_drewN (Below.refl _ _) nd4))
          generalize wr.drewN nd4 = w4 at *
          clear HRt HRw HSm HS
          have HP4 := Aside0.mk HS4.out.pl
          have HT4 := Aside0.mk HS4.out.told
          have hpL := HS4.out.hp
          have hgL := HS4.out.hg
          have hLM := HS4.out.hL
          have HM4 := Aside0.mk HS4.out.hM
          have hub : us.length ≤ 17592186044000 := by omega
          clear HS4
          go_wp2_with fail
          go_loopw [11] (fun i wr => ∃ (q : Nat) (zs : List Int), q ≤ us.length ∧ Aside0 (zs.length = us.length) ∧ i = .int .i64 q ∧ Aside0 (Pl (fun i => i < L ∨ M ≤ i) w wr w.heap.size g A5 c5 vs k) ∧ Aside0 (M ≤ wr.heap.size) ∧ Aside0 (MK (fun i => i < M) wr L (.slice At us.length ct) zs)) (fun i _ => us.length - (intOf i).toNat)
          case atStart => exact ⟨0, us, Nat.zero_le _, ⟨rfl⟩, rfl, HP4, HM4, HT4⟩
          case round =>
            clear HP4 HM4 HT4
            obtain ⟨q, zs, hq, HU, rfl, HPq, HMq, HTq⟩ := hrel
            by_cases hqlt : q < us.length
            · obtain ⟨gt, cap, he, hg1, hg2, cells, hg3⟩ := Kd.R_form HTq.out (by rw [HU.out]; omega)
              simp only [Value.slice.injEq] at he
              obtain ⟨rfl, hdead, rfl⟩ := he
              clear hdead
              have hgM : gt < M := HTq.out.1 gt (by simp [Value.ownBlock])
              obtain ⟨hy, hf⟩ := Kd.R_celln 0 HTq.out (q : Int) (by omega) (by omega)
              simp only [Int.toNat_natCast] at hy hf
              have hp := Kd.R_putg HTq.out (q : Int) (-77 : Int)
              simp only [Int.toNat_natCast] at hp
              have ho : Only (fun i => i = gt) wr (wr.setCell ⟨gt, q, none⟩ (.int .i64 (-77))) := Only.ofGrown hp.2
              have HTn := Aside0.mk hp.1
              have hB : Blk wr gt cells.toList 2 := ⟨by simpa using hg3⟩
              have HPn := Aside0.mk (HPq.out.far ho (by omega) (by omega) (fun i (e : i = gt) => ⟨by omega, by omega⟩) (Off.one hB (by decide)))
              have HMn : Aside0 (M ≤ (wr.setCell ⟨gt, q, none⟩ (.int .i64 (-77))).heap.size) := ⟨Nat.le_trans HMq.out ho.size⟩
              clear hp ho hB hg3 HPq HTq HMq
              go_wp2
              go_roundw
              case rel =>
                refine ⟨q + 1, _, ?_, ?_, ?_, HPn, HMn, HTn⟩
                · omega
                · exact ⟨by rw [List.length_set]; exact HU.out⟩
                · go_num
              case measure => simp [intOf]; omega
            · clear hq
              have HTr : Aside0 (MK (fun i => i < M) wr L (.slice At us.length ct) zs) := HTq
              clear HTq
              rw [← HU.out] at HTr
              have HZ : Aside0 (zs.length ≤ 17592186044000) := ⟨by rw [HU.out]; exact hub⟩
              have HX : Aside0 (Blk (wr.alloc (.cells #[.int .i64 (-78), .int .i64 (-78)] 2)) wr.heap.size (nums .i64 [-78, -78]) 2) := ⟨Blk.newA wr _ _⟩
              have HPx := Aside0.mk (HPq.out.belowed ((Below.refl _ wr).alloc (Nat.le_refl _) (.cells #[.int .i64 (-78), .int .i64 (-78)] 2)))
              have HTx := Aside0.mk (Kd.R_below HTr.out ((Below.refl _ wr).alloc (Nat.le_refl _) (.cells #[.int .i64 (-78), .int .i64 (-78)] 2)))
              have HRx : Aside0 ((Kd.int .i64).C (wr.alloc (.cells #[.int .i64 (-78), .int .i64 (-78)] 2)) (some ⟨wr.heap.size, 0, none⟩) 2 [-78, -78]) := ⟨(Kd.R_reads' (HX.out.R 0 (Nat.zero_le _) (by simp))).2.2⟩
              have hLx : L ≤ (wr.alloc (.cells #[.int .i64 (-78), .int .i64 (-78)] 2)).heap.size := by have := HMq.out; simp; omega
              clear HPq HMq
              go_wp2_with ((with_reducible refine gate_builtin (b := .append) (xs := #[.tmp 65, .tmp 66]) rfl ?_); at_builtin; refine Kd.R_append_row (fun x => .int .i64 x) 0 (w0 := wr.alloc (.cells #[.int .i64 (-78), .int .i64 (-78)] 2)) L rfl (.tmp 65) (.tmp 66) 25 2 (.int .i64 0) 8 rfl Try.underlying25 info64 rfl (by decide) (.slice At us.length ct) zs [-78, -78] (some ⟨wr.heap.size, 0, none⟩) 2 2 (fun _ => True) rfl rfl (fun _ _ => trivial) ?aO HRx.out (Below.refl _ _) hLx ?aL ?_; (case aO => rw [← HU.out]; exact Kd.R_mono HTx.out (fun _ _ => trivial)); (case aL => have := HZ.out; omega); intro v1 w5 hr5 hb5 hg5 hat5; obtain ⟨A7, c7, rfl⟩ := Kd.R_slice hr5; have e7 : (zs ++ [-78, -78]).length = us.length + 2 := (by rw [List.length_append, HU.out]; rfl); rw [e7]; have hoff := rowOff HTx.out; have HP6 := Aside0.mk (HPx.out.far (ofGrownRow hg5) (fun e => by have := hoff.1 _ (by rw [← HU.out] at e; exact e); omega) (fun e => by have := hoff.1 _ (by rw [← HU.out] at e; exact e); omega) (fun i e => by have := hoff.1 i (by rw [← HU.out] at e; exact e); exact ⟨by omega, by omega⟩) (by have h2 := hoff.2; rw [HU.out] at h2; exact h2)); have HI := Aside0.mk (HP6.out.is hvs); clear e7 hr5 hb5 hg5 hat5 hoff HPx HTx HRx hLx HX HTr; have g0 := HP6.out.blk.cell 0 _ rfl; have g1 := HP6.out.blk.cell 1 _ rfl)
              refine (HI.out).mono ?_
              rintro e w6 ⟨rfl, hb6⟩
              have HB6 := Aside0.mk (HP6.out.below.trans (hb6.mono HP6.out.below.size))
              clear hb6 HP6 HI g0 g1
              go_wp2_with fail
              refine (awakeCalls _).mono ?_
              rintro e w7 ⟨rfl, hb7⟩
              have HB7 : Aside0 (Below w.heap.size w w7) := ⟨HB6.out.trans (hb7.mono HB6.out.size)⟩
              clear hb7 HB6
              go_wp2
              go_ret
              exact ⟨rfl, HB7.out⟩
end Go.Proofs.Ytkljhdmbhaffeaa.Cell
