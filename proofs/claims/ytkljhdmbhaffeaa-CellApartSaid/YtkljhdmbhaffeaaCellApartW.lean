/- The walk of the law CellApart. -/
import Derived.Test.YtkljhdmbhaffeaaCellF
import Derived.Test.YtkljhdmbhaffeaaCellS
import Derived.IntWalk
import Derived.Deep.CutBlock
import Derived.Deep.DeepCutAuto
namespace Go.Proofs.Ytkljhdmbhaffeaa.Cell
set_option linter.unusedVariables false
set_option linter.unusedSimpArgs false
open Go.RowKit Go.Proofs.YtkljhdmbhaffeaaW.PrintWords Go.Proofs.Ytkljhdmbhaffeaa.Kit

/-- A place beside the reference's, a place that nothing touches, and a place of strings. -/
structure Ap (w0 w : World) (pb ps g : Nat) (A : Option Addr) (c : Nat) (vs : List Int) (n : Int) (ss : List ByteArray) (k : Int) : Prop where
  pl : Pl (fun _ => True) w0 w w0.heap.size g A c vs n
  b : At encI TC TN w pb [] 0
  s : At CellS.encS CellS.TCs CellS.TNs w ps ss k
  hb : w0.heap.size < pb
  hs : pb < ps
  hg : ps < g
theorem Ap.belowed {w0 w w' : World} {pb ps g : Nat} {A : Option Addr} {c : Nat} {vs : List Int} {n : Int} {ss : List ByteArray} {k : Int} (h : Ap w0 w pb ps g A c vs n ss k) (hb : Below w.heap.size w w') : Ap w0 w' pb ps g A c vs n ss k :=
  ⟨h.pl.belowed hb, h.b.below hb, h.s.below hb, h.hb, h.hs, h.hg⟩
theorem Ap.step {w0 w w' : World} {pb ps g : Nat} {A A' : Option Addr} {c c' : Nat} {vs vs' : List Int} {n n' : Int} {ss : List ByteArray} {k : Int} (h : Ap w0 w pb ps g A c vs n ss k) (hp : Pl (fun _ => True) w0 w' w0.heap.size g A' c' vs' n') (ho : Only (fun i => i = w0.heap.size ∨ i = g) w w') : Ap w0 w' pb ps g A' c' vs' n' ss k := by
  obtain ⟨q, hq, _⟩ := h.pl.at_.out
  have h1 := h.hb; have h2 := h.hs; have h3 := h.hg
  exact ⟨hp, h.b.only ho (by omega) (Off.or (Off.one hq (by decide)) (Off.one h.pl.blk (by decide))), h.s.only ho (by omega) (Off.or (Off.one hq (by decide)) (Off.one h.pl.blk (by decide))), h1, h2, h3⟩
theorem Ap.push {w0 w w' : World} {pb ps g : Nat} {A : Option Addr} {c : Nat} {vs : List Int} {n : Int} {ss ss' : List ByteArray} {k k' : Int} (h : Ap w0 w pb ps g A c vs n ss k) (hs : At CellS.encS CellS.TCs CellS.TNs w' ps ss' k') (ho : Only (fun i => i = ps) w w') : Ap w0 w' pb ps g A c vs n ss' k' := by
  obtain ⟨q, hq, _⟩ := h.s.out
  have h1 := h.hb; have h2 := h.hs; have h3 := h.hg
  exact ⟨h.pl.farT ho hq (by decide) (by decide) (by omega) (by omega) (by omega), h.b.only ho (by omega) (Off.one hq (by decide)), hs, h1, h2, h3⟩

set_option maxRecDepth 100000 in
set_option maxHeartbeats 4000000 in
theorem cellApart_walk (A1 A2 : Option Addr) (c1 c2 : Nat) (l1 : List Act) (l2 : List ByteArray) (w : World) (hC1 : kAct.C w A1 l1.length l1) (hl1 : l1.length * 24 ≤ 140737488351232) (hC2 : Kd.string.C w A2 l2.length l2) (hl2 : l2.length * 16 ≤ 140737488351232) :
    Calls Try.prog 5 #[.slice A1 l1.length c1, .slice A2 l2.length c2] w fun e w' => e = .returned (.bool true) ∧ Below w.heap.size w w' := by
  have HC1 := Aside0.mk hC1
  have HC2 := Aside0.mk hC2
  have hz := zeroM
  have hza := zeroA
  obtain ⟨m, hm'⟩ : ∃ m, m = l1.length := ⟨_, rfl⟩
  have Hm := Aside0.mk hm'
  obtain ⟨m2, hm2'⟩ : ∃ m, m = l2.length := ⟨_, rfl⟩
  have Hm2 := Aside0.mk hm2'
  rw [← hm'] at hl1 ⊢
  rw [← hm2'] at hl2 ⊢
  clear hm' hm2' hC1 hC2
  go_enter Try.func5, Try.ntmps5
  go_wp2_with fail
  refine (newCalls _).mono ?_
  rintro e w1 ⟨rfl, ha, hb⟩
  have HA1 := Aside0.mk ha
  have HB1 := Aside0.mk hb
  have o1 : w.heap.size < w1.heap.size := by obtain ⟨q, hq, _⟩ := ha.out; exact hq.lt
  clear ha hb
  go_wp2_with fail
  refine (newCalls _).mono ?_
  rintro e w2 ⟨rfl, hb, hb2⟩
  have HA2 := Aside0.mk (HA1.out.below hb2)
  have HBb := Aside0.mk hb
  have HB2 := Aside0.mk (HB1.out.trans (hb2.mono HB1.out.size))
  have o2 : w1.heap.size < w2.heap.size := by obtain ⟨q, hq, _⟩ := hb.out; exact hq.lt
  clear hb hb2 HA1 HB1
  go_wp2_with fail
  refine (CellS.newCalls _).mono ?_
  rintro e w3 ⟨rfl, hs, hb3⟩
  have HA3 := Aside0.mk (HA2.out.below hb3)
  have HBb3 := Aside0.mk (HBb.out.below hb3)
  have HS3 := Aside0.mk hs
  have HB3 := Aside0.mk (HB2.out.trans (hb3.mono HB2.out.size))
  have o3 : w2.heap.size < w3.heap.size := by obtain ⟨q, hq, _⟩ := hs.out; exact hq.lt
  clear hs hb3 HA2 HB2 HBb
  generalize w1.heap.size = pb at *
  generalize w2.heap.size = ps at *
  go_upto_region 5 with (fail)
  obtain ⟨W, hW⟩ : ∃ W, W = w3.alloc (.cells #[.slice none 0 0, .int .u64 0] TM) := ⟨_, rfl⟩
  have hb2 : Below w3.heap.size w3 W := by rw [hW]; exact (Below.refl _ _).alloc (Nat.le_refl _) _
  have HG : Aside0 (Blk W w3.heap.size [.slice none 0 0, .int .u64 0] TM) := ⟨by rw [hW]; exact Blk.newA w3 _ _⟩
  have HP2 : Aside0 (Ap w W pb ps w3.heap.size none 0 (stepsV ([], 0) (l1.take 0)).1 (stepsV ([], 0) (l1.take 0)).2 [] 0) :=
    ⟨⟨⟨HA3.out.below hb2, HG.out, Kd.R_nil _ _ _ _ _, Nat.le_refl _, by omega, by omega, HB3.out.trans (hb2.mono HB3.out.size)⟩, HBb3.out.below hb2, HS3.out.below hb2, o1, o2, o3⟩⟩
  rw [← hW]
  clear hW hb2 HA3 HB3 HBb3 HS3 HG o1 o2 o3
  generalize w3.heap.size = g at *
  go_wp2_with fail
  go_loopw [9] (fun i wr => ∃ (j : Nat) (A3 : Option Addr) (c3 : Nat), j ≤ m ∧ i = .int .i64 j ∧ Aside0 (Ap w wr pb ps g A3 c3 (stepsV ([], 0) (l1.take j)).1 (stepsV ([], 0) (l1.take j)).2 [] 0)) (fun i _ => m - (intOf i).toNat)
  case atStart => exact ⟨0, none, 0, Nat.zero_le _, rfl, HP2⟩
  case round =>
    clear HP2
    obtain ⟨j, A3, c3, hj, rfl, HP⟩ := hrel
    by_cases hlt : j < m
    · obtain ⟨b, o, x, e, hx, hx0, hx1, hx2⟩ := kAct_at HC1.out j (by rw [← Hm.out]; exact hlt)
      subst e
      have HT := Aside0.mk (stepsV_take ([], 0) l1 j x hx)
      have HL : Aside0 ((stepsV ([], 0) (l1.take j)).1.length + 1 ≤ 17592186044000) := ⟨by have := stepsV_len ([], 0) (l1.take j); simp at this; omega⟩
      generalize (stepsV ([], 0) (l1.take j)).1 = vs at *
      generalize (stepsV ([], 0) (l1.take j)).2 = n at *
      have hx0 := pw_cell_below HP.out.pl.below hx0
      have hx1 := pw_cell_below HP.out.pl.below hx1
      have hx2 := pw_cell_below HP.out.pl.below hx2
      have g0 := HP.out.pl.blk.cell 0 _ rfl
      have g1 := HP.out.pl.blk.cell 1 _ rfl
      have HPd := Aside0.mk (HP.out.belowed ((Below.refl _ wr).drew))
      have HD := Aside0.mk (HPd.out.pl.does x (by have := HL.out; omega) (fun _ _ => trivial))
      clear hx HP
      go_wp2_with fail
      go_region_with (go_at_call 8; refine (HD.out).mono ?_; rintro e w4 ⟨A4, c4, rfl, hg3, hp3, ho3⟩; have HPf := Aside0.mk (HPd.out.step hp3 ho3); have f0 := hg3.free 0; have f1 := hg3.free 1; have q0 := hg3.cell 0 _ rfl; have q1 := hg3.cell 1 _ rfl; clear hg3 hp3 ho3 hx0 hx1 hx2 g0 g1)
      all_goals
        generalize (w4.setCell ⟨g, 0, none⟩ (.slice A4 (stepV vs n x).1.length c4)).setCell ⟨g, 1, none⟩ (.int .u64 (stepV vs n x).2) = wf at *
        clear f0 f1 q0 q1 HD HPd
        have HP4 : Aside0 (Ap w wf pb ps g A4 c4 (stepsV ([], 0) (l1.take (j + 1))).1 (stepsV ([], 0) (l1.take (j + 1))).2 [] 0) := ⟨by rw [HT.out]; exact HPf.out⟩
        clear HPf HL HT
        go_wp2
        go_roundw
        case rel => exact ⟨j + 1, A4, c4, by omega, by go_num, HP4⟩
        case measure => simp [intOf]; omega
    · have hvl := stepsV_len ([], 0) (l1.take j)
      generalize (stepsV ([], 0) (l1.take j)).1 = us at *
      generalize (stepsV ([], 0) (l1.take j)).2 = n at *
      have hul : us.length ≤ 17592186044000 := by simp at hvl; omega
      clear hvl
      have HP0 : Aside0 (Ap w wr pb ps g A3 c3 us n (l2.take 0).reverse ((0 : Nat) : Int)) := HP
      clear HP
      go_wp2_with fail
      go_loopw [10] (fun i wr => ∃ (j : Nat), j ≤ m2 ∧ i = .int .i64 j ∧ Aside0 (Ap w wr pb ps g A3 c3 us n (l2.take j).reverse (j : Int))) (fun i _ => m2 - (intOf i).toNat)
      case atStart => exact ⟨0, Nat.zero_le _, rfl, HP0⟩
      case round =>
        clear HP0
        obtain ⟨j2, hj2, rfl, HP⟩ := hrel
        by_cases hlt2 : j2 < m2
        · obtain ⟨ad, e, hx⟩ := Kd.at_string HC2.out (j2 : Int) (by omega) (by rw [← Hm2.out]; omega)
          subst e
          have hx := pw_cell_below HP.out.pl.below hx
          have HT : Aside0 ((l2.take (j2 + 1)).reverse = rdOf ByteArray.empty l2 (j2 : Int) :: (l2.take j2).reverse) := ⟨by
            have hl : j2 < l2.length := by rw [← Hm2.out]; exact hlt2
            rw [List.take_succ_eq_append_getElem hl, List.reverse_append]
            simp [rdOf, hl]⟩
          have HN : Aside0 (IntKind.u64.wrap ((j2 : Int) + 1) = ((j2 + 1 : Nat) : Int)) := ⟨by
            have h1 : j2 + 1 ≤ 8796093022000 := by omega
            have : IntKind.u64.wrap ((j2 : Int) + 1) = (j2 : Int) + 1 := IntWalk.u64_in _ (by omega)
            rw [this]; rfl⟩
          simp only [Int.toNat_natCast] at hx
          generalize rdOf ByteArray.empty l2 (j2 : Int) = x at *
          go_wp2_with fail
          refine (CellS.pushHit _ _ (j2 : Int) x _ HP.out.s).mono ?_
          rintro e w3 ⟨rfl, hs3, ho3⟩
          have HP3 : Aside0 (Ap w w3 pb ps g A3 c3 us n (l2.take (j2 + 1)).reverse ((j2 + 1 : Nat) : Int)) := ⟨by rw [HT.out, ← HN.out]; exact HP.out.push hs3 ho3⟩
          clear hs3 ho3 HP HT HN hx
          go_wp2
          go_roundw
          case rel => exact ⟨j2 + 1, by omega, by go_num, HP3⟩
          case measure => simp [intOf]; omega
        · have HE : l2.take j2 = l2 := by rw [List.take_of_length_le]; rw [← Hm2.out]; omega
          rw [HE] at HP
          clear HE
          have HRl : Aside0 (l2.reverse.length = m2) := ⟨by rw [List.length_reverse, ← Hm2.out]⟩
          go_wp2_with fail
          refine (CellS.allCalls _ _ _ _ HP.out.s (by rw [HRl.out]; omega)).mono ?_
          rintro e w3 ⟨v3, rfl, hR3, hb3⟩
          obtain ⟨A7, c7, rfl⟩ := Kd.R_slice hR3
          have HR3 := Aside0.mk (Kd.R_reads' hR3)
          have HP3 := Aside0.mk (HP.out.belowed hb3)
          clear hR3 hb3 HP
          rw [HRl.out] at HR3 ⊢
          have HP4 : Aside0 (∃ nd, (w3.drewN nd) = w3 ∧ Ap w w3 pb ps g A3 c3 us n l2.reverse (j2 : Int)) := ⟨0, rfl, HP3.out⟩
          clear HP3
          go_wp2_with fail
          go_loopw [12] (fun i wr => ∃ (q : Nat), q ≤ m2 ∧ i = .int .i64 q ∧ Aside0 (Ap w wr pb ps g A3 c3 us n l2.reverse (j2 : Int)) ∧ Aside0 (Kd.string.C wr A7 m2 l2.reverse)) (fun i _ => m2 - (intOf i).toNat)
          case atStart => exact ⟨0, Nat.zero_le _, rfl, by obtain ⟨nd, e, h⟩ := HP4.out; exact ⟨h⟩, ⟨HR3.out.2.2⟩⟩
          case round =>
            clear HP4 HR3
            obtain ⟨q, hq, rfl, HP, HR⟩ := hrel
            by_cases hqlt : q < m2
            · obtain ⟨ad, e, hx⟩ := Kd.at_string HC2.out (q : Int) (by omega) (by rw [← Hm2.out]; omega)
              subst e
              have hx := pw_cell_below HP.out.pl.below hx
              obtain ⟨ad2, e2, hy⟩ := Kd.at_string HR.out ((m2 : Int) - 1 - q) (by omega) (by omega)
              subst e2
              have hxy : rdOf ByteArray.empty l2.reverse ((m2 : Int) - 1 - q) = rdOf ByteArray.empty l2 (q : Int) := by
                have e3 : ((m2 : Int) - 1 - q).toNat = m2 - 1 - q := by omega
                have hl : q < l2.length := by rw [← Hm2.out]; exact hqlt
                have hl2 : m2 - 1 - q < l2.reverse.length := by rw [HRl.out]; omega
                have h2 : l2.length = m2 := Hm2.out.symm
                have hg : l2.reverse[m2 - 1 - q]? = l2[q]? := by
                  rw [List.getElem?_reverse (by omega)]
                  congr 1
                  omega
                simp only [rdOf, e3, Int.toNat_natCast, List.getD_eq_getElem?_getD, hg]
              rw [hxy] at hy
              simp only [Int.toNat_natCast] at hx
              generalize rdOf ByteArray.empty l2 (q : Int) = x at *
              have i1 : IntKind.i64.wrap ((m2 : Int) - 1) = (m2 : Int) - 1 := IntWalk.i64_in _ (by omega)
              have i2 : IntKind.i64.wrap ((m2 : Int) - 1 - q) = (m2 : Int) - 1 - q := IntWalk.i64_in _ (by omega)
              have i3 : (0 : Int) ≤ (m2 : Int) - 1 - q := by omega
              have i4 : (m2 : Int) - 1 - q < m2 := by omega
              have i5 : ((m2 : Int) - 1 - q).toNat = m2 - 1 - q := by omega
              have i6 : m2 - 1 - q < m2 := by omega
              rw [i5] at hy
              clear hxy
              go_wp2_with fail
              go_quiet (fail)
              have HPn := Aside0.mk (HP.out.belowed (pw_below_drewN (Below.refl _ _) nq))
              have HRn := Aside0.mk (Kd.C_below HR.out (pw_below_drewN (Below.refl _ _) nq))
              clear i1 i2 i3 i4 i5 i6 hx hy HP HR
              go_wp2
              go_roundw
              case rel => exact ⟨q + 1, by omega, by go_num, HPn, HRn⟩
              case measure => simp [intOf]; omega
            · clear HR
              have g0 := HP.out.pl.blk.cell 0 _ rfl
              have g1 := HP.out.pl.blk.cell 1 _ rfl
              have HI := Aside0.mk (HP.out.pl.is hul)
              go_wp2_with fail
              refine (HI.out).mono ?_
              rintro e w4 ⟨rfl, hb4⟩
              have HP4 := Aside0.mk (HP.out.belowed hb4)
              clear hb4 HP HI g0 g1
              have HI := Aside0.mk (isCalls pb [] 0 none 0 w4 HP4.out.b ⟨rfl, by simp, fun h => absurd h (Nat.lt_irrefl _)⟩ (Nat.le_refl _) (by simp))
              go_wp2_with fail
              refine (HI.out).mono ?_
              rintro e w5 ⟨rfl, hb5⟩
              have HP5 := Aside0.mk (HP4.out.belowed hb5)
              clear hb5 HP4 HI
              go_wp2_with fail
              refine (awakeCalls _).mono ?_
              rintro e w7 ⟨rfl, hb7⟩
              have HB7 : Aside0 (Below w.heap.size w w7) := ⟨HP5.out.pl.below.trans (hb7.mono HP5.out.pl.below.size)⟩
              clear hb7 HP5
              go_wp2
              go_ret
              exact ⟨rfl, HB7.out⟩
end Go.Proofs.Ytkljhdmbhaffeaa.Cell
