/- The walk of the law TallyApart. -/
import Derived.Test.YtipgbkbkpheioaaTallyAddsW
import Derived.Test.YtipgbkbkpheioaaTallySizesW
import Derived.Deep.CutBlock
import Derived.Deep.DeepCutAuto
namespace Go.Proofs.Ytipgbkbkpheioaa.Tally
set_option linter.unusedVariables false
set_option linter.unusedSimpArgs false
open Go.RowKit Go.Proofs.YtipgbkbkpheioaaW.PrintWords Go.Proofs.Ytipgbkbkpheioaa.Kit

theorem sumW_zeros (n : Nat) : sumW (List.replicate n 0) = 0 := by
  unfold sumW
  induction n with
  | zero => rfl
  | succ n ih => rw [List.replicate_succ, List.foldl_cons, show wrap64 (0 + 0) = 0 by decide +kernel]; exact ih
def zeros65 : List Int := List.replicate 65 0
/-- Two counters and two histograms, none of which shares memory with another. -/
structure Four (w0 w : World) (n ga gb pg ph B : Nat) (xs ys : List Int) : Prop where
  a : Ctr w (ga + 1) ga xs
  la : xs.length = n
  b : Ctr w (gb + 1) gb (List.replicate n 0)
  g : Hist w pg ys
  h : Hist w ph zeros65
  o1 : w0.heap.size ≤ ga
  o2 : ga + 2 ≤ gb
  o3 : gb + 2 ≤ pg
  o4 : pg < ph
  o5 : ph < B
  o6 : B ≤ w.heap.size
  below : Below w0.heap.size w0 w
theorem Ctr.only {S : Nat → Prop} {w w' : World} {p g : Nat} {xs : List Int} (h : Ctr w p g xs) (ho : Only S w w') (hp : ¬ S p) (hg : ¬ S g) : Ctr w' p g xs := ⟨ho.blk h.head hp, ho.blk h.row hg, h.ne, h.one, h.few⟩
theorem Hist.only {S : Nat → Prop} {w w' : World} {p : Nat} {xs : List Int} (h : Hist w p xs) (ho : Only S w w') (hp : ¬ S p) : Hist w' p xs := ⟨ho.blk h.row hp, h.len⟩
theorem Four.only {S : Nat → Prop} {w0 w w' : World} {n ga gb pg ph B : Nat} {xs ys : List Int} (h : Four w0 w n ga gb pg ph B xs ys) (ho : Only S w w') (hS : ∀ i, S i → B ≤ i) : Four w0 w' n ga gb pg ph B xs ys := by
  have h1 := h.o1; have h2 := h.o2; have h3 := h.o3; have h4 := h.o4; have h5 := h.o5
  have no : ∀ i, i < B → ¬ S i := fun i hi s => by have := hS i s; omega
  exact ⟨h.a.only ho (no _ (by omega)) (no _ (by omega)), h.la, h.b.only ho (no _ (by omega)) (no _ (by omega)), h.g.only ho (no _ (by omega)), h.h.only ho (no _ (by omega)), h1, h2, h3, h4, h5, Nat.le_trans h.o6 ho.size,
    h.below.trans (ho.below (fun i s => by have := hS i s; omega) h.below.size)⟩
theorem Four.belowed {w0 w w' : World} {n ga gb pg ph B : Nat} {xs ys : List Int} (h : Four w0 w n ga gb pg ph B xs ys) (hb : Below w.heap.size w w') : Four w0 w' n ga gb pg ph B xs ys :=
  h.only (S := fun _ => False) (Only.ofBelow hb) (fun _ => False.elim)
theorem Four.adds {w0 w : World} {n ga gb pg ph B : Nat} {xs ys : List Int} (h : Four w0 w n ga gb pg ph B xs ys) (k d : Int) {w' : World} (hw : w.setCell ⟨ga, shardOf k xs.length, none⟩ (.int .i64 (wrap64 (rd xs (shardOf k xs.length) + d))) = w') :
    Four w0 w' n ga gb pg ph B (added xs k d) ys ∧ Only (fun i => i = ga) w w' := by
  have h1 := h.o1; have h2 := h.o2; have h3 := h.o3; have h4 := h.o4; have h5 := h.o5
  have ho : Only (fun i => i = ga) w w' := by
    rw [← hw]
    exact Only.setCell (S := fun i => i = ga) (Only.refl _ w) (p := ⟨ga, shardOf k xs.length, none⟩) (Or.inl rfl) _
  exact ⟨⟨hw ▸ h.a.added k d, by simpa [added] using h.la, h.b.only ho (by omega) (by omega), h.g.only ho (by omega), h.h.only ho (by omega), h1, h2, h3, h4, h5, Nat.le_trans h.o6 ho.size, h.below.trans (ho.below (fun i s => by omega) h.below.size)⟩, ho⟩
theorem Four.counts {w0 w w' : World} {n ga gb pg ph B : Nat} {xs ys zs : List Int} (h : Four w0 w n ga gb pg ph B xs ys) (hh : Hist w' pg zs) (ho : Only (fun i => i = pg) w w') : Four w0 w' n ga gb pg ph B xs zs := by
  have h1 := h.o1; have h2 := h.o2; have h3 := h.o3; have h4 := h.o4; have h5 := h.o5
  exact ⟨h.a.only ho (by omega) (by omega), h.la, h.b.only ho (by omega) (by omega), hh, h.h.only ho (by omega), h1, h2, h3, h4, h5, Nat.le_trans h.o6 ho.size, h.below.trans (ho.below (fun i s => by omega) h.below.size)⟩

set_option maxRecDepth 100000 in
set_option maxHeartbeats 8000000 in
theorem apart_walk (n0 : Int) (n : Nat) (hn : (n0 < 1 ∧ n = 3) ∨ (1 ≤ n0 ∧ 64 < n0 ∧ n = 3) ∨ (1 ≤ n0 ∧ n0 ≤ 64 ∧ n0 = n)) (A1 A2 : Option Addr) (c1 c2 : Nat) (l : List Ad) (l2 : List Int) (w : World)
    (hC : kAd.C w A1 l.length l) (hl : l.length * 16 ≤ 140737488351232) (hC2 : (Kd.int .u64).C w A2 l2.length l2) (hle2 : l2.length ≤ c2) (hl2 : l2.length * 8 ≤ 140737488351232) (hr0 : ∀ x ∈ l2, (Lit.int .u64 x).wf = true) :
    Calls Try.prog 4 #[.int .i64 n0, .slice A1 l.length c1, .slice A2 l2.length c2] w fun e w' => e = .returned (.bool true) ∧ Below w.heap.size w w' := by
  have HC := Aside0.mk hC
  have HC2 := Aside0.mk hC2
  have HLe2 := Aside0.mk hle2
  have HR : Aside0 (∀ n ∈ l2, 0 ≤ n ∧ n < 18446744073709551616) := ⟨fun n hn => u64_range (hr0 n hn)⟩
  have h1 : 1 ≤ n := by omega
  have h2 : n ≤ 64 := by omega
  have hmk := fun W => make_one (P := Try.prog) 29 2 (.int .i64 0) 8 (by kernel_rfl) (by kernel_rfl) .i64 .i64 n (by omega) (by omega) W
  obtain ⟨m, hm'⟩ : ∃ m, m = l.length := ⟨_, rfl⟩
  have Hm := Aside0.mk hm'
  obtain ⟨m2, hm2'⟩ : ∃ m, m = l2.length := ⟨_, rfl⟩
  have Hm2 := Aside0.mk hm2'
  rw [← hm'] at hl ⊢
  rw [← hm2'] at hl2 ⊢
  clear hm' hm2' hC hC2 hle2 hr0
  go_enter Try.func4, Try.ntmps4
  go_upto_region 1 with (fail)
  go_cut [25] (fun v wc => ∃ bd : Bool, v = .bool bd ∧ w = wc ∧ Aside0 (bd = true → n = 3) ∧ Aside0 (bd = false → n0 = n))
  case first =>
    rcases hn with ⟨h, h'⟩ | ⟨h, h', h''⟩ | ⟨h, h', h''⟩
    · go_wp2
      go_meet
      exact ⟨true, rfl, rfl, ⟨fun _ => h'⟩, ⟨fun hh => by simp at hh⟩⟩
    · go_wp2
      go_meet
      exact ⟨true, rfl, rfl, ⟨fun _ => h''⟩, ⟨fun hh => by simp at hh⟩⟩
    · have H'' := Aside0.mk h''
      clear h''
      go_wp2
      go_meet
      exact ⟨false, congrArg Value.bool (by simp; omega), rfl, ⟨fun hh => by simp at hh⟩, ⟨fun _ => H''.out⟩⟩
  case rest =>
  clear hn
  obtain ⟨bd, rfl, rfl, hb1, hb2⟩ := hcut
  go_upto_if 25 with (fail)
  go_cut [0] (fun v0 wc => v0 = .int .i64 n ∧ w = wc)
  case first =>
    cases bd with
    | true =>
      have e := hb1.out rfl
      subst e
      go_wp2
      go_meet
      exact ⟨rfl, rfl⟩
    | false =>
      have e := hb2.out rfl
      subst e
      go_wp2
      go_meet
      exact ⟨rfl, rfl⟩
  case rest =>
    clear hb1 hb2
    obtain ⟨rfl, rfl⟩ := hcut
    go_wp2_with fail
    refine (newOk n h1 h2 _).mono ?_
    rintro e w1 ⟨rfl, ha, hb1⟩
    have HA1 := Aside0.mk ha
    have HB1 := Aside0.mk hb1
    clear ha hb1
    go_wp2_with fail
    refine (newOk n h1 h2 _).mono ?_
    rintro e w2 ⟨rfl, hb, hb2⟩
    have HA2 := Aside0.mk (HA1.out.below hb2)
    have HC2' := Aside0.mk hb
    have HB2 : Aside0 (Below w.heap.size w w2) := ⟨HB1.out.trans (hb2.mono HB1.out.size)⟩
    have o2 : w.heap.size + 2 ≤ w1.heap.size := HA1.out.head.lt
    generalize w1.heap.size = gb at *
    clear hb hb2 HA1 HB1
    go_wp2_with fail
    refine (newHist _).mono ?_
    rintro e w3 ⟨rfl, hg, hb3⟩
    have HA3 := Aside0.mk (HA2.out.below hb3)
    have HCb3 := Aside0.mk (HC2'.out.below hb3)
    have HG3 : Aside0 (Hist w3 w2.heap.size zeros65) := ⟨⟨hg, by simp [zeros65]⟩⟩
    have HB3 : Aside0 (Below w.heap.size w w3) := ⟨HB2.out.trans (hb3.mono HB2.out.size)⟩
    have o3 : gb + 2 ≤ w2.heap.size := HC2'.out.head.lt
    generalize w2.heap.size = pg at *
    clear hg hb3 HA2 HC2' HB2
    go_wp2_with fail
    refine (newHist _).mono ?_
    rintro e w4 ⟨rfl, hh, hb4⟩
    have hp : pg < w3.heap.size := HG3.out.row.lt
    have HF : Aside0 (Four w w4 n w.heap.size gb pg w3.heap.size w4.heap.size (List.replicate n 0) zeros65) := ⟨⟨HA3.out.below hb4, by simp, HCb3.out.below hb4, HG3.out.below hb4, ⟨hh, by simp [zeros65]⟩, Nat.le_refl _, o2, o3, hp, hh.lt, Nat.le_refl _, HB3.out.trans (hb4.mono HB3.out.size)⟩⟩
    generalize w3.heap.size = ph at *
    clear hh hb4 HA3 HCb3 HG3 HB3 o2 o3 hp
    go_wp2_with fail
    have HF5 := Aside0.mk (HF.out.belowed (Below.alloc (Below.refl w4.heap.size w4) (Nat.le_refl _) (.cells (Array.replicate n (.int .i64 0)) 2)))
    have HW5 := Aside0.mk (R_made .i64 2 w4 w4.heap.size n (Nat.le_refl _) (by omega))
    obtain ⟨B, HF5, HW5⟩ : ∃ B, Aside0 (Four w (w4.alloc (.cells (Array.replicate n (.int .i64 0)) 2)) n w.heap.size gb pg ph B (List.replicate n 0) zeros65) ∧ Aside0 (Kd.R (Kd.int .i64) 2 (w4.alloc (.cells (Array.replicate n (.int .i64 0)) 2)) B (fun _ => True) (.slice (some ⟨w4.heap.size, 0, none⟩) n n) (List.replicate n 0)) := ⟨_, HF5, HW5⟩
    clear HF
    go_loopw [13, 14] (fun v i wr => ∃ (j : Nat) (xs : List Int), j ≤ m ∧ i = .int .i64 j ∧ Aside0 (Four w wr n w.heap.size gb pg ph B xs zeros65) ∧ Aside0 (Kd.R (Kd.int .i64) 2 wr B (fun _ => True) v xs)) (fun _ i _ => m - (intOf i).toNat)
    case atStart => exact ⟨0, List.replicate n 0, Nat.zero_le _, rfl, HF5, HW5⟩
    case round =>
      clear HF5 HW5
      obtain ⟨j, xs, hj, rfl, HF, HW⟩ := hrel
      obtain ⟨A7, c7, rfl⟩ := Kd.R_slice HW.out
      by_cases hlt : j < m
      · obtain ⟨b, o, e, x, hx0, hx1⟩ := kAd_at HC.out j (by rw [← Hm.out]; exact hlt)
        subst e
        have HX0 := Aside0.mk hx0
        have HX1 := Aside0.mk hx1
        have hx0 := pw_cell_below HF.out.below HX0.out
        have hx1 := pw_cell_below HF.out.below HX1.out
        go_wp2_with fail
        go_still_tail 11, (by kernel_rfl)
        change wpList _ _ _ _ _ wr.drew
        replace HF := Aside0.mk (HF.out.belowed ((Below.refl _ wr).drew))
        replace HW := Aside0.mk (Kd.R_below HW.out ((Below.refl _ wr).drew))
        generalize wr.drew = wd at *
        go_wp2_with fail
        refine (addCalls _ _ _ _ _ _ HF.out.a).mono ?_
        rintro e w3 ⟨rfl, hw3⟩
        have hf3 := HF.out.adds x.shard x.n hw3
        have HF3 := Aside0.mk hf3.1
        have HW3 := Aside0.mk (hf3.2.R HW.out (fun i hi _ e => by have := HF.out.o2; have := HF.out.o3; have := HF.out.o4; have := HF.out.o5; omega))
        have HN : Aside0 (xs.length = n) := ⟨HF.out.la⟩
        clear hw3 hf3 HF HW hx0 hx1
        have hx0 := pw_cell_below HF3.out.below HX0.out
        have hx1 := pw_cell_below HF3.out.below HX1.out
        go_wp2_with fail
        go_still_tail 11, (by kernel_rfl)
        change wpList _ _ _ _ _ w3.drew
        replace HF3 := Aside0.mk (HF3.out.belowed ((Below.refl _ w3).drew))
        replace HW3 := Aside0.mk (Kd.R_below HW3.out ((Below.refl _ w3).drew))
        generalize w3.drew = w4 at *
        have HRd := Aside0.mk (Kd.R_reads' HW3.out)
        have HRa := Aside0.mk (ref_add xs x.shard x.n (by rw [HN.out]; exact h1) (by rw [HN.out]; exact h2))
        have hB4 := Aside0.mk HF3.out.o6
        go_wp2_with fail
        refine (PTallyAdds.vellumref05_Add.calls 65 _ c7 xs x.shard x.n _ _ HRd.out.2.2 HRd.out.2.1 HRa.out).mono ?_
        rintro e w5 ⟨v5, rfl, hR5, hb5⟩
        have HF5 := Aside0.mk (HF3.out.belowed hb5)
        have HW5 : Aside0 (Kd.R (Kd.int .i64) 2 w5 B (fun _ => True) v5 (added xs x.shard x.n)) := ⟨Kd.R_lower hR5 hB4.out⟩
        clear hR5 hb5 HF3 HW3 hx0 hx1 HRd HRa HN
        generalize added xs x.shard x.n = ys at *
        obtain ⟨A5, c5, rfl⟩ := Kd.R_slice HW5.out
        go_wp2_with fail
        refine (shardsCalls _ _ _ _ HF5.out.a).mono ?_
        rintro e w6 ⟨v6, rfl, hR6, hb6⟩
        have HF6 := Aside0.mk (HF5.out.belowed hb6)
        have HW6 : Aside0 (Kd.R (Kd.int .i64) 2 w6 B (fun k => k < w5.heap.size) (.slice A5 ys.length c5) ys) := ⟨Kd.R_below (Kd.R_mono (Kd.R_bound HW5.out) (fun k hk => hk.2.2.1)) hb6⟩
        obtain ⟨gt, ct, rfl, hgt, _, _⟩ := Kd.R_form hR6 HF6.out.a.one
        have hgl := hgt
        have hyl : ys.length ≤ 64 := by have := HF6.out.la; omega
        have hgB : B ≤ gt := Nat.le_trans HF5.out.o6 hgt
        have HT6 := Aside0.mk (Kd.R_lower hR6 HF5.out.o6)
        clear hR6 hb6 HF5 HW5
        generalize w5.heap.size = lim at *
        go_wp2_with fail
        go_loopw [16] (fun i wq => ∃ (q : Nat) (zs : List Int), q ≤ ys.length ∧ i = .int .i64 q ∧ Aside0 (Four w wq n w.heap.size gb pg ph B ys zeros65) ∧ Aside0 (Kd.R (Kd.int .i64) 2 wq B (fun k => k < lim) (.slice A5 ys.length c5) ys) ∧ Aside0 (Kd.R (Kd.int .i64) 2 wq B (fun _ => True) (.slice (some ⟨gt, 0, none⟩) ys.length ct) zs)) (fun i _ => ys.length - (intOf i).toNat)
        case atStart => exact ⟨0, ys, Nat.zero_le _, rfl, HF6, HW6, HT6⟩
        case round =>
          clear HF6 HW6 HT6
          obtain ⟨q, zs, hq, rfl, HFq, HWq, HTq⟩ := hrel
          by_cases hqlt : q < ys.length
          · obtain ⟨hy, hf⟩ := Kd.R_celln 0 HTq.out (q : Int) (by omega) (by omega)
            simp only [Int.toNat_natCast] at hy hf
            have hp := Kd.R_putg HTq.out (q : Int) (77 : Int)
            simp only [Int.toNat_natCast] at hp
            have ho : Only (fun i => i = gt) wr (wr.setCell ⟨gt, q, none⟩ (.int .i64 77)) := Only.ofGrown hp.2
            have HTn := Aside0.mk hp.1
            have HFn := Aside0.mk (HFq.out.only ho (fun i (e : i = gt) => e ▸ hgB))
            have HWn := Aside0.mk (ho.R HWq.out (fun i _ (hk : i < lim) (e : i = gt) => Nat.lt_irrefl _ (Nat.lt_of_lt_of_le (e ▸ hk) hgl)))
            clear hp ho HFq HWq HTq
            go_wp2
            go_roundw
            case rel =>
              refine ⟨q + 1, _, ?_, ?_, HFn, HWn, HTn⟩
              · omega
              · go_num
            case measure => simp [intOf]; omega
          · go_wp2
            go_roundw
            case rel => exact ⟨j + 1, ys, by omega, by go_num, HFq, ⟨Kd.R_mono HWq.out (fun _ _ => trivial)⟩⟩
            case measure => simp [intOf]; omega
      · have HN : Aside0 (xs.length = n) := ⟨HF.out.la⟩
        have HF0 : Aside0 (Four w wr n w.heap.size gb pg ph B xs (cnts (l2.take 0))) := HF
        have HWk : Aside0 (Kd.R (Kd.int .i64) 2 wr B (fun k => k < wr.heap.size) (.slice A7 xs.length c7) xs) := ⟨Kd.R_mono (Kd.R_bound HW.out) (fun k hk => hk.2.2.1)⟩
        obtain ⟨L0, HL0, HWk⟩ : ∃ L0, Aside0 (L0 ≤ wr.heap.size) ∧ Aside0 (Kd.R (Kd.int .i64) 2 wr B (fun k => k < L0) (.slice A7 xs.length c7) xs) := ⟨_, ⟨Nat.le_refl _⟩, HWk⟩
        have hxl : xs.length ≤ 64 := by rw [HN.out]; exact h2
        clear HF HW
        go_wp2_with fail
        go_loopw [17] (fun i wz => ∃ j2 : Nat, j2 ≤ m2 ∧ i = .int .i64 j2 ∧ Aside0 (Four w wz n w.heap.size gb pg ph B xs (cnts (l2.take j2))) ∧ Aside0 (L0 ≤ wz.heap.size) ∧ Aside0 (Kd.R (Kd.int .i64) 2 wz B (fun k => k < L0) (.slice A7 xs.length c7) xs)) (fun i _ => m2 - (intOf i).toNat)
        case atStart => exact ⟨0, Nat.zero_le _, rfl, HF0, HL0, HWk⟩
        case round =>
          clear HF0 HL0 HWk
          obtain ⟨j2, hj2, rfl, HF, HL0, HWk⟩ := hrel
          by_cases hlt2 : j2 < m2
          · obtain ⟨ad, e, hx⟩ := Kd.at_int HC2.out (j2 : Int) (by omega) (by rw [← Hm2.out]; omega)
            subst e
            simp only [Int.toNat_natCast] at hx
            have hx := pw_cell_below HF.out.below hx
            have hlt' : j2 < l2.length := by rw [← Hm2.out]; exact hlt2
            have HX := Aside0.mk (HR.out (rd l2 j2) (by simp [rd, hlt']))
            have HT := Aside0.mk (cnts_take l2 j2 hlt')
            clear hlt'
            generalize rd l2 j2 = x at *
            go_wp2_with fail
            refine (countCalls _ _ x _ HF.out.g HX.out.1 HX.out.2).mono ?_
            rintro e w2 ⟨rfl, hh, ho⟩
            have HF2 : Aside0 (Four w w2 n w.heap.size gb pg ph B xs (cnts (l2.take (j2 + 1)))) := ⟨by rw [HT.out]; exact HF.out.counts hh ho⟩
            have HL2 : Aside0 (L0 ≤ w2.heap.size) := ⟨Nat.le_trans HL0.out ho.size⟩
            have HW2 := Aside0.mk (ho.R HWk.out (fun i hi _ (e : i = pg) => by have := HF.out.o4; have := HF.out.o5; rw [e] at hi; omega))
            clear hh ho HF HL0 HWk hx HT
            generalize hcs : cnts (l2.take (j2 + 1)) = cs at *
            have HCS := Aside0.mk hcs
            clear hcs
            go_wp2_with fail
            refine (countsCalls _ _ _ HF2.out.g).mono ?_
            rintro e w3 ⟨v3, rfl, hR3, hb3⟩
            have HF3 := Aside0.mk (HF2.out.belowed hb3)
            have HW3 := Aside0.mk (Kd.R_below HW2.out hb3)
            have HL3 : Aside0 (L0 ≤ w3.heap.size) := ⟨Nat.le_trans HL2.out hb3.size⟩
            have hcl : cs.length = 65 := HF2.out.g.len
            obtain ⟨gt, ct, rfl, hgt, _, _⟩ := Kd.R_form hR3 (by omega)
            have hgL : L0 ≤ gt := Nat.le_trans HL2.out hgt
            have hgB : B ≤ gt := Nat.le_trans HF2.out.o6 hgt
            have HT3 := Aside0.mk (Kd.R_lower hR3 HF2.out.o6)
            clear hR3 hb3 HF2 HW2 HL2 hgt
            have hcle : cs.length ≤ 65 := by omega
            clear hcl
            go_wp2_with fail
            go_loopw [19] (fun i wz => ∃ (q : Nat) (zs : List Int), q ≤ cs.length ∧ i = .int .i64 q ∧ Aside0 (Four w wz n w.heap.size gb pg ph B xs cs) ∧ Aside0 (L0 ≤ wz.heap.size) ∧ Aside0 (Kd.R (Kd.int .i64) 2 wz B (fun k => k < L0) (.slice A7 xs.length c7) xs) ∧ Aside0 (Kd.R (Kd.int .u64) 43 wz B (fun _ => True) (.slice (some ⟨gt, 0, none⟩) cs.length ct) zs)) (fun i _ => cs.length - (intOf i).toNat)
            case atStart => exact ⟨0, cs, Nat.zero_le _, rfl, HF3, HL3, HW3, HT3⟩
            case round =>
              clear HF3 HW3 HT3 HL3
              obtain ⟨q, zs, hq, rfl, HFq, HLq, HWq, HTq⟩ := hrel
              by_cases hqlt : q < cs.length
              · obtain ⟨hy, hf⟩ := Kd.R_celln 0 HTq.out (q : Int) (by omega) (by omega)
                simp only [Int.toNat_natCast] at hy hf
                have hp := Kd.R_putg HTq.out (q : Int) (77 : Int)
                simp only [Int.toNat_natCast] at hp
                have ho : Only (fun i => i = gt) wr (wr.setCell ⟨gt, q, none⟩ (.int .u64 77)) := Only.ofGrown hp.2
                have HTn := Aside0.mk hp.1
                have HFn := Aside0.mk (HFq.out.only ho (fun i (e : i = gt) => e ▸ hgB))
                have HLn : Aside0 (L0 ≤ (wr.setCell ⟨gt, q, none⟩ (.int .u64 77)).heap.size) := ⟨Nat.le_trans HLq.out ho.size⟩
                have HWn := Aside0.mk (ho.R HWq.out (fun i _ (hk : i < L0) (e : i = gt) => Nat.lt_irrefl _ (Nat.lt_of_lt_of_le (e ▸ hk) hgL)))
                clear hp ho HFq HWq HTq HLq
                go_wp2
                go_roundw
                case rel =>
                  refine ⟨q + 1, _, ?_, ?_, HFn, HLn, HWn, HTn⟩
                  · omega
                  · go_num
                case measure => simp [intOf]; omega
              · go_wp2
                go_roundw
                case rel => exact ⟨j2 + 1, by omega, by go_num, by rw [HCS.out]; exact HFq, HLq, HWq⟩
                case measure => simp [intOf]; omega
          · have HE : l2.take j2 = l2 := by rw [List.take_of_length_le]; rw [← Hm2.out]; omega
            rw [HE] at HF
            clear HE
            have HCn := Aside0.mk (ref_counts l2 HR.out (by rw [← Hm2.out]; omega) (l2.length + 67) (by omega))
            have HC0 := Aside0.mk (ref_counts [] (fun n hn => by simp at hn) (by simp) 67 (by simp))
            go_wp2_with fail
            refine (shardsCalls _ _ _ _ HF.out.a).mono ?_
            rintro e w3 ⟨v3, rfl, hR3, hb3⟩
            obtain ⟨A3, c3, rfl⟩ := Kd.R_slice hR3
            have HR3 := Aside0.mk (Kd.R_reads' hR3)
            have HR7 := Aside0.mk (Kd.R_reads' (Kd.R_below HWk.out hb3))
            have HF3 := Aside0.mk (HF.out.belowed hb3)
            have HSm := Aside0.mk (same_self xs hxl)
            clear hR3 hb3 HF HWk HL0
            go_wp2_with fail
            refine (PTallyAdds.vellumlaw05_same.calls 65 _ c3 xs _ c7 xs true _ HR3.out.2.2 HR3.out.2.1 HR7.out.2.2 HR7.out.2.1 HSm.out).mono ?_
            rintro e w4 ⟨rfl, ⟨nd, rfl⟩⟩
            have HF4 := Aside0.mk (HF3.out.belowed (pw_below_drewN (Below.refl _ _) nd))
            generalize w3.drewN nd = w4 at *
            clear HR3 HR7 HF3 HSm
            go_wp2_with fail
            refine (sumCalls _ _ _ _ HF4.out.b).mono ?_
            rintro e w5 ⟨rfl, hb5⟩
            have HF5 := Aside0.mk (HF4.out.belowed hb5)
            have hs0 : sumW (List.replicate n 0) = 0 := sumW_zeros n
            rw [hs0]
            clear hb5 HF4 hs0
            go_wp2_with fail
            refine (countsCalls _ _ _ HF5.out.g).mono ?_
            rintro e w6 ⟨v6, rfl, hR6, hb6⟩
            obtain ⟨A6, c6, rfl⟩ := Kd.R_slice hR6
            have HF6 := Aside0.mk (HF5.out.belowed hb6)
            have HCa6 : Aside0 ((Kd.int .u64).C w6 A2 l2.length l2) := ⟨Kd.C_below HC2.out HF6.out.below⟩
            have HR6 := Aside0.mk hR6
            clear hb6 hR6 HF5
            go_wp2_with fail
            rw [Hm2.out]
            refine (PBelow.vellumref05_Counts.calls _ A2 c2 l2 (cnts l2) _ HCa6.out HLe2.out HCn.out).mono ?_
            rintro e w7 ⟨v7, rfl, hR7, hb7⟩
            obtain ⟨A7', c7', rfl⟩ := Kd.R_slice hR7
            have HF7 := Aside0.mk (HF6.out.belowed hb7)
            have HRa := Aside0.mk (Kd.R_reads' (Kd.R_below HR6.out hb7))
            have HRb := Aside0.mk (Kd.R_reads' hR7)
            have HSm := Aside0.mk (counts_self (cnts l2) (by rw [cnts_len]; omega))
            clear hb7 HCa6 HR6 hR7 HF6
            go_wp2_with fail
            refine (Pcounts.vellumlaw05_counts.calls 66 _ c6 _ _ c7' _ true _ HRa.out.2.2 HRa.out.2.1 HRb.out.2.2 HRb.out.2.1 HSm.out).mono ?_
            rintro e w8 ⟨rfl, ⟨nd, rfl⟩⟩
            have HF8 := Aside0.mk (HF7.out.belowed (pw_below_drewN (Below.refl _ _) nd))
            generalize w7.drewN nd = w8 at *
            clear HRa HRb HF7 HSm
            go_wp2_with fail
            refine (countsCalls _ _ _ HF8.out.h).mono ?_
            rintro e w9 ⟨v9, rfl, hR9, hb9⟩
            obtain ⟨A9, c9, rfl⟩ := Kd.R_slice hR9
            have HF9 := Aside0.mk (HF8.out.belowed hb9)
            have HR9 := Aside0.mk hR9
            clear hb9 hR9 HF8
            go_wp2_with fail
            refine (PBelow.vellumref05_Counts.calls 67 none 0 [] (cnts []) _ ⟨rfl, by simp, fun h => absurd h (Nat.lt_irrefl _)⟩ (Nat.le_refl _) HC0.out).mono ?_
            rintro e wa ⟨va, rfl, hRa, hba⟩
            obtain ⟨Aa, ca, rfl⟩ := Kd.R_slice hRa
            have HFa := Aside0.mk (HF9.out.belowed hba)
            have HRa := Aside0.mk (Kd.R_reads' (Kd.R_below HR9.out hba))
            have HRb := Aside0.mk (Kd.R_reads' hRa)
            have HSm : Aside0 (Pcounts.vellumlaw05_counts.f 66 zeros65 (cnts []) = some true) := ⟨counts_self (cnts []) (by rw [cnts_len]; omega)⟩
            clear hba hRa HR9 HF9
            go_wp2_with fail
            refine (Pcounts.vellumlaw05_counts.calls 66 _ c9 _ _ ca _ true _ HRa.out.2.2 HRa.out.2.1 HRb.out.2.2 HRb.out.2.1 HSm.out).mono ?_
            rintro e wb ⟨rfl, ⟨nd2, rfl⟩⟩
            have HFb := Aside0.mk (HFa.out.belowed (pw_below_drewN (Below.refl _ _) nd2))
            generalize wa.drewN nd2 = wb at *
            clear HRa HRb HFa HSm
            go_wp2_with fail
            refine (awakeCalls _).mono ?_
            rintro e wc ⟨rfl, hbc⟩
            have HFc := Aside0.mk (HFb.out.belowed hbc)
            clear hbc HFb
            go_wp2
            go_ret
            exact ⟨rfl, HFc.out.below⟩
theorem tallyApart_walk (n0 : Int) (A1 A2 : Option Addr) (c1 c2 : Nat) (l : List Ad) (l2 : List Int) (w : World)
    (hC : kAd.C w A1 l.length l) (hl : l.length * 16 ≤ 140737488351232) (hC2 : (Kd.int .u64).C w A2 l2.length l2) (hle2 : l2.length ≤ c2) (hl2 : l2.length * 8 ≤ 140737488351232) (hr0 : ∀ x ∈ l2, (Lit.int .u64 x).wf = true) :
    Calls Try.prog 4 #[.int .i64 n0, .slice A1 l.length c1, .slice A2 l2.length c2] w fun e w' => e = .returned (.bool true) ∧ Below w.heap.size w w' := by
  by_cases h : n0 < 1
  · exact apart_walk n0 3 (Or.inl ⟨h, rfl⟩) A1 A2 c1 c2 l l2 w hC hl hC2 hle2 hl2 hr0
  · by_cases h' : 64 < n0
    · exact apart_walk n0 3 (Or.inr (Or.inl ⟨by omega, h', rfl⟩)) A1 A2 c1 c2 l l2 w hC hl hC2 hle2 hl2 hr0
    · exact apart_walk n0 n0.toNat (Or.inr (Or.inr ⟨by omega, by omega, by omega⟩)) A1 A2 c1 c2 l l2 w hC hl hC2 hle2 hl2 hr0
end Go.Proofs.Ytipgbkbkpheioaa.Tally
