/- Layer 13: Give. -/
import Derived.Test.YtkgabeloofjohaaGapN
namespace Go.Proofs.Ytkgabeloofjohaa.Gap
set_option linter.unusedVariables false
set_option linter.unusedSimpArgs false
open Go.RowKit Go.Proofs.YtkgabeloofjohaaW.PrintWords Go.Proofs.Ytkgabeloofjohaa.Kit Go.MuLone

theorem kP_form {e base : Nat} {w : World} {ok : Nat → Prop} {v : Value} {xs : List Nat} (h : kP.R e w base ok v xs) (hn : 0 < xs.length) : ∃ rb cap, v = .slice (some ⟨rb, 0, none⟩) xs.length cap := by
  obtain ⟨inner, ho, _⟩ := h.2
  rcases ho.2 with ⟨_, h2⟩ | ⟨g, cap, cur, h2, _⟩
  · omega
  · exact ⟨g, cap, h2⟩
theorem erase_mid {α : Type} {ts : List α} {m : Nat} {k : α} (h : ts[m]? = some k) : ts = ts.take m ++ k :: ts.drop (m + 1) := by
  obtain ⟨hl, e⟩ := List.getElem?_eq_some_iff.1 h
  rw [← e, ← List.drop_eq_getElem_cons hl, List.take_append_drop]
theorem map_erase {α β : Type} (f : α → β) (ts : List α) (m : Nat) : (ts.eraseIdx m).map f = (ts.map f).eraseIdx m := by
  simp only [List.eraseIdx_eq_take_drop_succ, List.map_append, List.map_take, List.map_drop]
/-- The object without one taker: its channel may be shut, the row drawn together. -/
theorem Ga.drop {w3 w4 w5 : World} {g : Nat} {v v' : Value} {ts : List Tk} {last : Int} {m rb : Nat} {k : Tk} (h : Ga w3 g 1 v ts last) (hm : ts[m]? = some k) (hrb : v.ownBlock = some rb) (hrb' : v'.ownBlock = some rb)
    (h4 : Only (fun i => i = k.ch) w3 w4) (h5 : Only (fun i => i = rb) w4 w5) (hR : kP.R TP w5 0 (fun i => i = rb) v' ((ts.map (·.id)).eraseIdx m)) :
    Ga (w5.setCell ⟨g, 3, none⟩ v') g 1 v' (ts.eraseIdx m) last := by
  have e := erase_mid hm
  have hg := h
  rw [e] at hg
  have hgch : g ≠ k.ch := fun e => hg.far (Or.inl rfl) (Or.inr e)
  have hrbch : rb ≠ k.ch := fun e => hg.far (Or.inr (Or.inl hrb)) (Or.inr e)
  obtain ⟨inner, ho, _⟩ := h.row.2
  obtain ⟨cr, hcr⟩ := own_typed ho rb hrb
  have hgrb : g ≠ rb := ne_heap h.gb.out hcr (cells_ne (by decide))
  have hb5 : Blk w5 g [.int .i32 1, .int .u32 0, .int .u64 last, v] TG := h5.blk (h4.blk h.gb hgch) hgrb
  have h6 : Only (fun i => i = g) w5 (w5.setCell ⟨g, 3, none⟩ v') := onlyG (Only.refl _ w5)
  have hmem : ∀ x ∈ ts.eraseIdx m, x ∈ ts ∧ (x ∈ ts.take m ∨ x ∈ ts.drop (m + 1)) := fun x hx => by
    have h1 := List.mem_of_mem_eraseIdx hx
    rw [List.eraseIdx_eq_take_drop_succ, List.mem_append] at hx
    exact ⟨h1, hx⟩
  refine ⟨hb5.put 3 v', ?_, fun x hx => ?_, ?_, ?_, ?_, fun x hx => h.le x (hmem x hx).1, ?_⟩
  · rw [map_erase]
    refine kP_own (h6.R hR (fun i _ hi e => ?_))
    exact hgrb (e.symm.trans hi)
  · have hX := h.tk x (hmem x hx).1
    have f4 : TkIs w4 x := hX.only h4 (fun i hi e => hg.far (Or.inr (Or.inr ⟨x, (hmem x hx).2, hi⟩)) (Or.inr e))
    have f5 : TkIs w5 x := f4.only h5 (fun i hi e => by
      subst e
      rcases hi with e1 | e1 | ⟨ad, ha, e1⟩
      · exact ne_heap hX.blk.out hcr (cells_ne (by decide)) e1.symm
      · exact ne_heap hcr hX.ch cells_chan e1
      · obtain ⟨cs', hc'⟩ := hX.hb ad ha
        exact ne_heap hc' hcr (cells_ne (by decide)) e1)
    exact f5.only h6 (fun i hi e => by
      subst e
      rcases hi with e1 | e1 | ⟨ad, ha, e1⟩
      · exact ne_heap h.gb.out hX.blk.out (cells_ne (by decide)) e1
      · exact ne_heap h.gb.out hX.ch cells_chan e1
      · obtain ⟨cs', hc'⟩ := hX.hb ad ha
        exact ne_heap hc' h.gb.out (cells_ne (by decide)) e1)
  · rw [map_erase]
    exact h.ids.sublist (List.eraseIdx_sublist _ _)
  · rw [map_erase]
    exact h.chs.sublist (List.eraseIdx_sublist _ _)
  · exact h.rise.sublist (List.eraseIdx_sublist _ _)
  · have := List.length_eraseIdx_le ts m
    have := h.small
    omega

set_option maxRecDepth 100000 in
set_option maxHeartbeats 4000000 in
theorem giveNone (g : Nat) (v : Value) (ts : List Tk) (last n : Int) (w : World) (h : Ga w g 0 v ts last) (hn : findT ts n = none) :
    Calls Try.prog 12 #[ptrV g, .int .u64 n] w fun e w' => e = .returned (.int .i64 130) ∧ Ga w' g 0 v ts last ∧ Only (use g v ts) w w' := by
  have H := Aside0.mk h
  have HN := Aside0.mk hn
  have hz := zeroP
  clear h hn
  go_enter_defers Try.func12, Try.ntmps12
  go_wp2_with fail
  refine (lock_free muLib ⟨g, 0, none⟩ w H.out.cell0 (H.out.gb.free 0)).mono ?_
  rintro e w1 ⟨rfl, hw1⟩
  have H1 : Aside0 (Ga w1 g 1 v ts last) := ⟨by rw [hw1]; exact H.out.lock 1⟩
  have HO1 : Aside0 (Only (use g v ts) w w1) := ⟨by rw [hw1]; exact lockOnly w g _ ts _⟩
  clear hw1 H
  go_wp2_with fail
  have HF := findCalls g 1 v ts last n w1 H1.out
  rw [HN.out] at HF
  simp only [tkV] at HF
  refine HF.mono ?_
  rintro e w2 ⟨rfl, hb2⟩
  have H2 := Aside0.mk (H1.out.below hb2)
  have HO2 := Aside0.mk (HO1.out.trans (Only.ofBelow hb2))
  clear hb2 H1 HO1 HF
  go_wp2_with fail
  have H3 := Aside0.mk (H2.out.below ((Below.refl _ w2).alloc (Nat.le_refl _) (.cells #[.pointer none] TP)))
  have HO3 : Aside0 (Only (use g v ts) w (w2.alloc (.cells #[.pointer none] TP))) := ⟨HO2.out.trans ((Only.refl _ w2).alloc _)⟩
  generalize w2.alloc (.cells #[.pointer none] TP) = w3 at *
  refine leaves_cons (f := 21) (args := #[.pointer (some ⟨g, 0, none⟩)]) (by simp) (by simp [go_sem]) ?_
  refine (unlock_deferred muLib ⟨g, 0, none⟩ .returning _ H3.out.cell0 (H3.out.gb.free 0)).mono ?_
  rintro e u' w4 ⟨rfl, rfl, hw4⟩
  have H4 : Aside0 (Ga w4 g 0 v ts last) := ⟨by rw [hw4]; exact H3.out.lock 0⟩
  have HO4 : Aside0 (Only (use g v ts) w w4) := ⟨by rw [hw4]; exact HO3.out.trans (lockOnly w3 g _ ts _)⟩
  clear hw4 H3 HO3
  exact ⟨_, results_tmp rfl _ _ _, rfl, H4.out, HO4.out⟩
set_option maxRecDepth 100000 in
set_option maxHeartbeats 4000000 in
theorem giveOk (g : Nat) (v : Value) (ts : List Tk) (last n : Int) (m : Nat) (k : Tk) (w : World) (h : Ga w g 0 v ts last) (hn : findT ts n = some k) (hm : ts[m]? = some k) :
    Calls Try.prog 12 #[ptrV g, .int .u64 n] w fun e w' => ∃ v', e = .returned (.int .i64 0) ∧ Ga w' g 0 v' (regrant (ts.eraseIdx m)) last ∧ Only (use g v ts) w w' ∧ ∀ i, use g v' (ts.eraseIdx m) i → use g v ts i := by
  have hlen : 0 < ts.length := by
    have := (List.getElem?_eq_some_iff.1 hm).1
    omega
  obtain ⟨rb, cap, rfl⟩ := kP_form h.row (by rw [List.length_map]; exact hlen)
  rw [List.length_map] at *
  have H := Aside0.mk h
  have HN := Aside0.mk hn
  have HM := Aside0.mk hm
  have hz := zeroP
  have HId : Aside0 ((ts.map (·.id))[m]? = some k.id ∧ (∀ j, (ts.map (·.id))[j]? = some k.id → j = m) ∧ (ts.map (·.id)).length = ts.length ∧ ts.length ≤ 256) := ⟨by
    have h1 : (ts.map (·.id))[m]? = some k.id := by rw [List.getElem?_map, hm]; rfl
    refine ⟨h1, fun j hj => ?_, List.length_map _, h.small⟩
    have hl := (List.getElem?_eq_some_iff.1 hj).1
    obtain ⟨hl2, e2⟩ := List.getElem?_eq_some_iff.1 h1
    have e1 := (List.getElem?_eq_some_iff.1 hj).2
    rcases Nat.lt_trichotomy j m with hlt | he | hlt
    · exact absurd (e1.trans e2.symm) (List.pairwise_iff_getElem.1 h.ids j m hl hl2 hlt)
    · exact he
    · exact absurd (e2.trans e1.symm) (List.pairwise_iff_getElem.1 h.ids m j hl2 hl hlt)⟩
  have HU : Aside0 (∀ i, use g (.slice (some ⟨rb, 0, none⟩) (ts.length - 1) cap) (ts.eraseIdx m) i → use g (.slice (some ⟨rb, 0, none⟩) ts.length cap) ts i) := ⟨fun i hi => by
    rcases hi with e | e | ⟨x, hx, hu⟩
    · exact Or.inl e
    · exact Or.inr (Or.inl e)
    · exact Or.inr (Or.inr ⟨x, List.mem_of_mem_eraseIdx hx, hu⟩)⟩
  have HMem : Aside0 (k ∈ ts) := ⟨List.mem_of_getElem? hm⟩
  clear h hn hm hlen
  generalize hv : Value.slice (some ⟨rb, 0, none⟩) ts.length cap = v at H HU ⊢
  have HV := Aside0.mk hv
  clear hv
  go_enter_defers Try.func12, Try.ntmps12
  go_wp2_with fail
  refine (lock_free muLib ⟨g, 0, none⟩ w H.out.cell0 (H.out.gb.free 0)).mono ?_
  rintro e w1 ⟨rfl, hw1⟩
  have H1 : Aside0 (Ga w1 g 1 v ts last) := ⟨by rw [hw1]; exact H.out.lock 1⟩
  have HO1 : Aside0 (Only (use g v ts) w w1) := ⟨by rw [hw1]; exact lockOnly w g _ ts _⟩
  clear hw1 H
  go_wp2_with fail
  have HF := findCalls g 1 v ts last n w1 H1.out
  rw [HN.out] at HF
  simp only [tkV] at HF
  refine HF.mono ?_
  rintro e w2 ⟨rfl, hb2⟩
  have H2 := Aside0.mk (H1.out.below hb2)
  have HO2 := Aside0.mk (HO1.out.trans (Only.ofBelow hb2))
  clear hb2 H1 HO1 HF
  go_upto_region 4 with (fail)
  have H3 := Aside0.mk (H2.out.below ((Below.refl _ w2).alloc (Nat.le_refl _) (.cells #[ptrV k.id] TP)))
  have HO3 : Aside0 (Only (use g v ts) w (w2.alloc (.cells #[ptrV k.id] TP))) := ⟨HO2.out.trans ((Only.refl _ w2).alloc _)⟩
  have HP3 := Aside0.mk (Blk.newA w2 #[ptrV k.id] TP)
  have HPn : Aside0 (∀ i, use g v ts i → i ≠ w2.heap.size) := ⟨fun i hi => Nat.ne_of_lt (H2.out.lt hi)⟩
  clear H2 HO2
  generalize w2.alloc (.cells #[ptrV k.id] TP) = w3 at *
  generalize w2.heap.size = p at *
  have p0 := HP3.out.cell 0 _ rfl
  have k2 := (H3.out.tk k HMem.out).blk.cell 2 _ rfl
  have k3 := (H3.out.tk k HMem.out).blk.cell 3 _ rfl
  have HCh : Aside0 (use g v ts k.ch ∧ use g v ts k.id) := ⟨Or.inr (Or.inr ⟨k, HMem.out, Or.inr (Or.inl rfl)⟩), Or.inr (Or.inr ⟨k, HMem.out, Or.inl rfl⟩)⟩
  cases hgr : k.gr with
  | true =>
    rw [hgr] at k2
    go_upto_region 8 with (fail)
    obtain ⟨w4, hw4⟩ : ∃ w4, w4 = w3 := ⟨_, rfl⟩
    have HO4 : Aside0 (Only (fun i => i = k.ch) w3 w4) := ⟨by rw [hw4]; exact Only.refl _ _⟩
    rw [← hw4]
    clear hw4
    clear p0 k2 k3 hgr
    have HF3 := Aside0.mk (by have := H3.out; rw [erase_mid HM.out] at this; exact (fun i hi => this.far (i := i) hi))
    have hgch : g ≠ k.ch := fun e => HF3.out g (Or.inl rfl) (Or.inr e)
    have hrch : rb ≠ k.ch := fun e => HF3.out rb (Or.inr (Or.inl (by rw [← HV.out]; rfl))) (Or.inr e)
    have c3 := (HO4.out.blk H3.out.gb hgch).cell 3 _ rfl
    have HD : Aside0 (Calls Try.prog 25 #[v, .func (.func 26) #[] #[ptrV p]] w4 fun e w' => e = .returned (.slice (some ⟨rb, 0, none⟩) (ts.length - 1) cap) ∧ kP.R TP w' 0 (fun i => i = rb) (.slice (some ⟨rb, 0, none⟩) (ts.length - 1) cap) ((ts.map (·.id)).eraseIdx m) ∧ Only (fun i => i = rb) w4 w') := ⟨by
      have hr3 := H3.out.row
      rw [← HV.out] at hr3 ⊢
      have hr3' : kP.R TP w3 0 (fun i => i = rb) (.slice (some ⟨rb, 0, none⟩) (ts.map (·.id)).length cap) (ts.map (·.id)) := by
        rw [HId.out.2.2.1]
        exact ⟨fun i hi => by injection hi with hi; exact hi.symm, hr3.2⟩
      have hr4 := HO4.out.R hr3' (fun i _ hi e => hrch (hi.symm.trans e))
      have := deleteCalls rb cap p k.id m (ts.map (·.id)) w4 hr4 ((cell_block (HO4.out.block p HP3.out.lt (fun e => HPn.out k.ch HCh.out.1 e.symm))).trans (HP3.out.cell 0 _ rfl)) (fun e => HPn.out rb (Or.inr (Or.inl (by rw [← HV.out]; rfl))) e.symm) (Nat.lt_of_lt_of_le HP3.out.lt HO4.out.size) HId.out.1 HId.out.2.1 (fun q hq => by
        obtain ⟨x, hx, rfl⟩ := List.mem_map.1 hq
        have hX := (H3.out.tk x hx).blk
        exact ⟨_, (HO4.out.block x.id hX.lt (fun e => ne_heap hX.out (H3.out.tk k HMem.out).ch cells_chan e)).trans hX.out⟩) (by rw [HId.out.2.2.1]; exact HId.out.2.2.2)
      rw [HId.out.2.2.1] at this
      exact this⟩
    go_wp2_with fail
    refine HD.out.mono ?_
    rintro e w5 ⟨rfl, hR5, ho5⟩
    have HR5 := Aside0.mk hR5
    have HO5 := Aside0.mk ho5
    have HGr : Aside0 (g ≠ rb) := ⟨by
      obtain ⟨inner, ho, _⟩ := H3.out.row.2
      obtain ⟨cr, hcr⟩ := own_typed ho rb (by rw [← HV.out]; rfl)
      exact ne_heap H3.out.gb.out hcr (cells_ne (by decide))⟩
    have c3 := (ho5.blk (HO4.out.blk H3.out.gb hgch) HGr.out).cell 3 _ rfl
    have f3 := (ho5.blk (HO4.out.blk H3.out.gb hgch) HGr.out).free 3
    have HG6 := Aside0.mk (H3.out.drop HM.out (by rw [← HV.out]; rfl) (v' := .slice (some ⟨rb, 0, none⟩) (ts.length - 1) cap) rfl HO4.out ho5 hR5)
    have HO6 : Aside0 (Only (use g v ts) w (w5.setCell ⟨g, 3, none⟩ (.slice (some ⟨rb, 0, none⟩) (ts.length - 1) cap))) := ⟨((HO3.out.trans (HO4.out.mono (fun i hi => by rw [hi]; exact HCh.out.1))).trans (ho5.mono (fun i hi => by rw [hi]; exact Or.inr (Or.inl (by rw [← HV.out]; rfl))))).trans ((onlyG (Only.refl _ w5)).mono (fun i hi => Or.inl hi))⟩
    clear hR5 ho5 HD hgch hrch HF3 HO4 HO3 H3 HP3 HPn HR5 HO5
    go_wp2_with fail
    clear c3 f3
    refine (grantCalls g 1 _ _ last _ HG6.out).mono ?_
    rintro e w7 ⟨rfl, h7, ho7⟩
    have HG7 := Aside0.mk h7
    have HO7 : Aside0 (Only (use g v ts) w w7) := ⟨HO6.out.trans (ho7.mono (fun i hi => HU.out i hi))⟩
    clear h7 ho7 HG6 HO6
    go_wp2_with fail
    refine leaves_cons (f := 21) (args := #[.pointer (some ⟨g, 0, none⟩)]) (by simp) (by simp [go_sem]) ?_
    refine (unlock_deferred muLib ⟨g, 0, none⟩ .returning _ HG7.out.cell0 (HG7.out.gb.free 0)).mono ?_
    rintro e u' w8 ⟨rfl, rfl, hw8⟩
    have HG8 : Aside0 (Ga w8 g 0 _ _ last) := ⟨by rw [hw8]; exact HG7.out.lock 0⟩
    have HO8 : Aside0 (Only (use g v ts) w w8) := ⟨by rw [hw8]; exact HO7.out.trans (lockOnly w7 g _ ts _)⟩
    clear hw8 HG7 HO7
    exact ⟨_, results_tmp rfl _ _ _, _, rfl, HG8.out, HO8.out, HU.out⟩
  | false =>
    rw [hgr] at k2
    have hcl := run_shut (w := w3) (c := k.ch) (by have := (H3.out.tk k HMem.out).ch; rw [hgr] at this; exact this)
    go_upto_region 8 with (fail)
    have HO4 : Aside0 (Only (fun i => i = k.ch) w3 (shut w3 k.ch)) := ⟨Only.shut (S := fun i => i = k.ch) (Only.refl _ w3) rfl⟩
    generalize shut w3 k.ch = w4 at *
    clear hcl
    clear p0 k2 k3 hgr
    have HF3 := Aside0.mk (by have := H3.out; rw [erase_mid HM.out] at this; exact (fun i hi => this.far (i := i) hi))
    have hgch : g ≠ k.ch := fun e => HF3.out g (Or.inl rfl) (Or.inr e)
    have hrch : rb ≠ k.ch := fun e => HF3.out rb (Or.inr (Or.inl (by rw [← HV.out]; rfl))) (Or.inr e)
    have c3 := (HO4.out.blk H3.out.gb hgch).cell 3 _ rfl
    have HD : Aside0 (Calls Try.prog 25 #[v, .func (.func 26) #[] #[ptrV p]] w4 fun e w' => e = .returned (.slice (some ⟨rb, 0, none⟩) (ts.length - 1) cap) ∧ kP.R TP w' 0 (fun i => i = rb) (.slice (some ⟨rb, 0, none⟩) (ts.length - 1) cap) ((ts.map (·.id)).eraseIdx m) ∧ Only (fun i => i = rb) w4 w') := ⟨by
      have hr3 := H3.out.row
      rw [← HV.out] at hr3 ⊢
      have hr3' : kP.R TP w3 0 (fun i => i = rb) (.slice (some ⟨rb, 0, none⟩) (ts.map (·.id)).length cap) (ts.map (·.id)) := by
        rw [HId.out.2.2.1]
        exact ⟨fun i hi => by injection hi with hi; exact hi.symm, hr3.2⟩
      have hr4 := HO4.out.R hr3' (fun i _ hi e => hrch (hi.symm.trans e))
      have := deleteCalls rb cap p k.id m (ts.map (·.id)) w4 hr4 ((cell_block (HO4.out.block p HP3.out.lt (fun e => HPn.out k.ch HCh.out.1 e.symm))).trans (HP3.out.cell 0 _ rfl)) (fun e => HPn.out rb (Or.inr (Or.inl (by rw [← HV.out]; rfl))) e.symm) (Nat.lt_of_lt_of_le HP3.out.lt HO4.out.size) HId.out.1 HId.out.2.1 (fun q hq => by
        obtain ⟨x, hx, rfl⟩ := List.mem_map.1 hq
        have hX := (H3.out.tk x hx).blk
        exact ⟨_, (HO4.out.block x.id hX.lt (fun e => ne_heap hX.out (H3.out.tk k HMem.out).ch cells_chan e)).trans hX.out⟩) (by rw [HId.out.2.2.1]; exact HId.out.2.2.2)
      rw [HId.out.2.2.1] at this
      exact this⟩
    go_wp2_with fail
    refine HD.out.mono ?_
    rintro e w5 ⟨rfl, hR5, ho5⟩
    have HR5 := Aside0.mk hR5
    have HO5 := Aside0.mk ho5
    have HGr : Aside0 (g ≠ rb) := ⟨by
      obtain ⟨inner, ho, _⟩ := H3.out.row.2
      obtain ⟨cr, hcr⟩ := own_typed ho rb (by rw [← HV.out]; rfl)
      exact ne_heap H3.out.gb.out hcr (cells_ne (by decide))⟩
    have c3 := (ho5.blk (HO4.out.blk H3.out.gb hgch) HGr.out).cell 3 _ rfl
    have f3 := (ho5.blk (HO4.out.blk H3.out.gb hgch) HGr.out).free 3
    have HG6 := Aside0.mk (H3.out.drop HM.out (by rw [← HV.out]; rfl) (v' := .slice (some ⟨rb, 0, none⟩) (ts.length - 1) cap) rfl HO4.out ho5 hR5)
    have HO6 : Aside0 (Only (use g v ts) w (w5.setCell ⟨g, 3, none⟩ (.slice (some ⟨rb, 0, none⟩) (ts.length - 1) cap))) := ⟨((HO3.out.trans (HO4.out.mono (fun i hi => by rw [hi]; exact HCh.out.1))).trans (ho5.mono (fun i hi => by rw [hi]; exact Or.inr (Or.inl (by rw [← HV.out]; rfl))))).trans ((onlyG (Only.refl _ w5)).mono (fun i hi => Or.inl hi))⟩
    clear hR5 ho5 HD hgch hrch HF3 HO4 HO3 H3 HP3 HPn HR5 HO5
    go_wp2_with fail
    clear c3 f3
    refine (grantCalls g 1 _ _ last _ HG6.out).mono ?_
    rintro e w7 ⟨rfl, h7, ho7⟩
    have HG7 := Aside0.mk h7
    have HO7 : Aside0 (Only (use g v ts) w w7) := ⟨HO6.out.trans (ho7.mono (fun i hi => HU.out i hi))⟩
    clear h7 ho7 HG6 HO6
    go_wp2_with fail
    refine leaves_cons (f := 21) (args := #[.pointer (some ⟨g, 0, none⟩)]) (by simp) (by simp [go_sem]) ?_
    refine (unlock_deferred muLib ⟨g, 0, none⟩ .returning _ HG7.out.cell0 (HG7.out.gb.free 0)).mono ?_
    rintro e u' w8 ⟨rfl, rfl, hw8⟩
    have HG8 : Aside0 (Ga w8 g 0 _ _ last) := ⟨by rw [hw8]; exact HG7.out.lock 0⟩
    have HO8 : Aside0 (Only (use g v ts) w w8) := ⟨by rw [hw8]; exact HO7.out.trans (lockOnly w7 g _ ts _)⟩
    clear hw8 HG7 HO7
    exact ⟨_, results_tmp rfl _ _ _, _, rfl, HG8.out, HO8.out, HU.out⟩
end Go.Proofs.Ytkgabeloofjohaa.Gap
