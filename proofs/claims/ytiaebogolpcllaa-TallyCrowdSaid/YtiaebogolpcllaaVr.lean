/- A crowd adds: Crowd: the one who looks is started; the join; the sum.
No condition. -/
import Derived.Test.YtiaebogolpcllaaVq
set_option linter.unusedSimpArgs false
set_option linter.unusedVariables false
namespace Go.Proofs.Ytiaebogolpcllaa.Crw
open Go Go.Conc Go.RowKit Go.Conc.Lib Go.ConcR.Gen
open Go.ConcN (upd upd_same upd_ne)
open Go.ConcR (stA smA KK WgAt wgBlock rd wr mk)
set_option linter.unusedVariables false
set_option maxRecDepth 100000
set_option maxHeartbeats 4000000
section
variable {E : Env} {Post : Value → World → Prop} {s s' s₀ s₁ : St tallyU} {w w' w₀ w₁ : World}

/-- All are started. -/
structure EndF (n Wg sv cv cb b sb looks : Nat) (ls : List (List (Int × Int))) (s : St tallyU) (w : World) : Prop where
  sf : SF Wg 0 false true false s
  nn : s.tg.n = ls.length + 2
  cvr : Rd0 s w cv 33 [.pointer (some ⟨cb, 0, none⟩)]
  cbr : Rd0 s w cb 55 [.slice (some ⟨b, 0, none⟩) n n]
  svr : Rd0 s w sv 23 [.slice (some ⟨sb, 0, none⟩) looks looks]
  blk : ∃ c, w.heap[sb]? = some (.cells c 2 (0, 0)) ∧ c.size = looks
  on : s.u.on = true
  ub : s.u.b = b
  un : s.u.cur.length = n
  ua : s.u.all = allOf ls
  usb : s.u.sb = some sb
/-- Behind the join. -/
structure PostF (n sv cv cb b sb looks : Nat) (ls : List (List (Int × Int))) (vs : List Int) (s : St tallyU) (w : World) : Prop where
  jn : s.tg.joined = true
  cvr : Rds 0 s w cv 33 [.pointer (some ⟨cb, 0, none⟩)]
  cbr : Rds 0 s w cb 55 [.slice (some ⟨b, 0, none⟩) n n]
  svr : Rds 0 s w sv 23 [.slice (some ⟨sb, 0, none⟩) looks looks]
  own : Own 0 s w sb 2 (ints vs)
  len : vs.length = looks
  look : Fine (allOf ls) → LookOk (allOf ls) vs
  on : s.u.on = true
  ub : s.u.b = b
  un : s.u.cur.length = n
  emp : ∀ l ∈ s.u.rem, l = []
  sum : IntKind.i64.wrap (sum1 s.u.cur) = IntKind.i64.wrap (sum2 (allOf ls))
section
variable {n Wg sv cv cb b sb looks : Nat} {ls : List (List (Int × Int))} {vs : List Int}
theorem EndF.cm (h : EndF n Wg sv cv cb b sb looks ls s w) (r : Cm 0 s w s₁ w₁) (hs : SF Wg 0 false true false s₁) : EndF n Wg sv cv cb b sb looks ls s₁ w₁ := by
  obtain ⟨r1, r2, r3, r4, r5, r6, r7, r8⟩ := r.ru.2 h.on
  obtain ⟨c, h1, h2⟩ := h.blk
  obtain ⟨c', e1, e2, _⟩ := r.cells _ _ _ _ h1
  exact ⟨hs, (r.n0 rfl).trans h.nn, h.cvr.cm r, h.cbr.cm r, h.svr.cm r, ⟨c', e1, e2.trans h2⟩, r1, r2.trans h.ub, r4.trans h.un, r3.trans h.ua, r8 _ h.usb⟩
theorem PostF.rely (h : PostF n sv cv cb b sb looks ls vs s w) (r : Rl 0 s w s₁ w₁) : PostF n sv cv cb b sb looks ls vs s₁ w₁ := by
  obtain ⟨r1, r2, r3, r4, r5, r6, r7, r8⟩ := r.ru.2 h.on
  obtain ⟨e1, e2⟩ := r7 h.emp
  exact ⟨(r.zero rfl).2.2.1.trans h.jn, h.cvr.rely r, h.cbr.rely r, h.svr.rely r, h.own.rely r, h.len, h.look, r1, r2.trans h.ub, r4.trans h.un, by rw [e2]; exact h.emp, by rw [e1]; exact h.sum⟩
theorem Rd0.join {b : Nat} {t : TypeId} {vs : List Value} (h : Rd0 s w b t vs) : Rds 0 s.join w b t vs :=
  ⟨h.hp, fun a ha => by
    rcases h.md a ha with e | ⟨m, hm, e⟩
    · exact .inl (jmode_own e)
    · exact .inr (.inl ⟨m, (jmode_else (by rw [e]; simp)).trans e, .inl rfl⟩)⟩
/-- From the join on. -/
theorem PostF.of_join (h : EndF n Wg sv cv cb b sb looks ls s w) (hI : Ok E s w) (hfin : ∀ k, 1 ≤ k → k < s.tg.n → tallyU.Fin s.u k s.tg.mode w) : ∃ vs, PostF n sv cv cb b sb looks ls vs s.join w := by
  obtain ⟨g1, g2, g3⟩ := hI.J h.on
  have hal : (allOf ls).length = ls.length := by simp [allOf]
  have hn := h.nn
  obtain ⟨vs, f1, f2, f3⟩ := (hfin (ls.length + 1) (by omega) (by omega)).2 (by rw [h.ua, hal]) sb h.usb
  have hemp : ∀ l ∈ s.u.rem, l = [] := by
    intro l hl
    obtain ⟨i, hi⟩ := List.mem_iff_getElem?.1 hl
    have hil : i < ls.length := by have := (List.getElem?_eq_some_iff.1 hi).1; rw [g3.len, h.ua, hal] at this; exact this
    have := (hfin (i + 1) (by omega) (by omega)).1 (by omega) (by rw [h.ua, hal]; omega)
    rw [Nat.add_sub_cancel, hi] at this
    exact Option.some.inj this
  obtain ⟨c, c1, c2⟩ := h.blk
  refine ⟨vs, rfl, h.cvr.join, h.cbr.join, h.svr.join, ⟨f1, fun a ha => jmode_own (f2 a ha)⟩, ?_, by rw [← h.ua]; exact f3, h.on, h.ub, h.un, hemp, ?_⟩
  · rw [f1] at c1
    cases c1
    simpa [ints] using c2
  · have hc := g3.cong
    rw [sum2_empty hemp, h.ua] at hc
    show IntKind.i64.wrap (sum1 s.u.cur) = _
    rw [IntKind.wrap_i64, IntKind.wrap_i64]
    omega

/-- The one who looks is started. -/
theorem go_looker {B0 : Nat} {v : Value} (hS : SF Wg 0 true true false s) (hst : StF B0 ls n cv cb b v ls.length s w) (hO : Own 0 s w sb 2 (ints (List.replicate looks 0))) (hV : Own 0 s w sv 23 [.slice (some ⟨sb, 0, none⟩) looks looks]) (h1 : cv ≠ sb) (h2 : cb ≠ sb) (h3 : sv ≠ sb) :
    LkF s.tg.n Wg sv cv cb b n 55 sb looks (List.replicate looks 0) 0 (goSt s w (fun a => a.block = sb) { s.u with sb := some sb }) w ∧ EndF n Wg sv cv cb b sb looks ls (goSt s w (fun a => a.block = sb) { s.u with sb := some sb }) w := by
  have hn := hst.nj
  have hal : (allOf ls).length = ls.length := by simp [allOf]
  refine ⟨⟨go_ws hS, go_rds hV.rd0 fun a ha e => h3 (ha.symm.trans e), go_rds hst.cvr fun a ha e => h1 (ha.symm.trans e), go_rds hst.cbr fun a ha e => h2 (ha.symm.trans e), go_own hO fun a ha => ha, by simp, hst.on, hst.ub, hst.un, ?_, rfl, fun _ => ⟨fun j x y hj => by omega, fun j x hj => by omega⟩⟩,
    go_sf hS (by omega), by show s.tg.n + 1 = _; omega, go_rd0 hst.cvr fun a ha e => h1 (ha.symm.trans e), go_rd0 hst.cbr fun a ha e => h2 (ha.symm.trans e), go_rd0 hV.rd0 fun a ha e => h3 (ha.symm.trans e), ⟨_, hO.hp, by simp [ints]⟩, hst.on, hst.ub, hst.un, hst.ua, rfl⟩
  show s.tg.n = s.u.all.length + 1
  rw [hst.ua, hal]; omega
end

/-- What Crowd told. -/
def CrowdQ (ls : List (List (Int × Int))) (looks : Nat) (v : Value) (s : St tallyU) (w : World) : Prop :=
  ∃ sb vs, v = .tuple #[.int .i64 (IntKind.i64.wrap (sum2 (allOf ls))), .slice (some ⟨sb, 0, none⟩) looks looks, .int .i64 0] ∧ vs.length = looks ∧ Own 0 s w sb 2 (ints vs) ∧ (Fine (allOf ls) → LookOk (allOf ls) vs) ∧ s.tg.joined = true

theorem crowd_end (hB : tallyU.Laws) (hEN : 66 ≤ E.N) {n looks B0 : Nat} (hn : 0 < n) (hn2 : n ≤ 64) {ls : List (List (Int × Int))} (hls : ls.length ≤ 64) (hlk : looks ≤ 65536) {v : Value} {Wg cv cb b : Nat} {a : Act} (hF : CrIn B0 ls n Wg cv cb b v ls.length s w) (ha : a.defers = []) (hT : a.tmps.size = 52) (t2 : a.tmps[2]? = some (.int .i64 looks)) (t9 : a.tmps[9]? = some (.pointer (some ⟨cv, 0, none⟩))) (t11 : a.tmps[11]? = some (.pointer (some ⟨Wg, 0, none⟩)))
    {cal : Frame} {cs : List Frame} {c : Code} (hc : ∃ c1 c2 c3 c4 c5, Try.f4.body = some (.seq c1 (.seq c2 (.seq c3 (.seq c4 (.seq c5 c))))))
    (hret : ∀ v s' w', CrowdQ ls looks v s' w' → RR Try.prog tallyU E Post (Born (proto Try.prog tallyU E Post)) 0 (G (cal.finish v) cs) s' w') :
    RR Try.prog tallyU E Post (Born (proto Try.prog tallyU E Post)) 0 (G ((base 4).at a [.code c]) (cal :: cs)) s w := by
  obtain ⟨c1, c2, c3, c4, c5, hc⟩ := hc
  simp only [Try.f4, Option.some.injEq, Code.seq.injEq] at hc
  obtain ⟨rfl, rfl, rfl, rfl, rfl, rfl⟩ := hc
  obtain ⟨⟨T⟩, ds⟩ := a
  simp only at ha hT t2 t9 t11
  subst ha
  ((iterate 52 (rcases T with _ | ⟨_, T⟩; focus (simp at hT))); rcases T with _ | ⟨_, _⟩; rotate_left; focus (simp at hT))
  simp only [List.getElem?_toArray, List.getElem?_cons_succ, List.getElem?_cons_zero, Option.some.injEq] at t2 t9 t11
  subst t2 t9 t11
  repeat (first | ((with_reducible refine gd_op ?_); first | (refine rr_pure' hB rfl (by rfl) (by k_ne) (by rfl) (fun w₁ => by first | (simp [go_sem]; done) | simp [go_sem, *]) (fun w₁ K hK => ?_); go_simp; refine hK _ ?_; clear hK K w₁; try walk_nrm) | (refine rr_ctl hB rfl (fun _ => stepG_unwanted rfl rfl) ?_; try walk_nrm)) | ((with_reducible refine gd_rend ?_); (refine rr_regend hB hKr ?_; clear hKr Kr)) | ((with_reducible refine gd_seq ?_); refine rr_ctl hB rfl (fun _ => stepG_seq) ?_) | ((with_reducible refine gd_reg ?_); (refine rr_reg hB (fun Kr hKr => ?_); simp only [List.size_toArray, List.length_cons, List.length_nil, Nat.reduceAdd, Nat.zero_add, List.range, List.range.loop])) | ((with_reducible refine gd_skip ?_); refine rr_ctl hB rfl (fun _ => stepG_skip) ?_) | ((with_reducible refine gd_block ?_); refine rr_ctl hB rfl (fun _ => stepG_block) ?_) | ((with_reducible refine gd_inb ?_); refine rr_ctl hB rfl (fun _ => stepG_inBlock) ?_) | ((with_reducible refine gd_ret ?_); refine rr_ctl hB rfl (fun _ => stepG_ret') ?_) | ((with_reducible refine gd_exit ?_); refine rr_ctl hB rfl (fun _ => stepG_exit rfl) ?_) | ((with_reducible refine gd_end ?_); refine rr_ctl hB rfl (fun _ => stepG_end) ?_))
  refine rr_make hB (.int .i64 0) 8 hF (fun h r => h.rely r) rfl (by rfl) (by k_ne) rfl (by rfl) (by rfl) Try.underlying23 (by kernel_rfl) (by omega) (by omega) fun s w hF hI => ?_
  refine ⟨_, mv_new (.inl rfl) _, St.take_soft _ _ _ _, ?_⟩
  have hO : Own 0 (s.take 0 w.heap.size (w.heap.size + 1)) (w.alloc (.cells (List.replicate looks (.int .i64 0)).toArray 2)) w.heap.size 2 (ints (List.replicate looks 0)) := by
    have := own_new (k := 0) s w (List.replicate looks (.int .i64 0)) 2
    simpa [ints] using this
  have hN : B0 ≤ w.heap.size := hF.st.low
  have hcv : cv ≠ w.heap.size := Nat.ne_of_lt hF.st.cvr.lt
  have hcb : cb ≠ w.heap.size := Nat.ne_of_lt hF.st.cbr.lt
  replace hF : CrIn B0 ls n Wg cv cb b v ls.length (s.take 0 w.heap.size (w.heap.size + 1)) (w.alloc (.cells (List.replicate looks (.int .i64 0)).toArray 2)) := ⟨hF.sf.take _ _ _, hF.st.up (up_new _) rfl rfl⟩
  clear hI
  generalize w.alloc (.cells (List.replicate looks (.int .i64 0)).toArray 2) = w' at *
  generalize s.take 0 w.heap.size (w.heap.size + 1) = s' at *
  generalize w.heap.size = sb at *
  walk_nrm
  repeat (first | ((with_reducible refine gd_op ?_); first | (refine rr_pure' hB rfl (by rfl) (by k_ne) (by rfl) (fun w₁ => by first | (simp [go_sem]; done) | simp [go_sem, *]) (fun w₁ K hK => ?_); go_simp; refine hK _ ?_; clear hK K w₁; try walk_nrm) | (refine rr_ctl hB rfl (fun _ => stepG_unwanted rfl rfl) ?_; try walk_nrm)) | ((with_reducible refine gd_rend ?_); (refine rr_regend hB hKr ?_; clear hKr Kr)) | ((with_reducible refine gd_seq ?_); refine rr_ctl hB rfl (fun _ => stepG_seq) ?_) | ((with_reducible refine gd_reg ?_); (refine rr_reg hB (fun Kr hKr => ?_); simp only [List.size_toArray, List.length_cons, List.length_nil, Nat.reduceAdd, Nat.zero_add, List.range, List.range.loop])) | ((with_reducible refine gd_skip ?_); refine rr_ctl hB rfl (fun _ => stepG_skip) ?_) | ((with_reducible refine gd_block ?_); refine rr_ctl hB rfl (fun _ => stepG_block) ?_) | ((with_reducible refine gd_inb ?_); refine rr_ctl hB rfl (fun _ => stepG_inBlock) ?_) | ((with_reducible refine gd_ret ?_); refine rr_ctl hB rfl (fun _ => stepG_ret') ?_) | ((with_reducible refine gd_exit ?_); refine rr_ctl hB rfl (fun _ => stepG_exit rfl) ?_) | ((with_reducible refine gd_end ?_); refine rr_ctl hB rfl (fun _ => stepG_end) ?_))
  refine rr_oper rfl (by rfl) (by k_ne) (fun s₁ w₁ hR hI K hK => ?_)
  replace hF := hF.rely hR
  replace hO := hO.rely hR
  clear hR
  go_simp
  refine hK _ _ ⟨_, mv_new_at (.inl rfl) _ (listed_nil (by simp [go_sem, *])), St.take_soft _ _ _ _, ?_⟩
  clear hK K
  have hV : Own 0 (s₁.take 0 w₁.heap.size (w₁.heap.size + 1)) (w₁.alloc (.cells #[.slice none 0 0] 23)) w₁.heap.size 23 [.slice none 0 0] := own_new s₁ w₁ [.slice none 0 0] 23
  have hN2 : B0 ≤ w₁.heap.size := hF.st.low
  have hcv2 : cv ≠ w₁.heap.size := Nat.ne_of_lt hF.st.cvr.lt
  have hcb2 : cb ≠ w₁.heap.size := Nat.ne_of_lt hF.st.cbr.lt
  have hsb2 : sb ≠ w₁.heap.size := Nat.ne_of_lt hO.lt
  replace hF : CrIn B0 ls n Wg cv cb b v ls.length (s₁.take 0 w₁.heap.size (w₁.heap.size + 1)) (w₁.alloc (.cells #[.slice none 0 0] 23)) := ⟨hF.sf.take _ _ _, hF.st.up (up_new _) rfl rfl⟩
  replace hO := hO.up (up_new (.cells #[.slice none 0 0] 23))
  clear hI
  generalize w₁.alloc (.cells #[.slice none 0 0] 23) = w at *
  generalize s₁.take 0 w₁.heap.size (w₁.heap.size + 1) = s at *
  generalize w₁.heap.size = sv at *
  try walk_nrm
  refine rr_oper rfl (by rfl) (by k_ne) (fun s₁ w₁ hR hI K hK => ?_)
  replace hF := hF.rely hR
  replace hO := hO.rely hR
  replace hV := hV.rely hR
  clear hR
  have h0 := hV.cell 0
  have z0 := hV.frozen 0
  simp only [List.getElem?_cons_zero] at h0
  go_simp
  refine hK _ _ ⟨s₁, mv_set hI (.inl rfl) hV 0 _ (fun e he => ?_), .refl _, ?_⟩
  · have hm := mem_listed he
    simp [go_sem, ev_store_slc, storedEv, *] at hm
    exact hm
  clear hK K h0 z0
  replace hF : CrIn B0 ls n Wg cv cb b v ls.length s₁ (w₁.setCell ⟨sv, 0, none⟩ (.slice (some ⟨sb, 0, none⟩) looks looks)) := ⟨hF.sf, hF.st.set hV hN2 hcv2 hcb2 0 _⟩
  replace hO : Own 0 s₁ (w₁.setCell ⟨sv, 0, none⟩ (.slice (some ⟨sb, 0, none⟩) looks looks)) sb 2 (ints (List.replicate looks 0)) := hO.leaves (leaves_set hsb2 _ _)
  replace hV := hV.set 0 (.slice (some ⟨sb, 0, none⟩) looks looks)
  simp only [List.set_cons_zero] at hV
  generalize w₁.setCell ⟨sv, 0, none⟩ (.slice (some ⟨sb, 0, none⟩) looks looks) = w at *
  clear hI
  try walk_nrm
  repeat (first | ((with_reducible refine gd_op ?_); first | (refine rr_pure' hB rfl (by rfl) (by k_ne) (by rfl) (fun w₁ => by first | (simp [go_sem]; done) | simp [go_sem, *]) (fun w₁ K hK => ?_); go_simp; refine hK _ ?_; clear hK K w₁; try walk_nrm) | (refine rr_ctl hB rfl (fun _ => stepG_unwanted rfl rfl) ?_; try walk_nrm)) | ((with_reducible refine gd_rend ?_); (refine rr_regend hB hKr ?_; clear hKr Kr)) | ((with_reducible refine gd_seq ?_); refine rr_ctl hB rfl (fun _ => stepG_seq) ?_) | ((with_reducible refine gd_reg ?_); (refine rr_reg hB (fun Kr hKr => ?_); simp only [List.size_toArray, List.length_cons, List.length_nil, Nat.reduceAdd, Nat.zero_add, List.range, List.range.loop])) | ((with_reducible refine gd_skip ?_); refine rr_ctl hB rfl (fun _ => stepG_skip) ?_) | ((with_reducible refine gd_block ?_); refine rr_ctl hB rfl (fun _ => stepG_block) ?_) | ((with_reducible refine gd_inb ?_); refine rr_ctl hB rfl (fun _ => stepG_inBlock) ?_) | ((with_reducible refine gd_ret ?_); refine rr_ctl hB rfl (fun _ => stepG_ret') ?_) | ((with_reducible refine gd_exit ?_); refine rr_ctl hB rfl (fun _ => stepG_exit rfl) ?_) | ((with_reducible refine gd_end ?_); refine rr_ctl hB rfl (fun _ => stepG_end) ?_))
  (apply rr_call hB rfl (by rfl) (by k_ne) rfl; focus ((try walk_nrm); exact (wgAdd_x hB (s₀ := s₁) (w₀ := w) (ae := false) ⟨.refl hB _ _ _, hF.sf⟩)))
  rintro _ s' w' hH
  have hst := hF.st.cm hH.cm
  replace hO := hO.cm hH.cm
  replace hV := hV.cm hH.cm
  have hS := hH.sf
  clear hF hH
  walk_nrm
  repeat (first | ((with_reducible refine gd_op ?_); first | (refine rr_pure' hB rfl (by rfl) (by k_ne) (by rfl) (fun w₁ => by first | (simp [go_sem]; done) | simp [go_sem, *]) (fun w₁ K hK => ?_); go_simp; refine hK _ ?_; clear hK K w₁; try walk_nrm) | (refine rr_ctl hB rfl (fun _ => stepG_unwanted rfl rfl) ?_; try walk_nrm)) | ((with_reducible refine gd_rend ?_); (refine rr_regend hB hKr ?_; clear hKr Kr)) | ((with_reducible refine gd_seq ?_); refine rr_ctl hB rfl (fun _ => stepG_seq) ?_) | ((with_reducible refine gd_reg ?_); (refine rr_reg hB (fun Kr hKr => ?_); simp only [List.size_toArray, List.length_cons, List.length_nil, Nat.reduceAdd, Nat.zero_add, List.range, List.range.loop])) | ((with_reducible refine gd_skip ?_); refine rr_ctl hB rfl (fun _ => stepG_skip) ?_) | ((with_reducible refine gd_block ?_); refine rr_ctl hB rfl (fun _ => stepG_block) ?_) | ((with_reducible refine gd_inb ?_); refine rr_ctl hB rfl (fun _ => stepG_inBlock) ?_) | ((with_reducible refine gd_ret ?_); refine rr_ctl hB rfl (fun _ => stepG_ret') ?_) | ((with_reducible refine gd_exit ?_); refine rr_ctl hB rfl (fun _ => stepG_exit rfl) ?_) | ((with_reducible refine gd_end ?_); refine rr_ctl hB rfl (fun _ => stepG_end) ?_))
  refine rr_go (d := callOf 14 Wg sv cv) (f := .func 14) (c := #[.pointer (some ⟨Wg, 0, none⟩), .pointer (some ⟨sv, 0, none⟩), .pointer (some ⟨cv, 0, none⟩)]) rfl (by rfl) (by k_ne) (fun w => by simp [go_sem, callOf, Deferred.ofValue]) (fun w => by simp [go_sem, Deferred.ofValue]) rfl fun s₂ w₂ hR hI => ?_
  replace hst := hst.cm hR.cm
  replace hO := hO.rely hR
  replace hV := hV.rely hR
  replace hS := hS.rely hR
  clear hR
  obtain ⟨gL, gE⟩ := go_looker hS hst hO hV hcv hcb (Ne.symm hsb2)
  have hnj := hst.nj
  have hal : (allOf ls).length = ls.length := by simp [allOf]
  refine ⟨_, go_mk hS (by omega) (fun a => a.block = sb) ⟨hst.on, .inr ⟨hst.sb, by rw [hst.ua, hal]; omega, sb, rfl⟩⟩, ?_, ?_⟩
  · clear gL hst hO hV hS hI
    generalize goSt s₂ w₂ (fun a => a.block = sb) { s₂.u with sb := some sb } = s at *
    try walk_nrm
    repeat (first | ((with_reducible refine gd_op ?_); first | (refine rr_pure' hB rfl (by rfl) (by k_ne) (by rfl) (fun w₁ => by first | (simp [go_sem]; done) | simp [go_sem, *]) (fun w₁ K hK => ?_); go_simp; refine hK _ ?_; clear hK K w₁; try walk_nrm) | (refine rr_ctl hB rfl (fun _ => stepG_unwanted rfl rfl) ?_; try walk_nrm)) | ((with_reducible refine gd_rend ?_); (refine rr_regend hB hKr ?_; clear hKr Kr)) | ((with_reducible refine gd_seq ?_); refine rr_ctl hB rfl (fun _ => stepG_seq) ?_) | ((with_reducible refine gd_reg ?_); (refine rr_reg hB (fun Kr hKr => ?_); simp only [List.size_toArray, List.length_cons, List.length_nil, Nat.reduceAdd, Nat.zero_add, List.range, List.range.loop])) | ((with_reducible refine gd_skip ?_); refine rr_ctl hB rfl (fun _ => stepG_skip) ?_) | ((with_reducible refine gd_block ?_); refine rr_ctl hB rfl (fun _ => stepG_block) ?_) | ((with_reducible refine gd_inb ?_); refine rr_ctl hB rfl (fun _ => stepG_inBlock) ?_) | ((with_reducible refine gd_ret ?_); refine rr_ctl hB rfl (fun _ => stepG_ret') ?_) | ((with_reducible refine gd_exit ?_); refine rr_ctl hB rfl (fun _ => stepG_exit rfl) ?_) | ((with_reducible refine gd_end ?_); refine rr_ctl hB rfl (fun _ => stepG_end) ?_))
    (apply rr_call hB rfl (by rfl) (by k_ne) rfl; focus ((try walk_nrm); exact (wgWait_x hB (s₀ := s) (w₀ := w₂) ⟨.refl hB _ _ _, gE.sf⟩)))
    rintro _ s' w' ⟨s1, hH, hI, hfin, rfl⟩
    obtain ⟨vs, hF⟩ := PostF.of_join (gE.cm hH.cm ⟨hH.sf.on, hH.sf.wg, hH.sf.df, hH.sf.pe, hH.sf.ph, fun e => (by cases e), hH.sf.jn⟩) hI hfin
    clear gE hH hI hfin
    walk_nrm
    repeat (first | ((with_reducible refine gd_op ?_); first | (refine rr_pure' hB rfl (by rfl) (by k_ne) (by rfl) (fun w₁ => by first | (simp [go_sem]; done) | simp [go_sem, *]) (fun w₁ K hK => ?_); go_simp; refine hK _ ?_; clear hK K w₁; try walk_nrm) | (refine rr_ctl hB rfl (fun _ => stepG_unwanted rfl rfl) ?_; try walk_nrm)) | ((with_reducible refine gd_rend ?_); (refine rr_regend hB hKr ?_; clear hKr Kr)) | ((with_reducible refine gd_seq ?_); refine rr_ctl hB rfl (fun _ => stepG_seq) ?_) | ((with_reducible refine gd_reg ?_); (refine rr_reg hB (fun Kr hKr => ?_); simp only [List.size_toArray, List.length_cons, List.length_nil, Nat.reduceAdd, Nat.zero_add, List.range, List.range.loop])) | ((with_reducible refine gd_skip ?_); refine rr_ctl hB rfl (fun _ => stepG_skip) ?_) | ((with_reducible refine gd_block ?_); refine rr_ctl hB rfl (fun _ => stepG_block) ?_) | ((with_reducible refine gd_inb ?_); refine rr_ctl hB rfl (fun _ => stepG_inBlock) ?_) | ((with_reducible refine gd_ret ?_); refine rr_ctl hB rfl (fun _ => stepG_ret') ?_) | ((with_reducible refine gd_exit ?_); refine rr_ctl hB rfl (fun _ => stepG_exit rfl) ?_) | ((with_reducible refine gd_end ?_); refine rr_ctl hB rfl (fun _ => stepG_end) ?_))
    refine rr_drawn hB (F := PostF n sv cv cb b sb looks ls vs) hF (fun h r => h.rely r) mixed (os := [[0, 1, 2, 3, 4, 5], [0, 1, 3, 2, 4, 5], [0, 2, 1, 3, 4, 5], [2, 0, 1, 3, 4, 5]]) (by kernel_rfl) ?_
    clear hF
    intro s w hF lo hlo Kr hKr
    simp only [List.mem_cons, List.not_mem_nil, or_false] at hlo
    rcases hlo with rfl | rfl | rfl | rfl
    all_goals repeat first
      | (first | ((with_reducible refine gd_op ?_); first | (refine rr_pure' hB rfl (by rfl) (by k_ne) (by rfl) (fun w₁ => by first | (simp [go_sem]; done) | simp [go_sem, *]) (fun w₁ K hK => ?_); go_simp; refine hK _ ?_; clear hK K w₁; try walk_nrm) | (refine rr_ctl hB rfl (fun _ => stepG_unwanted rfl rfl) ?_; try walk_nrm)) | ((with_reducible refine gd_rend ?_); (refine rr_regend hB hKr ?_; clear hKr Kr)) | ((with_reducible refine gd_seq ?_); refine rr_ctl hB rfl (fun _ => stepG_seq) ?_) | ((with_reducible refine gd_reg ?_); (refine rr_reg hB (fun Kr hKr => ?_); simp only [List.size_toArray, List.length_cons, List.length_nil, Nat.reduceAdd, Nat.zero_add, List.range, List.range.loop])) | ((with_reducible refine gd_skip ?_); refine rr_ctl hB rfl (fun _ => stepG_skip) ?_) | ((with_reducible refine gd_block ?_); refine rr_ctl hB rfl (fun _ => stepG_block) ?_) | ((with_reducible refine gd_inb ?_); refine rr_ctl hB rfl (fun _ => stepG_inBlock) ?_) | ((with_reducible refine gd_ret ?_); refine rr_ctl hB rfl (fun _ => stepG_ret') ?_) | ((with_reducible refine gd_exit ?_); refine rr_ctl hB rfl (fun _ => stepG_exit rfl) ?_) | ((with_reducible refine gd_end ?_); refine rr_ctl hB rfl (fun _ => stepG_end) ?_))
      | ((refine rr_oper rfl (by rfl) (by k_ne) (fun s₁ w₁ hR hI K hK => ?_); replace hF := (PostF.rely) hF hR; clear hR; have := hF.cvr.cell 0; have := hF.svr.cell 0; go_simp; refine hK _ _ ⟨s₁, mv_rd (.inl rfl) (fun e he => ?_), .refl _, ?_⟩; (focus (have hm := mem_listed he; simp [go_sem, *] at hm; (subst hm; first | exact ⟨_, rfl, hF.cvr.md _ rfl, hF.cvr.lt⟩ | exact ⟨_, rfl, hF.svr.md _ rfl, hF.svr.lt⟩))); clear hK K; try walk_nrm))
      | ((apply rr_call hB rfl (by rfl) (by k_ne) rfl; focus ((try walk_nrm); exact (sum_x hB (ctr_of hF.cbr hn hn2 (.inl rfl) hF.on hF.ub hF.un))))
         rintro _ s' w' ⟨xs, hxn, rfl, hR, hsn⟩
         have hxs := (seen_all hF.on hF.ub hF.un hxn hsn hR.ru).2 hF.emp
         have hsum : sumW xs = IntKind.i64.wrap (sum2 (allOf ls)) := by rw [sumW_eq, hxs]; exact hF.sum
         rw [hsum]
         clear hxs hsum hxn hsn
         replace hF := hF.rely hR
         clear hR
         walk_nrm)
    all_goals
      (refine rr_leave hB rfl rfl Try.func4 (fun w => ⟨run_results3 rfl _ w, events_results3 rfl _ _ _⟩) ?_)
      exact hret _ _ _ ⟨sb, vs, rfl, hF.len, hF.own, hF.look, hF.jn⟩
  · have : RR Try.prog tallyU E Post (fun _ _ _ => False) s₂.tg.n (born Try.prog (callOf 14 Wg sv cv)) (goSt s₂ w₂ (fun a => a.block = sb) { s₂.u with sb := some sb }) w₂ := looker_runs hB (by omega) hn hn2 (by simp only [maxLen]; omega) gL
    exact this
end
end Go.Proofs.Ytiaebogolpcllaa.Crw
