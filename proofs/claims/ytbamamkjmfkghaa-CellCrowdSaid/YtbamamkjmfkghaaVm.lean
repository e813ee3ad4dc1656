/- A crowd pushes: Crowd: the loop that starts those who push.
No condition. -/
import Derived.Test.YtbamamkjmfkghaaVl
set_option linter.unusedSimpArgs false
set_option linter.unusedVariables false
namespace Go.Proofs.Ytbamamkjmfkghaa.Crw
open Go Go.Conc Go.RowKit Go.Conc.Lib Go.ConcR.Gen
open Go.ConcN (upd upd_same upd_ne)
open Go.ConcR (stA smA KK WgAt wgBlock rd wr mk)
set_option linter.unusedVariables false
set_option maxRecDepth 100000
set_option maxHeartbeats 4000000

/-- A go statement. -/
theorem rr_go {P : Program} {B : Usr} {E : Env} {Post : Value → World → Prop} {Child : Sit (proto P B E Post)} {s : St B} {w : World} {b : Frame} {a : Act} {kk : List Item} {cs : List Frame} {ops : Array Oper} {i : Nat} {rest : List Nat} {o : Oper} {d : Deferred} {f : Fn} {c : Array Value}
    (ho : ops[i]? = some o) (hw : Region.wanted o (yielded ops a.tmps) = true) (hk : b.kind ≠ .early) (hr : ∀ w, (execOp a.eval o).run P w = .ok (.spawn d) w) (he : ∀ w, (execOp a.eval o).events P w #[] = #[]) (hd : d.target = .fn f c)
    (h : ∀ s₁ w₁, Rl 0 s w s₁ w₁ → Ok E s₁ w₁ → ∃ s', Go1 E s₁ w₁ s' w₁ #[] ∧ RR P B E Post Child 0 (G (b.at (a.put o.dst undef) (.inRegion ops rest :: kk)) cs) s' w₁ ∧ Child (born P d) s' w₁) :
    RR P B E Post Child 0 (G (b.at a (.inRegion ops (i :: rest) :: kk)) cs) s w :=
  rr_spawn rfl fun s₁ w₁ hR hI => by
    obtain ⟨s', h1, h2, h3⟩ := h s₁ w₁ hR hI
    have hs := stepG_spawn (P := P) (main := true) (k := kk) (cs := cs) (rest := rest) ho hw hk (hr w₁) hd
    have hl : listed P b.fn a o w₁ = #[] := listed_nil (he w₁)
    rw [hl] at hs
    exact ⟨_, _, _, _, s', hs, h1, h2, h3⟩

section
variable {E : Env} {Post : Value → World → Prop} {s s' s₀ s₁ : St cellU} {w w' w₀ w₁ : World}

theorem crowd_loop (hB : cellU.Laws) (hEN : 66 ≤ E.N) {B0 : Nat} {ls : List (List Int)} (hls : ls.length ≤ 64) (hws : ls.flatten.length ≤ 65536) {A : Option Addr} {cap Wg cv b : Nat} {a : Act} (hF : CrIn B0 ls Wg cv b (.slice A ls.length cap) 0 s w) (ha : a.defers = []) (hT : a.tmps.size = 70) (t0 : a.tmps[0]? = some (.slice A ls.length cap)) (t7 : a.tmps[7]? = some (.pointer (some ⟨cv, 0, none⟩))) (t8 : a.tmps[8]? = some (.pointer (some ⟨Wg, 0, none⟩)))
    {cal : Frame} {cs : List Frame} {c : Code} (hc : ∃ c1 c2 c3 c4 c5 c6, Try.f4.body = some (.seq c1 (.seq c2 (.seq c3 (.seq c4 (.seq c5 (.seq c6 c)))))))
    (hnext : ∀ (a : Act) (s : St cellU) (w : World), CrIn B0 ls Wg cv b (.slice A ls.length cap) ls.length s w → a.defers = [] → a.tmps.size = 70 → a.tmps[7]? = some (.pointer (some ⟨cv, 0, none⟩)) → a.tmps[8]? = some (.pointer (some ⟨Wg, 0, none⟩)) →
      ∀ c', (∃ c1 c2 c3 c4 c5 c6 c7, Try.f4.body = some (.seq c1 (.seq c2 (.seq c3 (.seq c4 (.seq c5 (.seq c6 (.seq c7 c')))))))) → RR Try.prog cellU E Post (Born (proto Try.prog cellU E Post)) 0 (G ((base 4).at a [.code c']) (cal :: cs)) s w) :
    RR Try.prog cellU E Post (Born (proto Try.prog cellU E Post)) 0 (G ((base 4).at a [.code c]) (cal :: cs)) s w := by
  obtain ⟨c1, c2, c3, c4, c5, c6, hc⟩ := hc
  simp only [Try.f4, Option.some.injEq, Code.seq.injEq] at hc
  simp only [Try.f4, Option.some.injEq] at hnext
  obtain ⟨-, -, -, -, -, -, rfl⟩ := hc
  obtain ⟨⟨T⟩, ds⟩ := a
  simp only at ha hT t0 t7 t8
  subst ha
  ((iterate 70 (rcases T with _ | ⟨_, T⟩; focus (simp at hT))); rcases T with _ | ⟨_, _⟩; rotate_left; focus (simp at hT))
  simp only [List.getElem?_toArray, List.getElem?_cons_succ, List.getElem?_cons_zero, Option.some.injEq] at t0 t7 t8
  subst t0 t7 t8
  repeat (first | ((with_reducible refine gd_op ?_); first | (refine rr_pure' hB rfl (by rfl) (by k_ne) (by rfl) (fun w₁ => by first | (simp [go_sem]; done) | simp [go_sem, *]) (fun w₁ K hK => ?_); go_simp; refine hK _ ?_; clear hK K w₁; try walk_nrm) | (refine rr_ctl hB rfl (fun _ => stepG_unwanted rfl rfl) ?_; try walk_nrm)) | ((with_reducible refine gd_rend ?_); (refine rr_regend hB hKr ?_; clear hKr Kr)) | ((with_reducible refine gd_seq ?_); refine rr_ctl hB rfl (fun _ => stepG_seq) ?_) | ((with_reducible refine gd_reg ?_); (refine rr_reg hB (fun Kr hKr => ?_); simp only [List.size_toArray, List.length_cons, List.length_nil, Nat.reduceAdd, Nat.zero_add, List.range, List.range.loop])) | ((with_reducible refine gd_skip ?_); refine rr_ctl hB rfl (fun _ => stepG_skip) ?_) | ((with_reducible refine gd_block ?_); refine rr_ctl hB rfl (fun _ => stepG_block) ?_) | ((with_reducible refine gd_inb ?_); refine rr_ctl hB rfl (fun _ => stepG_inBlock) ?_) | ((with_reducible refine gd_ret ?_); refine rr_ctl hB rfl (fun _ => stepG_ret') ?_) | ((with_reducible refine gd_exit ?_); refine rr_ctl hB rfl (fun _ => stepG_exit rfl) ?_) | ((with_reducible refine gd_end ?_); refine rr_ctl hB rfl (fun _ => stepG_end) ?_))
  refine rr_loop hB (fun m a s w => ∃ T j, a = ⟨T, []⟩ ∧ T.size = 70 ∧ T[7]? = some (.pointer (some ⟨cv, 0, none⟩)) ∧ T[8]? = some (.pointer (some ⟨Wg, 0, none⟩)) ∧ T[33]? = some (.slice A ls.length cap) ∧ T[34]? = some (.int .i64 ls.length) ∧ T[35]? = some (.int .i64 (j : Nat)) ∧ j ≤ ls.length ∧ m = ls.length - j ∧ CrIn B0 ls Wg cv b (.slice A ls.length cap) j s w) ls.length
    ⟨_, 0, rfl, rfl, rfl, rfl, rfl, rfl, rfl, Nat.zero_le _, rfl, hF⟩ ?_
  clear hF
  rintro m a s w ⟨T, j, rfl, hT, t7, t8, t33, t34, t35, hle, rfl, hF⟩ ih
  obtain ⟨T⟩ := T
  ((iterate 70 (rcases T with _ | ⟨_, T⟩; focus (simp at hT))); rcases T with _ | ⟨_, _⟩; rotate_left; focus (simp at hT))
  simp only [List.getElem?_toArray, List.getElem?_cons_succ, List.getElem?_cons_zero, Option.some.injEq] at t7 t8 t33 t34 t35
  subst t7 t8 t33 t34 t35
  have hw1 : IntKind.i64.wrap ((j : Int) + 1) = ((j + 1 : Nat) : Int) := by rw [IntKind.wrap_i64]; omega
  repeat (first | ((with_reducible refine gd_op ?_); first | (refine rr_pure' hB rfl (by rfl) (by k_ne) (by rfl) (fun w₁ => by first | (simp [go_sem]; done) | simp [go_sem, *]) (fun w₁ K hK => ?_); go_simp; refine hK _ ?_; clear hK K w₁; try walk_nrm) | (refine rr_ctl hB rfl (fun _ => stepG_unwanted rfl rfl) ?_; try walk_nrm)) | ((with_reducible refine gd_rend ?_); (refine rr_regend hB hKr ?_; clear hKr Kr)) | ((with_reducible refine gd_seq ?_); refine rr_ctl hB rfl (fun _ => stepG_seq) ?_) | ((with_reducible refine gd_reg ?_); (refine rr_reg hB (fun Kr hKr => ?_); simp only [List.size_toArray, List.length_cons, List.length_nil, Nat.reduceAdd, Nat.zero_add, List.range, List.range.loop])) | ((with_reducible refine gd_skip ?_); refine rr_ctl hB rfl (fun _ => stepG_skip) ?_) | ((with_reducible refine gd_block ?_); refine rr_ctl hB rfl (fun _ => stepG_block) ?_) | ((with_reducible refine gd_inb ?_); refine rr_ctl hB rfl (fun _ => stepG_inBlock) ?_) | ((with_reducible refine gd_ret ?_); refine rr_ctl hB rfl (fun _ => stepG_ret') ?_) | ((with_reducible refine gd_exit ?_); refine rr_ctl hB rfl (fun _ => stepG_exit rfl) ?_) | ((with_reducible refine gd_end ?_); refine rr_ctl hB rfl (fun _ => stepG_end) ?_))
  by_cases hlt : j < ls.length
  · have hk2 : 0 ≤ (j : Int) ∧ (j : Int) < ls.length := ⟨by omega, by omega⟩
    obtain ⟨g, _, rfl, _⟩ := hF.st.lst.cell hlt
    (refine rr_ctl hB rfl (fun _ => stepG_cond (t := true) (by first | rfl | (simp [Act.eval, *]))) ?_; simp only [if_true, if_false, Bool.false_eq_true, ↓reduceIte])
    repeat (first | ((with_reducible refine gd_op ?_); first | (refine rr_pure' hB rfl (by rfl) (by k_ne) (by rfl) (fun w₁ => by first | (simp [go_sem]; done) | simp [go_sem, *]) (fun w₁ K hK => ?_); go_simp; refine hK _ ?_; clear hK K w₁; try walk_nrm) | (refine rr_ctl hB rfl (fun _ => stepG_unwanted rfl rfl) ?_; try walk_nrm)) | ((with_reducible refine gd_rend ?_); (refine rr_regend hB hKr ?_; clear hKr Kr)) | ((with_reducible refine gd_seq ?_); refine rr_ctl hB rfl (fun _ => stepG_seq) ?_) | ((with_reducible refine gd_reg ?_); (refine rr_reg hB (fun Kr hKr => ?_); simp only [List.size_toArray, List.length_cons, List.length_nil, Nat.reduceAdd, Nat.zero_add, List.range, List.range.loop])) | ((with_reducible refine gd_skip ?_); refine rr_ctl hB rfl (fun _ => stepG_skip) ?_) | ((with_reducible refine gd_block ?_); refine rr_ctl hB rfl (fun _ => stepG_block) ?_) | ((with_reducible refine gd_inb ?_); refine rr_ctl hB rfl (fun _ => stepG_inBlock) ?_) | ((with_reducible refine gd_ret ?_); refine rr_ctl hB rfl (fun _ => stepG_ret') ?_) | ((with_reducible refine gd_exit ?_); refine rr_ctl hB rfl (fun _ => stepG_exit rfl) ?_) | ((with_reducible refine gd_end ?_); refine rr_ctl hB rfl (fun _ => stepG_end) ?_))
    -- the list
    refine rr_oper rfl (by rfl) (by k_ne) (fun s₁ w₁ hR hI K hK => ?_)
    replace hF := hF.rely hR
    clear hR
    obtain ⟨g', vi, e, h1, h2, h3, hv⟩ := hF.st.lst.cell hlt
    cases e
    go_simp
    refine hK _ _ ⟨s₁, mv_rd (.inl rfl) (fun e he => ?_), .refl _, ?_⟩
    · have hm := mem_listed he
      simp [go_sem, *] at hm
      subst hm
      exact ⟨_, rfl, h2, h3⟩
    clear hK K h1 h2 h3
    try walk_nrm
    -- its variable
    refine rr_oper rfl (by rfl) (by k_ne) (fun s₁ w₁ hR hI K hK => ?_)
    replace hF := hF.rely hR
    replace hv := hv.map fun _ _ _ _ x => x.rely hR
    clear hR
    go_simp
    refine hK _ _ ⟨_, mv_new_at (.inl rfl) _ (listed_nil (by simp [go_sem, *])), St.take_soft _ _ _ _, ?_⟩
    clear hK K
    obtain ⟨Ai, ci, rfl, _⟩ := id hv
    have hO : Own 0 (s₁.take 0 w₁.heap.size (w₁.heap.size + 1)) (w₁.alloc (.cells #[.slice none 0 0] 23)) w₁.heap.size 23 [.slice none 0 0] := own_new s₁ w₁ [.slice none 0 0] 23
    have hN : B0 ≤ w₁.heap.size := hF.st.low
    have hcv : cv ≠ w₁.heap.size := Nat.ne_of_lt hF.st.cvr.lt
    replace hv : Lst0 B0 (s₁.take 0 w₁.heap.size (w₁.heap.size + 1)) (w₁.alloc (.cells #[.slice none 0 0] 23)) (.slice Ai ls[j].length ci) ls[j] := hv.map fun _ _ _ _ x => x.up (up_new _)
    replace hF : CrIn B0 ls Wg cv b (.slice (some ⟨g, 0, none⟩) ls.length cap) j (s₁.take 0 w₁.heap.size (w₁.heap.size + 1)) (w₁.alloc (.cells #[.slice none 0 0] 23)) := ⟨hF.sf.take _ _ _, hF.st.up (up_new _) rfl rfl⟩
    generalize w₁.alloc (.cells #[.slice none 0 0] 23) = w at *
    generalize s₁.take 0 w₁.heap.size (w₁.heap.size + 1) = s at *
    generalize w₁.heap.size = N at *
    try walk_nrm
    refine rr_oper rfl (by rfl) (by k_ne) (fun s₁ w₁ hR hI K hK => ?_)
    replace hF := hF.rely hR
    replace hv := hv.map fun _ _ _ _ x => x.rely hR
    replace hO := hO.rely hR
    clear hR
    have h0 := hO.cell 0
    have z0 := hO.frozen 0
    simp only [List.getElem?_cons_zero] at h0
    go_simp
    refine hK _ _ ⟨s₁, mv_set hI (.inl rfl) hO 0 _ (fun e he => ?_), .refl _, ?_⟩
    · have hm := mem_listed he
      simp [go_sem, ev_store_slc, storedEv, *] at hm
      exact hm
    clear hK K h0 z0
    replace hv : Lst0 B0 s₁ (w₁.setCell ⟨N, 0, none⟩ (.slice Ai ls[j].length ci)) (.slice Ai ls[j].length ci) ls[j] := hv.map fun g t vs hg x => x.set hO (by omega) 0 _
    replace hF : CrIn B0 ls Wg cv b (.slice (some ⟨g, 0, none⟩) ls.length cap) j s₁ (w₁.setCell ⟨N, 0, none⟩ (.slice Ai ls[j].length ci)) := ⟨hF.sf, hF.st.set hO hN hcv 0 _⟩
    replace hO := hO.set 0 (.slice Ai ls[j].length ci)
    simp only [List.set_cons_zero] at hO
    generalize w₁.setCell ⟨N, 0, none⟩ (.slice Ai ls[j].length ci) = w at *
    clear hI hcv
    try walk_nrm
    repeat (first | ((with_reducible refine gd_op ?_); first | (refine rr_pure' hB rfl (by rfl) (by k_ne) (by rfl) (fun w₁ => by first | (simp [go_sem]; done) | simp [go_sem, *]) (fun w₁ K hK => ?_); go_simp; refine hK _ ?_; clear hK K w₁; try walk_nrm) | (refine rr_ctl hB rfl (fun _ => stepG_unwanted rfl rfl) ?_; try walk_nrm)) | ((with_reducible refine gd_rend ?_); (refine rr_regend hB hKr ?_; clear hKr Kr)) | ((with_reducible refine gd_seq ?_); refine rr_ctl hB rfl (fun _ => stepG_seq) ?_) | ((with_reducible refine gd_reg ?_); (refine rr_reg hB (fun Kr hKr => ?_); simp only [List.size_toArray, List.length_cons, List.length_nil, Nat.reduceAdd, Nat.zero_add, List.range, List.range.loop])) | ((with_reducible refine gd_skip ?_); refine rr_ctl hB rfl (fun _ => stepG_skip) ?_) | ((with_reducible refine gd_block ?_); refine rr_ctl hB rfl (fun _ => stepG_block) ?_) | ((with_reducible refine gd_inb ?_); refine rr_ctl hB rfl (fun _ => stepG_inBlock) ?_) | ((with_reducible refine gd_ret ?_); refine rr_ctl hB rfl (fun _ => stepG_ret') ?_) | ((with_reducible refine gd_exit ?_); refine rr_ctl hB rfl (fun _ => stepG_exit rfl) ?_) | ((with_reducible refine gd_end ?_); refine rr_ctl hB rfl (fun _ => stepG_end) ?_))
    -- one more
    (apply rr_call hB rfl (by rfl) (by k_ne) rfl; focus ((try walk_nrm); exact (wgAdd_x hB (s₀ := s₁) (w₀ := w) (ae := false) ⟨.refl hB _ _ _, hF.sf⟩)))
    rintro _ s' w' hH
    replace hv := hv.map fun _ _ _ _ x => x.cm hH.cm
    have hst := hF.st.cm hH.cm
    replace hO := hO.cm hH.cm
    have hS := hH.sf
    clear hF hH
    walk_nrm
    repeat (first | ((with_reducible refine gd_op ?_); first | (refine rr_pure' hB rfl (by rfl) (by k_ne) (by rfl) (fun w₁ => by first | (simp [go_sem]; done) | simp [go_sem, *]) (fun w₁ K hK => ?_); go_simp; refine hK _ ?_; clear hK K w₁; try walk_nrm) | (refine rr_ctl hB rfl (fun _ => stepG_unwanted rfl rfl) ?_; try walk_nrm)) | ((with_reducible refine gd_rend ?_); (refine rr_regend hB hKr ?_; clear hKr Kr)) | ((with_reducible refine gd_seq ?_); refine rr_ctl hB rfl (fun _ => stepG_seq) ?_) | ((with_reducible refine gd_reg ?_); (refine rr_reg hB (fun Kr hKr => ?_); simp only [List.size_toArray, List.length_cons, List.length_nil, Nat.reduceAdd, Nat.zero_add, List.range, List.range.loop])) | ((with_reducible refine gd_skip ?_); refine rr_ctl hB rfl (fun _ => stepG_skip) ?_) | ((with_reducible refine gd_block ?_); refine rr_ctl hB rfl (fun _ => stepG_block) ?_) | ((with_reducible refine gd_inb ?_); refine rr_ctl hB rfl (fun _ => stepG_inBlock) ?_) | ((with_reducible refine gd_ret ?_); refine rr_ctl hB rfl (fun _ => stepG_ret') ?_) | ((with_reducible refine gd_exit ?_); refine rr_ctl hB rfl (fun _ => stepG_exit rfl) ?_) | ((with_reducible refine gd_end ?_); refine rr_ctl hB rfl (fun _ => stepG_end) ?_))
    -- it is started
    refine rr_go (d := callOf 11 Wg N cv) (f := .func 11) (c := #[.pointer (some ⟨Wg, 0, none⟩), .pointer (some ⟨N, 0, none⟩), .pointer (some ⟨cv, 0, none⟩)]) rfl (by rfl) (by k_ne) (fun w => by simp [go_sem, callOf, Deferred.ofValue]) (fun w => by simp [go_sem, Deferred.ofValue]) rfl fun s₂ w₂ hR hI => ?_
    replace hv := hv.map fun _ _ _ _ x => x.rely hR
    replace hst := hst.cm hR.cm
    replace hO := hO.rely hR
    replace hS := hS.rely hR
    clear hR
    obtain ⟨gA, gS⟩ := go_pusher hI hS hst hlt hv hO
    have hnj := hst.nj
    refine ⟨_, go_mk hS (by omega) (fun _ => False) ⟨hst.on, by have := hst.ust; omega, rfl⟩, ?_, ?_⟩
    · clear gA hv hst hO hS hI
      generalize goSt s₂ w₂ (fun _ => False) { s₂.u with st := s₂.tg.n } = s at *
      try walk_nrm
      repeat (first | ((with_reducible refine gd_op ?_); first | (refine rr_pure' hB rfl (by rfl) (by k_ne) (by rfl) (fun w₁ => by first | (simp [go_sem]; done) | simp [go_sem, *]) (fun w₁ K hK => ?_); go_simp; refine hK _ ?_; clear hK K w₁; try walk_nrm) | (refine rr_ctl hB rfl (fun _ => stepG_unwanted rfl rfl) ?_; try walk_nrm)) | ((with_reducible refine gd_rend ?_); (refine rr_regend hB hKr ?_; clear hKr Kr)) | ((with_reducible refine gd_seq ?_); refine rr_ctl hB rfl (fun _ => stepG_seq) ?_) | ((with_reducible refine gd_reg ?_); (refine rr_reg hB (fun Kr hKr => ?_); simp only [List.size_toArray, List.length_cons, List.length_nil, Nat.reduceAdd, Nat.zero_add, List.range, List.range.loop])) | ((with_reducible refine gd_skip ?_); refine rr_ctl hB rfl (fun _ => stepG_skip) ?_) | ((with_reducible refine gd_block ?_); refine rr_ctl hB rfl (fun _ => stepG_block) ?_) | ((with_reducible refine gd_inb ?_); refine rr_ctl hB rfl (fun _ => stepG_inBlock) ?_) | ((with_reducible refine gd_ret ?_); refine rr_ctl hB rfl (fun _ => stepG_ret') ?_) | ((with_reducible refine gd_exit ?_); refine rr_ctl hB rfl (fun _ => stepG_exit rfl) ?_) | ((with_reducible refine gd_end ?_); refine rr_ctl hB rfl (fun _ => stepG_end) ?_))
      refine rr_ctl hB rfl (fun _ => stepG_inLoop) ?_
      exact ih (ls.length - (j + 1)) _ _ _ (by omega) ⟨_, j + 1, rfl, rfl, rfl, rfl, rfl, rfl, rfl, by omega, rfl, gS⟩
    · have hli : ls[j].length ≤ ls.flatten.length := (List.sublist_flatten_of_mem (List.getElem_mem hlt)).length_le
      have : RR Try.prog cellU E Post (fun _ _ _ => False) s₂.tg.n (born Try.prog (callOf 11 Wg N cv)) (goSt s₂ w₂ (fun _ => False) { s₂.u with st := s₂.tg.n }) w₂ := pusher_runs hB hws (by omega) (by simp only [maxLen]; omega) gA
      exact this
  · have hjl : j = ls.length := by omega
    subst hjl
    (refine rr_ctl hB rfl (fun _ => stepG_cond (t := false) (by first | rfl | (simp [Act.eval, *]))) ?_; simp only [if_true, if_false, Bool.false_eq_true, ↓reduceIte])
    refine rr_ctl hB rfl (fun _ => stepG_exit rfl) ?_
    exact hnext _ _ _ hF rfl rfl rfl rfl _ ⟨_, _, _, _, _, _, _, rfl⟩
end
end Go.Proofs.Ytbamamkjmfkghaa.Crw
