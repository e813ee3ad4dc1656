/- A crowd pushes: the lists that the law makes for Crowd; the reference's Refused: by contracts of the starter.
No condition. -/
import Derived.Test.YtbamamkjmfkghaaVn
set_option linter.unusedSimpArgs false
set_option linter.unusedVariables false
namespace Go.Proofs.Ytbamamkjmfkghaa.Crw
open Go Go.Conc Go.RowKit Go.Conc.Lib Go.ConcR.Gen
open Go.ConcN (upd upd_same upd_ne)
open Go.ConcR (stA smA KK WgAt wgBlock rd wr mk)
set_option linter.unusedVariables false
set_option maxRecDepth 100000
set_option maxHeartbeats 4000000
theorem info_ints : ∃ ti, Try.prog.info? 23 = some ti ∧ ti.zero = some (.slice none 0 0) ∧ ti.size = 1 ∧ ti.bytes = 24 := ⟨_, rfl, by kernel_rfl, by kernel_rfl, by kernel_rfl⟩
section
variable {E : Env} {Post : Value → World → Prop} {Child : Sit (proto Try.prog cellU E Post)} {k : Nat} {s s' s₀ s₁ : St cellU} {w w' w₀ w₁ : World}

/-- A list in memory of the starter's own. -/
def LstO (s : St cellU) (w : World) (v : Value) (l : List Int) : Prop :=
  ∃ A cap, v = .slice A l.length cap ∧ (l = [] ∨ ∃ g vs, A = some ⟨g, 0, none⟩ ∧ Own 0 s w g 2 vs ∧ ∀ (i : Nat) x, l[i]? = some x → vs[i]? = some (.int .i64 x))
theorem LstO.rely {v : Value} {l : List Int} (h : LstO s w v l) (r : Rl 0 s w s₁ w₁) : LstO s₁ w₁ v l := by
  obtain ⟨A, cap, e, h | ⟨g, vs, h1, h2, h3⟩⟩ := h
  · exact ⟨A, cap, e, .inl h⟩
  · exact ⟨A, cap, e, .inr ⟨g, vs, h1, h2.rely r, h3⟩⟩
theorem LstO.step {v : Value} {l : List Int} (h : LstO s w v l) (f : ∀ b (vs : List Value), b < w.heap.size → Leaves b s w s' w') : LstO s' w' v l := by
  obtain ⟨A, cap, e, h | ⟨g, vs, h1, h2, h3⟩⟩ := h
  · exact ⟨A, cap, e, .inl h⟩
  · exact ⟨A, cap, e, .inr ⟨g, vs, h1, h2.leaves (f g vs h2.lt), h3⟩⟩
theorem LstO.lst0 {v : Value} {l : List Int} (h : LstO s w v l) : Lst0 w.heap.size s w v l := by
  obtain ⟨A, cap, e, h | ⟨g, vs, h1, h2, h3⟩⟩ := h
  · exact ⟨A, cap, e, .inl h⟩
  · exact ⟨A, cap, e, .inr ⟨g, vs, h1, h2.lt, h2.rd0, h3⟩⟩
theorem Acc.lstO {v : Value} {l : List Int} (h : Acc s₀ w₀ v l s w) : LstO s w v l := by
  rcases h.sl.row.2 with ⟨rfl, h0⟩ | ⟨g, cap, cur, rfl, h1, h2, h3, h4, h5, h6⟩
  · exact ⟨none, 0, by rw [h0], .inl (List.eq_nil_of_length_eq_zero h0)⟩
  · refine ⟨_, cap, rfl, .inr ⟨g, cur.toList, rfl, ⟨by simpa using h2, fun a ha => h.sl.md g rfl a ha⟩, fun i x hx => ?_⟩⟩
    have e1 := ints_get hx
    rw [← h6, List.getElem?_take] at e1
    split at e1
    · exact e1
    · cases e1

/-- The outer list as far as it was made. -/
structure OutI (ls : List (List Int)) (s₀ : St cellU) (w₀ : World) (i : Nat) (v : Value) (vals : List Value) (s : St cellU) (w : World) : Prop where
  rl : Rl 0 s₀ w₀ s w
  sl : Sl 0 w₀.heap.size s w 23 1 v i vals
  each : ∀ (j : Nat) vj, vals[j]? = some vj → ∃ l, ls[j]? = some l ∧ LstO s w vj l
theorem OutI.rely {ls : List (List Int)} {i : Nat} {v : Value} {vals : List Value} (h : OutI ls s₀ w₀ i v vals s w) (r : Rl 0 s w s₁ w₁) : OutI ls s₀ w₀ i v vals s₁ w₁ :=
  ⟨h.rl.trans cellLaws r, h.sl.rely r, fun j vj hj => let ⟨l, h1, h2⟩ := h.each j vj hj; ⟨l, h1, h2.rely r⟩⟩
theorem OutI.keep {ls : List (List Int)} {i : Nat} {v : Value} {vals : List Value} (h : OutI ls s₀ w₀ i v vals s w) (o : Obj) : OutI ls s₀ w₀ i v vals (s.take 0 w.heap.size (w.heap.size + 1)) (w.alloc o) :=
  ⟨h.rl.new cellLaws o, h.sl.keep fun bb hb => leaves_new (h.sl.lt hb).2 o, fun j vj hj => let ⟨l, h1, h2⟩ := h.each j vj hj; ⟨l, h1, h2.step fun b _ hb => leaves_new hb o⟩⟩
/-- Another list is put onto it. -/
theorem OutI.more {ls : List (List Int)} {i : Nat} {v v' one : Value} {vals : List Value} {l : List Int} {mode' : Loc → Mode} (h : OutI ls s₀ w₀ i v vals s w) (hl : ls[i]? = some l) (ho : LstO s w one l) (hi : vals.length = i)
    (hS : Sl 0 w₀.heap.size { s with tg := { s.tg with mode := mode' } } w' 23 1 v' (i + 1) (vals ++ [one]))
    (hsz : w.heap.size ≤ w'.heap.size) (hkeep : ∀ bb, bb < w.heap.size → v.ownBlock ≠ some bb → w'.heap[bb]? = w.heap[bb]?) (hmode : ∀ l, locLow w.heap.size l → mode' l = s.tg.mode l) : OutI ls s₀ w₀ (i + 1) v' (vals ++ [one]) { s with tg := { s.tg with mode := mode' } } w' := by
  have far : ∀ {vj : Value} {l : List Int}, LstO s w vj l → LstO { s with tg := { s.tg with mode := mode' } } w' vj l := by
    rintro vj l ⟨A, cap, e, h1 | ⟨g, vs, h1, h2, h3⟩⟩
    · exact ⟨A, cap, e, .inl h1⟩
    · refine ⟨A, cap, e, .inr ⟨g, vs, h1, h2.leaves ⟨hkeep g h2.lt fun e2 => ?_, fun a ha => hmode _ (by show a.block < _; rw [ha]; exact h2.lt), rfl⟩, h3⟩⟩
      rcases h.sl.row.2 with ⟨rfl, _⟩ | ⟨g', cap', cur, rfl, _, f2, _⟩
      · simp [Value.ownBlock] at e2
      · simp [Value.ownBlock] at e2
        subst e2
        rw [h2.hp] at f2
        injection f2 with f2
        injection f2 with _ f2 _
        exact absurd f2 (by decide)
  refine ⟨h.rl.own cellLaws hsz (fun bb hb => hkeep bb (Nat.lt_of_lt_of_le hb h.rl.size) fun e => by have := (h.sl.lt e).1; omega) fun l hl => hmode l (hl.mono h.rl.size), hS, fun j vj hj => ?_⟩
  rw [List.getElem?_append] at hj
  split at hj
  · obtain ⟨l', h1, h2⟩ := h.each j vj hj
    exact ⟨l', h1, far h2⟩
  · rename_i hge
    have e0 : j - vals.length = 0 := by
      rcases Nat.eq_zero_or_pos (j - vals.length) with h | h
      · exact h
      · rw [List.getElem?_eq_none (by simp only [List.length_singleton]; omega)] at hj; cases hj
    rw [e0] at hj
    simp at hj
    subst hj
    have : j = i := by omega
    subst this
    exact ⟨l, hl, far ho⟩
theorem Lists.of_out {ls : List (List Int)} {v : Value} {vals : List Value} (h : OutI ls s₀ w₀ ls.length v vals s w) : Lists w.heap.size ls v s w := by
  have hl : vals.length = ls.length := by have := h.sl.row.1; omega
  rcases h.sl.row.2 with ⟨rfl, h0⟩ | ⟨g, cap, cur, rfl, h1, h2, h3, h4, h5, h6⟩
  · exact ⟨none, 0, by rw [h0], .inl (List.eq_nil_of_length_eq_zero h0)⟩
  · refine ⟨_, cap, rfl, .inr ⟨g, cur.toList, rfl, (Array.getElem?_eq_some_iff.1 h2).1, ⟨by simpa using h2, fun a ha => .inl (h.sl.md g rfl a ha)⟩, fun i l hil => ?_⟩⟩
    have hi : i < vals.length := by have := (List.getElem?_eq_some_iff.1 hil).1; omega
    obtain ⟨x, e⟩ : ∃ x, vals[i]? = some x := ⟨_, List.getElem?_eq_getElem hi⟩
    obtain ⟨l', e1, e2⟩ := h.each i _ e
    rw [hil] at e1
    cases e1
    refine ⟨x, ?_, e2.lst0⟩
    rw [← h6, List.getElem?_take] at e
    split at e
    · exact e
    · cases e

theorem lists_x (hB : cellU.Laws) {A : Option Addr} {cap : Nat} {ls : List (List Int)} (hL : Numss 0 s₀ w₀ (.slice A ls.length cap) ls) (hlen : ls.length * 24 ≤ 140737488355328) (hlens : ∀ l ∈ ls, l.length ≤ 17592186044415) : CallX Try.prog cellU E Post Child 0 5 #[.slice A ls.length cap] s₀ w₀
    (fun v s' w' => ∃ vals, OutI ls s₀ w₀ ls.length v vals s' w') := by
  refine ⟨Try.f5, _, Try.func5, by kernel_rfl, rfl, fun cal cs hret => ?_⟩
  replace hL := Hid.mk hL
  replace hlens := Hid.mk hlens
  walk_nrmf Try.f5
  repeat (first | ((with_reducible refine gd_op ?_); first | (refine rr_pure' hB rfl (by rfl) (by k_ne) (by rfl) (fun w₁ => by first | (simp [go_sem]; done) | simp [go_sem, *]) (fun w₁ K hK => ?_); go_simp; refine hK _ ?_; clear hK K w₁; try walk_nrm) | (refine rr_ctl hB rfl (fun _ => stepG_unwanted rfl rfl) ?_; try walk_nrm)) | ((with_reducible refine gd_rend ?_); (refine rr_regend hB hKr ?_; clear hKr Kr)) | ((with_reducible refine gd_seq ?_); refine rr_ctl hB rfl (fun _ => stepG_seq) ?_) | ((with_reducible refine gd_reg ?_); (refine rr_reg hB (fun Kr hKr => ?_); simp only [List.size_toArray, List.length_cons, List.length_nil, Nat.reduceAdd, Nat.zero_add, List.range, List.range.loop])) | ((with_reducible refine gd_skip ?_); refine rr_ctl hB rfl (fun _ => stepG_skip) ?_) | ((with_reducible refine gd_block ?_); refine rr_ctl hB rfl (fun _ => stepG_block) ?_) | ((with_reducible refine gd_inb ?_); refine rr_ctl hB rfl (fun _ => stepG_inBlock) ?_) | ((with_reducible refine gd_ret ?_); refine rr_ctl hB rfl (fun _ => stepG_ret') ?_) | ((with_reducible refine gd_exit ?_); refine rr_ctl hB rfl (fun _ => stepG_exit rfl) ?_) | ((with_reducible refine gd_end ?_); refine rr_ctl hB rfl (fun _ => stepG_end) ?_))
  have hF : Rl 0 s₀ w₀ s₀ w₀ := .refl hB _ _ _
  refine rr_oper rfl (by rfl) (by k_ne) (fun s₁ w₁ hR hI K hK => ?_)
  replace hF := hF.trans hB hR
  clear hR
  go_simp
  refine hK _ _ ⟨_, mv_new_at (.inl rfl) _ (listed_nil (by simp [go_sem, *])), St.take_soft _ _ _ _, ?_⟩
  clear hK K
  replace hF : OutI ls s₀ w₀ 0 (.slice (some ⟨w₁.heap.size, 0, none⟩) 0 0) [] (s₁.take 0 w₁.heap.size (w₁.heap.size + 1)) (w₁.alloc (.cells #[] 23)) := ⟨hF.new hB _, sl_empty _ _ hF.size, fun j vj hj => by simp at hj⟩
  try walk_nrm
  repeat (first | ((with_reducible refine gd_op ?_); first | (refine rr_pure' hB rfl (by rfl) (by k_ne) (by rfl) (fun w₁ => by first | (simp [go_sem]; done) | simp [go_sem, *]) (fun w₁ K hK => ?_); go_simp; refine hK _ ?_; clear hK K w₁; try walk_nrm) | (refine rr_ctl hB rfl (fun _ => stepG_unwanted rfl rfl) ?_; try walk_nrm)) | ((with_reducible refine gd_rend ?_); (refine rr_regend hB hKr ?_; clear hKr Kr)) | ((with_reducible refine gd_seq ?_); refine rr_ctl hB rfl (fun _ => stepG_seq) ?_) | ((with_reducible refine gd_reg ?_); (refine rr_reg hB (fun Kr hKr => ?_); simp only [List.size_toArray, List.length_cons, List.length_nil, Nat.reduceAdd, Nat.zero_add, List.range, List.range.loop])) | ((with_reducible refine gd_skip ?_); refine rr_ctl hB rfl (fun _ => stepG_skip) ?_) | ((with_reducible refine gd_block ?_); refine rr_ctl hB rfl (fun _ => stepG_block) ?_) | ((with_reducible refine gd_inb ?_); refine rr_ctl hB rfl (fun _ => stepG_inBlock) ?_) | ((with_reducible refine gd_ret ?_); refine rr_ctl hB rfl (fun _ => stepG_ret') ?_) | ((with_reducible refine gd_exit ?_); refine rr_ctl hB rfl (fun _ => stepG_exit rfl) ?_) | ((with_reducible refine gd_end ?_); refine rr_ctl hB rfl (fun _ => stepG_end) ?_))
  refine rr_loop hB (fun m a s w => ∃ T i v vals, a = ⟨T, []⟩ ∧ T.size = 39 ∧ T[0]? = some (.slice A ls.length cap) ∧ some v = T[3]? ∧ T[4]? = some (.int .i64 (i : Nat)) ∧ i ≤ ls.length ∧ m = ls.length - i ∧ vals.length = i ∧ OutI ls s₀ w₀ i v vals s w) ls.length ⟨_, 0, _, [], rfl, rfl, rfl, rfl, rfl, Nat.zero_le _, rfl, rfl, hF⟩ ?_
  clear hF hI
  rintro m a s w ⟨T, i, v, vals, rfl, hT, t0, t3, t4, hle, rfl, hvl, hF⟩ ih
  obtain ⟨T⟩ := T
  ((iterate 39 (rcases T with _ | ⟨_, T⟩; focus (simp at hT))); rcases T with _ | ⟨_, _⟩; rotate_left; focus (simp at hT))
  simp only [List.getElem?_toArray, List.getElem?_cons_succ, List.getElem?_cons_zero, Option.some.injEq] at t0 t3 t4
  subst t0 t3 t4
  repeat (first | ((with_reducible refine gd_op ?_); first | (refine rr_pure' hB rfl (by rfl) (by k_ne) (by rfl) (fun w₁ => by first | (simp [go_sem]; done) | simp [go_sem, *]) (fun w₁ K hK => ?_); go_simp; refine hK _ ?_; clear hK K w₁; try walk_nrm) | (refine rr_ctl hB rfl (fun _ => stepG_unwanted rfl rfl) ?_; try walk_nrm)) | ((with_reducible refine gd_rend ?_); (refine rr_regend hB hKr ?_; clear hKr Kr)) | ((with_reducible refine gd_seq ?_); refine rr_ctl hB rfl (fun _ => stepG_seq) ?_) | ((with_reducible refine gd_reg ?_); (refine rr_reg hB (fun Kr hKr => ?_); simp only [List.size_toArray, List.length_cons, List.length_nil, Nat.reduceAdd, Nat.zero_add, List.range, List.range.loop])) | ((with_reducible refine gd_skip ?_); refine rr_ctl hB rfl (fun _ => stepG_skip) ?_) | ((with_reducible refine gd_block ?_); refine rr_ctl hB rfl (fun _ => stepG_block) ?_) | ((with_reducible refine gd_inb ?_); refine rr_ctl hB rfl (fun _ => stepG_inBlock) ?_) | ((with_reducible refine gd_ret ?_); refine rr_ctl hB rfl (fun _ => stepG_ret') ?_) | ((with_reducible refine gd_exit ?_); refine rr_ctl hB rfl (fun _ => stepG_exit rfl) ?_) | ((with_reducible refine gd_end ?_); refine rr_ctl hB rfl (fun _ => stepG_end) ?_))
  by_cases hlt : i < ls.length
  · have hk2 : 0 ≤ (i : Int) ∧ (i : Int) < ls.length := ⟨by omega, by omega⟩
    have hwi : IntKind.i64.wrap (i : Int) = (i : Int) := by rw [IntKind.wrap_i64]; omega
    have hw1 : IntKind.i64.wrap ((i : Int) + 1) = ((i + 1 : Nat) : Int) := by rw [IntKind.wrap_i64]; omega
    obtain ⟨b, o, vi, rfl, h1, h2⟩ := hL.out.at hlt
    obtain ⟨Ai, ci, rfl, -⟩ := id h2
    have hli := hlens.out _ (List.getElem_mem hlt)
    replace h1 := Hid.mk h1
    replace h2 := Hid.mk h2
    (refine rr_ctl hB rfl (fun _ => stepG_cond (t := true) (by first | rfl | (simp [Act.eval, *]))) ?_; simp only [if_true, if_false, Bool.false_eq_true, ↓reduceIte])
    repeat (first | ((with_reducible refine gd_op ?_); first | (refine rr_pure' hB rfl (by rfl) (by k_ne) (by rfl) (fun w₁ => by first | (simp [go_sem]; done) | simp [go_sem, *]) (fun w₁ K hK => ?_); go_simp; refine hK _ ?_; clear hK K w₁; try walk_nrm) | (refine rr_ctl hB rfl (fun _ => stepG_unwanted rfl rfl) ?_; try walk_nrm)) | ((with_reducible refine gd_rend ?_); (refine rr_regend hB hKr ?_; clear hKr Kr)) | ((with_reducible refine gd_seq ?_); refine rr_ctl hB rfl (fun _ => stepG_seq) ?_) | ((with_reducible refine gd_reg ?_); (refine rr_reg hB (fun Kr hKr => ?_); simp only [List.size_toArray, List.length_cons, List.length_nil, Nat.reduceAdd, Nat.zero_add, List.range, List.range.loop])) | ((with_reducible refine gd_skip ?_); refine rr_ctl hB rfl (fun _ => stepG_skip) ?_) | ((with_reducible refine gd_block ?_); refine rr_ctl hB rfl (fun _ => stepG_block) ?_) | ((with_reducible refine gd_inb ?_); refine rr_ctl hB rfl (fun _ => stepG_inBlock) ?_) | ((with_reducible refine gd_ret ?_); refine rr_ctl hB rfl (fun _ => stepG_ret') ?_) | ((with_reducible refine gd_exit ?_); refine rr_ctl hB rfl (fun _ => stepG_exit rfl) ?_) | ((with_reducible refine gd_end ?_); refine rr_ctl hB rfl (fun _ => stepG_end) ?_))
    refine rr_oper rfl (by rfl) (by k_ne) (fun sc wc hR hI K hK => ?_)
    replace hF := hF.rely hR
    clear hR
    go_simp
    refine hK _ _ ⟨_, mv_new_at (.inl rfl) _ (listed_nil (by simp [go_sem, *])), St.take_soft _ _ _ _, ?_⟩
    clear hK K
    have hG := Acc.empty hB sc wc
    try walk_nrm
    repeat (first | ((with_reducible refine gd_op ?_); first | (refine rr_pure' hB rfl (by rfl) (by k_ne) (by rfl) (fun w₁ => by first | (simp [go_sem]; done) | simp [go_sem, *]) (fun w₁ K hK => ?_); go_simp; refine hK _ ?_; clear hK K w₁; try walk_nrm) | (refine rr_ctl hB rfl (fun _ => stepG_unwanted rfl rfl) ?_; try walk_nrm)) | ((with_reducible refine gd_rend ?_); (refine rr_regend hB hKr ?_; clear hKr Kr)) | ((with_reducible refine gd_seq ?_); refine rr_ctl hB rfl (fun _ => stepG_seq) ?_) | ((with_reducible refine gd_reg ?_); (refine rr_reg hB (fun Kr hKr => ?_); simp only [List.size_toArray, List.length_cons, List.length_nil, Nat.reduceAdd, Nat.zero_add, List.range, List.range.loop])) | ((with_reducible refine gd_skip ?_); refine rr_ctl hB rfl (fun _ => stepG_skip) ?_) | ((with_reducible refine gd_block ?_); refine rr_ctl hB rfl (fun _ => stepG_block) ?_) | ((with_reducible refine gd_inb ?_); refine rr_ctl hB rfl (fun _ => stepG_inBlock) ?_) | ((with_reducible refine gd_ret ?_); refine rr_ctl hB rfl (fun _ => stepG_ret') ?_) | ((with_reducible refine gd_exit ?_); refine rr_ctl hB rfl (fun _ => stepG_exit rfl) ?_) | ((with_reducible refine gd_end ?_); refine rr_ctl hB rfl (fun _ => stepG_end) ?_))
    refine rr_loop hB (fun m a s w => ∃ T q one, a = ⟨T, []⟩ ∧ T.size = 39 ∧ T[0]? = some (.slice (some ⟨b, o, none⟩) ls.length cap) ∧ some v = T[3]? ∧ T[4]? = some (.int .i64 (i : Nat)) ∧ some one = T[5]? ∧ T[6]? = some (.int .i64 (q : Nat)) ∧ q ≤ ls[i].length ∧ m = ls[i].length - q ∧ Acc sc wc one (ls[i].take q) s w) ls[i].length ⟨_, 0, _, rfl, rfl, rfl, rfl, rfl, rfl, rfl, Nat.zero_le _, rfl, hG⟩ ?_
    clear hG hI
    rintro m a s w ⟨T, q, one, rfl, hT, t0, t3, t4, t5, t6, hle2, rfl, hG⟩ ih2
    obtain ⟨T⟩ := T
    ((iterate 39 (rcases T with _ | ⟨_, T⟩; focus (simp at hT))); rcases T with _ | ⟨_, _⟩; rotate_left; focus (simp at hT))
    simp only [List.getElem?_toArray, List.getElem?_cons_succ, List.getElem?_cons_zero, Option.some.injEq] at t0 t3 t4 t5 t6
    subst t0 t3 t4 t5 t6
    repeat (first | ((with_reducible refine gd_op ?_); first | (refine rr_pure' hB rfl (by rfl) (by k_ne) (by rfl) (fun w₁ => by first | (simp [go_sem]; done) | simp [go_sem, *]) (fun w₁ K hK => ?_); go_simp; refine hK _ ?_; clear hK K w₁; try walk_nrm) | (refine rr_ctl hB rfl (fun _ => stepG_unwanted rfl rfl) ?_; try walk_nrm)) | ((with_reducible refine gd_rend ?_); (refine rr_regend hB hKr ?_; clear hKr Kr)) | ((with_reducible refine gd_seq ?_); refine rr_ctl hB rfl (fun _ => stepG_seq) ?_) | ((with_reducible refine gd_reg ?_); (refine rr_reg hB (fun Kr hKr => ?_); simp only [List.size_toArray, List.length_cons, List.length_nil, Nat.reduceAdd, Nat.zero_add, List.range, List.range.loop])) | ((with_reducible refine gd_skip ?_); refine rr_ctl hB rfl (fun _ => stepG_skip) ?_) | ((with_reducible refine gd_block ?_); refine rr_ctl hB rfl (fun _ => stepG_block) ?_) | ((with_reducible refine gd_inb ?_); refine rr_ctl hB rfl (fun _ => stepG_inBlock) ?_) | ((with_reducible refine gd_ret ?_); refine rr_ctl hB rfl (fun _ => stepG_ret') ?_) | ((with_reducible refine gd_exit ?_); refine rr_ctl hB rfl (fun _ => stepG_exit rfl) ?_) | ((with_reducible refine gd_end ?_); refine rr_ctl hB rfl (fun _ => stepG_end) ?_))
    (refine rr_oper rfl (by rfl) (by k_ne) (fun s₁ w₁ hR hI K hK => ?_); replace hG := (Acc.rely hB) hG hR; clear hR; have := (h1.out.rely (hF.rl.trans hB hG.rl)).1; go_simp; refine hK _ _ ⟨s₁, mv_rd (.inl rfl) (fun e he => ?_), .refl _, ?_⟩; (focus (have hm := mem_listed he; simp [go_sem, *] at hm; (subst hm; exact ⟨_, rfl, (h1.out.rely (hF.rl.trans hB hG.rl)).2.1, (h1.out.rely (hF.rl.trans hB hG.rl)).2.2⟩))); clear hK K; try walk_nrm)
    repeat (first | ((with_reducible refine gd_op ?_); first | (refine rr_pure' hB rfl (by rfl) (by k_ne) (by rfl) (fun w₁ => by first | (simp [go_sem]; done) | simp [go_sem, *]) (fun w₁ K hK => ?_); go_simp; refine hK _ ?_; clear hK K w₁; try walk_nrm) | (refine rr_ctl hB rfl (fun _ => stepG_unwanted rfl rfl) ?_; try walk_nrm)) | ((with_reducible refine gd_rend ?_); (refine rr_regend hB hKr ?_; clear hKr Kr)) | ((with_reducible refine gd_seq ?_); refine rr_ctl hB rfl (fun _ => stepG_seq) ?_) | ((with_reducible refine gd_reg ?_); (refine rr_reg hB (fun Kr hKr => ?_); simp only [List.size_toArray, List.length_cons, List.length_nil, Nat.reduceAdd, Nat.zero_add, List.range, List.range.loop])) | ((with_reducible refine gd_skip ?_); refine rr_ctl hB rfl (fun _ => stepG_skip) ?_) | ((with_reducible refine gd_block ?_); refine rr_ctl hB rfl (fun _ => stepG_block) ?_) | ((with_reducible refine gd_inb ?_); refine rr_ctl hB rfl (fun _ => stepG_inBlock) ?_) | ((with_reducible refine gd_ret ?_); refine rr_ctl hB rfl (fun _ => stepG_ret') ?_) | ((with_reducible refine gd_exit ?_); refine rr_ctl hB rfl (fun _ => stepG_exit rfl) ?_) | ((with_reducible refine gd_end ?_); refine rr_ctl hB rfl (fun _ => stepG_end) ?_))
    by_cases hlt2 : q < ls[i].length
    · obtain ⟨b', o', e, h3⟩ := h2.out.at hlt2
      subst e
      replace h3 := Hid.mk h3
      have hk3 : 0 ≤ (q : Int) ∧ (q : Int) < ls[i].length := ⟨by omega, by omega⟩
      have hwq : IntKind.i64.wrap (q : Int) = (q : Int) := by rw [IntKind.wrap_i64]; omega
      have hwq1 : IntKind.i64.wrap ((q : Int) + 1) = ((q + 1 : Nat) : Int) := by rw [IntKind.wrap_i64]; omega
      have htk : ls[i].take (q + 1) = ls[i].take q ++ [ls[i][q]] := by rw [List.take_add_one, List.getElem?_eq_getElem hlt2]; rfl
      have htl : (ls[i].take q).length ≤ 17592186044415 := by rw [List.length_take]; omega
      (refine rr_ctl hB rfl (fun _ => stepG_cond (t := true) (by first | rfl | (simp [Act.eval, *]))) ?_; simp only [if_true, if_false, Bool.false_eq_true, ↓reduceIte])
      repeat (first | ((with_reducible refine gd_op ?_); first | (refine rr_pure' hB rfl (by rfl) (by k_ne) (by rfl) (fun w₁ => by first | (simp [go_sem]; done) | simp [go_sem, *]) (fun w₁ K hK => ?_); go_simp; refine hK _ ?_; clear hK K w₁; try walk_nrm) | (refine rr_ctl hB rfl (fun _ => stepG_unwanted rfl rfl) ?_; try walk_nrm)) | ((with_reducible refine gd_rend ?_); (refine rr_regend hB hKr ?_; clear hKr Kr)) | ((with_reducible refine gd_seq ?_); refine rr_ctl hB rfl (fun _ => stepG_seq) ?_) | ((with_reducible refine gd_reg ?_); (refine rr_reg hB (fun Kr hKr => ?_); simp only [List.size_toArray, List.length_cons, List.length_nil, Nat.reduceAdd, Nat.zero_add, List.range, List.range.loop])) | ((with_reducible refine gd_skip ?_); refine rr_ctl hB rfl (fun _ => stepG_skip) ?_) | ((with_reducible refine gd_block ?_); refine rr_ctl hB rfl (fun _ => stepG_block) ?_) | ((with_reducible refine gd_inb ?_); refine rr_ctl hB rfl (fun _ => stepG_inBlock) ?_) | ((with_reducible refine gd_ret ?_); refine rr_ctl hB rfl (fun _ => stepG_ret') ?_) | ((with_reducible refine gd_exit ?_); refine rr_ctl hB rfl (fun _ => stepG_exit rfl) ?_) | ((with_reducible refine gd_end ?_); refine rr_ctl hB rfl (fun _ => stepG_end) ?_))
      (refine rr_oper rfl (by rfl) (by k_ne) (fun s₁ w₁ hR hI K hK => ?_); replace hG := (Acc.rely hB) hG hR; clear hR; have := (h1.out.rely (hF.rl.trans hB hG.rl)).1; go_simp; refine hK _ _ ⟨s₁, mv_rd (.inl rfl) (fun e he => ?_), .refl _, ?_⟩; (focus (have hm := mem_listed he; simp [go_sem, *] at hm; (subst hm; exact ⟨_, rfl, (h1.out.rely (hF.rl.trans hB hG.rl)).2.1, (h1.out.rely (hF.rl.trans hB hG.rl)).2.2⟩))); clear hK K; try walk_nrm)
      repeat (first | ((with_reducible refine gd_op ?_); first | (refine rr_pure' hB rfl (by rfl) (by k_ne) (by rfl) (fun w₁ => by first | (simp [go_sem]; done) | simp [go_sem, *]) (fun w₁ K hK => ?_); go_simp; refine hK _ ?_; clear hK K w₁; try walk_nrm) | (refine rr_ctl hB rfl (fun _ => stepG_unwanted rfl rfl) ?_; try walk_nrm)) | ((with_reducible refine gd_rend ?_); (refine rr_regend hB hKr ?_; clear hKr Kr)) | ((with_reducible refine gd_seq ?_); refine rr_ctl hB rfl (fun _ => stepG_seq) ?_) | ((with_reducible refine gd_reg ?_); (refine rr_reg hB (fun Kr hKr => ?_); simp only [List.size_toArray, List.length_cons, List.length_nil, Nat.reduceAdd, Nat.zero_add, List.range, List.range.loop])) | ((with_reducible refine gd_skip ?_); refine rr_ctl hB rfl (fun _ => stepG_skip) ?_) | ((with_reducible refine gd_block ?_); refine rr_ctl hB rfl (fun _ => stepG_block) ?_) | ((with_reducible refine gd_inb ?_); refine rr_ctl hB rfl (fun _ => stepG_inBlock) ?_) | ((with_reducible refine gd_ret ?_); refine rr_ctl hB rfl (fun _ => stepG_ret') ?_) | ((with_reducible refine gd_exit ?_); refine rr_ctl hB rfl (fun _ => stepG_exit rfl) ?_) | ((with_reducible refine gd_end ?_); refine rr_ctl hB rfl (fun _ => stepG_end) ?_))
      (refine rr_oper rfl (by rfl) (by k_ne) (fun s₁ w₁ hR hI K hK => ?_); replace hG := (Acc.rely hB) hG hR; clear hR; have := (h3.out.rely (hF.rl.trans hB hG.rl)).1; go_simp; refine hK _ _ ⟨s₁, mv_rd (.inl rfl) (fun e he => ?_), .refl _, ?_⟩; (focus (have hm := mem_listed he; simp [go_sem, *] at hm; (subst hm; exact ⟨_, rfl, (h3.out.rely (hF.rl.trans hB hG.rl)).2.1, (h3.out.rely (hF.rl.trans hB hG.rl)).2.2⟩))); clear hK K; try walk_nrm)
      repeat (first | ((with_reducible refine gd_op ?_); first | (refine rr_pure' hB rfl (by rfl) (by k_ne) (by rfl) (fun w₁ => by first | (simp [go_sem]; done) | simp [go_sem, *]) (fun w₁ K hK => ?_); go_simp; refine hK _ ?_; clear hK K w₁; try walk_nrm) | (refine rr_ctl hB rfl (fun _ => stepG_unwanted rfl rfl) ?_; try walk_nrm)) | ((with_reducible refine gd_rend ?_); (refine rr_regend hB hKr ?_; clear hKr Kr)) | ((with_reducible refine gd_seq ?_); refine rr_ctl hB rfl (fun _ => stepG_seq) ?_) | ((with_reducible refine gd_reg ?_); (refine rr_reg hB (fun Kr hKr => ?_); simp only [List.size_toArray, List.length_cons, List.length_nil, Nat.reduceAdd, Nat.zero_add, List.range, List.range.loop])) | ((with_reducible refine gd_skip ?_); refine rr_ctl hB rfl (fun _ => stepG_skip) ?_) | ((with_reducible refine gd_block ?_); refine rr_ctl hB rfl (fun _ => stepG_block) ?_) | ((with_reducible refine gd_inb ?_); refine rr_ctl hB rfl (fun _ => stepG_inBlock) ?_) | ((with_reducible refine gd_ret ?_); refine rr_ctl hB rfl (fun _ => stepG_ret') ?_) | ((with_reducible refine gd_exit ?_); refine rr_ctl hB rfl (fun _ => stepG_exit rfl) ?_) | ((with_reducible refine gd_end ?_); refine rr_ctl hB rfl (fun _ => stepG_end) ?_))
      refine rr_push hB (sx := .tmp 24) (y := ls[i][q]) hG rfl (by rfl) (by k_ne) rfl (fun w => by simp [go_sem]) (fun w => by simp [go_sem]) rfl rfl rfl (by simp) (fun _ => rfl) htl ?_
      clear hG
      rintro N v' s w hG
      rw [← htk] at hG
      walk_nrm
      repeat (first | ((with_reducible refine gd_op ?_); first | (refine rr_pure' hB rfl (by rfl) (by k_ne) (by rfl) (fun w₁ => by first | (simp [go_sem]; done) | simp [go_sem, *]) (fun w₁ K hK => ?_); go_simp; refine hK _ ?_; clear hK K w₁; try walk_nrm) | (refine rr_ctl hB rfl (fun _ => stepG_unwanted rfl rfl) ?_; try walk_nrm)) | ((with_reducible refine gd_rend ?_); (refine rr_regend hB hKr ?_; clear hKr Kr)) | ((with_reducible refine gd_seq ?_); refine rr_ctl hB rfl (fun _ => stepG_seq) ?_) | ((with_reducible refine gd_reg ?_); (refine rr_reg hB (fun Kr hKr => ?_); simp only [List.size_toArray, List.length_cons, List.length_nil, Nat.reduceAdd, Nat.zero_add, List.range, List.range.loop])) | ((with_reducible refine gd_skip ?_); refine rr_ctl hB rfl (fun _ => stepG_skip) ?_) | ((with_reducible refine gd_block ?_); refine rr_ctl hB rfl (fun _ => stepG_block) ?_) | ((with_reducible refine gd_inb ?_); refine rr_ctl hB rfl (fun _ => stepG_inBlock) ?_) | ((with_reducible refine gd_ret ?_); refine rr_ctl hB rfl (fun _ => stepG_ret') ?_) | ((with_reducible refine gd_exit ?_); refine rr_ctl hB rfl (fun _ => stepG_exit rfl) ?_) | ((with_reducible refine gd_end ?_); refine rr_ctl hB rfl (fun _ => stepG_end) ?_))
      refine rr_ctl hB rfl (fun _ => stepG_inLoop) ?_
      exact ih2 (ls[i].length - (q + 1)) _ _ _ (by omega) ⟨_, q + 1, v', rfl, rfl, rfl, rfl, rfl, rfl, rfl, by omega, rfl, hG⟩
    · have hq : ls[i].take q = ls[i] := List.take_of_length_le (by omega)
      rw [hq] at hG
      replace hF := hF.rely hG.rl
      have hl := hG.lstO
      clear hG ih2
      have hl' := hl
      obtain ⟨Ao, co, rfl, _⟩ := hl'
      (refine rr_ctl hB rfl (fun _ => stepG_cond (t := false) (by first | rfl | (simp [Act.eval, *]))) ?_; simp only [if_true, if_false, Bool.false_eq_true, ↓reduceIte])
      repeat (first | ((with_reducible refine gd_op ?_); first | (refine rr_pure' hB rfl (by rfl) (by k_ne) (by rfl) (fun w₁ => by first | (simp [go_sem]; done) | simp [go_sem, *]) (fun w₁ K hK => ?_); go_simp; refine hK _ ?_; clear hK K w₁; try walk_nrm) | (refine rr_ctl hB rfl (fun _ => stepG_unwanted rfl rfl) ?_; try walk_nrm)) | ((with_reducible refine gd_rend ?_); (refine rr_regend hB hKr ?_; clear hKr Kr)) | ((with_reducible refine gd_seq ?_); refine rr_ctl hB rfl (fun _ => stepG_seq) ?_) | ((with_reducible refine gd_reg ?_); (refine rr_reg hB (fun Kr hKr => ?_); simp only [List.size_toArray, List.length_cons, List.length_nil, Nat.reduceAdd, Nat.zero_add, List.range, List.range.loop])) | ((with_reducible refine gd_skip ?_); refine rr_ctl hB rfl (fun _ => stepG_skip) ?_) | ((with_reducible refine gd_block ?_); refine rr_ctl hB rfl (fun _ => stepG_block) ?_) | ((with_reducible refine gd_inb ?_); refine rr_ctl hB rfl (fun _ => stepG_inBlock) ?_) | ((with_reducible refine gd_ret ?_); refine rr_ctl hB rfl (fun _ => stepG_ret') ?_) | ((with_reducible refine gd_exit ?_); refine rr_ctl hB rfl (fun _ => stepG_exit rfl) ?_) | ((with_reducible refine gd_end ?_); refine rr_ctl hB rfl (fun _ => stepG_end) ?_))
      refine rr_oper rfl (by rfl) (by k_ne) (fun s₂ w₂ hR hI K hK => ?_)
      replace hF := hF.rely hR
      replace hl := hl.rely hR
      clear hR
      go_simp
      refine hK _ _ ⟨_, mv_new_at (.inl rfl) _ (listed_nil (by simp [go_sem, *])), St.take_soft _ _ _ _, ?_⟩
      clear hK K
      have hO : Own 0 (s₂.take 0 w₂.heap.size (w₂.heap.size + 1)) (w₂.alloc (.cells #[.slice Ao ls[i].length co] 23)) w₂.heap.size 23 [.slice Ao ls[i].length co] := own_new s₂ w₂ [.slice Ao ls[i].length co] 23
      replace hF := hF.keep (.cells #[.slice Ao ls[i].length co] 23)
      replace hl : LstO (s₂.take 0 w₂.heap.size (w₂.heap.size + 1)) (w₂.alloc (.cells #[.slice Ao ls[i].length co] 23)) (.slice Ao ls[i].length co) ls[i] := hl.step fun b _ hb => leaves_new hb _
      try walk_nrm
      generalize w₂.heap.size = N at *
      obtain ⟨ti, hi, hz, hsize, hby⟩ := info_ints
      refine rr_append hB (F := fun s w => OutI ls s₀ w₀ i v vals s w ∧ LstO s w (.slice Ao ls[i].length co) ls[i] ∧ Own 0 s w N 23 [.slice Ao ls[i].length co]) (.tmp 34) (.tmp 36) 22 (base := w₀.heap.size) (size := 1) (bytes := 24) (n := i) (m := 1) (c := 1) (e := 23) (xs := vals) (ad := ⟨N, 0, none⟩) (news := [.slice Ao ls[i].length co]) ⟨hF, hl, hO⟩
        (fun h r => ⟨h.1.rely r, h.2.1.rely r, h.2.2.rely r⟩) (fun h => .inl rfl) (fun h => h.1.sl) (fun h => h.1.rl.size)
        (fun h j u hu => by
          have := h.2.2.cell j
          rw [hu] at this
          rw [Addr.add_lit, Nat.zero_add]
          exact this)
        (fun h a' ha => ⟨h.2.2.md a' ha, h.2.2.lt⟩) rfl (by rfl) (by k_ne) rfl (by rfl) (by rfl) Try.underlying22 hi hz hsize hby rfl (by decide) rfl (fun u hu => by simp at hu; subst hu; rfl) (by simp only [maxLen]; omega) (by omega) ?_
      clear hF hO hl hI
      rintro s w v' w' mode' ⟨hF, hl, hO⟩ hI hS hsz hkeep hmode
      replace hF := hF.more (List.getElem?_eq_getElem hlt) hl hvl hS hsz hkeep hmode
      clear hS hkeep hmode hsz hO hl hI
      generalize ({ s with tg := { s.tg with mode := mode' } } : St cellU) = s at hF ⊢
      walk_nrm
      repeat (first | ((with_reducible refine gd_op ?_); first | (refine rr_pure' hB rfl (by rfl) (by k_ne) (by rfl) (fun w₁ => by first | (simp [go_sem]; done) | simp [go_sem, *]) (fun w₁ K hK => ?_); go_simp; refine hK _ ?_; clear hK K w₁; try walk_nrm) | (refine rr_ctl hB rfl (fun _ => stepG_unwanted rfl rfl) ?_; try walk_nrm)) | ((with_reducible refine gd_rend ?_); (refine rr_regend hB hKr ?_; clear hKr Kr)) | ((with_reducible refine gd_seq ?_); refine rr_ctl hB rfl (fun _ => stepG_seq) ?_) | ((with_reducible refine gd_reg ?_); (refine rr_reg hB (fun Kr hKr => ?_); simp only [List.size_toArray, List.length_cons, List.length_nil, Nat.reduceAdd, Nat.zero_add, List.range, List.range.loop])) | ((with_reducible refine gd_skip ?_); refine rr_ctl hB rfl (fun _ => stepG_skip) ?_) | ((with_reducible refine gd_block ?_); refine rr_ctl hB rfl (fun _ => stepG_block) ?_) | ((with_reducible refine gd_inb ?_); refine rr_ctl hB rfl (fun _ => stepG_inBlock) ?_) | ((with_reducible refine gd_ret ?_); refine rr_ctl hB rfl (fun _ => stepG_ret') ?_) | ((with_reducible refine gd_exit ?_); refine rr_ctl hB rfl (fun _ => stepG_exit rfl) ?_) | ((with_reducible refine gd_end ?_); refine rr_ctl hB rfl (fun _ => stepG_end) ?_))
      refine rr_ctl hB rfl (fun _ => stepG_inLoop) ?_
      exact ih (ls.length - (i + 1)) _ _ _ (by omega) ⟨_, i + 1, v', _, rfl, rfl, rfl, rfl, rfl, by omega, rfl, by rw [List.length_append, hvl]; rfl, hF⟩
  · have hil : i = ls.length := by omega
    (refine rr_ctl hB rfl (fun _ => stepG_cond (t := false) (by first | rfl | (simp [Act.eval, *]))) ?_; simp only [if_true, if_false, Bool.false_eq_true, ↓reduceIte])
    repeat (first | ((with_reducible refine gd_op ?_); first | (refine rr_pure' hB rfl (by rfl) (by k_ne) (by rfl) (fun w₁ => by first | (simp [go_sem]; done) | simp [go_sem, *]) (fun w₁ K hK => ?_); go_simp; refine hK _ ?_; clear hK K w₁; try walk_nrm) | (refine rr_ctl hB rfl (fun _ => stepG_unwanted rfl rfl) ?_; try walk_nrm)) | ((with_reducible refine gd_rend ?_); (refine rr_regend hB hKr ?_; clear hKr Kr)) | ((with_reducible refine gd_seq ?_); refine rr_ctl hB rfl (fun _ => stepG_seq) ?_) | ((with_reducible refine gd_reg ?_); (refine rr_reg hB (fun Kr hKr => ?_); simp only [List.size_toArray, List.length_cons, List.length_nil, Nat.reduceAdd, Nat.zero_add, List.range, List.range.loop])) | ((with_reducible refine gd_skip ?_); refine rr_ctl hB rfl (fun _ => stepG_skip) ?_) | ((with_reducible refine gd_block ?_); refine rr_ctl hB rfl (fun _ => stepG_block) ?_) | ((with_reducible refine gd_inb ?_); refine rr_ctl hB rfl (fun _ => stepG_inBlock) ?_) | ((with_reducible refine gd_ret ?_); refine rr_ctl hB rfl (fun _ => stepG_ret') ?_) | ((with_reducible refine gd_exit ?_); refine rr_ctl hB rfl (fun _ => stepG_exit rfl) ?_) | ((with_reducible refine gd_end ?_); refine rr_ctl hB rfl (fun _ => stepG_end) ?_))
    (refine rr_leave hB rfl rfl Try.func5 (fun w => ⟨results_tmp rfl _ _ w, events_results_tmp rfl _ _⟩) ?_)
    exact hret _ _ _ ⟨vals, hil ▸ hF⟩
end

section
variable {B : Usr} {E : Env} {Post : Value → World → Prop} {Child : Sit (proto Try.prog B E Post)} {s s' s₀ s₁ : St B} {w w' w₀ w₁ : World}
theorem refused_x (hB : B.Laws) {A : Option Addr} {cap : Nat} {ls : List (List Int)} (hL : Numss 0 s₀ w₀ (.slice A ls.length cap) ls) (hlen : ls.length * 24 ≤ 140737488355328) : CallX Try.prog B E Post Child 0 6 #[.slice A ls.length cap] s₀ w₀ (fun v s' w' => v = .int .i64 (refused ls) ∧ Rl 0 s₀ w₀ s' w') := by
  refine ⟨Try.f6, _, Try.func6, by kernel_rfl, rfl, fun cal cs hret => ?_⟩
  replace hL := Hid.mk hL
  walk_nrmf Try.f6
  repeat (first | ((with_reducible refine gd_op ?_); first | (refine rr_pure' hB rfl (by rfl) (by k_ne) (by rfl) (fun w₁ => by first | (simp [go_sem]; done) | simp [go_sem, *]) (fun w₁ K hK => ?_); go_simp; refine hK _ ?_; clear hK K w₁; try walk_nrm) | (refine rr_ctl hB rfl (fun _ => stepG_unwanted rfl rfl) ?_; try walk_nrm)) | ((with_reducible refine gd_rend ?_); (refine rr_regend hB hKr ?_; clear hKr Kr)) | ((with_reducible refine gd_seq ?_); refine rr_ctl hB rfl (fun _ => stepG_seq) ?_) | ((with_reducible refine gd_reg ?_); (refine rr_reg hB (fun Kr hKr => ?_); simp only [List.size_toArray, List.length_cons, List.length_nil, Nat.reduceAdd, Nat.zero_add, List.range, List.range.loop])) | ((with_reducible refine gd_skip ?_); refine rr_ctl hB rfl (fun _ => stepG_skip) ?_) | ((with_reducible refine gd_block ?_); refine rr_ctl hB rfl (fun _ => stepG_block) ?_) | ((with_reducible refine gd_inb ?_); refine rr_ctl hB rfl (fun _ => stepG_inBlock) ?_) | ((with_reducible refine gd_ret ?_); refine rr_ctl hB rfl (fun _ => stepG_ret') ?_) | ((with_reducible refine gd_exit ?_); refine rr_ctl hB rfl (fun _ => stepG_exit rfl) ?_) | ((with_reducible refine gd_end ?_); refine rr_ctl hB rfl (fun _ => stepG_end) ?_))
  have hF : Rl 0 s₀ w₀ s₀ w₀ := .refl hB _ _ _
  refine rr_loop hB (fun m a s w => ∃ T i, a = ⟨T, []⟩ ∧ T.size = 25 ∧ T[0]? = some (.slice A ls.length cap) ∧ T[3]? = some (.int .i64 (wsum (ls.take i))) ∧ T[4]? = some (.int .i64 (i : Nat)) ∧ i ≤ ls.length ∧ m = ls.length - i ∧ Rl 0 s₀ w₀ s w) ls.length ⟨_, 0, rfl, rfl, rfl, rfl, rfl, Nat.zero_le _, rfl, hF⟩ ?_
  clear hF
  rintro m a s w ⟨T, i, rfl, hT, t0, t3, t4, hle, rfl, hF⟩ ih
  obtain ⟨T⟩ := T
  ((iterate 25 (rcases T with _ | ⟨_, T⟩; focus (simp at hT))); rcases T with _ | ⟨_, _⟩; rotate_left; focus (simp at hT))
  simp only [List.getElem?_toArray, List.getElem?_cons_succ, List.getElem?_cons_zero, Option.some.injEq] at t0 t3 t4
  subst t0 t3 t4
  repeat (first | ((with_reducible refine gd_op ?_); first | (refine rr_pure' hB rfl (by rfl) (by k_ne) (by rfl) (fun w₁ => by first | (simp [go_sem]; done) | simp [go_sem, *]) (fun w₁ K hK => ?_); go_simp; refine hK _ ?_; clear hK K w₁; try walk_nrm) | (refine rr_ctl hB rfl (fun _ => stepG_unwanted rfl rfl) ?_; try walk_nrm)) | ((with_reducible refine gd_rend ?_); (refine rr_regend hB hKr ?_; clear hKr Kr)) | ((with_reducible refine gd_seq ?_); refine rr_ctl hB rfl (fun _ => stepG_seq) ?_) | ((with_reducible refine gd_reg ?_); (refine rr_reg hB (fun Kr hKr => ?_); simp only [List.size_toArray, List.length_cons, List.length_nil, Nat.reduceAdd, Nat.zero_add, List.range, List.range.loop])) | ((with_reducible refine gd_skip ?_); refine rr_ctl hB rfl (fun _ => stepG_skip) ?_) | ((with_reducible refine gd_block ?_); refine rr_ctl hB rfl (fun _ => stepG_block) ?_) | ((with_reducible refine gd_inb ?_); refine rr_ctl hB rfl (fun _ => stepG_inBlock) ?_) | ((with_reducible refine gd_ret ?_); refine rr_ctl hB rfl (fun _ => stepG_ret') ?_) | ((with_reducible refine gd_exit ?_); refine rr_ctl hB rfl (fun _ => stepG_exit rfl) ?_) | ((with_reducible refine gd_end ?_); refine rr_ctl hB rfl (fun _ => stepG_end) ?_))
  by_cases hlt : i < ls.length
  · have hk2 : 0 ≤ (i : Int) ∧ (i : Int) < ls.length := ⟨by omega, by omega⟩
    have hwi : IntKind.i64.wrap (i : Int) = (i : Int) := by rw [IntKind.wrap_i64]; omega
    have hw1 : IntKind.i64.wrap ((i : Int) + 1) = ((i + 1 : Nat) : Int) := by rw [IntKind.wrap_i64]; omega
    obtain ⟨b, o, vi, rfl, h1, h2⟩ := hL.out.at hlt
    obtain ⟨Ai, ci, rfl, -⟩ := id h2
    have hsucc := wsum_succ hlt
    clear h2
    replace h1 := Hid.mk h1
    (refine rr_ctl hB rfl (fun _ => stepG_cond (t := true) (by first | rfl | (simp [Act.eval, *]))) ?_; simp only [if_true, if_false, Bool.false_eq_true, ↓reduceIte])
    repeat (first | ((with_reducible refine gd_op ?_); first | (refine rr_pure' hB rfl (by rfl) (by k_ne) (by rfl) (fun w₁ => by first | (simp [go_sem]; done) | simp [go_sem, *]) (fun w₁ K hK => ?_); go_simp; refine hK _ ?_; clear hK K w₁; try walk_nrm) | (refine rr_ctl hB rfl (fun _ => stepG_unwanted rfl rfl) ?_; try walk_nrm)) | ((with_reducible refine gd_rend ?_); (refine rr_regend hB hKr ?_; clear hKr Kr)) | ((with_reducible refine gd_seq ?_); refine rr_ctl hB rfl (fun _ => stepG_seq) ?_) | ((with_reducible refine gd_reg ?_); (refine rr_reg hB (fun Kr hKr => ?_); simp only [List.size_toArray, List.length_cons, List.length_nil, Nat.reduceAdd, Nat.zero_add, List.range, List.range.loop])) | ((with_reducible refine gd_skip ?_); refine rr_ctl hB rfl (fun _ => stepG_skip) ?_) | ((with_reducible refine gd_block ?_); refine rr_ctl hB rfl (fun _ => stepG_block) ?_) | ((with_reducible refine gd_inb ?_); refine rr_ctl hB rfl (fun _ => stepG_inBlock) ?_) | ((with_reducible refine gd_ret ?_); refine rr_ctl hB rfl (fun _ => stepG_ret') ?_) | ((with_reducible refine gd_exit ?_); refine rr_ctl hB rfl (fun _ => stepG_exit rfl) ?_) | ((with_reducible refine gd_end ?_); refine rr_ctl hB rfl (fun _ => stepG_end) ?_))
    (refine rr_oper rfl (by rfl) (by k_ne) (fun s₁ w₁ hR hI K hK => ?_); replace hF := (fun (h : Rl 0 s₀ w₀ _ _) r => h.trans hB r) hF hR; clear hR; have := (h1.out.rely hF).1; go_simp; refine hK _ _ ⟨s₁, mv_rd (.inl rfl) (fun e he => ?_), .refl _, ?_⟩; (focus (have hm := mem_listed he; simp [go_sem, *] at hm; (subst hm; exact ⟨_, rfl, (h1.out.rely hF).2.1, (h1.out.rely hF).2.2⟩))); clear hK K; try walk_nrm)
    repeat (first | ((with_reducible refine gd_op ?_); first | (refine rr_pure' hB rfl (by rfl) (by k_ne) (by rfl) (fun w₁ => by first | (simp [go_sem]; done) | simp [go_sem, *]) (fun w₁ K hK => ?_); go_simp; refine hK _ ?_; clear hK K w₁; try walk_nrm) | (refine rr_ctl hB rfl (fun _ => stepG_unwanted rfl rfl) ?_; try walk_nrm)) | ((with_reducible refine gd_rend ?_); (refine rr_regend hB hKr ?_; clear hKr Kr)) | ((with_reducible refine gd_seq ?_); refine rr_ctl hB rfl (fun _ => stepG_seq) ?_) | ((with_reducible refine gd_reg ?_); (refine rr_reg hB (fun Kr hKr => ?_); simp only [List.size_toArray, List.length_cons, List.length_nil, Nat.reduceAdd, Nat.zero_add, List.range, List.range.loop])) | ((with_reducible refine gd_skip ?_); refine rr_ctl hB rfl (fun _ => stepG_skip) ?_) | ((with_reducible refine gd_block ?_); refine rr_ctl hB rfl (fun _ => stepG_block) ?_) | ((with_reducible refine gd_inb ?_); refine rr_ctl hB rfl (fun _ => stepG_inBlock) ?_) | ((with_reducible refine gd_ret ?_); refine rr_ctl hB rfl (fun _ => stepG_ret') ?_) | ((with_reducible refine gd_exit ?_); refine rr_ctl hB rfl (fun _ => stepG_exit rfl) ?_) | ((with_reducible refine gd_end ?_); refine rr_ctl hB rfl (fun _ => stepG_end) ?_))
    refine rr_ctl hB rfl (fun _ => stepG_inLoop) ?_
    exact ih (ls.length - (i + 1)) _ _ _ (by omega) ⟨_, i + 1, rfl, rfl, rfl, by rw [hsucc]; rfl, rfl, by omega, rfl, hF⟩
  · have hil : ls.take i = ls := List.take_of_length_le (by omega)
    rw [hil]
    unfold refused at hret
    generalize wsum ls = n at *
    (refine rr_ctl hB rfl (fun _ => stepG_cond (t := false) (by first | rfl | (simp [Act.eval, *]))) ?_; simp only [if_true, if_false, Bool.false_eq_true, ↓reduceIte])
    by_cases h1 : 64 < ls.length
    · have h1' : (64 : Int) < (ls.length : Int) := by omega
      rw [if_pos (.inl h1)] at hret
      repeat (first | ((with_reducible refine gd_op ?_); first | (refine rr_pure' hB rfl (by rfl) (by k_ne) (by rfl) (fun w₁ => by first | (simp [go_sem]; done) | simp [go_sem, *]) (fun w₁ K hK => ?_); go_simp; refine hK _ ?_; clear hK K w₁; try walk_nrm) | (refine rr_ctl hB rfl (fun _ => stepG_unwanted rfl rfl) ?_; try walk_nrm)) | ((with_reducible refine gd_rend ?_); (refine rr_regend hB hKr ?_; clear hKr Kr)) | ((with_reducible refine gd_seq ?_); refine rr_ctl hB rfl (fun _ => stepG_seq) ?_) | ((with_reducible refine gd_reg ?_); (refine rr_reg hB (fun Kr hKr => ?_); simp only [List.size_toArray, List.length_cons, List.length_nil, Nat.reduceAdd, Nat.zero_add, List.range, List.range.loop])) | ((with_reducible refine gd_skip ?_); refine rr_ctl hB rfl (fun _ => stepG_skip) ?_) | ((with_reducible refine gd_block ?_); refine rr_ctl hB rfl (fun _ => stepG_block) ?_) | ((with_reducible refine gd_inb ?_); refine rr_ctl hB rfl (fun _ => stepG_inBlock) ?_) | ((with_reducible refine gd_ret ?_); refine rr_ctl hB rfl (fun _ => stepG_ret') ?_) | ((with_reducible refine gd_exit ?_); refine rr_ctl hB rfl (fun _ => stepG_exit rfl) ?_) | ((with_reducible refine gd_end ?_); refine rr_ctl hB rfl (fun _ => stepG_end) ?_))
      (refine rr_ctl hB rfl (fun _ => stepG_cond (t := true) (by first | rfl | (simp [Act.eval, *]))) ?_; simp only [if_true, if_false, Bool.false_eq_true, ↓reduceIte])
      repeat (first | ((with_reducible refine gd_op ?_); first | (refine rr_pure' hB rfl (by rfl) (by k_ne) (by rfl) (fun w₁ => by first | (simp [go_sem]; done) | simp [go_sem, *]) (fun w₁ K hK => ?_); go_simp; refine hK _ ?_; clear hK K w₁; try walk_nrm) | (refine rr_ctl hB rfl (fun _ => stepG_unwanted rfl rfl) ?_; try walk_nrm)) | ((with_reducible refine gd_rend ?_); (refine rr_regend hB hKr ?_; clear hKr Kr)) | ((with_reducible refine gd_seq ?_); refine rr_ctl hB rfl (fun _ => stepG_seq) ?_) | ((with_reducible refine gd_reg ?_); (refine rr_reg hB (fun Kr hKr => ?_); simp only [List.size_toArray, List.length_cons, List.length_nil, Nat.reduceAdd, Nat.zero_add, List.range, List.range.loop])) | ((with_reducible refine gd_skip ?_); refine rr_ctl hB rfl (fun _ => stepG_skip) ?_) | ((with_reducible refine gd_block ?_); refine rr_ctl hB rfl (fun _ => stepG_block) ?_) | ((with_reducible refine gd_inb ?_); refine rr_ctl hB rfl (fun _ => stepG_inBlock) ?_) | ((with_reducible refine gd_ret ?_); refine rr_ctl hB rfl (fun _ => stepG_ret') ?_) | ((with_reducible refine gd_exit ?_); refine rr_ctl hB rfl (fun _ => stepG_exit rfl) ?_) | ((with_reducible refine gd_end ?_); refine rr_ctl hB rfl (fun _ => stepG_end) ?_))
      (refine rr_leave hB rfl rfl Try.func6 (fun w => ⟨results_tmp rfl _ _ w, events_results_tmp rfl _ _⟩) ?_)
      exact hret _ _ _ ⟨rfl, hF⟩
    · have h1' : ¬ (64 : Int) < (ls.length : Int) := by omega
      by_cases h2 : 65536 < n
      · rw [if_pos (.inr h2)] at hret
        repeat (first | ((with_reducible refine gd_op ?_); first | (refine rr_pure' hB rfl (by rfl) (by k_ne) (by rfl) (fun w₁ => by first | (simp [go_sem]; done) | simp [go_sem, *]) (fun w₁ K hK => ?_); go_simp; refine hK _ ?_; clear hK K w₁; try walk_nrm) | (refine rr_ctl hB rfl (fun _ => stepG_unwanted rfl rfl) ?_; try walk_nrm)) | ((with_reducible refine gd_rend ?_); (refine rr_regend hB hKr ?_; clear hKr Kr)) | ((with_reducible refine gd_seq ?_); refine rr_ctl hB rfl (fun _ => stepG_seq) ?_) | ((with_reducible refine gd_reg ?_); (refine rr_reg hB (fun Kr hKr => ?_); simp only [List.size_toArray, List.length_cons, List.length_nil, Nat.reduceAdd, Nat.zero_add, List.range, List.range.loop])) | ((with_reducible refine gd_skip ?_); refine rr_ctl hB rfl (fun _ => stepG_skip) ?_) | ((with_reducible refine gd_block ?_); refine rr_ctl hB rfl (fun _ => stepG_block) ?_) | ((with_reducible refine gd_inb ?_); refine rr_ctl hB rfl (fun _ => stepG_inBlock) ?_) | ((with_reducible refine gd_ret ?_); refine rr_ctl hB rfl (fun _ => stepG_ret') ?_) | ((with_reducible refine gd_exit ?_); refine rr_ctl hB rfl (fun _ => stepG_exit rfl) ?_) | ((with_reducible refine gd_end ?_); refine rr_ctl hB rfl (fun _ => stepG_end) ?_))
        (refine rr_ctl hB rfl (fun _ => stepG_cond (t := true) (by first | rfl | (simp [Act.eval, *]))) ?_; simp only [if_true, if_false, Bool.false_eq_true, ↓reduceIte])
        repeat (first | ((with_reducible refine gd_op ?_); first | (refine rr_pure' hB rfl (by rfl) (by k_ne) (by rfl) (fun w₁ => by first | (simp [go_sem]; done) | simp [go_sem, *]) (fun w₁ K hK => ?_); go_simp; refine hK _ ?_; clear hK K w₁; try walk_nrm) | (refine rr_ctl hB rfl (fun _ => stepG_unwanted rfl rfl) ?_; try walk_nrm)) | ((with_reducible refine gd_rend ?_); (refine rr_regend hB hKr ?_; clear hKr Kr)) | ((with_reducible refine gd_seq ?_); refine rr_ctl hB rfl (fun _ => stepG_seq) ?_) | ((with_reducible refine gd_reg ?_); (refine rr_reg hB (fun Kr hKr => ?_); simp only [List.size_toArray, List.length_cons, List.length_nil, Nat.reduceAdd, Nat.zero_add, List.range, List.range.loop])) | ((with_reducible refine gd_skip ?_); refine rr_ctl hB rfl (fun _ => stepG_skip) ?_) | ((with_reducible refine gd_block ?_); refine rr_ctl hB rfl (fun _ => stepG_block) ?_) | ((with_reducible refine gd_inb ?_); refine rr_ctl hB rfl (fun _ => stepG_inBlock) ?_) | ((with_reducible refine gd_ret ?_); refine rr_ctl hB rfl (fun _ => stepG_ret') ?_) | ((with_reducible refine gd_exit ?_); refine rr_ctl hB rfl (fun _ => stepG_exit rfl) ?_) | ((with_reducible refine gd_end ?_); refine rr_ctl hB rfl (fun _ => stepG_end) ?_))
        (refine rr_leave hB rfl rfl Try.func6 (fun w => ⟨results_tmp rfl _ _ w, events_results_tmp rfl _ _⟩) ?_)
        exact hret _ _ _ ⟨rfl, hF⟩
      · rw [if_neg (by omega)] at hret
        repeat (first | ((with_reducible refine gd_op ?_); first | (refine rr_pure' hB rfl (by rfl) (by k_ne) (by rfl) (fun w₁ => by first | (simp [go_sem]; done) | simp [go_sem, *]) (fun w₁ K hK => ?_); go_simp; refine hK _ ?_; clear hK K w₁; try walk_nrm) | (refine rr_ctl hB rfl (fun _ => stepG_unwanted rfl rfl) ?_; try walk_nrm)) | ((with_reducible refine gd_rend ?_); (refine rr_regend hB hKr ?_; clear hKr Kr)) | ((with_reducible refine gd_seq ?_); refine rr_ctl hB rfl (fun _ => stepG_seq) ?_) | ((with_reducible refine gd_reg ?_); (refine rr_reg hB (fun Kr hKr => ?_); simp only [List.size_toArray, List.length_cons, List.length_nil, Nat.reduceAdd, Nat.zero_add, List.range, List.range.loop])) | ((with_reducible refine gd_skip ?_); refine rr_ctl hB rfl (fun _ => stepG_skip) ?_) | ((with_reducible refine gd_block ?_); refine rr_ctl hB rfl (fun _ => stepG_block) ?_) | ((with_reducible refine gd_inb ?_); refine rr_ctl hB rfl (fun _ => stepG_inBlock) ?_) | ((with_reducible refine gd_ret ?_); refine rr_ctl hB rfl (fun _ => stepG_ret') ?_) | ((with_reducible refine gd_exit ?_); refine rr_ctl hB rfl (fun _ => stepG_exit rfl) ?_) | ((with_reducible refine gd_end ?_); refine rr_ctl hB rfl (fun _ => stepG_end) ?_))
        (refine rr_ctl hB rfl (fun _ => stepG_cond (t := false) (by first | rfl | (simp [Act.eval, *]))) ?_; simp only [if_true, if_false, Bool.false_eq_true, ↓reduceIte])
        repeat (first | ((with_reducible refine gd_op ?_); first | (refine rr_pure' hB rfl (by rfl) (by k_ne) (by rfl) (fun w₁ => by first | (simp [go_sem]; done) | simp [go_sem, *]) (fun w₁ K hK => ?_); go_simp; refine hK _ ?_; clear hK K w₁; try walk_nrm) | (refine rr_ctl hB rfl (fun _ => stepG_unwanted rfl rfl) ?_; try walk_nrm)) | ((with_reducible refine gd_rend ?_); (refine rr_regend hB hKr ?_; clear hKr Kr)) | ((with_reducible refine gd_seq ?_); refine rr_ctl hB rfl (fun _ => stepG_seq) ?_) | ((with_reducible refine gd_reg ?_); (refine rr_reg hB (fun Kr hKr => ?_); simp only [List.size_toArray, List.length_cons, List.length_nil, Nat.reduceAdd, Nat.zero_add, List.range, List.range.loop])) | ((with_reducible refine gd_skip ?_); refine rr_ctl hB rfl (fun _ => stepG_skip) ?_) | ((with_reducible refine gd_block ?_); refine rr_ctl hB rfl (fun _ => stepG_block) ?_) | ((with_reducible refine gd_inb ?_); refine rr_ctl hB rfl (fun _ => stepG_inBlock) ?_) | ((with_reducible refine gd_ret ?_); refine rr_ctl hB rfl (fun _ => stepG_ret') ?_) | ((with_reducible refine gd_exit ?_); refine rr_ctl hB rfl (fun _ => stepG_exit rfl) ?_) | ((with_reducible refine gd_end ?_); refine rr_ctl hB rfl (fun _ => stepG_end) ?_))
        (refine rr_leave hB rfl rfl Try.func6 (fun w => ⟨results_tmp rfl _ _ w, events_results_tmp rfl _ _⟩) ?_)
        exact hret _ _ _ ⟨rfl, hF⟩
end
end Go.Proofs.Ytbamamkjmfkghaa.Crw
