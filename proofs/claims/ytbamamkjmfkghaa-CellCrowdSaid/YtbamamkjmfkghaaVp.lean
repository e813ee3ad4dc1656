/- A crowd pushes: the reference's copied, Within and Same, by contracts of the starter.
No condition. -/
import Derived.Test.YtbamamkjmfkghaaVn
set_option linter.unusedSimpArgs false
set_option linter.unusedVariables false
namespace Go.Proofs.Ytbamamkjmfkghaa.Crw
open Go Go.Conc Go.RowKit Go.Conc.Lib Go.ConcR.Gen
open Go.ConcN (upd upd_same upd_ne)
open Go.ConcR (stA smA KK WgAt wgBlock rd wr mk)
set_option linter.unusedVariables false
set_option maxRecDepth 100000
set_option maxHeartbeats 4000000

/-- Does a list stand in another one, in its order? -/
def within : List Int → List Int → Bool
  | [], _ => true
  | _ :: _, [] => false
  | a :: l, b :: m => if b = a then within l m else within (a :: l) m
theorem within_of {l m : List Int} (h : l.Sublist m) : within l m = true := by
  induction m generalizing l with
  | nil => rw [List.sublist_nil.1 h]; rfl
  | cons b m ih =>
    cases l with
    | nil => rfl
    | cons a l =>
      unfold within
      by_cases e : b = a
      · rw [if_pos e]
        refine ih ?_
        cases h with
        | cons _ h => exact (List.sublist_cons_self a l).trans h
        | cons_cons _ h => exact h
      · rw [if_neg e]
        refine ih ?_
        cases h with
        | cons _ h => exact h
        | cons_cons _ h => exact absurd rfl e
theorem within_hit {l m : List Int} {p i : Nat} (hp : p < l.length) (hi : i < m.length) (e : m[i] = l[p]) : within (l.drop p) (m.drop i) = within (l.drop (p + 1)) (m.drop (i + 1)) := by
  rw [List.drop_eq_getElem_cons hp, List.drop_eq_getElem_cons hi]
  conv => lhs; unfold within
  rw [if_pos e]
theorem within_miss {l m : List Int} {p i : Nat} (hp : p < l.length) (hi : i < m.length) (e : m[i] ≠ l[p]) : within (l.drop p) (m.drop i) = within (l.drop p) (m.drop (i + 1)) := by
  rw [List.drop_eq_getElem_cons hp, List.drop_eq_getElem_cons hi]
  conv => lhs; unfold within
  rw [if_neg e]
theorem within_end {l m : List Int} {p i : Nat} (hp : p ≤ l.length) (h : ¬ (i < m.length ∧ p < l.length)) : within (l.drop p) (m.drop i) = decide (p = l.length) := by
  by_cases e : p = l.length
  · subst e
    rw [List.drop_length, decide_eq_true rfl]
    cases m.drop i <;> rfl
  · have : ¬ i < m.length := fun x => h ⟨x, by omega⟩
    rw [List.drop_of_length_le (l := m) (by omega), List.drop_eq_getElem_cons (by omega), decide_eq_false e]
    rfl

section
variable {B : Usr} {E : Env} {Post : Value → World → Prop} {Child : Sit (proto Try.prog B E Post)} {s s' s₀ s₁ : St B} {w w' w₀ w₁ : World}

theorem copied_x (hB : B.Laws) {v : Value} {l : List Int} (hN : Nums 0 s₀ w₀ v l) (hl : l.length ≤ 17592186044415) : CallX Try.prog B E Post Child 0 20 #[v] s₀ w₀ (fun v s' w' => Acc s₀ w₀ v l s' w') := by
  refine ⟨Try.f20, _, Try.func20, by kernel_rfl, rfl, fun cal cs hret => ?_⟩
  obtain ⟨A, cap, rfl, -⟩ := id hN
  replace hN := Hid.mk hN
  walk_nrmf Try.f20
  repeat (first | ((with_reducible refine gd_op ?_); first | (refine rr_pure' hB rfl (by rfl) (by k_ne) (by rfl) (fun w₁ => by first | (simp [go_sem]; done) | simp [go_sem, *]) (fun w₁ K hK => ?_); go_simp; refine hK _ ?_; clear hK K w₁; try walk_nrm) | (refine rr_ctl hB rfl (fun _ => stepG_unwanted rfl rfl) ?_; try walk_nrm)) | ((with_reducible refine gd_rend ?_); (refine rr_regend hB hKr ?_; clear hKr Kr)) | ((with_reducible refine gd_seq ?_); refine rr_ctl hB rfl (fun _ => stepG_seq) ?_) | ((with_reducible refine gd_reg ?_); (refine rr_reg hB (fun Kr hKr => ?_); simp only [List.size_toArray, List.length_cons, List.length_nil, Nat.reduceAdd, Nat.zero_add, List.range, List.range.loop])) | ((with_reducible refine gd_skip ?_); refine rr_ctl hB rfl (fun _ => stepG_skip) ?_) | ((with_reducible refine gd_block ?_); refine rr_ctl hB rfl (fun _ => stepG_block) ?_) | ((with_reducible refine gd_inb ?_); refine rr_ctl hB rfl (fun _ => stepG_inBlock) ?_) | ((with_reducible refine gd_ret ?_); refine rr_ctl hB rfl (fun _ => stepG_ret') ?_) | ((with_reducible refine gd_exit ?_); refine rr_ctl hB rfl (fun _ => stepG_exit rfl) ?_) | ((with_reducible refine gd_end ?_); refine rr_ctl hB rfl (fun _ => stepG_end) ?_))
  refine rr_oper rfl (by rfl) (by k_ne) (fun s₁ w₁ hR hI K hK => ?_)
  go_simp
  refine hK _ _ ⟨_, mv_new_at (.inl rfl) _ (listed_nil (by simp [go_sem, *])), St.take_soft _ _ _ _, ?_⟩
  clear hK K
  have hF := Acc.base hB hR (Acc.empty hB s₁ w₁)
  clear hR
  try walk_nrm
  repeat (first | ((with_reducible refine gd_op ?_); first | (refine rr_pure' hB rfl (by rfl) (by k_ne) (by rfl) (fun w₁ => by first | (simp [go_sem]; done) | simp [go_sem, *]) (fun w₁ K hK => ?_); go_simp; refine hK _ ?_; clear hK K w₁; try walk_nrm) | (refine rr_ctl hB rfl (fun _ => stepG_unwanted rfl rfl) ?_; try walk_nrm)) | ((with_reducible refine gd_rend ?_); (refine rr_regend hB hKr ?_; clear hKr Kr)) | ((with_reducible refine gd_seq ?_); refine rr_ctl hB rfl (fun _ => stepG_seq) ?_) | ((with_reducible refine gd_reg ?_); (refine rr_reg hB (fun Kr hKr => ?_); simp only [List.size_toArray, List.length_cons, List.length_nil, Nat.reduceAdd, Nat.zero_add, List.range, List.range.loop])) | ((with_reducible refine gd_skip ?_); refine rr_ctl hB rfl (fun _ => stepG_skip) ?_) | ((with_reducible refine gd_block ?_); refine rr_ctl hB rfl (fun _ => stepG_block) ?_) | ((with_reducible refine gd_inb ?_); refine rr_ctl hB rfl (fun _ => stepG_inBlock) ?_) | ((with_reducible refine gd_ret ?_); refine rr_ctl hB rfl (fun _ => stepG_ret') ?_) | ((with_reducible refine gd_exit ?_); refine rr_ctl hB rfl (fun _ => stepG_exit rfl) ?_) | ((with_reducible refine gd_end ?_); refine rr_ctl hB rfl (fun _ => stepG_end) ?_))
  refine rr_loop hB (fun m a s w => ∃ T q one, a = ⟨T, []⟩ ∧ T.size = 20 ∧ T[0]? = some (.slice A l.length cap) ∧ some one = T[3]? ∧ T[4]? = some (.int .i64 (q : Nat)) ∧ q ≤ l.length ∧ m = l.length - q ∧ Acc s₀ w₀ one (l.take q) s w) l.length ⟨_, 0, _, rfl, rfl, rfl, rfl, rfl, Nat.zero_le _, rfl, hF⟩ ?_
  clear hF hI
  rintro m a s w ⟨T, q, one, rfl, hT, t0, t3, t4, hle2, rfl, hG⟩ ih2
  obtain ⟨T⟩ := T
  ((iterate 20 (rcases T with _ | ⟨_, T⟩; focus (simp at hT))); rcases T with _ | ⟨_, _⟩; rotate_left; focus (simp at hT))
  simp only [List.getElem?_toArray, List.getElem?_cons_succ, List.getElem?_cons_zero, Option.some.injEq] at t0 t3 t4
  subst t0 t3 t4
  repeat (first | ((with_reducible refine gd_op ?_); first | (refine rr_pure' hB rfl (by rfl) (by k_ne) (by rfl) (fun w₁ => by first | (simp [go_sem]; done) | simp [go_sem, *]) (fun w₁ K hK => ?_); go_simp; refine hK _ ?_; clear hK K w₁; try walk_nrm) | (refine rr_ctl hB rfl (fun _ => stepG_unwanted rfl rfl) ?_; try walk_nrm)) | ((with_reducible refine gd_rend ?_); (refine rr_regend hB hKr ?_; clear hKr Kr)) | ((with_reducible refine gd_seq ?_); refine rr_ctl hB rfl (fun _ => stepG_seq) ?_) | ((with_reducible refine gd_reg ?_); (refine rr_reg hB (fun Kr hKr => ?_); simp only [List.size_toArray, List.length_cons, List.length_nil, Nat.reduceAdd, Nat.zero_add, List.range, List.range.loop])) | ((with_reducible refine gd_skip ?_); refine rr_ctl hB rfl (fun _ => stepG_skip) ?_) | ((with_reducible refine gd_block ?_); refine rr_ctl hB rfl (fun _ => stepG_block) ?_) | ((with_reducible refine gd_inb ?_); refine rr_ctl hB rfl (fun _ => stepG_inBlock) ?_) | ((with_reducible refine gd_ret ?_); refine rr_ctl hB rfl (fun _ => stepG_ret') ?_) | ((with_reducible refine gd_exit ?_); refine rr_ctl hB rfl (fun _ => stepG_exit rfl) ?_) | ((with_reducible refine gd_end ?_); refine rr_ctl hB rfl (fun _ => stepG_end) ?_))
  by_cases hlt2 : q < l.length
  · obtain ⟨b', o', e, h3⟩ := hN.out.at hlt2
    subst e
    replace h3 := Hid.mk h3
    have hk3 : 0 ≤ (q : Int) ∧ (q : Int) < l.length := ⟨by omega, by omega⟩
    have hwq : IntKind.i64.wrap (q : Int) = (q : Int) := by rw [IntKind.wrap_i64]; omega
    have hwq1 : IntKind.i64.wrap ((q : Int) + 1) = ((q + 1 : Nat) : Int) := by rw [IntKind.wrap_i64]; omega
    have htk : l.take (q + 1) = l.take q ++ [l[q]] := by rw [List.take_add_one, List.getElem?_eq_getElem hlt2]; rfl
    have htl : (l.take q).length ≤ 17592186044415 := by rw [List.length_take]; omega
    (refine rr_ctl hB rfl (fun _ => stepG_cond (t := true) (by first | rfl | (simp [Act.eval, *]))) ?_; simp only [if_true, if_false, Bool.false_eq_true, ↓reduceIte])
    repeat (first | ((with_reducible refine gd_op ?_); first | (refine rr_pure' hB rfl (by rfl) (by k_ne) (by rfl) (fun w₁ => by first | (simp [go_sem]; done) | simp [go_sem, *]) (fun w₁ K hK => ?_); go_simp; refine hK _ ?_; clear hK K w₁; try walk_nrm) | (refine rr_ctl hB rfl (fun _ => stepG_unwanted rfl rfl) ?_; try walk_nrm)) | ((with_reducible refine gd_rend ?_); (refine rr_regend hB hKr ?_; clear hKr Kr)) | ((with_reducible refine gd_seq ?_); refine rr_ctl hB rfl (fun _ => stepG_seq) ?_) | ((with_reducible refine gd_reg ?_); (refine rr_reg hB (fun Kr hKr => ?_); simp only [List.size_toArray, List.length_cons, List.length_nil, Nat.reduceAdd, Nat.zero_add, List.range, List.range.loop])) | ((with_reducible refine gd_skip ?_); refine rr_ctl hB rfl (fun _ => stepG_skip) ?_) | ((with_reducible refine gd_block ?_); refine rr_ctl hB rfl (fun _ => stepG_block) ?_) | ((with_reducible refine gd_inb ?_); refine rr_ctl hB rfl (fun _ => stepG_inBlock) ?_) | ((with_reducible refine gd_ret ?_); refine rr_ctl hB rfl (fun _ => stepG_ret') ?_) | ((with_reducible refine gd_exit ?_); refine rr_ctl hB rfl (fun _ => stepG_exit rfl) ?_) | ((with_reducible refine gd_end ?_); refine rr_ctl hB rfl (fun _ => stepG_end) ?_))
    (refine rr_oper rfl (by rfl) (by k_ne) (fun s₁ w₁ hR hI K hK => ?_); replace hG := (Acc.rely hB) hG hR; clear hR; have := (h3.out.rely hG.rl).1; go_simp; refine hK _ _ ⟨s₁, mv_rd (.inl rfl) (fun e he => ?_), .refl _, ?_⟩; (focus (have hm := mem_listed he; simp [go_sem, *] at hm; (subst hm; exact ⟨_, rfl, (h3.out.rely hG.rl).2.1, (h3.out.rely hG.rl).2.2⟩))); clear hK K; try walk_nrm)
    repeat (first | ((with_reducible refine gd_op ?_); first | (refine rr_pure' hB rfl (by rfl) (by k_ne) (by rfl) (fun w₁ => by first | (simp [go_sem]; done) | simp [go_sem, *]) (fun w₁ K hK => ?_); go_simp; refine hK _ ?_; clear hK K w₁; try walk_nrm) | (refine rr_ctl hB rfl (fun _ => stepG_unwanted rfl rfl) ?_; try walk_nrm)) | ((with_reducible refine gd_rend ?_); (refine rr_regend hB hKr ?_; clear hKr Kr)) | ((with_reducible refine gd_seq ?_); refine rr_ctl hB rfl (fun _ => stepG_seq) ?_) | ((with_reducible refine gd_reg ?_); (refine rr_reg hB (fun Kr hKr => ?_); simp only [List.size_toArray, List.length_cons, List.length_nil, Nat.reduceAdd, Nat.zero_add, List.range, List.range.loop])) | ((with_reducible refine gd_skip ?_); refine rr_ctl hB rfl (fun _ => stepG_skip) ?_) | ((with_reducible refine gd_block ?_); refine rr_ctl hB rfl (fun _ => stepG_block) ?_) | ((with_reducible refine gd_inb ?_); refine rr_ctl hB rfl (fun _ => stepG_inBlock) ?_) | ((with_reducible refine gd_ret ?_); refine rr_ctl hB rfl (fun _ => stepG_ret') ?_) | ((with_reducible refine gd_exit ?_); refine rr_ctl hB rfl (fun _ => stepG_exit rfl) ?_) | ((with_reducible refine gd_end ?_); refine rr_ctl hB rfl (fun _ => stepG_end) ?_))
    refine rr_push hB (sx := .tmp 12) (y := l[q]) hG rfl (by rfl) (by k_ne) rfl (fun w => by simp [go_sem]) (fun w => by simp [go_sem]) rfl rfl rfl (by simp) (fun _ => rfl) htl ?_
    clear hG
    rintro N v' s w hG
    rw [← htk] at hG
    walk_nrm
    repeat (first | ((with_reducible refine gd_op ?_); first | (refine rr_pure' hB rfl (by rfl) (by k_ne) (by rfl) (fun w₁ => by first | (simp [go_sem]; done) | simp [go_sem, *]) (fun w₁ K hK => ?_); go_simp; refine hK _ ?_; clear hK K w₁; try walk_nrm) | (refine rr_ctl hB rfl (fun _ => stepG_unwanted rfl rfl) ?_; try walk_nrm)) | ((with_reducible refine gd_rend ?_); (refine rr_regend hB hKr ?_; clear hKr Kr)) | ((with_reducible refine gd_seq ?_); refine rr_ctl hB rfl (fun _ => stepG_seq) ?_) | ((with_reducible refine gd_reg ?_); (refine rr_reg hB (fun Kr hKr => ?_); simp only [List.size_toArray, List.length_cons, List.length_nil, Nat.reduceAdd, Nat.zero_add, List.range, List.range.loop])) | ((with_reducible refine gd_skip ?_); refine rr_ctl hB rfl (fun _ => stepG_skip) ?_) | ((with_reducible refine gd_block ?_); refine rr_ctl hB rfl (fun _ => stepG_block) ?_) | ((with_reducible refine gd_inb ?_); refine rr_ctl hB rfl (fun _ => stepG_inBlock) ?_) | ((with_reducible refine gd_ret ?_); refine rr_ctl hB rfl (fun _ => stepG_ret') ?_) | ((with_reducible refine gd_exit ?_); refine rr_ctl hB rfl (fun _ => stepG_exit rfl) ?_) | ((with_reducible refine gd_end ?_); refine rr_ctl hB rfl (fun _ => stepG_end) ?_))
    refine rr_ctl hB rfl (fun _ => stepG_inLoop) ?_
    exact ih2 (l.length - (q + 1)) _ _ _ (by omega) ⟨_, q + 1, v', rfl, rfl, rfl, rfl, rfl, by omega, rfl, hG⟩
  · have hq : l.take q = l := List.take_of_length_le (by omega)
    rw [hq] at hG
    (refine rr_ctl hB rfl (fun _ => stepG_cond (t := false) (by first | rfl | (simp [Act.eval, *]))) ?_; simp only [if_true, if_false, Bool.false_eq_true, ↓reduceIte])
    repeat (first | ((with_reducible refine gd_op ?_); first | (refine rr_pure' hB rfl (by rfl) (by k_ne) (by rfl) (fun w₁ => by first | (simp [go_sem]; done) | simp [go_sem, *]) (fun w₁ K hK => ?_); go_simp; refine hK _ ?_; clear hK K w₁; try walk_nrm) | (refine rr_ctl hB rfl (fun _ => stepG_unwanted rfl rfl) ?_; try walk_nrm)) | ((with_reducible refine gd_rend ?_); (refine rr_regend hB hKr ?_; clear hKr Kr)) | ((with_reducible refine gd_seq ?_); refine rr_ctl hB rfl (fun _ => stepG_seq) ?_) | ((with_reducible refine gd_reg ?_); (refine rr_reg hB (fun Kr hKr => ?_); simp only [List.size_toArray, List.length_cons, List.length_nil, Nat.reduceAdd, Nat.zero_add, List.range, List.range.loop])) | ((with_reducible refine gd_skip ?_); refine rr_ctl hB rfl (fun _ => stepG_skip) ?_) | ((with_reducible refine gd_block ?_); refine rr_ctl hB rfl (fun _ => stepG_block) ?_) | ((with_reducible refine gd_inb ?_); refine rr_ctl hB rfl (fun _ => stepG_inBlock) ?_) | ((with_reducible refine gd_ret ?_); refine rr_ctl hB rfl (fun _ => stepG_ret') ?_) | ((with_reducible refine gd_exit ?_); refine rr_ctl hB rfl (fun _ => stepG_exit rfl) ?_) | ((with_reducible refine gd_end ?_); refine rr_ctl hB rfl (fun _ => stepG_end) ?_))
    (refine rr_leave hB rfl rfl Try.func20 (fun w => ⟨results_tmp rfl _ _ w, events_results_tmp rfl _ _⟩) ?_)
    exact hret _ _ _ hG

theorem same_x (hB : B.Laws) {va vb : Value} {l : List Int} (hN : Nums 0 s₀ w₀ va l) (hM : Nums 0 s₀ w₀ vb l) (hl : l.length ≤ 17592186044415) : CallX Try.prog B E Post Child 0 18 #[va, vb] s₀ w₀ (fun v s' w' => v = .bool true ∧ Rl 0 s₀ w₀ s' w') := by
  refine ⟨Try.f18, _, Try.func18, by kernel_rfl, rfl, fun cal cs hret => ?_⟩
  obtain ⟨A, cap, rfl, -⟩ := id hN
  obtain ⟨A', cap', rfl, -⟩ := id hM
  replace hN := Hid.mk hN
  replace hM := Hid.mk hM
  walk_nrmf Try.f18
  repeat (first | ((with_reducible refine gd_op ?_); first | (refine rr_pure' hB rfl (by rfl) (by k_ne) (by rfl) (fun w₁ => by first | (simp [go_sem]; done) | simp [go_sem, *]) (fun w₁ K hK => ?_); go_simp; refine hK _ ?_; clear hK K w₁; try walk_nrm) | (refine rr_ctl hB rfl (fun _ => stepG_unwanted rfl rfl) ?_; try walk_nrm)) | ((with_reducible refine gd_rend ?_); (refine rr_regend hB hKr ?_; clear hKr Kr)) | ((with_reducible refine gd_seq ?_); refine rr_ctl hB rfl (fun _ => stepG_seq) ?_) | ((with_reducible refine gd_reg ?_); (refine rr_reg hB (fun Kr hKr => ?_); simp only [List.size_toArray, List.length_cons, List.length_nil, Nat.reduceAdd, Nat.zero_add, List.range, List.range.loop])) | ((with_reducible refine gd_skip ?_); refine rr_ctl hB rfl (fun _ => stepG_skip) ?_) | ((with_reducible refine gd_block ?_); refine rr_ctl hB rfl (fun _ => stepG_block) ?_) | ((with_reducible refine gd_inb ?_); refine rr_ctl hB rfl (fun _ => stepG_inBlock) ?_) | ((with_reducible refine gd_ret ?_); refine rr_ctl hB rfl (fun _ => stepG_ret') ?_) | ((with_reducible refine gd_exit ?_); refine rr_ctl hB rfl (fun _ => stepG_exit rfl) ?_) | ((with_reducible refine gd_end ?_); refine rr_ctl hB rfl (fun _ => stepG_end) ?_))
  (refine rr_ctl hB rfl (fun _ => stepG_cond (t := false) (by first | rfl | (simp [Act.eval, *]))) ?_; simp only [if_true, if_false, Bool.false_eq_true, ↓reduceIte])
  repeat (first | ((with_reducible refine gd_op ?_); first | (refine rr_pure' hB rfl (by rfl) (by k_ne) (by rfl) (fun w₁ => by first | (simp [go_sem]; done) | simp [go_sem, *]) (fun w₁ K hK => ?_); go_simp; refine hK _ ?_; clear hK K w₁; try walk_nrm) | (refine rr_ctl hB rfl (fun _ => stepG_unwanted rfl rfl) ?_; try walk_nrm)) | ((with_reducible refine gd_rend ?_); (refine rr_regend hB hKr ?_; clear hKr Kr)) | ((with_reducible refine gd_seq ?_); refine rr_ctl hB rfl (fun _ => stepG_seq) ?_) | ((with_reducible refine gd_reg ?_); (refine rr_reg hB (fun Kr hKr => ?_); simp only [List.size_toArray, List.length_cons, List.length_nil, Nat.reduceAdd, Nat.zero_add, List.range, List.range.loop])) | ((with_reducible refine gd_skip ?_); refine rr_ctl hB rfl (fun _ => stepG_skip) ?_) | ((with_reducible refine gd_block ?_); refine rr_ctl hB rfl (fun _ => stepG_block) ?_) | ((with_reducible refine gd_inb ?_); refine rr_ctl hB rfl (fun _ => stepG_inBlock) ?_) | ((with_reducible refine gd_ret ?_); refine rr_ctl hB rfl (fun _ => stepG_ret') ?_) | ((with_reducible refine gd_exit ?_); refine rr_ctl hB rfl (fun _ => stepG_exit rfl) ?_) | ((with_reducible refine gd_end ?_); refine rr_ctl hB rfl (fun _ => stepG_end) ?_))
  have hF : Rl 0 s₀ w₀ s₀ w₀ := .refl hB _ _ _
  refine rr_loop hB (fun m a s w => ∃ T i, a = ⟨T, []⟩ ∧ T.size = 26 ∧ T[0]? = some (.slice A l.length cap) ∧ T[1]? = some (.slice A' l.length cap') ∧ T[5]? = some (.int .i64 (i : Nat)) ∧ i ≤ l.length ∧ m = l.length - i ∧ Rl 0 s₀ w₀ s w) l.length ⟨_, 0, rfl, rfl, rfl, rfl, rfl, Nat.zero_le _, rfl, hF⟩ ?_
  clear hF
  rintro m a s w ⟨T, i, rfl, hT, t0, t1, t5, hle, rfl, hF⟩ ih
  obtain ⟨T⟩ := T
  ((iterate 26 (rcases T with _ | ⟨_, T⟩; focus (simp at hT))); rcases T with _ | ⟨_, _⟩; rotate_left; focus (simp at hT))
  simp only [List.getElem?_toArray, List.getElem?_cons_succ, List.getElem?_cons_zero, Option.some.injEq] at t0 t1 t5
  subst t0 t1 t5
  repeat (first | ((with_reducible refine gd_op ?_); first | (refine rr_pure' hB rfl (by rfl) (by k_ne) (by rfl) (fun w₁ => by first | (simp [go_sem]; done) | simp [go_sem, *]) (fun w₁ K hK => ?_); go_simp; refine hK _ ?_; clear hK K w₁; try walk_nrm) | (refine rr_ctl hB rfl (fun _ => stepG_unwanted rfl rfl) ?_; try walk_nrm)) | ((with_reducible refine gd_rend ?_); (refine rr_regend hB hKr ?_; clear hKr Kr)) | ((with_reducible refine gd_seq ?_); refine rr_ctl hB rfl (fun _ => stepG_seq) ?_) | ((with_reducible refine gd_reg ?_); (refine rr_reg hB (fun Kr hKr => ?_); simp only [List.size_toArray, List.length_cons, List.length_nil, Nat.reduceAdd, Nat.zero_add, List.range, List.range.loop])) | ((with_reducible refine gd_skip ?_); refine rr_ctl hB rfl (fun _ => stepG_skip) ?_) | ((with_reducible refine gd_block ?_); refine rr_ctl hB rfl (fun _ => stepG_block) ?_) | ((with_reducible refine gd_inb ?_); refine rr_ctl hB rfl (fun _ => stepG_inBlock) ?_) | ((with_reducible refine gd_ret ?_); refine rr_ctl hB rfl (fun _ => stepG_ret') ?_) | ((with_reducible refine gd_exit ?_); refine rr_ctl hB rfl (fun _ => stepG_exit rfl) ?_) | ((with_reducible refine gd_end ?_); refine rr_ctl hB rfl (fun _ => stepG_end) ?_))
  by_cases hlt : i < l.length
  · obtain ⟨b, o, rfl, h1⟩ := hN.out.at hlt
    obtain ⟨b', o', rfl, h2⟩ := hM.out.at hlt
    replace h1 := Hid.mk h1
    replace h2 := Hid.mk h2
    have hk : 0 ≤ (i : Int) ∧ (i : Int) < l.length := ⟨by omega, by omega⟩
    have hwi : IntKind.i64.wrap (i : Int) = (i : Int) := by rw [IntKind.wrap_i64]; omega
    have hw1 : IntKind.i64.wrap ((i : Int) + 1) = ((i + 1 : Nat) : Int) := by rw [IntKind.wrap_i64]; omega
    (refine rr_ctl hB rfl (fun _ => stepG_cond (t := true) (by first | rfl | (simp [Act.eval, *]))) ?_; simp only [if_true, if_false, Bool.false_eq_true, ↓reduceIte])
    repeat (first | ((with_reducible refine gd_op ?_); first | (refine rr_pure' hB rfl (by rfl) (by k_ne) (by rfl) (fun w₁ => by first | (simp [go_sem]; done) | simp [go_sem, *]) (fun w₁ K hK => ?_); go_simp; refine hK _ ?_; clear hK K w₁; try walk_nrm) | (refine rr_ctl hB rfl (fun _ => stepG_unwanted rfl rfl) ?_; try walk_nrm)) | ((with_reducible refine gd_rend ?_); (refine rr_regend hB hKr ?_; clear hKr Kr)) | ((with_reducible refine gd_seq ?_); refine rr_ctl hB rfl (fun _ => stepG_seq) ?_) | ((with_reducible refine gd_reg ?_); (refine rr_reg hB (fun Kr hKr => ?_); simp only [List.size_toArray, List.length_cons, List.length_nil, Nat.reduceAdd, Nat.zero_add, List.range, List.range.loop])) | ((with_reducible refine gd_skip ?_); refine rr_ctl hB rfl (fun _ => stepG_skip) ?_) | ((with_reducible refine gd_block ?_); refine rr_ctl hB rfl (fun _ => stepG_block) ?_) | ((with_reducible refine gd_inb ?_); refine rr_ctl hB rfl (fun _ => stepG_inBlock) ?_) | ((with_reducible refine gd_ret ?_); refine rr_ctl hB rfl (fun _ => stepG_ret') ?_) | ((with_reducible refine gd_exit ?_); refine rr_ctl hB rfl (fun _ => stepG_exit rfl) ?_) | ((with_reducible refine gd_end ?_); refine rr_ctl hB rfl (fun _ => stepG_end) ?_))
    have hQ : ∀ (a : Act) s w s₁ w₁, ((∃ T, a = ⟨T, []⟩ ∧ T.size = 26 ∧ T[0]? = some (.slice (some ⟨b, o, none⟩) l.length cap) ∧ T[1]? = some (.slice (some ⟨b', o', none⟩) l.length cap') ∧ T[5]? = some (.int .i64 (i : Nat)) ∧ T[25]? = some (.bool false)) ∧ Rl 0 s₀ w₀ s w) → Rl 0 s w s₁ w₁ → ((∃ T, a = ⟨T, []⟩ ∧ T.size = 26 ∧ T[0]? = some (.slice (some ⟨b, o, none⟩) l.length cap) ∧ T[1]? = some (.slice (some ⟨b', o', none⟩) l.length cap') ∧ T[5]? = some (.int .i64 (i : Nat)) ∧ T[25]? = some (.bool false)) ∧ Rl 0 s₀ w₀ s₁ w₁) := fun a s w s₁ w₁ h r => ⟨h.1, h.2.trans hB r⟩
    refine rr_any hB (Q := fun a s w => (∃ T, a = ⟨T, []⟩ ∧ T.size = 26 ∧ T[0]? = some (.slice (some ⟨b, o, none⟩) l.length cap) ∧ T[1]? = some (.slice (some ⟨b', o', none⟩) l.length cap') ∧ T[5]? = some (.int .i64 (i : Nat)) ∧ T[25]? = some (.bool false)) ∧ Rl 0 s₀ w₀ s w) (by k_ne) mixed hQ ?_ ?_
    · clear ih
      co_applyP (anyX_take hB hQ (i := 0) rfl (by kernel_rfl) (by kernel_rfl) (by kernel_rfl) (.inl ⟨by rfl, fun _ => ⟨run_eq_of ?run0, ?ev0⟩⟩) ?go0)
      case run0 => intro K hK; go_simp; exact hK
      case ev0 => simp [go_sem, *]
      try walk_nrm
      co_applyP (anyX_take hB hQ (i := 1) rfl (by kernel_rfl) (by kernel_rfl) (by kernel_rfl) (.inl ⟨by rfl, fun _ => ⟨run_eq_of ?run1, ?ev1⟩⟩) ?go1)
      case run1 => intro K hK; go_simp; exact hK
      case ev1 => simp [go_sem, *]
      try walk_nrm
      co_applyP (anyX_take hB hQ (i := 2) rfl (by kernel_rfl) (by kernel_rfl) (by kernel_rfl) (.inl ⟨by rfl, fun _ => ⟨run_eq_of ?run2, ?ev2⟩⟩) ?go2)
      case run2 => intro K hK; go_simp; exact hK
      case ev2 => simp [go_sem, *]
      try walk_nrm
      co_applyP (anyX_take hB hQ (i := 4) rfl (by kernel_rfl) (by kernel_rfl) (by kernel_rfl) (.inl ⟨by rfl, fun _ => ⟨run_eq_of ?run4, ?ev4⟩⟩) ?go4)
      case run4 => intro K hK; go_simp; exact hK
      case ev4 => simp [go_sem, *]
      try walk_nrm
      co_applyP (anyX_take hB hQ (i := 5) rfl (by kernel_rfl) (by kernel_rfl) (by kernel_rfl) (.inl ⟨by rfl, fun _ => ⟨run_eq_of ?run5, ?ev5⟩⟩) ?go5)
      case run5 => intro K hK; go_simp; exact hK
      case ev5 => simp [go_sem, *]
      try walk_nrm
      co_applyP (anyX_take hB hQ (i := 6) rfl (by kernel_rfl) (by kernel_rfl) (by kernel_rfl) (.inl ⟨by rfl, fun _ => ⟨run_eq_of ?run6, ?ev6⟩⟩) ?go6)
      case run6 => intro K hK; go_simp; exact hK
      case ev6 => simp [go_sem, *]
      try walk_nrm
      refine anyX_all (rs := [3, 7]) (by kernel_rfl) (by simp) fun q hq => ?_
      simp only [List.mem_cons, List.not_mem_nil, or_false] at hq
      rcases hq with rfl | rfl
      · -- one comes first
        refine opX_value rfl (by rfl) (fun s₁ w₁ hR hI K hK => ?_)
        replace hF := hF.trans hB hR
        clear hR
        have := (h1.out.rely hF).1
        go_simp
        refine hK _ _ ⟨s₁, mv_rd (.inl rfl) (fun e he => ?_), .refl _, ?_⟩
        · have hm := mem_listed he
          simp [go_sem, *] at hm
          subst hm
          exact ⟨_, rfl, (h1.out.rely hF).2.1, (h1.out.rely hF).2.2⟩
        clear hK K this hI
        try walk_nrm
        refine anyX_all (rs := [7]) (by kernel_rfl) (by simp) fun q hq => ?_
        simp only [List.mem_cons, List.not_mem_nil, or_false] at hq
        subst hq
        refine opX_value rfl (by rfl) (fun s₁ w₁ hR hI K hK => ?_)
        replace hF := hF.trans hB hR
        clear hR
        have := (h2.out.rely hF).1
        go_simp
        refine hK _ _ ⟨s₁, mv_rd (.inl rfl) (fun e he => ?_), .refl _, ?_⟩
        · have hm := mem_listed he
          simp [go_sem, *] at hm
          subst hm
          exact ⟨_, rfl, (h2.out.rely hF).2.1, (h2.out.rely hF).2.2⟩
        clear hK K this hI
        try walk_nrm
        co_applyP (anyX_take hB hQ (i := 8) rfl (by kernel_rfl) (by kernel_rfl) (by kernel_rfl) (.inl ⟨by rfl, fun _ => ⟨run_eq_of ?run8, ?ev8⟩⟩) ?go8)
        case run8 => intro K hK; go_simp; exact hK
        case ev8 => simp [go_sem, *]
        try walk_nrm
        exact anyX_done (by kernel_rfl) ⟨⟨_, rfl, rfl, rfl, rfl, rfl, rfl⟩, hF⟩ _
      · -- the other one
        refine opX_value rfl (by rfl) (fun s₁ w₁ hR hI K hK => ?_)
        replace hF := hF.trans hB hR
        clear hR
        have := (h2.out.rely hF).1
        go_simp
        refine hK _ _ ⟨s₁, mv_rd (.inl rfl) (fun e he => ?_), .refl _, ?_⟩
        · have hm := mem_listed he
          simp [go_sem, *] at hm
          subst hm
          exact ⟨_, rfl, (h2.out.rely hF).2.1, (h2.out.rely hF).2.2⟩
        clear hK K this hI
        try walk_nrm
        refine anyX_all (rs := [3]) (by kernel_rfl) (by simp) fun q hq => ?_
        simp only [List.mem_cons, List.not_mem_nil, or_false] at hq
        subst hq
        refine opX_value rfl (by rfl) (fun s₁ w₁ hR hI K hK => ?_)
        replace hF := hF.trans hB hR
        clear hR
        have := (h1.out.rely hF).1
        go_simp
        refine hK _ _ ⟨s₁, mv_rd (.inl rfl) (fun e he => ?_), .refl _, ?_⟩
        · have hm := mem_listed he
          simp [go_sem, *] at hm
          subst hm
          exact ⟨_, rfl, (h1.out.rely hF).2.1, (h1.out.rely hF).2.2⟩
        clear hK K this hI
        try walk_nrm
        co_applyP (anyX_take hB hQ (i := 8) rfl (by kernel_rfl) (by kernel_rfl) (by kernel_rfl) (.inl ⟨by rfl, fun _ => ⟨run_eq_of ?run8b, ?ev8b⟩⟩) ?go8b)
        case run8b => intro K hK; go_simp; exact hK
        case ev8b => simp [go_sem, *]
        try walk_nrm
        exact anyX_done (by kernel_rfl) ⟨⟨_, rfl, rfl, rfl, rfl, rfl, rfl⟩, hF⟩ _
    · clear hF
      rintro _ s w ⟨⟨T, rfl, hT, t0, t1, t5, t25⟩, hF⟩
      obtain ⟨T⟩ := T
      ((iterate 26 (rcases T with _ | ⟨_, T⟩; focus (simp at hT))); rcases T with _ | ⟨_, _⟩; rotate_left; focus (simp at hT))
      simp only [List.getElem?_toArray, List.getElem?_cons_succ, List.getElem?_cons_zero, Option.some.injEq] at t0 t1 t5 t25
      subst t0 t1 t5 t25
      repeat (first | ((with_reducible refine gd_op ?_); first | (refine rr_pure' hB rfl (by rfl) (by k_ne) (by rfl) (fun w₁ => by first | (simp [go_sem]; done) | simp [go_sem, *]) (fun w₁ K hK => ?_); go_simp; refine hK _ ?_; clear hK K w₁; try walk_nrm) | (refine rr_ctl hB rfl (fun _ => stepG_unwanted rfl rfl) ?_; try walk_nrm)) | ((with_reducible refine gd_rend ?_); (refine rr_regend hB hKr ?_; clear hKr Kr)) | ((with_reducible refine gd_seq ?_); refine rr_ctl hB rfl (fun _ => stepG_seq) ?_) | ((with_reducible refine gd_reg ?_); (refine rr_reg hB (fun Kr hKr => ?_); simp only [List.size_toArray, List.length_cons, List.length_nil, Nat.reduceAdd, Nat.zero_add, List.range, List.range.loop])) | ((with_reducible refine gd_skip ?_); refine rr_ctl hB rfl (fun _ => stepG_skip) ?_) | ((with_reducible refine gd_block ?_); refine rr_ctl hB rfl (fun _ => stepG_block) ?_) | ((with_reducible refine gd_inb ?_); refine rr_ctl hB rfl (fun _ => stepG_inBlock) ?_) | ((with_reducible refine gd_ret ?_); refine rr_ctl hB rfl (fun _ => stepG_ret') ?_) | ((with_reducible refine gd_exit ?_); refine rr_ctl hB rfl (fun _ => stepG_exit rfl) ?_) | ((with_reducible refine gd_end ?_); refine rr_ctl hB rfl (fun _ => stepG_end) ?_))
      (refine rr_ctl hB rfl (fun _ => stepG_cond (t := false) (by first | rfl | (simp [Act.eval, *]))) ?_; simp only [if_true, if_false, Bool.false_eq_true, ↓reduceIte])
      repeat (first | ((with_reducible refine gd_op ?_); first | (refine rr_pure' hB rfl (by rfl) (by k_ne) (by rfl) (fun w₁ => by first | (simp [go_sem]; done) | simp [go_sem, *]) (fun w₁ K hK => ?_); go_simp; refine hK _ ?_; clear hK K w₁; try walk_nrm) | (refine rr_ctl hB rfl (fun _ => stepG_unwanted rfl rfl) ?_; try walk_nrm)) | ((with_reducible refine gd_rend ?_); (refine rr_regend hB hKr ?_; clear hKr Kr)) | ((with_reducible refine gd_seq ?_); refine rr_ctl hB rfl (fun _ => stepG_seq) ?_) | ((with_reducible refine gd_reg ?_); (refine rr_reg hB (fun Kr hKr => ?_); simp only [List.size_toArray, List.length_cons, List.length_nil, Nat.reduceAdd, Nat.zero_add, List.range, List.range.loop])) | ((with_reducible refine gd_skip ?_); refine rr_ctl hB rfl (fun _ => stepG_skip) ?_) | ((with_reducible refine gd_block ?_); refine rr_ctl hB rfl (fun _ => stepG_block) ?_) | ((with_reducible refine gd_inb ?_); refine rr_ctl hB rfl (fun _ => stepG_inBlock) ?_) | ((with_reducible refine gd_ret ?_); refine rr_ctl hB rfl (fun _ => stepG_ret') ?_) | ((with_reducible refine gd_exit ?_); refine rr_ctl hB rfl (fun _ => stepG_exit rfl) ?_) | ((with_reducible refine gd_end ?_); refine rr_ctl hB rfl (fun _ => stepG_end) ?_))
      refine rr_ctl hB rfl (fun _ => stepG_inLoop) ?_
      exact ih (l.length - (i + 1)) _ _ _ (by omega) ⟨_, i + 1, rfl, rfl, rfl, rfl, rfl, by omega, rfl, hF⟩
  · (refine rr_ctl hB rfl (fun _ => stepG_cond (t := false) (by first | rfl | (simp [Act.eval, *]))) ?_; simp only [if_true, if_false, Bool.false_eq_true, ↓reduceIte])
    repeat (first | ((with_reducible refine gd_op ?_); first | (refine rr_pure' hB rfl (by rfl) (by k_ne) (by rfl) (fun w₁ => by first | (simp [go_sem]; done) | simp [go_sem, *]) (fun w₁ K hK => ?_); go_simp; refine hK _ ?_; clear hK K w₁; try walk_nrm) | (refine rr_ctl hB rfl (fun _ => stepG_unwanted rfl rfl) ?_; try walk_nrm)) | ((with_reducible refine gd_rend ?_); (refine rr_regend hB hKr ?_; clear hKr Kr)) | ((with_reducible refine gd_seq ?_); refine rr_ctl hB rfl (fun _ => stepG_seq) ?_) | ((with_reducible refine gd_reg ?_); (refine rr_reg hB (fun Kr hKr => ?_); simp only [List.size_toArray, List.length_cons, List.length_nil, Nat.reduceAdd, Nat.zero_add, List.range, List.range.loop])) | ((with_reducible refine gd_skip ?_); refine rr_ctl hB rfl (fun _ => stepG_skip) ?_) | ((with_reducible refine gd_block ?_); refine rr_ctl hB rfl (fun _ => stepG_block) ?_) | ((with_reducible refine gd_inb ?_); refine rr_ctl hB rfl (fun _ => stepG_inBlock) ?_) | ((with_reducible refine gd_ret ?_); refine rr_ctl hB rfl (fun _ => stepG_ret') ?_) | ((with_reducible refine gd_exit ?_); refine rr_ctl hB rfl (fun _ => stepG_exit rfl) ?_) | ((with_reducible refine gd_end ?_); refine rr_ctl hB rfl (fun _ => stepG_end) ?_))
    (refine rr_leave hB rfl rfl Try.func18 (fun w => ⟨results_tmp rfl _ _ w, events_results_tmp rfl _ _⟩) ?_)
    exact hret _ _ _ ⟨rfl, hF⟩

theorem within_x (hB : B.Laws) {va vb : Value} {l m : List Int} (hN : Nums 0 s₀ w₀ va l) (hM : Nums 0 s₀ w₀ vb m) (hl : l.length ≤ 17592186044415) (hm : m.length ≤ 17592186044415) : CallX Try.prog B E Post Child 0 17 #[va, vb] s₀ w₀ (fun v s' w' => v = .bool (within l m) ∧ Rl 0 s₀ w₀ s' w') := by
  refine ⟨Try.f17, _, Try.func17, by kernel_rfl, rfl, fun cal cs hret => ?_⟩
  obtain ⟨A, cap, rfl, -⟩ := id hN
  obtain ⟨A', cap', rfl, -⟩ := id hM
  replace hN := Hid.mk hN
  replace hM := Hid.mk hM
  walk_nrmf Try.f17
  repeat (first | ((with_reducible refine gd_op ?_); first | (refine rr_pure' hB rfl (by rfl) (by k_ne) (by rfl) (fun w₁ => by first | (simp [go_sem]; done) | simp [go_sem, *]) (fun w₁ K hK => ?_); go_simp; refine hK _ ?_; clear hK K w₁; try walk_nrm) | (refine rr_ctl hB rfl (fun _ => stepG_unwanted rfl rfl) ?_; try walk_nrm)) | ((with_reducible refine gd_rend ?_); (refine rr_regend hB hKr ?_; clear hKr Kr)) | ((with_reducible refine gd_seq ?_); refine rr_ctl hB rfl (fun _ => stepG_seq) ?_) | ((with_reducible refine gd_reg ?_); (refine rr_reg hB (fun Kr hKr => ?_); simp only [List.size_toArray, List.length_cons, List.length_nil, Nat.reduceAdd, Nat.zero_add, List.range, List.range.loop])) | ((with_reducible refine gd_skip ?_); refine rr_ctl hB rfl (fun _ => stepG_skip) ?_) | ((with_reducible refine gd_block ?_); refine rr_ctl hB rfl (fun _ => stepG_block) ?_) | ((with_reducible refine gd_inb ?_); refine rr_ctl hB rfl (fun _ => stepG_inBlock) ?_) | ((with_reducible refine gd_ret ?_); refine rr_ctl hB rfl (fun _ => stepG_ret') ?_) | ((with_reducible refine gd_exit ?_); refine rr_ctl hB rfl (fun _ => stepG_exit rfl) ?_) | ((with_reducible refine gd_end ?_); refine rr_ctl hB rfl (fun _ => stepG_end) ?_))
  have hF : Rl 0 s₀ w₀ s₀ w₀ := .refl hB _ _ _
  refine rr_loop hB (fun m' a s w => ∃ T i p, a = ⟨T, []⟩ ∧ T.size = 34 ∧ T[0]? = some (.slice A l.length cap) ∧ T[1]? = some (.slice A' m.length cap') ∧ T[5]? = some (.int .i64 (p : Nat)) ∧ T[6]? = some (.int .i64 (i : Nat)) ∧ p ≤ l.length ∧ i ≤ m.length ∧ m' = m.length - i ∧ within (l.drop p) (m.drop i) = within l m ∧ Rl 0 s₀ w₀ s w) m.length ⟨_, 0, 0, rfl, rfl, rfl, rfl, rfl, rfl, Nat.zero_le _, Nat.zero_le _, rfl, rfl, hF⟩ ?_
  clear hF
  rintro m' a s w ⟨T, i, p, rfl, hT, t0, t1, t5, t6, hple, hle, rfl, hw, hF⟩ ih
  obtain ⟨T⟩ := T
  ((iterate 34 (rcases T with _ | ⟨_, T⟩; focus (simp at hT))); rcases T with _ | ⟨_, _⟩; rotate_left; focus (simp at hT))
  simp only [List.getElem?_toArray, List.getElem?_cons_succ, List.getElem?_cons_zero, Option.some.injEq] at t0 t1 t5 t6
  subst t0 t1 t5 t6
  by_cases hlt : i < m.length
  · have hlt' : (i : Int) < (m.length : Int) := by omega
    by_cases hlt2 : p < l.length
    · have hlt2' : (p : Int) < (l.length : Int) := by omega
      obtain ⟨b, o, rfl, h1⟩ := hN.out.at hlt2
      obtain ⟨b', o', rfl, h2⟩ := hM.out.at hlt
      replace h1 := Hid.mk h1
      replace h2 := Hid.mk h2
      have hk : 0 ≤ (i : Int) ∧ (i : Int) < m.length := ⟨by omega, by omega⟩
      have hk2 : 0 ≤ (p : Int) ∧ (p : Int) < l.length := ⟨by omega, by omega⟩
      have hwi : IntKind.i64.wrap (i : Int) = (i : Int) := by rw [IntKind.wrap_i64]; omega
      have hwp : IntKind.i64.wrap (p : Int) = (p : Int) := by rw [IntKind.wrap_i64]; omega
      have hw1 : IntKind.i64.wrap ((i : Int) + 1) = ((i + 1 : Nat) : Int) := by rw [IntKind.wrap_i64]; omega
      have hw2 : IntKind.i64.wrap ((p : Int) + 1) = ((p + 1 : Nat) : Int) := by rw [IntKind.wrap_i64]; omega
      repeat (first | ((with_reducible refine gd_op ?_); first | (refine rr_pure' hB rfl (by rfl) (by k_ne) (by rfl) (fun w₁ => by first | (simp [go_sem]; done) | simp [go_sem, *]) (fun w₁ K hK => ?_); go_simp; refine hK _ ?_; clear hK K w₁; try walk_nrm) | (refine rr_ctl hB rfl (fun _ => stepG_unwanted rfl rfl) ?_; try walk_nrm)) | ((with_reducible refine gd_rend ?_); (refine rr_regend hB hKr ?_; clear hKr Kr)) | ((with_reducible refine gd_seq ?_); refine rr_ctl hB rfl (fun _ => stepG_seq) ?_) | ((with_reducible refine gd_reg ?_); (refine rr_reg hB (fun Kr hKr => ?_); simp only [List.size_toArray, List.length_cons, List.length_nil, Nat.reduceAdd, Nat.zero_add, List.range, List.range.loop])) | ((with_reducible refine gd_skip ?_); refine rr_ctl hB rfl (fun _ => stepG_skip) ?_) | ((with_reducible refine gd_block ?_); refine rr_ctl hB rfl (fun _ => stepG_block) ?_) | ((with_reducible refine gd_inb ?_); refine rr_ctl hB rfl (fun _ => stepG_inBlock) ?_) | ((with_reducible refine gd_ret ?_); refine rr_ctl hB rfl (fun _ => stepG_ret') ?_) | ((with_reducible refine gd_exit ?_); refine rr_ctl hB rfl (fun _ => stepG_exit rfl) ?_) | ((with_reducible refine gd_end ?_); refine rr_ctl hB rfl (fun _ => stepG_end) ?_))
      (refine rr_ctl hB rfl (fun _ => stepG_cond (t := true) (by first | rfl | (simp [Act.eval, *]))) ?_; simp only [if_true, if_false, Bool.false_eq_true, ↓reduceIte])
      repeat (first | ((with_reducible refine gd_op ?_); first | (refine rr_pure' hB rfl (by rfl) (by k_ne) (by rfl) (fun w₁ => by first | (simp [go_sem]; done) | simp [go_sem, *]) (fun w₁ K hK => ?_); go_simp; refine hK _ ?_; clear hK K w₁; try walk_nrm) | (refine rr_ctl hB rfl (fun _ => stepG_unwanted rfl rfl) ?_; try walk_nrm)) | ((with_reducible refine gd_rend ?_); (refine rr_regend hB hKr ?_; clear hKr Kr)) | ((with_reducible refine gd_seq ?_); refine rr_ctl hB rfl (fun _ => stepG_seq) ?_) | ((with_reducible refine gd_reg ?_); (refine rr_reg hB (fun Kr hKr => ?_); simp only [List.size_toArray, List.length_cons, List.length_nil, Nat.reduceAdd, Nat.zero_add, List.range, List.range.loop])) | ((with_reducible refine gd_skip ?_); refine rr_ctl hB rfl (fun _ => stepG_skip) ?_) | ((with_reducible refine gd_block ?_); refine rr_ctl hB rfl (fun _ => stepG_block) ?_) | ((with_reducible refine gd_inb ?_); refine rr_ctl hB rfl (fun _ => stepG_inBlock) ?_) | ((with_reducible refine gd_ret ?_); refine rr_ctl hB rfl (fun _ => stepG_ret') ?_) | ((with_reducible refine gd_exit ?_); refine rr_ctl hB rfl (fun _ => stepG_exit rfl) ?_) | ((with_reducible refine gd_end ?_); refine rr_ctl hB rfl (fun _ => stepG_end) ?_))
      obtain ⟨e, he⟩ : ∃ e : Bool, (m[i] == l[p]) = e := ⟨_, rfl⟩
      have hQ : ∀ (a : Act) s w s₁ w₁, ((∃ T, a = ⟨T, []⟩ ∧ T.size = 34 ∧ T[0]? = some (.slice (some ⟨b, o, none⟩) l.length cap) ∧ T[1]? = some (.slice (some ⟨b', o', none⟩) m.length cap') ∧ T[5]? = some (.int .i64 (p : Nat)) ∧ T[6]? = some (.int .i64 (i : Nat)) ∧ T[27]? = some (.bool e)) ∧ Rl 0 s₀ w₀ s w) → Rl 0 s w s₁ w₁ → ((∃ T, a = ⟨T, []⟩ ∧ T.size = 34 ∧ T[0]? = some (.slice (some ⟨b, o, none⟩) l.length cap) ∧ T[1]? = some (.slice (some ⟨b', o', none⟩) m.length cap') ∧ T[5]? = some (.int .i64 (p : Nat)) ∧ T[6]? = some (.int .i64 (i : Nat)) ∧ T[27]? = some (.bool e)) ∧ Rl 0 s₀ w₀ s₁ w₁) := fun a s w s₁ w₁ h r => ⟨h.1, h.2.trans hB r⟩
      refine rr_any hB (Q := fun a s w => (∃ T, a = ⟨T, []⟩ ∧ T.size = 34 ∧ T[0]? = some (.slice (some ⟨b, o, none⟩) l.length cap) ∧ T[1]? = some (.slice (some ⟨b', o', none⟩) m.length cap') ∧ T[5]? = some (.int .i64 (p : Nat)) ∧ T[6]? = some (.int .i64 (i : Nat)) ∧ T[27]? = some (.bool e)) ∧ Rl 0 s₀ w₀ s w) (by k_ne) mixed hQ ?_ ?_
      · clear ih hw
        co_applyP (anyX_take hB hQ (i := 0) rfl (by kernel_rfl) (by kernel_rfl) (by kernel_rfl) (.inl ⟨by rfl, fun _ => ⟨run_eq_of ?run0, ?ev0⟩⟩) ?go0)
        case run0 => intro K hK; go_simp; exact hK
        case ev0 => simp [go_sem, *]
        try walk_nrm
        co_applyP (anyX_take hB hQ (i := 1) rfl (by kernel_rfl) (by kernel_rfl) (by kernel_rfl) (.inl ⟨by rfl, fun _ => ⟨run_eq_of ?run1, ?ev1⟩⟩) ?go1)
        case run1 => intro K hK; go_simp; exact hK
        case ev1 => simp [go_sem, *]
        try walk_nrm
        co_applyP (anyX_take hB hQ (i := 2) rfl (by kernel_rfl) (by kernel_rfl) (by kernel_rfl) (.inl ⟨by rfl, fun _ => ⟨run_eq_of ?run2, ?ev2⟩⟩) ?go2)
        case run2 => intro K hK; go_simp; exact hK
        case ev2 => simp [go_sem, *]
        try walk_nrm
        co_applyP (anyX_take hB hQ (i := 4) rfl (by kernel_rfl) (by kernel_rfl) (by kernel_rfl) (.inl ⟨by rfl, fun _ => ⟨run_eq_of ?run4, ?ev4⟩⟩) ?go4)
        case run4 => intro K hK; go_simp; exact hK
        case ev4 => simp [go_sem, *]
        try walk_nrm
        co_applyP (anyX_take hB hQ (i := 5) rfl (by kernel_rfl) (by kernel_rfl) (by kernel_rfl) (.inl ⟨by rfl, fun _ => ⟨run_eq_of ?run5, ?ev5⟩⟩) ?go5)
        case run5 => intro K hK; go_simp; exact hK
        case ev5 => simp [go_sem, *]
        try walk_nrm
        co_applyP (anyX_take hB hQ (i := 6) rfl (by kernel_rfl) (by kernel_rfl) (by kernel_rfl) (.inl ⟨by rfl, fun _ => ⟨run_eq_of ?run6, ?ev6⟩⟩) ?go6)
        case run6 => intro K hK; go_simp; exact hK
        case ev6 => simp [go_sem, *]
        try walk_nrm
        refine anyX_all (rs := [3, 7]) (by kernel_rfl) (by simp) fun q hq => ?_
        simp only [List.mem_cons, List.not_mem_nil, or_false] at hq
        rcases hq with rfl | rfl
        · -- one comes first
          refine opX_value rfl (by rfl) (fun s₁ w₁ hR hI K hK => ?_)
          replace hF := hF.trans hB hR
          clear hR
          have := (h2.out.rely hF).1
          go_simp
          refine hK _ _ ⟨s₁, mv_rd (.inl rfl) (fun e he => ?_), .refl _, ?_⟩
          · have hm := mem_listed he
            simp [go_sem, *] at hm
            subst hm
            exact ⟨_, rfl, (h2.out.rely hF).2.1, (h2.out.rely hF).2.2⟩
          clear hK K this hI
          try walk_nrm
          refine anyX_all (rs := [7]) (by kernel_rfl) (by simp) fun q hq => ?_
          simp only [List.mem_cons, List.not_mem_nil, or_false] at hq
          subst hq
          refine opX_value rfl (by rfl) (fun s₁ w₁ hR hI K hK => ?_)
          replace hF := hF.trans hB hR
          clear hR
          have := (h1.out.rely hF).1
          go_simp
          refine hK _ _ ⟨s₁, mv_rd (.inl rfl) (fun e he => ?_), .refl _, ?_⟩
          · have hm := mem_listed he
            simp [go_sem, *] at hm
            subst hm
            exact ⟨_, rfl, (h1.out.rely hF).2.1, (h1.out.rely hF).2.2⟩
          clear hK K this hI
          try walk_nrm
          co_applyP (anyX_take hB hQ (i := 8) rfl (by kernel_rfl) (by kernel_rfl) (by kernel_rfl) (.inl ⟨by rfl, fun _ => ⟨run_eq_of ?run8, ?ev8⟩⟩) ?go8)
          case run8 => intro K hK; go_simp; exact hK
          case ev8 => simp [go_sem, *]
          try walk_nrm
          exact anyX_done (by kernel_rfl) ⟨⟨_, rfl, rfl, rfl, rfl, rfl, rfl, rfl⟩, hF⟩ _
        · -- the other one
          refine opX_value rfl (by rfl) (fun s₁ w₁ hR hI K hK => ?_)
          replace hF := hF.trans hB hR
          clear hR
          have := (h1.out.rely hF).1
          go_simp
          refine hK _ _ ⟨s₁, mv_rd (.inl rfl) (fun e he => ?_), .refl _, ?_⟩
          · have hm := mem_listed he
            simp [go_sem, *] at hm
            subst hm
            exact ⟨_, rfl, (h1.out.rely hF).2.1, (h1.out.rely hF).2.2⟩
          clear hK K this hI
          try walk_nrm
          refine anyX_all (rs := [3]) (by kernel_rfl) (by simp) fun q hq => ?_
          simp only [List.mem_cons, List.not_mem_nil, or_false] at hq
          subst hq
          refine opX_value rfl (by rfl) (fun s₁ w₁ hR hI K hK => ?_)
          replace hF := hF.trans hB hR
          clear hR
          have := (h2.out.rely hF).1
          go_simp
          refine hK _ _ ⟨s₁, mv_rd (.inl rfl) (fun e he => ?_), .refl _, ?_⟩
          · have hm := mem_listed he
            simp [go_sem, *] at hm
            subst hm
            exact ⟨_, rfl, (h2.out.rely hF).2.1, (h2.out.rely hF).2.2⟩
          clear hK K this hI
          try walk_nrm
          co_applyP (anyX_take hB hQ (i := 8) rfl (by kernel_rfl) (by kernel_rfl) (by kernel_rfl) (.inl ⟨by rfl, fun _ => ⟨run_eq_of ?run8b, ?ev8b⟩⟩) ?go8b)
          case run8b => intro K hK; go_simp; exact hK
          case ev8b => simp [go_sem, *]
          try walk_nrm
          exact anyX_done (by kernel_rfl) ⟨⟨_, rfl, rfl, rfl, rfl, rfl, rfl, rfl⟩, hF⟩ _
      · clear hF
        rintro _ s w ⟨⟨T, rfl, hT, t0, t1, t5, t6, t27⟩, hF⟩
        obtain ⟨T⟩ := T
        ((iterate 34 (rcases T with _ | ⟨_, T⟩; focus (simp at hT))); rcases T with _ | ⟨_, _⟩; rotate_left; focus (simp at hT))
        simp only [List.getElem?_toArray, List.getElem?_cons_succ, List.getElem?_cons_zero, Option.some.injEq] at t0 t1 t5 t6 t27
        subst t0 t1 t5 t6 t27
        cases e with
        | true =>
          have e' : m[i] = l[p] := by simpa using he
          rw [within_hit hlt2 hlt e'] at hw
          repeat (first | ((with_reducible refine gd_op ?_); first | (refine rr_pure' hB rfl (by rfl) (by k_ne) (by rfl) (fun w₁ => by first | (simp [go_sem]; done) | simp [go_sem, *]) (fun w₁ K hK => ?_); go_simp; refine hK _ ?_; clear hK K w₁; try walk_nrm) | (refine rr_ctl hB rfl (fun _ => stepG_unwanted rfl rfl) ?_; try walk_nrm)) | ((with_reducible refine gd_rend ?_); (refine rr_regend hB hKr ?_; clear hKr Kr)) | ((with_reducible refine gd_seq ?_); refine rr_ctl hB rfl (fun _ => stepG_seq) ?_) | ((with_reducible refine gd_reg ?_); (refine rr_reg hB (fun Kr hKr => ?_); simp only [List.size_toArray, List.length_cons, List.length_nil, Nat.reduceAdd, Nat.zero_add, List.range, List.range.loop])) | ((with_reducible refine gd_skip ?_); refine rr_ctl hB rfl (fun _ => stepG_skip) ?_) | ((with_reducible refine gd_block ?_); refine rr_ctl hB rfl (fun _ => stepG_block) ?_) | ((with_reducible refine gd_inb ?_); refine rr_ctl hB rfl (fun _ => stepG_inBlock) ?_) | ((with_reducible refine gd_ret ?_); refine rr_ctl hB rfl (fun _ => stepG_ret') ?_) | ((with_reducible refine gd_exit ?_); refine rr_ctl hB rfl (fun _ => stepG_exit rfl) ?_) | ((with_reducible refine gd_end ?_); refine rr_ctl hB rfl (fun _ => stepG_end) ?_))
          (refine rr_ctl hB rfl (fun _ => stepG_cond (t := true) (by first | rfl | (simp [Act.eval, *]))) ?_; simp only [if_true, if_false, Bool.false_eq_true, ↓reduceIte])
          repeat (first | ((with_reducible refine gd_op ?_); first | (refine rr_pure' hB rfl (by rfl) (by k_ne) (by rfl) (fun w₁ => by first | (simp [go_sem]; done) | simp [go_sem, *]) (fun w₁ K hK => ?_); go_simp; refine hK _ ?_; clear hK K w₁; try walk_nrm) | (refine rr_ctl hB rfl (fun _ => stepG_unwanted rfl rfl) ?_; try walk_nrm)) | ((with_reducible refine gd_rend ?_); (refine rr_regend hB hKr ?_; clear hKr Kr)) | ((with_reducible refine gd_seq ?_); refine rr_ctl hB rfl (fun _ => stepG_seq) ?_) | ((with_reducible refine gd_reg ?_); (refine rr_reg hB (fun Kr hKr => ?_); simp only [List.size_toArray, List.length_cons, List.length_nil, Nat.reduceAdd, Nat.zero_add, List.range, List.range.loop])) | ((with_reducible refine gd_skip ?_); refine rr_ctl hB rfl (fun _ => stepG_skip) ?_) | ((with_reducible refine gd_block ?_); refine rr_ctl hB rfl (fun _ => stepG_block) ?_) | ((with_reducible refine gd_inb ?_); refine rr_ctl hB rfl (fun _ => stepG_inBlock) ?_) | ((with_reducible refine gd_ret ?_); refine rr_ctl hB rfl (fun _ => stepG_ret') ?_) | ((with_reducible refine gd_exit ?_); refine rr_ctl hB rfl (fun _ => stepG_exit rfl) ?_) | ((with_reducible refine gd_end ?_); refine rr_ctl hB rfl (fun _ => stepG_end) ?_))
          refine rr_ctl hB rfl (fun _ => stepG_inLoop) ?_
          exact ih (m.length - (i + 1)) _ _ _ (by omega) ⟨_, i + 1, p + 1, rfl, rfl, rfl, rfl, rfl, rfl, by omega, by omega, rfl, hw, hF⟩
        | false =>
          have e' : m[i] ≠ l[p] := by simpa using he
          rw [within_miss hlt2 hlt e'] at hw
          repeat (first | ((with_reducible refine gd_op ?_); first | (refine rr_pure' hB rfl (by rfl) (by k_ne) (by rfl) (fun w₁ => by first | (simp [go_sem]; done) | simp [go_sem, *]) (fun w₁ K hK => ?_); go_simp; refine hK _ ?_; clear hK K w₁; try walk_nrm) | (refine rr_ctl hB rfl (fun _ => stepG_unwanted rfl rfl) ?_; try walk_nrm)) | ((with_reducible refine gd_rend ?_); (refine rr_regend hB hKr ?_; clear hKr Kr)) | ((with_reducible refine gd_seq ?_); refine rr_ctl hB rfl (fun _ => stepG_seq) ?_) | ((with_reducible refine gd_reg ?_); (refine rr_reg hB (fun Kr hKr => ?_); simp only [List.size_toArray, List.length_cons, List.length_nil, Nat.reduceAdd, Nat.zero_add, List.range, List.range.loop])) | ((with_reducible refine gd_skip ?_); refine rr_ctl hB rfl (fun _ => stepG_skip) ?_) | ((with_reducible refine gd_block ?_); refine rr_ctl hB rfl (fun _ => stepG_block) ?_) | ((with_reducible refine gd_inb ?_); refine rr_ctl hB rfl (fun _ => stepG_inBlock) ?_) | ((with_reducible refine gd_ret ?_); refine rr_ctl hB rfl (fun _ => stepG_ret') ?_) | ((with_reducible refine gd_exit ?_); refine rr_ctl hB rfl (fun _ => stepG_exit rfl) ?_) | ((with_reducible refine gd_end ?_); refine rr_ctl hB rfl (fun _ => stepG_end) ?_))
          (refine rr_ctl hB rfl (fun _ => stepG_cond (t := false) (by first | rfl | (simp [Act.eval, *]))) ?_; simp only [if_true, if_false, Bool.false_eq_true, ↓reduceIte])
          repeat (first | ((with_reducible refine gd_op ?_); first | (refine rr_pure' hB rfl (by rfl) (by k_ne) (by rfl) (fun w₁ => by first | (simp [go_sem]; done) | simp [go_sem, *]) (fun w₁ K hK => ?_); go_simp; refine hK _ ?_; clear hK K w₁; try walk_nrm) | (refine rr_ctl hB rfl (fun _ => stepG_unwanted rfl rfl) ?_; try walk_nrm)) | ((with_reducible refine gd_rend ?_); (refine rr_regend hB hKr ?_; clear hKr Kr)) | ((with_reducible refine gd_seq ?_); refine rr_ctl hB rfl (fun _ => stepG_seq) ?_) | ((with_reducible refine gd_reg ?_); (refine rr_reg hB (fun Kr hKr => ?_); simp only [List.size_toArray, List.length_cons, List.length_nil, Nat.reduceAdd, Nat.zero_add, List.range, List.range.loop])) | ((with_reducible refine gd_skip ?_); refine rr_ctl hB rfl (fun _ => stepG_skip) ?_) | ((with_reducible refine gd_block ?_); refine rr_ctl hB rfl (fun _ => stepG_block) ?_) | ((with_reducible refine gd_inb ?_); refine rr_ctl hB rfl (fun _ => stepG_inBlock) ?_) | ((with_reducible refine gd_ret ?_); refine rr_ctl hB rfl (fun _ => stepG_ret') ?_) | ((with_reducible refine gd_exit ?_); refine rr_ctl hB rfl (fun _ => stepG_exit rfl) ?_) | ((with_reducible refine gd_end ?_); refine rr_ctl hB rfl (fun _ => stepG_end) ?_))
          refine rr_ctl hB rfl (fun _ => stepG_inLoop) ?_
          exact ih (m.length - (i + 1)) _ _ _ (by omega) ⟨_, i + 1, p, rfl, rfl, rfl, rfl, rfl, rfl, by omega, by omega, rfl, hw, hF⟩
    · rw [within_end hple (fun h => hlt2 h.2), decide_eq_true (by omega)] at hw
      replace hw := hw.symm
      obtain rfl : p = l.length := by omega
      repeat (first | ((with_reducible refine gd_op ?_); first | (refine rr_pure' hB rfl (by rfl) (by k_ne) (by rfl) (fun w₁ => by first | (simp [go_sem]; done) | simp [go_sem, *]) (fun w₁ K hK => ?_); go_simp; refine hK _ ?_; clear hK K w₁; try walk_nrm) | (refine rr_ctl hB rfl (fun _ => stepG_unwanted rfl rfl) ?_; try walk_nrm)) | ((with_reducible refine gd_rend ?_); (refine rr_regend hB hKr ?_; clear hKr Kr)) | ((with_reducible refine gd_seq ?_); refine rr_ctl hB rfl (fun _ => stepG_seq) ?_) | ((with_reducible refine gd_reg ?_); (refine rr_reg hB (fun Kr hKr => ?_); simp only [List.size_toArray, List.length_cons, List.length_nil, Nat.reduceAdd, Nat.zero_add, List.range, List.range.loop])) | ((with_reducible refine gd_skip ?_); refine rr_ctl hB rfl (fun _ => stepG_skip) ?_) | ((with_reducible refine gd_block ?_); refine rr_ctl hB rfl (fun _ => stepG_block) ?_) | ((with_reducible refine gd_inb ?_); refine rr_ctl hB rfl (fun _ => stepG_inBlock) ?_) | ((with_reducible refine gd_ret ?_); refine rr_ctl hB rfl (fun _ => stepG_ret') ?_) | ((with_reducible refine gd_exit ?_); refine rr_ctl hB rfl (fun _ => stepG_exit rfl) ?_) | ((with_reducible refine gd_end ?_); refine rr_ctl hB rfl (fun _ => stepG_end) ?_))
      (refine rr_ctl hB rfl (fun _ => stepG_cond (t := false) (by first | rfl | (simp [Act.eval, *]))) ?_; simp only [if_true, if_false, Bool.false_eq_true, ↓reduceIte])
      repeat (first | ((with_reducible refine gd_op ?_); first | (refine rr_pure' hB rfl (by rfl) (by k_ne) (by rfl) (fun w₁ => by first | (simp [go_sem]; done) | simp [go_sem, *]) (fun w₁ K hK => ?_); go_simp; refine hK _ ?_; clear hK K w₁; try walk_nrm) | (refine rr_ctl hB rfl (fun _ => stepG_unwanted rfl rfl) ?_; try walk_nrm)) | ((with_reducible refine gd_rend ?_); (refine rr_regend hB hKr ?_; clear hKr Kr)) | ((with_reducible refine gd_seq ?_); refine rr_ctl hB rfl (fun _ => stepG_seq) ?_) | ((with_reducible refine gd_reg ?_); (refine rr_reg hB (fun Kr hKr => ?_); simp only [List.size_toArray, List.length_cons, List.length_nil, Nat.reduceAdd, Nat.zero_add, List.range, List.range.loop])) | ((with_reducible refine gd_skip ?_); refine rr_ctl hB rfl (fun _ => stepG_skip) ?_) | ((with_reducible refine gd_block ?_); refine rr_ctl hB rfl (fun _ => stepG_block) ?_) | ((with_reducible refine gd_inb ?_); refine rr_ctl hB rfl (fun _ => stepG_inBlock) ?_) | ((with_reducible refine gd_ret ?_); refine rr_ctl hB rfl (fun _ => stepG_ret') ?_) | ((with_reducible refine gd_exit ?_); refine rr_ctl hB rfl (fun _ => stepG_exit rfl) ?_) | ((with_reducible refine gd_end ?_); refine rr_ctl hB rfl (fun _ => stepG_end) ?_))
      (refine rr_leave hB rfl rfl Try.func17 (fun w => ⟨results_tmp rfl _ _ w, events_results_tmp rfl _ _⟩) ?_)
      exact hret _ _ _ ⟨by simp [hw], hF⟩
  · have hlt' : ¬ (i : Int) < (m.length : Int) := by omega
    rw [within_end hple (fun h => hlt h.1)] at hw
    have he : ((p : Int) == (l.length : Int)) = within l m := by
      rw [← hw]
      by_cases e : p = l.length
      · subst e; simp
      · rw [decide_eq_false e, beq_eq_false_iff_ne]; omega
    repeat (first | ((with_reducible refine gd_op ?_); first | (refine rr_pure' hB rfl (by rfl) (by k_ne) (by rfl) (fun w₁ => by first | (simp [go_sem]; done) | simp [go_sem, *]) (fun w₁ K hK => ?_); go_simp; refine hK _ ?_; clear hK K w₁; try walk_nrm) | (refine rr_ctl hB rfl (fun _ => stepG_unwanted rfl rfl) ?_; try walk_nrm)) | ((with_reducible refine gd_rend ?_); (refine rr_regend hB hKr ?_; clear hKr Kr)) | ((with_reducible refine gd_seq ?_); refine rr_ctl hB rfl (fun _ => stepG_seq) ?_) | ((with_reducible refine gd_reg ?_); (refine rr_reg hB (fun Kr hKr => ?_); simp only [List.size_toArray, List.length_cons, List.length_nil, Nat.reduceAdd, Nat.zero_add, List.range, List.range.loop])) | ((with_reducible refine gd_skip ?_); refine rr_ctl hB rfl (fun _ => stepG_skip) ?_) | ((with_reducible refine gd_block ?_); refine rr_ctl hB rfl (fun _ => stepG_block) ?_) | ((with_reducible refine gd_inb ?_); refine rr_ctl hB rfl (fun _ => stepG_inBlock) ?_) | ((with_reducible refine gd_ret ?_); refine rr_ctl hB rfl (fun _ => stepG_ret') ?_) | ((with_reducible refine gd_exit ?_); refine rr_ctl hB rfl (fun _ => stepG_exit rfl) ?_) | ((with_reducible refine gd_end ?_); refine rr_ctl hB rfl (fun _ => stepG_end) ?_))
    (refine rr_ctl hB rfl (fun _ => stepG_cond (t := false) (by first | rfl | (simp [Act.eval, *]))) ?_; simp only [if_true, if_false, Bool.false_eq_true, ↓reduceIte])
    repeat (first | ((with_reducible refine gd_op ?_); first | (refine rr_pure' hB rfl (by rfl) (by k_ne) (by rfl) (fun w₁ => by first | (simp [go_sem]; done) | simp [go_sem, *]) (fun w₁ K hK => ?_); go_simp; refine hK _ ?_; clear hK K w₁; try walk_nrm) | (refine rr_ctl hB rfl (fun _ => stepG_unwanted rfl rfl) ?_; try walk_nrm)) | ((with_reducible refine gd_rend ?_); (refine rr_regend hB hKr ?_; clear hKr Kr)) | ((with_reducible refine gd_seq ?_); refine rr_ctl hB rfl (fun _ => stepG_seq) ?_) | ((with_reducible refine gd_reg ?_); (refine rr_reg hB (fun Kr hKr => ?_); simp only [List.size_toArray, List.length_cons, List.length_nil, Nat.reduceAdd, Nat.zero_add, List.range, List.range.loop])) | ((with_reducible refine gd_skip ?_); refine rr_ctl hB rfl (fun _ => stepG_skip) ?_) | ((with_reducible refine gd_block ?_); refine rr_ctl hB rfl (fun _ => stepG_block) ?_) | ((with_reducible refine gd_inb ?_); refine rr_ctl hB rfl (fun _ => stepG_inBlock) ?_) | ((with_reducible refine gd_ret ?_); refine rr_ctl hB rfl (fun _ => stepG_ret') ?_) | ((with_reducible refine gd_exit ?_); refine rr_ctl hB rfl (fun _ => stepG_exit rfl) ?_) | ((with_reducible refine gd_end ?_); refine rr_ctl hB rfl (fun _ => stepG_end) ?_))
    (refine rr_leave hB rfl rfl Try.func17 (fun w => ⟨results_tmp rfl _ _ w, events_results_tmp rfl _ _⟩) ?_)
    exact hret _ _ _ ⟨rfl, hF⟩
end
end Go.Proofs.Ytbamamkjmfkghaa.Crw
