/- A crowd pushes: the reference's sorted, by contracts of the starter.
No condition. -/
import Derived.Test.YtbamamkjmfkghaaVq
set_option linter.unusedSimpArgs false
set_option linter.unusedVariables false
namespace Go.Proofs.Ytbamamkjmfkghaa.Crw
open Go Go.Conc Go.RowKit Go.Conc.Lib Go.ConcR.Gen
open Go.ConcN (upd upd_same upd_ne)
open Go.ConcR (stA smA KK WgAt wgBlock rd wr mk)
set_option linter.unusedVariables false
set_option maxRecDepth 100000
set_option maxHeartbeats 4000000

section
variable {B : Usr} {E : Env} {Post : Value → World → Prop} {Child : Sit (proto Try.prog B E Post)} {s s' s₀ s₁ : St B} {w w' w₀ w₁ : World}
theorem sorted_x (hB : B.Laws) : ∀ (n : Nat) {s₀ : St B} {w₀ : World} {v : Value} {l : List Int}, l.length = n → l.length ≤ 17592186044415 → Nums 0 s₀ w₀ v l → CallX Try.prog B E Post Child 0 19 #[v] s₀ w₀ (fun v' s' w' => ∃ l', Nums 0 s' w' v' l' ∧ l'.Perm l ∧ l'.Pairwise (· ≤ ·) ∧ Rl 0 s₀ w₀ s' w') := by
  intro n
  induction n using Nat.strongRecOn with
  | _ n IH =>
  intro s₀ w₀ v l hn hl hN
  refine ⟨Try.f19, _, Try.func19, by kernel_rfl, rfl, fun cal cs hret => ?_⟩
  replace hn := Hid.mk hn
  obtain ⟨A, cap, rfl, hcap, -⟩ := id hN
  walk_nrmf Try.f19
  by_cases h2 : l.length < 2
  · have h2' : (l.length : Int) < 2 := by omega
    repeat (first | ((with_reducible refine gd_op ?_); first | (refine rr_pure' hB rfl (by rfl) (by k_ne) (by rfl) (fun w₁ => by first | (simp [go_sem]; done) | simp [go_sem, *]) (fun w₁ K hK => ?_); go_simp; refine hK _ ?_; clear hK K w₁; try walk_nrm) | (refine rr_ctl hB rfl (fun _ => stepG_unwanted rfl rfl) ?_; try walk_nrm)) | ((with_reducible refine gd_rend ?_); (refine rr_regend hB hKr ?_; clear hKr Kr)) | ((with_reducible refine gd_seq ?_); refine rr_ctl hB rfl (fun _ => stepG_seq) ?_) | ((with_reducible refine gd_reg ?_); (refine rr_reg hB (fun Kr hKr => ?_); simp only [List.size_toArray, List.length_cons, List.length_nil, Nat.reduceAdd, Nat.zero_add, List.range, List.range.loop])) | ((with_reducible refine gd_skip ?_); refine rr_ctl hB rfl (fun _ => stepG_skip) ?_) | ((with_reducible refine gd_block ?_); refine rr_ctl hB rfl (fun _ => stepG_block) ?_) | ((with_reducible refine gd_inb ?_); refine rr_ctl hB rfl (fun _ => stepG_inBlock) ?_) | ((with_reducible refine gd_ret ?_); refine rr_ctl hB rfl (fun _ => stepG_ret') ?_) | ((with_reducible refine gd_exit ?_); refine rr_ctl hB rfl (fun _ => stepG_exit rfl) ?_) | ((with_reducible refine gd_end ?_); refine rr_ctl hB rfl (fun _ => stepG_end) ?_))
    (refine rr_ctl hB rfl (fun _ => stepG_cond (t := true) (by first | rfl | (simp [Act.eval, *]))) ?_; simp only [if_true, if_false, Bool.false_eq_true, ↓reduceIte])
    repeat (first | ((with_reducible refine gd_op ?_); first | (refine rr_pure' hB rfl (by rfl) (by k_ne) (by rfl) (fun w₁ => by first | (simp [go_sem]; done) | simp [go_sem, *]) (fun w₁ K hK => ?_); go_simp; refine hK _ ?_; clear hK K w₁; try walk_nrm) | (refine rr_ctl hB rfl (fun _ => stepG_unwanted rfl rfl) ?_; try walk_nrm)) | ((with_reducible refine gd_rend ?_); (refine rr_regend hB hKr ?_; clear hKr Kr)) | ((with_reducible refine gd_seq ?_); refine rr_ctl hB rfl (fun _ => stepG_seq) ?_) | ((with_reducible refine gd_reg ?_); (refine rr_reg hB (fun Kr hKr => ?_); simp only [List.size_toArray, List.length_cons, List.length_nil, Nat.reduceAdd, Nat.zero_add, List.range, List.range.loop])) | ((with_reducible refine gd_skip ?_); refine rr_ctl hB rfl (fun _ => stepG_skip) ?_) | ((with_reducible refine gd_block ?_); refine rr_ctl hB rfl (fun _ => stepG_block) ?_) | ((with_reducible refine gd_inb ?_); refine rr_ctl hB rfl (fun _ => stepG_inBlock) ?_) | ((with_reducible refine gd_ret ?_); refine rr_ctl hB rfl (fun _ => stepG_ret') ?_) | ((with_reducible refine gd_exit ?_); refine rr_ctl hB rfl (fun _ => stepG_exit rfl) ?_) | ((with_reducible refine gd_end ?_); refine rr_ctl hB rfl (fun _ => stepG_end) ?_))
    (refine rr_leave hB rfl rfl Try.func19 (fun w => ⟨results_tmp rfl _ _ w, events_results_tmp rfl _ _⟩) ?_)
    refine hret _ _ _ ⟨l, hN, .refl _, ?_, .refl hB _ _ _⟩
    match l, h2 with
    | [], _ => exact List.Pairwise.nil
    | [x], _ => exact List.pairwise_singleton _ _
  · have h2' : ¬ (l.length : Int) < 2 := by omega
    obtain ⟨q, hq⟩ : ∃ q, l.length / 2 = q := ⟨_, rfl⟩
    have hq1 : Int.tdiv (l.length : Int) 2 = (q : Int) := by rw [Int.tdiv_eq_ediv_of_nonneg (by omega)]; omega
    have hwq : IntKind.i64.wrap (q : Int) = (q : Int) := by rw [IntKind.wrap_i64]; omega
    have hq2 : 0 ≤ (q : Int) ∧ (q : Int) ≤ cap ∧ (q : Int) ≤ l.length := ⟨by omega, by omega, by omega⟩
    repeat (first | ((with_reducible refine gd_op ?_); first | (refine rr_pure' hB rfl (by rfl) (by k_ne) (by rfl) (fun w₁ => by first | (simp [go_sem]; done) | simp [go_sem, *]) (fun w₁ K hK => ?_); go_simp; refine hK _ ?_; clear hK K w₁; try walk_nrm) | (refine rr_ctl hB rfl (fun _ => stepG_unwanted rfl rfl) ?_; try walk_nrm)) | ((with_reducible refine gd_rend ?_); (refine rr_regend hB hKr ?_; clear hKr Kr)) | ((with_reducible refine gd_seq ?_); refine rr_ctl hB rfl (fun _ => stepG_seq) ?_) | ((with_reducible refine gd_reg ?_); (refine rr_reg hB (fun Kr hKr => ?_); simp only [List.size_toArray, List.length_cons, List.length_nil, Nat.reduceAdd, Nat.zero_add, List.range, List.range.loop])) | ((with_reducible refine gd_skip ?_); refine rr_ctl hB rfl (fun _ => stepG_skip) ?_) | ((with_reducible refine gd_block ?_); refine rr_ctl hB rfl (fun _ => stepG_block) ?_) | ((with_reducible refine gd_inb ?_); refine rr_ctl hB rfl (fun _ => stepG_inBlock) ?_) | ((with_reducible refine gd_ret ?_); refine rr_ctl hB rfl (fun _ => stepG_ret') ?_) | ((with_reducible refine gd_exit ?_); refine rr_ctl hB rfl (fun _ => stepG_exit rfl) ?_) | ((with_reducible refine gd_end ?_); refine rr_ctl hB rfl (fun _ => stepG_end) ?_))
    (refine rr_ctl hB rfl (fun _ => stepG_cond (t := false) (by first | rfl | (simp [Act.eval, *]))) ?_; simp only [if_true, if_false, Bool.false_eq_true, ↓reduceIte])
    repeat (first | ((with_reducible refine gd_op ?_); first | (refine rr_pure' hB rfl (by rfl) (by k_ne) (by rfl) (fun w₁ => by first | (simp [go_sem]; done) | simp [go_sem, *]) (fun w₁ K hK => ?_); go_simp; refine hK _ ?_; clear hK K w₁; try walk_nrm) | (refine rr_ctl hB rfl (fun _ => stepG_unwanted rfl rfl) ?_; try walk_nrm)) | ((with_reducible refine gd_rend ?_); (refine rr_regend hB hKr ?_; clear hKr Kr)) | ((with_reducible refine gd_seq ?_); refine rr_ctl hB rfl (fun _ => stepG_seq) ?_) | ((with_reducible refine gd_reg ?_); (refine rr_reg hB (fun Kr hKr => ?_); simp only [List.size_toArray, List.length_cons, List.length_nil, Nat.reduceAdd, Nat.zero_add, List.range, List.range.loop])) | ((with_reducible refine gd_skip ?_); refine rr_ctl hB rfl (fun _ => stepG_skip) ?_) | ((with_reducible refine gd_block ?_); refine rr_ctl hB rfl (fun _ => stepG_block) ?_) | ((with_reducible refine gd_inb ?_); refine rr_ctl hB rfl (fun _ => stepG_inBlock) ?_) | ((with_reducible refine gd_ret ?_); refine rr_ctl hB rfl (fun _ => stepG_ret') ?_) | ((with_reducible refine gd_exit ?_); refine rr_ctl hB rfl (fun _ => stepG_exit rfl) ?_) | ((with_reducible refine gd_end ?_); refine rr_ctl hB rfl (fun _ => stepG_end) ?_))
    have hQ : ∀ (a : Act) s w s₁ w₁, HalfQ s₀ w₀ l a s w → Rl 0 s w s₁ w₁ → HalfQ s₀ w₀ l a s₁ w₁ := fun a s w s₁ w₁ ⟨T, va, vb, la, lb, e1, e2, e3, e4, e5, e6, e7, e8, e9, e10⟩ r => ⟨T, va, vb, la, lb, e1, e2, e3, e4, e5.rely r, e6.rely r, e7, e8, e9, e10.trans hB r⟩
    refine rr_any hB (Q := HalfQ s₀ w₀ l) (by k_ne) mixed hQ ?_ ?_
    · 
      co_applyP (anyX_take hB hQ (i := 0) rfl (by kernel_rfl) (by kernel_rfl) (by kernel_rfl) (.inl ⟨by rfl, fun _ => ⟨run_eq_of ?run0, ?ev0⟩⟩) ?go0)
      case run0 => intro K hK; go_simp; exact hK
      case ev0 => simp [go_sem, *]
      try walk_nrm
      co_applyP (anyX_take hB hQ (i := 1) rfl (by kernel_rfl) (by kernel_rfl) (by kernel_rfl) (.inl ⟨by rfl, fun _ => ⟨run_eq_of ?run1, ?ev1⟩⟩) ?go1)
      case run1 => intro K hK; go_simp; exact hK
      case ev1 => simp [go_sem, *]
      try walk_nrm
      co_applyP (anyX_take hB hQ (i := 2) rfl (by kernel_rfl) (by kernel_rfl) (by kernel_rfl) (.inl ⟨by rfl, fun _ => ⟨run_eq_of ?run2, ?ev2⟩⟩) ?go2)
      case run2 => intro K hK; go_simp; exact hK
      case ev2 => simp [go_sem, *]
      try walk_nrm
      co_applyP (anyX_take hB hQ (i := 3) rfl (by kernel_rfl) (by kernel_rfl) (by kernel_rfl) (.inl ⟨by rfl, fun _ => ⟨run_eq_of ?run3, ?ev3⟩⟩) ?go3)
      case run3 => intro K hK; go_simp; exact hK
      case ev3 => simp [go_sem, *]
      try walk_nrm
      co_applyP (anyX_take hB hQ (i := 4) rfl (by kernel_rfl) (by kernel_rfl) (by kernel_rfl) (.inl ⟨by rfl, fun _ => ⟨run_eq_of ?run4, ?ev4⟩⟩) ?go4)
      case run4 => intro K hK; go_simp; exact hK
      case ev4 => simp [go_sem, events_sliceAt_h, *]
      try walk_nrm
      co_applyP (anyX_take hB hQ (i := 7) rfl (by kernel_rfl) (by kernel_rfl) (by kernel_rfl) (.inl ⟨by rfl, fun _ => ⟨run_eq_of ?run7, ?ev7⟩⟩) ?go7)
      case run7 => intro K hK; go_simp; exact hK
      case ev7 => simp [go_sem, *]
      try walk_nrm
      co_applyP (anyX_take hB hQ (i := 8) rfl (by kernel_rfl) (by kernel_rfl) (by kernel_rfl) (.inl ⟨by rfl, fun _ => ⟨run_eq_of ?run8, ?ev8⟩⟩) ?go8)
      case run8 => intro K hK; go_simp; exact hK
      case ev8 => simp [go_sem, *]
      try walk_nrm
      co_applyP (anyX_take hB hQ (i := 9) rfl (by kernel_rfl) (by kernel_rfl) (by kernel_rfl) (.inl ⟨by rfl, fun _ => ⟨run_eq_of ?run9, ?ev9⟩⟩) ?go9)
      case run9 => intro K hK; go_simp; exact hK
      case ev9 => simp [go_sem, *]
      try walk_nrm
      co_applyP (anyX_take hB hQ (i := 10) rfl (by kernel_rfl) (by kernel_rfl) (by kernel_rfl) (.inl ⟨by rfl, fun _ => ⟨run_eq_of ?run10, ?ev10⟩⟩) ?go10)
      case run10 => intro K hK; go_simp; exact hK
      case ev10 => simp [go_sem, *]
      try walk_nrm
      co_applyP (anyX_take hB hQ (i := 11) rfl (by kernel_rfl) (by kernel_rfl) (by kernel_rfl) (.inl ⟨by rfl, fun _ => ⟨run_eq_of ?run11, ?ev11⟩⟩) ?go11)
      case run11 => intro K hK; go_simp; exact hK
      case ev11 => simp [go_sem, events_sliceAt_l, *]
      try walk_nrm
      refine anyX_all (rs := [5]) (by kernel_rfl) (by simp) fun q hq => ?_
      simp only [List.mem_cons, List.not_mem_nil, or_false] at hq
      subst hq
      apply opX_call rfl (by rfl) rfl
      focus
        (try walk_nrm)
        exact copied_x hB (hN.take (m := q) (by omega)) (by rw [List.length_take]; omega)
      rintro v1 s1 w1 h1
      try walk_nrm
      refine anyX_all (rs := [6]) (by kernel_rfl) (by simp) fun q hq => ?_
      simp only [List.mem_cons, List.not_mem_nil, or_false] at hq
      subst hq
      apply opX_call rfl (by rfl) rfl
      focus
        (try walk_nrm)
        exact IH _ (by have := hn.out; rw [List.length_take]; omega) rfl (by rw [List.length_take]; omega) h1.nums
      rintro v2 s2 w2 ⟨la, na, pa, sa, r2⟩
      have r20 := h1.rl.trans hB r2
      try walk_nrm
      refine anyX_all (rs := [12]) (by kernel_rfl) (by simp) fun q hq => ?_
      simp only [List.mem_cons, List.not_mem_nil, or_false] at hq
      subst hq
      apply opX_call rfl (by rfl) rfl
      focus
        (try walk_nrm)
        exact copied_x hB ((hN.rely r20).drop (m := q) (by omega) (fun hm => if_neg (by omega))) (by rw [List.length_drop]; omega)
      rintro v3 s3 w3 h3
      have r30 := r20.trans hB h3.rl
      replace na := na.rely h3.rl
      try walk_nrm
      refine anyX_all (rs := [13]) (by kernel_rfl) (by simp) fun q hq => ?_
      simp only [List.mem_cons, List.not_mem_nil, or_false] at hq
      subst hq
      apply opX_call rfl (by rfl) rfl
      focus
        (try walk_nrm)
        exact IH _ (by have := hn.out; rw [List.length_drop]; omega) rfl (by rw [List.length_drop]; omega) h3.nums
      rintro v4 s4 w4 ⟨lb, nb, pb, sb, r4⟩
      have r40 := r30.trans hB r4
      replace na := na.rely r4
      clear h1 h3 r2 r20 r30 r4
      try walk_nrm
      co_applyP (anyX_take hB hQ (i := 14) rfl (by kernel_rfl) (by kernel_rfl) (by kernel_rfl) (.inl ⟨by rfl, fun _ => ⟨run_eq_of ?run14, ?ev14⟩⟩) ?go14)
      case run14 => intro K hK; go_simp; exact hK
      case ev14 => simp [go_sem, *]
      try walk_nrm
      co_applyP (anyX_take hB hQ (i := 15) rfl (by kernel_rfl) (by kernel_rfl) (by kernel_rfl) (.inl ⟨by rfl, fun _ => ⟨run_eq_of ?run15, ?ev15⟩⟩) ?go15)
      case run15 => intro K hK; go_simp; exact hK
      case ev15 => simp [go_sem, *]
      try walk_nrm
      refine anyX_done (by kernel_rfl) ⟨_, _, _, la, lb, rfl, rfl, rfl, rfl, na, nb, ?_, sa, sb, r40⟩ _
      have := pa.append pb
      rwa [List.take_append_drop] at this
    · clear hN
      rintro _ s w ⟨T, va, vb, la, lb, rfl, hT, t3, t4, na, nb, hpm, hsa, hsb, hrl⟩
      exact sorted_merge hB hl hT t3 t4 na nb hpm hsa hsb ⟨_, _, _, rfl⟩ fun v' s' w' ⟨l', h1, h2, h3, h4⟩ => hret v' s' w' ⟨l', h1, h2, h3, hrl.trans hB h4⟩
end
end Go.Proofs.Ytbamamkjmfkghaa.Crw
