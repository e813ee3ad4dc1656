/- A crowd pushes: Crowd, by a contract of the starter: how many values; refused; its beginning; the loop that starts those who push.
No condition. -/
import Derived.Test.YtbamamkjmfkghaaVk
import Derived.Conc.WgWords
set_option linter.unusedSimpArgs false
set_option linter.unusedVariables false
namespace Go.Proofs.Ytbamamkjmfkghaa.Crw
open Go Go.Conc Go.RowKit Go.Conc.Lib Go.ConcR.Gen
open Go.ConcN (upd upd_same upd_ne)
open Go.ConcR (stA smA KK WgAt wgBlock rd wr mk)
set_option linter.unusedVariables false
set_option maxRecDepth 100000
set_option maxHeartbeats 4000000
theorem ev_store_ptr (P : Program) (x : Option Addr) (ad : Addr) (w : World) (m : Go.Mode) (es : Array Event) : (store ad (.pointer x) m).events P w es = storedEv P w es ad (.pointer x) m := events_store P w es ad _ m rfl
theorem ev_store_slc (P : Program) (x : Option Addr) (l c : Nat) (ad : Addr) (w : World) (m : Go.Mode) (es : Array Event) : (store ad (.slice x l c) m).events P w es = storedEv P w es ad (.slice x l c) m := events_store P w es ad _ m rfl

/-- How many values there are, as the machine counts. -/
def wsum (ls : List (List Int)) : Int := ls.foldl (fun n l => IntKind.i64.wrap (n + l.length)) 0
theorem wsum_succ {ls : List (List Int)} {i : Nat} (h : i < ls.length) : wsum (ls.take (i + 1)) = IntKind.i64.wrap (wsum (ls.take i) + ls[i].length) := by
  unfold wsum
  rw [List.take_add_one, List.getElem?_eq_getElem h, List.foldl_append]
  rfl
theorem wsum_small {ls : List (List Int)} (hl : ls.length ≤ 64) (hs : ∀ l ∈ ls, l.length ≤ 17592186044416) : wsum ls = ls.flatten.length := by
  have key : ∀ i, i ≤ ls.length → wsum (ls.take i) = (ls.take i).flatten.length ∧ (ls.take i).flatten.length ≤ i * 17592186044416 := by
    intro i
    induction i with
    | zero => intro _; simp [wsum]
    | succ i ih =>
      intro hi
      obtain ⟨e, hle⟩ := ih (by omega)
      have hlt : i < ls.length := by omega
      have h1 := hs _ (List.getElem_mem hlt)
      have e2 : (ls.take (i + 1)).flatten.length = (ls.take i).flatten.length + ls[i].length := by
        rw [List.take_add_one, List.getElem?_eq_getElem hlt, List.flatten_append, List.length_append]
        simp
      have hb : i * 17592186044416 ≤ 64 * 17592186044416 := Nat.mul_le_mul_right _ (by omega)
      have hc : (i + 1) * 17592186044416 = i * 17592186044416 + 17592186044416 := Nat.succ_mul _ _
      refine ⟨?_, by rw [e2]; omega⟩
      rw [wsum_succ hlt, e, e2, IntKind.wrap_i64]
      omega
  have := (key ls.length (Nat.le_refl _)).1
  rwa [List.take_length] at this
/-- Why a crowd may not be. -/
def refused (ls : List (List Int)) : Int := if 64 < ls.length ∨ 65536 < wsum ls then 2 else 0

section
variable {E : Env} {Post : Value → World → Prop} {s s' s₀ s₁ : St cellU} {w w' w₀ w₁ : World} {Child : Sit (proto Try.prog cellU E Post)}

theorem crowd_sum (hB : cellU.Laws) {N : Nat} {ls : List (List Int)} {A : Option Addr} {cap : Nat} {F : St cellU → World → Prop} (hst : ∀ {s w s₁ w₁}, F s w → Rl 0 s w s₁ w₁ → F s₁ w₁) (hls : ∀ {s w}, F s w → Lists N ls (.slice A ls.length cap) s w)
    (hlen : ls.length ≤ 17592186044416) (hF : F s₀ w₀) {cal : Frame} {cs : List Frame}
    (hnext : ∀ (a : Act) (s : St cellU) (w : World), F s w → a.defers = [] → a.tmps.size = 70 → a.tmps[0]? = some (.slice A ls.length cap) → a.tmps[2]? = some (.slice none 0 0) → a.tmps[3]? = some (.int .i64 0) → a.tmps[4]? = some (.int .i64 (wsum ls)) →
      ∀ c, (∃ c1 c2 c3, Try.f4.body = some (.seq c1 (.seq c2 (.seq c3 c)))) → RR Try.prog cellU E Post Child 0 (G ((base 4).at a [.code c]) (cal :: cs)) s w) :
    RR Try.prog cellU E Post Child 0 (G ((base 4).at { tmps := #[.slice A ls.length cap] ++ Array.replicate (Try.f4.ntmps - 1) undef, defers := [] } [.code (Try.f4.body.getD .skip)]) (cal :: cs)) s₀ w₀ := by
  simp only [Try.f4, Option.some.injEq] at hnext
  simp only [Try.f4, Option.getD_some]
  walk_nrm
  repeat (first | ((with_reducible refine gd_op ?_); first | (refine rr_pure' hB rfl (by rfl) (by k_ne) (by rfl) (fun w₁ => by first | (simp [go_sem]; done) | simp [go_sem, *]) (fun w₁ K hK => ?_); go_simp; refine hK _ ?_; clear hK K w₁; try walk_nrm) | (refine rr_ctl hB rfl (fun _ => stepG_unwanted rfl rfl) ?_; try walk_nrm)) | ((with_reducible refine gd_rend ?_); (refine rr_regend hB hKr ?_; clear hKr Kr)) | ((with_reducible refine gd_seq ?_); refine rr_ctl hB rfl (fun _ => stepG_seq) ?_) | ((with_reducible refine gd_reg ?_); (refine rr_reg hB (fun Kr hKr => ?_); simp only [List.size_toArray, List.length_cons, List.length_nil, Nat.reduceAdd, Nat.zero_add, List.range, List.range.loop])) | ((with_reducible refine gd_skip ?_); refine rr_ctl hB rfl (fun _ => stepG_skip) ?_) | ((with_reducible refine gd_block ?_); refine rr_ctl hB rfl (fun _ => stepG_block) ?_) | ((with_reducible refine gd_inb ?_); refine rr_ctl hB rfl (fun _ => stepG_inBlock) ?_) | ((with_reducible refine gd_ret ?_); refine rr_ctl hB rfl (fun _ => stepG_ret') ?_) | ((with_reducible refine gd_exit ?_); refine rr_ctl hB rfl (fun _ => stepG_exit rfl) ?_) | ((with_reducible refine gd_end ?_); refine rr_ctl hB rfl (fun _ => stepG_end) ?_))
  refine rr_loop hB (fun m a s w => ∃ T i, a = ⟨T, []⟩ ∧ T.size = 70 ∧ T[0]? = some (.slice A ls.length cap) ∧ T[2]? = some (.slice none 0 0) ∧ T[3]? = some (.int .i64 0) ∧ T[4]? = some (.int .i64 (wsum (ls.take i))) ∧ T[14]? = some (.slice A ls.length cap) ∧ T[15]? = some (.int .i64 ls.length) ∧ T[16]? = some (.int .i64 (i : Nat)) ∧ i ≤ ls.length ∧ m = ls.length - i ∧ F s w) ls.length
    ⟨_, 0, rfl, rfl, rfl, rfl, rfl, rfl, rfl, rfl, rfl, Nat.zero_le _, rfl, hF⟩ ?_
  clear hF
  rintro m a s w ⟨T, i, rfl, hT, t0, t2, t3, t4, t14, t15, t16, hle, rfl, hF⟩ ih
  obtain ⟨T⟩ := T
  ((iterate 70 (rcases T with _ | ⟨_, T⟩; focus (simp at hT))); rcases T with _ | ⟨_, _⟩; rotate_left; focus (simp at hT))
  simp only [List.getElem?_toArray, List.getElem?_cons_succ, List.getElem?_cons_zero, Option.some.injEq] at t0 t2 t3 t4 t14 t15 t16
  subst t0 t2 t3 t4 t14 t15 t16
  have hw1 : IntKind.i64.wrap ((i : Int) + 1) = ((i + 1 : Nat) : Int) := by rw [IntKind.wrap_i64]; omega
  repeat (first | ((with_reducible refine gd_op ?_); first | (refine rr_pure' hB rfl (by rfl) (by k_ne) (by rfl) (fun w₁ => by first | (simp [go_sem]; done) | simp [go_sem, *]) (fun w₁ K hK => ?_); go_simp; refine hK _ ?_; clear hK K w₁; try walk_nrm) | (refine rr_ctl hB rfl (fun _ => stepG_unwanted rfl rfl) ?_; try walk_nrm)) | ((with_reducible refine gd_rend ?_); (refine rr_regend hB hKr ?_; clear hKr Kr)) | ((with_reducible refine gd_seq ?_); refine rr_ctl hB rfl (fun _ => stepG_seq) ?_) | ((with_reducible refine gd_reg ?_); (refine rr_reg hB (fun Kr hKr => ?_); simp only [List.size_toArray, List.length_cons, List.length_nil, Nat.reduceAdd, Nat.zero_add, List.range, List.range.loop])) | ((with_reducible refine gd_skip ?_); refine rr_ctl hB rfl (fun _ => stepG_skip) ?_) | ((with_reducible refine gd_block ?_); refine rr_ctl hB rfl (fun _ => stepG_block) ?_) | ((with_reducible refine gd_inb ?_); refine rr_ctl hB rfl (fun _ => stepG_inBlock) ?_) | ((with_reducible refine gd_ret ?_); refine rr_ctl hB rfl (fun _ => stepG_ret') ?_) | ((with_reducible refine gd_exit ?_); refine rr_ctl hB rfl (fun _ => stepG_exit rfl) ?_) | ((with_reducible refine gd_end ?_); refine rr_ctl hB rfl (fun _ => stepG_end) ?_))
  by_cases hlt : i < ls.length
  · have hk2 : 0 ≤ (i : Int) ∧ (i : Int) < ls.length := ⟨by omega, by omega⟩
    obtain ⟨g, _, rfl, _⟩ := (hls hF).cell hlt
    have hsucc := wsum_succ hlt
    (refine rr_ctl hB rfl (fun _ => stepG_cond (t := true) (by first | rfl | (simp [Act.eval, *]))) ?_; simp only [if_true, if_false, Bool.false_eq_true, ↓reduceIte])
    repeat (first | ((with_reducible refine gd_op ?_); first | (refine rr_pure' hB rfl (by rfl) (by k_ne) (by rfl) (fun w₁ => by first | (simp [go_sem]; done) | simp [go_sem, *]) (fun w₁ K hK => ?_); go_simp; refine hK _ ?_; clear hK K w₁; try walk_nrm) | (refine rr_ctl hB rfl (fun _ => stepG_unwanted rfl rfl) ?_; try walk_nrm)) | ((with_reducible refine gd_rend ?_); (refine rr_regend hB hKr ?_; clear hKr Kr)) | ((with_reducible refine gd_seq ?_); refine rr_ctl hB rfl (fun _ => stepG_seq) ?_) | ((with_reducible refine gd_reg ?_); (refine rr_reg hB (fun Kr hKr => ?_); simp only [List.size_toArray, List.length_cons, List.length_nil, Nat.reduceAdd, Nat.zero_add, List.range, List.range.loop])) | ((with_reducible refine gd_skip ?_); refine rr_ctl hB rfl (fun _ => stepG_skip) ?_) | ((with_reducible refine gd_block ?_); refine rr_ctl hB rfl (fun _ => stepG_block) ?_) | ((with_reducible refine gd_inb ?_); refine rr_ctl hB rfl (fun _ => stepG_inBlock) ?_) | ((with_reducible refine gd_ret ?_); refine rr_ctl hB rfl (fun _ => stepG_ret') ?_) | ((with_reducible refine gd_exit ?_); refine rr_ctl hB rfl (fun _ => stepG_exit rfl) ?_) | ((with_reducible refine gd_end ?_); refine rr_ctl hB rfl (fun _ => stepG_end) ?_))
    refine rr_oper rfl (by rfl) (by k_ne) (fun s₁ w₁ hR hI K hK => ?_)
    replace hF := hst hF hR
    clear hR
    obtain ⟨g', vi, e, h1, h2, h3, hv⟩ := (hls hF).cell hlt
    cases e
    go_simp
    refine hK _ _ ⟨s₁, mv_rd (.inl rfl) (fun e he => ?_), .refl _, ?_⟩
    · have hm := mem_listed he
      simp [go_sem, *] at hm
      subst hm
      exact ⟨_, rfl, h2, h3⟩
    clear hK K h1 h2 h3
    try walk_nrm
    obtain ⟨Ai, ci, rfl, _⟩ := id hv
    clear hv
    repeat (first | ((with_reducible refine gd_op ?_); first | (refine rr_pure' hB rfl (by rfl) (by k_ne) (by rfl) (fun w₁ => by first | (simp [go_sem]; done) | simp [go_sem, *]) (fun w₁ K hK => ?_); go_simp; refine hK _ ?_; clear hK K w₁; try walk_nrm) | (refine rr_ctl hB rfl (fun _ => stepG_unwanted rfl rfl) ?_; try walk_nrm)) | ((with_reducible refine gd_rend ?_); (refine rr_regend hB hKr ?_; clear hKr Kr)) | ((with_reducible refine gd_seq ?_); refine rr_ctl hB rfl (fun _ => stepG_seq) ?_) | ((with_reducible refine gd_reg ?_); (refine rr_reg hB (fun Kr hKr => ?_); simp only [List.size_toArray, List.length_cons, List.length_nil, Nat.reduceAdd, Nat.zero_add, List.range, List.range.loop])) | ((with_reducible refine gd_skip ?_); refine rr_ctl hB rfl (fun _ => stepG_skip) ?_) | ((with_reducible refine gd_block ?_); refine rr_ctl hB rfl (fun _ => stepG_block) ?_) | ((with_reducible refine gd_inb ?_); refine rr_ctl hB rfl (fun _ => stepG_inBlock) ?_) | ((with_reducible refine gd_ret ?_); refine rr_ctl hB rfl (fun _ => stepG_ret') ?_) | ((with_reducible refine gd_exit ?_); refine rr_ctl hB rfl (fun _ => stepG_exit rfl) ?_) | ((with_reducible refine gd_end ?_); refine rr_ctl hB rfl (fun _ => stepG_end) ?_))
    refine rr_ctl hB rfl (fun _ => stepG_inLoop) ?_
    exact ih (ls.length - (i + 1)) _ _ _ (by omega) ⟨_, i + 1, rfl, rfl, rfl, rfl, rfl, by rw [hsucc]; rfl, rfl, rfl, rfl, by omega, rfl, hF⟩
  · have hil : ls.take i = ls := List.take_of_length_le (by omega)
    rw [hil]
    (refine rr_ctl hB rfl (fun _ => stepG_cond (t := false) (by first | rfl | (simp [Act.eval, *]))) ?_; simp only [if_true, if_false, Bool.false_eq_true, ↓reduceIte])
    refine rr_ctl hB rfl (fun _ => stepG_exit rfl) ?_
    exact hnext _ _ _ hF rfl rfl rfl rfl rfl rfl _ ⟨_, _, _, rfl⟩

theorem crowd_refused (hB : cellU.Laws) {ls : List (List Int)} {A : Option Addr} {cap : Nat} (hl : Lists w₀.heap.size ls (.slice A ls.length cap) s₀ w₀) (hlen : ls.length ≤ 17592186044416) (hr : refused ls ≠ 0) :
    CallX Try.prog cellU E Post Child 0 4 #[.slice A ls.length cap] s₀ w₀ (fun v s' w' => v = .tuple #[.slice none 0 0, .int .i64 (refused ls)] ∧ Rl 0 s₀ w₀ s' w') := by
  refine ⟨Try.f4, _, Try.func4, by kernel_rfl, rfl, fun cal cs hret => ?_⟩
  refine crowd_sum hB (F := fun s w => Rl 0 s₀ w₀ s w ∧ Lists w₀.heap.size ls (.slice A ls.length cap) s w) (fun h r => ⟨h.1.trans hB r, h.2.map fun _ _ _ _ x => x.rely r⟩) (fun h => h.2) hlen ⟨.refl hB _ _ _, hl⟩ ?_
  rintro ⟨⟨T⟩, ds⟩ s w ⟨hF, -⟩ hd hT t0 t2 t3 t4 c ⟨c1, c2, c3, hc⟩
  simp only [Try.f4, Option.some.injEq, Code.seq.injEq] at hc
  obtain ⟨-, -, -, rfl⟩ := hc
  simp only at hd hT t0 t2 t3 t4
  subst hd
  ((iterate 70 (rcases T with _ | ⟨_, T⟩; focus (simp at hT))); rcases T with _ | ⟨_, _⟩; rotate_left; focus (simp at hT))
  simp only [List.getElem?_toArray, List.getElem?_cons_succ, List.getElem?_cons_zero, Option.some.injEq] at t0 t2 t3 t4
  subst t0 t2 t3 t4
  unfold refused at hr hret
  have h0 : 64 < ls.length ∨ 65536 < wsum ls := by
    by_cases h : 64 < ls.length ∨ 65536 < wsum ls
    · exact h
    · exact absurd (if_neg h) hr
  rw [if_pos h0] at hret
  generalize wsum ls = n at *
  by_cases h1 : 64 < ls.length
  · have h1' : (64 : Int) < (ls.length : Int) := by omega
    repeat (first | ((with_reducible refine gd_op ?_); first | (refine rr_pure' hB rfl (by rfl) (by k_ne) (by rfl) (fun w₁ => by first | (simp [go_sem]; done) | simp [go_sem, *]) (fun w₁ K hK => ?_); go_simp; refine hK _ ?_; clear hK K w₁; try walk_nrm) | (refine rr_ctl hB rfl (fun _ => stepG_unwanted rfl rfl) ?_; try walk_nrm)) | ((with_reducible refine gd_rend ?_); (refine rr_regend hB hKr ?_; clear hKr Kr)) | ((with_reducible refine gd_seq ?_); refine rr_ctl hB rfl (fun _ => stepG_seq) ?_) | ((with_reducible refine gd_reg ?_); (refine rr_reg hB (fun Kr hKr => ?_); simp only [List.size_toArray, List.length_cons, List.length_nil, Nat.reduceAdd, Nat.zero_add, List.range, List.range.loop])) | ((with_reducible refine gd_skip ?_); refine rr_ctl hB rfl (fun _ => stepG_skip) ?_) | ((with_reducible refine gd_block ?_); refine rr_ctl hB rfl (fun _ => stepG_block) ?_) | ((with_reducible refine gd_inb ?_); refine rr_ctl hB rfl (fun _ => stepG_inBlock) ?_) | ((with_reducible refine gd_ret ?_); refine rr_ctl hB rfl (fun _ => stepG_ret') ?_) | ((with_reducible refine gd_exit ?_); refine rr_ctl hB rfl (fun _ => stepG_exit rfl) ?_) | ((with_reducible refine gd_end ?_); refine rr_ctl hB rfl (fun _ => stepG_end) ?_))
    (refine rr_ctl hB rfl (fun _ => stepG_cond (t := true) (by first | rfl | (simp [Act.eval, *]))) ?_; simp only [if_true, if_false, Bool.false_eq_true, ↓reduceIte])
    repeat (first | ((with_reducible refine gd_op ?_); first | (refine rr_pure' hB rfl (by rfl) (by k_ne) (by rfl) (fun w₁ => by first | (simp [go_sem]; done) | simp [go_sem, *]) (fun w₁ K hK => ?_); go_simp; refine hK _ ?_; clear hK K w₁; try walk_nrm) | (refine rr_ctl hB rfl (fun _ => stepG_unwanted rfl rfl) ?_; try walk_nrm)) | ((with_reducible refine gd_rend ?_); (refine rr_regend hB hKr ?_; clear hKr Kr)) | ((with_reducible refine gd_seq ?_); refine rr_ctl hB rfl (fun _ => stepG_seq) ?_) | ((with_reducible refine gd_reg ?_); (refine rr_reg hB (fun Kr hKr => ?_); simp only [List.size_toArray, List.length_cons, List.length_nil, Nat.reduceAdd, Nat.zero_add, List.range, List.range.loop])) | ((with_reducible refine gd_skip ?_); refine rr_ctl hB rfl (fun _ => stepG_skip) ?_) | ((with_reducible refine gd_block ?_); refine rr_ctl hB rfl (fun _ => stepG_block) ?_) | ((with_reducible refine gd_inb ?_); refine rr_ctl hB rfl (fun _ => stepG_inBlock) ?_) | ((with_reducible refine gd_ret ?_); refine rr_ctl hB rfl (fun _ => stepG_ret') ?_) | ((with_reducible refine gd_exit ?_); refine rr_ctl hB rfl (fun _ => stepG_exit rfl) ?_) | ((with_reducible refine gd_end ?_); refine rr_ctl hB rfl (fun _ => stepG_end) ?_))
    (refine rr_leave hB rfl rfl Try.func4 (fun w => ⟨results_tmp2 rfl _ _ w, events_results_tmp2 rfl _ _⟩) ?_)
    exact hret _ _ _ ⟨rfl, hF⟩
  · have h1' : ¬ (64 : Int) < (ls.length : Int) := by omega
    have h2 : 65536 < n := by omega
    repeat (first | ((with_reducible refine gd_op ?_); first | (refine rr_pure' hB rfl (by rfl) (by k_ne) (by rfl) (fun w₁ => by first | (simp [go_sem]; done) | simp [go_sem, *]) (fun w₁ K hK => ?_); go_simp; refine hK _ ?_; clear hK K w₁; try walk_nrm) | (refine rr_ctl hB rfl (fun _ => stepG_unwanted rfl rfl) ?_; try walk_nrm)) | ((with_reducible refine gd_rend ?_); (refine rr_regend hB hKr ?_; clear hKr Kr)) | ((with_reducible refine gd_seq ?_); refine rr_ctl hB rfl (fun _ => stepG_seq) ?_) | ((with_reducible refine gd_reg ?_); (refine rr_reg hB (fun Kr hKr => ?_); simp only [List.size_toArray, List.length_cons, List.length_nil, Nat.reduceAdd, Nat.zero_add, List.range, List.range.loop])) | ((with_reducible refine gd_skip ?_); refine rr_ctl hB rfl (fun _ => stepG_skip) ?_) | ((with_reducible refine gd_block ?_); refine rr_ctl hB rfl (fun _ => stepG_block) ?_) | ((with_reducible refine gd_inb ?_); refine rr_ctl hB rfl (fun _ => stepG_inBlock) ?_) | ((with_reducible refine gd_ret ?_); refine rr_ctl hB rfl (fun _ => stepG_ret') ?_) | ((with_reducible refine gd_exit ?_); refine rr_ctl hB rfl (fun _ => stepG_exit rfl) ?_) | ((with_reducible refine gd_end ?_); refine rr_ctl hB rfl (fun _ => stepG_end) ?_))
    (refine rr_ctl hB rfl (fun _ => stepG_cond (t := true) (by first | rfl | (simp [Act.eval, *]))) ?_; simp only [if_true, if_false, Bool.false_eq_true, ↓reduceIte])
    repeat (first | ((with_reducible refine gd_op ?_); first | (refine rr_pure' hB rfl (by rfl) (by k_ne) (by rfl) (fun w₁ => by first | (simp [go_sem]; done) | simp [go_sem, *]) (fun w₁ K hK => ?_); go_simp; refine hK _ ?_; clear hK K w₁; try walk_nrm) | (refine rr_ctl hB rfl (fun _ => stepG_unwanted rfl rfl) ?_; try walk_nrm)) | ((with_reducible refine gd_rend ?_); (refine rr_regend hB hKr ?_; clear hKr Kr)) | ((with_reducible refine gd_seq ?_); refine rr_ctl hB rfl (fun _ => stepG_seq) ?_) | ((with_reducible refine gd_reg ?_); (refine rr_reg hB (fun Kr hKr => ?_); simp only [List.size_toArray, List.length_cons, List.length_nil, Nat.reduceAdd, Nat.zero_add, List.range, List.range.loop])) | ((with_reducible refine gd_skip ?_); refine rr_ctl hB rfl (fun _ => stepG_skip) ?_) | ((with_reducible refine gd_block ?_); refine rr_ctl hB rfl (fun _ => stepG_block) ?_) | ((with_reducible refine gd_inb ?_); refine rr_ctl hB rfl (fun _ => stepG_inBlock) ?_) | ((with_reducible refine gd_ret ?_); refine rr_ctl hB rfl (fun _ => stepG_ret') ?_) | ((with_reducible refine gd_exit ?_); refine rr_ctl hB rfl (fun _ => stepG_exit rfl) ?_) | ((with_reducible refine gd_end ?_); refine rr_ctl hB rfl (fun _ => stepG_end) ?_))
    (refine rr_leave hB rfl rfl Try.func4 (fun w => ⟨results_tmp2 rfl _ _ w, events_results_tmp2 rfl _ _⟩) ?_)
    exact hret _ _ _ ⟨rfl, hF⟩

theorem crowd_begin (hB : cellU.Laws) (hE : E.ty = 43) {ls : List (List Int)} (hls : ls.length ≤ 64) (hws : wsum ls ≤ 65536) {A : Option Addr} {cap : Nat} (hb : Begin s₀) (hl : Lists w₀.heap.size ls (.slice A ls.length cap) s₀ w₀) {cal : Frame} {cs : List Frame}
    (hnext : ∀ (a : Act) (Wg cv b : Nat) (s : St cellU) (w : World), CrIn w₀.heap.size ls Wg cv b (.slice A ls.length cap) 0 s w → a.defers = [] → a.tmps.size = 70 → a.tmps[0]? = some (.slice A ls.length cap) → a.tmps[7]? = some (.pointer (some ⟨cv, 0, none⟩)) → a.tmps[8]? = some (.pointer (some ⟨Wg, 0, none⟩)) →
      ∀ c, (∃ c1 c2 c3 c4 c5 c6, Try.f4.body = some (.seq c1 (.seq c2 (.seq c3 (.seq c4 (.seq c5 (.seq c6 c))))))) → RR Try.prog cellU E Post Child 0 (G ((base 4).at a [.code c]) (cal :: cs)) s w) :
    RR Try.prog cellU E Post Child 0 (G ((base 4).at { tmps := #[.slice A ls.length cap] ++ Array.replicate (Try.f4.ntmps - 1) undef, defers := [] } [.code (Try.f4.body.getD .skip)]) (cal :: cs)) s₀ w₀ := by
  simp only [Try.f4, Option.some.injEq] at hnext
  refine crowd_sum hB (F := fun s w => Begin s ∧ Lists w₀.heap.size ls (.slice A ls.length cap) s w ∧ w₀.heap.size ≤ w.heap.size) (fun h r => ⟨h.1.rely r, h.2.1.map fun _ _ _ _ x => x.rely r, Nat.le_trans h.2.2 r.size⟩) (fun h => h.2.1) (by omega) ⟨hb, hl, Nat.le_refl _⟩ ?_
  clear hb hl
  rintro ⟨⟨T⟩, ds⟩ s w hF hd hT t0 t2 t3 t4 c ⟨c1, c2, c3, hc⟩
  simp only [Try.f4, Option.some.injEq, Code.seq.injEq] at hc
  obtain ⟨-, -, -, rfl⟩ := hc
  simp only at hd hT t0 t2 t3 t4
  subst hd
  ((iterate 70 (rcases T with _ | ⟨_, T⟩; focus (simp at hT))); rcases T with _ | ⟨_, _⟩; rotate_left; focus (simp at hT))
  simp only [List.getElem?_toArray, List.getElem?_cons_succ, List.getElem?_cons_zero, Option.some.injEq] at t0 t2 t3 t4
  subst t0 t2 t3 t4
  have h1' : ¬ (64 : Int) < (ls.length : Int) := by omega
  have h2 : ¬ 65536 < wsum ls := by omega
  repeat (first | ((with_reducible refine gd_op ?_); first | (refine rr_pure' hB rfl (by rfl) (by k_ne) (by rfl) (fun w₁ => by first | (simp [go_sem]; done) | simp [go_sem, *]) (fun w₁ K hK => ?_); go_simp; refine hK _ ?_; clear hK K w₁; try walk_nrm) | (refine rr_ctl hB rfl (fun _ => stepG_unwanted rfl rfl) ?_; try walk_nrm)) | ((with_reducible refine gd_rend ?_); (refine rr_regend hB hKr ?_; clear hKr Kr)) | ((with_reducible refine gd_seq ?_); refine rr_ctl hB rfl (fun _ => stepG_seq) ?_) | ((with_reducible refine gd_reg ?_); (refine rr_reg hB (fun Kr hKr => ?_); simp only [List.size_toArray, List.length_cons, List.length_nil, Nat.reduceAdd, Nat.zero_add, List.range, List.range.loop])) | ((with_reducible refine gd_skip ?_); refine rr_ctl hB rfl (fun _ => stepG_skip) ?_) | ((with_reducible refine gd_block ?_); refine rr_ctl hB rfl (fun _ => stepG_block) ?_) | ((with_reducible refine gd_inb ?_); refine rr_ctl hB rfl (fun _ => stepG_inBlock) ?_) | ((with_reducible refine gd_ret ?_); refine rr_ctl hB rfl (fun _ => stepG_ret') ?_) | ((with_reducible refine gd_exit ?_); refine rr_ctl hB rfl (fun _ => stepG_exit rfl) ?_) | ((with_reducible refine gd_end ?_); refine rr_ctl hB rfl (fun _ => stepG_end) ?_))
  (refine rr_ctl hB rfl (fun _ => stepG_cond (t := false) (by first | rfl | (simp [Act.eval, *]))) ?_; simp only [if_true, if_false, Bool.false_eq_true, ↓reduceIte])
  repeat (first | ((with_reducible refine gd_op ?_); first | (refine rr_pure' hB rfl (by rfl) (by k_ne) (by rfl) (fun w₁ => by first | (simp [go_sem]; done) | simp [go_sem, *]) (fun w₁ K hK => ?_); go_simp; refine hK _ ?_; clear hK K w₁; try walk_nrm) | (refine rr_ctl hB rfl (fun _ => stepG_unwanted rfl rfl) ?_; try walk_nrm)) | ((with_reducible refine gd_rend ?_); (refine rr_regend hB hKr ?_; clear hKr Kr)) | ((with_reducible refine gd_seq ?_); refine rr_ctl hB rfl (fun _ => stepG_seq) ?_) | ((with_reducible refine gd_reg ?_); (refine rr_reg hB (fun Kr hKr => ?_); simp only [List.size_toArray, List.length_cons, List.length_nil, Nat.reduceAdd, Nat.zero_add, List.range, List.range.loop])) | ((with_reducible refine gd_skip ?_); refine rr_ctl hB rfl (fun _ => stepG_skip) ?_) | ((with_reducible refine gd_block ?_); refine rr_ctl hB rfl (fun _ => stepG_block) ?_) | ((with_reducible refine gd_inb ?_); refine rr_ctl hB rfl (fun _ => stepG_inBlock) ?_) | ((with_reducible refine gd_ret ?_); refine rr_ctl hB rfl (fun _ => stepG_ret') ?_) | ((with_reducible refine gd_exit ?_); refine rr_ctl hB rfl (fun _ => stepG_exit rfl) ?_) | ((with_reducible refine gd_end ?_); refine rr_ctl hB rfl (fun _ => stepG_end) ?_))
  (apply rr_call hB rfl (by rfl) (by k_ne) rfl; focus ((try walk_nrm); exact (new_x hB (A := fun s w => Begin s ∧ Lists w₀.heap.size ls (.slice A ls.length cap) s w ∧ w₀.heap.size ≤ w.heap.size) (Q := fun b s w => BegU w₀.heap.size ls b (.slice A ls.length cap) s w)
    (fun h r => ⟨h.1.rely r, h.2.1.map fun _ _ _ _ x => x.rely r, Nat.le_trans h.2.2 r.size⟩)
    (fun s w h hI => by
      obtain ⟨s', g1, g2, g3, g4, g5, g6, g7, g8⟩ := mv_head hI h.1 ls
      exact ⟨s', g1, g2, g5, g6, g7, g8, h.2.1.map fun _ _ _ _ x => x.up g3, Nat.le_trans h.2.2 g3.size, by rw [g4]; rfl, by rw [g4]; rfl, by rw [g4]; rfl, by rw [g4]; exact Nat.le_refl _⟩) hF)))
  clear hF
  rintro _ s w ⟨b, rfl, hF⟩
  walk_nrm
  repeat (first | ((with_reducible refine gd_op ?_); first | (refine rr_pure' hB rfl (by rfl) (by k_ne) (by rfl) (fun w₁ => by first | (simp [go_sem]; done) | simp [go_sem, *]) (fun w₁ K hK => ?_); go_simp; refine hK _ ?_; clear hK K w₁; try walk_nrm) | (refine rr_ctl hB rfl (fun _ => stepG_unwanted rfl rfl) ?_; try walk_nrm)) | ((with_reducible refine gd_rend ?_); (refine rr_regend hB hKr ?_; clear hKr Kr)) | ((with_reducible refine gd_seq ?_); refine rr_ctl hB rfl (fun _ => stepG_seq) ?_) | ((with_reducible refine gd_reg ?_); (refine rr_reg hB (fun Kr hKr => ?_); simp only [List.size_toArray, List.length_cons, List.length_nil, Nat.reduceAdd, Nat.zero_add, List.range, List.range.loop])) | ((with_reducible refine gd_skip ?_); refine rr_ctl hB rfl (fun _ => stepG_skip) ?_) | ((with_reducible refine gd_block ?_); refine rr_ctl hB rfl (fun _ => stepG_block) ?_) | ((with_reducible refine gd_inb ?_); refine rr_ctl hB rfl (fun _ => stepG_inBlock) ?_) | ((with_reducible refine gd_ret ?_); refine rr_ctl hB rfl (fun _ => stepG_ret') ?_) | ((with_reducible refine gd_exit ?_); refine rr_ctl hB rfl (fun _ => stepG_exit rfl) ?_) | ((with_reducible refine gd_end ?_); refine rr_ctl hB rfl (fun _ => stepG_end) ?_))
  refine rr_oper rfl (by rfl) (by k_ne) (fun s₁ w₁ hR hI K hK => ?_)
  replace hF := hF.rely hR
  clear hR
  go_simp
  refine hK _ _ ⟨_, mv_new_at (.inl rfl) _ (listed_nil (by simp [go_sem, *])), St.take_soft _ _ _ _, ?_⟩
  clear hK K
  have hO : Own 0 (s₁.take 0 w₁.heap.size (w₁.heap.size + 1)) (w₁.alloc (.cells #[.pointer none] 32)) w₁.heap.size 32 [.pointer none] := own_new s₁ w₁ [.pointer none] 32
  have hN : w₀.heap.size ≤ w₁.heap.size := hF.low
  replace hF := hF.up (up_new (.cells #[.pointer none] 32)) rfl rfl rfl rfl
  try walk_nrm
  generalize w₁.heap.size = cv at *
  refine rr_oper rfl (by rfl) (by k_ne) (fun s₁ w₁ hR hI K hK => ?_)
  replace hF := hF.rely hR
  replace hO := hO.rely hR
  clear hR
  have h0 := hO.cell 0
  have z0 := hO.frozen 0
  simp only [List.getElem?_cons_zero] at h0
  go_simp
  refine hK _ _ ⟨s₁, mv_set hI (.inl rfl) hO 0 _ (fun e he => ?_), .refl _, ?_⟩
  · have hm := mem_listed he
    simp [go_sem, ev_store_ptr, storedEv, *] at hm
    exact hm
  clear hK K h0 z0
  replace hF := hF.set hO hN 0 (.pointer (some ⟨b, 0, none⟩))
  replace hO := hO.set 0 (.pointer (some ⟨b, 0, none⟩))
  simp only [List.set_cons_zero] at hO
  try walk_nrm
  repeat (first | ((with_reducible refine gd_op ?_); first | (refine rr_pure' hB rfl (by rfl) (by k_ne) (by rfl) (fun w₁ => by first | (simp [go_sem]; done) | simp [go_sem, *]) (fun w₁ K hK => ?_); go_simp; refine hK _ ?_; clear hK K w₁; try walk_nrm) | (refine rr_ctl hB rfl (fun _ => stepG_unwanted rfl rfl) ?_; try walk_nrm)) | ((with_reducible refine gd_rend ?_); (refine rr_regend hB hKr ?_; clear hKr Kr)) | ((with_reducible refine gd_seq ?_); refine rr_ctl hB rfl (fun _ => stepG_seq) ?_) | ((with_reducible refine gd_reg ?_); (refine rr_reg hB (fun Kr hKr => ?_); simp only [List.size_toArray, List.length_cons, List.length_nil, Nat.reduceAdd, Nat.zero_add, List.range, List.range.loop])) | ((with_reducible refine gd_skip ?_); refine rr_ctl hB rfl (fun _ => stepG_skip) ?_) | ((with_reducible refine gd_block ?_); refine rr_ctl hB rfl (fun _ => stepG_block) ?_) | ((with_reducible refine gd_inb ?_); refine rr_ctl hB rfl (fun _ => stepG_inBlock) ?_) | ((with_reducible refine gd_ret ?_); refine rr_ctl hB rfl (fun _ => stepG_ret') ?_) | ((with_reducible refine gd_exit ?_); refine rr_ctl hB rfl (fun _ => stepG_exit rfl) ?_) | ((with_reducible refine gd_end ?_); refine rr_ctl hB rfl (fun _ => stepG_end) ?_))
  refine rr_oper rfl (by rfl) (by k_ne) (fun s₁ w₁ hR hI K hK => ?_)
  replace hF := hF.rely hR
  replace hO := hO.rely hR
  clear hR
  go_simp
  obtain ⟨s', g1, g2, g3, g4, g5, g6, g7⟩ := mv_group hE hI hF.off hF.n1 hF.df
  refine hK _ _ ⟨s', ?_, g2, ?_⟩
  · rw [listed_nil (by simp [go_sem, *])]
    exact g1
  clear hK K
  have hS : StF w₀.heap.size ls cv b (.slice A ls.length cap) 0 s' (w₁.alloc (.cells #[.int .u64 0, .int .u32 0] 43)) :=
    ⟨g5, g6.trans hF.hd, hO.rd0.up g3, hF.lst.map fun _ _ _ _ x => x.up g3, Nat.le_trans hF.low g3.size, by rw [g4]; exact hF.on, by rw [g4]; exact hF.ub, by rw [g4]; exact hF.ua, by rw [g4]; exact hF.ust⟩
  clear hF hO g1 g2 g3
  try walk_nrm
  (refine rr_regend hB hKr ?_; clear hKr Kr)
  exact hnext _ _ _ _ _ _ ⟨g7, hS⟩ rfl rfl rfl rfl rfl _ ⟨_, _, _, _, _, _, rfl⟩
end
end Go.Proofs.Ytbamamkjmfkghaa.Crw
