/- A crowd adds: the one who looks, to its end.
No condition. -/
import Derived.Test.YtiaebogolpcllaaVk
set_option linter.unusedSimpArgs false
set_option linter.unusedVariables false
namespace Go.Proofs.Ytiaebogolpcllaa.Crw
open Go Go.Conc Go.RowKit Go.Conc.Lib Go.ConcR.Gen
open Go.ConcN (upd upd_same upd_ne)
open Go.ConcR (stA smA KK WgAt wgBlock rd wr mk)
set_option linter.unusedVariables false
set_option maxRecDepth 100000
set_option maxHeartbeats 4000000

noncomputable def bodyLooker : Code := Try.f14.body.getD .skip
theorem mixed : Try.prog.follows .mixedOrders = true := by kernel_rfl
section
variable {E : Env} {Post : Value → World → Prop} {Child : Sit (proto Try.prog tallyU E Post)} {k : Nat} {s s' s₁ : St tallyU} {w w' w₁ : World}

/-- Behind a look, ahead of its being put down. -/
structure LkL (E : Env) (k Wg sv cv cb b n : Nat) (tb : TypeId) (sb m : Nat) (vs : List Int) (i : Nat) (u₀ : TU) (xs : List Int) (s : St tallyU) (w : World) : Prop where
  lk : LkF k Wg sv cv cb b n tb sb m vs i s w
  ru : tallyU.Ru k u₀ s.u
  sn : ∀ (j : Nat) x, xs[j]? = some x → Seen (B := tallyU) E k u₀ b j x s.u
theorem LkL.rely {Wg sv cv cb b n i sb m : Nat} {tb : TypeId} {vs xs : List Int} {u₀ : TU} (k1 : 1 ≤ k) (hB : tallyU.Laws) (h : LkL E k Wg sv cv cb b n tb sb m vs i u₀ xs s w) (r : Rl k s w s₁ w₁) : LkL E k Wg sv cv cb b n tb sb m vs i u₀ xs s₁ w₁ :=
  ⟨h.lk.rely k1 r, hB.trans h.ru r.ru, fun j x hx => (h.sn j x hx).on hB r.ru⟩

theorem born_looker (main : Bool) (a b c : Nat) (w : World) : stepG Try.prog main (born Try.prog (callOf 14 a b c)) w =
    .go (G ((baseD 14).at ⟨#[.pointer (some ⟨a, 0, none⟩), .pointer (some ⟨b, 0, none⟩), .pointer (some ⟨c, 0, none⟩), undef, undef, undef, undef, undef, undef, undef, undef, undef, undef, undef, undef], []⟩ [.code bodyLooker]) [bot]) w #[] := by
  simp [born, callOf, stepG, unwind, callDeferred, invoke, callFunc, Try.func14, Try.f14, seen, GStep.after, G, Frame.enter, Frame.at, baseD, bot, bodyLooker]

theorem quits_looker (T : Array Value) (todo : List Item) : QuitsD Try.prog 2 0 (G { (baseD 14).at ⟨T, []⟩ todo with mode := .returning } [bot]) := by
  refine QuitsD.ctl (g' := G bot []) rfl (fun w => ?_) ?_
  · simp [G, stepG, unwind, doReturn, results, Frame.at, baseD, bot, Try.func14, Try.f14, seen, GStep.after, goexitEntry]
  refine QuitsD.ctl (g' := { G bot [] with status := .finished }) rfl (fun w => ?_) ⟨rfl, rfl⟩
  simp [G, stepG, unwind, bot, goexitEntry, Frame.catches]
  rfl

theorem looker_runs (hB : tallyU.Laws) {Wg sv cv cb b n sb m : Nat} {tb : TypeId} {vs : List Int} (k1 : 1 ≤ k) (hn : 0 < n) (hn2 : n ≤ 64) (hlen : m ≤ maxLen) (hF : LkF k Wg sv cv cb b n tb sb m vs 0 s w) :
    RR Try.prog tallyU E Post Child k (born Try.prog (callOf 14 Wg sv cv)) s w := by
  refine rr_ctl hB rfl (fun _ => born_looker _ _ _ _ _) ?_
  simp only [bodyLooker, Try.f14, Option.getD_some]
  repeat (first | ((with_reducible refine gd_op ?_); first | (refine rr_pure' hB rfl (by rfl) (by k_ne) (by rfl) (fun w₁ => by first | (simp [go_sem]; done) | simp [go_sem, *]) (fun w₁ K hK => ?_); go_simp; refine hK _ ?_; clear hK K w₁; try walk_nrm) | (refine rr_ctl hB rfl (fun _ => stepG_unwanted rfl rfl) ?_; try walk_nrm)) | ((with_reducible refine gd_rend ?_); (refine rr_regend hB hKr ?_; clear hKr Kr)) | ((with_reducible refine gd_seq ?_); refine rr_ctl hB rfl (fun _ => stepG_seq) ?_) | ((with_reducible refine gd_reg ?_); (refine rr_reg hB (fun Kr hKr => ?_); simp only [List.size_toArray, List.length_cons, List.length_nil, Nat.reduceAdd, Nat.zero_add, List.range, List.range.loop])) | ((with_reducible refine gd_skip ?_); refine rr_ctl hB rfl (fun _ => stepG_skip) ?_) | ((with_reducible refine gd_block ?_); refine rr_ctl hB rfl (fun _ => stepG_block) ?_) | ((with_reducible refine gd_inb ?_); refine rr_ctl hB rfl (fun _ => stepG_inBlock) ?_) | ((with_reducible refine gd_ret ?_); refine rr_ctl hB rfl (fun _ => stepG_ret') ?_) | ((with_reducible refine gd_exit ?_); refine rr_ctl hB rfl (fun _ => stepG_exit rfl) ?_) | ((with_reducible refine gd_end ?_); refine rr_ctl hB rfl (fun _ => stepG_end) ?_))
  (refine rr_defer hB rfl (by rfl) (by k_ne) rfl ?_; walk_nrm)
  repeat (first | ((with_reducible refine gd_op ?_); first | (refine rr_pure' hB rfl (by rfl) (by k_ne) (by rfl) (fun w₁ => by first | (simp [go_sem]; done) | simp [go_sem, *]) (fun w₁ K hK => ?_); go_simp; refine hK _ ?_; clear hK K w₁; try walk_nrm) | (refine rr_ctl hB rfl (fun _ => stepG_unwanted rfl rfl) ?_; try walk_nrm)) | ((with_reducible refine gd_rend ?_); (refine rr_regend hB hKr ?_; clear hKr Kr)) | ((with_reducible refine gd_seq ?_); refine rr_ctl hB rfl (fun _ => stepG_seq) ?_) | ((with_reducible refine gd_reg ?_); (refine rr_reg hB (fun Kr hKr => ?_); simp only [List.size_toArray, List.length_cons, List.length_nil, Nat.reduceAdd, Nat.zero_add, List.range, List.range.loop])) | ((with_reducible refine gd_skip ?_); refine rr_ctl hB rfl (fun _ => stepG_skip) ?_) | ((with_reducible refine gd_block ?_); refine rr_ctl hB rfl (fun _ => stepG_block) ?_) | ((with_reducible refine gd_inb ?_); refine rr_ctl hB rfl (fun _ => stepG_inBlock) ?_) | ((with_reducible refine gd_ret ?_); refine rr_ctl hB rfl (fun _ => stepG_ret') ?_) | ((with_reducible refine gd_exit ?_); refine rr_ctl hB rfl (fun _ => stepG_exit rfl) ?_) | ((with_reducible refine gd_end ?_); refine rr_ctl hB rfl (fun _ => stepG_end) ?_))
  (refine rr_oper rfl (by rfl) (by k_ne) (fun s₁ w₁ hR hI K hK => ?_); replace hF := (LkF.rely k1) hF hR; clear hR; have := hF.sv.cell 0; go_simp; refine hK _ _ ⟨s₁, mv_rd (.inr hF.ws.rl) (fun e he => ?_), .refl _, ?_⟩; (focus (have hm := mem_listed he; simp [go_sem, *] at hm; (subst hm; exact ⟨_, rfl, hF.sv.md _ rfl, hF.sv.lt⟩))); clear hK K; try walk_nrm)
  repeat (first | ((with_reducible refine gd_op ?_); first | (refine rr_pure' hB rfl (by rfl) (by k_ne) (by rfl) (fun w₁ => by first | (simp [go_sem]; done) | simp [go_sem, *]) (fun w₁ K hK => ?_); go_simp; refine hK _ ?_; clear hK K w₁; try walk_nrm) | (refine rr_ctl hB rfl (fun _ => stepG_unwanted rfl rfl) ?_; try walk_nrm)) | ((with_reducible refine gd_rend ?_); (refine rr_regend hB hKr ?_; clear hKr Kr)) | ((with_reducible refine gd_seq ?_); refine rr_ctl hB rfl (fun _ => stepG_seq) ?_) | ((with_reducible refine gd_reg ?_); (refine rr_reg hB (fun Kr hKr => ?_); simp only [List.size_toArray, List.length_cons, List.length_nil, Nat.reduceAdd, Nat.zero_add, List.range, List.range.loop])) | ((with_reducible refine gd_skip ?_); refine rr_ctl hB rfl (fun _ => stepG_skip) ?_) | ((with_reducible refine gd_block ?_); refine rr_ctl hB rfl (fun _ => stepG_block) ?_) | ((with_reducible refine gd_inb ?_); refine rr_ctl hB rfl (fun _ => stepG_inBlock) ?_) | ((with_reducible refine gd_ret ?_); refine rr_ctl hB rfl (fun _ => stepG_ret') ?_) | ((with_reducible refine gd_exit ?_); refine rr_ctl hB rfl (fun _ => stepG_exit rfl) ?_) | ((with_reducible refine gd_end ?_); refine rr_ctl hB rfl (fun _ => stepG_end) ?_))
  refine rr_loop hB (fun q a s w => ∃ T i vs, a = ⟨T, [dcall 12 #[.pointer (some ⟨Wg, 0, none⟩)]]⟩ ∧ T.size = 15 ∧ T[0]? = some (.pointer (some ⟨Wg, 0, none⟩)) ∧ T[1]? = some (.pointer (some ⟨sv, 0, none⟩)) ∧ T[2]? = some (.pointer (some ⟨cv, 0, none⟩)) ∧ T[5]? = some (.int .i64 m) ∧ T[6]? = some (.int .i64 (i : Nat)) ∧ i ≤ m ∧ q = m - i ∧ LkF k Wg sv cv cb b n tb sb m vs i s w) m ⟨_, 0, vs, rfl, rfl, rfl, rfl, rfl, rfl, rfl, Nat.zero_le _, rfl, hF⟩ ?_
  clear hF vs
  rintro q a s w ⟨T, i, vs, rfl, hT, t0, t1, t2, t5, t6, hle, rfl, hF⟩ ih
  obtain ⟨T⟩ := T
  ((iterate 15 (rcases T with _ | ⟨_, T⟩; focus (simp at hT))); rcases T with _ | ⟨_, _⟩; rotate_left; focus (simp at hT))
  simp only [List.getElem?_toArray, List.getElem?_cons_succ, List.getElem?_cons_zero, Option.some.injEq] at t0 t1 t2 t5 t6
  subst t0 t1 t2 t5 t6
  simp only [maxLen] at hlen
  repeat (first | ((with_reducible refine gd_op ?_); first | (refine rr_pure' hB rfl (by rfl) (by k_ne) (by rfl) (fun w₁ => by first | (simp [go_sem]; done) | simp [go_sem, *]) (fun w₁ K hK => ?_); go_simp; refine hK _ ?_; clear hK K w₁; try walk_nrm) | (refine rr_ctl hB rfl (fun _ => stepG_unwanted rfl rfl) ?_; try walk_nrm)) | ((with_reducible refine gd_rend ?_); (refine rr_regend hB hKr ?_; clear hKr Kr)) | ((with_reducible refine gd_seq ?_); refine rr_ctl hB rfl (fun _ => stepG_seq) ?_) | ((with_reducible refine gd_reg ?_); (refine rr_reg hB (fun Kr hKr => ?_); simp only [List.size_toArray, List.length_cons, List.length_nil, Nat.reduceAdd, Nat.zero_add, List.range, List.range.loop])) | ((with_reducible refine gd_skip ?_); refine rr_ctl hB rfl (fun _ => stepG_skip) ?_) | ((with_reducible refine gd_block ?_); refine rr_ctl hB rfl (fun _ => stepG_block) ?_) | ((with_reducible refine gd_inb ?_); refine rr_ctl hB rfl (fun _ => stepG_inBlock) ?_) | ((with_reducible refine gd_ret ?_); refine rr_ctl hB rfl (fun _ => stepG_ret') ?_) | ((with_reducible refine gd_exit ?_); refine rr_ctl hB rfl (fun _ => stepG_exit rfl) ?_) | ((with_reducible refine gd_end ?_); refine rr_ctl hB rfl (fun _ => stepG_end) ?_))
  by_cases hlt : i < m
  · have hk2 : 0 ≤ (i : Int) ∧ (i : Int) < m := ⟨by omega, by omega⟩
    have hwi : IntKind.i64.wrap (i : Int) = (i : Int) := by rw [IntKind.wrap_i64]; omega
    have hw1 : IntKind.i64.wrap ((i : Int) + 1) = ((i + 1 : Nat) : Int) := by rw [IntKind.wrap_i64]; omega
    have hm0 : ¬ m = 0 := by omega
    have hm1 : ((m : Int) == 0) = false := by rw [beq_eq_false_iff_ne]; omega
    (refine rr_ctl hB rfl (fun _ => stepG_cond (t := true) (by first | rfl | (simp [Act.eval, *]))) ?_; simp only [if_true, if_false, Bool.false_eq_true, ↓reduceIte])
    repeat (first | ((with_reducible refine gd_op ?_); first | (refine rr_pure' hB rfl (by rfl) (by k_ne) (by rfl) (fun w₁ => by first | (simp [go_sem]; done) | simp [go_sem, *]) (fun w₁ K hK => ?_); go_simp; refine hK _ ?_; clear hK K w₁; try walk_nrm) | (refine rr_ctl hB rfl (fun _ => stepG_unwanted rfl rfl) ?_; try walk_nrm)) | ((with_reducible refine gd_rend ?_); (refine rr_regend hB hKr ?_; clear hKr Kr)) | ((with_reducible refine gd_seq ?_); refine rr_ctl hB rfl (fun _ => stepG_seq) ?_) | ((with_reducible refine gd_reg ?_); (refine rr_reg hB (fun Kr hKr => ?_); simp only [List.size_toArray, List.length_cons, List.length_nil, Nat.reduceAdd, Nat.zero_add, List.range, List.range.loop])) | ((with_reducible refine gd_skip ?_); refine rr_ctl hB rfl (fun _ => stepG_skip) ?_) | ((with_reducible refine gd_block ?_); refine rr_ctl hB rfl (fun _ => stepG_block) ?_) | ((with_reducible refine gd_inb ?_); refine rr_ctl hB rfl (fun _ => stepG_inBlock) ?_) | ((with_reducible refine gd_ret ?_); refine rr_ctl hB rfl (fun _ => stepG_ret') ?_) | ((with_reducible refine gd_exit ?_); refine rr_ctl hB rfl (fun _ => stepG_exit rfl) ?_) | ((with_reducible refine gd_end ?_); refine rr_ctl hB rfl (fun _ => stepG_end) ?_))
    refine rr_drawn hB (F := LkF k Wg sv cv cb b n tb sb m vs i) hF (fun h r => h.rely k1 r) mixed (os := [[0, 1, 2, 3, 4, 5], [0, 2, 1, 3, 4, 5], [0, 2, 3, 1, 4, 5], [1, 0, 2, 3, 4, 5], [1, 2, 0, 3, 4, 5], [1, 2, 3, 0, 4, 5], [2, 0, 1, 3, 4, 5], [2, 0, 3, 1, 4, 5], [2, 1, 0, 3, 4, 5], [2, 1, 3, 0, 4, 5], [2, 3, 0, 1, 4, 5], [2, 3, 1, 0, 4, 5]]) (by kernel_rfl) ?_
    clear hF
    intro s w hF lo hlo Kr hKr
    simp only [List.mem_cons, List.not_mem_nil, or_false] at hlo
    rcases hlo with rfl | rfl | rfl | rfl | rfl | rfl | rfl | rfl | rfl | rfl | rfl | rfl
    all_goals repeat first
      | (first | ((with_reducible refine gd_op ?_); first | (refine rr_pure' hB rfl (by rfl) (by k_ne) (by rfl) (fun w₁ => by first | (simp [go_sem]; done) | simp [go_sem, *]) (fun w₁ K hK => ?_); go_simp; refine hK _ ?_; clear hK K w₁; try walk_nrm) | (refine rr_ctl hB rfl (fun _ => stepG_unwanted rfl rfl) ?_; try walk_nrm)) | ((with_reducible refine gd_rend ?_); (refine rr_regend hB hKr ?_; clear hKr Kr)) | ((with_reducible refine gd_seq ?_); refine rr_ctl hB rfl (fun _ => stepG_seq) ?_) | ((with_reducible refine gd_reg ?_); (refine rr_reg hB (fun Kr hKr => ?_); simp only [List.size_toArray, List.length_cons, List.length_nil, Nat.reduceAdd, Nat.zero_add, List.range, List.range.loop])) | ((with_reducible refine gd_skip ?_); refine rr_ctl hB rfl (fun _ => stepG_skip) ?_) | ((with_reducible refine gd_block ?_); refine rr_ctl hB rfl (fun _ => stepG_block) ?_) | ((with_reducible refine gd_inb ?_); refine rr_ctl hB rfl (fun _ => stepG_inBlock) ?_) | ((with_reducible refine gd_ret ?_); refine rr_ctl hB rfl (fun _ => stepG_ret') ?_) | ((with_reducible refine gd_exit ?_); refine rr_ctl hB rfl (fun _ => stepG_exit rfl) ?_) | ((with_reducible refine gd_end ?_); refine rr_ctl hB rfl (fun _ => stepG_end) ?_))
      | ((refine rr_oper rfl (by rfl) (by k_ne) (fun s₁ w₁ hR hI K hK => ?_); replace hF := (LkF.rely k1) hF hR; clear hR; have := hF.sv.cell 0; have := hF.cv.cell 0; go_simp; refine hK _ _ ⟨s₁, mv_rd (.inr hF.ws.rl) (fun e he => ?_), .refl _, ?_⟩; (focus (have hm := mem_listed he; simp [go_sem, *] at hm; (subst hm; first | exact ⟨_, rfl, hF.sv.md _ rfl, hF.sv.lt⟩ | exact ⟨_, rfl, hF.cv.md _ rfl, hF.cv.lt⟩))); clear hK K; try walk_nrm))
      | ((refine rr_oper rfl (by rfl) (by k_ne) (fun s₁ w₁ hR hI K hK => ?_); replace hF := (LkL.rely k1 hB) hF hR; clear hR; have := hF.lk.sv.cell 0; have := hF.lk.cv.cell 0; go_simp; refine hK _ _ ⟨s₁, mv_rd (.inr hF.lk.ws.rl) (fun e he => ?_), .refl _, ?_⟩; (focus (have hm := mem_listed he; simp [go_sem, *] at hm; (subst hm; first | exact ⟨_, rfl, hF.lk.sv.md _ rfl, hF.lk.sv.lt⟩ | exact ⟨_, rfl, hF.lk.cv.md _ rfl, hF.lk.cv.lt⟩))); clear hK K; try walk_nrm))
      | (have h0 := hF
         (apply rr_call hB rfl (by rfl) (by k_ne) rfl; focus ((try walk_nrm); exact (sum_x hB (hF.ctr hn hn2))))
         rintro _ s' w' ⟨xs, hxn, rfl, hR, hsn⟩
         replace hF : LkL E k Wg sv cv cb b n tb sb m vs i _ xs s' w' := ⟨hF.rely k1 hR, hR.ru, hsn⟩
         clear hR hsn
         walk_nrm)
    all_goals
      refine rr_oper rfl (by rfl) (by k_ne) (fun s₁ w₁ hR hI K hK => ?_)
      replace hF := hF.rely k1 hB hR
      clear hR
      have hc := hF.lk.own.cell i
      have hz := hF.lk.own.frozen i
      rw [show (ints vs)[i]? = some (.int .i64 (vs[i]'(by rw [hF.lk.len]; exact hlt))) by simp [ints, List.getElem?_eq_getElem (show i < vs.length by rw [hF.lk.len]; exact hlt)]] at hc
      go_simp
      refine hK _ _ ⟨s₁, mv_set hI (.inr hF.lk.ws.rl) hF.lk.own i _ (fun e he => ?_), .refl _, ?_⟩
      · have hm := mem_listed he
        simp [go_sem, *] at hm
        exact hm
      clear hK K hc hz
      replace hF := h0.put hF.ru hF.lk hI hlt hxn hF.sn
      clear h0
      try walk_nrm
      repeat (first | ((with_reducible refine gd_op ?_); first | (refine rr_pure' hB rfl (by rfl) (by k_ne) (by rfl) (fun w₁ => by first | (simp [go_sem]; done) | simp [go_sem, *]) (fun w₁ K hK => ?_); go_simp; refine hK _ ?_; clear hK K w₁; try walk_nrm) | (refine rr_ctl hB rfl (fun _ => stepG_unwanted rfl rfl) ?_; try walk_nrm)) | ((with_reducible refine gd_rend ?_); (refine rr_regend hB hKr ?_; clear hKr Kr)) | ((with_reducible refine gd_seq ?_); refine rr_ctl hB rfl (fun _ => stepG_seq) ?_) | ((with_reducible refine gd_reg ?_); (refine rr_reg hB (fun Kr hKr => ?_); simp only [List.size_toArray, List.length_cons, List.length_nil, Nat.reduceAdd, Nat.zero_add, List.range, List.range.loop])) | ((with_reducible refine gd_skip ?_); refine rr_ctl hB rfl (fun _ => stepG_skip) ?_) | ((with_reducible refine gd_block ?_); refine rr_ctl hB rfl (fun _ => stepG_block) ?_) | ((with_reducible refine gd_inb ?_); refine rr_ctl hB rfl (fun _ => stepG_inBlock) ?_) | ((with_reducible refine gd_ret ?_); refine rr_ctl hB rfl (fun _ => stepG_ret') ?_) | ((with_reducible refine gd_exit ?_); refine rr_ctl hB rfl (fun _ => stepG_exit rfl) ?_) | ((with_reducible refine gd_end ?_); refine rr_ctl hB rfl (fun _ => stepG_end) ?_))
      refine rr_ctl hB rfl (fun _ => stepG_inLoop) ?_
      exact ih (m - (i + 1)) _ _ _ (by omega) ⟨_, i + 1, _, rfl, rfl, rfl, rfl, rfl, rfl, rfl, by omega, rfl, hF⟩
  · have him : i = m := by omega
    (refine rr_ctl hB rfl (fun _ => stepG_cond (t := false) (by first | rfl | (simp [Act.eval, *]))) ?_; simp only [if_true, if_false, Bool.false_eq_true, ↓reduceIte])
    repeat (first | ((with_reducible refine gd_op ?_); first | (refine rr_pure' hB rfl (by rfl) (by k_ne) (by rfl) (fun w₁ => by first | (simp [go_sem]; done) | simp [go_sem, *]) (fun w₁ K hK => ?_); go_simp; refine hK _ ?_; clear hK K w₁; try walk_nrm) | (refine rr_ctl hB rfl (fun _ => stepG_unwanted rfl rfl) ?_; try walk_nrm)) | ((with_reducible refine gd_rend ?_); (refine rr_regend hB hKr ?_; clear hKr Kr)) | ((with_reducible refine gd_seq ?_); refine rr_ctl hB rfl (fun _ => stepG_seq) ?_) | ((with_reducible refine gd_reg ?_); (refine rr_reg hB (fun Kr hKr => ?_); simp only [List.size_toArray, List.length_cons, List.length_nil, Nat.reduceAdd, Nat.zero_add, List.range, List.range.loop])) | ((with_reducible refine gd_skip ?_); refine rr_ctl hB rfl (fun _ => stepG_skip) ?_) | ((with_reducible refine gd_block ?_); refine rr_ctl hB rfl (fun _ => stepG_block) ?_) | ((with_reducible refine gd_inb ?_); refine rr_ctl hB rfl (fun _ => stepG_inBlock) ?_) | ((with_reducible refine gd_ret ?_); refine rr_ctl hB rfl (fun _ => stepG_ret') ?_) | ((with_reducible refine gd_exit ?_); refine rr_ctl hB rfl (fun _ => stepG_exit rfl) ?_) | ((with_reducible refine gd_end ?_); refine rr_ctl hB rfl (fun _ => stepG_end) ?_))
    refine rr_ctl hB rfl (fun _ => stepG_unwind_enter rfl Try.func12 (by kernel_rfl) rfl) ?_
    refine wgDone_x hB k1 (A := LkF k Wg sv cv cb b n tb sb m vs i) hF (fun h r => h.rely k1 r) (fun h => ⟨h.ws, fun _ hk => absurd hk (by have := h.all; omega), fun _ x hx => ⟨vs, ?_, fun a ha => ?_, fun hf => ?_⟩⟩) rfl rfl (quits_looker _ _)
    · have e := h.usb.symm.trans hx
      cases e
      exact h.own.hp
    · have e := h.usb.symm.trans hx
      cases e
      exact h.own.md a ha
    · obtain ⟨p1, p2⟩ := h.pre hf
      have hl := h.len
      refine ⟨fun j x y hx hy => p1 j x y (by have := (List.getElem?_eq_some_iff.1 hy).1; omega) hx hy, fun x hx => ?_, fun x hx => ?_⟩
      · obtain ⟨j, hj⟩ := List.mem_iff_getElem?.1 hx
        exact (p2 j x (by have := (List.getElem?_eq_some_iff.1 hj).1; omega) hj).1
      · obtain ⟨j, hj⟩ := List.mem_iff_getElem?.1 hx
        exact (p2 j x (by have := (List.getElem?_eq_some_iff.1 hj).1; omega) hj).2.2
end
end Go.Proofs.Ytiaebogolpcllaa.Crw
