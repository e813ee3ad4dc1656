/- A crowd adds: the counter's Shards and Sum in company, by contracts.
No condition. -/
import Derived.Test.YtiaebogolpcllaaVg
import Derived.Test.YtiaebogolpcllaaVf
import Derived.Test.YtiaebogolpcllaaVe
set_option linter.unusedSimpArgs false
set_option linter.unusedVariables false
namespace Go.Proofs.Ytiaebogolpcllaa.Crw
open Go Go.Conc Go.RowKit Go.Conc.Lib Go.ConcR.Gen
open Go.ConcN (upd upd_same upd_ne)
open Go.ConcR (stA smA KK WgAt wgBlock rd wr mk)
set_option linter.unusedVariables false
set_option maxRecDepth 100000
set_option maxHeartbeats 4000000

def ints (xs : List Int) : List Value := xs.map (.int .i64)
section
variable {B : Usr} {E : Env} {Post : Value → World → Prop} {Child : Sit (proto Try.prog B E Post)} {k : Nat} {s s' s₀ s₁ : St B} {w w' w₀ w₁ : World} {b n : Nat} {M : Nat → Int → B.U → Prop}

/-- The list of numbers as far as it was told. -/
structure ShI (M : Nat → Int → B.U → Prop) (k : Nat) (s₀ : St B) (w₀ : World) (v : Value) (xs : List Int) (s : St B) (w : World) : Prop where
  rl : Rl k s₀ w₀ s w
  sl : Sl k w₀.heap.size s w 2 1 v xs.length (ints xs)
  sn : ∀ (i : Nat) x, xs[i]? = some x → M i x s.u
theorem ShI.rely (hB : B.Laws) (mst : ∀ i x u u', M i x u → B.Ru k u u' → M i x u') {v : Value} {xs : List Int} (h : ShI M k s₀ w₀ v xs s w) (r : Rl k s w s₁ w₁) : ShI M k s₀ w₀ v xs s₁ w₁ :=
  ⟨h.rl.trans hB r, h.sl.rely r, fun i x hx => mst _ _ _ _ (h.sn i x hx) r.ru⟩
theorem ShI.new (hB : B.Laws) {v : Value} {xs : List Int} (h : ShI M k s₀ w₀ v xs s w) (o : Obj) : ShI M k s₀ w₀ v xs (s.take k w.heap.size (w.heap.size + 1)) (w.alloc o) :=
  ⟨h.rl.new hB o, h.sl.keep fun bb hb => leaves_new (h.sl.lt hb).2 o, h.sn⟩

theorem ShI.more (hB : B.Laws) {v v' : Value} {xs : List Int} {x : Int} {mode' : Loc → Mode} (hF : ShI M k s₀ w₀ v xs s w) (hsn : M xs.length x s.u) (hS : Sl k w₀.heap.size { s with tg := { s.tg with mode := mode' } } w' 2 1 v' (xs.length + 1) (ints (xs ++ [x])))
    (hsz : w.heap.size ≤ w'.heap.size) (hkeep : ∀ bb, bb < w.heap.size → v.ownBlock ≠ some bb → w'.heap[bb]? = w.heap[bb]?) (hmode : ∀ l, locLow w.heap.size l → mode' l = s.tg.mode l) : ShI M k s₀ w₀ v' (xs ++ [x]) { s with tg := { s.tg with mode := mode' } } w' := by
  refine ⟨hF.rl.own hB hsz (fun bb hb => hkeep bb (Nat.lt_of_lt_of_le hb hF.rl.size) fun e => by have := (hF.sl.lt e).1; omega) fun l hl => hmode l (hl.mono hF.rl.size), by simpa using hS, fun i y hy => ?_⟩
  rw [List.getElem?_append] at hy
  split at hy
  · exact hF.sn i y hy
  · rename_i hi
    have : i - xs.length = 0 := by
      rcases Nat.eq_zero_or_pos (i - xs.length) with h | h
      · exact h
      · rw [List.getElem?_eq_none (by simp only [List.length_singleton]; omega)] at hy; cases hy
    rw [this] at hy
    simp at hy
    subst hy
    have : i = xs.length := by omega
    subst this
    exact hsn

/-- What a call that looks at the counter needs. -/
structure CtrAt (M : Nat → Int → B.U → Prop) (E : Env) (k : Nat) (s : St B) (w : World) (cb b n : Nat) (tb : TypeId) : Prop where
  hc : Rds k s w cb tb [.slice (some ⟨b, 0, none⟩) n n]
  pos : 0 < n
  few : n ≤ 64
  hr : k = 0 ∨ s.tg.rel k = false
  hat : ∀ s₁ w₁, Rl k s w s₁ w₁ → Ok E s₁ w₁ → ∀ j, j < n → (s₁.tg.mode (.cell ⟨b, j, none⟩) = .at ∨ s₁.tg.mode (.cell ⟨b, j, none⟩) = .own k) ∧ ∃ x, w₁.cell? ⟨b, j, none⟩ = some (.int .i64 x) ∧ M j x s₁.u
  mst : ∀ i x u u', M i x u → B.Ru k u u' → M i x u'

theorem info_i64 : ∃ ti, Try.prog.info? 2 = some ti ∧ ti.zero = some (.int .i64 0) ∧ ti.size = 1 ∧ ti.bytes = 8 := ⟨_, rfl, by kernel_rfl, by kernel_rfl, by kernel_rfl⟩

theorem shards_x (hB : B.Laws) {cb : Nat} {tb : TypeId} (hC : CtrAt M E k s₀ w₀ cb b n tb) : CallX Try.prog B E Post Child k 32 #[.pointer (some ⟨cb, 0, none⟩)] s₀ w₀ (fun v s' w' => ∃ xs : List Int, xs.length = n ∧ ShI M k s₀ w₀ v xs s' w') := by
  refine ⟨Try.f32, _, Try.func32, by kernel_rfl, rfl, fun cal cs hret => ?_⟩
  have he1 := fun (x : Option Addr) (w : World) (es : Array Event) => ev_neq_ptr_nil (P := Try.prog) Try.underlying33 x w es
  have hF : ShI M k s₀ w₀ (.slice none 0 0) [] s₀ w₀ := ⟨.refl hB _ _ _, .nil _ _ _ _ _ _, fun i x hx => by simp at hx⟩
  obtain ⟨hc, pos, few, hrel, hat, mst⟩ := hC
  have hc := Hid.mk hc
  have hat := Hid.mk hat
  walk_nrmf Try.f32
  repeat (first | ((with_reducible refine gd_op ?_); first | (refine rr_pure' hB rfl (by rfl) (by k_ne) (by rfl) (fun w₁ => by first | (simp [go_sem]; done) | simp [go_sem, *]) (fun w₁ K hK => ?_); go_simp; refine hK _ ?_; clear hK K w₁; try walk_nrm) | (refine rr_ctl hB rfl (fun _ => stepG_unwanted rfl rfl) ?_; try walk_nrm)) | ((with_reducible refine gd_rend ?_); (refine rr_regend hB hKr ?_; clear hKr Kr)) | ((with_reducible refine gd_seq ?_); refine rr_ctl hB rfl (fun _ => stepG_seq) ?_) | ((with_reducible refine gd_reg ?_); (refine rr_reg hB (fun Kr hKr => ?_); simp only [List.size_toArray, List.length_cons, List.length_nil, Nat.reduceAdd, Nat.zero_add, List.range, List.range.loop])) | ((with_reducible refine gd_skip ?_); refine rr_ctl hB rfl (fun _ => stepG_skip) ?_) | ((with_reducible refine gd_block ?_); refine rr_ctl hB rfl (fun _ => stepG_block) ?_) | ((with_reducible refine gd_inb ?_); refine rr_ctl hB rfl (fun _ => stepG_inBlock) ?_) | ((with_reducible refine gd_ret ?_); refine rr_ctl hB rfl (fun _ => stepG_ret') ?_) | ((with_reducible refine gd_exit ?_); refine rr_ctl hB rfl (fun _ => stepG_exit rfl) ?_) | ((with_reducible refine gd_end ?_); refine rr_ctl hB rfl (fun _ => stepG_end) ?_))
  (refine rr_ctl hB rfl (fun _ => stepG_cond (t := true) (by first | rfl | (simp [Act.eval, *]))) ?_; simp only [if_true, if_false, Bool.false_eq_true, ↓reduceIte])
  repeat (first | ((with_reducible refine gd_op ?_); first | (refine rr_pure' hB rfl (by rfl) (by k_ne) (by rfl) (fun w₁ => by first | (simp [go_sem]; done) | simp [go_sem, *]) (fun w₁ K hK => ?_); go_simp; refine hK _ ?_; clear hK K w₁; try walk_nrm) | (refine rr_ctl hB rfl (fun _ => stepG_unwanted rfl rfl) ?_; try walk_nrm)) | ((with_reducible refine gd_rend ?_); (refine rr_regend hB hKr ?_; clear hKr Kr)) | ((with_reducible refine gd_seq ?_); refine rr_ctl hB rfl (fun _ => stepG_seq) ?_) | ((with_reducible refine gd_reg ?_); (refine rr_reg hB (fun Kr hKr => ?_); simp only [List.size_toArray, List.length_cons, List.length_nil, Nat.reduceAdd, Nat.zero_add, List.range, List.range.loop])) | ((with_reducible refine gd_skip ?_); refine rr_ctl hB rfl (fun _ => stepG_skip) ?_) | ((with_reducible refine gd_block ?_); refine rr_ctl hB rfl (fun _ => stepG_block) ?_) | ((with_reducible refine gd_inb ?_); refine rr_ctl hB rfl (fun _ => stepG_inBlock) ?_) | ((with_reducible refine gd_ret ?_); refine rr_ctl hB rfl (fun _ => stepG_ret') ?_) | ((with_reducible refine gd_exit ?_); refine rr_ctl hB rfl (fun _ => stepG_exit rfl) ?_) | ((with_reducible refine gd_end ?_); refine rr_ctl hB rfl (fun _ => stepG_end) ?_))
  (refine rr_oper rfl (by rfl) (by k_ne) (fun s₁ w₁ hR hI K hK => ?_); replace hF := (ShI.rely hB mst) hF hR; clear hR; have := (hc.out.rely hF.rl).cell 0; go_simp; refine hK _ _ ⟨s₁, mv_rd (hrel.imp id hF.rl.rel.trans) (fun e he => ?_), .refl _, ?_⟩; (focus (have hm := mem_listed he; simp [go_sem, *] at hm; (subst hm; exact ⟨_, rfl, (hc.out.rely hF.rl).md _ rfl, (hc.out.rely hF.rl).lt⟩))); clear hK K; try walk_nrm)
  repeat (first | ((with_reducible refine gd_op ?_); first | (refine rr_pure' hB rfl (by rfl) (by k_ne) (by rfl) (fun w₁ => by first | (simp [go_sem]; done) | simp [go_sem, *]) (fun w₁ K hK => ?_); go_simp; refine hK _ ?_; clear hK K w₁; try walk_nrm) | (refine rr_ctl hB rfl (fun _ => stepG_unwanted rfl rfl) ?_; try walk_nrm)) | ((with_reducible refine gd_rend ?_); (refine rr_regend hB hKr ?_; clear hKr Kr)) | ((with_reducible refine gd_seq ?_); refine rr_ctl hB rfl (fun _ => stepG_seq) ?_) | ((with_reducible refine gd_reg ?_); (refine rr_reg hB (fun Kr hKr => ?_); simp only [List.size_toArray, List.length_cons, List.length_nil, Nat.reduceAdd, Nat.zero_add, List.range, List.range.loop])) | ((with_reducible refine gd_skip ?_); refine rr_ctl hB rfl (fun _ => stepG_skip) ?_) | ((with_reducible refine gd_block ?_); refine rr_ctl hB rfl (fun _ => stepG_block) ?_) | ((with_reducible refine gd_inb ?_); refine rr_ctl hB rfl (fun _ => stepG_inBlock) ?_) | ((with_reducible refine gd_ret ?_); refine rr_ctl hB rfl (fun _ => stepG_ret') ?_) | ((with_reducible refine gd_exit ?_); refine rr_ctl hB rfl (fun _ => stepG_exit rfl) ?_) | ((with_reducible refine gd_end ?_); refine rr_ctl hB rfl (fun _ => stepG_end) ?_))
  refine rr_loop hB (fun m a s w => ∃ T v xs, a = ⟨T, []⟩ ∧ T.size = 27 ∧ T[0]? = some (.pointer (some ⟨cb, 0, none⟩)) ∧ some v = T[3]? ∧ T[11]? = some (.int .i64 n) ∧ T[12]? = some (.int .i64 (xs.length : Nat)) ∧ xs.length ≤ n ∧ m = n - xs.length ∧ ShI M k s₀ w₀ v xs s w) n ⟨_, .slice none 0 0, [], rfl, rfl, rfl, rfl, rfl, rfl, Nat.zero_le _, rfl, hF⟩ ?_
  clear hF
  rintro m a s w ⟨T, v, xs, rfl, hT, t0, t3, t11, t12, hle, rfl, hF⟩ ih
  obtain ⟨T⟩ := T
  ((iterate 27 (rcases T with _ | ⟨_, T⟩; focus (simp at hT))); rcases T with _ | ⟨_, _⟩; rotate_left; focus (simp at hT))
  simp only [List.getElem?_toArray, List.getElem?_cons_succ, List.getElem?_cons_zero, Option.some.injEq] at t0 t3 t11 t12
  subst t0 t3 t11 t12
  repeat (first | ((with_reducible refine gd_op ?_); first | (refine rr_pure' hB rfl (by rfl) (by k_ne) (by rfl) (fun w₁ => by first | (simp [go_sem]; done) | simp [go_sem, *]) (fun w₁ K hK => ?_); go_simp; refine hK _ ?_; clear hK K w₁; try walk_nrm) | (refine rr_ctl hB rfl (fun _ => stepG_unwanted rfl rfl) ?_; try walk_nrm)) | ((with_reducible refine gd_rend ?_); (refine rr_regend hB hKr ?_; clear hKr Kr)) | ((with_reducible refine gd_seq ?_); refine rr_ctl hB rfl (fun _ => stepG_seq) ?_) | ((with_reducible refine gd_reg ?_); (refine rr_reg hB (fun Kr hKr => ?_); simp only [List.size_toArray, List.length_cons, List.length_nil, Nat.reduceAdd, Nat.zero_add, List.range, List.range.loop])) | ((with_reducible refine gd_skip ?_); refine rr_ctl hB rfl (fun _ => stepG_skip) ?_) | ((with_reducible refine gd_block ?_); refine rr_ctl hB rfl (fun _ => stepG_block) ?_) | ((with_reducible refine gd_inb ?_); refine rr_ctl hB rfl (fun _ => stepG_inBlock) ?_) | ((with_reducible refine gd_ret ?_); refine rr_ctl hB rfl (fun _ => stepG_ret') ?_) | ((with_reducible refine gd_exit ?_); refine rr_ctl hB rfl (fun _ => stepG_exit rfl) ?_) | ((with_reducible refine gd_end ?_); refine rr_ctl hB rfl (fun _ => stepG_end) ?_))
  have hn0 : ¬ n = 0 := by omega
  have hn1 : ((n : Int) == 0) = false := by rw [beq_eq_false_iff_ne]; omega
  have hwj : IntKind.i64.wrap (xs.length : Int) = (xs.length : Int) := by rw [IntKind.wrap_i64]; omega
  have hw1 : IntKind.i64.wrap ((xs.length : Int) + 1) = ((xs.length + 1 : Nat) : Int) := by rw [IntKind.wrap_i64]; omega
  by_cases hlt : xs.length < n
  · have hk2 : 0 ≤ (xs.length : Int) ∧ (xs.length : Int) < n := ⟨by omega, by omega⟩
    (refine rr_ctl hB rfl (fun _ => stepG_cond (t := true) (by first | rfl | (simp [Act.eval, *]))) ?_; simp only [if_true, if_false, Bool.false_eq_true, ↓reduceIte])
    repeat (first | ((with_reducible refine gd_op ?_); first | (refine rr_pure' hB rfl (by rfl) (by k_ne) (by rfl) (fun w₁ => by first | (simp [go_sem]; done) | simp [go_sem, *]) (fun w₁ K hK => ?_); go_simp; refine hK _ ?_; clear hK K w₁; try walk_nrm) | (refine rr_ctl hB rfl (fun _ => stepG_unwanted rfl rfl) ?_; try walk_nrm)) | ((with_reducible refine gd_rend ?_); (refine rr_regend hB hKr ?_; clear hKr Kr)) | ((with_reducible refine gd_seq ?_); refine rr_ctl hB rfl (fun _ => stepG_seq) ?_) | ((with_reducible refine gd_reg ?_); (refine rr_reg hB (fun Kr hKr => ?_); simp only [List.size_toArray, List.length_cons, List.length_nil, Nat.reduceAdd, Nat.zero_add, List.range, List.range.loop])) | ((with_reducible refine gd_skip ?_); refine rr_ctl hB rfl (fun _ => stepG_skip) ?_) | ((with_reducible refine gd_block ?_); refine rr_ctl hB rfl (fun _ => stepG_block) ?_) | ((with_reducible refine gd_inb ?_); refine rr_ctl hB rfl (fun _ => stepG_inBlock) ?_) | ((with_reducible refine gd_ret ?_); refine rr_ctl hB rfl (fun _ => stepG_ret') ?_) | ((with_reducible refine gd_exit ?_); refine rr_ctl hB rfl (fun _ => stepG_exit rfl) ?_) | ((with_reducible refine gd_end ?_); refine rr_ctl hB rfl (fun _ => stepG_end) ?_))
    (refine rr_oper rfl (by rfl) (by k_ne) (fun s₁ w₁ hR hI K hK => ?_); replace hF := (ShI.rely hB mst) hF hR; clear hR; have := (hc.out.rely hF.rl).cell 0; go_simp; refine hK _ _ ⟨s₁, mv_rd (hrel.imp id hF.rl.rel.trans) (fun e he => ?_), .refl _, ?_⟩; (focus (have hm := mem_listed he; simp [go_sem, *] at hm; (subst hm; exact ⟨_, rfl, (hc.out.rely hF.rl).md _ rfl, (hc.out.rely hF.rl).lt⟩))); clear hK K; try walk_nrm)
    repeat (first | ((with_reducible refine gd_op ?_); first | (refine rr_pure' hB rfl (by rfl) (by k_ne) (by rfl) (fun w₁ => by first | (simp [go_sem]; done) | simp [go_sem, *]) (fun w₁ K hK => ?_); go_simp; refine hK _ ?_; clear hK K w₁; try walk_nrm) | (refine rr_ctl hB rfl (fun _ => stepG_unwanted rfl rfl) ?_; try walk_nrm)) | ((with_reducible refine gd_rend ?_); (refine rr_regend hB hKr ?_; clear hKr Kr)) | ((with_reducible refine gd_seq ?_); refine rr_ctl hB rfl (fun _ => stepG_seq) ?_) | ((with_reducible refine gd_reg ?_); (refine rr_reg hB (fun Kr hKr => ?_); simp only [List.size_toArray, List.length_cons, List.length_nil, Nat.reduceAdd, Nat.zero_add, List.range, List.range.loop])) | ((with_reducible refine gd_skip ?_); refine rr_ctl hB rfl (fun _ => stepG_skip) ?_) | ((with_reducible refine gd_block ?_); refine rr_ctl hB rfl (fun _ => stepG_block) ?_) | ((with_reducible refine gd_inb ?_); refine rr_ctl hB rfl (fun _ => stepG_inBlock) ?_) | ((with_reducible refine gd_ret ?_); refine rr_ctl hB rfl (fun _ => stepG_ret') ?_) | ((with_reducible refine gd_exit ?_); refine rr_ctl hB rfl (fun _ => stepG_exit rfl) ?_) | ((with_reducible refine gd_end ?_); refine rr_ctl hB rfl (fun _ => stepG_end) ?_))
    (apply rr_call hB rfl (by rfl) (by k_ne) rfl; focus ((try walk_nrm); exact (load_x hB (A := ShI M k s₀ w₀ v xs) (Q := fun r s w => ∃ x, r = .int .i64 x ∧ ShI M k s₀ w₀ v xs s w ∧ M xs.length x s.u) (fun _ _ _ _ h r => h.rely hB mst r)
      (fun s w h hI => by
        obtain ⟨hm, x, hx, hM⟩ := hat.out s w h.rl hI xs.length hlt
        exact ⟨x, hx, mv_atr (hrel.imp id h.rl.rel.trans) hm (World.block_lt_of_cell? w _ hx), x, rfl, h, hM⟩)
      (fun r s w s₁ w₁ ⟨x, hr, h, hsn⟩ hR => ⟨x, hr, h.rely hB mst hR, mst _ _ _ _ hsn hR.ru⟩) hF)))
    clear hF
    rintro _ s w ⟨x, rfl, hF, hsn⟩
    walk_nrm
    refine rr_oper rfl (by rfl) (by k_ne) (fun s₁ w₁ hR hI K hK => ?_)
    replace hF := hF.rely hB mst hR
    replace hsn := mst _ _ _ _ hsn hR.ru
    clear hR
    go_simp
    refine hK _ _ ⟨_, mv_new_at (hrel.imp id hF.rl.rel.trans) _ (listed_nil (by simp [go_sem, *])), St.take_soft _ _ _ _, ?_⟩
    clear hK K
    have hO : Own k (s₁.take k w₁.heap.size (w₁.heap.size + 1)) (w₁.alloc (.cells #[.int .i64 x] 2)) w₁.heap.size 2 [.int .i64 x] := own_new s₁ w₁ [.int .i64 x] 2
    have hG : w₀.heap.size ≤ w₁.heap.size := hF.rl.size
    replace hF := hF.new hB (.cells #[.int .i64 x] 2)
    try walk_nrm
    generalize hN : w₁.heap.size = N at *
    obtain ⟨ti, hi, hz, hsize, hby⟩ := info_i64
    refine rr_append hB (F := fun s w => ShI M k s₀ w₀ v xs s w ∧ Own k s w N 2 [.int .i64 x] ∧ M xs.length x s.u) (.tmp 15) (.tmp 23) 23 (base := w₀.heap.size) (size := 1) (bytes := 8) (n := xs.length) (m := 1) (c := 1) (e := 2) (xs := ints xs) (ad := ⟨N, 0, none⟩) (news := [.int .i64 x]) ⟨hF, hO, hsn⟩
      (fun h r => ⟨h.1.rely hB mst r, h.2.1.rely r, mst _ _ _ _ h.2.2 r.ru⟩) (fun h => hrel.imp id h.1.rl.rel.trans) (fun h => h.1.sl) (fun h => h.1.rl.size)
      (fun h j u hu => by
        have := h.2.1.cell j
        rw [hu] at this
        rw [Addr.add_lit, Nat.zero_add]
        exact this)
      (fun h a' ha => ⟨h.2.1.md a' ha, h.2.1.lt⟩) rfl (by rfl) (by k_ne) rfl (by rfl) (by rfl) Try.underlying23 hi hz hsize hby rfl (by decide) rfl (fun u hu => by simp at hu; subst hu; rfl) (by simp only [maxLen]; omega) (by omega) ?_
    clear hF hO hsn hG hN
    rintro s w v' w' mode' ⟨hF, hO, hsn⟩ hI hS hsz hkeep hmode
    replace hF : ShI M k s₀ w₀ v' (xs ++ [x]) { s with tg := { s.tg with mode := mode' } } w' := hF.more hB hsn (by simpa [ints] using hS) hsz hkeep hmode
    generalize ({ s with tg := { s.tg with mode := mode' } } : St B) = s at hF ⊢
    walk_nrm
    repeat (first | ((with_reducible refine gd_op ?_); first | (refine rr_pure' hB rfl (by rfl) (by k_ne) (by rfl) (fun w₁ => by first | (simp [go_sem]; done) | simp [go_sem, *]) (fun w₁ K hK => ?_); go_simp; refine hK _ ?_; clear hK K w₁; try walk_nrm) | (refine rr_ctl hB rfl (fun _ => stepG_unwanted rfl rfl) ?_; try walk_nrm)) | ((with_reducible refine gd_rend ?_); (refine rr_regend hB hKr ?_; clear hKr Kr)) | ((with_reducible refine gd_seq ?_); refine rr_ctl hB rfl (fun _ => stepG_seq) ?_) | ((with_reducible refine gd_reg ?_); (refine rr_reg hB (fun Kr hKr => ?_); simp only [List.size_toArray, List.length_cons, List.length_nil, Nat.reduceAdd, Nat.zero_add, List.range, List.range.loop])) | ((with_reducible refine gd_skip ?_); refine rr_ctl hB rfl (fun _ => stepG_skip) ?_) | ((with_reducible refine gd_block ?_); refine rr_ctl hB rfl (fun _ => stepG_block) ?_) | ((with_reducible refine gd_inb ?_); refine rr_ctl hB rfl (fun _ => stepG_inBlock) ?_) | ((with_reducible refine gd_ret ?_); refine rr_ctl hB rfl (fun _ => stepG_ret') ?_) | ((with_reducible refine gd_exit ?_); refine rr_ctl hB rfl (fun _ => stepG_exit rfl) ?_) | ((with_reducible refine gd_end ?_); refine rr_ctl hB rfl (fun _ => stepG_end) ?_))
    refine rr_ctl hB rfl (fun _ => stepG_inLoop) ?_
    exact ih (n - (xs ++ [x]).length) _ _ _ (by rw [List.length_append, List.length_singleton]; omega) ⟨_, v', xs ++ [x], rfl, rfl, rfl, rfl, rfl, by rw [List.length_append]; rfl, by rw [List.length_append, List.length_singleton]; omega, rfl, hF⟩
  · have hxn : xs.length = n := by omega
    (refine rr_ctl hB rfl (fun _ => stepG_cond (t := false) (by first | rfl | (simp [Act.eval, *]))) ?_; simp only [if_true, if_false, Bool.false_eq_true, ↓reduceIte])
    repeat (first | ((with_reducible refine gd_op ?_); first | (refine rr_pure' hB rfl (by rfl) (by k_ne) (by rfl) (fun w₁ => by first | (simp [go_sem]; done) | simp [go_sem, *]) (fun w₁ K hK => ?_); go_simp; refine hK _ ?_; clear hK K w₁; try walk_nrm) | (refine rr_ctl hB rfl (fun _ => stepG_unwanted rfl rfl) ?_; try walk_nrm)) | ((with_reducible refine gd_rend ?_); (refine rr_regend hB hKr ?_; clear hKr Kr)) | ((with_reducible refine gd_seq ?_); refine rr_ctl hB rfl (fun _ => stepG_seq) ?_) | ((with_reducible refine gd_reg ?_); (refine rr_reg hB (fun Kr hKr => ?_); simp only [List.size_toArray, List.length_cons, List.length_nil, Nat.reduceAdd, Nat.zero_add, List.range, List.range.loop])) | ((with_reducible refine gd_skip ?_); refine rr_ctl hB rfl (fun _ => stepG_skip) ?_) | ((with_reducible refine gd_block ?_); refine rr_ctl hB rfl (fun _ => stepG_block) ?_) | ((with_reducible refine gd_inb ?_); refine rr_ctl hB rfl (fun _ => stepG_inBlock) ?_) | ((with_reducible refine gd_ret ?_); refine rr_ctl hB rfl (fun _ => stepG_ret') ?_) | ((with_reducible refine gd_exit ?_); refine rr_ctl hB rfl (fun _ => stepG_exit rfl) ?_) | ((with_reducible refine gd_end ?_); refine rr_ctl hB rfl (fun _ => stepG_end) ?_))
    (refine rr_leave hB rfl rfl Try.func32 (fun w => ⟨results_tmp rfl _ _ w, events_results_tmp rfl _ _⟩) ?_)
    exact hret _ _ _ ⟨xs, hxn, hF⟩
end
end Go.Proofs.Ytiaebogolpcllaa.Crw
namespace Go.Proofs.Ytiaebogolpcllaa.Crw
open Go Go.Conc Go.RowKit Go.Conc.Lib Go.ConcR.Gen
open Go.ConcN (upd upd_same upd_ne)
open Go.ConcR (stA smA KK WgAt wgBlock rd wr mk)
set_option linter.unusedVariables false
set_option maxRecDepth 100000
set_option maxHeartbeats 4000000

/-- The sum, as the machine reckons it. -/
def sumW (xs : List Int) : Int := xs.foldl (fun a x => IntKind.i64.wrap (a + x)) 0
theorem sumW_take_succ {xs : List Int} {i : Nat} (h : i < xs.length) : sumW (xs.take (i + 1)) = IntKind.i64.wrap (sumW (xs.take i) + xs[i]) := by
  unfold sumW
  rw [List.take_add_one, List.getElem?_eq_getElem h, List.foldl_append]
  rfl
section
variable {B : Usr} {E : Env} {Post : Value → World → Prop} {Child : Sit (proto Try.prog B E Post)} {k : Nat} {s s' s₀ s₁ : St B} {w w' w₀ w₁ : World} {b n : Nat} {M : Nat → Int → B.U → Prop}

theorem ShI.cell {g cap m : Nat} {xs : List Int} (h : ShI M k s₀ w₀ (.slice (some ⟨g, 0, none⟩) m cap) xs s w) {i : Nat} (hi : i < xs.length) :
    w.cell? ⟨g, i, none⟩ = some (.int .i64 xs[i]) ∧ May s.tg k (.cell ⟨g, i, none⟩) ∧ g < w.heap.size := by
  obtain ⟨A, c, e, hc⟩ := h.sl.cells
  obtain ⟨g', e2, h1, h2, h3⟩ := hc i (.int .i64 xs[i]) (by simp [ints, List.getElem?_eq_getElem hi])
  cases e
  cases e2
  exact ⟨h1, h2, h3⟩

theorem sum_x (hB : B.Laws) {cb : Nat} {tb : TypeId} (hC : CtrAt M E k s₀ w₀ cb b n tb) : CallX Try.prog B E Post Child k 15 #[.pointer (some ⟨cb, 0, none⟩)] s₀ w₀
    (fun r s' w' => ∃ xs : List Int, xs.length = n ∧ r = .int .i64 (sumW xs) ∧ Rl k s₀ w₀ s' w' ∧ ∀ (i : Nat) x, xs[i]? = some x → M i x s'.u) := by
  refine ⟨Try.f15, _, Try.func15, by kernel_rfl, rfl, fun cal cs hret => ?_⟩
  have hpos := hC.pos
  have hfew := hC.few
  have hrel := hC.hr
  have mst := hC.mst
  walk_nrmf Try.f15
  repeat (first | ((with_reducible refine gd_op ?_); first | (refine rr_pure' hB rfl (by rfl) (by k_ne) (by rfl) (fun w₁ => by first | (simp [go_sem]; done) | simp [go_sem, *]) (fun w₁ K hK => ?_); go_simp; refine hK _ ?_; clear hK K w₁; try walk_nrm) | (refine rr_ctl hB rfl (fun _ => stepG_unwanted rfl rfl) ?_; try walk_nrm)) | ((with_reducible refine gd_rend ?_); (refine rr_regend hB hKr ?_; clear hKr Kr)) | ((with_reducible refine gd_seq ?_); refine rr_ctl hB rfl (fun _ => stepG_seq) ?_) | ((with_reducible refine gd_reg ?_); (refine rr_reg hB (fun Kr hKr => ?_); simp only [List.size_toArray, List.length_cons, List.length_nil, Nat.reduceAdd, Nat.zero_add, List.range, List.range.loop])) | ((with_reducible refine gd_skip ?_); refine rr_ctl hB rfl (fun _ => stepG_skip) ?_) | ((with_reducible refine gd_block ?_); refine rr_ctl hB rfl (fun _ => stepG_block) ?_) | ((with_reducible refine gd_inb ?_); refine rr_ctl hB rfl (fun _ => stepG_inBlock) ?_) | ((with_reducible refine gd_ret ?_); refine rr_ctl hB rfl (fun _ => stepG_ret') ?_) | ((with_reducible refine gd_exit ?_); refine rr_ctl hB rfl (fun _ => stepG_exit rfl) ?_) | ((with_reducible refine gd_end ?_); refine rr_ctl hB rfl (fun _ => stepG_end) ?_))
  (apply rr_call hB rfl (by rfl) (by k_ne) rfl; focus ((try walk_nrm); exact (shards_x hB hC)))
  rintro v s w ⟨xs, hn, hF⟩
  obtain ⟨g, cap, rfl⟩ : ∃ g cap, v = .slice (some ⟨g, 0, none⟩) n cap := by
    obtain ⟨A, c, e, hc⟩ := hF.sl.cells
    obtain ⟨g', e2, _⟩ := hc 0 (.int .i64 xs[0]) (by simp [ints, List.getElem?_eq_getElem (show 0 < xs.length by omega)])
    exact ⟨g', c, by rw [e, e2, hn]⟩
  walk_nrm
  repeat (first | ((with_reducible refine gd_op ?_); first | (refine rr_pure' hB rfl (by rfl) (by k_ne) (by rfl) (fun w₁ => by first | (simp [go_sem]; done) | simp [go_sem, *]) (fun w₁ K hK => ?_); go_simp; refine hK _ ?_; clear hK K w₁; try walk_nrm) | (refine rr_ctl hB rfl (fun _ => stepG_unwanted rfl rfl) ?_; try walk_nrm)) | ((with_reducible refine gd_rend ?_); (refine rr_regend hB hKr ?_; clear hKr Kr)) | ((with_reducible refine gd_seq ?_); refine rr_ctl hB rfl (fun _ => stepG_seq) ?_) | ((with_reducible refine gd_reg ?_); (refine rr_reg hB (fun Kr hKr => ?_); simp only [List.size_toArray, List.length_cons, List.length_nil, Nat.reduceAdd, Nat.zero_add, List.range, List.range.loop])) | ((with_reducible refine gd_skip ?_); refine rr_ctl hB rfl (fun _ => stepG_skip) ?_) | ((with_reducible refine gd_block ?_); refine rr_ctl hB rfl (fun _ => stepG_block) ?_) | ((with_reducible refine gd_inb ?_); refine rr_ctl hB rfl (fun _ => stepG_inBlock) ?_) | ((with_reducible refine gd_ret ?_); refine rr_ctl hB rfl (fun _ => stepG_ret') ?_) | ((with_reducible refine gd_exit ?_); refine rr_ctl hB rfl (fun _ => stepG_exit rfl) ?_) | ((with_reducible refine gd_end ?_); refine rr_ctl hB rfl (fun _ => stepG_end) ?_))
  refine rr_loop hB (fun m a s w => ∃ T i, a = ⟨T, []⟩ ∧ T.size = 18 ∧ T[3]? = some (.int .i64 (sumW (xs.take i))) ∧ T[7]? = some (.slice (some ⟨g, 0, none⟩) n cap) ∧ T[8]? = some (.int .i64 n) ∧ T[9]? = some (.int .i64 (i : Nat)) ∧ i ≤ n ∧ m = n - i ∧ ShI M k s₀ w₀ (.slice (some ⟨g, 0, none⟩) n cap) xs s w) n ⟨_, 0, rfl, rfl, rfl, rfl, rfl, rfl, Nat.zero_le _, rfl, hF⟩ ?_
  clear hF
  rintro m a s w ⟨T, i, rfl, hT, t3, t7, t8, t9, hle, rfl, hF⟩ ih
  obtain ⟨T⟩ := T
  ((iterate 18 (rcases T with _ | ⟨_, T⟩; focus (simp at hT))); rcases T with _ | ⟨_, _⟩; rotate_left; focus (simp at hT))
  simp only [List.getElem?_toArray, List.getElem?_cons_succ, List.getElem?_cons_zero, Option.some.injEq] at t3 t7 t8 t9
  subst t3 t7 t8 t9
  have hw1 : IntKind.i64.wrap ((i : Int) + 1) = ((i + 1 : Nat) : Int) := by rw [IntKind.wrap_i64]; omega
  repeat (first | ((with_reducible refine gd_op ?_); first | (refine rr_pure' hB rfl (by rfl) (by k_ne) (by rfl) (fun w₁ => by first | (simp [go_sem]; done) | simp [go_sem, *]) (fun w₁ K hK => ?_); go_simp; refine hK _ ?_; clear hK K w₁; try walk_nrm) | (refine rr_ctl hB rfl (fun _ => stepG_unwanted rfl rfl) ?_; try walk_nrm)) | ((with_reducible refine gd_rend ?_); (refine rr_regend hB hKr ?_; clear hKr Kr)) | ((with_reducible refine gd_seq ?_); refine rr_ctl hB rfl (fun _ => stepG_seq) ?_) | ((with_reducible refine gd_reg ?_); (refine rr_reg hB (fun Kr hKr => ?_); simp only [List.size_toArray, List.length_cons, List.length_nil, Nat.reduceAdd, Nat.zero_add, List.range, List.range.loop])) | ((with_reducible refine gd_skip ?_); refine rr_ctl hB rfl (fun _ => stepG_skip) ?_) | ((with_reducible refine gd_block ?_); refine rr_ctl hB rfl (fun _ => stepG_block) ?_) | ((with_reducible refine gd_inb ?_); refine rr_ctl hB rfl (fun _ => stepG_inBlock) ?_) | ((with_reducible refine gd_ret ?_); refine rr_ctl hB rfl (fun _ => stepG_ret') ?_) | ((with_reducible refine gd_exit ?_); refine rr_ctl hB rfl (fun _ => stepG_exit rfl) ?_) | ((with_reducible refine gd_end ?_); refine rr_ctl hB rfl (fun _ => stepG_end) ?_))
  by_cases hlt : i < n
  · have hk2 : 0 ≤ (i : Int) ∧ (i : Int) < n := ⟨by omega, by omega⟩
    have hix : i < xs.length := by omega
    (refine rr_ctl hB rfl (fun _ => stepG_cond (t := true) (by first | rfl | (simp [Act.eval, *]))) ?_; simp only [if_true, if_false, Bool.false_eq_true, ↓reduceIte])
    repeat (first | ((with_reducible refine gd_op ?_); first | (refine rr_pure' hB rfl (by rfl) (by k_ne) (by rfl) (fun w₁ => by first | (simp [go_sem]; done) | simp [go_sem, *]) (fun w₁ K hK => ?_); go_simp; refine hK _ ?_; clear hK K w₁; try walk_nrm) | (refine rr_ctl hB rfl (fun _ => stepG_unwanted rfl rfl) ?_; try walk_nrm)) | ((with_reducible refine gd_rend ?_); (refine rr_regend hB hKr ?_; clear hKr Kr)) | ((with_reducible refine gd_seq ?_); refine rr_ctl hB rfl (fun _ => stepG_seq) ?_) | ((with_reducible refine gd_reg ?_); (refine rr_reg hB (fun Kr hKr => ?_); simp only [List.size_toArray, List.length_cons, List.length_nil, Nat.reduceAdd, Nat.zero_add, List.range, List.range.loop])) | ((with_reducible refine gd_skip ?_); refine rr_ctl hB rfl (fun _ => stepG_skip) ?_) | ((with_reducible refine gd_block ?_); refine rr_ctl hB rfl (fun _ => stepG_block) ?_) | ((with_reducible refine gd_inb ?_); refine rr_ctl hB rfl (fun _ => stepG_inBlock) ?_) | ((with_reducible refine gd_ret ?_); refine rr_ctl hB rfl (fun _ => stepG_ret') ?_) | ((with_reducible refine gd_exit ?_); refine rr_ctl hB rfl (fun _ => stepG_exit rfl) ?_) | ((with_reducible refine gd_end ?_); refine rr_ctl hB rfl (fun _ => stepG_end) ?_))
    (refine rr_oper rfl (by rfl) (by k_ne) (fun s₁ w₁ hR hI K hK => ?_); replace hF := (ShI.rely hB mst) hF hR; clear hR; have := (hF.cell hix).1; go_simp; refine hK _ _ ⟨s₁, mv_rd (hrel.imp id hF.rl.rel.trans) (fun e he => ?_), .refl _, ?_⟩; (focus (have hm := mem_listed he; simp [go_sem, *] at hm; (subst hm; exact ⟨_, rfl, (hF.cell hix).2.1, (hF.cell hix).2.2⟩))); clear hK K; try walk_nrm)
    repeat (first | ((with_reducible refine gd_op ?_); first | (refine rr_pure' hB rfl (by rfl) (by k_ne) (by rfl) (fun w₁ => by first | (simp [go_sem]; done) | simp [go_sem, *]) (fun w₁ K hK => ?_); go_simp; refine hK _ ?_; clear hK K w₁; try walk_nrm) | (refine rr_ctl hB rfl (fun _ => stepG_unwanted rfl rfl) ?_; try walk_nrm)) | ((with_reducible refine gd_rend ?_); (refine rr_regend hB hKr ?_; clear hKr Kr)) | ((with_reducible refine gd_seq ?_); refine rr_ctl hB rfl (fun _ => stepG_seq) ?_) | ((with_reducible refine gd_reg ?_); (refine rr_reg hB (fun Kr hKr => ?_); simp only [List.size_toArray, List.length_cons, List.length_nil, Nat.reduceAdd, Nat.zero_add, List.range, List.range.loop])) | ((with_reducible refine gd_skip ?_); refine rr_ctl hB rfl (fun _ => stepG_skip) ?_) | ((with_reducible refine gd_block ?_); refine rr_ctl hB rfl (fun _ => stepG_block) ?_) | ((with_reducible refine gd_inb ?_); refine rr_ctl hB rfl (fun _ => stepG_inBlock) ?_) | ((with_reducible refine gd_ret ?_); refine rr_ctl hB rfl (fun _ => stepG_ret') ?_) | ((with_reducible refine gd_exit ?_); refine rr_ctl hB rfl (fun _ => stepG_exit rfl) ?_) | ((with_reducible refine gd_end ?_); refine rr_ctl hB rfl (fun _ => stepG_end) ?_))
    refine rr_ctl hB rfl (fun _ => stepG_inLoop) ?_
    exact ih (n - (i + 1)) _ _ _ (by omega) ⟨_, i + 1, rfl, rfl, by rw [sumW_take_succ hix]; rfl, rfl, rfl, rfl, by omega, rfl, hF⟩
  · have hin : i = n := by omega
    have hs : xs.take i = xs := List.take_of_length_le (by omega)
    rw [hs] at *
    (refine rr_ctl hB rfl (fun _ => stepG_cond (t := false) (by first | rfl | (simp [Act.eval, *]))) ?_; simp only [if_true, if_false, Bool.false_eq_true, ↓reduceIte])
    repeat (first | ((with_reducible refine gd_op ?_); first | (refine rr_pure' hB rfl (by rfl) (by k_ne) (by rfl) (fun w₁ => by first | (simp [go_sem]; done) | simp [go_sem, *]) (fun w₁ K hK => ?_); go_simp; refine hK _ ?_; clear hK K w₁; try walk_nrm) | (refine rr_ctl hB rfl (fun _ => stepG_unwanted rfl rfl) ?_; try walk_nrm)) | ((with_reducible refine gd_rend ?_); (refine rr_regend hB hKr ?_; clear hKr Kr)) | ((with_reducible refine gd_seq ?_); refine rr_ctl hB rfl (fun _ => stepG_seq) ?_) | ((with_reducible refine gd_reg ?_); (refine rr_reg hB (fun Kr hKr => ?_); simp only [List.size_toArray, List.length_cons, List.length_nil, Nat.reduceAdd, Nat.zero_add, List.range, List.range.loop])) | ((with_reducible refine gd_skip ?_); refine rr_ctl hB rfl (fun _ => stepG_skip) ?_) | ((with_reducible refine gd_block ?_); refine rr_ctl hB rfl (fun _ => stepG_block) ?_) | ((with_reducible refine gd_inb ?_); refine rr_ctl hB rfl (fun _ => stepG_inBlock) ?_) | ((with_reducible refine gd_ret ?_); refine rr_ctl hB rfl (fun _ => stepG_ret') ?_) | ((with_reducible refine gd_exit ?_); refine rr_ctl hB rfl (fun _ => stepG_exit rfl) ?_) | ((with_reducible refine gd_end ?_); refine rr_ctl hB rfl (fun _ => stepG_end) ?_))
    (refine rr_leave hB rfl rfl Try.func15 (fun w => ⟨results_tmp rfl _ _ w, events_results_tmp rfl _ _⟩) ?_)
    exact hret _ _ _ ⟨xs, hn, rfl, hF.rl, hF.sn⟩
end
end Go.Proofs.Ytiaebogolpcllaa.Crw
namespace Go.Proofs.Ytiaebogolpcllaa.Crw
open Go Go.Conc
set_option linter.unusedVariables false

def sum1 (l : List Int) : Int := l.foldr (· + ·) 0
def sum2 (l : List (List Int)) : Int := sum1 (l.map sum1)
theorem sum1_cons (x : Int) (l : List Int) : sum1 (x :: l) = x + sum1 l := rfl
theorem sum1_nil : sum1 [] = 0 := rfl
theorem sum1_append (l m : List Int) : sum1 (l ++ m) = sum1 l + sum1 m := by
  induction l with
  | nil => simp [sum1_nil]
  | cons x l ih => rw [List.cons_append, sum1_cons, sum1_cons, ih]; omega
theorem sum1_set {l : List Int} {j : Nat} {x : Int} (h : l[j]? = some x) (y : Int) : sum1 (l.set j y) = sum1 l + (y - x) := by
  induction l generalizing j with
  | nil => simp at h
  | cons z l ih =>
    cases j with
    | zero => simp at h; subst h; simp only [List.set_cons_zero, sum1_cons]; omega
    | succ j => simp only [List.set_cons_succ, sum1_cons]; rw [ih (by simpa using h)]; omega
theorem sum2_set {l : List (List Int)} {j : Nat} {x : List Int} (h : l[j]? = some x) (y : List Int) : sum2 (l.set j y) = sum2 l + (sum1 y - sum1 x) := by
  unfold sum2
  rw [List.map_set]
  exact sum1_set (by simp [h]) _
theorem sum1_nonneg {l : List Int} (h : ∀ x ∈ l, 0 ≤ x) : 0 ≤ sum1 l := by
  induction l with
  | nil => simp [sum1_nil]
  | cons x l ih =>
    have := ih fun y hy => h y (by simp [hy])
    have := h x (by simp)
    rw [sum1_cons]; omega
theorem sum1_le_of_mem {l : List Int} (h : ∀ x ∈ l, 0 ≤ x) {y : Int} (hy : y ∈ l) : y ≤ sum1 l := by
  induction l with
  | nil => simp at hy
  | cons x l ih =>
    have h0 := sum1_nonneg (l := l) fun z hz => h z (by simp [hz])
    have hx := h x (by simp)
    rw [sum1_cons]
    rcases List.mem_cons.1 hy with rfl | hy
    · omega
    · have := ih (fun z hz => h z (by simp [hz])) hy; omega
theorem sum2_nonneg {l : List (List Int)} (h : ∀ m ∈ l, ∀ x ∈ m, 0 ≤ x) : 0 ≤ sum2 l :=
  sum1_nonneg fun x hx => by
    obtain ⟨m, hm, rfl⟩ := List.mem_map.1 hx
    exact sum1_nonneg (h m hm)
theorem sum2_empty {l : List (List Int)} (h : ∀ m ∈ l, m = []) : sum2 l = 0 := by
  unfold sum2
  induction l with
  | nil => rfl
  | cons m l ih =>
    rw [List.map_cons, sum1_cons, ih fun x hx => h x (by simp [hx]), h m (by simp)]
    rfl
/-- Pointwise. -/
def leAll (a b : List Int) : Prop := a.length = b.length ∧ ∀ (i : Nat) x y, a[i]? = some x → b[i]? = some y → x ≤ y
theorem leAll.refl (a : List Int) : leAll a a := ⟨rfl, fun i x y h1 h2 => by rw [h1] at h2; cases h2; exact Int.le_refl _⟩
theorem leAll.trans {a b c : List Int} (h : leAll a b) (h' : leAll b c) : leAll a c :=
  ⟨h.1.trans h'.1, fun i x y h1 h2 => by
    have hi : i < b.length := by have := (List.getElem?_eq_some_iff.1 h1).1; have := h.1; omega
    exact Int.le_trans (h.2 i x _ h1 (List.getElem?_eq_getElem hi)) (h'.2 i _ y (List.getElem?_eq_getElem hi) h2)⟩
theorem leAll.sum {a b : List Int} (h : leAll a b) : sum1 a ≤ sum1 b := by
  induction a generalizing b with
  | nil => cases b with
    | nil => exact Int.le_refl _
    | cons _ _ => exact absurd h.1 (by simp)
  | cons x a ih => cases b with
    | nil => exact absurd h.1 (by simp)
    | cons y b =>
      have h1 := h.2 0 x y (by simp) (by simp)
      have h2 := ih (b := b) ⟨by simpa using h.1, fun i x y h3 h4 => h.2 (i + 1) x y (by simpa using h3) (by simpa using h4)⟩
      rw [sum1_cons, sum1_cons]; omega

def maxI : Int := 9223372036854775807
def Fine (all : List (List Int)) : Prop := (∀ l ∈ all, ∀ x ∈ l, 0 ≤ x) ∧ sum2 all ≤ maxI

structure TU where
  on : Bool
  b : Nat
  cur : List Int
  rem : List (List Int)
  all : List (List Int)
  sb : Option Nat
  st : Nat

structure TU.Ok (u : TU) : Prop where
  cong : (sum1 u.cur + sum2 u.rem - sum2 u.all) % 18446744073709551616 = 0
  fine : Fine u.all → sum1 u.cur + sum2 u.rem = sum2 u.all ∧ (∀ x ∈ u.cur, 0 ≤ x) ∧ ∀ l ∈ u.rem, ∀ x ∈ l, 0 ≤ x
  len : u.rem.length = u.all.length
  pos : 0 < u.cur.length
  few : u.cur.length ≤ 64
  rest : ∀ i, u.st ≤ i → u.rem[i]? = u.all[i]?

/-- What was looked at: never falls, never above all. -/
structure LookOk (all : List (List Int)) (vs : List Int) : Prop where
  up : ∀ (i : Nat) x y, vs[i]? = some x → vs[i + 1]? = some y → x ≤ y
  low : ∀ x ∈ vs, 0 ≤ x
  high : ∀ x ∈ vs, x ≤ sum2 all

def tallyU : Usr where
  U := TU
  J u m w := u.on = true → w.heap[u.b]? = some (.cells (ints u.cur).toArray 70 (0, 0)) ∧ (∀ a, a.block = u.b → m (.cell a) = .at) ∧ u.Ok
  Ru k u u' := ((u.on = false → u' = u) ∧ (k = 0 → u'.sb = u.sb ∧ u'.st = u.st) ∧ u.st ≤ u'.st) ∧ (u.on = true → u'.on = true ∧ u'.b = u.b ∧ u'.all = u.all ∧ u'.cur.length = u.cur.length ∧ (Fine u.all → leAll u.cur u'.cur) ∧ (1 ≤ k → u'.rem[k - 1]? = u.rem[k - 1]?) ∧
    ((∀ l ∈ u.rem, l = []) → u'.cur = u.cur ∧ u'.rem = u.rem) ∧ ∀ x, u.sb = some x → u'.sb = some x)
  Su k u w u' w' := u.on = true ∧ u.Ok ∧ 1 ≤ k ∧ k ≤ u.st ∧ ∃ j x d rest, u.cur[j]? = some x ∧ u.rem[k - 1]? = some (d :: rest) ∧
    u' = { u with cur := u.cur.set j (IntKind.i64.wrap (x + d)), rem := u.rem.set (k - 1) rest } ∧ w' = w.setCell ⟨u.b, j, none⟩ (.int .i64 (IntKind.i64.wrap (x + d)))
  Sp n u u' := u.on = true ∧ ((u.st ≤ n ∧ u' = { u with st := n }) ∨ (u.sb = none ∧ n = u.all.length + 1 ∧ ∃ x, u' = { u with sb := some x }))
  Fin u k m w := (1 ≤ k → k ≤ u.all.length → u.rem[k - 1]? = some []) ∧ (k = u.all.length + 1 → ∀ x, u.sb = some x → ∃ vs : List Int, w.heap[x]? = some (.cells (ints vs).toArray 2 (0, 0)) ∧ (∀ a, a.block = x → m (.cell a) = .own k) ∧ (Fine u.all → LookOk u.all vs))

theorem wrap_cong (x : Int) : (IntKind.i64.wrap x - x) % 18446744073709551616 = 0 := by rw [IntKind.wrap_i64]; omega
theorem wrap_id {x : Int} (h1 : 0 ≤ x) (h2 : x ≤ maxI) : IntKind.i64.wrap x = x := by rw [IntKind.wrap_i64]; unfold maxI at h2; omega

theorem set_mem {α : Type} {l : List α} {j : Nat} {y z : α} (h : z ∈ l.set j y) : z ∈ l ∨ z = y := by
  rcases List.mem_or_eq_of_mem_set h with h | h
  · exact .inl h
  · exact .inr h

theorem TU.Ok.add {u : TU} (h : u.Ok) {k j : Nat} {x d : Int} {rest : List Int} (hks : k < u.st) (hx : u.cur[j]? = some x) (hr : u.rem[k]? = some (d :: rest)) :
    TU.Ok { u with cur := u.cur.set j (IntKind.i64.wrap (x + d)), rem := u.rem.set k rest } ∧ (Fine u.all → leAll u.cur (u.cur.set j (IntKind.i64.wrap (x + d)))) := by
  have e1 := sum1_set hx (IntKind.i64.wrap (x + d))
  have e2 := sum2_set hr rest
  have hw := wrap_cong (x + d)
  have hxm : x ∈ u.cur := List.mem_of_getElem? hx
  have hrm : d :: rest ∈ u.rem := List.mem_of_getElem? hr
  rw [sum1_cons] at e2
  have key : Fine u.all → IntKind.i64.wrap (x + d) = x + d ∧ 0 ≤ x ∧ 0 ≤ d := fun hf => by
    obtain ⟨f1, f2, f3⟩ := h.fine hf
    have a1 := f2 x hxm
    have a2 := f3 _ hrm d (by simp)
    have a3 := sum1_le_of_mem f2 hxm
    have a4 : sum1 (d :: rest) ≤ sum2 u.rem := sum1_le_of_mem (l := u.rem.map sum1) (fun y hy => by
      obtain ⟨m, hm, rfl⟩ := List.mem_map.1 hy
      exact sum1_nonneg (f3 m hm)) (List.mem_map_of_mem hrm)
    rw [sum1_cons] at a4
    have a5 := sum1_nonneg (l := rest) fun y hy => f3 _ hrm y (by simp [hy])
    exact ⟨wrap_id (by omega) (by have := hf.2; omega), a1, a2⟩
  refine ⟨⟨?_, fun hf => ?_, by simpa using h.len, by simpa using h.pos, by simpa using h.few, fun i hi => ?_⟩, fun hf => ⟨by simp, fun i y z hy hz => ?_⟩⟩
  · show (sum1 (u.cur.set j _) + sum2 (u.rem.set k rest) - sum2 u.all) % _ = 0
    rw [e1, e2]
    have := h.cong
    omega
  · obtain ⟨f1, f2, f3⟩ := h.fine hf
    obtain ⟨k1, k2, k3⟩ := key hf
    refine ⟨?_, fun z hz => ?_, fun l hl z hz => ?_⟩
    · show sum1 (u.cur.set j _) + sum2 (u.rem.set k rest) = sum2 u.all
      rw [e1, e2, k1]; omega
    · rcases set_mem hz with hz | rfl
      · exact f2 z hz
      · rw [k1]; omega
    · rcases set_mem hl with hl | rfl
      · exact f3 l hl z hz
      · exact f3 _ hrm z (by simp [hz])
  · show (u.rem.set k rest)[i]? = u.all[i]?
    have hi' : u.st ≤ i := hi
    rw [List.getElem?_set_ne (by omega)]
    exact h.rest i hi'
  · obtain ⟨k1, k2, k3⟩ := key hf
    by_cases e : j = i
    · subst e
      have hj := (List.getElem?_eq_some_iff.1 hx).1
      rw [List.getElem?_set_self hj] at hz
      rw [hx] at hy
      cases hy; cases hz
      rw [k1]; omega
    · rw [List.getElem?_set_ne e] at hz
      rw [hy] at hz; cases hz
      exact Int.le_refl _

theorem tallyLaws : tallyU.Laws where
  refl k u := ⟨⟨fun _ => rfl, fun _ => ⟨rfl, rfl⟩, Nat.le_refl _⟩, fun h => ⟨h, rfl, rfl, rfl, fun _ => leAll.refl _, fun _ => rfl, fun _ => ⟨rfl, rfl⟩, fun _ h => h⟩⟩
  trans := by
    rintro k a b c ⟨⟨h0, hs, ht⟩, h⟩ ⟨⟨h0', hs', ht'⟩, h'⟩
    refine ⟨⟨fun e => by have := h0 e; subst this; exact h0' e, fun e => ⟨(hs' e).1.trans (hs e).1, (hs' e).2.trans (hs e).2⟩, Nat.le_trans ht ht'⟩, fun e => ?_⟩
    obtain ⟨a1, a2, a3, a4, a5, a6, a7, a8⟩ := h e
    obtain ⟨b1, b2, b3, b4, b5, b6, b7, b8⟩ := h' a1
    refine ⟨b1, b2.trans a2, b3.trans a3, b4.trans a4, fun hf => (a5 hf).trans (b5 (by rw [a3]; exact hf)), fun hk => (b6 hk).trans (a6 hk), fun hl => ?_, fun x hx => b8 x (a8 x hx)⟩
    obtain ⟨c1, c2⟩ := a7 hl
    obtain ⟨d1, d2⟩ := b7 (by rw [c2]; exact hl)
    exact ⟨d1.trans c1, d2.trans c2⟩
  stay := by
    intro u m m' w w' h hk hm ho
    obtain ⟨h1, h2, h3⟩ := h ho
    obtain ⟨c, e1, e2, e3⟩ := hk _ _ _ _ h1
    have : c = (ints u.cur).toArray := by
      apply Array.ext_getElem?
      exact fun off => e3 off (h2 _ rfl)
    exact ⟨this ▸ e1, fun a ha => hm _ (h2 a ha), h3⟩
  su := by
    rintro k u w u' w' m h ⟨ho, hok, k1, ks, j, x, d, rest, h1, h2, rfl, rfl⟩ _
    obtain ⟨g1, g2, g3⟩ := h ho
    refine ⟨?_, g2, (hok.add (by omega) h1 h2).1⟩
    show (w.setCell ⟨u.b, j, none⟩ _).heap[u.b]? = some (.cells (ints (u.cur.set j _)).toArray _ _)
    rw [setCell_cells w u.b j _ g1]
    simp [ints, List.map_set]
  suRu := by
    rintro i k u w u' w' ⟨ho, hok, i1, is, j, x, d, rest, h1, h2, rfl, rfl⟩ hne
    refine ⟨⟨fun e => absurd (ho.symm.trans e) (by simp), fun _ => ⟨rfl, rfl⟩, Nat.le_refl _⟩, fun _ => ⟨ho, rfl, rfl, by simp, (hok.add (by omega) h1 h2).2, fun k1 => ?_, fun hl => ?_, fun x hx => hx⟩⟩
    · show (u.rem.set (i - 1) rest)[k - 1]? = _
      rw [List.getElem?_set_ne (by omega)]
    · exact absurd (hl _ (List.mem_of_getElem? h2)) (by simp)
  suFin := by
    rintro i k u w u' w' m w₁ ⟨ho, hok, i1, is, j, x, d, rest, h1, h2, rfl, rfl⟩ hne ⟨f1, f2⟩
    refine ⟨fun k1 hk => ?_, f2⟩
    show (u.rem.set (i - 1) rest)[k - 1]? = _
    rw [List.getElem?_set_ne (by omega)]
    exact f1 k1 hk
  sp := by
    rintro n u u' m w h ⟨ho, ⟨hn, rfl⟩ | ⟨_, _, x, rfl⟩⟩
    · obtain ⟨h1, h2, h3⟩ := h ho
      exact fun _ => ⟨h1, h2, h3.cong, h3.fine, h3.len, h3.pos, h3.few, fun i hi => h3.rest i (Nat.le_trans hn hi)⟩
    · obtain ⟨h1, h2, h3⟩ := h ho
      exact fun _ => ⟨h1, h2, h3.cong, h3.fine, h3.len, h3.pos, h3.few, h3.rest⟩
  spRu := by
    rintro n k u u' ⟨ho, ⟨hn, rfl⟩ | ⟨hs, _, x, rfl⟩⟩ k1 hk
    · exact ⟨⟨fun e => absurd (ho.symm.trans e) (by simp), fun e => by omega, hn⟩, fun _ => ⟨ho, rfl, rfl, rfl, fun _ => leAll.refl _, fun _ => rfl, fun _ => ⟨rfl, rfl⟩, fun _ h => h⟩⟩
    · exact ⟨⟨fun e => absurd (ho.symm.trans e) (by simp), fun e => by omega, Nat.le_refl _⟩, fun _ => ⟨ho, rfl, rfl, rfl, fun _ => leAll.refl _, fun _ => rfl, fun _ => ⟨rfl, rfl⟩, fun y hy => (by rw [hs] at hy; cases hy)⟩⟩
  spFin := by
    rintro n k u u' m w ⟨ho, ⟨_, rfl⟩ | ⟨hs, hn, x, rfl⟩⟩ k1 hk ⟨f1, f2⟩
    · exact ⟨f1, f2⟩
    · exact ⟨f1, fun e => by have e' : k = u.all.length + 1 := e; omega⟩
  finStay := by
    rintro u k m m' w w' ⟨f1, f2⟩ hk hm
    refine ⟨f1, fun e x hx => ?_⟩
    obtain ⟨vs, h1, h2, h3⟩ := f2 e x hx
    obtain ⟨c, e1, e2, e3⟩ := hk _ _ _ _ h1
    have : c = (ints vs).toArray := by
      apply Array.ext_getElem?
      exact fun off => e3 off (h2 _ rfl)
    exact ⟨vs, this ▸ e1, fun a ha => hm _ (h2 a ha), h3⟩
end Go.Proofs.Ytiaebogolpcllaa.Crw
