/- A crowd adds: one who adds.
No condition. -/
import Derived.Test.YtiaebogolpcllaaVj
import Derived.Test.YtiaebogolpcllaaVh
set_option linter.unusedSimpArgs false
set_option linter.unusedVariables false
namespace Go.Proofs.Ytiaebogolpcllaa.Crw
open Go Go.Conc Go.RowKit Go.Conc.Lib Go.ConcR.Gen
open Go.ConcN (upd upd_same upd_ne)
open Go.ConcR (stA smA KK WgAt wgBlock rd wr mk)
set_option linter.unusedVariables false
set_option maxRecDepth 100000
set_option maxHeartbeats 4000000

noncomputable def bot : Frame := { (default : Frame) with fn := Try.prog.funcs.size, defers := [], mode := .panicking [goexitEntry] }
/-- The call that a go statement holds. -/
def callOf (f : FuncId) (a b c : Nat) : Deferred := { target := .fn (.func f) #[.pointer (some ⟨a, 0, none⟩), .pointer (some ⟨b, 0, none⟩), .pointer (some ⟨c, 0, none⟩)], args := #[] }
noncomputable def bodyAdder : Code := Try.f11.body.getD .skip

section
variable {E : Env} {Post : Value → World → Prop} {Child : Sit (proto Try.prog tallyU E Post)} {k : Nat} {s s' s₁ : St tallyU} {w w' w₁ : World}

/-- A slice of additions, as it lies. -/
def Lst (k : Nat) (s : St tallyU) (w : World) (v : Value) (l : List (Int × Int)) : Prop :=
  ∃ A cap, v = .slice A l.length cap ∧ (l = [] ∨ ∃ g vs, A = some ⟨g, 0, none⟩ ∧ Rds k s w g 49 vs ∧ ∀ (i : Nat) x, l[i]? = some x → vs[i * 2]? = some (.int .i64 x.1) ∧ vs[i * 2 + 1]? = some (.int .i64 x.2))
theorem Lst.rely {v : Value} {l : List (Int × Int)} (h : Lst k s w v l) (r : Rl k s w s₁ w₁) : Lst k s₁ w₁ v l := by
  obtain ⟨A, cap, e, h | ⟨g, vs, h1, h2, h3⟩⟩ := h
  · exact ⟨A, cap, e, .inl h⟩
  · exact ⟨A, cap, e, .inr ⟨g, vs, h1, h2.rely r, h3⟩⟩
theorem Lst.step {v : Value} {l : List (Int × Int)} (h : Lst k s w v l) (hl : ∀ b, v.ownBlock = some b → b < w.heap.size → Leaves b s w s₁ w₁) : Lst k s₁ w₁ v l := by
  obtain ⟨A, cap, e, h | ⟨g, vs, h1, h2, h3⟩⟩ := h
  · exact ⟨A, cap, e, .inl h⟩
  · exact ⟨A, cap, e, .inr ⟨g, vs, h1, h2.leaves (hl g (by rw [e, h1]; rfl) h2.lt), h3⟩⟩
theorem Lst.cell {A : Option Addr} {n cap : Nat} {l : List (Int × Int)} (h : Lst k s w (.slice A n cap) l) {i : Nat} (hi : i < l.length) :
    ∃ g, A = some ⟨g, 0, none⟩ ∧ w.cell? ⟨g, i * 2, none⟩ = some (.int .i64 l[i].1) ∧ w.cell? ⟨g, i * 2 + 1, none⟩ = some (.int .i64 l[i].2) ∧ (∀ a, a.block = g → May s.tg k (.cell a)) ∧ g < w.heap.size := by
  obtain ⟨A', cap', e, h | ⟨g, vs, h1, h2, h3⟩⟩ := h
  · subst h; simp at hi
  · cases e
    obtain ⟨h4, h5⟩ := h3 i l[i] (List.getElem?_eq_getElem hi)
    exact ⟨g, h1, (h2.cell _).trans h4, (h2.cell _).trans h5, h2.md, h2.lt⟩

/-- What one who adds knows. -/
structure AdF (k Wg av cv cb b n : Nat) (tb : TypeId) (v : Value) (l : List (Int × Int)) (i : Nat) (s : St tallyU) (w : World) : Prop where
  ws : WS Wg k 0 false s
  av : Rds k s w av 46 [v]
  cv : Rds k s w cv 33 [.pointer (some ⟨cb, 0, none⟩)]
  cb : Rds k s w cb tb [.slice (some ⟨b, 0, none⟩) n n]
  ls : Lst k s w v l
  hd : s.tg.hd = none
  on : s.u.on = true
  ub : s.u.b = b
  un : s.u.cur.length = n
  all : k ≤ s.u.all.length
  st : k ≤ s.u.st
  rem : s.u.rem[k - 1]? = some ((l.drop i).map Prod.snd)
section
variable {Wg av cv cb b n i : Nat} {tb : TypeId} {v : Value} {l : List (Int × Int)}
theorem AdF.rely (k1 : 1 ≤ k) (h : AdF k Wg av cv cb b n tb v l i s w) (r : Rl k s w s₁ w₁) : AdF k Wg av cv cb b n tb v l i s₁ w₁ := by
  obtain ⟨r1, r2, r3, r4, r5, r6, r7, r8⟩ := r.ru.2 h.on
  exact ⟨h.ws.rely k1 r, h.av.rely r, h.cv.rely r, h.cb.rely r, h.ls.rely r, r.hd.trans h.hd, r1, r2.trans h.ub, r4.trans h.un, by rw [r3]; exact h.all, Nat.le_trans h.st r.ru.1.2.2, (r6 k1).trans h.rem⟩
theorem AdF.step (h : AdF k Wg av cv cb b n tb v l i s w) {mode' : Loc → Mode} (hl : ∀ b', (b' = av ∨ b' = cv ∨ b' = cb ∨ v.ownBlock = some b') → b' < w.heap.size → Leaves b' s w { s with tg := { s.tg with mode := mode' } } w') : AdF k Wg av cv cb b n tb v l i { s with tg := { s.tg with mode := mode' } } w' :=
  ⟨⟨h.ws.on, h.ws.wg, h.ws.df, h.ws.rl, h.ws.al⟩, h.av.leaves (hl _ (.inl rfl) h.av.lt), h.cv.leaves (hl _ (.inr (.inl rfl)) h.cv.lt), h.cb.leaves (hl _ (.inr (.inr (.inl rfl))) h.cb.lt), h.ls.step fun b hb => hl b (.inr (.inr (.inr hb))), h.hd, h.on, h.ub, h.un, h.all, h.st, h.rem⟩
theorem AdF.lts {g cap m : Nat} (h : AdF k Wg av cv cb b n tb (.slice (some ⟨g, 0, none⟩) m cap) l i s w) {j : Nat} (hj : j < l.length) : av < w.heap.size ∧ cv < w.heap.size ∧ cb < w.heap.size ∧ g < w.heap.size := by
  obtain ⟨g', e, _, _, _, h4⟩ := h.ls.cell hj
  cases e
  exact ⟨h.av.lt, h.cv.lt, h.cb.lt, h4⟩
end

theorem Rds.turn {b : Nat} {t : TypeId} {vs : List Value} (h : Rds k s w b t vs) (ht : Turn (fun b off => at' s.tg.mode b off = .at) w w') : Rds k s w' b t vs := by
  obtain ⟨c, e1, e2, e3⟩ := ht.keep (p := fun b off => May s.tg k (.cell ⟨b, off, none⟩)) (fun b off hm e => by
    rcases hm with x | ⟨_, x, _⟩ | ⟨x, _⟩ <;> cases x.symm.trans e) b _ t _ h.hp
  have : c = vs.toArray := by
    apply Array.ext_getElem?
    exact fun off => e3 off (h.md _ rfl)
  exact ⟨this ▸ e1, h.md⟩
theorem evOk_at {g : TG} {k sz : Nat} {a : Addr} {wr : Bool} (hm : g.mode (.cell a) = .at) (hl : a.block < sz) (hh : g.hd = none) : EvOk g k sz ⟨.cell a, wr, true⟩ := by
  refine ⟨fun x hx => ?_, fun a => by simp, fun h hh' sync e => by rw [hh] at hh'; cases hh'⟩
  have : x = ⟨.cell a, wr, .atomic⟩ := by cases wr <;> simp [MemAct.ofEvent, MemAct.touch?] at hx <;> exact hx.symm
  subst this
  exact ⟨hl, fun _ => .inl (.inl hm)⟩

/-- The step by which one number is added. -/
theorem AdF.add {Wg av cv cb b n i : Nat} {tb : TypeId} {v : Value} {l : List (Int × Int)} (k1 : 1 ≤ k) (h : AdF k Wg av cv cb b n tb v l i s w) (hI : Ok E s w) (hi : i < l.length) (j : Nat) (hj : j < n) :
    ∃ (y : Int) (s' : St tallyU), w.cell? ⟨b, j, none⟩ = some (.int .i64 y) ∧ w.frozen? ⟨b, j, none⟩ = false ∧ Mv E k s w s' (w.setCell ⟨b, j, none⟩ (.int .i64 (IntKind.wrap .i64 (y + l[i].2)))) #[rd ⟨b, j, none⟩, wr ⟨b, j, none⟩] ∧ Soft s s' ∧
      AdF k Wg av cv cb b n tb v l (i + 1) s' (w.setCell ⟨b, j, none⟩ (.int .i64 (IntKind.wrap .i64 (y + l[i].2)))) := by
  obtain ⟨g1, g2, g3⟩ := hI.J h.on
  rw [h.ub] at g1 g2
  have hjl : j < s.u.cur.length := by rw [h.un]; exact hj
  have hcur : s.u.cur[j]? = some s.u.cur[j] := List.getElem?_eq_getElem hjl
  have hrem := h.rem
  rw [List.drop_eq_getElem_cons hi, List.map_cons] at hrem
  have turn : Turn (fun b off => at' s.tg.mode b off = .at) w (w.setCell ⟨b, j, none⟩ (.int .i64 (IntKind.wrap .i64 (s.u.cur[j] + l[i].2)))) := Turn.setCell w b j _ g1 (g2 _ rfl)
  refine ⟨s.u.cur[j], { s with u := { s.u with cur := s.u.cur.set j (IntKind.i64.wrap (s.u.cur[j] + l[i].2)), rem := s.u.rem.set (k - 1) ((l.drop (i + 1)).map Prod.snd) } }, ?_, ?_, ?_, ⟨rfl, rfl⟩, ?_⟩
  · simp [World.cell?, g1, ints, hcur, hjl]
  · simp [World.frozen?, g1]
  · refine Mv.usr (.inr h.ws.rl) turn (setCell_size _ _ _) ⟨h.on, g3, k1, h.st, j, _, _, _, hcur, hrem, rfl, by rw [h.ub]⟩ (fun e he => ?_) (fun e he => ?_)
    · have hlt : b < w.heap.size := (Array.getElem?_eq_some_iff.1 g1).1
      simp at he
      rcases he with rfl | rfl
      · exact evOk_at (g2 _ rfl) hlt h.hd
      · exact evOk_at (g2 _ rfl) hlt h.hd
    · simp at he
      rcases he with rfl | rfl <;> simp [rd, wr]
  · obtain ⟨A, cap, e, hl⟩ := h.ls
    refine ⟨⟨h.ws.on, h.ws.wg, h.ws.df, h.ws.rl, h.ws.al⟩, ⟨(h.av.turn turn).hp, h.av.md⟩, ⟨(h.cv.turn turn).hp, h.cv.md⟩, ⟨(h.cb.turn turn).hp, h.cb.md⟩, ⟨A, cap, e, hl.imp id fun ⟨g, vs, h1, h2, h3⟩ => ⟨g, vs, h1, ⟨(h2.turn turn).hp, h2.md⟩, h3⟩⟩, h.hd, h.on, h.ub, by simpa using h.un, h.all, h.st, ?_⟩
    show (s.u.rem.set (k - 1) _)[k - 1]? = _
    rw [List.getElem?_set_self (List.getElem?_eq_some_iff.1 h.rem).1]

theorem born_adder (main : Bool) (a b c : Nat) (w : World) : stepG Try.prog main (born Try.prog (callOf 11 a b c)) w =
    .go (G ((baseD 11).at ⟨#[.pointer (some ⟨a, 0, none⟩), .pointer (some ⟨b, 0, none⟩), .pointer (some ⟨c, 0, none⟩), undef, undef, undef, undef, undef, undef, undef, undef, undef, undef, undef, undef, undef, undef, undef], []⟩ [.code bodyAdder]) [bot]) w #[] := by
  simp [born, callOf, stepG, unwind, callDeferred, invoke, callFunc, Try.func11, Try.f11, seen, GStep.after, G, Frame.enter, Frame.at, baseD, bot, bodyAdder]

theorem quits_adder (T : Array Value) (todo : List Item) : QuitsD Try.prog 2 0 (G { (baseD 11).at ⟨T, []⟩ todo with mode := .returning } [bot]) := by
  refine QuitsD.ctl (g' := G bot []) rfl (fun w => ?_) ?_
  · simp [G, stepG, unwind, doReturn, results, Frame.at, baseD, bot, Try.func11, Try.f11, seen, GStep.after, goexitEntry]
  refine QuitsD.ctl (g' := { G bot [] with status := .finished }) rfl (fun w => ?_) ⟨rfl, rfl⟩
  simp [G, stepG, unwind, bot, goexitEntry, Frame.catches]
  rfl

theorem adder_runs (hB : tallyU.Laws) {Wg av cv cb b n : Nat} {tb : TypeId} {v : Value} {l : List (Int × Int)} (k1 : 1 ≤ k) (hn : 0 < n) (hn2 : n ≤ 64) (hlen : l.length ≤ maxLen) (hF : AdF k Wg av cv cb b n tb v l 0 s w) :
    RR Try.prog tallyU E Post Child k (born Try.prog (callOf 11 Wg av cv)) s w := by
  refine rr_ctl hB rfl (fun _ => born_adder _ _ _ _ _) ?_
  simp only [bodyAdder, Try.f11, Option.getD_some]
  repeat (first | ((with_reducible refine gd_op ?_); first | (refine rr_pure' hB rfl (by rfl) (by k_ne) (by rfl) (fun w₁ => by first | (simp [go_sem]; done) | simp [go_sem, *]) (fun w₁ K hK => ?_); go_simp; refine hK _ ?_; clear hK K w₁; try walk_nrm) | (refine rr_ctl hB rfl (fun _ => stepG_unwanted rfl rfl) ?_; try walk_nrm)) | ((with_reducible refine gd_rend ?_); (refine rr_regend hB hKr ?_; clear hKr Kr)) | ((with_reducible refine gd_seq ?_); refine rr_ctl hB rfl (fun _ => stepG_seq) ?_) | ((with_reducible refine gd_reg ?_); (refine rr_reg hB (fun Kr hKr => ?_); simp only [List.size_toArray, List.length_cons, List.length_nil, Nat.reduceAdd, Nat.zero_add, List.range, List.range.loop])) | ((with_reducible refine gd_skip ?_); refine rr_ctl hB rfl (fun _ => stepG_skip) ?_) | ((with_reducible refine gd_block ?_); refine rr_ctl hB rfl (fun _ => stepG_block) ?_) | ((with_reducible refine gd_inb ?_); refine rr_ctl hB rfl (fun _ => stepG_inBlock) ?_) | ((with_reducible refine gd_ret ?_); refine rr_ctl hB rfl (fun _ => stepG_ret') ?_) | ((with_reducible refine gd_exit ?_); refine rr_ctl hB rfl (fun _ => stepG_exit rfl) ?_) | ((with_reducible refine gd_end ?_); refine rr_ctl hB rfl (fun _ => stepG_end) ?_))
  (refine rr_defer hB rfl (by rfl) (by k_ne) rfl ?_; walk_nrm)
  repeat (first | ((with_reducible refine gd_op ?_); first | (refine rr_pure' hB rfl (by rfl) (by k_ne) (by rfl) (fun w₁ => by first | (simp [go_sem]; done) | simp [go_sem, *]) (fun w₁ K hK => ?_); go_simp; refine hK _ ?_; clear hK K w₁; try walk_nrm) | (refine rr_ctl hB rfl (fun _ => stepG_unwanted rfl rfl) ?_; try walk_nrm)) | ((with_reducible refine gd_rend ?_); (refine rr_regend hB hKr ?_; clear hKr Kr)) | ((with_reducible refine gd_seq ?_); refine rr_ctl hB rfl (fun _ => stepG_seq) ?_) | ((with_reducible refine gd_reg ?_); (refine rr_reg hB (fun Kr hKr => ?_); simp only [List.size_toArray, List.length_cons, List.length_nil, Nat.reduceAdd, Nat.zero_add, List.range, List.range.loop])) | ((with_reducible refine gd_skip ?_); refine rr_ctl hB rfl (fun _ => stepG_skip) ?_) | ((with_reducible refine gd_block ?_); refine rr_ctl hB rfl (fun _ => stepG_block) ?_) | ((with_reducible refine gd_inb ?_); refine rr_ctl hB rfl (fun _ => stepG_inBlock) ?_) | ((with_reducible refine gd_ret ?_); refine rr_ctl hB rfl (fun _ => stepG_ret') ?_) | ((with_reducible refine gd_exit ?_); refine rr_ctl hB rfl (fun _ => stepG_exit rfl) ?_) | ((with_reducible refine gd_end ?_); refine rr_ctl hB rfl (fun _ => stepG_end) ?_))
  (refine rr_oper rfl (by rfl) (by k_ne) (fun s₁ w₁ hR hI K hK => ?_); replace hF := (AdF.rely k1) hF hR; clear hR; have := hF.av.cell 0; go_simp; refine hK _ _ ⟨s₁, mv_rd (.inr hF.ws.rl) (fun e he => ?_), .refl _, ?_⟩; (focus (have hm := mem_listed he; simp [go_sem, *] at hm; (subst hm; exact ⟨_, rfl, hF.av.md _ rfl, hF.av.lt⟩))); clear hK K; try walk_nrm)
  obtain ⟨A, cap, rfl, _⟩ := hF.ls
  repeat (first | ((with_reducible refine gd_op ?_); first | (refine rr_pure' hB rfl (by rfl) (by k_ne) (by rfl) (fun w₁ => by first | (simp [go_sem]; done) | simp [go_sem, *]) (fun w₁ K hK => ?_); go_simp; refine hK _ ?_; clear hK K w₁; try walk_nrm) | (refine rr_ctl hB rfl (fun _ => stepG_unwanted rfl rfl) ?_; try walk_nrm)) | ((with_reducible refine gd_rend ?_); (refine rr_regend hB hKr ?_; clear hKr Kr)) | ((with_reducible refine gd_seq ?_); refine rr_ctl hB rfl (fun _ => stepG_seq) ?_) | ((with_reducible refine gd_reg ?_); (refine rr_reg hB (fun Kr hKr => ?_); simp only [List.size_toArray, List.length_cons, List.length_nil, Nat.reduceAdd, Nat.zero_add, List.range, List.range.loop])) | ((with_reducible refine gd_skip ?_); refine rr_ctl hB rfl (fun _ => stepG_skip) ?_) | ((with_reducible refine gd_block ?_); refine rr_ctl hB rfl (fun _ => stepG_block) ?_) | ((with_reducible refine gd_inb ?_); refine rr_ctl hB rfl (fun _ => stepG_inBlock) ?_) | ((with_reducible refine gd_ret ?_); refine rr_ctl hB rfl (fun _ => stepG_ret') ?_) | ((with_reducible refine gd_exit ?_); refine rr_ctl hB rfl (fun _ => stepG_exit rfl) ?_) | ((with_reducible refine gd_end ?_); refine rr_ctl hB rfl (fun _ => stepG_end) ?_))
  refine rr_loop hB (fun m a s w => ∃ T i, a = ⟨T, [dcall 12 #[.pointer (some ⟨Wg, 0, none⟩)]]⟩ ∧ T.size = 18 ∧ T[0]? = some (.pointer (some ⟨Wg, 0, none⟩)) ∧ T[2]? = some (.pointer (some ⟨cv, 0, none⟩)) ∧ T[5]? = some (.slice A l.length cap) ∧ T[6]? = some (.int .i64 l.length) ∧ T[7]? = some (.int .i64 (i : Nat)) ∧ i ≤ l.length ∧ m = l.length - i ∧ AdF k Wg av cv cb b n tb (.slice A l.length cap) l i s w) l.length ⟨_, 0, rfl, rfl, rfl, rfl, rfl, rfl, rfl, Nat.zero_le _, rfl, hF⟩ ?_
  clear hF
  rintro m a s w ⟨T, i, rfl, hT, t0, t2, t5, t6, t7, hle, rfl, hF⟩ ih
  obtain ⟨T⟩ := T
  ((iterate 18 (rcases T with _ | ⟨_, T⟩; focus (simp at hT))); rcases T with _ | ⟨_, _⟩; rotate_left; focus (simp at hT))
  simp only [List.getElem?_toArray, List.getElem?_cons_succ, List.getElem?_cons_zero, Option.some.injEq] at t0 t2 t5 t6 t7
  subst t0 t2 t5 t6 t7
  simp only [maxLen] at hlen
  repeat (first | ((with_reducible refine gd_op ?_); first | (refine rr_pure' hB rfl (by rfl) (by k_ne) (by rfl) (fun w₁ => by first | (simp [go_sem]; done) | simp [go_sem, *]) (fun w₁ K hK => ?_); go_simp; refine hK _ ?_; clear hK K w₁; try walk_nrm) | (refine rr_ctl hB rfl (fun _ => stepG_unwanted rfl rfl) ?_; try walk_nrm)) | ((with_reducible refine gd_rend ?_); (refine rr_regend hB hKr ?_; clear hKr Kr)) | ((with_reducible refine gd_seq ?_); refine rr_ctl hB rfl (fun _ => stepG_seq) ?_) | ((with_reducible refine gd_reg ?_); (refine rr_reg hB (fun Kr hKr => ?_); simp only [List.size_toArray, List.length_cons, List.length_nil, Nat.reduceAdd, Nat.zero_add, List.range, List.range.loop])) | ((with_reducible refine gd_skip ?_); refine rr_ctl hB rfl (fun _ => stepG_skip) ?_) | ((with_reducible refine gd_block ?_); refine rr_ctl hB rfl (fun _ => stepG_block) ?_) | ((with_reducible refine gd_inb ?_); refine rr_ctl hB rfl (fun _ => stepG_inBlock) ?_) | ((with_reducible refine gd_ret ?_); refine rr_ctl hB rfl (fun _ => stepG_ret') ?_) | ((with_reducible refine gd_exit ?_); refine rr_ctl hB rfl (fun _ => stepG_exit rfl) ?_) | ((with_reducible refine gd_end ?_); refine rr_ctl hB rfl (fun _ => stepG_end) ?_))
  by_cases hlt : i < l.length
  · have hk2 : 0 ≤ (i : Int) ∧ (i : Int) < l.length := ⟨by omega, by omega⟩
    have hw1 : IntKind.i64.wrap ((i : Int) + 1) = ((i + 1 : Nat) : Int) := by rw [IntKind.wrap_i64]; omega
    (refine rr_ctl hB rfl (fun _ => stepG_cond (t := true) (by first | rfl | (simp [Act.eval, *]))) ?_; simp only [if_true, if_false, Bool.false_eq_true, ↓reduceIte])
    obtain ⟨g, rfl, _⟩ := hF.ls.cell hlt
    repeat (first | ((with_reducible refine gd_op ?_); first | (refine rr_pure' hB rfl (by rfl) (by k_ne) (by rfl) (fun w₁ => by first | (simp [go_sem]; done) | simp [go_sem, *]) (fun w₁ K hK => ?_); go_simp; refine hK _ ?_; clear hK K w₁; try walk_nrm) | (refine rr_ctl hB rfl (fun _ => stepG_unwanted rfl rfl) ?_; try walk_nrm)) | ((with_reducible refine gd_rend ?_); (refine rr_regend hB hKr ?_; clear hKr Kr)) | ((with_reducible refine gd_seq ?_); refine rr_ctl hB rfl (fun _ => stepG_seq) ?_) | ((with_reducible refine gd_reg ?_); (refine rr_reg hB (fun Kr hKr => ?_); simp only [List.size_toArray, List.length_cons, List.length_nil, Nat.reduceAdd, Nat.zero_add, List.range, List.range.loop])) | ((with_reducible refine gd_skip ?_); refine rr_ctl hB rfl (fun _ => stepG_skip) ?_) | ((with_reducible refine gd_block ?_); refine rr_ctl hB rfl (fun _ => stepG_block) ?_) | ((with_reducible refine gd_inb ?_); refine rr_ctl hB rfl (fun _ => stepG_inBlock) ?_) | ((with_reducible refine gd_ret ?_); refine rr_ctl hB rfl (fun _ => stepG_ret') ?_) | ((with_reducible refine gd_exit ?_); refine rr_ctl hB rfl (fun _ => stepG_exit rfl) ?_) | ((with_reducible refine gd_end ?_); refine rr_ctl hB rfl (fun _ => stepG_end) ?_))
    refine rr_oper rfl (by rfl) (by k_ne) (fun s₁ w₁ hR hI K hK => ?_)
    replace hF := hF.rely k1 hR
    clear hR
    obtain ⟨g', e, h1, h2, h3, h4⟩ := hF.ls.cell hlt
    cases e
    go_simp
    refine hK _ _ ⟨s₁, mv_rd (.inr hF.ws.rl) (fun e he => ?_), .refl _, ?_⟩
    · have hm := mem_listed he
      simp [go_sem, *] at hm
      rcases hm with rfl | rfl
      · exact ⟨_, rfl, h3 _ rfl, h4⟩
      · exact ⟨_, rfl, h3 _ rfl, h4⟩
    clear hK K h1 h2 h3 h4
    try walk_nrm
    refine rr_oper rfl (by rfl) (by k_ne) (fun s₁ w₁ hR hI K hK => ?_)
    replace hF := hF.rely k1 hR
    clear hR
    go_simp
    refine hK _ _ ⟨_, mv_new_at (.inr hF.ws.rl) _ (listed_nil (by simp [go_sem, *])), St.take_soft _ _ _ _, ?_⟩
    clear hK K
    have hlv := hF.lts hlt
    have hO : Own k (s₁.take k w₁.heap.size (w₁.heap.size + 1)) (w₁.alloc (.cells #[.int .i64 0, .int .i64 0] 49)) w₁.heap.size 49 [.int .i64 0, .int .i64 0] := own_new s₁ w₁ [.int .i64 0, .int .i64 0] 49
    replace hF : AdF k Wg av cv cb b n tb (.slice (some ⟨g, 0, none⟩) l.length cap) l i (s₁.take k w₁.heap.size (w₁.heap.size + 1)) (w₁.alloc (.cells #[.int .i64 0, .int .i64 0] 49)) := hF.step fun bb _ hb => leaves_new hb _
    have hlow : ∀ b', (b' = av ∨ b' = cv ∨ b' = cb ∨ (Value.slice (some ⟨g, 0, none⟩) l.length cap).ownBlock = some b') → b' ≠ w₁.heap.size := by
      rintro b' (rfl | rfl | rfl | e) e2
      · exact absurd hlv.1 (by omega)
      · exact absurd hlv.2.1 (by omega)
      · exact absurd hlv.2.2.1 (by omega)
      · simp [Value.ownBlock] at e; exact absurd hlv.2.2.2 (by omega)
    generalize w₁.alloc (.cells #[.int .i64 0, .int .i64 0] 49) = w at *
    generalize s₁.take k w₁.heap.size (w₁.heap.size + 1) = s at *
    generalize w₁.heap.size = N at *
    try walk_nrm
    refine rr_oper rfl (by rfl) (by k_ne) (fun s₁ w₁ hR hI K hK => ?_)
    replace hF := hF.rely k1 hR
    replace hO := hO.rely hR
    clear hR
    have h0 := hO.cell 0
    have h1 := hO.cell 1
    have z0 := hO.frozen 0
    have z1 := hO.frozen 1
    simp only [List.getElem?_cons_zero, List.getElem?_cons_succ] at h0 h1
    go_simp
    refine hK _ _ ⟨s₁, mv_set2 hI (.inr hF.ws.rl) hO 0 1 _ _ (fun e he => ?_), .refl _, ?_⟩
    · have hm := mem_listed he
      simp [go_sem, *] at hm
      rcases hm with rfl | rfl
      · exact ⟨0, rfl⟩
      · exact ⟨1, rfl⟩
    clear hK K h0 h1 z0 z1
    replace hO := (hO.set 0 (.int .i64 l[i].1)).set 1 (.int .i64 l[i].2)
    simp only [List.set_cons_zero, List.set_cons_succ] at hO
    replace hF : AdF k Wg av cv cb b n tb (.slice (some ⟨g, 0, none⟩) l.length cap) l i s₁ _ := hF.step (mode' := s₁.tg.mode) (w' := (w₁.setCell ⟨N, 0, none⟩ (.int .i64 l[i].1)).setCell ⟨N, 1, none⟩ (.int .i64 l[i].2)) fun b' hb _ => ⟨(setCell_heap _ _ _ b' (hlow b' hb)).trans (setCell_heap _ _ _ b' (hlow b' hb)), fun _ _ => rfl, rfl⟩
    generalize (w₁.setCell ⟨N, 0, none⟩ (.int .i64 l[i].1)).setCell ⟨N, 1, none⟩ (.int .i64 l[i].2) = w at *
    clear hlow hlv
    have hFO := And.intro hF hO
    clear hF hO
    repeat (first | ((with_reducible refine gd_op ?_); first | (refine rr_pure' hB rfl (by rfl) (by k_ne) (by rfl) (fun w₁ => by first | (simp [go_sem]; done) | simp [go_sem, *]) (fun w₁ K hK => ?_); go_simp; refine hK _ ?_; clear hK K w₁; try walk_nrm) | (refine rr_ctl hB rfl (fun _ => stepG_unwanted rfl rfl) ?_; try walk_nrm)) | ((with_reducible refine gd_rend ?_); (refine rr_regend hB hKr ?_; clear hKr Kr)) | ((with_reducible refine gd_seq ?_); refine rr_ctl hB rfl (fun _ => stepG_seq) ?_) | ((with_reducible refine gd_reg ?_); (refine rr_reg hB (fun Kr hKr => ?_); simp only [List.size_toArray, List.length_cons, List.length_nil, Nat.reduceAdd, Nat.zero_add, List.range, List.range.loop])) | ((with_reducible refine gd_skip ?_); refine rr_ctl hB rfl (fun _ => stepG_skip) ?_) | ((with_reducible refine gd_block ?_); refine rr_ctl hB rfl (fun _ => stepG_block) ?_) | ((with_reducible refine gd_inb ?_); refine rr_ctl hB rfl (fun _ => stepG_inBlock) ?_) | ((with_reducible refine gd_ret ?_); refine rr_ctl hB rfl (fun _ => stepG_ret') ?_) | ((with_reducible refine gd_exit ?_); refine rr_ctl hB rfl (fun _ => stepG_exit rfl) ?_) | ((with_reducible refine gd_end ?_); refine rr_ctl hB rfl (fun _ => stepG_end) ?_))
    (refine rr_oper rfl (by rfl) (by k_ne) (fun s₁ w₁ hR hI K hK => ?_); replace hFO := (fun (h : AdF k Wg av cv cb b n tb (.slice (some ⟨g, 0, none⟩) l.length cap) l i _ _ ∧ Own k _ _ N 49 [.int .i64 l[i].1, .int .i64 l[i].2]) r => And.intro (h.1.rely k1 r) (h.2.rely r)) hFO hR; clear hR; have := hFO.1.cv.cell 0; go_simp; refine hK _ _ ⟨s₁, mv_rd (.inr hFO.1.ws.rl) (fun e he => ?_), .refl _, ?_⟩; (focus (have hm := mem_listed he; simp [go_sem, *] at hm; (subst hm; exact ⟨_, rfl, hFO.1.cv.md _ rfl, hFO.1.cv.lt⟩))); clear hK K; try walk_nrm)
    repeat (first | ((with_reducible refine gd_op ?_); first | (refine rr_pure' hB rfl (by rfl) (by k_ne) (by rfl) (fun w₁ => by first | (simp [go_sem]; done) | simp [go_sem, *]) (fun w₁ K hK => ?_); go_simp; refine hK _ ?_; clear hK K w₁; try walk_nrm) | (refine rr_ctl hB rfl (fun _ => stepG_unwanted rfl rfl) ?_; try walk_nrm)) | ((with_reducible refine gd_rend ?_); (refine rr_regend hB hKr ?_; clear hKr Kr)) | ((with_reducible refine gd_seq ?_); refine rr_ctl hB rfl (fun _ => stepG_seq) ?_) | ((with_reducible refine gd_reg ?_); (refine rr_reg hB (fun Kr hKr => ?_); simp only [List.size_toArray, List.length_cons, List.length_nil, Nat.reduceAdd, Nat.zero_add, List.range, List.range.loop])) | ((with_reducible refine gd_skip ?_); refine rr_ctl hB rfl (fun _ => stepG_skip) ?_) | ((with_reducible refine gd_block ?_); refine rr_ctl hB rfl (fun _ => stepG_block) ?_) | ((with_reducible refine gd_inb ?_); refine rr_ctl hB rfl (fun _ => stepG_inBlock) ?_) | ((with_reducible refine gd_ret ?_); refine rr_ctl hB rfl (fun _ => stepG_ret') ?_) | ((with_reducible refine gd_exit ?_); refine rr_ctl hB rfl (fun _ => stepG_exit rfl) ?_) | ((with_reducible refine gd_end ?_); refine rr_ctl hB rfl (fun _ => stepG_end) ?_))
    (refine rr_oper rfl (by rfl) (by k_ne) (fun s₁ w₁ hR hI K hK => ?_); replace hFO := (fun (h : AdF k Wg av cv cb b n tb (.slice (some ⟨g, 0, none⟩) l.length cap) l i _ _ ∧ Own k _ _ N 49 [.int .i64 l[i].1, .int .i64 l[i].2]) r => And.intro (h.1.rely k1 r) (h.2.rely r)) hFO hR; clear hR; have := hFO.2.cell 0; go_simp; refine hK _ _ ⟨s₁, mv_rd (.inr hFO.1.ws.rl) (fun e he => ?_), .refl _, ?_⟩; (focus (have hm := mem_listed he; simp [go_sem, *] at hm; (subst hm; exact ⟨_, rfl, .inl (hFO.2.md _ rfl), hFO.2.lt⟩))); clear hK K; try walk_nrm)
    repeat (first | ((with_reducible refine gd_op ?_); first | (refine rr_pure' hB rfl (by rfl) (by k_ne) (by rfl) (fun w₁ => by first | (simp [go_sem]; done) | simp [go_sem, *]) (fun w₁ K hK => ?_); go_simp; refine hK _ ?_; clear hK K w₁; try walk_nrm) | (refine rr_ctl hB rfl (fun _ => stepG_unwanted rfl rfl) ?_; try walk_nrm)) | ((with_reducible refine gd_rend ?_); (refine rr_regend hB hKr ?_; clear hKr Kr)) | ((with_reducible refine gd_seq ?_); refine rr_ctl hB rfl (fun _ => stepG_seq) ?_) | ((with_reducible refine gd_reg ?_); (refine rr_reg hB (fun Kr hKr => ?_); simp only [List.size_toArray, List.length_cons, List.length_nil, Nat.reduceAdd, Nat.zero_add, List.range, List.range.loop])) | ((with_reducible refine gd_skip ?_); refine rr_ctl hB rfl (fun _ => stepG_skip) ?_) | ((with_reducible refine gd_block ?_); refine rr_ctl hB rfl (fun _ => stepG_block) ?_) | ((with_reducible refine gd_inb ?_); refine rr_ctl hB rfl (fun _ => stepG_inBlock) ?_) | ((with_reducible refine gd_ret ?_); refine rr_ctl hB rfl (fun _ => stepG_ret') ?_) | ((with_reducible refine gd_exit ?_); refine rr_ctl hB rfl (fun _ => stepG_exit rfl) ?_) | ((with_reducible refine gd_end ?_); refine rr_ctl hB rfl (fun _ => stepG_end) ?_))
    (refine rr_oper rfl (by rfl) (by k_ne) (fun s₁ w₁ hR hI K hK => ?_); replace hFO := (fun (h : AdF k Wg av cv cb b n tb (.slice (some ⟨g, 0, none⟩) l.length cap) l i _ _ ∧ Own k _ _ N 49 [.int .i64 l[i].1, .int .i64 l[i].2]) r => And.intro (h.1.rely k1 r) (h.2.rely r)) hFO hR; clear hR; have := hFO.2.cell 1; go_simp; refine hK _ _ ⟨s₁, mv_rd (.inr hFO.1.ws.rl) (fun e he => ?_), .refl _, ?_⟩; (focus (have hm := mem_listed he; simp [go_sem, *] at hm; (subst hm; exact ⟨_, rfl, .inl (hFO.2.md _ rfl), hFO.2.lt⟩))); clear hK K; try walk_nrm)
    repeat (first | ((with_reducible refine gd_op ?_); first | (refine rr_pure' hB rfl (by rfl) (by k_ne) (by rfl) (fun w₁ => by first | (simp [go_sem]; done) | simp [go_sem, *]) (fun w₁ K hK => ?_); go_simp; refine hK _ ?_; clear hK K w₁; try walk_nrm) | (refine rr_ctl hB rfl (fun _ => stepG_unwanted rfl rfl) ?_; try walk_nrm)) | ((with_reducible refine gd_rend ?_); (refine rr_regend hB hKr ?_; clear hKr Kr)) | ((with_reducible refine gd_seq ?_); refine rr_ctl hB rfl (fun _ => stepG_seq) ?_) | ((with_reducible refine gd_reg ?_); (refine rr_reg hB (fun Kr hKr => ?_); simp only [List.size_toArray, List.length_cons, List.length_nil, Nat.reduceAdd, Nat.zero_add, List.range, List.range.loop])) | ((with_reducible refine gd_skip ?_); refine rr_ctl hB rfl (fun _ => stepG_skip) ?_) | ((with_reducible refine gd_block ?_); refine rr_ctl hB rfl (fun _ => stepG_block) ?_) | ((with_reducible refine gd_inb ?_); refine rr_ctl hB rfl (fun _ => stepG_inBlock) ?_) | ((with_reducible refine gd_ret ?_); refine rr_ctl hB rfl (fun _ => stepG_ret') ?_) | ((with_reducible refine gd_exit ?_); refine rr_ctl hB rfl (fun _ => stepG_exit rfl) ?_) | ((with_reducible refine gd_end ?_); refine rr_ctl hB rfl (fun _ => stepG_end) ?_))
    obtain ⟨hF, _⟩ := hFO
    (apply rr_call hB rfl (by rfl) (by k_ne) rfl; focus ((try walk_nrm); exact (cAdd_x hB (A := AdF k Wg av cv cb b n tb (.slice (some ⟨g, 0, none⟩) l.length cap) l i) (Q := AdF k Wg av cv cb b n tb (.slice (some ⟨g, 0, none⟩) l.length cap) l (i + 1)) (fun h r => h.rely k1 r) hn hn2 (fun h => h.cb) (fun h => .inr h.ws.rl) (fun s w h hI => h.add k1 hI hlt _ (shard_lt _ n hn)) hF)))
    clear hF
    rintro _ s w hF
    walk_nrm
    repeat (first | ((with_reducible refine gd_op ?_); first | (refine rr_pure' hB rfl (by rfl) (by k_ne) (by rfl) (fun w₁ => by first | (simp [go_sem]; done) | simp [go_sem, *]) (fun w₁ K hK => ?_); go_simp; refine hK _ ?_; clear hK K w₁; try walk_nrm) | (refine rr_ctl hB rfl (fun _ => stepG_unwanted rfl rfl) ?_; try walk_nrm)) | ((with_reducible refine gd_rend ?_); (refine rr_regend hB hKr ?_; clear hKr Kr)) | ((with_reducible refine gd_seq ?_); refine rr_ctl hB rfl (fun _ => stepG_seq) ?_) | ((with_reducible refine gd_reg ?_); (refine rr_reg hB (fun Kr hKr => ?_); simp only [List.size_toArray, List.length_cons, List.length_nil, Nat.reduceAdd, Nat.zero_add, List.range, List.range.loop])) | ((with_reducible refine gd_skip ?_); refine rr_ctl hB rfl (fun _ => stepG_skip) ?_) | ((with_reducible refine gd_block ?_); refine rr_ctl hB rfl (fun _ => stepG_block) ?_) | ((with_reducible refine gd_inb ?_); refine rr_ctl hB rfl (fun _ => stepG_inBlock) ?_) | ((with_reducible refine gd_ret ?_); refine rr_ctl hB rfl (fun _ => stepG_ret') ?_) | ((with_reducible refine gd_exit ?_); refine rr_ctl hB rfl (fun _ => stepG_exit rfl) ?_) | ((with_reducible refine gd_end ?_); refine rr_ctl hB rfl (fun _ => stepG_end) ?_))
    refine rr_ctl hB rfl (fun _ => stepG_inLoop) ?_
    exact ih (l.length - (i + 1)) _ _ _ (by omega) ⟨_, i + 1, rfl, rfl, rfl, rfl, rfl, rfl, rfl, by omega, rfl, hF⟩
  · (refine rr_ctl hB rfl (fun _ => stepG_cond (t := false) (by first | rfl | (simp [Act.eval, *]))) ?_; simp only [if_true, if_false, Bool.false_eq_true, ↓reduceIte])
    repeat (first | ((with_reducible refine gd_op ?_); first | (refine rr_pure' hB rfl (by rfl) (by k_ne) (by rfl) (fun w₁ => by first | (simp [go_sem]; done) | simp [go_sem, *]) (fun w₁ K hK => ?_); go_simp; refine hK _ ?_; clear hK K w₁; try walk_nrm) | (refine rr_ctl hB rfl (fun _ => stepG_unwanted rfl rfl) ?_; try walk_nrm)) | ((with_reducible refine gd_rend ?_); (refine rr_regend hB hKr ?_; clear hKr Kr)) | ((with_reducible refine gd_seq ?_); refine rr_ctl hB rfl (fun _ => stepG_seq) ?_) | ((with_reducible refine gd_reg ?_); (refine rr_reg hB (fun Kr hKr => ?_); simp only [List.size_toArray, List.length_cons, List.length_nil, Nat.reduceAdd, Nat.zero_add, List.range, List.range.loop])) | ((with_reducible refine gd_skip ?_); refine rr_ctl hB rfl (fun _ => stepG_skip) ?_) | ((with_reducible refine gd_block ?_); refine rr_ctl hB rfl (fun _ => stepG_block) ?_) | ((with_reducible refine gd_inb ?_); refine rr_ctl hB rfl (fun _ => stepG_inBlock) ?_) | ((with_reducible refine gd_ret ?_); refine rr_ctl hB rfl (fun _ => stepG_ret') ?_) | ((with_reducible refine gd_exit ?_); refine rr_ctl hB rfl (fun _ => stepG_exit rfl) ?_) | ((with_reducible refine gd_end ?_); refine rr_ctl hB rfl (fun _ => stepG_end) ?_))
    refine rr_ctl hB rfl (fun _ => stepG_unwind_enter rfl Try.func12 (by kernel_rfl) rfl) ?_
    have hnil : l.drop i = [] := List.drop_of_length_le (by omega)
    refine wgDone_x hB k1 (A := AdF k Wg av cv cb b n tb (.slice A l.length cap) l i) hF (fun h r => h.rely k1 r) (fun h => ⟨h.ws, fun _ _ => by have := h.rem; rw [hnil] at this; exact this, fun e => absurd e (by have := h.all; omega)⟩) rfl rfl (quits_adder _ _)
end
end Go.Proofs.Ytiaebogolpcllaa.Crw
namespace Go.Proofs.Ytiaebogolpcllaa.Crw
open Go Go.Conc Go.RowKit Go.Conc.Lib Go.ConcR.Gen
open Go.ConcN (upd upd_same upd_ne)
open Go.ConcR (stA smA KK WgAt wgBlock rd wr mk)
set_option linter.unusedVariables false
set_option maxRecDepth 100000
set_option maxHeartbeats 4000000

theorem sumW_eq (xs : List Int) : sumW xs = IntKind.i64.wrap (sum1 xs) := by
  have key : ∀ (xs : List Int) (a : Int), IntKind.i64.wrap a = a → xs.foldl (fun a x => IntKind.i64.wrap (a + x)) a = IntKind.i64.wrap (a + sum1 xs) := by
    intro xs
    induction xs with
    | nil => intro a ha; rw [sum1_nil]; simpa using ha.symm
    | cons x xs ih =>
      intro a ha
      rw [List.foldl_cons, ih _ (by simp only [IntKind.wrap_i64]; omega), sum1_cons]
      simp only [IntKind.wrap_i64]
      omega
  have := key xs 0 (by decide)
  rw [Int.zero_add] at this
  exact this
theorem leAll.nonneg {a b : List Int} (h : leAll a b) (h0 : ∀ x ∈ a, 0 ≤ x) : ∀ x ∈ b, 0 ≤ x := by
  intro y hy
  obtain ⟨i, hi⟩ := List.mem_iff_getElem?.1 hy
  have hl : i < a.length := by have := (List.getElem?_eq_some_iff.1 hi).1; have := h.1; omega
  have := h.2 i _ y (List.getElem?_eq_getElem hl) hi
  have := h0 _ (List.getElem_mem hl)
  omega

section
variable {E : Env} {Post : Value → World → Prop} {Child : Sit (proto Try.prog tallyU E Post)} {k : Nat} {s s' s₀ s₁ : St tallyU} {w w' w₀ w₁ : World}

theorem ctr_of {cb b n : Nat} {tb : TypeId} (hc : Rds k s w cb tb [.slice (some ⟨b, 0, none⟩) n n]) (hn : 0 < n) (hn2 : n ≤ 64) (hr : k = 0 ∨ s.tg.rel k = false) (on : s.u.on = true) (ub : s.u.b = b) (un : s.u.cur.length = n) : CtrAt (fun i x u => Seen (B := tallyU) E k s.u b i x u) E k s w cb b n tb := by
  refine ⟨hc, hn, hn2, hr, fun s₁ w₁ r hI j hj => ?_, fun _ _ _ _ h r => h.on tallyLaws r⟩
  obtain ⟨r1, r2, r3, r4, _⟩ := r.ru.2 on
  obtain ⟨g1, g2, _⟩ := hI.J r1
  have hjl : j < s₁.u.cur.length := by rw [r4, un]; exact hj
  rw [r2, ub] at g1 g2
  have hcell : w₁.cell? ⟨b, j, none⟩ = some (.int .i64 s₁.u.cur[j]) := by simp [World.cell?, g1, ints, List.getElem?_eq_getElem hjl]
  exact ⟨.inl (g2 _ rfl), s₁.u.cur[j], hcell, s₁, w₁, r.ru, hI, hcell, tallyLaws.refl _ _⟩

/-- What was seen, between what stood and what stands. -/
theorem seen_all {b n : Nat} {u₀ u : TU} (on : u₀.on = true) (ub : u₀.b = b) (un : u₀.cur.length = n) {xs : List Int} (hn : xs.length = n) (h : ∀ (i : Nat) x, xs[i]? = some x → Seen (B := tallyU) E k u₀ b i x u) (hu : tallyU.Ru k u₀ u) :
    (Fine u₀.all → leAll u₀.cur xs ∧ leAll xs u.cur) ∧ ((∀ l ∈ u₀.rem, l = []) → xs = u₀.cur) := by
  have one : ∀ (i : Nat) x, xs[i]? = some x → ∃ s₁ : St tallyU, tallyU.Ru k u₀ s₁.u ∧ s₁.u.cur[i]? = some x ∧ tallyU.Ru k s₁.u u := by
    intro i x hx
    obtain ⟨s₁, w₁, h1, h2, h3, h4⟩ := h i x hx
    obtain ⟨r1, r2, r3, r4, _⟩ := h1.2 on
    obtain ⟨g1, g2, _⟩ := h2.J r1
    refine ⟨s₁, h1, ?_, h4⟩
    have hil : i < s₁.u.cur.length := by rw [r4, un, ← hn]; exact (List.getElem?_eq_some_iff.1 hx).1
    rw [r2, ub] at g1
    simp [World.cell?, g1, ints, List.getElem?_eq_getElem hil] at h3
    rw [List.getElem?_eq_getElem hil, h3]
  have hlu := (hu.2 on).2.2.2.1
  refine ⟨fun hf => ⟨⟨by omega, fun i x y hx hy => ?_⟩, ⟨by omega, fun i x y hx hy => ?_⟩⟩, fun he => ?_⟩
  · obtain ⟨s₁, h1, h2, h3⟩ := one i y hy
    exact ((h1.2 on).2.2.2.2.1 hf).2 i x y hx h2
  · obtain ⟨s₁, h1, h2, h3⟩ := one i x hx
    obtain ⟨r1, r2, r3, _⟩ := h1.2 on
    exact ((h3.2 r1).2.2.2.2.1 (by rw [r3]; exact hf)).2 i x y h2 hy
  · apply List.ext_getElem?
    intro i
    rcases Nat.lt_or_ge i xs.length with hi | hi
    · obtain ⟨s₁, h1, h2, h3⟩ := one i _ (List.getElem?_eq_getElem hi)
      have e := ((h1.2 on).2.2.2.2.2.2.1 he).1
      rw [List.getElem?_eq_getElem hi, ← h2, e]
    · rw [List.getElem?_eq_none hi, List.getElem?_eq_none (by omega)]

/-- The looks so far. -/
def PreOk (u : TU) (vs : List Int) (i : Nat) : Prop :=
  Fine u.all → (∀ (j : Nat) x y, j + 1 < i → vs[j]? = some x → vs[j + 1]? = some y → x ≤ y) ∧ ∀ (j : Nat) x, j < i → vs[j]? = some x → 0 ≤ x ∧ x ≤ sum1 u.cur ∧ x ≤ sum2 u.all

structure LkF (k Wg sv cv cb b n : Nat) (tb : TypeId) (sb m : Nat) (vs : List Int) (i : Nat) (s : St tallyU) (w : World) : Prop where
  ws : WS Wg k 0 false s
  sv : Rds k s w sv 23 [.slice (some ⟨sb, 0, none⟩) m m]
  cv : Rds k s w cv 33 [.pointer (some ⟨cb, 0, none⟩)]
  cb : Rds k s w cb tb [.slice (some ⟨b, 0, none⟩) n n]
  own : Own k s w sb 2 (ints vs)
  len : vs.length = m
  on : s.u.on = true
  ub : s.u.b = b
  un : s.u.cur.length = n
  all : k = s.u.all.length + 1
  usb : s.u.sb = some sb
  pre : PreOk s.u vs i
section
variable {Wg sv cv cb b n i sb m : Nat} {tb : TypeId} {vs : List Int}
theorem LkF.rely (k1 : 1 ≤ k) (h : LkF k Wg sv cv cb b n tb sb m vs i s w) (r : Rl k s w s₁ w₁) : LkF k Wg sv cv cb b n tb sb m vs i s₁ w₁ := by
  obtain ⟨r1, r2, r3, r4, r5, r6, r7, r8⟩ := r.ru.2 h.on
  refine ⟨h.ws.rely k1 r, h.sv.rely r, h.cv.rely r, h.cb.rely r, h.own.rely r, h.len, r1, r2.trans h.ub, r4.trans h.un, by rw [r3]; exact h.all, r8 _ h.usb, fun hf => ?_⟩
  rw [r3] at hf
  obtain ⟨p1, p2⟩ := h.pre hf
  refine ⟨p1, fun j x hj hx => ?_⟩
  obtain ⟨q1, q2, q3⟩ := p2 j x hj hx
  have := (r5 hf).sum
  exact ⟨q1, by omega, by rw [r3]; exact q3⟩
theorem LkF.ctr (h : LkF k Wg sv cv cb b n tb sb m vs i s w) (hn : 0 < n) (hn2 : n ≤ 64) : CtrAt (fun i x u => Seen (B := tallyU) E k s.u b i x u) E k s w cb b n tb := ctr_of h.cb hn hn2 (.inr h.ws.rl) h.on h.ub h.un

/-- A look is put down. -/
theorem LkF.put (h0 : LkF k Wg sv cv cb b n tb sb m vs i s₀ w₀) (hR0 : tallyU.Ru k s₀.u s.u) (h : LkF k Wg sv cv cb b n tb sb m vs i s w) (hI : Ok E s w) (hi : i < m) {xs : List Int} (hxn : xs.length = n) (hsn : ∀ (j : Nat) x, xs[j]? = some x → Seen (B := tallyU) E k s₀.u b j x s.u) :
    LkF k Wg sv cv cb b n tb sb m (vs.set i (sumW xs)) (i + 1) s (w.setCell ⟨sb, i, none⟩ (.int .i64 (sumW xs))) := by
  have hne : ∀ b', b' < w.heap.size → (∀ a, a.block = b' → ∃ m, s.tg.mode (.cell a) ≠ .own k ∨ m = a) → True := fun _ _ _ => trivial
  have hO := h.own.set i (.int .i64 (sumW xs))
  have far : ∀ {bb : Nat} {t : TypeId} {v : Value}, Rds k s w bb t [v] → w.heap[bb]? ≠ w.heap[sb]? → Rds k s (w.setCell ⟨sb, i, none⟩ (.int .i64 (sumW xs))) bb t [v] := fun {bb t v} hr hne =>
    hr.leaves ⟨setCell_heap w _ _ bb (fun e => hne (by rw [show bb = sb from e])), fun _ _ => rfl, rfl⟩
  have hslice : ∀ {bb : Nat} {t : TypeId} {v : Value}, Rds k s w bb t [v] → (∀ z, v ≠ .int .i64 z) → w.heap[bb]? ≠ w.heap[sb]? := fun {bb t v} hr hv e => by
    rw [hr.hp, h.own.hp] at e
    have e1 : ([v] : List Value).toArray = (ints vs).toArray := by injection e with e; injection e
    have e2 : [v] = ints vs := by simpa using congrArg Array.toList e1
    cases vs with
    | nil => simp [ints] at e2
    | cons z zs => simp [ints] at e2; exact hv z e2.1
  refine ⟨h.ws, far h.sv (hslice h.sv (by simp)), far h.cv (hslice h.cv (by simp)), far h.cb (hslice h.cb (by simp)), by simpa [ints, List.map_set] using hO, by simpa using h.len, h.on, h.ub, h.un, h.all, h.usb, fun hf => ?_⟩
  obtain ⟨g1, g2, g3⟩ := hI.J h.on
  obtain ⟨f1, f2, f3⟩ := g3.fine hf
  obtain ⟨r1, r2, r3, r4, r5, _⟩ := hR0.2 h0.on
  have hf0 : Fine s₀.u.all := by rw [← r3]; exact hf
  obtain ⟨a1, a2⟩ := (seen_all h0.on h0.ub h0.un hxn hsn hR0).1 hf0
  have b1 := a1.sum
  have b2 := a2.sum
  have b3 : sum1 s.u.cur ≤ sum2 s.u.all := by have := sum2_nonneg f3; omega
  have c0 : ∀ x ∈ xs, 0 ≤ x := by
    intro x hx
    obtain ⟨j, hj⟩ := List.mem_iff_getElem?.1 hx
    obtain ⟨s₁, w₁, e1, e2, e3, e4⟩ := hsn j x hj
    obtain ⟨q1, q2, q3, q4, _⟩ := e1.2 h0.on
    obtain ⟨p1, p2, p3⟩ := e2.J q1
    have hjl : j < s₁.u.cur.length := by rw [q4, h0.un, ← hxn]; exact (List.getElem?_eq_some_iff.1 hj).1
    rw [q2, h0.ub] at p1
    simp [World.cell?, p1, ints, List.getElem?_eq_getElem hjl] at e3
    exact e3 ▸ (p3.fine (by rw [q3]; exact hf0)).2.1 _ (List.getElem_mem hjl)
  have hs0 := sum1_nonneg c0
  have hv : sumW xs = sum1 xs := by rw [sumW_eq]; exact wrap_id hs0 (by have := hf.2; omega)
  obtain ⟨p1, p2⟩ := h0.pre hf0
  have hil : i < vs.length := by rw [h.len]; exact hi
  refine ⟨fun j x y hj hx hy => ?_, fun j x hj hx => ?_⟩
  · rw [List.getElem?_set_ne (by omega)] at hx
    by_cases e : i = j + 1
    · subst e
      rw [List.getElem?_set_self hil] at hy
      cases hy
      have := (p2 j x (by omega) hx).2.1
      omega
    · rw [List.getElem?_set_ne e] at hy
      exact p1 j x y (by omega) hx hy
  · by_cases e : i = j
    · subst e
      rw [List.getElem?_set_self hil] at hx
      cases hx
      omega
    · rw [List.getElem?_set_ne e] at hx
      exact (h.pre hf).2 j x (by omega) hx
end
end
end Go.Proofs.Ytiaebogolpcllaa.Crw
