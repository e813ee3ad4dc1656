/- A crowd pushes: the law's awake, by a contract of the starter.
No condition. -/
import Derived.Test.YtbamamkjmfkghaaVk
import Derived.Test.YtbamamkjmfkghaaVo
import Derived.Test.YtbamamkjmfkghaaVs
import Derived.Test.YtbamamkjmfkghaaVe
set_option linter.unusedSimpArgs false
set_option linter.unusedVariables false
namespace Go.Proofs.Ytbamamkjmfkghaa.Crw
open Go Go.Conc Go.RowKit Go.Conc.Lib Go.ConcR.Gen
open Go.ConcN (upd upd_same upd_ne)
open Go.ConcR (stA smA KK WgAt wgBlock rd wr mk)
set_option linter.unusedVariables false
set_option maxRecDepth 100000
set_option maxHeartbeats 4000000
section
variable {B : Usr} {E : Env} {Post : Value → World → Prop} {Child : Sit (proto Try.prog B E Post)} {k : Nat} {s s' s₀ s₁ : St B} {w w' w₀ w₁ : World}
theorem mv_ownAny {b : Nat} {t : TypeId} {vs : List Value} {es : Array Event} (hI : Ok E s w) (hr : k = 0 ∨ s.tg.rel k = false) (h : Own k s w b t vs) (off : Nat) (v : Value) (he : ∀ e ∈ es, ∃ o wr sy, e = ⟨.cell ⟨b, o, none⟩, wr, sy⟩) : Mv E k s w s (w.setCell ⟨b, off, none⟩ v) es :=
  Mv.loc (mode' := s.tg.mode) hr (Turn.setCell w b off v h.hp (h.md _ rfl)) (fun _ _ => rfl) (fun l h1 h2 => absurd (by rw [setCell_size] at h2; exact h2) h1) (fun _ _ => rfl)
    (fun e hee => by obtain ⟨o, wr, sy, rfl⟩ := he e hee; exact evOk_own (h.md _ rfl) (by rw [setCell_size]; exact h.lt) hI.H) (fun e hee => by obtain ⟨o, wr, sy, rfl⟩ := he e hee; simp)
/-- A place of the starter's own that has nothing. -/
structure Empty0 (s₀ : St B) (w₀ : World) (b : Nat) (s : St B) (w : World) : Prop where
  rl : Rl 0 s₀ w₀ s w
  ob : Own 0 s w b 57 [.pointer none]
  nb : w₀.heap.size ≤ b
theorem Empty0.rely (hB : B.Laws) {b : Nat} (h : Empty0 s₀ w₀ b s w) (r : Rl 0 s w s₁ w₁) : Empty0 s₀ w₀ b s₁ w₁ := ⟨h.rl.trans hB r, h.ob.rely r, h.nb⟩
/-- One that has a five. -/
structure Five0 (s₀ : St B) (w₀ : World) (b : Nat) (s : St B) (w : World) : Prop where
  rl : Rl 0 s₀ w₀ s w
  on : ∃ g, Own 0 s w b 57 [.pointer (some ⟨g, 0, none⟩)] ∧ Own 0 s w g TN (nodeV 5 0 none)
theorem Five0.rely (hB : B.Laws) {b : Nat} (h : Five0 s₀ w₀ b s w) (r : Rl 0 s w s₁ w₁) : Five0 s₀ w₀ b s₁ w₁ := ⟨h.rl.trans hB r, let ⟨g, h1, h2⟩ := h.on; ⟨g, h1.rely r, h2.rely r⟩⟩
theorem empty_look (hB : B.Laws) {b : Nat} : Look E 0 b (Empty0 s₀ w₀ b) (fun q vs s w => Empty0 s₀ w₀ b s w ∧ q = none ∧ vs = []) where
  hst h r := h.rely hB r
  hrd := fun {s w} h hI => ⟨none, [], s, (h.ob.cell 0).trans rfl, mv_atr (.inl rfl) (.inr (h.ob.md _ rfl)) h.ob.lt, .refl _, h, rfl, rfl⟩
  hq := fun ⟨h, e1, e2⟩ r => ⟨h.rely hB r, e1, e2⟩
  hch := by rintro q vs s w ⟨h, rfl, rfl⟩; rfl
  hr := fun _ => .inl rfl
theorem five_look (hB : B.Laws) {b : Nat} : Look E 0 b (Five0 s₀ w₀ b) (fun q vs s w => Five0 s₀ w₀ b s w ∧ vs = [5] ∧ ChainR 0 s w q [5]) where
  hst h r := h.rely hB r
  hrd := fun {s w} h hI => by
    obtain ⟨g, h1, h2⟩ := h.on
    exact ⟨some ⟨g, 0, none⟩, [5], s, (h1.cell 0).trans rfl, mv_atr (.inl rfl) (.inr (h1.md _ rfl)) h1.lt, .refl _, h, rfl, g, none, rfl, h2.rds, rfl⟩
  hq := fun ⟨h, e1, e2⟩ r => ⟨h.rely hB r, e1, e2.rely r⟩
  hch := by rintro q vs s w ⟨h, rfl, h2⟩; exact h2
  hr := fun _ => .inl rfl

theorem awake_x (hB : B.Laws) : CallX Try.prog B E Post Child 0 7 #[] s₀ w₀ (fun v s' w' => v = .bool true ∧ Rl 0 s₀ w₀ s' w') := by
  refine ⟨Try.f7, _, Try.func7, by kernel_rfl, rfl, fun cal cs hret => ?_⟩
  walk_nrmf Try.f7
  have he1 := fun (x : Option Addr) (w : World) (es : Array Event) => ev_eql_ptr_nil (P := Try.prog) Try.underlying32 x w es
  repeat (first | ((with_reducible refine gd_op ?_); first | (refine rr_pure' hB rfl (by rfl) (by k_ne) (by rfl) (fun w₁ => by first | (simp [go_sem]; done) | simp [go_sem, *]) (fun w₁ K hK => ?_); go_simp; refine hK _ ?_; clear hK K w₁; try walk_nrm) | (refine rr_ctl hB rfl (fun _ => stepG_unwanted rfl rfl) ?_; try walk_nrm)) | ((with_reducible refine gd_rend ?_); (refine rr_regend hB hKr ?_; clear hKr Kr)) | ((with_reducible refine gd_seq ?_); refine rr_ctl hB rfl (fun _ => stepG_seq) ?_) | ((with_reducible refine gd_reg ?_); (refine rr_reg hB (fun Kr hKr => ?_); simp only [List.size_toArray, List.length_cons, List.length_nil, Nat.reduceAdd, Nat.zero_add, List.range, List.range.loop])) | ((with_reducible refine gd_skip ?_); refine rr_ctl hB rfl (fun _ => stepG_skip) ?_) | ((with_reducible refine gd_block ?_); refine rr_ctl hB rfl (fun _ => stepG_block) ?_) | ((with_reducible refine gd_inb ?_); refine rr_ctl hB rfl (fun _ => stepG_inBlock) ?_) | ((with_reducible refine gd_ret ?_); refine rr_ctl hB rfl (fun _ => stepG_ret') ?_) | ((with_reducible refine gd_exit ?_); refine rr_ctl hB rfl (fun _ => stepG_exit rfl) ?_) | ((with_reducible refine gd_end ?_); refine rr_ctl hB rfl (fun _ => stepG_end) ?_))
  (apply rr_call hB rfl (by rfl) (by k_ne) rfl; focus ((try walk_nrm); exact (new_x hB (k := 0) (A := fun s w => Rl 0 s₀ w₀ s w) (Q := fun b s w => Empty0 s₀ w₀ b s w) (fun h r => h.trans hB r)
    (fun s w h hI => ⟨_, mv_new (.inl rfl) _, St.take_soft _ _ _ _, h.new hB _, own_new s w [.pointer none] _, h.size⟩) (.refl hB _ _ _))))
  rintro _ s w ⟨b, rfl, hF⟩
  walk_nrm
  repeat (first | ((with_reducible refine gd_op ?_); first | (refine rr_pure' hB rfl (by rfl) (by k_ne) (by rfl) (fun w₁ => by first | (simp [go_sem]; done) | simp [go_sem, *]) (fun w₁ K hK => ?_); go_simp; refine hK _ ?_; clear hK K w₁; try walk_nrm) | (refine rr_ctl hB rfl (fun _ => stepG_unwanted rfl rfl) ?_; try walk_nrm)) | ((with_reducible refine gd_rend ?_); (refine rr_regend hB hKr ?_; clear hKr Kr)) | ((with_reducible refine gd_seq ?_); refine rr_ctl hB rfl (fun _ => stepG_seq) ?_) | ((with_reducible refine gd_reg ?_); (refine rr_reg hB (fun Kr hKr => ?_); simp only [List.size_toArray, List.length_cons, List.length_nil, Nat.reduceAdd, Nat.zero_add, List.range, List.range.loop])) | ((with_reducible refine gd_skip ?_); refine rr_ctl hB rfl (fun _ => stepG_skip) ?_) | ((with_reducible refine gd_block ?_); refine rr_ctl hB rfl (fun _ => stepG_block) ?_) | ((with_reducible refine gd_inb ?_); refine rr_ctl hB rfl (fun _ => stepG_inBlock) ?_) | ((with_reducible refine gd_ret ?_); refine rr_ctl hB rfl (fun _ => stepG_ret') ?_) | ((with_reducible refine gd_exit ?_); refine rr_ctl hB rfl (fun _ => stepG_exit rfl) ?_) | ((with_reducible refine gd_end ?_); refine rr_ctl hB rfl (fun _ => stepG_end) ?_))
  (apply rr_call hB rfl (by rfl) (by k_ne) rfl; focus ((try walk_nrm); exact (cpush_x hB (m := 0) (v := 5) (empty_look hB) (R := fun ok s w => ok = true ∧ Five0 s₀ w₀ b s w) (by omega) (fun h r => ⟨h.1, h.2.rely hB r⟩)
    (fun h hne => absurd (by rw [h.2.2]; rfl) hne)
    (fun {q vs g s w} h hn hO hI => by
      obtain ⟨hF, rfl, rfl⟩ := h
      have hne : g ≠ b := fun e => by
        subst e
        have := hO.hp.symm.trans hF.ob.hp
        simp [nodeV] at this
      refine ⟨none, (hF.ob.cell 0).trans rfl, hF.ob.frozen 0, .inl rfl, .inl ⟨rfl, s, mv_ownAny hI (.inl rfl) hF.ob 0 _ (fun e he => ?_), .refl _, rfl, hF.rl.set hB hF.nb _, g, ?_, hO.leaves (leaves_set hne _ _)⟩⟩
      · simp at he
        rcases he with rfl | rfl
        · exact ⟨_, _, _, rfl⟩
        · exact ⟨_, _, _, rfl⟩
      · exact hF.ob.set 0 (.pointer (some ⟨g, 0, none⟩))) hF)))
  clear hF
  rintro _ s w ⟨ok, rfl, rfl, hF⟩
  walk_nrm
  repeat (first | ((with_reducible refine gd_op ?_); first | (refine rr_pure' hB rfl (by rfl) (by k_ne) (by rfl) (fun w₁ => by first | (simp [go_sem]; done) | simp [go_sem, *]) (fun w₁ K hK => ?_); go_simp; refine hK _ ?_; clear hK K w₁; try walk_nrm) | (refine rr_ctl hB rfl (fun _ => stepG_unwanted rfl rfl) ?_; try walk_nrm)) | ((with_reducible refine gd_rend ?_); (refine rr_regend hB hKr ?_; clear hKr Kr)) | ((with_reducible refine gd_seq ?_); refine rr_ctl hB rfl (fun _ => stepG_seq) ?_) | ((with_reducible refine gd_reg ?_); (refine rr_reg hB (fun Kr hKr => ?_); simp only [List.size_toArray, List.length_cons, List.length_nil, Nat.reduceAdd, Nat.zero_add, List.range, List.range.loop])) | ((with_reducible refine gd_skip ?_); refine rr_ctl hB rfl (fun _ => stepG_skip) ?_) | ((with_reducible refine gd_block ?_); refine rr_ctl hB rfl (fun _ => stepG_block) ?_) | ((with_reducible refine gd_inb ?_); refine rr_ctl hB rfl (fun _ => stepG_inBlock) ?_) | ((with_reducible refine gd_ret ?_); refine rr_ctl hB rfl (fun _ => stepG_ret') ?_) | ((with_reducible refine gd_exit ?_); refine rr_ctl hB rfl (fun _ => stepG_exit rfl) ?_) | ((with_reducible refine gd_end ?_); refine rr_ctl hB rfl (fun _ => stepG_end) ?_))
  (refine rr_ctl hB rfl (fun _ => stepG_cond (t := false) (by first | rfl | (simp [Act.eval, *]))) ?_; simp only [if_true, if_false, Bool.false_eq_true, ↓reduceIte])
  repeat (first | ((with_reducible refine gd_op ?_); first | (refine rr_pure' hB rfl (by rfl) (by k_ne) (by rfl) (fun w₁ => by first | (simp [go_sem]; done) | simp [go_sem, *]) (fun w₁ K hK => ?_); go_simp; refine hK _ ?_; clear hK K w₁; try walk_nrm) | (refine rr_ctl hB rfl (fun _ => stepG_unwanted rfl rfl) ?_; try walk_nrm)) | ((with_reducible refine gd_rend ?_); (refine rr_regend hB hKr ?_; clear hKr Kr)) | ((with_reducible refine gd_seq ?_); refine rr_ctl hB rfl (fun _ => stepG_seq) ?_) | ((with_reducible refine gd_reg ?_); (refine rr_reg hB (fun Kr hKr => ?_); simp only [List.size_toArray, List.length_cons, List.length_nil, Nat.reduceAdd, Nat.zero_add, List.range, List.range.loop])) | ((with_reducible refine gd_skip ?_); refine rr_ctl hB rfl (fun _ => stepG_skip) ?_) | ((with_reducible refine gd_block ?_); refine rr_ctl hB rfl (fun _ => stepG_block) ?_) | ((with_reducible refine gd_inb ?_); refine rr_ctl hB rfl (fun _ => stepG_inBlock) ?_) | ((with_reducible refine gd_ret ?_); refine rr_ctl hB rfl (fun _ => stepG_ret') ?_) | ((with_reducible refine gd_exit ?_); refine rr_ctl hB rfl (fun _ => stepG_exit rfl) ?_) | ((with_reducible refine gd_end ?_); refine rr_ctl hB rfl (fun _ => stepG_end) ?_))
  (apply rr_call hB rfl (by rfl) (by k_ne) rfl; focus ((try walk_nrm); exact (cload_x hB (five_look hB) hF)))
  rintro _ s' w' ⟨q, vs, rfl, hF, rfl, -⟩
  walk_nrm
  repeat (first | ((with_reducible refine gd_op ?_); first | (refine rr_pure' hB rfl (by rfl) (by k_ne) (by rfl) (fun w₁ => by first | (simp [go_sem]; done) | simp [go_sem, *]) (fun w₁ K hK => ?_); go_simp; refine hK _ ?_; clear hK K w₁; try walk_nrm) | (refine rr_ctl hB rfl (fun _ => stepG_unwanted rfl rfl) ?_; try walk_nrm)) | ((with_reducible refine gd_rend ?_); (refine rr_regend hB hKr ?_; clear hKr Kr)) | ((with_reducible refine gd_seq ?_); refine rr_ctl hB rfl (fun _ => stepG_seq) ?_) | ((with_reducible refine gd_reg ?_); (refine rr_reg hB (fun Kr hKr => ?_); simp only [List.size_toArray, List.length_cons, List.length_nil, Nat.reduceAdd, Nat.zero_add, List.range, List.range.loop])) | ((with_reducible refine gd_skip ?_); refine rr_ctl hB rfl (fun _ => stepG_skip) ?_) | ((with_reducible refine gd_block ?_); refine rr_ctl hB rfl (fun _ => stepG_block) ?_) | ((with_reducible refine gd_inb ?_); refine rr_ctl hB rfl (fun _ => stepG_inBlock) ?_) | ((with_reducible refine gd_ret ?_); refine rr_ctl hB rfl (fun _ => stepG_ret') ?_) | ((with_reducible refine gd_exit ?_); refine rr_ctl hB rfl (fun _ => stepG_exit rfl) ?_) | ((with_reducible refine gd_end ?_); refine rr_ctl hB rfl (fun _ => stepG_end) ?_))
  (refine rr_leave hB rfl rfl Try.func7 (fun w => ⟨results_tmp rfl _ _ w, events_results_tmp rfl _ _⟩) ?_)
  exact hret _ _ _ ⟨rfl, hF.rl⟩
end
end Go.Proofs.Ytbamamkjmfkghaa.Crw
namespace Go.Proofs.Ytbamamkjmfkghaa.Crw
open Go Go.Conc Go.RowKit Go.Conc.Lib Go.ConcR.Gen
open Go.ConcN (upd upd_same upd_ne)
open Go.ConcR (stA smA KK WgAt wgBlock rd wr mk)
set_option linter.unusedVariables false
set_option maxRecDepth 100000
set_option maxHeartbeats 4000000
/-- What holds of every state is at hand. -/
theorem rr_ok {P : Program} {B : Usr} {E : Env} {Post : Value → World → Prop} {Child : Sit (proto P B E Post)} {k : Nat} {g : Goroutine} {s : St B} {w : World} (hB : B.Laws) (hg : g.status = .running) (h : ∀ s₁ w₁, Rl k s w s₁ w₁ → Ok E s₁ w₁ → RR P B E Post Child k g s₁ w₁) : RR P B E Post Child k g s w :=
  .mk hg fun s₁ w₁ t₁ hR hI hk hne => (Runs.unfold (h s₁ w₁ hR hI.1)).2 s₁ w₁ t₁ (Rl.refl hB k s₁ w₁) hI hk hne

/-- The lists, as they lay before all. -/
structure OldL (W : World) (A : Option Addr) (ls : List (List Int)) : Prop where
  row : ∀ (i : Nat) (h : i < ls.length), ∃ b o Ai ci, A = some ⟨b, o, none⟩ ∧ W.cell? ⟨b, o + i, none⟩ = some (.slice Ai ls[i].length ci) ∧ ls[i].length ≤ ci ∧
    ∀ (j : Nat) (hj : j < ls[i].length), ∃ b' o', Ai = some ⟨b', o', none⟩ ∧ W.cell? ⟨b', o' + j, none⟩ = some (.int .i64 ls[i][j])
  len : ls.length * 24 ≤ 140737488355328
  lens : ∀ l ∈ ls, l.length ≤ 17592186044415
section
variable {E : Env} {Post : Value → World → Prop} {s s' s₀ s₁ : St cellU} {w w' w₀ w₁ : World}
theorem Ok.rdc {B : Usr} {s : St B} (hI : Ok E s w) {b o : Nat} {v : Value} (h : E.W0.cell? ⟨b, o, none⟩ = some v) : RdC 0 s w b o v := ⟨hI.old h, (hI.mayOld h).1, (hI.mayOld h).2⟩
theorem OldL.numss {B : Usr} {s : St B} {A : Option Addr} {cap : Nat} {ls : List (List Int)} (h : OldL E.W0 A ls) (hI : Ok E s w) : Numss 0 s w (.slice A ls.length cap) ls := by
  refine ⟨A, cap, rfl, fun i l hl => ?_⟩
  obtain ⟨hi, rfl⟩ := List.getElem?_eq_some_iff.1 hl
  obtain ⟨b, o, Ai, ci, rfl, h1, h2, h3⟩ := h.row i hi
  refine ⟨b, o, _, rfl, hI.rdc h1, Ai, ci, rfl, h2, fun j x hx => ?_⟩
  obtain ⟨hj, rfl⟩ := List.getElem?_eq_some_iff.1 hx
  obtain ⟨b', o', rfl, h4⟩ := h3 j hj
  exact ⟨b', o', rfl, hI.rdc h4⟩

theorem crowd_x (hB : cellU.Laws) (hE : E.ty = 43) (hEN : 66 ≤ E.N) {ls : List (List Int)} (hls : ls.length ≤ 64) (hws : wsum ls ≤ 65536) (htot : ls.flatten.length ≤ 65536) {A : Option Addr} {cap : Nat} (hb : Begin s₀) (hl : Lists w₀.heap.size ls (.slice A ls.length cap) s₀ w₀) :
    CallX Try.prog cellU E Post (Born (proto Try.prog cellU E Post)) 0 4 #[.slice A ls.length cap] s₀ w₀ (CrowdQ ls) :=
  ⟨Try.f4, _, Try.func4, by kernel_rfl, rfl, fun cal cs hret =>
    crowd_begin hB hE hls hws hb hl fun a Wg cv b s w hF ha hT t0 t7 t8 c hc => crowd_loop hB hEN hls htot hF ha hT t0 t7 t8 hc fun a s w hF ha hT t7 t8 c hc => crowd_end hB htot hF ha hT t7 t8 hc hret⟩

theorem law_over (hp : ∀ w, Below E.W0.heap.size E.W0 w → Post (.bool true) w) {T : Array Value} {todo : List Item} (h2 : T[2]? = some (.bool true)) (hj : s.tg.n = 1 ∨ s.tg.joined = true) {Child : Sit (proto Try.prog cellU E Post)} :
    RR Try.prog cellU E Post Child 0 (G { (base 3).at ⟨T, []⟩ todo with mode := .returning } []) s w :=
  rr_over rfl fun s₁ w₁ hR hI => by
    refine ⟨.bool true, w₁, #[], ?_, ⟨?_, fun e he => by simp at he, fun e he => by simp at he⟩, hp _ ⟨hI.W.os, hI.W.tape, hI.W.output, hI.W.base, hI.W.same⟩⟩
    · simp [G, stepG, unwind, doReturn, results, Frame.at, base, Try.func3, Try.f3, seen, GStep.after, h2]
    · rcases hj with h | h
      · exact .inl ((hR.zero rfl).1.trans h)
      · exact .inr ((hR.zero rfl).2.2.1.trans h)

theorem law_refused (hB : cellU.Laws) (hp : ∀ w, Below E.W0.heap.size E.W0 w → Post (.bool true) w) {ls : List (List Int)} {A : Option Addr} {cap : Nat} (hL : OldL E.W0 A ls) (hb : Begin s) (hr : refused ls ≠ 0) {Child : Sit (proto Try.prog cellU E Post)} :
    RR Try.prog cellU E Post Child 0 (G ((base 3).at { tmps := #[.slice A ls.length cap] ++ Array.replicate (Try.f3.ntmps - 1) undef, defers := [] } [.code (Try.f3.body.getD .skip)]) []) s w := by
  simp only [Try.f3, Option.getD_some]
  refine rr_ok hB rfl fun s₁ w₁ hR hI => ?_
  replace hb := hb.rely hR
  have hN := hL.numss (cap := cap) hI
  have hlen := hL.len
  have hlens := Hid.mk hL.lens
  clear hR hI hL
  walk_nrm
  repeat (first | ((with_reducible refine gd_op ?_); first | (refine rr_pure' hB rfl (by rfl) (by k_ne) (by rfl) (fun w₁ => by first | (simp [go_sem]; done) | simp [go_sem, *]) (fun w₁ K hK => ?_); go_simp; refine hK _ ?_; clear hK K w₁; try walk_nrm) | (refine rr_ctl hB rfl (fun _ => stepG_unwanted rfl rfl) ?_; try walk_nrm)) | ((with_reducible refine gd_rend ?_); (refine rr_regend hB hKr ?_; clear hKr Kr)) | ((with_reducible refine gd_seq ?_); refine rr_ctl hB rfl (fun _ => stepG_seq) ?_) | ((with_reducible refine gd_reg ?_); (refine rr_reg hB (fun Kr hKr => ?_); simp only [List.size_toArray, List.length_cons, List.length_nil, Nat.reduceAdd, Nat.zero_add, List.range, List.range.loop])) | ((with_reducible refine gd_skip ?_); refine rr_ctl hB rfl (fun _ => stepG_skip) ?_) | ((with_reducible refine gd_block ?_); refine rr_ctl hB rfl (fun _ => stepG_block) ?_) | ((with_reducible refine gd_inb ?_); refine rr_ctl hB rfl (fun _ => stepG_inBlock) ?_) | ((with_reducible refine gd_ret ?_); refine rr_ctl hB rfl (fun _ => stepG_ret') ?_) | ((with_reducible refine gd_exit ?_); refine rr_ctl hB rfl (fun _ => stepG_exit rfl) ?_) | ((with_reducible refine gd_end ?_); refine rr_ctl hB rfl (fun _ => stepG_end) ?_))
  (apply rr_call hB rfl (by rfl) (by k_ne) rfl; focus ((try walk_nrm); exact (lists_x hB hN hlen hlens.out)))
  rintro v s' w' ⟨vals, hO⟩
  have hl := Lists.of_out hO
  obtain ⟨A', cap', rfl, _⟩ := hl.out
  replace hb := hb.rely hO.rl
  replace hN := hN.rely hO.rl
  clear hO
  walk_nrm
  repeat (first | ((with_reducible refine gd_op ?_); first | (refine rr_pure' hB rfl (by rfl) (by k_ne) (by rfl) (fun w₁ => by first | (simp [go_sem]; done) | simp [go_sem, *]) (fun w₁ K hK => ?_); go_simp; refine hK _ ?_; clear hK K w₁; try walk_nrm) | (refine rr_ctl hB rfl (fun _ => stepG_unwanted rfl rfl) ?_; try walk_nrm)) | ((with_reducible refine gd_rend ?_); (refine rr_regend hB hKr ?_; clear hKr Kr)) | ((with_reducible refine gd_seq ?_); refine rr_ctl hB rfl (fun _ => stepG_seq) ?_) | ((with_reducible refine gd_reg ?_); (refine rr_reg hB (fun Kr hKr => ?_); simp only [List.size_toArray, List.length_cons, List.length_nil, Nat.reduceAdd, Nat.zero_add, List.range, List.range.loop])) | ((with_reducible refine gd_skip ?_); refine rr_ctl hB rfl (fun _ => stepG_skip) ?_) | ((with_reducible refine gd_block ?_); refine rr_ctl hB rfl (fun _ => stepG_block) ?_) | ((with_reducible refine gd_inb ?_); refine rr_ctl hB rfl (fun _ => stepG_inBlock) ?_) | ((with_reducible refine gd_ret ?_); refine rr_ctl hB rfl (fun _ => stepG_ret') ?_) | ((with_reducible refine gd_exit ?_); refine rr_ctl hB rfl (fun _ => stepG_exit rfl) ?_) | ((with_reducible refine gd_end ?_); refine rr_ctl hB rfl (fun _ => stepG_end) ?_))
  (apply rr_call hB rfl (by rfl) (by k_ne) rfl; focus ((try walk_nrm); exact (crowd_refused hB hl (by omega) hr)))
  rintro _ s'' w'' ⟨rfl, hR⟩
  replace hb := hb.rely hR
  replace hN := hN.rely hR
  clear hR hl
  walk_nrm
  repeat (first | ((with_reducible refine gd_op ?_); first | (refine rr_pure' hB rfl (by rfl) (by k_ne) (by rfl) (fun w₁ => by first | (simp [go_sem]; done) | simp [go_sem, *]) (fun w₁ K hK => ?_); go_simp; refine hK _ ?_; clear hK K w₁; try walk_nrm) | (refine rr_ctl hB rfl (fun _ => stepG_unwanted rfl rfl) ?_; try walk_nrm)) | ((with_reducible refine gd_rend ?_); (refine rr_regend hB hKr ?_; clear hKr Kr)) | ((with_reducible refine gd_seq ?_); refine rr_ctl hB rfl (fun _ => stepG_seq) ?_) | ((with_reducible refine gd_reg ?_); (refine rr_reg hB (fun Kr hKr => ?_); simp only [List.size_toArray, List.length_cons, List.length_nil, Nat.reduceAdd, Nat.zero_add, List.range, List.range.loop])) | ((with_reducible refine gd_skip ?_); refine rr_ctl hB rfl (fun _ => stepG_skip) ?_) | ((with_reducible refine gd_block ?_); refine rr_ctl hB rfl (fun _ => stepG_block) ?_) | ((with_reducible refine gd_inb ?_); refine rr_ctl hB rfl (fun _ => stepG_inBlock) ?_) | ((with_reducible refine gd_ret ?_); refine rr_ctl hB rfl (fun _ => stepG_ret') ?_) | ((with_reducible refine gd_exit ?_); refine rr_ctl hB rfl (fun _ => stepG_exit rfl) ?_) | ((with_reducible refine gd_end ?_); refine rr_ctl hB rfl (fun _ => stepG_end) ?_))
  (apply rr_call hB rfl (by rfl) (by k_ne) rfl; focus ((try walk_nrm); exact (refused_x hB hN hlen)))
  rintro _ s3 w3 ⟨rfl, hR⟩
  replace hb := hb.rely hR
  clear hR hN
  generalize refused ls = e at *
  walk_nrm
  repeat (first | ((with_reducible refine gd_op ?_); first | (refine rr_pure' hB rfl (by rfl) (by k_ne) (by rfl) (fun w₁ => by first | (simp [go_sem]; done) | simp [go_sem, *]) (fun w₁ K hK => ?_); go_simp; refine hK _ ?_; clear hK K w₁; try walk_nrm) | (refine rr_ctl hB rfl (fun _ => stepG_unwanted rfl rfl) ?_; try walk_nrm)) | ((with_reducible refine gd_rend ?_); (refine rr_regend hB hKr ?_; clear hKr Kr)) | ((with_reducible refine gd_seq ?_); refine rr_ctl hB rfl (fun _ => stepG_seq) ?_) | ((with_reducible refine gd_reg ?_); (refine rr_reg hB (fun Kr hKr => ?_); simp only [List.size_toArray, List.length_cons, List.length_nil, Nat.reduceAdd, Nat.zero_add, List.range, List.range.loop])) | ((with_reducible refine gd_skip ?_); refine rr_ctl hB rfl (fun _ => stepG_skip) ?_) | ((with_reducible refine gd_block ?_); refine rr_ctl hB rfl (fun _ => stepG_block) ?_) | ((with_reducible refine gd_inb ?_); refine rr_ctl hB rfl (fun _ => stepG_inBlock) ?_) | ((with_reducible refine gd_ret ?_); refine rr_ctl hB rfl (fun _ => stepG_ret') ?_) | ((with_reducible refine gd_exit ?_); refine rr_ctl hB rfl (fun _ => stepG_exit rfl) ?_) | ((with_reducible refine gd_end ?_); refine rr_ctl hB rfl (fun _ => stepG_end) ?_))
  (refine rr_ctl hB rfl (fun _ => stepG_cond (t := false) (by first | rfl | (simp [Act.eval, *]))) ?_; simp only [if_true, if_false, Bool.false_eq_true, ↓reduceIte])
  repeat (first | ((with_reducible refine gd_op ?_); first | (refine rr_pure' hB rfl (by rfl) (by k_ne) (by rfl) (fun w₁ => by first | (simp [go_sem]; done) | simp [go_sem, *]) (fun w₁ K hK => ?_); go_simp; refine hK _ ?_; clear hK K w₁; try walk_nrm) | (refine rr_ctl hB rfl (fun _ => stepG_unwanted rfl rfl) ?_; try walk_nrm)) | ((with_reducible refine gd_rend ?_); (refine rr_regend hB hKr ?_; clear hKr Kr)) | ((with_reducible refine gd_seq ?_); refine rr_ctl hB rfl (fun _ => stepG_seq) ?_) | ((with_reducible refine gd_reg ?_); (refine rr_reg hB (fun Kr hKr => ?_); simp only [List.size_toArray, List.length_cons, List.length_nil, Nat.reduceAdd, Nat.zero_add, List.range, List.range.loop])) | ((with_reducible refine gd_skip ?_); refine rr_ctl hB rfl (fun _ => stepG_skip) ?_) | ((with_reducible refine gd_block ?_); refine rr_ctl hB rfl (fun _ => stepG_block) ?_) | ((with_reducible refine gd_inb ?_); refine rr_ctl hB rfl (fun _ => stepG_inBlock) ?_) | ((with_reducible refine gd_ret ?_); refine rr_ctl hB rfl (fun _ => stepG_ret') ?_) | ((with_reducible refine gd_exit ?_); refine rr_ctl hB rfl (fun _ => stepG_exit rfl) ?_) | ((with_reducible refine gd_end ?_); refine rr_ctl hB rfl (fun _ => stepG_end) ?_))
  (refine rr_ctl hB rfl (fun _ => stepG_cond (t := true) (by first | rfl | (simp [Act.eval, *]))) ?_; simp only [if_true, if_false, Bool.false_eq_true, ↓reduceIte])
  repeat (first | ((with_reducible refine gd_op ?_); first | (refine rr_pure' hB rfl (by rfl) (by k_ne) (by rfl) (fun w₁ => by first | (simp [go_sem]; done) | simp [go_sem, *]) (fun w₁ K hK => ?_); go_simp; refine hK _ ?_; clear hK K w₁; try walk_nrm) | (refine rr_ctl hB rfl (fun _ => stepG_unwanted rfl rfl) ?_; try walk_nrm)) | ((with_reducible refine gd_rend ?_); (refine rr_regend hB hKr ?_; clear hKr Kr)) | ((with_reducible refine gd_seq ?_); refine rr_ctl hB rfl (fun _ => stepG_seq) ?_) | ((with_reducible refine gd_reg ?_); (refine rr_reg hB (fun Kr hKr => ?_); simp only [List.size_toArray, List.length_cons, List.length_nil, Nat.reduceAdd, Nat.zero_add, List.range, List.range.loop])) | ((with_reducible refine gd_skip ?_); refine rr_ctl hB rfl (fun _ => stepG_skip) ?_) | ((with_reducible refine gd_block ?_); refine rr_ctl hB rfl (fun _ => stepG_block) ?_) | ((with_reducible refine gd_inb ?_); refine rr_ctl hB rfl (fun _ => stepG_inBlock) ?_) | ((with_reducible refine gd_ret ?_); refine rr_ctl hB rfl (fun _ => stepG_ret') ?_) | ((with_reducible refine gd_exit ?_); refine rr_ctl hB rfl (fun _ => stepG_exit rfl) ?_) | ((with_reducible refine gd_end ?_); refine rr_ctl hB rfl (fun _ => stepG_end) ?_))
  (apply rr_call hB rfl (by rfl) (by k_ne) rfl; focus ((try walk_nrm); exact (awake_x hB)))
  rintro _ s4 w4 ⟨rfl, hR⟩
  replace hb := hb.rely hR
  clear hR
  walk_nrm
  repeat (first | ((with_reducible refine gd_op ?_); first | (refine rr_pure' hB rfl (by rfl) (by k_ne) (by rfl) (fun w₁ => by first | (simp [go_sem]; done) | simp [go_sem, *]) (fun w₁ K hK => ?_); go_simp; refine hK _ ?_; clear hK K w₁; try walk_nrm) | (refine rr_ctl hB rfl (fun _ => stepG_unwanted rfl rfl) ?_; try walk_nrm)) | ((with_reducible refine gd_rend ?_); (refine rr_regend hB hKr ?_; clear hKr Kr)) | ((with_reducible refine gd_seq ?_); refine rr_ctl hB rfl (fun _ => stepG_seq) ?_) | ((with_reducible refine gd_reg ?_); (refine rr_reg hB (fun Kr hKr => ?_); simp only [List.size_toArray, List.length_cons, List.length_nil, Nat.reduceAdd, Nat.zero_add, List.range, List.range.loop])) | ((with_reducible refine gd_skip ?_); refine rr_ctl hB rfl (fun _ => stepG_skip) ?_) | ((with_reducible refine gd_block ?_); refine rr_ctl hB rfl (fun _ => stepG_block) ?_) | ((with_reducible refine gd_inb ?_); refine rr_ctl hB rfl (fun _ => stepG_inBlock) ?_) | ((with_reducible refine gd_ret ?_); refine rr_ctl hB rfl (fun _ => stepG_ret') ?_) | ((with_reducible refine gd_exit ?_); refine rr_ctl hB rfl (fun _ => stepG_exit rfl) ?_) | ((with_reducible refine gd_end ?_); refine rr_ctl hB rfl (fun _ => stepG_end) ?_))
  exact law_over hp rfl (.inl hb.n1)

theorem law_main (hB : cellU.Laws) (hE : E.ty = 43) (hEN : 66 ≤ E.N) (hp : ∀ w, Below E.W0.heap.size E.W0 w → Post (.bool true) w) {ls : List (List Int)} (hls : ls.length ≤ 64) (hws : wsum ls ≤ 65536) (htot : ls.flatten.length ≤ 65536) {A : Option Addr} {cap : Nat} (hL : OldL E.W0 A ls) (hb : Begin s) :
    RR Try.prog cellU E Post (Born (proto Try.prog cellU E Post)) 0 (G ((base 3).at { tmps := #[.slice A ls.length cap] ++ Array.replicate (Try.f3.ntmps - 1) undef, defers := [] } [.code (Try.f3.body.getD .skip)]) []) s w := by
  simp only [Try.f3, Option.getD_some]
  refine rr_ok hB rfl fun s₁ w₁ hR hI => ?_
  replace hb := hb.rely hR
  have hN := hL.numss (cap := cap) hI
  have hlen := hL.len
  have hlens := Hid.mk hL.lens
  replace hL := Hid.mk hL
  clear hR hI
  walk_nrm
  repeat (first | ((with_reducible refine gd_op ?_); first | (refine rr_pure' hB rfl (by rfl) (by k_ne) (by rfl) (fun w₁ => by first | (simp [go_sem]; done) | simp [go_sem, *]) (fun w₁ K hK => ?_); go_simp; refine hK _ ?_; clear hK K w₁; try walk_nrm) | (refine rr_ctl hB rfl (fun _ => stepG_unwanted rfl rfl) ?_; try walk_nrm)) | ((with_reducible refine gd_rend ?_); (refine rr_regend hB hKr ?_; clear hKr Kr)) | ((with_reducible refine gd_seq ?_); refine rr_ctl hB rfl (fun _ => stepG_seq) ?_) | ((with_reducible refine gd_reg ?_); (refine rr_reg hB (fun Kr hKr => ?_); simp only [List.size_toArray, List.length_cons, List.length_nil, Nat.reduceAdd, Nat.zero_add, List.range, List.range.loop])) | ((with_reducible refine gd_skip ?_); refine rr_ctl hB rfl (fun _ => stepG_skip) ?_) | ((with_reducible refine gd_block ?_); refine rr_ctl hB rfl (fun _ => stepG_block) ?_) | ((with_reducible refine gd_inb ?_); refine rr_ctl hB rfl (fun _ => stepG_inBlock) ?_) | ((with_reducible refine gd_ret ?_); refine rr_ctl hB rfl (fun _ => stepG_ret') ?_) | ((with_reducible refine gd_exit ?_); refine rr_ctl hB rfl (fun _ => stepG_exit rfl) ?_) | ((with_reducible refine gd_end ?_); refine rr_ctl hB rfl (fun _ => stepG_end) ?_))
  (apply rr_call hB rfl (by rfl) (by k_ne) rfl; focus ((try walk_nrm); exact (lists_x hB hN hlen hlens.out)))
  rintro v s' w' ⟨vals, hO⟩
  have hl := Lists.of_out hO
  obtain ⟨A', cap', rfl, _⟩ := hl.out
  replace hb := hb.rely hO.rl
  clear hO hN
  walk_nrm
  repeat (first | ((with_reducible refine gd_op ?_); first | (refine rr_pure' hB rfl (by rfl) (by k_ne) (by rfl) (fun w₁ => by first | (simp [go_sem]; done) | simp [go_sem, *]) (fun w₁ K hK => ?_); go_simp; refine hK _ ?_; clear hK K w₁; try walk_nrm) | (refine rr_ctl hB rfl (fun _ => stepG_unwanted rfl rfl) ?_; try walk_nrm)) | ((with_reducible refine gd_rend ?_); (refine rr_regend hB hKr ?_; clear hKr Kr)) | ((with_reducible refine gd_seq ?_); refine rr_ctl hB rfl (fun _ => stepG_seq) ?_) | ((with_reducible refine gd_reg ?_); (refine rr_reg hB (fun Kr hKr => ?_); simp only [List.size_toArray, List.length_cons, List.length_nil, Nat.reduceAdd, Nat.zero_add, List.range, List.range.loop])) | ((with_reducible refine gd_skip ?_); refine rr_ctl hB rfl (fun _ => stepG_skip) ?_) | ((with_reducible refine gd_block ?_); refine rr_ctl hB rfl (fun _ => stepG_block) ?_) | ((with_reducible refine gd_inb ?_); refine rr_ctl hB rfl (fun _ => stepG_inBlock) ?_) | ((with_reducible refine gd_ret ?_); refine rr_ctl hB rfl (fun _ => stepG_ret') ?_) | ((with_reducible refine gd_exit ?_); refine rr_ctl hB rfl (fun _ => stepG_exit rfl) ?_) | ((with_reducible refine gd_end ?_); refine rr_ctl hB rfl (fun _ => stepG_end) ?_))
  (apply rr_call hB rfl (by rfl) (by k_ne) rfl; focus ((try walk_nrm); exact (crowd_x hB hE hEN hls hws htot hb hl)))
  clear hb hl
  rintro _ s w ⟨v', l, rfl, hl, hM, hj⟩
  obtain ⟨Aa, ca, rfl, -⟩ := id hl
  replace hM := Hid.mk hM
  walk_nrm
  refine rr_ok hB rfl fun s₁ w₁ hR hI => ?_
  replace hl := hl.rely hR
  replace hj := (hR.zero rfl).2.2.1.trans hj
  have hN := hL.out.numss (cap := cap) hI
  clear hR hI
  repeat (first | ((with_reducible refine gd_op ?_); first | (refine rr_pure' hB rfl (by rfl) (by k_ne) (by rfl) (fun w₁ => by first | (simp [go_sem]; done) | simp [go_sem, *]) (fun w₁ K hK => ?_); go_simp; refine hK _ ?_; clear hK K w₁; try walk_nrm) | (refine rr_ctl hB rfl (fun _ => stepG_unwanted rfl rfl) ?_; try walk_nrm)) | ((with_reducible refine gd_rend ?_); (refine rr_regend hB hKr ?_; clear hKr Kr)) | ((with_reducible refine gd_seq ?_); refine rr_ctl hB rfl (fun _ => stepG_seq) ?_) | ((with_reducible refine gd_reg ?_); (refine rr_reg hB (fun Kr hKr => ?_); simp only [List.size_toArray, List.length_cons, List.length_nil, Nat.reduceAdd, Nat.zero_add, List.range, List.range.loop])) | ((with_reducible refine gd_skip ?_); refine rr_ctl hB rfl (fun _ => stepG_skip) ?_) | ((with_reducible refine gd_block ?_); refine rr_ctl hB rfl (fun _ => stepG_block) ?_) | ((with_reducible refine gd_inb ?_); refine rr_ctl hB rfl (fun _ => stepG_inBlock) ?_) | ((with_reducible refine gd_ret ?_); refine rr_ctl hB rfl (fun _ => stepG_ret') ?_) | ((with_reducible refine gd_exit ?_); refine rr_ctl hB rfl (fun _ => stepG_exit rfl) ?_) | ((with_reducible refine gd_end ?_); refine rr_ctl hB rfl (fun _ => stepG_end) ?_))
  (apply rr_call hB rfl (by rfl) (by k_ne) rfl; focus ((try walk_nrm); exact (refused_x hB hN hlen)))
  rintro _ s3 w3 ⟨rfl, hR⟩
  replace hl := hl.rely hR
  replace hj := (hR.zero rfl).2.2.1.trans hj
  replace hN := hN.rely hR
  clear hR
  have hr0 : refused ls = 0 := by
    unfold refused
    rw [if_neg (by omega)]
  rw [hr0]
  walk_nrm
  repeat (first | ((with_reducible refine gd_op ?_); first | (refine rr_pure' hB rfl (by rfl) (by k_ne) (by rfl) (fun w₁ => by first | (simp [go_sem]; done) | simp [go_sem, *]) (fun w₁ K hK => ?_); go_simp; refine hK _ ?_; clear hK K w₁; try walk_nrm) | (refine rr_ctl hB rfl (fun _ => stepG_unwanted rfl rfl) ?_; try walk_nrm)) | ((with_reducible refine gd_rend ?_); (refine rr_regend hB hKr ?_; clear hKr Kr)) | ((with_reducible refine gd_seq ?_); refine rr_ctl hB rfl (fun _ => stepG_seq) ?_) | ((with_reducible refine gd_reg ?_); (refine rr_reg hB (fun Kr hKr => ?_); simp only [List.size_toArray, List.length_cons, List.length_nil, Nat.reduceAdd, Nat.zero_add, List.range, List.range.loop])) | ((with_reducible refine gd_skip ?_); refine rr_ctl hB rfl (fun _ => stepG_skip) ?_) | ((with_reducible refine gd_block ?_); refine rr_ctl hB rfl (fun _ => stepG_block) ?_) | ((with_reducible refine gd_inb ?_); refine rr_ctl hB rfl (fun _ => stepG_inBlock) ?_) | ((with_reducible refine gd_ret ?_); refine rr_ctl hB rfl (fun _ => stepG_ret') ?_) | ((with_reducible refine gd_exit ?_); refine rr_ctl hB rfl (fun _ => stepG_exit rfl) ?_) | ((with_reducible refine gd_end ?_); refine rr_ctl hB rfl (fun _ => stepG_end) ?_))
  (refine rr_ctl hB rfl (fun _ => stepG_cond (t := false) (by first | rfl | (simp [Act.eval, *]))) ?_; simp only [if_true, if_false, Bool.false_eq_true, ↓reduceIte])
  repeat (first | ((with_reducible refine gd_op ?_); first | (refine rr_pure' hB rfl (by rfl) (by k_ne) (by rfl) (fun w₁ => by first | (simp [go_sem]; done) | simp [go_sem, *]) (fun w₁ K hK => ?_); go_simp; refine hK _ ?_; clear hK K w₁; try walk_nrm) | (refine rr_ctl hB rfl (fun _ => stepG_unwanted rfl rfl) ?_; try walk_nrm)) | ((with_reducible refine gd_rend ?_); (refine rr_regend hB hKr ?_; clear hKr Kr)) | ((with_reducible refine gd_seq ?_); refine rr_ctl hB rfl (fun _ => stepG_seq) ?_) | ((with_reducible refine gd_reg ?_); (refine rr_reg hB (fun Kr hKr => ?_); simp only [List.size_toArray, List.length_cons, List.length_nil, Nat.reduceAdd, Nat.zero_add, List.range, List.range.loop])) | ((with_reducible refine gd_skip ?_); refine rr_ctl hB rfl (fun _ => stepG_skip) ?_) | ((with_reducible refine gd_block ?_); refine rr_ctl hB rfl (fun _ => stepG_block) ?_) | ((with_reducible refine gd_inb ?_); refine rr_ctl hB rfl (fun _ => stepG_inBlock) ?_) | ((with_reducible refine gd_ret ?_); refine rr_ctl hB rfl (fun _ => stepG_ret') ?_) | ((with_reducible refine gd_exit ?_); refine rr_ctl hB rfl (fun _ => stepG_exit rfl) ?_) | ((with_reducible refine gd_end ?_); refine rr_ctl hB rfl (fun _ => stepG_end) ?_))
  (refine rr_ctl hB rfl (fun _ => stepG_cond (t := false) (by first | rfl | (simp [Act.eval, *]))) ?_; simp only [if_true, if_false, Bool.false_eq_true, ↓reduceIte])
  repeat (first | ((with_reducible refine gd_op ?_); first | (refine rr_pure' hB rfl (by rfl) (by k_ne) (by rfl) (fun w₁ => by first | (simp [go_sem]; done) | simp [go_sem, *]) (fun w₁ K hK => ?_); go_simp; refine hK _ ?_; clear hK K w₁; try walk_nrm) | (refine rr_ctl hB rfl (fun _ => stepG_unwanted rfl rfl) ?_; try walk_nrm)) | ((with_reducible refine gd_rend ?_); (refine rr_regend hB hKr ?_; clear hKr Kr)) | ((with_reducible refine gd_seq ?_); refine rr_ctl hB rfl (fun _ => stepG_seq) ?_) | ((with_reducible refine gd_reg ?_); (refine rr_reg hB (fun Kr hKr => ?_); simp only [List.size_toArray, List.length_cons, List.length_nil, Nat.reduceAdd, Nat.zero_add, List.range, List.range.loop])) | ((with_reducible refine gd_skip ?_); refine rr_ctl hB rfl (fun _ => stepG_skip) ?_) | ((with_reducible refine gd_block ?_); refine rr_ctl hB rfl (fun _ => stepG_block) ?_) | ((with_reducible refine gd_inb ?_); refine rr_ctl hB rfl (fun _ => stepG_inBlock) ?_) | ((with_reducible refine gd_ret ?_); refine rr_ctl hB rfl (fun _ => stepG_ret') ?_) | ((with_reducible refine gd_exit ?_); refine rr_ctl hB rfl (fun _ => stepG_exit rfl) ?_) | ((with_reducible refine gd_end ?_); refine rr_ctl hB rfl (fun _ => stepG_end) ?_))
  (apply rr_call hB rfl (by rfl) (by k_ne) rfl; focus ((try walk_nrm); exact (mingled_x hB hN hl hM.out hls htot)))
  rintro _ s4 w4 ⟨rfl, hR⟩
  replace hj := (hR.zero rfl).2.2.1.trans hj
  clear hR hl hN
  walk_nrm
  repeat (first | ((with_reducible refine gd_op ?_); first | (refine rr_pure' hB rfl (by rfl) (by k_ne) (by rfl) (fun w₁ => by first | (simp [go_sem]; done) | simp [go_sem, *]) (fun w₁ K hK => ?_); go_simp; refine hK _ ?_; clear hK K w₁; try walk_nrm) | (refine rr_ctl hB rfl (fun _ => stepG_unwanted rfl rfl) ?_; try walk_nrm)) | ((with_reducible refine gd_rend ?_); (refine rr_regend hB hKr ?_; clear hKr Kr)) | ((with_reducible refine gd_seq ?_); refine rr_ctl hB rfl (fun _ => stepG_seq) ?_) | ((with_reducible refine gd_reg ?_); (refine rr_reg hB (fun Kr hKr => ?_); simp only [List.size_toArray, List.length_cons, List.length_nil, Nat.reduceAdd, Nat.zero_add, List.range, List.range.loop])) | ((with_reducible refine gd_skip ?_); refine rr_ctl hB rfl (fun _ => stepG_skip) ?_) | ((with_reducible refine gd_block ?_); refine rr_ctl hB rfl (fun _ => stepG_block) ?_) | ((with_reducible refine gd_inb ?_); refine rr_ctl hB rfl (fun _ => stepG_inBlock) ?_) | ((with_reducible refine gd_ret ?_); refine rr_ctl hB rfl (fun _ => stepG_ret') ?_) | ((with_reducible refine gd_exit ?_); refine rr_ctl hB rfl (fun _ => stepG_exit rfl) ?_) | ((with_reducible refine gd_end ?_); refine rr_ctl hB rfl (fun _ => stepG_end) ?_))
  (apply rr_call hB rfl (by rfl) (by k_ne) rfl; focus ((try walk_nrm); exact (awake_x hB)))
  rintro _ s5 w5 ⟨rfl, hR⟩
  replace hj := (hR.zero rfl).2.2.1.trans hj
  walk_nrm
  repeat (first | ((with_reducible refine gd_op ?_); first | (refine rr_pure' hB rfl (by rfl) (by k_ne) (by rfl) (fun w₁ => by first | (simp [go_sem]; done) | simp [go_sem, *]) (fun w₁ K hK => ?_); go_simp; refine hK _ ?_; clear hK K w₁; try walk_nrm) | (refine rr_ctl hB rfl (fun _ => stepG_unwanted rfl rfl) ?_; try walk_nrm)) | ((with_reducible refine gd_rend ?_); (refine rr_regend hB hKr ?_; clear hKr Kr)) | ((with_reducible refine gd_seq ?_); refine rr_ctl hB rfl (fun _ => stepG_seq) ?_) | ((with_reducible refine gd_reg ?_); (refine rr_reg hB (fun Kr hKr => ?_); simp only [List.size_toArray, List.length_cons, List.length_nil, Nat.reduceAdd, Nat.zero_add, List.range, List.range.loop])) | ((with_reducible refine gd_skip ?_); refine rr_ctl hB rfl (fun _ => stepG_skip) ?_) | ((with_reducible refine gd_block ?_); refine rr_ctl hB rfl (fun _ => stepG_block) ?_) | ((with_reducible refine gd_inb ?_); refine rr_ctl hB rfl (fun _ => stepG_inBlock) ?_) | ((with_reducible refine gd_ret ?_); refine rr_ctl hB rfl (fun _ => stepG_ret') ?_) | ((with_reducible refine gd_exit ?_); refine rr_ctl hB rfl (fun _ => stepG_exit rfl) ?_) | ((with_reducible refine gd_end ?_); refine rr_ctl hB rfl (fun _ => stepG_end) ?_))
  exact law_over hp rfl (.inr hj)
end
end Go.Proofs.Ytbamamkjmfkghaa.Crw
