/- A crowd adds: the law's own walk.
No condition. -/
import Derived.Test.YtiaebogolpcllaaVr
import Derived.Test.YtiaebogolpcllaaVe
set_option linter.unusedSimpArgs false
set_option linter.unusedVariables false
namespace Go.Proofs.Ytiaebogolpcllaa.Crw
open Go Go.Conc Go.RowKit Go.Conc.Lib Go.ConcR.Gen
open Go.ConcN (upd upd_same upd_ne)
open Go.ConcR (stA smA KK WgAt wgBlock rd wr mk)
set_option linter.unusedVariables false
set_option maxRecDepth 100000
set_option maxHeartbeats 4000000
section
variable {E : Env} {Post : Value → World → Prop} {s s' s₀ s₁ : St tallyU} {w w' w₀ w₁ : World}

theorem crowd_x (hB : tallyU.Laws) (hE : E.ty = 45) (hEN : 66 ≤ E.N) {n looks : Nat} (hn : 0 < n) (hn2 : n ≤ 64) {ls : List (List (Int × Int))} (hls : ls.length ≤ 64) (hlk : looks ≤ 65536) (hlens : ∀ l ∈ ls, l.length * 16 ≤ 140737488355328) {A : Option Addr} {cap : Nat} (hb : Begin s₀) (hl : Lists w₀.heap.size ls (.slice A ls.length cap) s₀ w₀) :
    CallX Try.prog tallyU E Post (Born (proto Try.prog tallyU E Post)) 0 4 #[.int .i64 n, .slice A ls.length cap, .int .i64 looks] s₀ w₀ (CrowdQ ls looks) :=
  ⟨Try.f4, _, Try.func4, by kernel_rfl, rfl, fun cal cs hret =>
    crowd_begin hB hE hn hn2 hls hlk hb hl fun a Wg cv cb b s w hF ha hT t1 t2 t9 t11 c hc => crowd_loop hB hEN hn hn2 hls hlens hF ha hT t1 t2 t9 t11 hc fun a s w hF ha hT t2 t9 t11 c hc => crowd_end hB hEN hn hn2 hls hlk hF ha hT t2 t9 t11 hc hret⟩

/-- Behind Crowd. -/
structure LawF (E : Env) (sb : Nat) (vs : List Int) (s : St tallyU) (w : World) : Prop where
  own : Own 0 s w sb 2 (ints vs)
  jn : s.tg.joined = true
theorem LawF.rely {sb : Nat} {vs : List Int} (h : LawF E sb vs s w) (r : Rl 0 s w s₁ w₁) : LawF E sb vs s₁ w₁ := ⟨h.own.rely r, (r.zero rfl).2.2.1.trans h.jn⟩

/-- How the law ends. -/
def LawPost (W : World) (v : Value) (w : World) : Prop := v = .bool true ∧ Below W.heap.size W w
theorem law_over (hp : ∀ w, Below E.W0.heap.size E.W0 w → Post (.bool true) w) {T : Array Value} {todo : List Item} (h6 : T[6]? = some (.bool true)) (hj : s.tg.n = 1 ∨ s.tg.joined = true) {Child : Sit (proto Try.prog tallyU E Post)} :
    RR Try.prog tallyU E Post Child 0 (G { (base 3).at ⟨T, []⟩ todo with mode := .returning } []) s w :=
  rr_over rfl fun s₁ w₁ hR hI => by
    refine ⟨.bool true, w₁, #[], ?_, ⟨?_, fun e he => by simp at he, fun e he => by simp at he⟩, hp _ ⟨hI.W.os, hI.W.tape, hI.W.output, hI.W.base, hI.W.same⟩⟩
    · simp [G, stepG, unwind, doReturn, results, Frame.at, base, Try.func3, Try.f3, seen, GStep.after, h6]
    · rcases hj with h | h
      · exact .inl ((hR.zero rfl).1.trans h)
      · exact .inr ((hR.zero rfl).2.2.1.trans h)

theorem law_refused (hB : tallyU.Laws) (hp : ∀ w, Below E.W0.heap.size E.W0 w → Post (.bool true) w) {n looks : Int} {ls : List (List (Int × Int))} {A : Option Addr} {cap : Nat} (hL : OldL E.W0 A ls) (hlen : ls.length * 24 ≤ 140737488355328) (hb : Begin s) (hr : refused n ls.length looks ≠ 0) {Child : Sit (proto Try.prog tallyU E Post)} :
    RR Try.prog tallyU E Post Child 0 (G ((base 3).at { tmps := #[.int .i64 n, .slice A ls.length cap, .int .i64 looks] ++ Array.replicate (Try.f3.ntmps - 3) undef, defers := [] } [.code (Try.f3.body.getD .skip)]) []) s w := by
  simp only [Try.f3, Option.getD_some]
  walk_nrm
  repeat (first | ((with_reducible refine gd_op ?_); first | (refine rr_pure' hB rfl (by rfl) (by k_ne) (by rfl) (fun w₁ => by first | (simp [go_sem]; done) | simp [go_sem, *]) (fun w₁ K hK => ?_); go_simp; refine hK _ ?_; clear hK K w₁; try walk_nrm) | (refine rr_ctl hB rfl (fun _ => stepG_unwanted rfl rfl) ?_; try walk_nrm)) | ((with_reducible refine gd_rend ?_); (refine rr_regend hB hKr ?_; clear hKr Kr)) | ((with_reducible refine gd_seq ?_); refine rr_ctl hB rfl (fun _ => stepG_seq) ?_) | ((with_reducible refine gd_reg ?_); (refine rr_reg hB (fun Kr hKr => ?_); simp only [List.size_toArray, List.length_cons, List.length_nil, Nat.reduceAdd, Nat.zero_add, List.range, List.range.loop])) | ((with_reducible refine gd_skip ?_); refine rr_ctl hB rfl (fun _ => stepG_skip) ?_) | ((with_reducible refine gd_block ?_); refine rr_ctl hB rfl (fun _ => stepG_block) ?_) | ((with_reducible refine gd_inb ?_); refine rr_ctl hB rfl (fun _ => stepG_inBlock) ?_) | ((with_reducible refine gd_ret ?_); refine rr_ctl hB rfl (fun _ => stepG_ret') ?_) | ((with_reducible refine gd_exit ?_); refine rr_ctl hB rfl (fun _ => stepG_exit rfl) ?_) | ((with_reducible refine gd_end ?_); refine rr_ctl hB rfl (fun _ => stepG_end) ?_))
  (apply rr_call hB rfl (by rfl) (by k_ne) rfl; focus ((try walk_nrm); exact (lists_x hB (cap := cap) hL hlen)))
  rintro v s' w' ⟨vals, hO⟩
  obtain ⟨A', cap', rfl, _⟩ := (Lists.of_out hO).out
  have hb' := hb.rely hO.rl
  clear hO
  walk_nrm
  repeat (first | ((with_reducible refine gd_op ?_); first | (refine rr_pure' hB rfl (by rfl) (by k_ne) (by rfl) (fun w₁ => by first | (simp [go_sem]; done) | simp [go_sem, *]) (fun w₁ K hK => ?_); go_simp; refine hK _ ?_; clear hK K w₁; try walk_nrm) | (refine rr_ctl hB rfl (fun _ => stepG_unwanted rfl rfl) ?_; try walk_nrm)) | ((with_reducible refine gd_rend ?_); (refine rr_regend hB hKr ?_; clear hKr Kr)) | ((with_reducible refine gd_seq ?_); refine rr_ctl hB rfl (fun _ => stepG_seq) ?_) | ((with_reducible refine gd_reg ?_); (refine rr_reg hB (fun Kr hKr => ?_); simp only [List.size_toArray, List.length_cons, List.length_nil, Nat.reduceAdd, Nat.zero_add, List.range, List.range.loop])) | ((with_reducible refine gd_skip ?_); refine rr_ctl hB rfl (fun _ => stepG_skip) ?_) | ((with_reducible refine gd_block ?_); refine rr_ctl hB rfl (fun _ => stepG_block) ?_) | ((with_reducible refine gd_inb ?_); refine rr_ctl hB rfl (fun _ => stepG_inBlock) ?_) | ((with_reducible refine gd_ret ?_); refine rr_ctl hB rfl (fun _ => stepG_ret') ?_) | ((with_reducible refine gd_exit ?_); refine rr_ctl hB rfl (fun _ => stepG_exit rfl) ?_) | ((with_reducible refine gd_end ?_); refine rr_ctl hB rfl (fun _ => stepG_end) ?_))
  (apply rr_call hB rfl (by rfl) (by k_ne) rfl; focus ((try walk_nrm); exact (crowd_refused hB n looks A' ls.length cap' hr)))
  rintro _ s'' w'' ⟨rfl, hR⟩
  have hb'' := hb'.rely hR
  clear hR hb'
  walk_nrm
  repeat (first | ((with_reducible refine gd_op ?_); first | (refine rr_pure' hB rfl (by rfl) (by k_ne) (by rfl) (fun w₁ => by first | (simp [go_sem]; done) | simp [go_sem, *]) (fun w₁ K hK => ?_); go_simp; refine hK _ ?_; clear hK K w₁; try walk_nrm) | (refine rr_ctl hB rfl (fun _ => stepG_unwanted rfl rfl) ?_; try walk_nrm)) | ((with_reducible refine gd_rend ?_); (refine rr_regend hB hKr ?_; clear hKr Kr)) | ((with_reducible refine gd_seq ?_); refine rr_ctl hB rfl (fun _ => stepG_seq) ?_) | ((with_reducible refine gd_reg ?_); (refine rr_reg hB (fun Kr hKr => ?_); simp only [List.size_toArray, List.length_cons, List.length_nil, Nat.reduceAdd, Nat.zero_add, List.range, List.range.loop])) | ((with_reducible refine gd_skip ?_); refine rr_ctl hB rfl (fun _ => stepG_skip) ?_) | ((with_reducible refine gd_block ?_); refine rr_ctl hB rfl (fun _ => stepG_block) ?_) | ((with_reducible refine gd_inb ?_); refine rr_ctl hB rfl (fun _ => stepG_inBlock) ?_) | ((with_reducible refine gd_ret ?_); refine rr_ctl hB rfl (fun _ => stepG_ret') ?_) | ((with_reducible refine gd_exit ?_); refine rr_ctl hB rfl (fun _ => stepG_exit rfl) ?_) | ((with_reducible refine gd_end ?_); refine rr_ctl hB rfl (fun _ => stepG_end) ?_))
  (apply rr_call hB rfl (by rfl) (by k_ne) rfl; focus ((try walk_nrm); exact (refused_x hB n looks A ls.length cap)))
  rintro _ s3 w3 ⟨rfl, e1, e2⟩
  rw [e1, e2]
  clear e1 e2
  generalize refused n ls.length looks = e at *
  walk_nrm
  repeat (first | ((with_reducible refine gd_op ?_); first | (refine rr_pure' hB rfl (by rfl) (by k_ne) (by rfl) (fun w₁ => by first | (simp [go_sem]; done) | simp [go_sem, *]) (fun w₁ K hK => ?_); go_simp; refine hK _ ?_; clear hK K w₁; try walk_nrm) | (refine rr_ctl hB rfl (fun _ => stepG_unwanted rfl rfl) ?_; try walk_nrm)) | ((with_reducible refine gd_rend ?_); (refine rr_regend hB hKr ?_; clear hKr Kr)) | ((with_reducible refine gd_seq ?_); refine rr_ctl hB rfl (fun _ => stepG_seq) ?_) | ((with_reducible refine gd_reg ?_); (refine rr_reg hB (fun Kr hKr => ?_); simp only [List.size_toArray, List.length_cons, List.length_nil, Nat.reduceAdd, Nat.zero_add, List.range, List.range.loop])) | ((with_reducible refine gd_skip ?_); refine rr_ctl hB rfl (fun _ => stepG_skip) ?_) | ((with_reducible refine gd_block ?_); refine rr_ctl hB rfl (fun _ => stepG_block) ?_) | ((with_reducible refine gd_inb ?_); refine rr_ctl hB rfl (fun _ => stepG_inBlock) ?_) | ((with_reducible refine gd_ret ?_); refine rr_ctl hB rfl (fun _ => stepG_ret') ?_) | ((with_reducible refine gd_exit ?_); refine rr_ctl hB rfl (fun _ => stepG_exit rfl) ?_) | ((with_reducible refine gd_end ?_); refine rr_ctl hB rfl (fun _ => stepG_end) ?_))
  (refine rr_ctl hB rfl (fun _ => stepG_cond (t := false) (by first | rfl | (simp [Act.eval, *]))) ?_; simp only [if_true, if_false, Bool.false_eq_true, ↓reduceIte])
  repeat (first | ((with_reducible refine gd_op ?_); first | (refine rr_pure' hB rfl (by rfl) (by k_ne) (by rfl) (fun w₁ => by first | (simp [go_sem]; done) | simp [go_sem, *]) (fun w₁ K hK => ?_); go_simp; refine hK _ ?_; clear hK K w₁; try walk_nrm) | (refine rr_ctl hB rfl (fun _ => stepG_unwanted rfl rfl) ?_; try walk_nrm)) | ((with_reducible refine gd_rend ?_); (refine rr_regend hB hKr ?_; clear hKr Kr)) | ((with_reducible refine gd_seq ?_); refine rr_ctl hB rfl (fun _ => stepG_seq) ?_) | ((with_reducible refine gd_reg ?_); (refine rr_reg hB (fun Kr hKr => ?_); simp only [List.size_toArray, List.length_cons, List.length_nil, Nat.reduceAdd, Nat.zero_add, List.range, List.range.loop])) | ((with_reducible refine gd_skip ?_); refine rr_ctl hB rfl (fun _ => stepG_skip) ?_) | ((with_reducible refine gd_block ?_); refine rr_ctl hB rfl (fun _ => stepG_block) ?_) | ((with_reducible refine gd_inb ?_); refine rr_ctl hB rfl (fun _ => stepG_inBlock) ?_) | ((with_reducible refine gd_ret ?_); refine rr_ctl hB rfl (fun _ => stepG_ret') ?_) | ((with_reducible refine gd_exit ?_); refine rr_ctl hB rfl (fun _ => stepG_exit rfl) ?_) | ((with_reducible refine gd_end ?_); refine rr_ctl hB rfl (fun _ => stepG_end) ?_))
  (refine rr_ctl hB rfl (fun _ => stepG_cond (t := true) (by first | rfl | (simp [Act.eval, *]))) ?_; simp only [if_true, if_false, Bool.false_eq_true, ↓reduceIte])
  repeat (first | ((with_reducible refine gd_op ?_); first | (refine rr_pure' hB rfl (by rfl) (by k_ne) (by rfl) (fun w₁ => by first | (simp [go_sem]; done) | simp [go_sem, *]) (fun w₁ K hK => ?_); go_simp; refine hK _ ?_; clear hK K w₁; try walk_nrm) | (refine rr_ctl hB rfl (fun _ => stepG_unwanted rfl rfl) ?_; try walk_nrm)) | ((with_reducible refine gd_rend ?_); (refine rr_regend hB hKr ?_; clear hKr Kr)) | ((with_reducible refine gd_seq ?_); refine rr_ctl hB rfl (fun _ => stepG_seq) ?_) | ((with_reducible refine gd_reg ?_); (refine rr_reg hB (fun Kr hKr => ?_); simp only [List.size_toArray, List.length_cons, List.length_nil, Nat.reduceAdd, Nat.zero_add, List.range, List.range.loop])) | ((with_reducible refine gd_skip ?_); refine rr_ctl hB rfl (fun _ => stepG_skip) ?_) | ((with_reducible refine gd_block ?_); refine rr_ctl hB rfl (fun _ => stepG_block) ?_) | ((with_reducible refine gd_inb ?_); refine rr_ctl hB rfl (fun _ => stepG_inBlock) ?_) | ((with_reducible refine gd_ret ?_); refine rr_ctl hB rfl (fun _ => stepG_ret') ?_) | ((with_reducible refine gd_exit ?_); refine rr_ctl hB rfl (fun _ => stepG_exit rfl) ?_) | ((with_reducible refine gd_end ?_); refine rr_ctl hB rfl (fun _ => stepG_end) ?_))
  (apply rr_call hB rfl (by rfl) (by k_ne) rfl; focus ((try walk_nrm); exact (awake_x hB)))
  rintro _ s4 w4 ⟨rfl, hR⟩
  have hb4 := hb''.rely hR
  clear hR hb''
  walk_nrm
  repeat (first | ((with_reducible refine gd_op ?_); first | (refine rr_pure' hB rfl (by rfl) (by k_ne) (by rfl) (fun w₁ => by first | (simp [go_sem]; done) | simp [go_sem, *]) (fun w₁ K hK => ?_); go_simp; refine hK _ ?_; clear hK K w₁; try walk_nrm) | (refine rr_ctl hB rfl (fun _ => stepG_unwanted rfl rfl) ?_; try walk_nrm)) | ((with_reducible refine gd_rend ?_); (refine rr_regend hB hKr ?_; clear hKr Kr)) | ((with_reducible refine gd_seq ?_); refine rr_ctl hB rfl (fun _ => stepG_seq) ?_) | ((with_reducible refine gd_reg ?_); (refine rr_reg hB (fun Kr hKr => ?_); simp only [List.size_toArray, List.length_cons, List.length_nil, Nat.reduceAdd, Nat.zero_add, List.range, List.range.loop])) | ((with_reducible refine gd_skip ?_); refine rr_ctl hB rfl (fun _ => stepG_skip) ?_) | ((with_reducible refine gd_block ?_); refine rr_ctl hB rfl (fun _ => stepG_block) ?_) | ((with_reducible refine gd_inb ?_); refine rr_ctl hB rfl (fun _ => stepG_inBlock) ?_) | ((with_reducible refine gd_ret ?_); refine rr_ctl hB rfl (fun _ => stepG_ret') ?_) | ((with_reducible refine gd_exit ?_); refine rr_ctl hB rfl (fun _ => stepG_exit rfl) ?_) | ((with_reducible refine gd_end ?_); refine rr_ctl hB rfl (fun _ => stepG_end) ?_))
  exact law_over hp rfl (.inl hb4.n1)
end
end Go.Proofs.Ytiaebogolpcllaa.Crw
namespace Go.Proofs.Ytiaebogolpcllaa.Crw
open Go Go.Conc Go.RowKit Go.Conc.Lib Go.ConcR.Gen
open Go.ConcN (upd upd_same upd_ne)
open Go.ConcR (stA smA KK WgAt wgBlock rd wr mk)
set_option linter.unusedVariables false
set_option maxRecDepth 100000
set_option maxHeartbeats 4000000
/-- The registers behind the check of a look. -/
structure LookQ (sb looks : Nat) (S : Int) (i : Nat) (a : Act) : Prop where
  ds : a.defers = []
  sz : a.tmps.size = 93
  t7 : a.tmps[7]? = some (.int .i64 S)
  t8 : a.tmps[8]? = some (.slice (some ⟨sb, 0, none⟩) looks looks)
  t11 : a.tmps[11]? = some (.bool true)
  t12 : a.tmps[12]? = some (.int .i64 (i : Nat))
  t91 : a.tmps[91]? = some (.bool false)
theorem cellS {w : World} {sb i : Nat} {t : TypeId} {vs : List Int} (h : w.heap[sb]? = some (.cells (ints vs).toArray t (0, 0))) (hi : i < vs.length) : w.cell? ⟨sb, i, none⟩ = some (.int .i64 vs[i]) := by
  simp [World.cell?, h, ints, List.getElem?_eq_getElem hi]
section
variable {E : Env} {Post : Value → World → Prop} {Child : Sit (proto Try.prog tallyU E Post)} {s s' s₀ s₁ : St tallyU} {w w' w₀ w₁ : World}

theorem law_looks (hB : tallyU.Laws) (hp : ∀ w, Below E.W0.heap.size E.W0 w → Post (.bool true) w) {sb looks : Nat} {S : Int} {vs : List Int} (hvl : vs.length = looks) (hlk : looks ≤ 65536) (hup : ∀ (i : Nat) x y, vs[i]? = some x → vs[i + 1]? = some y → x ≤ y) (hlow : ∀ x ∈ vs, 0 ≤ x) (hS : ∀ x ∈ vs, x ≤ S) (hF : LawF E sb vs s w)
    {T : Array Value} (hT : T.size = 93) (t7 : T[7]? = some (.int .i64 S)) (t8 : T[8]? = some (.slice (some ⟨sb, 0, none⟩) looks looks)) (t11 : T[11]? = some (.bool true)) (t12 : T[12]? = some (.int .i64 0))
    {L rest : Code} (hc : ∃ c0 c1 c2 c3 c4 c5 c9, Try.f3.body = some (.seq c0 (.seq c1 (.seq c2 (.seq c3 (.seq c4 (.seq c5 (.seq (.seq c9 (.block 0 (.loop L))) rest)))))))) :
    RR Try.prog tallyU E Post Child 0 (G ((base 3).at ⟨T, []⟩ [.code (.loop L), .inBlock 0, .code rest]) []) s w := by
  obtain ⟨c0, c1, c2, c3, c4, c5, c9, hc⟩ := hc
  simp only [Try.f3, Option.some.injEq, Code.seq.injEq, Code.block.injEq, Code.loop.injEq, true_and] at hc
  obtain ⟨-, -, -, -, -, -, ⟨-, rfl⟩, rfl⟩ := hc
  replace hup := Hid.mk hup
  replace hlow := Hid.mk hlow
  replace hS := Hid.mk hS
  refine rr_loop hB (fun m a s w => ∃ T i, a = ⟨T, []⟩ ∧ T.size = 93 ∧ T[7]? = some (.int .i64 S) ∧ T[8]? = some (.slice (some ⟨sb, 0, none⟩) looks looks) ∧ T[11]? = some (.bool true) ∧ T[12]? = some (.int .i64 (i : Nat)) ∧ i ≤ looks ∧ m = looks - i ∧ LawF E sb vs s w) looks ⟨T, 0, rfl, hT, t7, t8, t11, t12, Nat.zero_le _, rfl, hF⟩ ?_
  clear hF hT t7 t8 t11 t12 T
  rintro m a s w ⟨T, i, rfl, hT, t7, t8, t11, t12, hle, rfl, hF⟩ ih
  obtain ⟨T⟩ := T
  ((iterate 93 (rcases T with _ | ⟨_, T⟩; focus (simp at hT))); rcases T with _ | ⟨_, _⟩; rotate_left; focus (simp at hT))
  simp only [List.getElem?_toArray, List.getElem?_cons_succ, List.getElem?_cons_zero, Option.some.injEq] at t7 t8 t11 t12
  subst t7 t8 t11 t12
  by_cases hlt : i < looks
  · have hix : i < vs.length := by omega
    have hk2 : 0 ≤ (i : Int) ∧ (i : Int) < looks := ⟨by omega, by omega⟩
    have hx := List.getElem_mem hix
    have q1 : ¬ vs[i] < 0 := by have := hlow.out _ hx; omega
    have q2 : ¬ S < vs[i] := by have := hS.out _ hx; omega
    have hw1 : IntKind.i64.wrap ((i : Int) + 1) = ((i + 1 : Nat) : Int) := by rw [IntKind.wrap_i64]; omega
    repeat (first | ((with_reducible refine gd_op ?_); first | (refine rr_pure' hB rfl (by rfl) (by k_ne) (by rfl) (fun w₁ => by first | (simp [go_sem]; done) | simp [go_sem, *]) (fun w₁ K hK => ?_); go_simp; refine hK _ ?_; clear hK K w₁; try walk_nrm) | (refine rr_ctl hB rfl (fun _ => stepG_unwanted rfl rfl) ?_; try walk_nrm)) | ((with_reducible refine gd_rend ?_); (refine rr_regend hB hKr ?_; clear hKr Kr)) | ((with_reducible refine gd_seq ?_); refine rr_ctl hB rfl (fun _ => stepG_seq) ?_) | ((with_reducible refine gd_reg ?_); (refine rr_reg hB (fun Kr hKr => ?_); simp only [List.size_toArray, List.length_cons, List.length_nil, Nat.reduceAdd, Nat.zero_add, List.range, List.range.loop])) | ((with_reducible refine gd_skip ?_); refine rr_ctl hB rfl (fun _ => stepG_skip) ?_) | ((with_reducible refine gd_block ?_); refine rr_ctl hB rfl (fun _ => stepG_block) ?_) | ((with_reducible refine gd_inb ?_); refine rr_ctl hB rfl (fun _ => stepG_inBlock) ?_) | ((with_reducible refine gd_ret ?_); refine rr_ctl hB rfl (fun _ => stepG_ret') ?_) | ((with_reducible refine gd_exit ?_); refine rr_ctl hB rfl (fun _ => stepG_exit rfl) ?_) | ((with_reducible refine gd_end ?_); refine rr_ctl hB rfl (fun _ => stepG_end) ?_))
    (refine rr_ctl hB rfl (fun _ => stepG_cond (t := true) (by first | rfl | (simp [Act.eval, *]))) ?_; simp only [if_true, if_false, Bool.false_eq_true, ↓reduceIte])
    repeat (first | ((with_reducible refine gd_op ?_); first | (refine rr_pure' hB rfl (by rfl) (by k_ne) (by rfl) (fun w₁ => by first | (simp [go_sem]; done) | simp [go_sem, *]) (fun w₁ K hK => ?_); go_simp; refine hK _ ?_; clear hK K w₁; try walk_nrm) | (refine rr_ctl hB rfl (fun _ => stepG_unwanted rfl rfl) ?_; try walk_nrm)) | ((with_reducible refine gd_rend ?_); (refine rr_regend hB hKr ?_; clear hKr Kr)) | ((with_reducible refine gd_seq ?_); refine rr_ctl hB rfl (fun _ => stepG_seq) ?_) | ((with_reducible refine gd_reg ?_); (refine rr_reg hB (fun Kr hKr => ?_); simp only [List.size_toArray, List.length_cons, List.length_nil, Nat.reduceAdd, Nat.zero_add, List.range, List.range.loop])) | ((with_reducible refine gd_skip ?_); refine rr_ctl hB rfl (fun _ => stepG_skip) ?_) | ((with_reducible refine gd_block ?_); refine rr_ctl hB rfl (fun _ => stepG_block) ?_) | ((with_reducible refine gd_inb ?_); refine rr_ctl hB rfl (fun _ => stepG_inBlock) ?_) | ((with_reducible refine gd_ret ?_); refine rr_ctl hB rfl (fun _ => stepG_ret') ?_) | ((with_reducible refine gd_exit ?_); refine rr_ctl hB rfl (fun _ => stepG_exit rfl) ?_) | ((with_reducible refine gd_end ?_); refine rr_ctl hB rfl (fun _ => stepG_end) ?_))
    rcases i with _ | j
    · refine rr_reads (R := SameAt sb) (D := ReadsOf sb) (S := fun w => w.heap[sb]? = some (.cells (ints vs).toArray 2 (0, 0))) (Q := LookQ sb looks S 0) (F := LawF E sb vs) (terms_reads sb) (fun _ => rfl) (draws_reads sb) (fun h r => ⟨h.rely r, (same_rely h.own r).2⟩) (fun h hI hd => ⟨(mv_reads (E := E) h.own hd).1, (mv_reads (E := E) h.own hd).2, h.jn⟩) hF (by k_ne) mixed (fun w₁ hw₁ => ?_) ?_
      · have hSw : ({ w₁ with drawn := w₁.drawn + 1 } : World).heap[sb]? = some (.cells (ints vs).toArray 2 (0, 0)) := (show w₁.heap[sb]? = w.heap[sb]? from hw₁).trans hF.own.hp
        generalize ({ w₁ with drawn := w₁.drawn + 1 } : World) = wx at hSw
        clear hw₁ hF ih
        co_applyP anyCH_take (terms_reads sb) (fun _ _ h r => r.trans h) (fun _ _ _ h _ => h) (i := 0) rfl (by kernel_rfl) (by kernel_rfl) (by kernel_rfl) (.inl ⟨by rfl, fun _ hw => ⟨run_eq_of ?run1, ?guar1⟩⟩) hSw ?rest1
        case run1 => intro K hK; have hc := cellS hw hix; go_simp; exact hK
        case guar1 => have hc := cellS hw hix; exact .inl ⟨listed_nil (by simp [go_sem, *]), _, rfl⟩
        try walk_nrm
        co_applyP anyCH_take (terms_reads sb) (fun _ _ h r => r.trans h) (fun _ _ _ h _ => h) (i := 1) rfl (by kernel_rfl) (by kernel_rfl) (by kernel_rfl) (.inl ⟨by rfl, fun _ hw => ⟨run_eq_of ?run2, ?guar2⟩⟩) hSw ?rest2
        case run2 => intro K hK; have hc := cellS hw hix; go_simp; exact hK
        case guar2 => have hc := cellS hw hix; exact .inl ⟨listed_nil (by simp [go_sem, *]), _, rfl⟩
        try walk_nrm
        co_applyP anyCH_take (terms_reads sb) (fun _ _ h r => r.trans h) (fun _ _ _ h _ => h) (i := 2) rfl (by kernel_rfl) (by kernel_rfl) (by kernel_rfl) (.inl ⟨by rfl, fun _ hw => ⟨run_eq_of ?run3, ?guar3⟩⟩) hSw ?rest3
        case run3 => intro K hK; have hc := cellS hw hix; go_simp; exact hK
        case guar3 => have hc := cellS hw hix; exact .inl ⟨listed_nil (by simp [go_sem, *]), _, rfl⟩
        try walk_nrm
        co_applyP anyCH_take (terms_reads sb) (fun _ _ h r => r.trans h) (fun _ _ _ h _ => h) (i := 3) rfl (by kernel_rfl) (by kernel_rfl) (by kernel_rfl) (.inl ⟨by rfl, fun _ hw => ⟨run_eq_of ?run4, ?guar4⟩⟩) hSw ?rest4
        case run4 => intro K hK; have hc := cellS hw hix; go_simp; exact hK
        case guar4 => have hc := cellS hw hix; exact .inr ⟨rfl, fun e he => by have hm := mem_listed he; simp [go_sem, *] at hm; exact ⟨_, hm⟩⟩
        try walk_nrm
        co_applyP anyCH_take (terms_reads sb) (fun _ _ h r => r.trans h) (fun _ _ _ h _ => h) (i := 4) rfl (by kernel_rfl) (by kernel_rfl) (by kernel_rfl) (.inl ⟨by rfl, fun _ hw => ⟨run_eq_of ?run5, ?guar5⟩⟩) hSw ?rest5
        case run5 => intro K hK; have hc := cellS hw hix; go_simp; exact hK
        case guar5 => have hc := cellS hw hix; exact .inl ⟨listed_nil (by simp [go_sem, *]), _, rfl⟩
        try walk_nrm
        co_applyP anyCH_take (terms_reads sb) (fun _ _ h r => r.trans h) (fun _ _ _ h _ => h) (i := 5) rfl (by kernel_rfl) (by kernel_rfl) (by kernel_rfl) (.inl ⟨by rfl, fun _ hw => ⟨run_eq_of ?run6, ?guar6⟩⟩) hSw ?rest6
        case run6 => intro K hK; have hc := cellS hw hix; go_simp; exact hK
        case guar6 => have hc := cellS hw hix; exact .inl ⟨listed_nil (by simp [go_sem, *]), _, rfl⟩
        try walk_nrm
        co_applyP anyCH_take (terms_reads sb) (fun _ _ h r => r.trans h) (fun _ _ _ h _ => h) (i := 6) rfl (by kernel_rfl) (by kernel_rfl) (by kernel_rfl) (.inl ⟨by rfl, fun _ hw => ⟨run_eq_of ?run7, ?guar7⟩⟩) hSw ?rest7
        case run7 => intro K hK; have hc := cellS hw hix; go_simp; exact hK
        case guar7 => have hc := cellS hw hix; exact .inl ⟨listed_nil (by simp [go_sem, *]), _, rfl⟩
        try walk_nrm
        co_applyP anyCH_take (terms_reads sb) (fun _ _ h r => r.trans h) (fun _ _ _ h _ => h) (i := 7) rfl (by kernel_rfl) (by kernel_rfl) (by kernel_rfl) (.inl ⟨by rfl, fun _ hw => ⟨run_eq_of ?run8, ?guar8⟩⟩) hSw ?rest8
        case run8 => intro K hK; have hc := cellS hw hix; go_simp; exact hK
        case guar8 => have hc := cellS hw hix; exact .inl ⟨listed_nil (by simp [go_sem, *]), _, rfl⟩
        try walk_nrm
        co_applyP anyCH_take (terms_reads sb) (fun _ _ h r => r.trans h) (fun _ _ _ h _ => h) (i := 8) rfl (by kernel_rfl) (by kernel_rfl) (by kernel_rfl) (.inl ⟨by rfl, fun _ hw => ⟨run_eq_of ?run9, ?guar9⟩⟩) hSw ?rest9
        case run9 => intro K hK; have hc := cellS hw hix; go_simp; exact hK
        case guar9 => have hc := cellS hw hix; exact .inl ⟨listed_nil (by simp [go_sem, *]), _, rfl⟩
        try walk_nrm
        co_applyP anyCH_take (terms_reads sb) (fun _ _ h r => r.trans h) (fun _ _ _ h _ => h) (i := 9) rfl (by kernel_rfl) (by kernel_rfl) (by kernel_rfl) (.inl ⟨by rfl, fun _ hw => ⟨run_eq_of ?run10, ?guar10⟩⟩) hSw ?rest10
        case run10 => intro K hK; have hc := cellS hw hix; go_simp; exact hK
        case guar10 => have hc := cellS hw hix; exact .inr ⟨rfl, fun e he => by have hm := mem_listed he; simp [go_sem, *] at hm; exact ⟨_, hm⟩⟩
        try walk_nrm
        co_applyP anyCH_take (terms_reads sb) (fun _ _ h r => r.trans h) (fun _ _ _ h _ => h) (i := 10) rfl (by kernel_rfl) (by kernel_rfl) (by kernel_rfl) (.inl ⟨by rfl, fun _ hw => ⟨run_eq_of ?run11, ?guar11⟩⟩) hSw ?rest11
        case run11 => intro K hK; have hc := cellS hw hix; go_simp; exact hK
        case guar11 => have hc := cellS hw hix; exact .inl ⟨listed_nil (by simp [go_sem, *]), _, rfl⟩
        try walk_nrm
        co_applyP anyCH_take (terms_reads sb) (fun _ _ h r => r.trans h) (fun _ _ _ h _ => h) (i := 11) rfl (by kernel_rfl) (by kernel_rfl) (by kernel_rfl) (.inl ⟨by rfl, fun _ hw => ⟨run_eq_of ?run12, ?guar12⟩⟩) hSw ?rest12
        case run12 => intro K hK; have hc := cellS hw hix; go_simp; exact hK
        case guar12 => have hc := cellS hw hix; exact .inl ⟨listed_nil (by simp [go_sem, *]), _, rfl⟩
        try walk_nrm
        co_applyP anyCH_take (terms_reads sb) (fun _ _ h r => r.trans h) (fun _ _ _ h _ => h) (i := 12) rfl (by kernel_rfl) (by kernel_rfl) (by kernel_rfl) (.inl ⟨by rfl, fun _ hw => ⟨run_eq_of ?run13, ?guar13⟩⟩) hSw ?rest13
        case run13 => intro K hK; have hc := cellS hw hix; go_simp; exact hK
        case guar13 => have hc := cellS hw hix; exact .inl ⟨listed_nil (by simp [go_sem, *]), _, rfl⟩
        try walk_nrm
        co_applyP anyCH_take (terms_reads sb) (fun _ _ h r => r.trans h) (fun _ _ _ h _ => h) (i := 13) rfl (by kernel_rfl) (by kernel_rfl) (by kernel_rfl) (.inl ⟨by rfl, fun _ hw => ⟨run_eq_of ?run14, ?guar14⟩⟩) hSw ?rest14
        case run14 => intro K hK; have hc := cellS hw hix; go_simp; exact hK
        case guar14 => have hc := cellS hw hix; exact .inl ⟨listed_nil (by simp [go_sem, *]), _, rfl⟩
        try walk_nrm
        co_applyP anyCH_take (terms_reads sb) (fun _ _ h r => r.trans h) (fun _ _ _ h _ => h) (i := 14) rfl (by kernel_rfl) (by kernel_rfl) (by kernel_rfl) (.inl ⟨by rfl, fun _ hw => ⟨run_eq_of ?run15, ?guar15⟩⟩) hSw ?rest15
        case run15 => intro K hK; have hc := cellS hw hix; go_simp; exact hK
        case guar15 => have hc := cellS hw hix; exact .inl ⟨listed_nil (by simp [go_sem, *]), _, rfl⟩
        try walk_nrm
        co_applyP anyCH_take (terms_reads sb) (fun _ _ h r => r.trans h) (fun _ _ _ h _ => h) (i := 15) rfl (by kernel_rfl) (by kernel_rfl) (by kernel_rfl) (.inl ⟨by rfl, fun _ hw => ⟨run_eq_of ?run16, ?guar16⟩⟩) hSw ?rest16
        case run16 => intro K hK; have hc := cellS hw hix; go_simp; exact hK
        case guar16 => have hc := cellS hw hix; exact .inl ⟨listed_nil (by simp [go_sem, *]), _, rfl⟩
        try walk_nrm
        co_applyP anyCH_take (terms_reads sb) (fun _ _ h r => r.trans h) (fun _ _ _ h _ => h) (i := 16) rfl (by kernel_rfl) (by kernel_rfl) (by kernel_rfl) (.inl ⟨by rfl, fun _ hw => ⟨run_eq_of ?run17, ?guar17⟩⟩) hSw ?rest17
        case run17 => intro K hK; have hc := cellS hw hix; go_simp; exact hK
        case guar17 => have hc := cellS hw hix; exact .inl ⟨listed_nil (by simp [go_sem, *]), _, rfl⟩
        try walk_nrm
        co_applyP anyCH_take (terms_reads sb) (fun _ _ h r => r.trans h) (fun _ _ _ h _ => h) (i := 17) rfl (by kernel_rfl) (by kernel_rfl) (by kernel_rfl) (.inr ⟨by rfl, rfl⟩) hSw ?rest18
        try walk_nrm
        co_applyP anyCH_take (terms_reads sb) (fun _ _ h r => r.trans h) (fun _ _ _ h _ => h) (i := 18) rfl (by kernel_rfl) (by kernel_rfl) (by kernel_rfl) (.inr ⟨by rfl, rfl⟩) hSw ?rest19
        try walk_nrm
        co_applyP anyCH_take (terms_reads sb) (fun _ _ h r => r.trans h) (fun _ _ _ h _ => h) (i := 19) rfl (by kernel_rfl) (by kernel_rfl) (by kernel_rfl) (.inr ⟨by rfl, rfl⟩) hSw ?rest20
        try walk_nrm
        co_applyP anyCH_take (terms_reads sb) (fun _ _ h r => r.trans h) (fun _ _ _ h _ => h) (i := 20) rfl (by kernel_rfl) (by kernel_rfl) (by kernel_rfl) (.inr ⟨by rfl, rfl⟩) hSw ?rest21
        try walk_nrm
        co_applyP anyCH_take (terms_reads sb) (fun _ _ h r => r.trans h) (fun _ _ _ h _ => h) (i := 21) rfl (by kernel_rfl) (by kernel_rfl) (by kernel_rfl) (.inr ⟨by rfl, rfl⟩) hSw ?rest22
        try walk_nrm
        co_applyP anyCH_take (terms_reads sb) (fun _ _ h r => r.trans h) (fun _ _ _ h _ => h) (i := 22) rfl (by kernel_rfl) (by kernel_rfl) (by kernel_rfl) (.inr ⟨by rfl, rfl⟩) hSw ?rest23
        try walk_nrm
        co_applyP anyCH_take (terms_reads sb) (fun _ _ h r => r.trans h) (fun _ _ _ h _ => h) (i := 23) rfl (by kernel_rfl) (by kernel_rfl) (by kernel_rfl) (.inr ⟨by rfl, rfl⟩) hSw ?rest24
        try walk_nrm
        co_applyP anyCH_take (terms_reads sb) (fun _ _ h r => r.trans h) (fun _ _ _ h _ => h) (i := 24) rfl (by kernel_rfl) (by kernel_rfl) (by kernel_rfl) (.inr ⟨by rfl, rfl⟩) hSw ?rest25
        try walk_nrm
        co_applyP anyCH_take (terms_reads sb) (fun _ _ h r => r.trans h) (fun _ _ _ h _ => h) (i := 25) rfl (by kernel_rfl) (by kernel_rfl) (by kernel_rfl) (.inr ⟨by rfl, rfl⟩) hSw ?rest26
        try walk_nrm
        co_applyP anyCH_take (terms_reads sb) (fun _ _ h r => r.trans h) (fun _ _ _ h _ => h) (i := 26) rfl (by kernel_rfl) (by kernel_rfl) (by kernel_rfl) (.inr ⟨by rfl, rfl⟩) hSw ?rest27
        try walk_nrm
        co_applyP anyCH_take (terms_reads sb) (fun _ _ h r => r.trans h) (fun _ _ _ h _ => h) (i := 27) rfl (by kernel_rfl) (by kernel_rfl) (by kernel_rfl) (.inl ⟨by rfl, fun _ hw => ⟨run_eq_of ?run28, ?guar28⟩⟩) hSw ?rest28
        case run28 => intro K hK; have hc := cellS hw hix; go_simp; exact hK
        case guar28 => have hc := cellS hw hix; exact .inl ⟨listed_nil (by simp [go_sem, *]), _, rfl⟩
        try walk_nrm
        co_applyP anyCH_take (terms_reads sb) (fun _ _ h r => r.trans h) (fun _ _ _ h _ => h) (i := 28) rfl (by kernel_rfl) (by kernel_rfl) (by kernel_rfl) (.inl ⟨by rfl, fun _ hw => ⟨run_eq_of ?run29, ?guar29⟩⟩) hSw ?rest29
        case run29 => intro K hK; have hc := cellS hw hix; go_simp; exact hK
        case guar29 => have hc := cellS hw hix; exact .inl ⟨listed_nil (by simp [go_sem, *]), _, rfl⟩
        try walk_nrm
        exact anyCH_done (by kernel_rfl) ⟨rfl, rfl, rfl, rfl, rfl, rfl, rfl, rfl⟩ _
      · rintro ⟨⟨T⟩, ds⟩ s w hF ⟨hds, hT, t7, t8, t11, t12, t91⟩
        simp only at hds hT t7 t8 t11 t12 t91
        subst hds
        ((iterate 93 (rcases T with _ | ⟨_, T⟩; focus (simp at hT))); rcases T with _ | ⟨_, _⟩; rotate_left; focus (simp at hT))
        simp only [List.getElem?_toArray, List.getElem?_cons_succ, List.getElem?_cons_zero, Option.some.injEq] at t7 t8 t11 t12 t91
        subst t7 t8 t11 t12 t91
        repeat (first | ((with_reducible refine gd_op ?_); first | (refine rr_pure' hB rfl (by rfl) (by k_ne) (by rfl) (fun w₁ => by first | (simp [go_sem]; done) | simp [go_sem, *]) (fun w₁ K hK => ?_); go_simp; refine hK _ ?_; clear hK K w₁; try walk_nrm) | (refine rr_ctl hB rfl (fun _ => stepG_unwanted rfl rfl) ?_; try walk_nrm)) | ((with_reducible refine gd_rend ?_); (refine rr_regend hB hKr ?_; clear hKr Kr)) | ((with_reducible refine gd_seq ?_); refine rr_ctl hB rfl (fun _ => stepG_seq) ?_) | ((with_reducible refine gd_reg ?_); (refine rr_reg hB (fun Kr hKr => ?_); simp only [List.size_toArray, List.length_cons, List.length_nil, Nat.reduceAdd, Nat.zero_add, List.range, List.range.loop])) | ((with_reducible refine gd_skip ?_); refine rr_ctl hB rfl (fun _ => stepG_skip) ?_) | ((with_reducible refine gd_block ?_); refine rr_ctl hB rfl (fun _ => stepG_block) ?_) | ((with_reducible refine gd_inb ?_); refine rr_ctl hB rfl (fun _ => stepG_inBlock) ?_) | ((with_reducible refine gd_ret ?_); refine rr_ctl hB rfl (fun _ => stepG_ret') ?_) | ((with_reducible refine gd_exit ?_); refine rr_ctl hB rfl (fun _ => stepG_exit rfl) ?_) | ((with_reducible refine gd_end ?_); refine rr_ctl hB rfl (fun _ => stepG_end) ?_))
        (refine rr_ctl hB rfl (fun _ => stepG_cond (t := false) (by first | rfl | (simp [Act.eval, *]))) ?_; simp only [if_true, if_false, Bool.false_eq_true, ↓reduceIte])
        repeat (first | ((with_reducible refine gd_op ?_); first | (refine rr_pure' hB rfl (by rfl) (by k_ne) (by rfl) (fun w₁ => by first | (simp [go_sem]; done) | simp [go_sem, *]) (fun w₁ K hK => ?_); go_simp; refine hK _ ?_; clear hK K w₁; try walk_nrm) | (refine rr_ctl hB rfl (fun _ => stepG_unwanted rfl rfl) ?_; try walk_nrm)) | ((with_reducible refine gd_rend ?_); (refine rr_regend hB hKr ?_; clear hKr Kr)) | ((with_reducible refine gd_seq ?_); refine rr_ctl hB rfl (fun _ => stepG_seq) ?_) | ((with_reducible refine gd_reg ?_); (refine rr_reg hB (fun Kr hKr => ?_); simp only [List.size_toArray, List.length_cons, List.length_nil, Nat.reduceAdd, Nat.zero_add, List.range, List.range.loop])) | ((with_reducible refine gd_skip ?_); refine rr_ctl hB rfl (fun _ => stepG_skip) ?_) | ((with_reducible refine gd_block ?_); refine rr_ctl hB rfl (fun _ => stepG_block) ?_) | ((with_reducible refine gd_inb ?_); refine rr_ctl hB rfl (fun _ => stepG_inBlock) ?_) | ((with_reducible refine gd_ret ?_); refine rr_ctl hB rfl (fun _ => stepG_ret') ?_) | ((with_reducible refine gd_exit ?_); refine rr_ctl hB rfl (fun _ => stepG_exit rfl) ?_) | ((with_reducible refine gd_end ?_); refine rr_ctl hB rfl (fun _ => stepG_end) ?_))
        refine rr_ctl hB rfl (fun _ => stepG_inLoop) ?_
        exact ih (looks - (0 + 1)) _ _ _ (by omega) ⟨_, 0 + 1, rfl, rfl, rfl, rfl, rfl, rfl, by omega, rfl, hF⟩
    · have hiy : j < vs.length := by omega
      have q3 : ¬ vs[j + 1] < vs[j] := by have := hup.out j _ _ (List.getElem?_eq_getElem hiy) (List.getElem?_eq_getElem hix); omega
      have hj1 : IntKind.i64.wrap (((j + 1 : Nat) : Int) - 1) = (j : Int) := by rw [IntKind.wrap_i64]; omega
      have hj2 : IntKind.i64.wrap ((j : Int) + 1 - 1) = (j : Int) := by rw [IntKind.wrap_i64]; omega
      have hj3 : IntKind.i64.wrap (j : Int) = (j : Int) := by rw [IntKind.wrap_i64]; omega
      have hk3 : 0 ≤ (j : Int) ∧ (j : Int) < looks := ⟨by omega, by omega⟩
      have hk4 : 0 < j + 1 := by omega
      have hk6 : 0 ≤ (j : Int) + 1 ∧ (j : Int) + 1 < looks := ⟨by omega, by omega⟩
      have hk7 : (0 : Int) < (j : Int) + 1 := by omega
      have hj4 : IntKind.i64.wrap ((j : Int) + 1) = (j : Int) + 1 := by rw [IntKind.wrap_i64]; omega
      have hw2 : IntKind.i64.wrap ((j : Int) + 1 + 1) = ((j + 1 + 1 : Nat) : Int) := by rw [IntKind.wrap_i64]; omega
      have hk5 : (0 : Int) < ((j + 1 : Nat) : Int) := by omega
      refine rr_reads (R := SameAt sb) (D := ReadsOf sb) (S := fun w => w.heap[sb]? = some (.cells (ints vs).toArray 2 (0, 0))) (Q := LookQ sb looks S (j + 1)) (F := LawF E sb vs) (terms_reads sb) (fun _ => rfl) (draws_reads sb) (fun h r => ⟨h.rely r, (same_rely h.own r).2⟩) (fun h hI hd => ⟨(mv_reads (E := E) h.own hd).1, (mv_reads (E := E) h.own hd).2, h.jn⟩) hF (by k_ne) mixed (fun w₁ hw₁ => ?_) ?_
      · have hSw : ({ w₁ with drawn := w₁.drawn + 1 } : World).heap[sb]? = some (.cells (ints vs).toArray 2 (0, 0)) := (show w₁.heap[sb]? = w.heap[sb]? from hw₁).trans hF.own.hp
        generalize ({ w₁ with drawn := w₁.drawn + 1 } : World) = wx at hSw
        clear hw₁ hF ih
        co_applyP anyCH_take (terms_reads sb) (fun _ _ h r => r.trans h) (fun _ _ _ h _ => h) (i := 0) rfl (by kernel_rfl) (by kernel_rfl) (by kernel_rfl) (.inl ⟨by rfl, fun _ hw => ⟨run_eq_of ?run30, ?guar30⟩⟩) hSw ?rest30
        case run30 => intro K hK; have hc := cellS hw hix; have hc2 := cellS hw hiy; go_simp; exact hK
        case guar30 => have hc := cellS hw hix; have hc2 := cellS hw hiy; exact .inl ⟨listed_nil (by simp [go_sem, *]), _, rfl⟩
        try walk_nrm
        co_applyP anyCH_take (terms_reads sb) (fun _ _ h r => r.trans h) (fun _ _ _ h _ => h) (i := 1) rfl (by kernel_rfl) (by kernel_rfl) (by kernel_rfl) (.inl ⟨by rfl, fun _ hw => ⟨run_eq_of ?run31, ?guar31⟩⟩) hSw ?rest31
        case run31 => intro K hK; have hc := cellS hw hix; have hc2 := cellS hw hiy; go_simp; exact hK
        case guar31 => have hc := cellS hw hix; have hc2 := cellS hw hiy; exact .inl ⟨listed_nil (by simp [go_sem, *]), _, rfl⟩
        try walk_nrm
        co_applyP anyCH_take (terms_reads sb) (fun _ _ h r => r.trans h) (fun _ _ _ h _ => h) (i := 2) rfl (by kernel_rfl) (by kernel_rfl) (by kernel_rfl) (.inl ⟨by rfl, fun _ hw => ⟨run_eq_of ?run32, ?guar32⟩⟩) hSw ?rest32
        case run32 => intro K hK; have hc := cellS hw hix; have hc2 := cellS hw hiy; go_simp; exact hK
        case guar32 => have hc := cellS hw hix; have hc2 := cellS hw hiy; exact .inl ⟨listed_nil (by simp [go_sem, *]), _, rfl⟩
        try walk_nrm
        co_applyP anyCH_take (terms_reads sb) (fun _ _ h r => r.trans h) (fun _ _ _ h _ => h) (i := 3) rfl (by kernel_rfl) (by kernel_rfl) (by kernel_rfl) (.inl ⟨by rfl, fun _ hw => ⟨run_eq_of ?run33, ?guar33⟩⟩) hSw ?rest33
        case run33 => intro K hK; have hc := cellS hw hix; have hc2 := cellS hw hiy; go_simp; exact hK
        case guar33 => have hc := cellS hw hix; have hc2 := cellS hw hiy; exact .inr ⟨rfl, fun e he => by have hm := mem_listed he; simp [go_sem, *] at hm; exact ⟨_, hm⟩⟩
        try walk_nrm
        co_applyP anyCH_take (terms_reads sb) (fun _ _ h r => r.trans h) (fun _ _ _ h _ => h) (i := 4) rfl (by kernel_rfl) (by kernel_rfl) (by kernel_rfl) (.inl ⟨by rfl, fun _ hw => ⟨run_eq_of ?run34, ?guar34⟩⟩) hSw ?rest34
        case run34 => intro K hK; have hc := cellS hw hix; have hc2 := cellS hw hiy; go_simp; exact hK
        case guar34 => have hc := cellS hw hix; have hc2 := cellS hw hiy; exact .inl ⟨listed_nil (by simp [go_sem, *]), _, rfl⟩
        try walk_nrm
        co_applyP anyCH_take (terms_reads sb) (fun _ _ h r => r.trans h) (fun _ _ _ h _ => h) (i := 5) rfl (by kernel_rfl) (by kernel_rfl) (by kernel_rfl) (.inl ⟨by rfl, fun _ hw => ⟨run_eq_of ?run35, ?guar35⟩⟩) hSw ?rest35
        case run35 => intro K hK; have hc := cellS hw hix; have hc2 := cellS hw hiy; go_simp; exact hK
        case guar35 => have hc := cellS hw hix; have hc2 := cellS hw hiy; exact .inl ⟨listed_nil (by simp [go_sem, *]), _, rfl⟩
        try walk_nrm
        co_applyP anyCH_take (terms_reads sb) (fun _ _ h r => r.trans h) (fun _ _ _ h _ => h) (i := 6) rfl (by kernel_rfl) (by kernel_rfl) (by kernel_rfl) (.inl ⟨by rfl, fun _ hw => ⟨run_eq_of ?run36, ?guar36⟩⟩) hSw ?rest36
        case run36 => intro K hK; have hc := cellS hw hix; have hc2 := cellS hw hiy; go_simp; exact hK
        case guar36 => have hc := cellS hw hix; have hc2 := cellS hw hiy; exact .inl ⟨listed_nil (by simp [go_sem, *]), _, rfl⟩
        try walk_nrm
        co_applyP anyCH_take (terms_reads sb) (fun _ _ h r => r.trans h) (fun _ _ _ h _ => h) (i := 7) rfl (by kernel_rfl) (by kernel_rfl) (by kernel_rfl) (.inl ⟨by rfl, fun _ hw => ⟨run_eq_of ?run37, ?guar37⟩⟩) hSw ?rest37
        case run37 => intro K hK; have hc := cellS hw hix; have hc2 := cellS hw hiy; go_simp; exact hK
        case guar37 => have hc := cellS hw hix; have hc2 := cellS hw hiy; exact .inl ⟨listed_nil (by simp [go_sem, *]), _, rfl⟩
        try walk_nrm
        co_applyP anyCH_take (terms_reads sb) (fun _ _ h r => r.trans h) (fun _ _ _ h _ => h) (i := 8) rfl (by kernel_rfl) (by kernel_rfl) (by kernel_rfl) (.inl ⟨by rfl, fun _ hw => ⟨run_eq_of ?run38, ?guar38⟩⟩) hSw ?rest38
        case run38 => intro K hK; have hc := cellS hw hix; have hc2 := cellS hw hiy; go_simp; exact hK
        case guar38 => have hc := cellS hw hix; have hc2 := cellS hw hiy; exact .inl ⟨listed_nil (by simp [go_sem, *]), _, rfl⟩
        try walk_nrm
        co_applyP anyCH_take (terms_reads sb) (fun _ _ h r => r.trans h) (fun _ _ _ h _ => h) (i := 9) rfl (by kernel_rfl) (by kernel_rfl) (by kernel_rfl) (.inl ⟨by rfl, fun _ hw => ⟨run_eq_of ?run39, ?guar39⟩⟩) hSw ?rest39
        case run39 => intro K hK; have hc := cellS hw hix; have hc2 := cellS hw hiy; go_simp; exact hK
        case guar39 => have hc := cellS hw hix; have hc2 := cellS hw hiy; exact .inr ⟨rfl, fun e he => by have hm := mem_listed he; simp [go_sem, *] at hm; exact ⟨_, hm⟩⟩
        try walk_nrm
        co_applyP anyCH_take (terms_reads sb) (fun _ _ h r => r.trans h) (fun _ _ _ h _ => h) (i := 10) rfl (by kernel_rfl) (by kernel_rfl) (by kernel_rfl) (.inl ⟨by rfl, fun _ hw => ⟨run_eq_of ?run40, ?guar40⟩⟩) hSw ?rest40
        case run40 => intro K hK; have hc := cellS hw hix; have hc2 := cellS hw hiy; go_simp; exact hK
        case guar40 => have hc := cellS hw hix; have hc2 := cellS hw hiy; exact .inl ⟨listed_nil (by simp [go_sem, *]), _, rfl⟩
        try walk_nrm
        co_applyP anyCH_take (terms_reads sb) (fun _ _ h r => r.trans h) (fun _ _ _ h _ => h) (i := 11) rfl (by kernel_rfl) (by kernel_rfl) (by kernel_rfl) (.inl ⟨by rfl, fun _ hw => ⟨run_eq_of ?run41, ?guar41⟩⟩) hSw ?rest41
        case run41 => intro K hK; have hc := cellS hw hix; have hc2 := cellS hw hiy; go_simp; exact hK
        case guar41 => have hc := cellS hw hix; have hc2 := cellS hw hiy; exact .inl ⟨listed_nil (by simp [go_sem, *]), _, rfl⟩
        try walk_nrm
        co_applyP anyCH_take (terms_reads sb) (fun _ _ h r => r.trans h) (fun _ _ _ h _ => h) (i := 12) rfl (by kernel_rfl) (by kernel_rfl) (by kernel_rfl) (.inl ⟨by rfl, fun _ hw => ⟨run_eq_of ?run42, ?guar42⟩⟩) hSw ?rest42
        case run42 => intro K hK; have hc := cellS hw hix; have hc2 := cellS hw hiy; go_simp; exact hK
        case guar42 => have hc := cellS hw hix; have hc2 := cellS hw hiy; exact .inl ⟨listed_nil (by simp [go_sem, *]), _, rfl⟩
        try walk_nrm
        co_applyP anyCH_take (terms_reads sb) (fun _ _ h r => r.trans h) (fun _ _ _ h _ => h) (i := 13) rfl (by kernel_rfl) (by kernel_rfl) (by kernel_rfl) (.inl ⟨by rfl, fun _ hw => ⟨run_eq_of ?run43, ?guar43⟩⟩) hSw ?rest43
        case run43 => intro K hK; have hc := cellS hw hix; have hc2 := cellS hw hiy; go_simp; exact hK
        case guar43 => have hc := cellS hw hix; have hc2 := cellS hw hiy; exact .inl ⟨listed_nil (by simp [go_sem, *]), _, rfl⟩
        try walk_nrm
        co_applyP anyCH_take (terms_reads sb) (fun _ _ h r => r.trans h) (fun _ _ _ h _ => h) (i := 14) rfl (by kernel_rfl) (by kernel_rfl) (by kernel_rfl) (.inl ⟨by rfl, fun _ hw => ⟨run_eq_of ?run44, ?guar44⟩⟩) hSw ?rest44
        case run44 => intro K hK; have hc := cellS hw hix; have hc2 := cellS hw hiy; go_simp; exact hK
        case guar44 => have hc := cellS hw hix; have hc2 := cellS hw hiy; exact .inl ⟨listed_nil (by simp [go_sem, *]), _, rfl⟩
        try walk_nrm
        co_applyP anyCH_take (terms_reads sb) (fun _ _ h r => r.trans h) (fun _ _ _ h _ => h) (i := 15) rfl (by kernel_rfl) (by kernel_rfl) (by kernel_rfl) (.inl ⟨by rfl, fun _ hw => ⟨run_eq_of ?run45, ?guar45⟩⟩) hSw ?rest45
        case run45 => intro K hK; have hc := cellS hw hix; have hc2 := cellS hw hiy; go_simp; exact hK
        case guar45 => have hc := cellS hw hix; have hc2 := cellS hw hiy; exact .inl ⟨listed_nil (by simp [go_sem, *]), _, rfl⟩
        try walk_nrm
        co_applyP anyCH_take (terms_reads sb) (fun _ _ h r => r.trans h) (fun _ _ _ h _ => h) (i := 16) rfl (by kernel_rfl) (by kernel_rfl) (by kernel_rfl) (.inl ⟨by rfl, fun _ hw => ⟨run_eq_of ?run46, ?guar46⟩⟩) hSw ?rest46
        case run46 => intro K hK; have hc := cellS hw hix; have hc2 := cellS hw hiy; go_simp; exact hK
        case guar46 => have hc := cellS hw hix; have hc2 := cellS hw hiy; exact .inl ⟨listed_nil (by simp [go_sem, *]), _, rfl⟩
        try walk_nrm
        co_applyP anyCH_take (terms_reads sb) (fun _ _ h r => r.trans h) (fun _ _ _ h _ => h) (i := 17) rfl (by kernel_rfl) (by kernel_rfl) (by kernel_rfl) (.inl ⟨by rfl, fun _ hw => ⟨run_eq_of ?run47, ?guar47⟩⟩) hSw ?rest47
        case run47 => intro K hK; have hc := cellS hw hix; have hc2 := cellS hw hiy; go_simp; exact hK
        case guar47 => have hc := cellS hw hix; have hc2 := cellS hw hiy; exact .inl ⟨listed_nil (by simp [go_sem, *]), _, rfl⟩
        try walk_nrm
        co_applyP anyCH_take (terms_reads sb) (fun _ _ h r => r.trans h) (fun _ _ _ h _ => h) (i := 18) rfl (by kernel_rfl) (by kernel_rfl) (by kernel_rfl) (.inl ⟨by rfl, fun _ hw => ⟨run_eq_of ?run48, ?guar48⟩⟩) hSw ?rest48
        case run48 => intro K hK; have hc := cellS hw hix; have hc2 := cellS hw hiy; go_simp; exact hK
        case guar48 => have hc := cellS hw hix; have hc2 := cellS hw hiy; exact .inl ⟨listed_nil (by simp [go_sem, *]), _, rfl⟩
        try walk_nrm
        co_applyP anyCH_take (terms_reads sb) (fun _ _ h r => r.trans h) (fun _ _ _ h _ => h) (i := 19) rfl (by kernel_rfl) (by kernel_rfl) (by kernel_rfl) (.inl ⟨by rfl, fun _ hw => ⟨run_eq_of ?run49, ?guar49⟩⟩) hSw ?rest49
        case run49 => intro K hK; have hc := cellS hw hix; have hc2 := cellS hw hiy; go_simp; exact hK
        case guar49 => have hc := cellS hw hix; have hc2 := cellS hw hiy; exact .inl ⟨listed_nil (by simp [go_sem, *]), _, rfl⟩
        try walk_nrm
        co_applyP anyCH_take (terms_reads sb) (fun _ _ h r => r.trans h) (fun _ _ _ h _ => h) (i := 20) rfl (by kernel_rfl) (by kernel_rfl) (by kernel_rfl) (.inl ⟨by rfl, fun _ hw => ⟨run_eq_of ?run50, ?guar50⟩⟩) hSw ?rest50
        case run50 => intro K hK; have hc := cellS hw hix; have hc2 := cellS hw hiy; go_simp; exact hK
        case guar50 => have hc := cellS hw hix; have hc2 := cellS hw hiy; exact .inr ⟨rfl, fun e he => by have hm := mem_listed he; simp [go_sem, *] at hm; exact ⟨_, hm⟩⟩
        try walk_nrm
        co_applyP anyCH_take (terms_reads sb) (fun _ _ h r => r.trans h) (fun _ _ _ h _ => h) (i := 21) rfl (by kernel_rfl) (by kernel_rfl) (by kernel_rfl) (.inl ⟨by rfl, fun _ hw => ⟨run_eq_of ?run51, ?guar51⟩⟩) hSw ?rest51
        case run51 => intro K hK; have hc := cellS hw hix; have hc2 := cellS hw hiy; go_simp; exact hK
        case guar51 => have hc := cellS hw hix; have hc2 := cellS hw hiy; exact .inl ⟨listed_nil (by simp [go_sem, *]), _, rfl⟩
        try walk_nrm
        co_applyP anyCH_take (terms_reads sb) (fun _ _ h r => r.trans h) (fun _ _ _ h _ => h) (i := 22) rfl (by kernel_rfl) (by kernel_rfl) (by kernel_rfl) (.inl ⟨by rfl, fun _ hw => ⟨run_eq_of ?run52, ?guar52⟩⟩) hSw ?rest52
        case run52 => intro K hK; have hc := cellS hw hix; have hc2 := cellS hw hiy; go_simp; exact hK
        case guar52 => have hc := cellS hw hix; have hc2 := cellS hw hiy; exact .inl ⟨listed_nil (by simp [go_sem, *]), _, rfl⟩
        try walk_nrm
        co_applyP anyCH_take (terms_reads sb) (fun _ _ h r => r.trans h) (fun _ _ _ h _ => h) (i := 23) rfl (by kernel_rfl) (by kernel_rfl) (by kernel_rfl) (.inl ⟨by rfl, fun _ hw => ⟨run_eq_of ?run53, ?guar53⟩⟩) hSw ?rest53
        case run53 => intro K hK; have hc := cellS hw hix; have hc2 := cellS hw hiy; go_simp; exact hK
        case guar53 => have hc := cellS hw hix; have hc2 := cellS hw hiy; exact .inl ⟨listed_nil (by simp [go_sem, *]), _, rfl⟩
        try walk_nrm
        co_applyP anyCH_take (terms_reads sb) (fun _ _ h r => r.trans h) (fun _ _ _ h _ => h) (i := 24) rfl (by kernel_rfl) (by kernel_rfl) (by kernel_rfl) (.inl ⟨by rfl, fun _ hw => ⟨run_eq_of ?run54, ?guar54⟩⟩) hSw ?rest54
        case run54 => intro K hK; have hc := cellS hw hix; have hc2 := cellS hw hiy; go_simp; exact hK
        case guar54 => have hc := cellS hw hix; have hc2 := cellS hw hiy; exact .inl ⟨listed_nil (by simp [go_sem, *]), _, rfl⟩
        try walk_nrm
        co_applyP anyCH_take (terms_reads sb) (fun _ _ h r => r.trans h) (fun _ _ _ h _ => h) (i := 25) rfl (by kernel_rfl) (by kernel_rfl) (by kernel_rfl) (.inl ⟨by rfl, fun _ hw => ⟨run_eq_of ?run55, ?guar55⟩⟩) hSw ?rest55
        case run55 => intro K hK; have hc := cellS hw hix; have hc2 := cellS hw hiy; go_simp; exact hK
        case guar55 => have hc := cellS hw hix; have hc2 := cellS hw hiy; exact .inr ⟨rfl, fun e he => by have hm := mem_listed he; simp [go_sem, *] at hm; exact ⟨_, hm⟩⟩
        try walk_nrm
        co_applyP anyCH_take (terms_reads sb) (fun _ _ h r => r.trans h) (fun _ _ _ h _ => h) (i := 26) rfl (by kernel_rfl) (by kernel_rfl) (by kernel_rfl) (.inl ⟨by rfl, fun _ hw => ⟨run_eq_of ?run56, ?guar56⟩⟩) hSw ?rest56
        case run56 => intro K hK; have hc := cellS hw hix; have hc2 := cellS hw hiy; go_simp; exact hK
        case guar56 => have hc := cellS hw hix; have hc2 := cellS hw hiy; exact .inl ⟨listed_nil (by simp [go_sem, *]), _, rfl⟩
        try walk_nrm
        co_applyP anyCH_take (terms_reads sb) (fun _ _ h r => r.trans h) (fun _ _ _ h _ => h) (i := 27) rfl (by kernel_rfl) (by kernel_rfl) (by kernel_rfl) (.inl ⟨by rfl, fun _ hw => ⟨run_eq_of ?run57, ?guar57⟩⟩) hSw ?rest57
        case run57 => intro K hK; have hc := cellS hw hix; have hc2 := cellS hw hiy; go_simp; exact hK
        case guar57 => have hc := cellS hw hix; have hc2 := cellS hw hiy; exact .inl ⟨listed_nil (by simp [go_sem, *]), _, rfl⟩
        try walk_nrm
        co_applyP anyCH_take (terms_reads sb) (fun _ _ h r => r.trans h) (fun _ _ _ h _ => h) (i := 28) rfl (by kernel_rfl) (by kernel_rfl) (by kernel_rfl) (.inl ⟨by rfl, fun _ hw => ⟨run_eq_of ?run58, ?guar58⟩⟩) hSw ?rest58
        case run58 => intro K hK; have hc := cellS hw hix; have hc2 := cellS hw hiy; go_simp; exact hK
        case guar58 => have hc := cellS hw hix; have hc2 := cellS hw hiy; exact .inl ⟨listed_nil (by simp [go_sem, *]), _, rfl⟩
        try walk_nrm
        exact anyCH_done (by kernel_rfl) ⟨rfl, rfl, rfl, rfl, rfl, rfl, rfl, rfl⟩ _
      · rintro ⟨⟨T⟩, ds⟩ s w hF ⟨hds, hT, t7, t8, t11, t12, t91⟩
        simp only at hds hT t7 t8 t11 t12 t91
        subst hds
        ((iterate 93 (rcases T with _ | ⟨_, T⟩; focus (simp at hT))); rcases T with _ | ⟨_, _⟩; rotate_left; focus (simp at hT))
        simp only [List.getElem?_toArray, List.getElem?_cons_succ, List.getElem?_cons_zero, Option.some.injEq] at t7 t8 t11 t12 t91
        subst t7 t8 t11 t12 t91
        repeat (first | ((with_reducible refine gd_op ?_); first | (refine rr_pure' hB rfl (by rfl) (by k_ne) (by rfl) (fun w₁ => by first | (simp [go_sem]; done) | simp [go_sem, *]) (fun w₁ K hK => ?_); go_simp; refine hK _ ?_; clear hK K w₁; try walk_nrm) | (refine rr_ctl hB rfl (fun _ => stepG_unwanted rfl rfl) ?_; try walk_nrm)) | ((with_reducible refine gd_rend ?_); (refine rr_regend hB hKr ?_; clear hKr Kr)) | ((with_reducible refine gd_seq ?_); refine rr_ctl hB rfl (fun _ => stepG_seq) ?_) | ((with_reducible refine gd_reg ?_); (refine rr_reg hB (fun Kr hKr => ?_); simp only [List.size_toArray, List.length_cons, List.length_nil, Nat.reduceAdd, Nat.zero_add, List.range, List.range.loop])) | ((with_reducible refine gd_skip ?_); refine rr_ctl hB rfl (fun _ => stepG_skip) ?_) | ((with_reducible refine gd_block ?_); refine rr_ctl hB rfl (fun _ => stepG_block) ?_) | ((with_reducible refine gd_inb ?_); refine rr_ctl hB rfl (fun _ => stepG_inBlock) ?_) | ((with_reducible refine gd_ret ?_); refine rr_ctl hB rfl (fun _ => stepG_ret') ?_) | ((with_reducible refine gd_exit ?_); refine rr_ctl hB rfl (fun _ => stepG_exit rfl) ?_) | ((with_reducible refine gd_end ?_); refine rr_ctl hB rfl (fun _ => stepG_end) ?_))
        (refine rr_ctl hB rfl (fun _ => stepG_cond (t := false) (by first | rfl | (simp [Act.eval, *]))) ?_; simp only [if_true, if_false, Bool.false_eq_true, ↓reduceIte])
        repeat (first | ((with_reducible refine gd_op ?_); first | (refine rr_pure' hB rfl (by rfl) (by k_ne) (by rfl) (fun w₁ => by first | (simp [go_sem]; done) | simp [go_sem, *]) (fun w₁ K hK => ?_); go_simp; refine hK _ ?_; clear hK K w₁; try walk_nrm) | (refine rr_ctl hB rfl (fun _ => stepG_unwanted rfl rfl) ?_; try walk_nrm)) | ((with_reducible refine gd_rend ?_); (refine rr_regend hB hKr ?_; clear hKr Kr)) | ((with_reducible refine gd_seq ?_); refine rr_ctl hB rfl (fun _ => stepG_seq) ?_) | ((with_reducible refine gd_reg ?_); (refine rr_reg hB (fun Kr hKr => ?_); simp only [List.size_toArray, List.length_cons, List.length_nil, Nat.reduceAdd, Nat.zero_add, List.range, List.range.loop])) | ((with_reducible refine gd_skip ?_); refine rr_ctl hB rfl (fun _ => stepG_skip) ?_) | ((with_reducible refine gd_block ?_); refine rr_ctl hB rfl (fun _ => stepG_block) ?_) | ((with_reducible refine gd_inb ?_); refine rr_ctl hB rfl (fun _ => stepG_inBlock) ?_) | ((with_reducible refine gd_ret ?_); refine rr_ctl hB rfl (fun _ => stepG_ret') ?_) | ((with_reducible refine gd_exit ?_); refine rr_ctl hB rfl (fun _ => stepG_exit rfl) ?_) | ((with_reducible refine gd_end ?_); refine rr_ctl hB rfl (fun _ => stepG_end) ?_))
        refine rr_ctl hB rfl (fun _ => stepG_inLoop) ?_
        exact ih (looks - (j + 1 + 1)) _ _ _ (by omega) ⟨_, j + 1 + 1, rfl, rfl, rfl, rfl, rfl, rfl, by omega, rfl, hF⟩
  · repeat (first | ((with_reducible refine gd_op ?_); first | (refine rr_pure' hB rfl (by rfl) (by k_ne) (by rfl) (fun w₁ => by first | (simp [go_sem]; done) | simp [go_sem, *]) (fun w₁ K hK => ?_); go_simp; refine hK _ ?_; clear hK K w₁; try walk_nrm) | (refine rr_ctl hB rfl (fun _ => stepG_unwanted rfl rfl) ?_; try walk_nrm)) | ((with_reducible refine gd_rend ?_); (refine rr_regend hB hKr ?_; clear hKr Kr)) | ((with_reducible refine gd_seq ?_); refine rr_ctl hB rfl (fun _ => stepG_seq) ?_) | ((with_reducible refine gd_reg ?_); (refine rr_reg hB (fun Kr hKr => ?_); simp only [List.size_toArray, List.length_cons, List.length_nil, Nat.reduceAdd, Nat.zero_add, List.range, List.range.loop])) | ((with_reducible refine gd_skip ?_); refine rr_ctl hB rfl (fun _ => stepG_skip) ?_) | ((with_reducible refine gd_block ?_); refine rr_ctl hB rfl (fun _ => stepG_block) ?_) | ((with_reducible refine gd_inb ?_); refine rr_ctl hB rfl (fun _ => stepG_inBlock) ?_) | ((with_reducible refine gd_ret ?_); refine rr_ctl hB rfl (fun _ => stepG_ret') ?_) | ((with_reducible refine gd_exit ?_); refine rr_ctl hB rfl (fun _ => stepG_exit rfl) ?_) | ((with_reducible refine gd_end ?_); refine rr_ctl hB rfl (fun _ => stepG_end) ?_))
    (refine rr_ctl hB rfl (fun _ => stepG_cond (t := false) (by first | rfl | (simp [Act.eval, *]))) ?_; simp only [if_true, if_false, Bool.false_eq_true, ↓reduceIte])
    repeat (first | ((with_reducible refine gd_op ?_); first | (refine rr_pure' hB rfl (by rfl) (by k_ne) (by rfl) (fun w₁ => by first | (simp [go_sem]; done) | simp [go_sem, *]) (fun w₁ K hK => ?_); go_simp; refine hK _ ?_; clear hK K w₁; try walk_nrm) | (refine rr_ctl hB rfl (fun _ => stepG_unwanted rfl rfl) ?_; try walk_nrm)) | ((with_reducible refine gd_rend ?_); (refine rr_regend hB hKr ?_; clear hKr Kr)) | ((with_reducible refine gd_seq ?_); refine rr_ctl hB rfl (fun _ => stepG_seq) ?_) | ((with_reducible refine gd_reg ?_); (refine rr_reg hB (fun Kr hKr => ?_); simp only [List.size_toArray, List.length_cons, List.length_nil, Nat.reduceAdd, Nat.zero_add, List.range, List.range.loop])) | ((with_reducible refine gd_skip ?_); refine rr_ctl hB rfl (fun _ => stepG_skip) ?_) | ((with_reducible refine gd_block ?_); refine rr_ctl hB rfl (fun _ => stepG_block) ?_) | ((with_reducible refine gd_inb ?_); refine rr_ctl hB rfl (fun _ => stepG_inBlock) ?_) | ((with_reducible refine gd_ret ?_); refine rr_ctl hB rfl (fun _ => stepG_ret') ?_) | ((with_reducible refine gd_exit ?_); refine rr_ctl hB rfl (fun _ => stepG_exit rfl) ?_) | ((with_reducible refine gd_end ?_); refine rr_ctl hB rfl (fun _ => stepG_end) ?_))
    (apply rr_call hB rfl (by rfl) (by k_ne) rfl; focus ((try walk_nrm); exact (awake_x hB)))
    rintro _ s4 w4 ⟨rfl, hR⟩
    have hj := (hF.rely hR).jn
    walk_nrm
    repeat (first | ((with_reducible refine gd_op ?_); first | (refine rr_pure' hB rfl (by rfl) (by k_ne) (by rfl) (fun w₁ => by first | (simp [go_sem]; done) | simp [go_sem, *]) (fun w₁ K hK => ?_); go_simp; refine hK _ ?_; clear hK K w₁; try walk_nrm) | (refine rr_ctl hB rfl (fun _ => stepG_unwanted rfl rfl) ?_; try walk_nrm)) | ((with_reducible refine gd_rend ?_); (refine rr_regend hB hKr ?_; clear hKr Kr)) | ((with_reducible refine gd_seq ?_); refine rr_ctl hB rfl (fun _ => stepG_seq) ?_) | ((with_reducible refine gd_reg ?_); (refine rr_reg hB (fun Kr hKr => ?_); simp only [List.size_toArray, List.length_cons, List.length_nil, Nat.reduceAdd, Nat.zero_add, List.range, List.range.loop])) | ((with_reducible refine gd_skip ?_); refine rr_ctl hB rfl (fun _ => stepG_skip) ?_) | ((with_reducible refine gd_block ?_); refine rr_ctl hB rfl (fun _ => stepG_block) ?_) | ((with_reducible refine gd_inb ?_); refine rr_ctl hB rfl (fun _ => stepG_inBlock) ?_) | ((with_reducible refine gd_ret ?_); refine rr_ctl hB rfl (fun _ => stepG_ret') ?_) | ((with_reducible refine gd_exit ?_); refine rr_ctl hB rfl (fun _ => stepG_exit rfl) ?_) | ((with_reducible refine gd_end ?_); refine rr_ctl hB rfl (fun _ => stepG_end) ?_))
    exact law_over hp rfl (.inr hj)
end
end Go.Proofs.Ytiaebogolpcllaa.Crw
namespace Go.Proofs.Ytiaebogolpcllaa.Crw
open Go Go.Conc Go.RowKit Go.Conc.Lib Go.ConcR.Gen
open Go.ConcN (upd upd_same upd_ne)
open Go.ConcR (stA smA KK WgAt wgBlock rd wr mk)
set_option linter.unusedVariables false
set_option maxRecDepth 100000
set_option maxHeartbeats 4000000
theorem FineSo.fine {ls : List (List Int)} (h : FineSo ls.flatten) : Fine ls :=
  ⟨fun l hl x hx => h.1 x (List.mem_flatten.2 ⟨l, hl, hx⟩), by rw [← sum1_flatten]; exact h.2⟩
section
variable {E : Env} {Post : Value → World → Prop} {s s' s₀ s₁ : St tallyU} {w w' w₀ w₁ : World}
theorem LawF.cell {sb : Nat} {vs : List Int} (h : LawF E sb vs s w) {i : Nat} (hi : i < vs.length) : w.cell? ⟨sb, i, none⟩ = some (.int .i64 vs[i]) := by
  rw [h.own.cell i]; simp [ints, List.getElem?_eq_getElem hi]

theorem law_main (hB : tallyU.Laws) (hE : E.ty = 45) (hEN : 66 ≤ E.N) (hp : ∀ w, Below E.W0.heap.size E.W0 w → Post (.bool true) w) {n looks : Nat} (hn : 0 < n) (hn2 : n ≤ 64) {ls : List (List (Int × Int))} (hls : ls.length ≤ 64) (hlk : looks ≤ 65536) {A : Option Addr} {cap : Nat} (hL : OldL E.W0 A ls) (hb : Begin s) :
    RR Try.prog tallyU E Post (Born (proto Try.prog tallyU E Post)) 0 (G ((base 3).at { tmps := #[.int .i64 n, .slice A ls.length cap, .int .i64 looks] ++ Array.replicate (Try.f3.ntmps - 3) undef, defers := [] } [.code (Try.f3.body.getD .skip)]) []) s w := by
  simp only [Try.f3, Option.getD_some]
  have hlens := hL.lens
  replace hL := Hid.mk hL
  walk_nrm
  repeat (first | ((with_reducible refine gd_op ?_); first | (refine rr_pure' hB rfl (by rfl) (by k_ne) (by rfl) (fun w₁ => by first | (simp [go_sem]; done) | simp [go_sem, *]) (fun w₁ K hK => ?_); go_simp; refine hK _ ?_; clear hK K w₁; try walk_nrm) | (refine rr_ctl hB rfl (fun _ => stepG_unwanted rfl rfl) ?_; try walk_nrm)) | ((with_reducible refine gd_rend ?_); (refine rr_regend hB hKr ?_; clear hKr Kr)) | ((with_reducible refine gd_seq ?_); refine rr_ctl hB rfl (fun _ => stepG_seq) ?_) | ((with_reducible refine gd_reg ?_); (refine rr_reg hB (fun Kr hKr => ?_); simp only [List.size_toArray, List.length_cons, List.length_nil, Nat.reduceAdd, Nat.zero_add, List.range, List.range.loop])) | ((with_reducible refine gd_skip ?_); refine rr_ctl hB rfl (fun _ => stepG_skip) ?_) | ((with_reducible refine gd_block ?_); refine rr_ctl hB rfl (fun _ => stepG_block) ?_) | ((with_reducible refine gd_inb ?_); refine rr_ctl hB rfl (fun _ => stepG_inBlock) ?_) | ((with_reducible refine gd_ret ?_); refine rr_ctl hB rfl (fun _ => stepG_ret') ?_) | ((with_reducible refine gd_exit ?_); refine rr_ctl hB rfl (fun _ => stepG_exit rfl) ?_) | ((with_reducible refine gd_end ?_); refine rr_ctl hB rfl (fun _ => stepG_end) ?_))
  (apply rr_call hB rfl (by rfl) (by k_ne) rfl; focus ((try walk_nrm); exact (lists_x hB (cap := cap) hL.out (by omega))))
  rintro v s' w' ⟨vals, hO⟩
  have hl := Lists.of_out hO
  obtain ⟨A', cap', rfl, _⟩ := hl.out
  have hb' := hb.rely hO.rl
  clear hO hb
  walk_nrm
  repeat (first | ((with_reducible refine gd_op ?_); first | (refine rr_pure' hB rfl (by rfl) (by k_ne) (by rfl) (fun w₁ => by first | (simp [go_sem]; done) | simp [go_sem, *]) (fun w₁ K hK => ?_); go_simp; refine hK _ ?_; clear hK K w₁; try walk_nrm) | (refine rr_ctl hB rfl (fun _ => stepG_unwanted rfl rfl) ?_; try walk_nrm)) | ((with_reducible refine gd_rend ?_); (refine rr_regend hB hKr ?_; clear hKr Kr)) | ((with_reducible refine gd_seq ?_); refine rr_ctl hB rfl (fun _ => stepG_seq) ?_) | ((with_reducible refine gd_reg ?_); (refine rr_reg hB (fun Kr hKr => ?_); simp only [List.size_toArray, List.length_cons, List.length_nil, Nat.reduceAdd, Nat.zero_add, List.range, List.range.loop])) | ((with_reducible refine gd_skip ?_); refine rr_ctl hB rfl (fun _ => stepG_skip) ?_) | ((with_reducible refine gd_block ?_); refine rr_ctl hB rfl (fun _ => stepG_block) ?_) | ((with_reducible refine gd_inb ?_); refine rr_ctl hB rfl (fun _ => stepG_inBlock) ?_) | ((with_reducible refine gd_ret ?_); refine rr_ctl hB rfl (fun _ => stepG_ret') ?_) | ((with_reducible refine gd_exit ?_); refine rr_ctl hB rfl (fun _ => stepG_exit rfl) ?_) | ((with_reducible refine gd_end ?_); refine rr_ctl hB rfl (fun _ => stepG_end) ?_))
  (apply rr_call hB rfl (by rfl) (by k_ne) rfl; focus ((try walk_nrm); exact (crowd_x hB hE hEN hn hn2 hls hlk hlens hb' hl)))
  clear hb' hl
  rintro _ s w ⟨sb, vs, rfl, hvl, hown, hlook, hjn⟩
  have hF : LawF E sb vs s w := ⟨hown, hjn⟩
  clear hown hjn
  walk_nrm
  repeat (first | ((with_reducible refine gd_op ?_); first | (refine rr_pure' hB rfl (by rfl) (by k_ne) (by rfl) (fun w₁ => by first | (simp [go_sem]; done) | simp [go_sem, *]) (fun w₁ K hK => ?_); go_simp; refine hK _ ?_; clear hK K w₁; try walk_nrm) | (refine rr_ctl hB rfl (fun _ => stepG_unwanted rfl rfl) ?_; try walk_nrm)) | ((with_reducible refine gd_rend ?_); (refine rr_regend hB hKr ?_; clear hKr Kr)) | ((with_reducible refine gd_seq ?_); refine rr_ctl hB rfl (fun _ => stepG_seq) ?_) | ((with_reducible refine gd_reg ?_); (refine rr_reg hB (fun Kr hKr => ?_); simp only [List.size_toArray, List.length_cons, List.length_nil, Nat.reduceAdd, Nat.zero_add, List.range, List.range.loop])) | ((with_reducible refine gd_skip ?_); refine rr_ctl hB rfl (fun _ => stepG_skip) ?_) | ((with_reducible refine gd_block ?_); refine rr_ctl hB rfl (fun _ => stepG_block) ?_) | ((with_reducible refine gd_inb ?_); refine rr_ctl hB rfl (fun _ => stepG_inBlock) ?_) | ((with_reducible refine gd_ret ?_); refine rr_ctl hB rfl (fun _ => stepG_ret') ?_) | ((with_reducible refine gd_exit ?_); refine rr_ctl hB rfl (fun _ => stepG_exit rfl) ?_) | ((with_reducible refine gd_end ?_); refine rr_ctl hB rfl (fun _ => stepG_end) ?_))
  (apply rr_call hB rfl (by rfl) (by k_ne) rfl; focus ((try walk_nrm); exact (refused_x hB n looks A ls.length cap)))
  rintro _ s3 w3 ⟨rfl, e1, e2⟩
  rw [e1, e2]
  clear e1 e2
  have hr0 : refused n ls.length looks = 0 := by
    unfold refused
    rw [if_neg (by omega), if_neg (by omega), if_neg (by omega)]
  rw [hr0]
  walk_nrm
  repeat (first | ((with_reducible refine gd_op ?_); first | (refine rr_pure' hB rfl (by rfl) (by k_ne) (by rfl) (fun w₁ => by first | (simp [go_sem]; done) | simp [go_sem, *]) (fun w₁ K hK => ?_); go_simp; refine hK _ ?_; clear hK K w₁; try walk_nrm) | (refine rr_ctl hB rfl (fun _ => stepG_unwanted rfl rfl) ?_; try walk_nrm)) | ((with_reducible refine gd_rend ?_); (refine rr_regend hB hKr ?_; clear hKr Kr)) | ((with_reducible refine gd_seq ?_); refine rr_ctl hB rfl (fun _ => stepG_seq) ?_) | ((with_reducible refine gd_reg ?_); (refine rr_reg hB (fun Kr hKr => ?_); simp only [List.size_toArray, List.length_cons, List.length_nil, Nat.reduceAdd, Nat.zero_add, List.range, List.range.loop])) | ((with_reducible refine gd_skip ?_); refine rr_ctl hB rfl (fun _ => stepG_skip) ?_) | ((with_reducible refine gd_block ?_); refine rr_ctl hB rfl (fun _ => stepG_block) ?_) | ((with_reducible refine gd_inb ?_); refine rr_ctl hB rfl (fun _ => stepG_inBlock) ?_) | ((with_reducible refine gd_ret ?_); refine rr_ctl hB rfl (fun _ => stepG_ret') ?_) | ((with_reducible refine gd_exit ?_); refine rr_ctl hB rfl (fun _ => stepG_exit rfl) ?_) | ((with_reducible refine gd_end ?_); refine rr_ctl hB rfl (fun _ => stepG_end) ?_))
  (refine rr_ctl hB rfl (fun _ => stepG_cond (t := false) (by first | rfl | (simp [Act.eval, *]))) ?_; simp only [if_true, if_false, Bool.false_eq_true, ↓reduceIte])
  repeat (first | ((with_reducible refine gd_op ?_); first | (refine rr_pure' hB rfl (by rfl) (by k_ne) (by rfl) (fun w₁ => by first | (simp [go_sem]; done) | simp [go_sem, *]) (fun w₁ K hK => ?_); go_simp; refine hK _ ?_; clear hK K w₁; try walk_nrm) | (refine rr_ctl hB rfl (fun _ => stepG_unwanted rfl rfl) ?_; try walk_nrm)) | ((with_reducible refine gd_rend ?_); (refine rr_regend hB hKr ?_; clear hKr Kr)) | ((with_reducible refine gd_seq ?_); refine rr_ctl hB rfl (fun _ => stepG_seq) ?_) | ((with_reducible refine gd_reg ?_); (refine rr_reg hB (fun Kr hKr => ?_); simp only [List.size_toArray, List.length_cons, List.length_nil, Nat.reduceAdd, Nat.zero_add, List.range, List.range.loop])) | ((with_reducible refine gd_skip ?_); refine rr_ctl hB rfl (fun _ => stepG_skip) ?_) | ((with_reducible refine gd_block ?_); refine rr_ctl hB rfl (fun _ => stepG_block) ?_) | ((with_reducible refine gd_inb ?_); refine rr_ctl hB rfl (fun _ => stepG_inBlock) ?_) | ((with_reducible refine gd_ret ?_); refine rr_ctl hB rfl (fun _ => stepG_ret') ?_) | ((with_reducible refine gd_exit ?_); refine rr_ctl hB rfl (fun _ => stepG_exit rfl) ?_) | ((with_reducible refine gd_end ?_); refine rr_ctl hB rfl (fun _ => stepG_end) ?_))
  (refine rr_ctl hB rfl (fun _ => stepG_cond (t := false) (by first | rfl | (simp [Act.eval, *]))) ?_; simp only [if_true, if_false, Bool.false_eq_true, ↓reduceIte])
  repeat (first | ((with_reducible refine gd_op ?_); first | (refine rr_pure' hB rfl (by rfl) (by k_ne) (by rfl) (fun w₁ => by first | (simp [go_sem]; done) | simp [go_sem, *]) (fun w₁ K hK => ?_); go_simp; refine hK _ ?_; clear hK K w₁; try walk_nrm) | (refine rr_ctl hB rfl (fun _ => stepG_unwanted rfl rfl) ?_; try walk_nrm)) | ((with_reducible refine gd_rend ?_); (refine rr_regend hB hKr ?_; clear hKr Kr)) | ((with_reducible refine gd_seq ?_); refine rr_ctl hB rfl (fun _ => stepG_seq) ?_) | ((with_reducible refine gd_reg ?_); (refine rr_reg hB (fun Kr hKr => ?_); simp only [List.size_toArray, List.length_cons, List.length_nil, Nat.reduceAdd, Nat.zero_add, List.range, List.range.loop])) | ((with_reducible refine gd_skip ?_); refine rr_ctl hB rfl (fun _ => stepG_skip) ?_) | ((with_reducible refine gd_block ?_); refine rr_ctl hB rfl (fun _ => stepG_block) ?_) | ((with_reducible refine gd_inb ?_); refine rr_ctl hB rfl (fun _ => stepG_inBlock) ?_) | ((with_reducible refine gd_ret ?_); refine rr_ctl hB rfl (fun _ => stepG_ret') ?_) | ((with_reducible refine gd_exit ?_); refine rr_ctl hB rfl (fun _ => stepG_exit rfl) ?_) | ((with_reducible refine gd_end ?_); refine rr_ctl hB rfl (fun _ => stepG_end) ?_))
  (apply rr_call hB rfl (by rfl) (by k_ne) rfl; focus ((try walk_nrm); exact (all_x hB (cap := cap) hL.out)))
  rintro _ s4 w4 ⟨fl, rfl, hfl, hR⟩
  have hsum : sumW (allOf ls).flatten = IntKind.i64.wrap (sum2 (allOf ls)) := by rw [sumW_eq, sum1_flatten]
  rw [hsum]
  replace hF := hF.rely hR
  clear hR hsum
  have hlk2 : fl = true → LookOk (allOf ls) vs ∧ ∀ x ∈ vs, x ≤ IntKind.i64.wrap (sum2 (allOf ls)) := fun e => by
    have hf := (hfl e).fine
    have hk := hlook hf
    have h0 := sum2_nonneg hf.1
    rw [wrap_id h0 hf.2]
    exact ⟨hk, hk.high⟩
  clear hlook hfl
  generalize IntKind.i64.wrap (sum2 (allOf ls)) = S at *
  walk_nrm
  repeat (first | ((with_reducible refine gd_op ?_); first | (refine rr_pure' hB rfl (by rfl) (by k_ne) (by rfl) (fun w₁ => by first | (simp [go_sem]; done) | simp [go_sem, *]) (fun w₁ K hK => ?_); go_simp; refine hK _ ?_; clear hK K w₁; try walk_nrm) | (refine rr_ctl hB rfl (fun _ => stepG_unwanted rfl rfl) ?_; try walk_nrm)) | ((with_reducible refine gd_rend ?_); (refine rr_regend hB hKr ?_; clear hKr Kr)) | ((with_reducible refine gd_seq ?_); refine rr_ctl hB rfl (fun _ => stepG_seq) ?_) | ((with_reducible refine gd_reg ?_); (refine rr_reg hB (fun Kr hKr => ?_); simp only [List.size_toArray, List.length_cons, List.length_nil, Nat.reduceAdd, Nat.zero_add, List.range, List.range.loop])) | ((with_reducible refine gd_skip ?_); refine rr_ctl hB rfl (fun _ => stepG_skip) ?_) | ((with_reducible refine gd_block ?_); refine rr_ctl hB rfl (fun _ => stepG_block) ?_) | ((with_reducible refine gd_inb ?_); refine rr_ctl hB rfl (fun _ => stepG_inBlock) ?_) | ((with_reducible refine gd_ret ?_); refine rr_ctl hB rfl (fun _ => stepG_ret') ?_) | ((with_reducible refine gd_exit ?_); refine rr_ctl hB rfl (fun _ => stepG_exit rfl) ?_) | ((with_reducible refine gd_end ?_); refine rr_ctl hB rfl (fun _ => stepG_end) ?_))
  (refine rr_ctl hB rfl (fun _ => stepG_cond (t := false) (by first | rfl | (simp [Act.eval, *]))) ?_; simp only [if_true, if_false, Bool.false_eq_true, ↓reduceIte])
  repeat (first | ((with_reducible refine gd_op ?_); first | (refine rr_pure' hB rfl (by rfl) (by k_ne) (by rfl) (fun w₁ => by first | (simp [go_sem]; done) | simp [go_sem, *]) (fun w₁ K hK => ?_); go_simp; refine hK _ ?_; clear hK K w₁; try walk_nrm) | (refine rr_ctl hB rfl (fun _ => stepG_unwanted rfl rfl) ?_; try walk_nrm)) | ((with_reducible refine gd_rend ?_); (refine rr_regend hB hKr ?_; clear hKr Kr)) | ((with_reducible refine gd_seq ?_); refine rr_ctl hB rfl (fun _ => stepG_seq) ?_) | ((with_reducible refine gd_reg ?_); (refine rr_reg hB (fun Kr hKr => ?_); simp only [List.size_toArray, List.length_cons, List.length_nil, Nat.reduceAdd, Nat.zero_add, List.range, List.range.loop])) | ((with_reducible refine gd_skip ?_); refine rr_ctl hB rfl (fun _ => stepG_skip) ?_) | ((with_reducible refine gd_block ?_); refine rr_ctl hB rfl (fun _ => stepG_block) ?_) | ((with_reducible refine gd_inb ?_); refine rr_ctl hB rfl (fun _ => stepG_inBlock) ?_) | ((with_reducible refine gd_ret ?_); refine rr_ctl hB rfl (fun _ => stepG_ret') ?_) | ((with_reducible refine gd_exit ?_); refine rr_ctl hB rfl (fun _ => stepG_exit rfl) ?_) | ((with_reducible refine gd_end ?_); refine rr_ctl hB rfl (fun _ => stepG_end) ?_))
  cases fl with
  | false =>
    clear hlk2
    refine rr_ctl hB rfl (fun _ => stepG_loop) ?_
    repeat (first | ((with_reducible refine gd_op ?_); first | (refine rr_pure' hB rfl (by rfl) (by k_ne) (by rfl) (fun w₁ => by first | (simp [go_sem]; done) | simp [go_sem, *]) (fun w₁ K hK => ?_); go_simp; refine hK _ ?_; clear hK K w₁; try walk_nrm) | (refine rr_ctl hB rfl (fun _ => stepG_unwanted rfl rfl) ?_; try walk_nrm)) | ((with_reducible refine gd_rend ?_); (refine rr_regend hB hKr ?_; clear hKr Kr)) | ((with_reducible refine gd_seq ?_); refine rr_ctl hB rfl (fun _ => stepG_seq) ?_) | ((with_reducible refine gd_reg ?_); (refine rr_reg hB (fun Kr hKr => ?_); simp only [List.size_toArray, List.length_cons, List.length_nil, Nat.reduceAdd, Nat.zero_add, List.range, List.range.loop])) | ((with_reducible refine gd_skip ?_); refine rr_ctl hB rfl (fun _ => stepG_skip) ?_) | ((with_reducible refine gd_block ?_); refine rr_ctl hB rfl (fun _ => stepG_block) ?_) | ((with_reducible refine gd_inb ?_); refine rr_ctl hB rfl (fun _ => stepG_inBlock) ?_) | ((with_reducible refine gd_ret ?_); refine rr_ctl hB rfl (fun _ => stepG_ret') ?_) | ((with_reducible refine gd_exit ?_); refine rr_ctl hB rfl (fun _ => stepG_exit rfl) ?_) | ((with_reducible refine gd_end ?_); refine rr_ctl hB rfl (fun _ => stepG_end) ?_))
    (refine rr_ctl hB rfl (fun _ => stepG_cond (t := false) (by first | rfl | (simp [Act.eval, *]))) ?_; simp only [if_true, if_false, Bool.false_eq_true, ↓reduceIte])
    repeat (first | ((with_reducible refine gd_op ?_); first | (refine rr_pure' hB rfl (by rfl) (by k_ne) (by rfl) (fun w₁ => by first | (simp [go_sem]; done) | simp [go_sem, *]) (fun w₁ K hK => ?_); go_simp; refine hK _ ?_; clear hK K w₁; try walk_nrm) | (refine rr_ctl hB rfl (fun _ => stepG_unwanted rfl rfl) ?_; try walk_nrm)) | ((with_reducible refine gd_rend ?_); (refine rr_regend hB hKr ?_; clear hKr Kr)) | ((with_reducible refine gd_seq ?_); refine rr_ctl hB rfl (fun _ => stepG_seq) ?_) | ((with_reducible refine gd_reg ?_); (refine rr_reg hB (fun Kr hKr => ?_); simp only [List.size_toArray, List.length_cons, List.length_nil, Nat.reduceAdd, Nat.zero_add, List.range, List.range.loop])) | ((with_reducible refine gd_skip ?_); refine rr_ctl hB rfl (fun _ => stepG_skip) ?_) | ((with_reducible refine gd_block ?_); refine rr_ctl hB rfl (fun _ => stepG_block) ?_) | ((with_reducible refine gd_inb ?_); refine rr_ctl hB rfl (fun _ => stepG_inBlock) ?_) | ((with_reducible refine gd_ret ?_); refine rr_ctl hB rfl (fun _ => stepG_ret') ?_) | ((with_reducible refine gd_exit ?_); refine rr_ctl hB rfl (fun _ => stepG_exit rfl) ?_) | ((with_reducible refine gd_end ?_); refine rr_ctl hB rfl (fun _ => stepG_end) ?_))
    (apply rr_call hB rfl (by rfl) (by k_ne) rfl; focus ((try walk_nrm); exact (awake_x hB)))
    rintro _ s4 w4 ⟨rfl, hR⟩
    have hj := (hF.rely hR).jn
    walk_nrm
    repeat (first | ((with_reducible refine gd_op ?_); first | (refine rr_pure' hB rfl (by rfl) (by k_ne) (by rfl) (fun w₁ => by first | (simp [go_sem]; done) | simp [go_sem, *]) (fun w₁ K hK => ?_); go_simp; refine hK _ ?_; clear hK K w₁; try walk_nrm) | (refine rr_ctl hB rfl (fun _ => stepG_unwanted rfl rfl) ?_; try walk_nrm)) | ((with_reducible refine gd_rend ?_); (refine rr_regend hB hKr ?_; clear hKr Kr)) | ((with_reducible refine gd_seq ?_); refine rr_ctl hB rfl (fun _ => stepG_seq) ?_) | ((with_reducible refine gd_reg ?_); (refine rr_reg hB (fun Kr hKr => ?_); simp only [List.size_toArray, List.length_cons, List.length_nil, Nat.reduceAdd, Nat.zero_add, List.range, List.range.loop])) | ((with_reducible refine gd_skip ?_); refine rr_ctl hB rfl (fun _ => stepG_skip) ?_) | ((with_reducible refine gd_block ?_); refine rr_ctl hB rfl (fun _ => stepG_block) ?_) | ((with_reducible refine gd_inb ?_); refine rr_ctl hB rfl (fun _ => stepG_inBlock) ?_) | ((with_reducible refine gd_ret ?_); refine rr_ctl hB rfl (fun _ => stepG_ret') ?_) | ((with_reducible refine gd_exit ?_); refine rr_ctl hB rfl (fun _ => stepG_exit rfl) ?_) | ((with_reducible refine gd_end ?_); refine rr_ctl hB rfl (fun _ => stepG_end) ?_))
    exact law_over hp rfl (.inr hj)
  | true =>
    obtain ⟨hk, hS⟩ := hlk2 rfl
    exact law_looks hB hp hvl hlk hk.up hk.low hS hF rfl rfl rfl rfl rfl ⟨_, _, _, _, _, _, _, rfl⟩
end
end Go.Proofs.Ytiaebogolpcllaa.Crw
