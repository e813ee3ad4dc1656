/- A crowd pushes: Crowd: the join; what is kept, turned.
No condition. -/
import Derived.Test.YtbamamkjmfkghaaVm
set_option linter.unusedSimpArgs false
set_option linter.unusedVariables false
namespace Go.Proofs.Ytbamamkjmfkghaa.Crw
open Go Go.Conc Go.RowKit Go.Conc.Lib Go.ConcR.Gen
open Go.ConcN (upd upd_same upd_ne)
open Go.ConcR (stA smA KK WgAt wgBlock rd wr mk)
set_option linter.unusedVariables false
set_option maxRecDepth 100000
set_option maxHeartbeats 4000000
theorem ev_store_int (P : Program) (k : IntKind) (x : Int) (ad : Addr) (w : World) (m : Go.Mode) (es : Array Event) : (store ad (.int k x) m).events P w es = storedEv P w es ad (.int k x) m := events_store P w es ad _ m rfl

/-- A list that is being turned: so far. -/
def Turned (vs : List Int) (i : Nat) (cl : List Int) : Prop := cl.length = vs.length ∧ ∀ q, q < vs.length → cl[q]? = if q < i ∨ vs.length < q + 1 + i then vs[vs.length - 1 - q]? else vs[q]?
theorem Turned.start (vs : List Int) : Turned vs 0 vs := ⟨rfl, fun q hq => by rw [if_neg (by omega)]⟩
theorem Turned.step {vs cl : List Int} {i j : Nat} (h : Turned vs i cl) (hij : i < j) (hj : i + j + 1 = vs.length) (hi' : i < cl.length) (hj' : j < cl.length) : Turned vs (i + 1) ((cl.set i cl[j]).set j cl[i]) := by
  refine ⟨by simpa using h.1, fun q hq => ?_⟩
  have e1 : cl[j] = vs[j] := by
    have := h.2 j (by omega)
    rw [if_neg (by omega), List.getElem?_eq_getElem hj', List.getElem?_eq_getElem (by omega)] at this
    exact Option.some.inj this
  have e2 : cl[i] = vs[i] := by
    have := h.2 i (by omega)
    rw [if_neg (by omega), List.getElem?_eq_getElem hi', List.getElem?_eq_getElem (by omega)] at this
    exact Option.some.inj this
  rw [e1, e2]
  by_cases h1 : q = j
  · subst h1
    rw [List.getElem?_set_self (by simpa using hj'), if_pos (by omega), ← List.getElem?_eq_getElem]
    congr 1; omega
  · rw [List.getElem?_set_ne (Ne.symm h1)]
    by_cases h2 : q = i
    · subst h2
      rw [List.getElem?_set_self hi', if_pos (by omega), ← List.getElem?_eq_getElem]
      congr 1; omega
    · rw [List.getElem?_set_ne (Ne.symm h2), h.2 q hq]
      by_cases h3 : q < i ∨ vs.length < q + 1 + i
      · rw [if_pos h3, if_pos (by omega)]
      · rw [if_neg h3, if_neg (by omega)]
theorem Turned.done {vs cl : List Int} {i : Nat} (h : Turned vs i cl) (hi : vs.length ≤ i + i + 1) : cl = vs.reverse := by
  apply List.ext_getElem?
  intro q
  by_cases hq : q < vs.length
  · rw [h.2 q hq, List.getElem?_reverse hq]
    by_cases h3 : q < i ∨ vs.length < q + 1 + i
    · rw [if_pos h3]
    · rw [if_neg h3]; congr 1; omega
  · rw [List.getElem?_eq_none (by rw [h.1]; omega), List.getElem?_eq_none (by simp; omega)]

section
variable {B : Usr} {E : Env} {Post : Value → World → Prop} {k : Nat} {s s' s₀ s₁ : St B} {w w' w₀ w₁ : World} {g n cap : Nat} {l : List Int}
theorem Acc.own (h : Acc s₀ w₀ (.slice (some ⟨g, 0, none⟩) n cap) l s w) : ∃ cur, Own 0 s w g 2 cur ∧ w₀.heap.size ≤ g := by
  rcases h.sl.row.2 with ⟨e, _⟩ | ⟨g', cap', cur, e, h1, h2, h3⟩
  · cases e
  · cases e
    exact ⟨cur.toList, ⟨by simpa using h2, fun a ha => h.sl.md _ rfl a ha⟩, h1⟩
theorem Acc.at (h : Acc s₀ w₀ (.slice (some ⟨g, 0, none⟩) n cap) l s w) {i : Nat} (hi : i < l.length) : RdC 0 s w g i (.int .i64 l[i]) := by
  obtain ⟨b, o, e1, e2⟩ := h.nums.at hi
  cases e1
  simpa using e2
theorem Acc.set (hB : B.Laws) (h : Acc s₀ w₀ (.slice (some ⟨g, 0, none⟩) n cap) l s w) {i : Nat} (hi : i < l.length) (x : Int) : Acc s₀ w₀ (.slice (some ⟨g, 0, none⟩) n cap) (l.set i x) s (w.setCell ⟨g, i, none⟩ (.int .i64 x)) := by
  obtain ⟨cur', hO, hg⟩ := h.own
  refine ⟨h.rl.set hB (a := ⟨g, i, none⟩) hg _, ⟨by simp [ints], ?_⟩, h.sl.md⟩
  rcases h.sl.row.2 with ⟨e, _⟩ | ⟨g', cap', cur, e, h1, h2, h3, h4, h5, h6⟩
  · cases e
  · have e' := e
    cases e
    refine .inr ⟨g, cap, cur.setIfInBounds i (.int .i64 x), by simp, h1, setCell_cells w g i _ h2, by simpa using h3, h4, by simpa using h5, ?_⟩
    rw [List.length_set, Array.toList_setIfInBounds, List.take_set, h6]
    simp [ints]
end

section
variable {E : Env} {Post : Value → World → Prop} {s s' s₀ s₁ : St cellU} {w w' w₀ w₁ : World}

/-- May a list be what a crowd told? -/
def Mix (ls : List (List Int)) (h : List Int) : Prop := h.Perm ls.flatten ∧ ∀ l ∈ ls, l.Sublist h
theorem Mix.len {ls : List (List Int)} {h : List Int} (m : Mix ls h) : h.length = ls.flatten.length := m.1.length_eq

/-- Behind the join. -/
structure PostF (cv b : Nat) (ls : List (List Int)) (s : St cellU) (w : World) : Prop where
  jn : s.tg.joined = true
  df : s.tg.deaf 0 = 0
  hd : s.tg.hd = some ⟨b, 0, none⟩
  cvr : Rds 0 s w cv 32 [.pointer (some ⟨b, 0, none⟩)]
  on : s.u.on = true
  ub : s.u.h = b
  ua : s.u.all = ls
  dn : s.u.don = s.u.all
section
variable {cv b : Nat} {ls : List (List Int)}
theorem PostF.rely (h : PostF cv b ls s w) (r : Rl 0 s w s₁ w₁) : PostF cv b ls s₁ w₁ := by
  obtain ⟨r1, r2, r3, r4, r5, r6, r7⟩ := r.ru.2 h.on
  exact ⟨(r.zero rfl).2.2.1.trans h.jn, r.deaf.trans h.df, r.hd.trans h.hd, h.cvr.rely r, r1, r2.trans h.ub, r3.trans h.ua, by rw [r3, (r6 h.dn).1]; exact h.dn⟩
theorem Rd0.join {b : Nat} {t : TypeId} {vs : List Value} (h : Rd0 s w b t vs) : Rds 0 s.join w b t vs :=
  ⟨h.hp, fun a ha => by
    rcases h.md a ha with e | ⟨m, hm, e⟩
    · exact .inl (jmode_own e)
    · exact .inr (.inl ⟨m, (jmode_else (by rw [e]; simp)).trans e, .inl rfl⟩)⟩
theorem PostF.of_join {B0 Wg : Nat} {v : Value} {ae : Bool} (h : StF B0 ls cv b v ls.length s w) (hS : SF Wg 0 false true ae s) (hI : Ok E s w) (hfin : ∀ k, 1 ≤ k → k < s.tg.n → cellU.Fin s.u k s.tg.mode w) : PostF cv b ls s.join w := by
  obtain ⟨g1, g2, g3, g4⟩ := hI.J h.on
  have hn := h.nj
  have hal : s.u.all.length = ls.length := by rw [h.ua]
  refine ⟨rfl, hS.df, h.hd, h.cvr.join, h.on, h.ub, h.ua, ?_⟩
  apply List.ext_getElem?
  intro i
  by_cases hi : i < ls.length
  · exact hfin (i + 1) (by omega) (by omega) (by omega) (by omega)
  · rw [List.getElem?_eq_none (by show s.u.don.length ≤ _; rw [g4.len]; omega), List.getElem?_eq_none (by show s.u.all.length ≤ _; omega)]

theorem post_look : Look E 0 b (PostF cv b ls) (fun q vs s w => PostF cv b ls s w ∧ Mix ls vs.reverse ∧ ChainR 0 s w q vs) where
  hst := PostF.rely
  hrd := by
    intro s w h hI
    obtain ⟨g1, g2, g3, g4⟩ := hI.J h.on
    rw [h.ub] at g1 g2
    have hd := h.dn
    refine ⟨headP s.u.ns, s.u.ns.map Prod.snd, { s with tg := { s.tg with kn := upd s.tg.kn 0 (fun l => s.tg.mode l = .pub) } }, by simp [World.cell?, g1], .look (.inl rfl) h.df h.hd rfl, ⟨rfl, rfl⟩,
      ⟨h.jn, h.df, h.hd, h.cvr.learn hI, h.on, h.ub, h.ua, h.dn⟩, ⟨?_, fun l hl => ?_⟩, ?_⟩
    · have := g4.perm
      rw [hd, h.ua] at this
      exact this
    · have := g4.sub l (by rw [hd, h.ua]; exact hl)
      exact this
    · exact NodesAt.chain (s := { s with tg := { s.tg with kn := upd s.tg.kn 0 (fun l => s.tg.mode l = .pub) } }) (fun l e => by
        show upd s.tg.kn 0 _ 0 l
        rw [upd_same]; exact e) g3
  hq := fun ⟨h, m, c⟩ r => ⟨h.rely r, m, c.rely r⟩
  hch := fun ⟨_, _, c⟩ => c
  hr := fun _ => .inl rfl
end

/-- What Crowd told. -/
def CrowdQ (ls : List (List Int)) (v : Value) (s : St cellU) (w : World) : Prop :=
  ∃ v' l, v = .tuple #[v', .int .i64 0] ∧ Nums 0 s w v' l ∧ Mix ls l ∧ s.tg.joined = true

/-- The registers while the list is turned. -/
def RevQ (g n cap i j : Nat) (s₀ : St cellU) (w₀ : World) (l : List Int) (a : Act) (s : St cellU) (w : World) : Prop :=
  ∃ T, a = ⟨T, []⟩ ∧ T.size = 70 ∧ T[11]? = some (.slice (some ⟨g, 0, none⟩) n cap) ∧ T[12]? = some (.int .i64 (i : Nat)) ∧ T[13]? = some (.int .i64 (j : Nat)) ∧ Acc s₀ w₀ (.slice (some ⟨g, 0, none⟩) n cap) l s w

theorem crowd_turn (hB : cellU.Laws) {s₀ : St cellU} {w₀ : World} {vs : List Int} (hvs : vs.length ≤ 65536) {v : Value} {T : Array Value} (hT : T.size = 70) (t11 : T[11]? = some v) (hF : Acc s₀ w₀ v vs s w) {Child : Sit (proto Try.prog cellU E Post)}
    {cal : Frame} {cs : List Frame} {c : Code} (hc : ∃ c1 c2 c3 c4 c5 c6 c7 c8 c9, Try.f4.body = some (.seq c1 (.seq c2 (.seq c3 (.seq c4 (.seq c5 (.seq c6 (.seq c7 (.seq c8 (.seq c9 c))))))))))
    (hret : ∀ v s' w', Acc s₀ w₀ v vs.reverse s' w' → RR Try.prog cellU E Post Child 0 (G (cal.finish (.tuple #[v, .int .i64 0])) cs) s' w') :
    RR Try.prog cellU E Post Child 0 (G ((base 4).at ⟨T, []⟩ [.code c]) (cal :: cs)) s w := by
  obtain ⟨c1, c2, c3, c4, c5, c6, c7, c8, c9, hc⟩ := hc
  simp only [Try.f4, Option.some.injEq, Code.seq.injEq] at hc
  obtain ⟨-, -, -, -, -, -, -, -, -, rfl⟩ := hc
  obtain ⟨T⟩ := T
  ((iterate 70 (rcases T with _ | ⟨_, T⟩; focus (simp at hT))); rcases T with _ | ⟨_, _⟩; rotate_left; focus (simp at hT))
  simp only [List.getElem?_toArray, List.getElem?_cons_succ, List.getElem?_cons_zero, Option.some.injEq] at t11
  subst t11
  obtain ⟨A, cap, rfl, -⟩ := hF.nums
  have hw0 : IntKind.i64.wrap ((vs.length : Int) - 1) = (vs.length : Int) - 1 := by rw [IntKind.wrap_i64]; omega
  repeat (first | ((with_reducible refine gd_op ?_); first | (refine rr_pure' hB rfl (by rfl) (by k_ne) (by rfl) (fun w₁ => by first | (simp [go_sem]; done) | simp [go_sem, *]) (fun w₁ K hK => ?_); go_simp; refine hK _ ?_; clear hK K w₁; try walk_nrm) | (refine rr_ctl hB rfl (fun _ => stepG_unwanted rfl rfl) ?_; try walk_nrm)) | ((with_reducible refine gd_rend ?_); (refine rr_regend hB hKr ?_; clear hKr Kr)) | ((with_reducible refine gd_seq ?_); refine rr_ctl hB rfl (fun _ => stepG_seq) ?_) | ((with_reducible refine gd_reg ?_); (refine rr_reg hB (fun Kr hKr => ?_); simp only [List.size_toArray, List.length_cons, List.length_nil, Nat.reduceAdd, Nat.zero_add, List.range, List.range.loop])) | ((with_reducible refine gd_skip ?_); refine rr_ctl hB rfl (fun _ => stepG_skip) ?_) | ((with_reducible refine gd_block ?_); refine rr_ctl hB rfl (fun _ => stepG_block) ?_) | ((with_reducible refine gd_inb ?_); refine rr_ctl hB rfl (fun _ => stepG_inBlock) ?_) | ((with_reducible refine gd_ret ?_); refine rr_ctl hB rfl (fun _ => stepG_ret') ?_) | ((with_reducible refine gd_exit ?_); refine rr_ctl hB rfl (fun _ => stepG_exit rfl) ?_) | ((with_reducible refine gd_end ?_); refine rr_ctl hB rfl (fun _ => stepG_end) ?_))
  refine rr_loop hB (fun m a s w => ∃ T i cl, a = ⟨T, []⟩ ∧ T.size = 70 ∧ T[11]? = some (.slice A vs.length cap) ∧ T[12]? = some (.int .i64 (i : Nat)) ∧ T[13]? = some (.int .i64 ((vs.length : Int) - 1 - (i : Nat))) ∧ i ≤ vs.length ∧ m = vs.length - i ∧ Turned vs i cl ∧ Acc s₀ w₀ (.slice A vs.length cap) cl s w) vs.length
    ⟨_, 0, vs, rfl, rfl, rfl, rfl, (by simp), Nat.zero_le _, rfl, Turned.start vs, hF⟩ ?_
  clear hF hw0
  rintro m a s w ⟨T, i, cl, rfl, hT, t11, t12, t13, hle, rfl, htu, hF⟩ ih
  obtain ⟨T⟩ := T
  ((iterate 70 (rcases T with _ | ⟨_, T⟩; focus (simp at hT))); rcases T with _ | ⟨_, _⟩; rotate_left; focus (simp at hT))
  simp only [List.getElem?_toArray, List.getElem?_cons_succ, List.getElem?_cons_zero, Option.some.injEq] at t11 t12 t13
  subst t11 t12 t13
  by_cases hlt : (i : Int) < (vs.length : Int) - 1 - (i : Nat)
  · obtain ⟨j, hj⟩ := Int.eq_ofNat_of_zero_le (show 0 ≤ (vs.length : Int) - 1 - (i : Nat) by omega)
    rw [hj] at hlt ⊢
    have hcl := htu.1
    have hil : i < cl.length := by omega
    have hjl : j < cl.length := by omega
    have hk1 : 0 ≤ (i : Int) ∧ (i : Int) < vs.length := ⟨by omega, by omega⟩
    have hk2 : 0 ≤ (j : Int) ∧ (j : Int) < vs.length := ⟨by omega, by omega⟩
    have hw1 : IntKind.i64.wrap ((i : Int) + 1) = ((i + 1 : Nat) : Int) := by rw [IntKind.wrap_i64]; omega
    have hw2 : IntKind.i64.wrap ((j : Int) - 1) = (vs.length : Int) - 1 - ((i + 1 : Nat) : Int) := by rw [IntKind.wrap_i64]; omega
    obtain ⟨g, rfl⟩ : ∃ g, A = some ⟨g, 0, none⟩ := by
      rcases hF.sl.row.2 with ⟨_, e⟩ | ⟨g, _, _, e, _⟩
      · omega
      · simp only [Value.slice.injEq] at e; exact ⟨g, e.1⟩
    replace htu := htu.step (by omega) (by omega) hil hjl
    have hjl2 : j < (cl.set i cl[j]).length := by simpa using hjl
    repeat (first | ((with_reducible refine gd_op ?_); first | (refine rr_pure' hB rfl (by rfl) (by k_ne) (by rfl) (fun w₁ => by first | (simp [go_sem]; done) | simp [go_sem, *]) (fun w₁ K hK => ?_); go_simp; refine hK _ ?_; clear hK K w₁; try walk_nrm) | (refine rr_ctl hB rfl (fun _ => stepG_unwanted rfl rfl) ?_; try walk_nrm)) | ((with_reducible refine gd_rend ?_); (refine rr_regend hB hKr ?_; clear hKr Kr)) | ((with_reducible refine gd_seq ?_); refine rr_ctl hB rfl (fun _ => stepG_seq) ?_) | ((with_reducible refine gd_reg ?_); (refine rr_reg hB (fun Kr hKr => ?_); simp only [List.size_toArray, List.length_cons, List.length_nil, Nat.reduceAdd, Nat.zero_add, List.range, List.range.loop])) | ((with_reducible refine gd_skip ?_); refine rr_ctl hB rfl (fun _ => stepG_skip) ?_) | ((with_reducible refine gd_block ?_); refine rr_ctl hB rfl (fun _ => stepG_block) ?_) | ((with_reducible refine gd_inb ?_); refine rr_ctl hB rfl (fun _ => stepG_inBlock) ?_) | ((with_reducible refine gd_ret ?_); refine rr_ctl hB rfl (fun _ => stepG_ret') ?_) | ((with_reducible refine gd_exit ?_); refine rr_ctl hB rfl (fun _ => stepG_exit rfl) ?_) | ((with_reducible refine gd_end ?_); refine rr_ctl hB rfl (fun _ => stepG_end) ?_))
    (refine rr_ctl hB rfl (fun _ => stepG_cond (t := true) (by first | rfl | (simp [Act.eval, *]))) ?_; simp only [if_true, if_false, Bool.false_eq_true, ↓reduceIte])
    repeat (first | ((with_reducible refine gd_op ?_); first | (refine rr_pure' hB rfl (by rfl) (by k_ne) (by rfl) (fun w₁ => by first | (simp [go_sem]; done) | simp [go_sem, *]) (fun w₁ K hK => ?_); go_simp; refine hK _ ?_; clear hK K w₁; try walk_nrm) | (refine rr_ctl hB rfl (fun _ => stepG_unwanted rfl rfl) ?_; try walk_nrm)) | ((with_reducible refine gd_rend ?_); (refine rr_regend hB hKr ?_; clear hKr Kr)) | ((with_reducible refine gd_seq ?_); refine rr_ctl hB rfl (fun _ => stepG_seq) ?_) | ((with_reducible refine gd_reg ?_); (refine rr_reg hB (fun Kr hKr => ?_); simp only [List.size_toArray, List.length_cons, List.length_nil, Nat.reduceAdd, Nat.zero_add, List.range, List.range.loop])) | ((with_reducible refine gd_skip ?_); refine rr_ctl hB rfl (fun _ => stepG_skip) ?_) | ((with_reducible refine gd_block ?_); refine rr_ctl hB rfl (fun _ => stepG_block) ?_) | ((with_reducible refine gd_inb ?_); refine rr_ctl hB rfl (fun _ => stepG_inBlock) ?_) | ((with_reducible refine gd_ret ?_); refine rr_ctl hB rfl (fun _ => stepG_ret') ?_) | ((with_reducible refine gd_exit ?_); refine rr_ctl hB rfl (fun _ => stepG_exit rfl) ?_) | ((with_reducible refine gd_end ?_); refine rr_ctl hB rfl (fun _ => stepG_end) ?_))
    have hQ : ∀ a s w s₁ w₁, RevQ g vs.length cap i j s₀ w₀ ((cl.set i cl[j]).set j cl[i]) a s w → Rl 0 s w s₁ w₁ → RevQ g vs.length cap i j s₀ w₀ ((cl.set i cl[j]).set j cl[i]) a s₁ w₁ := fun a s w s₁ w₁ ⟨T, e1, e2, e3, e4, e5, e6⟩ r => ⟨T, e1, e2, e3, e4, e5, e6.rely hB r⟩
    refine rr_any hB (Q := RevQ g vs.length cap i j s₀ w₀ ((cl.set i cl[j]).set j cl[i])) (by k_ne) mixed hQ ?_ ?_
    · clear ih htu
      co_applyP (anyX_take hB hQ (i := 0) rfl (by kernel_rfl) (by kernel_rfl) (by kernel_rfl) (.inl ⟨by rfl, fun _ => ⟨run_eq_of ?run0, ?ev0⟩⟩) ?go0)
      case run0 => intro K hK; go_simp; exact hK
      case ev0 => simp [go_sem, *]
      try walk_nrm
      co_applyP (anyX_take hB hQ (i := 1) rfl (by kernel_rfl) (by kernel_rfl) (by kernel_rfl) (.inl ⟨by rfl, fun _ => ⟨run_eq_of ?run1, ?ev1⟩⟩) ?go1)
      case run1 => intro K hK; go_simp; exact hK
      case ev1 => simp [go_sem, *]
      try walk_nrm
      co_applyP (anyX_take hB hQ (i := 2) rfl (by kernel_rfl) (by kernel_rfl) (by kernel_rfl) (.inl ⟨by rfl, fun _ => ⟨run_eq_of ?run2, ?ev2⟩⟩) ?go2)
      case run2 => intro K hK; go_simp; exact hK
      case ev2 => simp [go_sem, *]
      try walk_nrm
      co_applyP (anyX_take hB hQ (i := 3) rfl (by kernel_rfl) (by kernel_rfl) (by kernel_rfl) (.inl ⟨by rfl, fun _ => ⟨run_eq_of ?run3, ?ev3⟩⟩) ?go3)
      case run3 => intro K hK; go_simp; exact hK
      case ev3 => simp [go_sem, *]
      try walk_nrm
      co_applyP (anyX_take hB hQ (i := 4) rfl (by kernel_rfl) (by kernel_rfl) (by kernel_rfl) (.inl ⟨by rfl, fun _ => ⟨run_eq_of ?run4, ?ev4⟩⟩) ?go4)
      case run4 => intro K hK; go_simp; exact hK
      case ev4 => simp [go_sem, *]
      try walk_nrm
      co_applyP (anyX_take hB hQ (i := 5) rfl (by kernel_rfl) (by kernel_rfl) (by kernel_rfl) (.inl ⟨by rfl, fun _ => ⟨run_eq_of ?run5, ?ev5⟩⟩) ?go5)
      case run5 => intro K hK; go_simp; exact hK
      case ev5 => simp [go_sem, *]
      try walk_nrm
      co_applyP (anyX_take hB hQ (i := 6) rfl (by kernel_rfl) (by kernel_rfl) (by kernel_rfl) (.inl ⟨by rfl, fun _ => ⟨run_eq_of ?run6, ?ev6⟩⟩) ?go6)
      case run6 => intro K hK; go_simp; exact hK
      case ev6 => simp [go_sem, *]
      try walk_nrm
      co_applyP (anyX_take hB hQ (i := 8) rfl (by kernel_rfl) (by kernel_rfl) (by kernel_rfl) (.inl ⟨by rfl, fun _ => ⟨run_eq_of ?run8, ?ev8⟩⟩) ?go8)
      case run8 => intro K hK; go_simp; exact hK
      case ev8 => simp [go_sem, *]
      try walk_nrm
      co_applyP (anyX_take hB hQ (i := 9) rfl (by kernel_rfl) (by kernel_rfl) (by kernel_rfl) (.inl ⟨by rfl, fun _ => ⟨run_eq_of ?run9, ?ev9⟩⟩) ?go9)
      case run9 => intro K hK; go_simp; exact hK
      case ev9 => simp [go_sem, *]
      try walk_nrm
      co_applyP (anyX_take hB hQ (i := 10) rfl (by kernel_rfl) (by kernel_rfl) (by kernel_rfl) (.inl ⟨by rfl, fun _ => ⟨run_eq_of ?run10, ?ev10⟩⟩) ?go10)
      case run10 => intro K hK; go_simp; exact hK
      case ev10 => simp [go_sem, *]
      try walk_nrm
      refine anyX_all (rs := [7, 11]) (by kernel_rfl) (by simp) fun q hq => ?_
      simp only [List.mem_cons, List.not_mem_nil, or_false] at hq
      rcases hq with rfl | rfl
      · -- the one behind comes first
        refine opX_value rfl (by rfl) (fun s₁ w₁ hR hI K hK => ?_)
        replace hF := Acc.rely hB hF hR
        clear hR
        have := (Acc.at hF hjl).1
        go_simp
        refine hK _ _ ⟨s₁, mv_rd (.inl rfl) (fun e he => ?_), .refl _, ?_⟩
        · have hm := mem_listed he
          simp [go_sem, *] at hm
          subst hm
          exact ⟨_, rfl, (Acc.at hF hjl).2.1, (Acc.at hF hjl).2.2⟩
        clear hK K this hI
        try walk_nrm
        refine anyX_all (rs := [11]) (by kernel_rfl) (by simp) fun q hq => ?_
        simp only [List.mem_cons, List.not_mem_nil, or_false] at hq
        subst hq
        refine opX_value rfl (by rfl) (fun s₁ w₁ hR hI K hK => ?_)
        replace hF := Acc.rely hB hF hR
        clear hR
        have := (Acc.at hF hil).1
        go_simp
        refine hK _ _ ⟨s₁, mv_rd (.inl rfl) (fun e he => ?_), .refl _, ?_⟩
        · have hm := mem_listed he
          simp [go_sem, *] at hm
          subst hm
          exact ⟨_, rfl, (Acc.at hF hil).2.1, (Acc.at hF hil).2.2⟩
        clear hK K this hI
        try walk_nrm
        co_applyP (anyX_take hB hQ (i := 12) rfl (by kernel_rfl) (by kernel_rfl) (by kernel_rfl) (.inl ⟨by rfl, fun _ => ⟨run_eq_of ?run12, ?ev12⟩⟩) ?go12)
        case run12 => intro K hK; go_simp; exact hK
        case ev12 => simp [go_sem, *]
        try walk_nrm
        refine anyX_all (rs := [13]) (by kernel_rfl) (by simp) fun q hq => ?_
        simp only [List.mem_cons, List.not_mem_nil, or_false] at hq
        subst hq
        refine opX_value rfl (by rfl) (fun s₁ w₁ hR hI K hK => ?_)
        replace hF := hF.rely hB hR
        clear hR
        obtain ⟨cur, hO, hcur⟩ := hF.own
        have h0 := (hF.at hil).1
        have z0 := hO.frozen i
        go_simp
        refine hK _ _ ⟨s₁, mv_set hI (.inl rfl) hO i _ (fun e he => ?_), .refl _, ?_⟩
        · have hm := mem_listed he
          simp [go_sem, ev_store_int, storedEv, *] at hm
          exact hm
        clear hK K h0 z0 hO hcur cur hI
        replace hF := hF.set hB hil cl[j]
        try walk_nrm
        co_applyP (anyX_take hB hQ (i := 14) rfl (by kernel_rfl) (by kernel_rfl) (by kernel_rfl) (.inl ⟨by rfl, fun _ => ⟨run_eq_of ?run14, ?ev14⟩⟩) ?go14)
        case run14 => intro K hK; go_simp; exact hK
        case ev14 => simp [go_sem, *]
        try walk_nrm
        refine anyX_all (rs := [15]) (by kernel_rfl) (by simp) fun q hq => ?_
        simp only [List.mem_cons, List.not_mem_nil, or_false] at hq
        subst hq
        refine opX_value rfl (by rfl) (fun s₁ w₁ hR hI K hK => ?_)
        replace hF := hF.rely hB hR
        clear hR
        obtain ⟨cur, hO, hcur⟩ := hF.own
        have h0 := (hF.at hjl2).1
        have z0 := hO.frozen j
        go_simp
        refine hK _ _ ⟨s₁, mv_set hI (.inl rfl) hO j _ (fun e he => ?_), .refl _, ?_⟩
        · have hm := mem_listed he
          simp [go_sem, ev_store_int, storedEv, *] at hm
          exact hm
        clear hK K h0 z0 hO hcur cur hI
        replace hF := hF.set hB hjl2 cl[i]
        try walk_nrm
        exact anyX_done (by kernel_rfl) ⟨_, rfl, rfl, rfl, rfl, rfl, hF⟩ _
      · -- the other one
        refine opX_value rfl (by rfl) (fun s₁ w₁ hR hI K hK => ?_)
        replace hF := Acc.rely hB hF hR
        clear hR
        have := (Acc.at hF hil).1
        go_simp
        refine hK _ _ ⟨s₁, mv_rd (.inl rfl) (fun e he => ?_), .refl _, ?_⟩
        · have hm := mem_listed he
          simp [go_sem, *] at hm
          subst hm
          exact ⟨_, rfl, (Acc.at hF hil).2.1, (Acc.at hF hil).2.2⟩
        clear hK K this hI
        try walk_nrm
        refine anyX_all (rs := [7]) (by kernel_rfl) (by simp) fun q hq => ?_
        simp only [List.mem_cons, List.not_mem_nil, or_false] at hq
        subst hq
        refine opX_value rfl (by rfl) (fun s₁ w₁ hR hI K hK => ?_)
        replace hF := Acc.rely hB hF hR
        clear hR
        have := (Acc.at hF hjl).1
        go_simp
        refine hK _ _ ⟨s₁, mv_rd (.inl rfl) (fun e he => ?_), .refl _, ?_⟩
        · have hm := mem_listed he
          simp [go_sem, *] at hm
          subst hm
          exact ⟨_, rfl, (Acc.at hF hjl).2.1, (Acc.at hF hjl).2.2⟩
        clear hK K this hI
        try walk_nrm
        co_applyP (anyX_take hB hQ (i := 12) rfl (by kernel_rfl) (by kernel_rfl) (by kernel_rfl) (.inl ⟨by rfl, fun _ => ⟨run_eq_of ?run12b, ?ev12b⟩⟩) ?go12b)
        case run12b => intro K hK; go_simp; exact hK
        case ev12b => simp [go_sem, *]
        try walk_nrm
        refine anyX_all (rs := [13]) (by kernel_rfl) (by simp) fun q hq => ?_
        simp only [List.mem_cons, List.not_mem_nil, or_false] at hq
        subst hq
        refine opX_value rfl (by rfl) (fun s₁ w₁ hR hI K hK => ?_)
        replace hF := hF.rely hB hR
        clear hR
        obtain ⟨cur, hO, hcur⟩ := hF.own
        have h0 := (hF.at hil).1
        have z0 := hO.frozen i
        go_simp
        refine hK _ _ ⟨s₁, mv_set hI (.inl rfl) hO i _ (fun e he => ?_), .refl _, ?_⟩
        · have hm := mem_listed he
          simp [go_sem, ev_store_int, storedEv, *] at hm
          exact hm
        clear hK K h0 z0 hO hcur cur hI
        replace hF := hF.set hB hil cl[j]
        try walk_nrm
        co_applyP (anyX_take hB hQ (i := 14) rfl (by kernel_rfl) (by kernel_rfl) (by kernel_rfl) (.inl ⟨by rfl, fun _ => ⟨run_eq_of ?run14b, ?ev14b⟩⟩) ?go14b)
        case run14b => intro K hK; go_simp; exact hK
        case ev14b => simp [go_sem, *]
        try walk_nrm
        refine anyX_all (rs := [15]) (by kernel_rfl) (by simp) fun q hq => ?_
        simp only [List.mem_cons, List.not_mem_nil, or_false] at hq
        subst hq
        refine opX_value rfl (by rfl) (fun s₁ w₁ hR hI K hK => ?_)
        replace hF := hF.rely hB hR
        clear hR
        obtain ⟨cur, hO, hcur⟩ := hF.own
        have h0 := (hF.at hjl2).1
        have z0 := hO.frozen j
        go_simp
        refine hK _ _ ⟨s₁, mv_set hI (.inl rfl) hO j _ (fun e he => ?_), .refl _, ?_⟩
        · have hm := mem_listed he
          simp [go_sem, ev_store_int, storedEv, *] at hm
          exact hm
        clear hK K h0 z0 hO hcur cur hI
        replace hF := hF.set hB hjl2 cl[i]
        try walk_nrm
        exact anyX_done (by kernel_rfl) ⟨_, rfl, rfl, rfl, rfl, rfl, hF⟩ _
    · clear hF
      rintro _ s w ⟨T, rfl, hT, t11, t12, t13, hF⟩
      obtain ⟨T⟩ := T
      ((iterate 70 (rcases T with _ | ⟨_, T⟩; focus (simp at hT))); rcases T with _ | ⟨_, _⟩; rotate_left; focus (simp at hT))
      simp only [List.getElem?_toArray, List.getElem?_cons_succ, List.getElem?_cons_zero, Option.some.injEq] at t11 t12 t13
      subst t11 t12 t13
      repeat (first | ((with_reducible refine gd_op ?_); first | (refine rr_pure' hB rfl (by rfl) (by k_ne) (by rfl) (fun w₁ => by first | (simp [go_sem]; done) | simp [go_sem, *]) (fun w₁ K hK => ?_); go_simp; refine hK _ ?_; clear hK K w₁; try walk_nrm) | (refine rr_ctl hB rfl (fun _ => stepG_unwanted rfl rfl) ?_; try walk_nrm)) | ((with_reducible refine gd_rend ?_); (refine rr_regend hB hKr ?_; clear hKr Kr)) | ((with_reducible refine gd_seq ?_); refine rr_ctl hB rfl (fun _ => stepG_seq) ?_) | ((with_reducible refine gd_reg ?_); (refine rr_reg hB (fun Kr hKr => ?_); simp only [List.size_toArray, List.length_cons, List.length_nil, Nat.reduceAdd, Nat.zero_add, List.range, List.range.loop])) | ((with_reducible refine gd_skip ?_); refine rr_ctl hB rfl (fun _ => stepG_skip) ?_) | ((with_reducible refine gd_block ?_); refine rr_ctl hB rfl (fun _ => stepG_block) ?_) | ((with_reducible refine gd_inb ?_); refine rr_ctl hB rfl (fun _ => stepG_inBlock) ?_) | ((with_reducible refine gd_ret ?_); refine rr_ctl hB rfl (fun _ => stepG_ret') ?_) | ((with_reducible refine gd_exit ?_); refine rr_ctl hB rfl (fun _ => stepG_exit rfl) ?_) | ((with_reducible refine gd_end ?_); refine rr_ctl hB rfl (fun _ => stepG_end) ?_))
      refine rr_ctl hB rfl (fun _ => stepG_inLoop) ?_
      exact ih (vs.length - (i + 1)) _ _ _ (by omega) ⟨_, i + 1, _, rfl, rfl, rfl, rfl, rfl, by omega, rfl, htu, hF⟩
  · have e := htu.done (by omega)
    subst e
    repeat (first | ((with_reducible refine gd_op ?_); first | (refine rr_pure' hB rfl (by rfl) (by k_ne) (by rfl) (fun w₁ => by first | (simp [go_sem]; done) | simp [go_sem, *]) (fun w₁ K hK => ?_); go_simp; refine hK _ ?_; clear hK K w₁; try walk_nrm) | (refine rr_ctl hB rfl (fun _ => stepG_unwanted rfl rfl) ?_; try walk_nrm)) | ((with_reducible refine gd_rend ?_); (refine rr_regend hB hKr ?_; clear hKr Kr)) | ((with_reducible refine gd_seq ?_); refine rr_ctl hB rfl (fun _ => stepG_seq) ?_) | ((with_reducible refine gd_reg ?_); (refine rr_reg hB (fun Kr hKr => ?_); simp only [List.size_toArray, List.length_cons, List.length_nil, Nat.reduceAdd, Nat.zero_add, List.range, List.range.loop])) | ((with_reducible refine gd_skip ?_); refine rr_ctl hB rfl (fun _ => stepG_skip) ?_) | ((with_reducible refine gd_block ?_); refine rr_ctl hB rfl (fun _ => stepG_block) ?_) | ((with_reducible refine gd_inb ?_); refine rr_ctl hB rfl (fun _ => stepG_inBlock) ?_) | ((with_reducible refine gd_ret ?_); refine rr_ctl hB rfl (fun _ => stepG_ret') ?_) | ((with_reducible refine gd_exit ?_); refine rr_ctl hB rfl (fun _ => stepG_exit rfl) ?_) | ((with_reducible refine gd_end ?_); refine rr_ctl hB rfl (fun _ => stepG_end) ?_))
    (refine rr_ctl hB rfl (fun _ => stepG_cond (t := false) (by first | rfl | (simp [Act.eval, *]))) ?_; simp only [if_true, if_false, Bool.false_eq_true, ↓reduceIte])
    repeat (first | ((with_reducible refine gd_op ?_); first | (refine rr_pure' hB rfl (by rfl) (by k_ne) (by rfl) (fun w₁ => by first | (simp [go_sem]; done) | simp [go_sem, *]) (fun w₁ K hK => ?_); go_simp; refine hK _ ?_; clear hK K w₁; try walk_nrm) | (refine rr_ctl hB rfl (fun _ => stepG_unwanted rfl rfl) ?_; try walk_nrm)) | ((with_reducible refine gd_rend ?_); (refine rr_regend hB hKr ?_; clear hKr Kr)) | ((with_reducible refine gd_seq ?_); refine rr_ctl hB rfl (fun _ => stepG_seq) ?_) | ((with_reducible refine gd_reg ?_); (refine rr_reg hB (fun Kr hKr => ?_); simp only [List.size_toArray, List.length_cons, List.length_nil, Nat.reduceAdd, Nat.zero_add, List.range, List.range.loop])) | ((with_reducible refine gd_skip ?_); refine rr_ctl hB rfl (fun _ => stepG_skip) ?_) | ((with_reducible refine gd_block ?_); refine rr_ctl hB rfl (fun _ => stepG_block) ?_) | ((with_reducible refine gd_inb ?_); refine rr_ctl hB rfl (fun _ => stepG_inBlock) ?_) | ((with_reducible refine gd_ret ?_); refine rr_ctl hB rfl (fun _ => stepG_ret') ?_) | ((with_reducible refine gd_exit ?_); refine rr_ctl hB rfl (fun _ => stepG_exit rfl) ?_) | ((with_reducible refine gd_end ?_); refine rr_ctl hB rfl (fun _ => stepG_end) ?_))
    (refine rr_leave hB rfl rfl Try.func4 (fun w => ⟨results_tmp2 rfl _ _ w, events_results_tmp2 rfl _ _⟩) ?_)
    exact hret _ _ _ hF

theorem crowd_end (hB : cellU.Laws) {B0 : Nat} {ls : List (List Int)} (hws : ls.flatten.length ≤ 65536) {v : Value} {Wg cv b : Nat} {a : Act} (hF : CrIn B0 ls Wg cv b v ls.length s w) (ha : a.defers = []) (hT : a.tmps.size = 70) (t7 : a.tmps[7]? = some (.pointer (some ⟨cv, 0, none⟩))) (t8 : a.tmps[8]? = some (.pointer (some ⟨Wg, 0, none⟩)))
    {cal : Frame} {cs : List Frame} {c : Code} (hc : ∃ c1 c2 c3 c4 c5 c6 c7, Try.f4.body = some (.seq c1 (.seq c2 (.seq c3 (.seq c4 (.seq c5 (.seq c6 (.seq c7 c))))))))
    (hret : ∀ v s' w', CrowdQ ls v s' w' → RR Try.prog cellU E Post (Born (proto Try.prog cellU E Post)) 0 (G (cal.finish v) cs) s' w') :
    RR Try.prog cellU E Post (Born (proto Try.prog cellU E Post)) 0 (G ((base 4).at a [.code c]) (cal :: cs)) s w := by
  obtain ⟨c1, c2, c3, c4, c5, c6, c7, hc⟩ := hc
  simp only [Try.f4, Option.some.injEq, Code.seq.injEq] at hc
  obtain ⟨-, -, -, -, -, -, -, rfl⟩ := hc
  obtain ⟨⟨T⟩, ds⟩ := a
  simp only at ha hT t7 t8
  subst ha
  ((iterate 70 (rcases T with _ | ⟨_, T⟩; focus (simp at hT))); rcases T with _ | ⟨_, _⟩; rotate_left; focus (simp at hT))
  simp only [List.getElem?_toArray, List.getElem?_cons_succ, List.getElem?_cons_zero, Option.some.injEq] at t7 t8
  subst t7 t8
  repeat (first | ((with_reducible refine gd_op ?_); first | (refine rr_pure' hB rfl (by rfl) (by k_ne) (by rfl) (fun w₁ => by first | (simp [go_sem]; done) | simp [go_sem, *]) (fun w₁ K hK => ?_); go_simp; refine hK _ ?_; clear hK K w₁; try walk_nrm) | (refine rr_ctl hB rfl (fun _ => stepG_unwanted rfl rfl) ?_; try walk_nrm)) | ((with_reducible refine gd_rend ?_); (refine rr_regend hB hKr ?_; clear hKr Kr)) | ((with_reducible refine gd_seq ?_); refine rr_ctl hB rfl (fun _ => stepG_seq) ?_) | ((with_reducible refine gd_reg ?_); (refine rr_reg hB (fun Kr hKr => ?_); simp only [List.size_toArray, List.length_cons, List.length_nil, Nat.reduceAdd, Nat.zero_add, List.range, List.range.loop])) | ((with_reducible refine gd_skip ?_); refine rr_ctl hB rfl (fun _ => stepG_skip) ?_) | ((with_reducible refine gd_block ?_); refine rr_ctl hB rfl (fun _ => stepG_block) ?_) | ((with_reducible refine gd_inb ?_); refine rr_ctl hB rfl (fun _ => stepG_inBlock) ?_) | ((with_reducible refine gd_ret ?_); refine rr_ctl hB rfl (fun _ => stepG_ret') ?_) | ((with_reducible refine gd_exit ?_); refine rr_ctl hB rfl (fun _ => stepG_exit rfl) ?_) | ((with_reducible refine gd_end ?_); refine rr_ctl hB rfl (fun _ => stepG_end) ?_))
  (apply rr_call hB rfl (by rfl) (by k_ne) rfl; focus ((try walk_nrm); exact (wgWait_x hB (s₀ := s) (w₀ := w) ⟨.refl hB _ _ _, hF.sf⟩)))
  rintro _ s' w' ⟨s1, hH, hI, hfin, rfl⟩
  have hP := PostF.of_join (hF.st.cm hH.cm) hH.sf hI hfin
  clear hF hH hI hfin
  generalize s1.join = s at *
  walk_nrm
  repeat (first | ((with_reducible refine gd_op ?_); first | (refine rr_pure' hB rfl (by rfl) (by k_ne) (by rfl) (fun w₁ => by first | (simp [go_sem]; done) | simp [go_sem, *]) (fun w₁ K hK => ?_); go_simp; refine hK _ ?_; clear hK K w₁; try walk_nrm) | (refine rr_ctl hB rfl (fun _ => stepG_unwanted rfl rfl) ?_; try walk_nrm)) | ((with_reducible refine gd_rend ?_); (refine rr_regend hB hKr ?_; clear hKr Kr)) | ((with_reducible refine gd_seq ?_); refine rr_ctl hB rfl (fun _ => stepG_seq) ?_) | ((with_reducible refine gd_reg ?_); (refine rr_reg hB (fun Kr hKr => ?_); simp only [List.size_toArray, List.length_cons, List.length_nil, Nat.reduceAdd, Nat.zero_add, List.range, List.range.loop])) | ((with_reducible refine gd_skip ?_); refine rr_ctl hB rfl (fun _ => stepG_skip) ?_) | ((with_reducible refine gd_block ?_); refine rr_ctl hB rfl (fun _ => stepG_block) ?_) | ((with_reducible refine gd_inb ?_); refine rr_ctl hB rfl (fun _ => stepG_inBlock) ?_) | ((with_reducible refine gd_ret ?_); refine rr_ctl hB rfl (fun _ => stepG_ret') ?_) | ((with_reducible refine gd_exit ?_); refine rr_ctl hB rfl (fun _ => stepG_exit rfl) ?_) | ((with_reducible refine gd_end ?_); refine rr_ctl hB rfl (fun _ => stepG_end) ?_))
  (refine rr_oper rfl (by rfl) (by k_ne) (fun s₁ w₁ hR hI K hK => ?_); replace hP := (PostF.rely) hP hR; clear hR; have := hP.cvr.cell 0; go_simp; refine hK _ _ ⟨s₁, mv_rd (.inl rfl) (fun e he => ?_), .refl _, ?_⟩; (focus (have hm := mem_listed he; simp [go_sem, *] at hm; (subst hm; exact ⟨_, rfl, hP.cvr.md _ rfl, hP.cvr.lt⟩))); clear hK K; try walk_nrm)
  repeat (first | ((with_reducible refine gd_op ?_); first | (refine rr_pure' hB rfl (by rfl) (by k_ne) (by rfl) (fun w₁ => by first | (simp [go_sem]; done) | simp [go_sem, *]) (fun w₁ K hK => ?_); go_simp; refine hK _ ?_; clear hK K w₁; try walk_nrm) | (refine rr_ctl hB rfl (fun _ => stepG_unwanted rfl rfl) ?_; try walk_nrm)) | ((with_reducible refine gd_rend ?_); (refine rr_regend hB hKr ?_; clear hKr Kr)) | ((with_reducible refine gd_seq ?_); refine rr_ctl hB rfl (fun _ => stepG_seq) ?_) | ((with_reducible refine gd_reg ?_); (refine rr_reg hB (fun Kr hKr => ?_); simp only [List.size_toArray, List.length_cons, List.length_nil, Nat.reduceAdd, Nat.zero_add, List.range, List.range.loop])) | ((with_reducible refine gd_skip ?_); refine rr_ctl hB rfl (fun _ => stepG_skip) ?_) | ((with_reducible refine gd_block ?_); refine rr_ctl hB rfl (fun _ => stepG_block) ?_) | ((with_reducible refine gd_inb ?_); refine rr_ctl hB rfl (fun _ => stepG_inBlock) ?_) | ((with_reducible refine gd_ret ?_); refine rr_ctl hB rfl (fun _ => stepG_ret') ?_) | ((with_reducible refine gd_exit ?_); refine rr_ctl hB rfl (fun _ => stepG_exit rfl) ?_) | ((with_reducible refine gd_end ?_); refine rr_ctl hB rfl (fun _ => stepG_end) ?_))
  (apply rr_call hB rfl (by rfl) (by k_ne) rfl; focus ((try walk_nrm); exact (all_x hB post_look (fun h => by have := h.2.1.len; rw [List.length_reverse] at this; omega) hP)))
  clear hP
  rintro v2 s' w' ⟨q, vs, s₁, w₁, ⟨hP, hM, -⟩, hA⟩
  have hvl : vs.length ≤ 65536 := by have := hM.len; rw [List.length_reverse] at this; omega
  walk_nrm
  (first | ((with_reducible refine gd_op ?_); first | (refine rr_pure' hB rfl (by rfl) (by k_ne) (by rfl) (fun w₁ => by first | (simp [go_sem]; done) | simp [go_sem, *]) (fun w₁ K hK => ?_); go_simp; refine hK _ ?_; clear hK K w₁; try walk_nrm) | (refine rr_ctl hB rfl (fun _ => stepG_unwanted rfl rfl) ?_; try walk_nrm)) | ((with_reducible refine gd_rend ?_); (refine rr_regend hB hKr ?_; clear hKr Kr)) | ((with_reducible refine gd_seq ?_); refine rr_ctl hB rfl (fun _ => stepG_seq) ?_) | ((with_reducible refine gd_reg ?_); (refine rr_reg hB (fun Kr hKr => ?_); simp only [List.size_toArray, List.length_cons, List.length_nil, Nat.reduceAdd, Nat.zero_add, List.range, List.range.loop])) | ((with_reducible refine gd_skip ?_); refine rr_ctl hB rfl (fun _ => stepG_skip) ?_) | ((with_reducible refine gd_block ?_); refine rr_ctl hB rfl (fun _ => stepG_block) ?_) | ((with_reducible refine gd_inb ?_); refine rr_ctl hB rfl (fun _ => stepG_inBlock) ?_) | ((with_reducible refine gd_ret ?_); refine rr_ctl hB rfl (fun _ => stepG_ret') ?_) | ((with_reducible refine gd_exit ?_); refine rr_ctl hB rfl (fun _ => stepG_exit rfl) ?_) | ((with_reducible refine gd_end ?_); refine rr_ctl hB rfl (fun _ => stepG_end) ?_))
  (first | ((with_reducible refine gd_op ?_); first | (refine rr_pure' hB rfl (by rfl) (by k_ne) (by rfl) (fun w₁ => by first | (simp [go_sem]; done) | simp [go_sem, *]) (fun w₁ K hK => ?_); go_simp; refine hK _ ?_; clear hK K w₁; try walk_nrm) | (refine rr_ctl hB rfl (fun _ => stepG_unwanted rfl rfl) ?_; try walk_nrm)) | ((with_reducible refine gd_rend ?_); (refine rr_regend hB hKr ?_; clear hKr Kr)) | ((with_reducible refine gd_seq ?_); refine rr_ctl hB rfl (fun _ => stepG_seq) ?_) | ((with_reducible refine gd_reg ?_); (refine rr_reg hB (fun Kr hKr => ?_); simp only [List.size_toArray, List.length_cons, List.length_nil, Nat.reduceAdd, Nat.zero_add, List.range, List.range.loop])) | ((with_reducible refine gd_skip ?_); refine rr_ctl hB rfl (fun _ => stepG_skip) ?_) | ((with_reducible refine gd_block ?_); refine rr_ctl hB rfl (fun _ => stepG_block) ?_) | ((with_reducible refine gd_inb ?_); refine rr_ctl hB rfl (fun _ => stepG_inBlock) ?_) | ((with_reducible refine gd_ret ?_); refine rr_ctl hB rfl (fun _ => stepG_ret') ?_) | ((with_reducible refine gd_exit ?_); refine rr_ctl hB rfl (fun _ => stepG_exit rfl) ?_) | ((with_reducible refine gd_end ?_); refine rr_ctl hB rfl (fun _ => stepG_end) ?_))
  refine crowd_turn hB hvl (by rfl) rfl hA ⟨_, _, _, _, _, _, _, _, _, rfl⟩ fun v s' w' h => hret _ _ _ ⟨v, _, rfl, h.nums, hM, (h.rl.zero rfl).2.2.1.trans hP.jn⟩
end
end Go.Proofs.Ytbamamkjmfkghaa.Crw
