/- A crowd adds: Crowd, by a contract of the starter: its beginning; the loop that starts those who add.
No condition. -/
import Derived.Test.YtiaebogolpcllaaVp
import Derived.Conc.WgWords
set_option linter.unusedSimpArgs false
set_option linter.unusedVariables false
namespace Go.Proofs.Ytiaebogolpcllaa.Crw
open Go Go.Conc Go.RowKit Go.Conc.Lib Go.ConcR.Gen
open Go.ConcN (upd upd_same upd_ne)
open Go.ConcR (stA smA KK WgAt wgBlock rd wr mk)
set_option linter.unusedVariables false
set_option maxRecDepth 100000
set_option maxHeartbeats 4000000
section
variable {E : Env} {Post : Value → World → Prop} {s s' s₀ s₁ : St tallyU} {w w' w₀ w₁ : World}

/-- The shards are laid; the group is not. -/
structure BegU (B0 : Nat) (ls : List (List (Int × Int))) (n b : Nat) (v : Value) (s : St tallyU) (w : World) : Prop where
  off : s.on = false
  n1 : s.tg.n = 1
  hd : s.tg.hd = none
  df : s.tg.deaf 0 = 0
  lst : Lists B0 ls v s w
  low : B0 ≤ w.heap.size
  on : s.u.on = true
  ub : s.u.b = b
  un : s.u.cur.length = n
  ua : s.u.all = allOf ls
  ust : s.u.st ≤ 0
  sb : s.u.sb = none
theorem BegU.rely {ls : List (List (Int × Int))} {B0 n b : Nat} {v : Value} (h : BegU B0 ls n b v s w) (r : Rl 0 s w s₁ w₁) : BegU B0 ls n b v s₁ w₁ := by
  obtain ⟨r1, r2, r3, r4, _⟩ := r.ru.2 h.on
  exact ⟨(r.zero rfl).2.2.2.1.trans h.off, (r.zero rfl).1.trans h.n1, r.hd.trans h.hd, r.deaf.trans h.df, h.lst.map fun _ _ _ _ x => x.rely r, Nat.le_trans h.low r.size, r1, r2.trans h.ub, r4.trans h.un, r3.trans h.ua, by rw [(r.ru.1.2.1 rfl).2]; exact h.ust, (r.ru.1.2.1 rfl).1.trans h.sb⟩
theorem BegU.up {ls : List (List (Int × Int))} {B0 n b : Nat} {v : Value} (h : BegU B0 ls n b v s w) (r : Up s w s₁ w₁) (h1 : s₁.on = s.on) (h2 : s₁.tg.hd = s.tg.hd) (h3 : s₁.tg.deaf = s.tg.deaf) (hu : s₁.u = s.u) : BegU B0 ls n b v s₁ w₁ :=
  ⟨h1.trans h.off, r.n.trans h.n1, h2.trans h.hd, by rw [h3]; exact h.df, h.lst.map fun _ _ _ _ x => x.up r, Nat.le_trans h.low r.size, by rw [hu]; exact h.on, by rw [hu]; exact h.ub, by rw [hu]; exact h.un, by rw [hu]; exact h.ua, by rw [hu]; exact h.ust, by rw [hu]; exact h.sb⟩
/-- A cell of the starter's own is written: what lies elsewhere stays. -/
theorem Rd0.set {b b' : Nat} {t t' : TypeId} {vs vs' : List Value} (h : Rd0 s w b t vs) (ho : Own 0 s w b' t' vs') (hne : b ≠ b') (off : Nat) (v : Value) : Rd0 s (w.setCell ⟨b', off, none⟩ v) b t vs :=
  h.leaves (leaves_set hne off v) rfl

theorem BegU.set {ls : List (List (Int × Int))} {B0 n b N : Nat} {v : Value} {t : TypeId} {vs : List Value} (h : BegU B0 ls n b v s w) (ho : Own 0 s w N t vs) (hN : B0 ≤ N) (off : Nat) (x : Value) : BegU B0 ls n b v s (w.setCell ⟨N, off, none⟩ x) :=
  ⟨h.off, h.n1, h.hd, h.df, h.lst.map fun _ _ _ hb y => y.set ho (by omega) off x, by rw [setCell_size]; exact h.low, h.on, h.ub, h.un, h.ua, h.ust, h.sb⟩
/-- Behind the start of all. -/
structure CrIn (B0 : Nat) (ls : List (List (Int × Int))) (n Wg cv cb b : Nat) (v : Value) (j : Nat) (s : St tallyU) (w : World) : Prop where
  sf : SF Wg 0 false true false s
  st : StF B0 ls n cv cb b v j s w
theorem CrIn.rely {ls : List (List (Int × Int))} {B0 n Wg cv cb b j : Nat} {v : Value} (h : CrIn B0 ls n Wg cv cb b v j s w) (r : Rl 0 s w s₁ w₁) : CrIn B0 ls n Wg cv cb b v j s₁ w₁ := ⟨h.sf.rely r, h.st.cm r.cm⟩

variable {Child : Sit (proto Try.prog tallyU E Post)}
theorem crowd_begin (hB : tallyU.Laws) (hE : E.ty = 45) {n looks : Nat} (hn : 0 < n) (hn2 : n ≤ 64) {ls : List (List (Int × Int))} (hls : ls.length ≤ 64) (hlk : looks ≤ 65536) {A : Option Addr} {cap : Nat} (hb : Begin s₀) (hl : Lists w₀.heap.size ls (.slice A ls.length cap) s₀ w₀) {cal : Frame} {cs : List Frame}
    (hnext : ∀ (a : Act) (Wg cv cb b : Nat) (s : St tallyU) (w : World), CrIn w₀.heap.size ls n Wg cv cb b (.slice A ls.length cap) 0 s w → a.defers = [] → a.tmps.size = 52 → a.tmps[1]? = some (.slice A ls.length cap) → a.tmps[2]? = some (.int .i64 looks) → a.tmps[9]? = some (.pointer (some ⟨cv, 0, none⟩)) → a.tmps[11]? = some (.pointer (some ⟨Wg, 0, none⟩)) →
      ∀ c, (∃ c1 c2 c3 c4, Try.f4.body = some (.seq c1 (.seq c2 (.seq c3 (.seq c4 c))))) → RR Try.prog tallyU E Post Child 0 (G ((base 4).at a [.code c]) (cal :: cs)) s w) :
    RR Try.prog tallyU E Post Child 0 (G ((base 4).at { tmps := #[.int .i64 n, .slice A ls.length cap, .int .i64 looks] ++ Array.replicate (Try.f4.ntmps - 3) undef, defers := [] } [.code (Try.f4.body.getD .skip)]) (cal :: cs)) s₀ w₀ := by
  simp only [Try.f4, Option.some.injEq] at hnext
  simp only [Try.f4, Option.getD_some]
  walk_nrm
  have h3 : ¬ ((ls.length : Nat) : Int) > 64 := by omega
  have h3' : ¬ (64 : Int) < ((ls.length : Nat) : Int) := by omega
  have h4 : ¬ ((looks : Nat) : Int) < 0 := by omega
  have h5 : ¬ (65536 : Int) < ((looks : Nat) : Int) := by omega
  have h6 : ¬ 64 < ls.length := by omega
  have h7 : ¬ 65536 < looks := by omega
  repeat (first | ((with_reducible refine gd_op ?_); first | (refine rr_pure' hB rfl (by rfl) (by k_ne) (by rfl) (fun w₁ => by first | (simp [go_sem]; done) | simp [go_sem, *]) (fun w₁ K hK => ?_); go_simp; refine hK _ ?_; clear hK K w₁; try walk_nrm) | (refine rr_ctl hB rfl (fun _ => stepG_unwanted rfl rfl) ?_; try walk_nrm)) | ((with_reducible refine gd_rend ?_); (refine rr_regend hB hKr ?_; clear hKr Kr)) | ((with_reducible refine gd_seq ?_); refine rr_ctl hB rfl (fun _ => stepG_seq) ?_) | ((with_reducible refine gd_reg ?_); (refine rr_reg hB (fun Kr hKr => ?_); simp only [List.size_toArray, List.length_cons, List.length_nil, Nat.reduceAdd, Nat.zero_add, List.range, List.range.loop])) | ((with_reducible refine gd_skip ?_); refine rr_ctl hB rfl (fun _ => stepG_skip) ?_) | ((with_reducible refine gd_block ?_); refine rr_ctl hB rfl (fun _ => stepG_block) ?_) | ((with_reducible refine gd_inb ?_); refine rr_ctl hB rfl (fun _ => stepG_inBlock) ?_) | ((with_reducible refine gd_ret ?_); refine rr_ctl hB rfl (fun _ => stepG_ret') ?_) | ((with_reducible refine gd_exit ?_); refine rr_ctl hB rfl (fun _ => stepG_exit rfl) ?_) | ((with_reducible refine gd_end ?_); refine rr_ctl hB rfl (fun _ => stepG_end) ?_))
  (apply rr_call hB rfl (by rfl) (by k_ne) rfl; focus ((try walk_nrm); exact (new_x hB (n := n) hn hn2 (A := fun s w => Begin s ∧ Lists w₀.heap.size ls (.slice A ls.length cap) s w ∧ w₀.heap.size ≤ w.heap.size) (A' := fun b s w => BegU w₀.heap.size ls n b (.slice A ls.length cap) s w) (Q := fun b cb s w => BegU w₀.heap.size ls n b (.slice A ls.length cap) s w ∧ Own 0 s w cb 55 [.slice (some ⟨b, 0, none⟩) n n])
    (fun h r => ⟨h.1.rely r, h.2.1.map fun _ _ _ _ x => x.rely r, Nat.le_trans h.2.2 r.size⟩) (fun h r => h.rely r) (fun _ => .inl rfl)
    (fun s w h hI => by
      obtain ⟨s', g1, g2, g3, g4, g5, g6, g7, g8⟩ := mv_shards hI h.1 hn hn2 ls
      exact ⟨s', g1, g2, g5, g6, g7, g8, h.2.1.map fun _ _ _ _ x => x.up g3, Nat.le_trans h.2.2 g3.size, by rw [g4]; rfl, by rw [g4]; rfl, by rw [g4]; simp [uStart], by rw [g4]; rfl, by rw [g4]; exact Nat.le_refl _, by rw [g4]; rfl⟩)
    (fun b s w h hI => ⟨h.up (up_new _) rfl rfl rfl rfl, own_new s w [.slice (some ⟨b, 0, none⟩) n n] _⟩) ⟨hb, hl, Nat.le_refl _⟩)))
  clear hb hl
  rintro _ s w ⟨b, cb, rfl, hF, hC⟩
  walk_nrm
  repeat (first | ((with_reducible refine gd_op ?_); first | (refine rr_pure' hB rfl (by rfl) (by k_ne) (by rfl) (fun w₁ => by first | (simp [go_sem]; done) | simp [go_sem, *]) (fun w₁ K hK => ?_); go_simp; refine hK _ ?_; clear hK K w₁; try walk_nrm) | (refine rr_ctl hB rfl (fun _ => stepG_unwanted rfl rfl) ?_; try walk_nrm)) | ((with_reducible refine gd_rend ?_); (refine rr_regend hB hKr ?_; clear hKr Kr)) | ((with_reducible refine gd_seq ?_); refine rr_ctl hB rfl (fun _ => stepG_seq) ?_) | ((with_reducible refine gd_reg ?_); (refine rr_reg hB (fun Kr hKr => ?_); simp only [List.size_toArray, List.length_cons, List.length_nil, Nat.reduceAdd, Nat.zero_add, List.range, List.range.loop])) | ((with_reducible refine gd_skip ?_); refine rr_ctl hB rfl (fun _ => stepG_skip) ?_) | ((with_reducible refine gd_block ?_); refine rr_ctl hB rfl (fun _ => stepG_block) ?_) | ((with_reducible refine gd_inb ?_); refine rr_ctl hB rfl (fun _ => stepG_inBlock) ?_) | ((with_reducible refine gd_ret ?_); refine rr_ctl hB rfl (fun _ => stepG_ret') ?_) | ((with_reducible refine gd_exit ?_); refine rr_ctl hB rfl (fun _ => stepG_exit rfl) ?_) | ((with_reducible refine gd_end ?_); refine rr_ctl hB rfl (fun _ => stepG_end) ?_))
  refine rr_oper rfl (by rfl) (by k_ne) (fun s₁ w₁ hR hI K hK => ?_)
  replace hF := hF.rely hR
  replace hC := hC.rely hR
  clear hR
  go_simp
  refine hK _ _ ⟨_, mv_new_at (.inl rfl) _ (listed_nil (by simp [go_sem, *])), St.take_soft _ _ _ _, ?_⟩
  clear hK K
  have hO : Own 0 (s₁.take 0 w₁.heap.size (w₁.heap.size + 1)) (w₁.alloc (.cells #[.pointer none] 33)) w₁.heap.size 33 [.pointer none] := own_new s₁ w₁ [.pointer none] 33
  have hne : cb ≠ w₁.heap.size := by have := hC.lt; omega
  have hlow := hF.low
  replace hF := hF.up (up_new (.cells #[.pointer none] 33)) rfl rfl rfl rfl
  replace hC := hC.up (up_new (.cells #[.pointer none] 33))

  have hN : w₀.heap.size ≤ w₁.heap.size := hlow
  clear hlow
  try walk_nrm
  generalize w₁.heap.size = cv at *
  refine rr_oper rfl (by rfl) (by k_ne) (fun s₁ w₁ hR hI K hK => ?_)
  replace hF := hF.rely hR
  replace hC := hC.rely hR
  replace hO := hO.rely hR
  clear hR
  have h0 := hO.cell 0
  have z0 := hO.frozen 0
  simp only [List.getElem?_cons_zero] at h0
  go_simp
  refine hK _ _ ⟨s₁, mv_set hI (.inl rfl) hO 0 _ (fun e he => ?_), .refl _, ?_⟩
  · have hm := mem_listed he
    simp [go_sem, ev_store_ptr, storedEv, *] at hm
    exact hm
  clear hK K h0 z0
  replace hF := hF.set hO hN 0 (.pointer (some ⟨cb, 0, none⟩))
  replace hC : Own 0 s₁ (w₁.setCell ⟨cv, 0, none⟩ (.pointer (some ⟨cb, 0, none⟩))) cb 55 [.slice (some ⟨b, 0, none⟩) n n] := hC.leaves (leaves_set hne _ _)
  replace hO := hO.set 0 (.pointer (some ⟨cb, 0, none⟩))
  simp only [List.set_cons_zero] at hO
  try walk_nrm
  repeat (first | ((with_reducible refine gd_op ?_); first | (refine rr_pure' hB rfl (by rfl) (by k_ne) (by rfl) (fun w₁ => by first | (simp [go_sem]; done) | simp [go_sem, *]) (fun w₁ K hK => ?_); go_simp; refine hK _ ?_; clear hK K w₁; try walk_nrm) | (refine rr_ctl hB rfl (fun _ => stepG_unwanted rfl rfl) ?_; try walk_nrm)) | ((with_reducible refine gd_rend ?_); (refine rr_regend hB hKr ?_; clear hKr Kr)) | ((with_reducible refine gd_seq ?_); refine rr_ctl hB rfl (fun _ => stepG_seq) ?_) | ((with_reducible refine gd_reg ?_); (refine rr_reg hB (fun Kr hKr => ?_); simp only [List.size_toArray, List.length_cons, List.length_nil, Nat.reduceAdd, Nat.zero_add, List.range, List.range.loop])) | ((with_reducible refine gd_skip ?_); refine rr_ctl hB rfl (fun _ => stepG_skip) ?_) | ((with_reducible refine gd_block ?_); refine rr_ctl hB rfl (fun _ => stepG_block) ?_) | ((with_reducible refine gd_inb ?_); refine rr_ctl hB rfl (fun _ => stepG_inBlock) ?_) | ((with_reducible refine gd_ret ?_); refine rr_ctl hB rfl (fun _ => stepG_ret') ?_) | ((with_reducible refine gd_exit ?_); refine rr_ctl hB rfl (fun _ => stepG_exit rfl) ?_) | ((with_reducible refine gd_end ?_); refine rr_ctl hB rfl (fun _ => stepG_end) ?_))
  (refine rr_ctl hB rfl (fun _ => stepG_cond (t := false) (by first | rfl | (simp [Act.eval, *]))) ?_; simp only [if_true, if_false, Bool.false_eq_true, ↓reduceIte])
  repeat (first | ((with_reducible refine gd_op ?_); first | (refine rr_pure' hB rfl (by rfl) (by k_ne) (by rfl) (fun w₁ => by first | (simp [go_sem]; done) | simp [go_sem, *]) (fun w₁ K hK => ?_); go_simp; refine hK _ ?_; clear hK K w₁; try walk_nrm) | (refine rr_ctl hB rfl (fun _ => stepG_unwanted rfl rfl) ?_; try walk_nrm)) | ((with_reducible refine gd_rend ?_); (refine rr_regend hB hKr ?_; clear hKr Kr)) | ((with_reducible refine gd_seq ?_); refine rr_ctl hB rfl (fun _ => stepG_seq) ?_) | ((with_reducible refine gd_reg ?_); (refine rr_reg hB (fun Kr hKr => ?_); simp only [List.size_toArray, List.length_cons, List.length_nil, Nat.reduceAdd, Nat.zero_add, List.range, List.range.loop])) | ((with_reducible refine gd_skip ?_); refine rr_ctl hB rfl (fun _ => stepG_skip) ?_) | ((with_reducible refine gd_block ?_); refine rr_ctl hB rfl (fun _ => stepG_block) ?_) | ((with_reducible refine gd_inb ?_); refine rr_ctl hB rfl (fun _ => stepG_inBlock) ?_) | ((with_reducible refine gd_ret ?_); refine rr_ctl hB rfl (fun _ => stepG_ret') ?_) | ((with_reducible refine gd_exit ?_); refine rr_ctl hB rfl (fun _ => stepG_exit rfl) ?_) | ((with_reducible refine gd_end ?_); refine rr_ctl hB rfl (fun _ => stepG_end) ?_))
  (refine rr_ctl hB rfl (fun _ => stepG_cond (t := false) (by first | rfl | (simp [Act.eval, *]))) ?_; simp only [if_true, if_false, Bool.false_eq_true, ↓reduceIte])
  repeat (first | ((with_reducible refine gd_op ?_); first | (refine rr_pure' hB rfl (by rfl) (by k_ne) (by rfl) (fun w₁ => by first | (simp [go_sem]; done) | simp [go_sem, *]) (fun w₁ K hK => ?_); go_simp; refine hK _ ?_; clear hK K w₁; try walk_nrm) | (refine rr_ctl hB rfl (fun _ => stepG_unwanted rfl rfl) ?_; try walk_nrm)) | ((with_reducible refine gd_rend ?_); (refine rr_regend hB hKr ?_; clear hKr Kr)) | ((with_reducible refine gd_seq ?_); refine rr_ctl hB rfl (fun _ => stepG_seq) ?_) | ((with_reducible refine gd_reg ?_); (refine rr_reg hB (fun Kr hKr => ?_); simp only [List.size_toArray, List.length_cons, List.length_nil, Nat.reduceAdd, Nat.zero_add, List.range, List.range.loop])) | ((with_reducible refine gd_skip ?_); refine rr_ctl hB rfl (fun _ => stepG_skip) ?_) | ((with_reducible refine gd_block ?_); refine rr_ctl hB rfl (fun _ => stepG_block) ?_) | ((with_reducible refine gd_inb ?_); refine rr_ctl hB rfl (fun _ => stepG_inBlock) ?_) | ((with_reducible refine gd_ret ?_); refine rr_ctl hB rfl (fun _ => stepG_ret') ?_) | ((with_reducible refine gd_exit ?_); refine rr_ctl hB rfl (fun _ => stepG_exit rfl) ?_) | ((with_reducible refine gd_end ?_); refine rr_ctl hB rfl (fun _ => stepG_end) ?_))
  (refine rr_ctl hB rfl (fun _ => stepG_cond (t := false) (by first | rfl | (simp [Act.eval, *]))) ?_; simp only [if_true, if_false, Bool.false_eq_true, ↓reduceIte])
  repeat (first | ((with_reducible refine gd_op ?_); first | (refine rr_pure' hB rfl (by rfl) (by k_ne) (by rfl) (fun w₁ => by first | (simp [go_sem]; done) | simp [go_sem, *]) (fun w₁ K hK => ?_); go_simp; refine hK _ ?_; clear hK K w₁; try walk_nrm) | (refine rr_ctl hB rfl (fun _ => stepG_unwanted rfl rfl) ?_; try walk_nrm)) | ((with_reducible refine gd_rend ?_); (refine rr_regend hB hKr ?_; clear hKr Kr)) | ((with_reducible refine gd_seq ?_); refine rr_ctl hB rfl (fun _ => stepG_seq) ?_) | ((with_reducible refine gd_reg ?_); (refine rr_reg hB (fun Kr hKr => ?_); simp only [List.size_toArray, List.length_cons, List.length_nil, Nat.reduceAdd, Nat.zero_add, List.range, List.range.loop])) | ((with_reducible refine gd_skip ?_); refine rr_ctl hB rfl (fun _ => stepG_skip) ?_) | ((with_reducible refine gd_block ?_); refine rr_ctl hB rfl (fun _ => stepG_block) ?_) | ((with_reducible refine gd_inb ?_); refine rr_ctl hB rfl (fun _ => stepG_inBlock) ?_) | ((with_reducible refine gd_ret ?_); refine rr_ctl hB rfl (fun _ => stepG_ret') ?_) | ((with_reducible refine gd_exit ?_); refine rr_ctl hB rfl (fun _ => stepG_exit rfl) ?_) | ((with_reducible refine gd_end ?_); refine rr_ctl hB rfl (fun _ => stepG_end) ?_))
  refine rr_oper rfl (by rfl) (by k_ne) (fun s₁ w₁ hR hI K hK => ?_)
  replace hF := hF.rely hR
  replace hC := hC.rely hR
  replace hO := hO.rely hR
  clear hR
  go_simp
  obtain ⟨s', g1, g2, g3, g4, g5, g6, g7⟩ := mv_group hE hI hF.off hF.n1 hF.hd hF.df
  refine hK _ _ ⟨s', ?_, g2, ?_⟩
  · rw [listed_nil (by simp [go_sem, *])]
    exact g1
  clear hK K
  have hS : StF w₀.heap.size ls n cv cb b (.slice A ls.length cap) 0 s' (w₁.alloc (.cells #[.int .u64 0, .int .u32 0] 45)) :=
    ⟨g5, g6, hO.rd0.up g3, hC.rd0.up g3, hF.lst.map fun _ _ _ _ x => x.up g3, Nat.le_trans hF.low g3.size, by rw [g4]; exact hF.on, by rw [g4]; exact hF.ub, by rw [g4]; exact hF.un, by rw [g4]; exact hF.ua, by rw [g4]; exact hF.ust, by rw [g4]; exact hF.sb⟩
  clear hF hC hO g1 g2 g3
  try walk_nrm
  (refine rr_regend hB hKr ?_; clear hKr Kr)
  exact hnext _ _ _ _ _ _ _ ⟨g7, hS⟩ rfl rfl rfl rfl rfl rfl _ ⟨_, _, _, _, rfl⟩
end
end Go.Proofs.Ytiaebogolpcllaa.Crw
namespace Go.Proofs.Ytiaebogolpcllaa.Crw
open Go Go.Conc Go.RowKit Go.Conc.Lib Go.ConcR.Gen
open Go.ConcN (upd upd_same upd_ne)
open Go.ConcR (stA smA KK WgAt wgBlock rd wr mk)
set_option linter.unusedVariables false
set_option maxRecDepth 100000
set_option maxHeartbeats 4000000

/-- A go statement. -/
theorem rr_go {P : Program} {B : Usr} {E : Env} {Post : Value → World → Prop} {Child : Sit (proto P B E Post)} {s : St B} {w : World} {b : Frame} {a : Act} {kk : List Item} {cs : List Frame} {ops : Array Oper} {i : Nat} {rest : List Nat} {o : Oper} {d : Deferred} {f : Fn} {c : Array Value}
    (ho : ops[i]? = some o) (hw : Region.wanted o (yielded ops a.tmps) = true) (hk : b.kind ≠ .early) (hr : ∀ w, (execOp a.eval o).run P w = .ok (.spawn d) w) (he : ∀ w, (execOp a.eval o).events P w #[] = #[]) (hd : d.target = .fn f c)
    (h : ∀ s₁ w₁, Rl 0 s w s₁ w₁ → Ok E s₁ w₁ → ∃ s', Go1 E s₁ w₁ s' w₁ #[] ∧ RR P B E Post Child 0 (G (b.at (a.put o.dst undef) (.inRegion ops rest :: kk)) cs) s' w₁ ∧ Child (born P d) s' w₁) :
    RR P B E Post Child 0 (G (b.at a (.inRegion ops (i :: rest) :: kk)) cs) s w :=
  rr_spawn rfl fun s₁ w₁ hR hI => by
    obtain ⟨s', h1, h2, h3⟩ := h s₁ w₁ hR hI
    have hs := stepG_spawn (P := P) (main := true) (k := kk) (cs := cs) (rest := rest) ho hw hk (hr w₁) hd
    have hl : listed P b.fn a o w₁ = #[] := listed_nil (he w₁)
    rw [hl] at hs
    exact ⟨_, _, _, _, s', hs, h1, h2, h3⟩

section
variable {E : Env} {Post : Value → World → Prop} {s s' s₀ s₁ : St tallyU} {w w' w₀ w₁ : World}

theorem Lists.cell {N j n cap : Nat} {A : Option Addr} {ls : List (List (Int × Int))} (h : Lists N ls (.slice A n cap) s w) (hj : j < ls.length) :
    ∃ g vi, A = some ⟨g, 0, none⟩ ∧ w.cell? ⟨g, j, none⟩ = some vi ∧ May s.tg 0 (.cell ⟨g, j, none⟩) ∧ g < w.heap.size ∧ Lst0 N s w vi ls[j] := by
  obtain ⟨A', cap', e, h | ⟨g, vs, h1, h0, h2, h3⟩⟩ := h.out
  · subst h; simp at hj
  · cases e
    obtain ⟨vi, h4, h5⟩ := h3 j _ (List.getElem?_eq_getElem hj)
    exact ⟨g, vi, h1, (h2.cell j).trans h4, h2.rds.md _ rfl, h2.lt, h5⟩
theorem StF.set {B0 n cv cb b j N : Nat} {ls : List (List (Int × Int))} {v : Value} {t : TypeId} {vs : List Value} (h : StF B0 ls n cv cb b v j s w) (ho : Own 0 s w N t vs) (hN : B0 ≤ N) (h1 : cv ≠ N) (h2 : cb ≠ N) (off : Nat) (x : Value) : StF B0 ls n cv cb b v j s (w.setCell ⟨N, off, none⟩ x) :=
  ⟨h.nj, h.hd, h.cvr.set ho h1 off x, h.cbr.set ho h2 off x, h.lst.map fun _ _ _ hb y => y.set ho (by omega) off x, by rw [setCell_size]; exact h.low, h.on, h.ub, h.un, h.ua, h.ust, h.sb⟩
theorem SF.take {Wg d : Nat} {p op ae : Bool} (h : SF Wg d p op ae s) (k lo hi : Nat) : SF Wg d p op ae (s.take k lo hi) := ⟨h.on, h.wg, h.df, h.pe, h.ph, h.al, h.jn⟩
theorem Lst0.lst {N : Nat} {v : Value} {l : List (Int × Int)} {X : Addr → Prop} {u' : TU} (h : Lst0 N s w v l) (hx : ∀ a, ¬ X a) : Lst s.tg.n (goSt s w X u') w v l := by
  obtain ⟨A, cap, e, h | ⟨g, vs, h1, h0, h2, h3⟩⟩ := h
  · exact ⟨A, cap, e, .inl h⟩
  · exact ⟨A, cap, e, .inr ⟨g, vs, h1, go_rds h2 fun a _ => hx a, h3⟩⟩

/-- One who adds is started: what he knows; what the starter knows. -/
theorem go_adder {B0 n Wg cv cb b j N : Nat} {ls : List (List (Int × Int))} {v vi : Value} (hI : Ok E s w) (hS : SF Wg 0 true true false s) (hst : StF B0 ls n cv cb b v j s w) (hj : j < ls.length) (hv : Lst0 B0 s w vi ls[j]) (hO : Own 0 s w N 46 [vi]) :
    AdF s.tg.n Wg N cv cb b n 55 vi ls[j] 0 (goSt s w (fun _ => False) { s.u with st := s.tg.n }) w ∧ CrIn B0 ls n Wg cv cb b v (j + 1) (goSt s w (fun _ => False) { s.u with st := s.tg.n }) w := by
  obtain ⟨g1, g2, g3⟩ := hI.J hst.on
  have hn := hst.nj
  have hal : (allOf ls).length = ls.length := by simp [allOf]
  refine ⟨⟨go_ws hS, go_rds hO.rd0 fun _ _ => id, go_rds hst.cvr fun _ _ => id, go_rds hst.cbr fun _ _ => id, hv.lst fun _ => id, hst.hd, hst.on, hst.ub, hst.un, ?_, Nat.le_refl _, ?_⟩, go_sf hS (by omega), ?_⟩
  · show s.tg.n ≤ s.u.all.length
    rw [hst.ua, hal]; omega
  · show s.u.rem[s.tg.n - 1]? = _
    have e : s.tg.n - 1 = j := by omega
    rw [e, g3.rest j hst.ust, hst.ua]
    simp [allOf, List.getElem?_eq_getElem hj]
  · refine ⟨by show s.tg.n + 1 = _; omega, hst.hd, go_rd0 hst.cvr fun _ _ => id, go_rd0 hst.cbr fun _ _ => id, hst.lst.map fun _ _ _ _ x => go_rd0 x fun _ _ => id, hst.low, hst.on, hst.ub, hst.un, hst.ua, ?_, hst.sb⟩
    show s.tg.n ≤ j + 1
    omega

theorem crowd_loop (hB : tallyU.Laws) (hEN : 66 ≤ E.N) {n looks B0 : Nat} (hn : 0 < n) (hn2 : n ≤ 64) {ls : List (List (Int × Int))} (hls : ls.length ≤ 64) (hlens : ∀ l ∈ ls, l.length * 16 ≤ 140737488355328) {A : Option Addr} {cap Wg cv cb b : Nat} {a : Act} (hF : CrIn B0 ls n Wg cv cb b (.slice A ls.length cap) 0 s w) (ha : a.defers = []) (hT : a.tmps.size = 52) (t1 : a.tmps[1]? = some (.slice A ls.length cap)) (t2 : a.tmps[2]? = some (.int .i64 looks)) (t9 : a.tmps[9]? = some (.pointer (some ⟨cv, 0, none⟩))) (t11 : a.tmps[11]? = some (.pointer (some ⟨Wg, 0, none⟩)))
    {cal : Frame} {cs : List Frame} {c : Code} (hc : ∃ c1 c2 c3 c4, Try.f4.body = some (.seq c1 (.seq c2 (.seq c3 (.seq c4 c)))))
    (hnext : ∀ (a : Act) (s : St tallyU) (w : World), CrIn B0 ls n Wg cv cb b (.slice A ls.length cap) ls.length s w → a.defers = [] → a.tmps.size = 52 → a.tmps[2]? = some (.int .i64 looks) → a.tmps[9]? = some (.pointer (some ⟨cv, 0, none⟩)) → a.tmps[11]? = some (.pointer (some ⟨Wg, 0, none⟩)) →
      ∀ c', (∃ c1 c2 c3 c4 c5, Try.f4.body = some (.seq c1 (.seq c2 (.seq c3 (.seq c4 (.seq c5 c')))))) → RR Try.prog tallyU E Post (Born (proto Try.prog tallyU E Post)) 0 (G ((base 4).at a [.code c']) (cal :: cs)) s w) :
    RR Try.prog tallyU E Post (Born (proto Try.prog tallyU E Post)) 0 (G ((base 4).at a [.code c]) (cal :: cs)) s w := by
  obtain ⟨c1, c2, c3, c4, hc⟩ := hc
  simp only [Try.f4, Option.some.injEq, Code.seq.injEq] at hc hnext
  obtain ⟨rfl, rfl, rfl, rfl, rfl⟩ := hc
  obtain ⟨⟨T⟩, ds⟩ := a
  simp only at ha hT t1 t2 t9 t11
  subst ha
  ((iterate 52 (rcases T with _ | ⟨_, T⟩; focus (simp at hT))); rcases T with _ | ⟨_, _⟩; rotate_left; focus (simp at hT))
  simp only [List.getElem?_toArray, List.getElem?_cons_succ, List.getElem?_cons_zero, Option.some.injEq] at t1 t2 t9 t11
  subst t1 t2 t9 t11
  repeat (first | ((with_reducible refine gd_op ?_); first | (refine rr_pure' hB rfl (by rfl) (by k_ne) (by rfl) (fun w₁ => by first | (simp [go_sem]; done) | simp [go_sem, *]) (fun w₁ K hK => ?_); go_simp; refine hK _ ?_; clear hK K w₁; try walk_nrm) | (refine rr_ctl hB rfl (fun _ => stepG_unwanted rfl rfl) ?_; try walk_nrm)) | ((with_reducible refine gd_rend ?_); (refine rr_regend hB hKr ?_; clear hKr Kr)) | ((with_reducible refine gd_seq ?_); refine rr_ctl hB rfl (fun _ => stepG_seq) ?_) | ((with_reducible refine gd_reg ?_); (refine rr_reg hB (fun Kr hKr => ?_); simp only [List.size_toArray, List.length_cons, List.length_nil, Nat.reduceAdd, Nat.zero_add, List.range, List.range.loop])) | ((with_reducible refine gd_skip ?_); refine rr_ctl hB rfl (fun _ => stepG_skip) ?_) | ((with_reducible refine gd_block ?_); refine rr_ctl hB rfl (fun _ => stepG_block) ?_) | ((with_reducible refine gd_inb ?_); refine rr_ctl hB rfl (fun _ => stepG_inBlock) ?_) | ((with_reducible refine gd_ret ?_); refine rr_ctl hB rfl (fun _ => stepG_ret') ?_) | ((with_reducible refine gd_exit ?_); refine rr_ctl hB rfl (fun _ => stepG_exit rfl) ?_) | ((with_reducible refine gd_end ?_); refine rr_ctl hB rfl (fun _ => stepG_end) ?_))
  refine rr_loop hB (fun m a s w => ∃ T j, a = ⟨T, []⟩ ∧ T.size = 52 ∧ T[2]? = some (.int .i64 looks) ∧ T[9]? = some (.pointer (some ⟨cv, 0, none⟩)) ∧ T[11]? = some (.pointer (some ⟨Wg, 0, none⟩)) ∧ T[35]? = some (.slice A ls.length cap) ∧ T[36]? = some (.int .i64 ls.length) ∧ T[37]? = some (.int .i64 (j : Nat)) ∧ j ≤ ls.length ∧ m = ls.length - j ∧ CrIn B0 ls n Wg cv cb b (.slice A ls.length cap) j s w) ls.length
    ⟨_, 0, rfl, rfl, rfl, rfl, rfl, rfl, rfl, rfl, Nat.zero_le _, rfl, hF⟩ ?_
  clear hF
  rintro m a s w ⟨T, j, rfl, hT, t2, t9, t11, t35, t36, t37, hle, rfl, hF⟩ ih
  obtain ⟨T⟩ := T
  ((iterate 52 (rcases T with _ | ⟨_, T⟩; focus (simp at hT))); rcases T with _ | ⟨_, _⟩; rotate_left; focus (simp at hT))
  simp only [List.getElem?_toArray, List.getElem?_cons_succ, List.getElem?_cons_zero, Option.some.injEq] at t2 t9 t11 t35 t36 t37
  subst t2 t9 t11 t35 t36 t37
  have hw1 : IntKind.i64.wrap ((j : Int) + 1) = ((j + 1 : Nat) : Int) := by rw [IntKind.wrap_i64]; omega
  repeat (first | ((with_reducible refine gd_op ?_); first | (refine rr_pure' hB rfl (by rfl) (by k_ne) (by rfl) (fun w₁ => by first | (simp [go_sem]; done) | simp [go_sem, *]) (fun w₁ K hK => ?_); go_simp; refine hK _ ?_; clear hK K w₁; try walk_nrm) | (refine rr_ctl hB rfl (fun _ => stepG_unwanted rfl rfl) ?_; try walk_nrm)) | ((with_reducible refine gd_rend ?_); (refine rr_regend hB hKr ?_; clear hKr Kr)) | ((with_reducible refine gd_seq ?_); refine rr_ctl hB rfl (fun _ => stepG_seq) ?_) | ((with_reducible refine gd_reg ?_); (refine rr_reg hB (fun Kr hKr => ?_); simp only [List.size_toArray, List.length_cons, List.length_nil, Nat.reduceAdd, Nat.zero_add, List.range, List.range.loop])) | ((with_reducible refine gd_skip ?_); refine rr_ctl hB rfl (fun _ => stepG_skip) ?_) | ((with_reducible refine gd_block ?_); refine rr_ctl hB rfl (fun _ => stepG_block) ?_) | ((with_reducible refine gd_inb ?_); refine rr_ctl hB rfl (fun _ => stepG_inBlock) ?_) | ((with_reducible refine gd_ret ?_); refine rr_ctl hB rfl (fun _ => stepG_ret') ?_) | ((with_reducible refine gd_exit ?_); refine rr_ctl hB rfl (fun _ => stepG_exit rfl) ?_) | ((with_reducible refine gd_end ?_); refine rr_ctl hB rfl (fun _ => stepG_end) ?_))
  by_cases hlt : j < ls.length
  · have hk2 : 0 ≤ (j : Int) ∧ (j : Int) < ls.length := ⟨by omega, by omega⟩
    obtain ⟨g, _, rfl, _⟩ := hF.st.lst.cell hlt
    (refine rr_ctl hB rfl (fun _ => stepG_cond (t := true) (by first | rfl | (simp [Act.eval, *]))) ?_; simp only [if_true, if_false, Bool.false_eq_true, ↓reduceIte])
    repeat (first | ((with_reducible refine gd_op ?_); first | (refine rr_pure' hB rfl (by rfl) (by k_ne) (by rfl) (fun w₁ => by first | (simp [go_sem]; done) | simp [go_sem, *]) (fun w₁ K hK => ?_); go_simp; refine hK _ ?_; clear hK K w₁; try walk_nrm) | (refine rr_ctl hB rfl (fun _ => stepG_unwanted rfl rfl) ?_; try walk_nrm)) | ((with_reducible refine gd_rend ?_); (refine rr_regend hB hKr ?_; clear hKr Kr)) | ((with_reducible refine gd_seq ?_); refine rr_ctl hB rfl (fun _ => stepG_seq) ?_) | ((with_reducible refine gd_reg ?_); (refine rr_reg hB (fun Kr hKr => ?_); simp only [List.size_toArray, List.length_cons, List.length_nil, Nat.reduceAdd, Nat.zero_add, List.range, List.range.loop])) | ((with_reducible refine gd_skip ?_); refine rr_ctl hB rfl (fun _ => stepG_skip) ?_) | ((with_reducible refine gd_block ?_); refine rr_ctl hB rfl (fun _ => stepG_block) ?_) | ((with_reducible refine gd_inb ?_); refine rr_ctl hB rfl (fun _ => stepG_inBlock) ?_) | ((with_reducible refine gd_ret ?_); refine rr_ctl hB rfl (fun _ => stepG_ret') ?_) | ((with_reducible refine gd_exit ?_); refine rr_ctl hB rfl (fun _ => stepG_exit rfl) ?_) | ((with_reducible refine gd_end ?_); refine rr_ctl hB rfl (fun _ => stepG_end) ?_))
    -- the list
    refine rr_oper rfl (by rfl) (by k_ne) (fun s₁ w₁ hR hI K hK => ?_)
    replace hF := hF.rely hR
    clear hR
    obtain ⟨g', vi, e, h1, h2, h3, hv⟩ := hF.st.lst.cell hlt
    cases e
    go_simp
    refine hK _ _ ⟨s₁, mv_rd (.inl rfl) (fun e he => ?_), .refl _, ?_⟩
    · have hm := mem_listed he
      simp [go_sem, *] at hm
      subst hm
      exact ⟨_, rfl, h2, h3⟩
    clear hK K h1 h2 h3
    try walk_nrm
    -- its variable
    refine rr_oper rfl (by rfl) (by k_ne) (fun s₁ w₁ hR hI K hK => ?_)
    replace hF := hF.rely hR
    replace hv := hv.map fun _ _ _ _ x => x.rely hR
    clear hR
    go_simp
    refine hK _ _ ⟨_, mv_new_at (.inl rfl) _ (listed_nil (by simp [go_sem, *])), St.take_soft _ _ _ _, ?_⟩
    clear hK K
    obtain ⟨Ai, ci, rfl, _⟩ := id hv
    have hO : Own 0 (s₁.take 0 w₁.heap.size (w₁.heap.size + 1)) (w₁.alloc (.cells #[.slice none 0 0] 46)) w₁.heap.size 46 [.slice none 0 0] := own_new s₁ w₁ [.slice none 0 0] 46
    have hN : B0 ≤ w₁.heap.size := hF.st.low
    have hcv : cv ≠ w₁.heap.size := Nat.ne_of_lt hF.st.cvr.lt
    have hcb : cb ≠ w₁.heap.size := Nat.ne_of_lt hF.st.cbr.lt
    replace hv : Lst0 B0 (s₁.take 0 w₁.heap.size (w₁.heap.size + 1)) (w₁.alloc (.cells #[.slice none 0 0] 46)) (.slice Ai ls[j].length ci) ls[j] := hv.map fun _ _ _ _ x => x.up (up_new _)
    replace hF : CrIn B0 ls n Wg cv cb b (.slice (some ⟨g, 0, none⟩) ls.length cap) j (s₁.take 0 w₁.heap.size (w₁.heap.size + 1)) (w₁.alloc (.cells #[.slice none 0 0] 46)) := ⟨hF.sf.take _ _ _, hF.st.up (up_new _) rfl rfl⟩
    generalize w₁.alloc (.cells #[.slice none 0 0] 46) = w at *
    generalize s₁.take 0 w₁.heap.size (w₁.heap.size + 1) = s at *
    generalize w₁.heap.size = N at *
    try walk_nrm
    refine rr_oper rfl (by rfl) (by k_ne) (fun s₁ w₁ hR hI K hK => ?_)
    replace hF := hF.rely hR
    replace hv := hv.map fun _ _ _ _ x => x.rely hR
    replace hO := hO.rely hR
    clear hR
    have h0 := hO.cell 0
    have z0 := hO.frozen 0
    simp only [List.getElem?_cons_zero] at h0
    go_simp
    refine hK _ _ ⟨s₁, mv_set hI (.inl rfl) hO 0 _ (fun e he => ?_), .refl _, ?_⟩
    · have hm := mem_listed he
      simp [go_sem, ev_store_slc, storedEv, *] at hm
      exact hm
    clear hK K h0 z0
    replace hv : Lst0 B0 s₁ (w₁.setCell ⟨N, 0, none⟩ (.slice Ai ls[j].length ci)) (.slice Ai ls[j].length ci) ls[j] := hv.map fun g t vs hg x => x.set hO (by omega) 0 _
    replace hF : CrIn B0 ls n Wg cv cb b (.slice (some ⟨g, 0, none⟩) ls.length cap) j s₁ (w₁.setCell ⟨N, 0, none⟩ (.slice Ai ls[j].length ci)) := ⟨hF.sf, hF.st.set hO hN hcv hcb 0 _⟩
    replace hO := hO.set 0 (.slice Ai ls[j].length ci)
    simp only [List.set_cons_zero] at hO
    generalize w₁.setCell ⟨N, 0, none⟩ (.slice Ai ls[j].length ci) = w at *
    clear hI hcv hcb
    try walk_nrm
    repeat (first | ((with_reducible refine gd_op ?_); first | (refine rr_pure' hB rfl (by rfl) (by k_ne) (by rfl) (fun w₁ => by first | (simp [go_sem]; done) | simp [go_sem, *]) (fun w₁ K hK => ?_); go_simp; refine hK _ ?_; clear hK K w₁; try walk_nrm) | (refine rr_ctl hB rfl (fun _ => stepG_unwanted rfl rfl) ?_; try walk_nrm)) | ((with_reducible refine gd_rend ?_); (refine rr_regend hB hKr ?_; clear hKr Kr)) | ((with_reducible refine gd_seq ?_); refine rr_ctl hB rfl (fun _ => stepG_seq) ?_) | ((with_reducible refine gd_reg ?_); (refine rr_reg hB (fun Kr hKr => ?_); simp only [List.size_toArray, List.length_cons, List.length_nil, Nat.reduceAdd, Nat.zero_add, List.range, List.range.loop])) | ((with_reducible refine gd_skip ?_); refine rr_ctl hB rfl (fun _ => stepG_skip) ?_) | ((with_reducible refine gd_block ?_); refine rr_ctl hB rfl (fun _ => stepG_block) ?_) | ((with_reducible refine gd_inb ?_); refine rr_ctl hB rfl (fun _ => stepG_inBlock) ?_) | ((with_reducible refine gd_ret ?_); refine rr_ctl hB rfl (fun _ => stepG_ret') ?_) | ((with_reducible refine gd_exit ?_); refine rr_ctl hB rfl (fun _ => stepG_exit rfl) ?_) | ((with_reducible refine gd_end ?_); refine rr_ctl hB rfl (fun _ => stepG_end) ?_))
    -- one more
    (apply rr_call hB rfl (by rfl) (by k_ne) rfl; focus ((try walk_nrm); exact (wgAdd_x hB (s₀ := s₁) (w₀ := w) (ae := false) ⟨.refl hB _ _ _, hF.sf⟩)))
    rintro _ s' w' hH
    replace hv := hv.map fun _ _ _ _ x => x.cm hH.cm
    have hst := hF.st.cm hH.cm
    replace hO := hO.cm hH.cm
    have hS := hH.sf
    clear hF hH
    walk_nrm
    repeat (first | ((with_reducible refine gd_op ?_); first | (refine rr_pure' hB rfl (by rfl) (by k_ne) (by rfl) (fun w₁ => by first | (simp [go_sem]; done) | simp [go_sem, *]) (fun w₁ K hK => ?_); go_simp; refine hK _ ?_; clear hK K w₁; try walk_nrm) | (refine rr_ctl hB rfl (fun _ => stepG_unwanted rfl rfl) ?_; try walk_nrm)) | ((with_reducible refine gd_rend ?_); (refine rr_regend hB hKr ?_; clear hKr Kr)) | ((with_reducible refine gd_seq ?_); refine rr_ctl hB rfl (fun _ => stepG_seq) ?_) | ((with_reducible refine gd_reg ?_); (refine rr_reg hB (fun Kr hKr => ?_); simp only [List.size_toArray, List.length_cons, List.length_nil, Nat.reduceAdd, Nat.zero_add, List.range, List.range.loop])) | ((with_reducible refine gd_skip ?_); refine rr_ctl hB rfl (fun _ => stepG_skip) ?_) | ((with_reducible refine gd_block ?_); refine rr_ctl hB rfl (fun _ => stepG_block) ?_) | ((with_reducible refine gd_inb ?_); refine rr_ctl hB rfl (fun _ => stepG_inBlock) ?_) | ((with_reducible refine gd_ret ?_); refine rr_ctl hB rfl (fun _ => stepG_ret') ?_) | ((with_reducible refine gd_exit ?_); refine rr_ctl hB rfl (fun _ => stepG_exit rfl) ?_) | ((with_reducible refine gd_end ?_); refine rr_ctl hB rfl (fun _ => stepG_end) ?_))
    -- it is started
    refine rr_go (d := callOf 11 Wg N cv) (f := .func 11) (c := #[.pointer (some ⟨Wg, 0, none⟩), .pointer (some ⟨N, 0, none⟩), .pointer (some ⟨cv, 0, none⟩)]) rfl (by rfl) (by k_ne) (fun w => by simp [go_sem, callOf, Deferred.ofValue]) (fun w => by simp [go_sem, Deferred.ofValue]) rfl fun s₂ w₂ hR hI => ?_
    replace hv := hv.map fun _ _ _ _ x => x.rely hR
    replace hst := hst.cm hR.cm
    replace hO := hO.rely hR
    replace hS := hS.rely hR
    clear hR
    obtain ⟨gA, gS⟩ := go_adder hI hS hst hlt hv hO
    have hnj := hst.nj
    refine ⟨_, go_mk hS (by omega) (fun _ => False) ⟨hst.on, .inl ⟨by have := hst.ust; omega, rfl⟩⟩, ?_, ?_⟩
    · clear gA hv hst hO hS hI
      generalize goSt s₂ w₂ (fun _ => False) { s₂.u with st := s₂.tg.n } = s at *
      try walk_nrm
      repeat (first | ((with_reducible refine gd_op ?_); first | (refine rr_pure' hB rfl (by rfl) (by k_ne) (by rfl) (fun w₁ => by first | (simp [go_sem]; done) | simp [go_sem, *]) (fun w₁ K hK => ?_); go_simp; refine hK _ ?_; clear hK K w₁; try walk_nrm) | (refine rr_ctl hB rfl (fun _ => stepG_unwanted rfl rfl) ?_; try walk_nrm)) | ((with_reducible refine gd_rend ?_); (refine rr_regend hB hKr ?_; clear hKr Kr)) | ((with_reducible refine gd_seq ?_); refine rr_ctl hB rfl (fun _ => stepG_seq) ?_) | ((with_reducible refine gd_reg ?_); (refine rr_reg hB (fun Kr hKr => ?_); simp only [List.size_toArray, List.length_cons, List.length_nil, Nat.reduceAdd, Nat.zero_add, List.range, List.range.loop])) | ((with_reducible refine gd_skip ?_); refine rr_ctl hB rfl (fun _ => stepG_skip) ?_) | ((with_reducible refine gd_block ?_); refine rr_ctl hB rfl (fun _ => stepG_block) ?_) | ((with_reducible refine gd_inb ?_); refine rr_ctl hB rfl (fun _ => stepG_inBlock) ?_) | ((with_reducible refine gd_ret ?_); refine rr_ctl hB rfl (fun _ => stepG_ret') ?_) | ((with_reducible refine gd_exit ?_); refine rr_ctl hB rfl (fun _ => stepG_exit rfl) ?_) | ((with_reducible refine gd_end ?_); refine rr_ctl hB rfl (fun _ => stepG_end) ?_))
      refine rr_ctl hB rfl (fun _ => stepG_inLoop) ?_
      exact ih (ls.length - (j + 1)) _ _ _ (by omega) ⟨_, j + 1, rfl, rfl, rfl, rfl, rfl, rfl, rfl, rfl, by omega, rfl, gS⟩
    · have hli := hlens _ (List.getElem_mem hlt)
      have : RR Try.prog tallyU E Post (fun _ _ _ => False) s₂.tg.n (born Try.prog (callOf 11 Wg N cv)) (goSt s₂ w₂ (fun _ => False) { s₂.u with st := s₂.tg.n }) w₂ := adder_runs hB (by omega) hn hn2 (by simp only [maxLen]; omega) gA
      exact this
  · have hjl : j = ls.length := by omega
    subst hjl
    (refine rr_ctl hB rfl (fun _ => stepG_cond (t := false) (by first | rfl | (simp [Act.eval, *]))) ?_; simp only [if_true, if_false, Bool.false_eq_true, ↓reduceIte])
    refine rr_ctl hB rfl (fun _ => stepG_exit rfl) ?_
    exact hnext _ _ _ hF rfl rfl rfl rfl rfl _ ⟨_, _, _, _, _, rfl, rfl, rfl, rfl, rfl, rfl⟩
end
end Go.Proofs.Ytiaebogolpcllaa.Crw
