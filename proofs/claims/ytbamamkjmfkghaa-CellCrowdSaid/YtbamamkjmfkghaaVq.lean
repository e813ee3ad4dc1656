/- A crowd pushes: the reference's sorted, by contracts of the starter.
No condition. -/
import Derived.Test.YtbamamkjmfkghaaVp
set_option linter.unusedSimpArgs false
set_option linter.unusedVariables false
namespace Go.Proofs.Ytbamamkjmfkghaa.Crw
open Go Go.Conc Go.RowKit Go.Conc.Lib Go.ConcR.Gen
open Go.ConcN (upd upd_same upd_ne)
open Go.ConcR (stA smA KK WgAt wgBlock rd wr mk)
set_option linter.unusedVariables false
set_option maxRecDepth 100000
set_option maxHeartbeats 4000000

theorem sorted_eq {l m : List Int} (h : l.Perm m) (hl : l.Pairwise (· ≤ ·)) (hm : m.Pairwise (· ≤ ·)) : l = m := by
  induction l generalizing m with
  | nil => exact (List.nil_perm.1 h).symm
  | cons a l ih =>
    cases m with
    | nil => exact absurd h.length_eq (by simp)
    | cons b m =>
      have h1 : a ∈ b :: m := h.subset (List.mem_cons_self)
      have h2 : b ∈ a :: l := h.symm.subset (List.mem_cons_self)
      have e : a = b := by
        rcases List.mem_cons.1 h1 with e | h1
        · exact e
        · rcases List.mem_cons.1 h2 with e | h2
          · exact e.symm
          · have q1 := (List.pairwise_cons.1 hl).1 b h2
            have q2 := (List.pairwise_cons.1 hm).1 a h1
            omega
      subst e
      rw [ih (List.Perm.cons_inv h) (List.pairwise_cons.1 hl).2 (List.pairwise_cons.1 hm).2]

/-- Two lists that are merged: so far. -/
structure Mrg (l lo la lb : List Int) : Prop where
  pm : (lo ++ (la ++ lb)).Perm l
  so : lo.Pairwise (· ≤ ·)
  sa : la.Pairwise (· ≤ ·)
  sb : lb.Pairwise (· ≤ ·)
  le : ∀ x ∈ lo, ∀ y ∈ la ++ lb, x ≤ y
theorem Mrg.more {lo : List Int} {x : Int} (h : lo.Pairwise (· ≤ ·)) (hx : ∀ z ∈ lo, z ≤ x) : (lo ++ [x]).Pairwise (· ≤ ·) :=
  List.pairwise_append.2 ⟨h, List.pairwise_singleton _ _, fun a ha b hb => by rw [List.mem_singleton.1 hb]; exact hx a ha⟩
theorem Mrg.left {l lo la lb : List Int} {x : Int} (h : Mrg l lo (x :: la) lb) (hx : ∀ z ∈ lb, x ≤ z) : Mrg l (lo ++ [x]) la lb := by
  refine ⟨?_, Mrg.more h.so fun z hz => h.le z hz x (by simp), (List.pairwise_cons.1 h.sa).2, h.sb, fun a ha y hy => ?_⟩
  · have := h.pm
    simpa using this
  · rcases List.mem_append.1 ha with ha | ha
    · exact h.le a ha y (List.mem_cons_of_mem _ hy)
    · rw [List.mem_singleton.1 ha]
      rcases List.mem_append.1 hy with hy | hy
      · exact (List.pairwise_cons.1 h.sa).1 y hy
      · exact hx y hy
theorem Mrg.right {l lo la lb : List Int} {y : Int} (h : Mrg l lo la (y :: lb)) (hy : ∀ z ∈ la, y ≤ z) : Mrg l (lo ++ [y]) la lb := by
  refine ⟨?_, Mrg.more h.so fun z hz => h.le z hz y (by simp), h.sa, (List.pairwise_cons.1 h.sb).2, fun a ha z hz => ?_⟩
  · have := h.pm
    refine List.Perm.trans ?_ this
    rw [List.append_assoc]
    exact List.Perm.append_left _ (List.perm_middle (a := y) (l₁ := la) (l₂ := lb)).symm
  · rcases List.mem_append.1 ha with ha | ha
    · refine h.le a ha z ?_
      rcases List.mem_append.1 hz with hz | hz
      · exact List.mem_append_left _ hz
      · exact List.mem_append_right _ (List.mem_cons_of_mem _ hz)
    · rw [List.mem_singleton.1 ha]
      rcases List.mem_append.1 hz with hz | hz
      · exact hy z hz
      · exact (List.pairwise_cons.1 h.sb).1 z hz

theorem events_sliceAt_h {P : Program} {w : World} {es : Array Event} (t : TypeId) (A : Option Addr) (len cap : Nat) (kh : IntKind) (h : Int) (ht : P.underlying t = some (.slice (P.elem t))) (h0 : 0 ≤ h) (h2 : h ≤ cap) :
    (Instr.sliceAt t (.slice A len cap) none (some (.int kh h)) none).events P w es = es := by
  simp [Instr.sliceAt, Instr.slice, Instr.sliceBounds, Instr.sliceBound, asIntOf, run_underlying ht, events_underlying, events_sizeOf, h0, h2]
theorem events_sliceAt_l {P : Program} {w : World} {es : Array Event} (t : TypeId) (A : Option Addr) (len cap : Nat) (kl : IntKind) (l : Int) (ht : P.underlying t = some (.slice (P.elem t))) (h0 : 0 ≤ l) (h1 : l ≤ len) :
    (Instr.sliceAt t (.slice A len cap) (some (.int kl l)) none none).events P w es = es := by
  simp [Instr.sliceAt, Instr.slice, Instr.sliceBounds, Instr.sliceBound, asIntOf, run_underlying ht, events_underlying, events_sizeOf, h0, h1]

theorem Mrg.left' {l lo la lb : List Int} (h : Mrg l lo la lb) (hp : 0 < la.length) (hx : ∀ z ∈ lb, la[0] ≤ z) : Mrg l (lo ++ [la[0]]) (la.drop 1) lb := by
  cases la with
  | nil => simp at hp
  | cons x la => exact h.left hx
theorem Mrg.right' {l lo la lb : List Int} (h : Mrg l lo la lb) (hp : 0 < lb.length) (hx : ∀ z ∈ la, lb[0] ≤ z) : Mrg l (lo ++ [lb[0]]) la (lb.drop 1) := by
  cases lb with
  | nil => simp at hp
  | cons x lb => exact h.right hx
theorem head_le {l : List Int} (h : l.Pairwise (· ≤ ·)) (hp : 0 < l.length) {z : Int} (hz : z ∈ l) : l[0] ≤ z := by
  cases l with
  | nil => simp at hp
  | cons x l =>
    rcases List.mem_cons.1 hz with rfl | hz
    · exact Int.le_refl _
    · exact (List.pairwise_cons.1 h).1 z hz

section
variable {B : Usr} {E : Env} {Post : Value → World → Prop} {Child : Sit (proto Try.prog B E Post)} {s s' s₀ s₁ : St B} {w w' w₀ w₁ : World}
/-- The two halves, sorted. -/
def HalfQ (s₀ : St B) (w₀ : World) (l : List Int) (a : Act) (s : St B) (w : World) : Prop :=
  ∃ T va vb la lb, a = ⟨T, []⟩ ∧ T.size = 67 ∧ T[3]? = some va ∧ T[4]? = some vb ∧ Nums 0 s w va la ∧ Nums 0 s w vb lb ∧ (la ++ lb).Perm l ∧ la.Pairwise (· ≤ ·) ∧ lb.Pairwise (· ≤ ·) ∧ Rl 0 s₀ w₀ s w

/-- Which head is the lesser one. -/
def PickQ (sc : St B) (wc : World) (va vb vo : Value) (la lb lo : List Int) (e : Bool) (a : Act) (s : St B) (w : World) : Prop :=
  (∃ T, a = ⟨T, []⟩ ∧ T.size = 67 ∧ T[3]? = some va ∧ T[4]? = some vb ∧ T[5]? = some vo ∧ T[49]? = some (.bool e)) ∧ (e = true → ∃ h : 0 < la.length, ∀ z ∈ lb, la[0] ≤ z) ∧ (e = false → ∃ h : 0 < lb.length, ∀ z ∈ la, lb[0] ≤ z) ∧ Acc sc wc vo lo s w
theorem rr_any2 {P : Program} {Child : Sit (proto P B E Post)} (hB : B.Laws) {ι : Type} {Q : ι → Act → St B → World → Prop} {b : Frame} {a : Act} {kk : List Item} {cs : List Frame} {id : Nat} {ops : Array Oper} (hk : b.kind ≠ .early) (hm : P.follows .mixedOrders = true) (hQ : ∀ e a s w s₁ w₁, Q e a s w → Rl 0 s w s₁ w₁ → Q e a s₁ w₁)
    (h : ∃ e, AnyX P B E Post Child 0 b.fn ops .any (Q e) ops.size (Array.replicate ops.size false) a s w) (hn : ∀ e a s w, Q e a s w → RR P B E Post Child 0 (G (b.at a kk) cs) s w) :
    RR P B E Post Child 0 (G (b.at a (.code (.region id ops true) :: kk)) cs) s w :=
  let ⟨e, h⟩ := h
  rr_any hB hk hm (hQ e) h (hn e)

theorem sorted_merge (hB : B.Laws) {l : List Int} (hl : l.length ≤ 17592186044415) {T : Array Value} {va vb : Value} {la lb : List Int} (hT : T.size = 67) (t3 : T[3]? = some va) (t4 : T[4]? = some vb) (na : Nums 0 s w va la) (nb : Nums 0 s w vb lb) (hpm : (la ++ lb).Perm l) (hsa : la.Pairwise (· ≤ ·)) (hsb : lb.Pairwise (· ≤ ·)) {cal : Frame} {cs : List Frame} {c : Code}
    (hc : ∃ c1 c2 c3, Try.f19.body = some (.seq c1 (.seq c2 (.seq c3 c)))) (hret : ∀ v' s' w', (∃ l', Nums 0 s' w' v' l' ∧ l'.Perm l ∧ l'.Pairwise (· ≤ ·) ∧ Rl 0 s w s' w') → RR Try.prog B E Post Child 0 (G (cal.finish v') cs) s' w') :
    RR Try.prog B E Post Child 0 (G ((base 19).at ⟨T, []⟩ [.code c]) (cal :: cs)) s w := by
  obtain ⟨c1, c2, c3, hc⟩ := hc
  simp only [Try.f19, Option.some.injEq, Code.seq.injEq] at hc
  obtain ⟨-, -, -, rfl⟩ := hc
  have hrl : Rl 0 s w s w := .refl hB _ _ _
  obtain ⟨T⟩ := T
  ((iterate 67 (rcases T with _ | ⟨_, T⟩; focus (simp at hT))); rcases T with _ | ⟨_, _⟩; rotate_left; focus (simp at hT))
  simp only [List.getElem?_toArray, List.getElem?_cons_succ, List.getElem?_cons_zero, Option.some.injEq] at t3 t4
  subst t3 t4
  repeat (first | ((with_reducible refine gd_op ?_); first | (refine rr_pure' hB rfl (by rfl) (by k_ne) (by rfl) (fun w₁ => by first | (simp [go_sem]; done) | simp [go_sem, *]) (fun w₁ K hK => ?_); go_simp; refine hK _ ?_; clear hK K w₁; try walk_nrm) | (refine rr_ctl hB rfl (fun _ => stepG_unwanted rfl rfl) ?_; try walk_nrm)) | ((with_reducible refine gd_rend ?_); (refine rr_regend hB hKr ?_; clear hKr Kr)) | ((with_reducible refine gd_seq ?_); refine rr_ctl hB rfl (fun _ => stepG_seq) ?_) | ((with_reducible refine gd_reg ?_); (refine rr_reg hB (fun Kr hKr => ?_); simp only [List.size_toArray, List.length_cons, List.length_nil, Nat.reduceAdd, Nat.zero_add, List.range, List.range.loop])) | ((with_reducible refine gd_skip ?_); refine rr_ctl hB rfl (fun _ => stepG_skip) ?_) | ((with_reducible refine gd_block ?_); refine rr_ctl hB rfl (fun _ => stepG_block) ?_) | ((with_reducible refine gd_inb ?_); refine rr_ctl hB rfl (fun _ => stepG_inBlock) ?_) | ((with_reducible refine gd_ret ?_); refine rr_ctl hB rfl (fun _ => stepG_ret') ?_) | ((with_reducible refine gd_exit ?_); refine rr_ctl hB rfl (fun _ => stepG_exit rfl) ?_) | ((with_reducible refine gd_end ?_); refine rr_ctl hB rfl (fun _ => stepG_end) ?_))
  refine rr_oper rfl (by rfl) (by k_ne) (fun sc wc hR hI K hK => ?_)
  replace na := na.rely hR
  replace nb := nb.rely hR
  replace hrl := hrl.trans hB hR
  clear hR
  go_simp
  refine hK _ _ ⟨_, mv_new_at (.inl rfl) _ (listed_nil (by simp [go_sem, *])), St.take_soft _ _ _ _, ?_⟩
  clear hK K hI
  have hF := Acc.empty hB sc wc
  replace hret : ∀ v' s' w' l', Acc sc wc v' l' s' w' → l'.Perm l → l'.Pairwise (· ≤ ·) → RR Try.prog B E Post Child 0 (G (cal.finish v') cs) s' w' := fun v' s' w' l' h1 h2 h3 => hret v' s' w' ⟨l', h1.nums, h2, h3, hrl.trans hB h1.rl⟩
  try walk_nrm
  repeat (first | ((with_reducible refine gd_op ?_); first | (refine rr_pure' hB rfl (by rfl) (by k_ne) (by rfl) (fun w₁ => by first | (simp [go_sem]; done) | simp [go_sem, *]) (fun w₁ K hK => ?_); go_simp; refine hK _ ?_; clear hK K w₁; try walk_nrm) | (refine rr_ctl hB rfl (fun _ => stepG_unwanted rfl rfl) ?_; try walk_nrm)) | ((with_reducible refine gd_rend ?_); (refine rr_regend hB hKr ?_; clear hKr Kr)) | ((with_reducible refine gd_seq ?_); refine rr_ctl hB rfl (fun _ => stepG_seq) ?_) | ((with_reducible refine gd_reg ?_); (refine rr_reg hB (fun Kr hKr => ?_); simp only [List.size_toArray, List.length_cons, List.length_nil, Nat.reduceAdd, Nat.zero_add, List.range, List.range.loop])) | ((with_reducible refine gd_skip ?_); refine rr_ctl hB rfl (fun _ => stepG_skip) ?_) | ((with_reducible refine gd_block ?_); refine rr_ctl hB rfl (fun _ => stepG_block) ?_) | ((with_reducible refine gd_inb ?_); refine rr_ctl hB rfl (fun _ => stepG_inBlock) ?_) | ((with_reducible refine gd_ret ?_); refine rr_ctl hB rfl (fun _ => stepG_ret') ?_) | ((with_reducible refine gd_exit ?_); refine rr_ctl hB rfl (fun _ => stepG_exit rfl) ?_) | ((with_reducible refine gd_end ?_); refine rr_ctl hB rfl (fun _ => stepG_end) ?_))
  refine rr_loop hB (fun m a s w => ∃ T va vb vo la lb lo, a = ⟨T, []⟩ ∧ T.size = 67 ∧ T[3]? = some va ∧ T[4]? = some vb ∧ some vo = T[5]? ∧ m = la.length + lb.length ∧ Nums 0 sc wc va la ∧ Nums 0 sc wc vb lb ∧ Mrg l lo la lb ∧ Acc sc wc vo lo s w) (la.length + lb.length) ⟨_, _, _, _, la, lb, [], rfl, rfl, rfl, rfl, rfl, rfl, na, nb, ⟨by simpa using hpm, List.Pairwise.nil, hsa, hsb, fun x hx => by simp at hx⟩, hF⟩ ?_
  clear hF hpm hsa hsb na nb hrl la lb
  rintro m a s w ⟨T, va, vb, vo, la, lb, lo, rfl, hT, t3, t4, t5, rfl, na, nb, hM, hF⟩ ih
  obtain ⟨T⟩ := T
  ((iterate 67 (rcases T with _ | ⟨_, T⟩; focus (simp at hT))); rcases T with _ | ⟨_, _⟩; rotate_left; focus (simp at hT))
  simp only [List.getElem?_toArray, List.getElem?_cons_succ, List.getElem?_cons_zero, Option.some.injEq] at t3 t4 t5
  subst t3 t4 t5
  obtain ⟨A1, c1, rfl, hc1, -⟩ := id na
  obtain ⟨A2, c2, rfl, hc2, -⟩ := id nb
  have hlo : lo.length ≤ 17592186044415 := by
    have := hM.pm.length_eq
    rw [List.length_append] at this
    omega
  have hQ2 : ∀ e (a : Act) s w s₁ w₁, PickQ sc wc (.slice A1 la.length c1) (.slice A2 lb.length c2) vo la lb lo e a s w → Rl 0 s w s₁ w₁ → PickQ sc wc (.slice A1 la.length c1) (.slice A2 lb.length c2) vo la lb lo e a s₁ w₁ := fun e a s w s₁ w₁ h r => ⟨h.1, h.2.1, h.2.2.1, h.2.2.2.rely hB r⟩
  by_cases h3 : 0 < la.length
  · have h3' : (0 : Int) < (la.length : Int) := by omega
    repeat (first | ((with_reducible refine gd_op ?_); first | (refine rr_pure' hB rfl (by rfl) (by k_ne) (by rfl) (fun w₁ => by first | (simp [go_sem]; done) | simp [go_sem, *]) (fun w₁ K hK => ?_); go_simp; refine hK _ ?_; clear hK K w₁; try walk_nrm) | (refine rr_ctl hB rfl (fun _ => stepG_unwanted rfl rfl) ?_; try walk_nrm)) | ((with_reducible refine gd_rend ?_); (refine rr_regend hB hKr ?_; clear hKr Kr)) | ((with_reducible refine gd_seq ?_); refine rr_ctl hB rfl (fun _ => stepG_seq) ?_) | ((with_reducible refine gd_reg ?_); (refine rr_reg hB (fun Kr hKr => ?_); simp only [List.size_toArray, List.length_cons, List.length_nil, Nat.reduceAdd, Nat.zero_add, List.range, List.range.loop])) | ((with_reducible refine gd_skip ?_); refine rr_ctl hB rfl (fun _ => stepG_skip) ?_) | ((with_reducible refine gd_block ?_); refine rr_ctl hB rfl (fun _ => stepG_block) ?_) | ((with_reducible refine gd_inb ?_); refine rr_ctl hB rfl (fun _ => stepG_inBlock) ?_) | ((with_reducible refine gd_ret ?_); refine rr_ctl hB rfl (fun _ => stepG_ret') ?_) | ((with_reducible refine gd_exit ?_); refine rr_ctl hB rfl (fun _ => stepG_exit rfl) ?_) | ((with_reducible refine gd_end ?_); refine rr_ctl hB rfl (fun _ => stepG_end) ?_))
    (refine rr_ctl hB rfl (fun _ => stepG_cond (t := true) (by first | rfl | (simp [Act.eval, *]))) ?_; simp only [if_true, if_false, Bool.false_eq_true, ↓reduceIte])
    repeat (first | ((with_reducible refine gd_op ?_); first | (refine rr_pure' hB rfl (by rfl) (by k_ne) (by rfl) (fun w₁ => by first | (simp [go_sem]; done) | simp [go_sem, *]) (fun w₁ K hK => ?_); go_simp; refine hK _ ?_; clear hK K w₁; try walk_nrm) | (refine rr_ctl hB rfl (fun _ => stepG_unwanted rfl rfl) ?_; try walk_nrm)) | ((with_reducible refine gd_rend ?_); (refine rr_regend hB hKr ?_; clear hKr Kr)) | ((with_reducible refine gd_seq ?_); refine rr_ctl hB rfl (fun _ => stepG_seq) ?_) | ((with_reducible refine gd_reg ?_); (refine rr_reg hB (fun Kr hKr => ?_); simp only [List.size_toArray, List.length_cons, List.length_nil, Nat.reduceAdd, Nat.zero_add, List.range, List.range.loop])) | ((with_reducible refine gd_skip ?_); refine rr_ctl hB rfl (fun _ => stepG_skip) ?_) | ((with_reducible refine gd_block ?_); refine rr_ctl hB rfl (fun _ => stepG_block) ?_) | ((with_reducible refine gd_inb ?_); refine rr_ctl hB rfl (fun _ => stepG_inBlock) ?_) | ((with_reducible refine gd_ret ?_); refine rr_ctl hB rfl (fun _ => stepG_ret') ?_) | ((with_reducible refine gd_exit ?_); refine rr_ctl hB rfl (fun _ => stepG_exit rfl) ?_) | ((with_reducible refine gd_end ?_); refine rr_ctl hB rfl (fun _ => stepG_end) ?_))
    refine rr_any2 hB (Q := PickQ sc wc (.slice A1 la.length c1) (.slice A2 lb.length c2) vo la lb lo) (by k_ne) mixed hQ2 ?_ ?_
    · by_cases h4 : 0 < lb.length
      · have hb0 : ((lb.length : Int) == 0) = false := by rw [beq_eq_false_iff_ne]; omega
        obtain ⟨b, o, rfl, hra⟩ := na.at h3
        obtain ⟨b', o', rfl, hrb⟩ := nb.at h4
        simp only [Nat.add_zero] at hra hrb
        replace hra := Hid.mk hra
        replace hrb := Hid.mk hrb
        have hk1 : (0 : Int) ≤ 0 ∧ (0 : Int) < (la.length : Int) := ⟨by omega, by omega⟩
        have hk2 : (0 : Int) ≤ 0 ∧ (0 : Int) < (lb.length : Int) := ⟨by omega, by omega⟩
        obtain ⟨e, he⟩ : ∃ e : Bool, decide (la[0] ≤ lb[0]) = e := ⟨_, rfl⟩
        refine ⟨e, ?_⟩
        have hQ := hQ2 e
        have hpe : (e = true → ∃ h : 0 < la.length, ∀ z ∈ lb, la[0] ≤ z) ∧ (e = false → ∃ h : 0 < lb.length, ∀ z ∈ la, lb[0] ≤ z) := by
          constructor
          · intro h
            rw [h, decide_eq_true_eq] at he
            exact ⟨h3, fun z hz => Int.le_trans he (head_le hM.sb h4 hz)⟩
          · intro h
            rw [h, decide_eq_false_iff_not] at he
            exact ⟨h4, fun z hz => Int.le_trans (by omega) (head_le hM.sa h3 hz)⟩
        replace hpe := Hid.mk hpe
        clear ih hM
        co_applyP (anyX_take hB hQ (i := 0) rfl (by kernel_rfl) (by kernel_rfl) (by kernel_rfl) (.inl ⟨by rfl, fun _ => ⟨run_eq_of ?run0c, ?ev0c⟩⟩) ?go0c)
        case run0c => intro K hK; go_simp; exact hK
        case ev0c => simp [go_sem, *]
        try walk_nrm
        co_applyP (anyX_take hB hQ (i := 1) rfl (by kernel_rfl) (by kernel_rfl) (by kernel_rfl) (.inl ⟨by rfl, fun _ => ⟨run_eq_of ?run1c, ?ev1c⟩⟩) ?go1c)
        case run1c => intro K hK; go_simp; exact hK
        case ev1c => simp [go_sem, *]
        try walk_nrm
        co_applyP (anyX_take hB hQ (i := 2) rfl (by kernel_rfl) (by kernel_rfl) (by kernel_rfl) (.inl ⟨by rfl, fun _ => ⟨run_eq_of ?run2c, ?ev2c⟩⟩) ?go2c)
        case run2c => intro K hK; go_simp; exact hK
        case ev2c => simp [go_sem, *]
        try walk_nrm
        co_applyP (anyX_take hB hQ (i := 3) rfl (by kernel_rfl) (by kernel_rfl) (by kernel_rfl) (.inl ⟨by rfl, fun _ => ⟨run_eq_of ?run3c, ?ev3c⟩⟩) ?go3c)
        case run3c => intro K hK; go_simp; exact hK
        case ev3c => simp [go_sem, *]
        try walk_nrm
        co_applyP (anyX_take hB hQ (i := 4) rfl (by kernel_rfl) (by kernel_rfl) (by kernel_rfl) (.inl ⟨by rfl, fun _ => ⟨run_eq_of ?run4c, ?ev4c⟩⟩) ?go4c)
        case run4c => intro K hK; go_simp; exact hK
        case ev4c => simp [go_sem, *]
        try walk_nrm
        co_applyP (anyX_take hB hQ (i := 5) rfl (by kernel_rfl) (by kernel_rfl) (by kernel_rfl) (.inl ⟨by rfl, fun _ => ⟨run_eq_of ?run5c, ?ev5c⟩⟩) ?go5c)
        case run5c => intro K hK; go_simp; exact hK
        case ev5c => simp [go_sem, *]
        try walk_nrm
        co_applyP (anyX_take hB hQ (i := 6) rfl (by kernel_rfl) (by kernel_rfl) (by kernel_rfl) (.inl ⟨by rfl, fun _ => ⟨run_eq_of ?run6c, ?ev6c⟩⟩) ?go6c)
        case run6c => intro K hK; go_simp; exact hK
        case ev6c => simp [go_sem, *]
        try walk_nrm
        co_applyP (anyX_take hB hQ (i := 7) rfl (by kernel_rfl) (by kernel_rfl) (by kernel_rfl) (.inl ⟨by rfl, fun _ => ⟨run_eq_of ?run7c, ?ev7c⟩⟩) ?go7c)
        case run7c => intro K hK; go_simp; exact hK
        case ev7c => simp [go_sem, *]
        try walk_nrm
        co_applyP (anyX_take hB hQ (i := 8) rfl (by kernel_rfl) (by kernel_rfl) (by kernel_rfl) (.inl ⟨by rfl, fun _ => ⟨run_eq_of ?run8c, ?ev8c⟩⟩) ?go8c)
        case run8c => intro K hK; go_simp; exact hK
        case ev8c => simp [go_sem, *]
        try walk_nrm
        co_applyP (anyX_take hB hQ (i := 9) rfl (by kernel_rfl) (by kernel_rfl) (by kernel_rfl) (.inl ⟨by rfl, fun _ => ⟨run_eq_of ?run9c, ?ev9c⟩⟩) ?go9c)
        case run9c => intro K hK; go_simp; exact hK
        case ev9c => simp [go_sem, *]
        try walk_nrm
        co_applyP (anyX_take hB hQ (i := 11) rfl (by kernel_rfl) (by kernel_rfl) (by kernel_rfl) (.inl ⟨by rfl, fun _ => ⟨run_eq_of ?run11c, ?ev11c⟩⟩) ?go11c)
        case run11c => intro K hK; go_simp; exact hK
        case ev11c => simp [go_sem, *]
        try walk_nrm
        co_applyP (anyX_take hB hQ (i := 12) rfl (by kernel_rfl) (by kernel_rfl) (by kernel_rfl) (.inl ⟨by rfl, fun _ => ⟨run_eq_of ?run12c, ?ev12c⟩⟩) ?go12c)
        case run12c => intro K hK; go_simp; exact hK
        case ev12c => simp [go_sem, *]
        try walk_nrm
        refine anyX_all (rs := [10, 13]) (by kernel_rfl) (by simp) fun q hq => ?_
        simp only [List.mem_cons, List.not_mem_nil, or_false] at hq
        rcases hq with rfl | rfl
        · -- one comes first
          refine opX_value rfl (by rfl) (fun s₁ w₁ hR hI K hK => ?_)
          replace hF := hF.rely hB hR
          clear hR
          have := (hra.out.rely hF.rl).1
          go_simp
          refine hK _ _ ⟨s₁, mv_rd (.inl rfl) (fun e he => ?_), .refl _, ?_⟩
          · have hm := mem_listed he
            simp [go_sem, *] at hm
            subst hm
            exact ⟨_, rfl, (hra.out.rely hF.rl).2.1, (hra.out.rely hF.rl).2.2⟩
          clear hK K this hI
          try walk_nrm
          refine anyX_all (rs := [13]) (by kernel_rfl) (by simp) fun q hq => ?_
          simp only [List.mem_cons, List.not_mem_nil, or_false] at hq
          subst hq
          refine opX_value rfl (by rfl) (fun s₁ w₁ hR hI K hK => ?_)
          replace hF := hF.rely hB hR
          clear hR
          have := (hrb.out.rely hF.rl).1
          go_simp
          refine hK _ _ ⟨s₁, mv_rd (.inl rfl) (fun e he => ?_), .refl _, ?_⟩
          · have hm := mem_listed he
            simp [go_sem, *] at hm
            subst hm
            exact ⟨_, rfl, (hrb.out.rely hF.rl).2.1, (hrb.out.rely hF.rl).2.2⟩
          clear hK K this hI
          try walk_nrm
          co_applyP (anyX_take hB hQ (i := 14) rfl (by kernel_rfl) (by kernel_rfl) (by kernel_rfl) (.inl ⟨by rfl, fun _ => ⟨run_eq_of ?run14d, ?ev14d⟩⟩) ?go14d)
          case run14d => intro K hK; go_simp; exact hK
          case ev14d => simp [go_sem, *]
          try walk_nrm
          co_applyP (anyX_take hB hQ (i := 15) rfl (by kernel_rfl) (by kernel_rfl) (by kernel_rfl) (.inl ⟨by rfl, fun _ => ⟨run_eq_of ?run15d, ?ev15d⟩⟩) ?go15d)
          case run15d => intro K hK; go_simp; exact hK
          case ev15d => simp [go_sem, *]
          try walk_nrm
          co_applyP (anyX_take hB hQ (i := 16) rfl (by kernel_rfl) (by kernel_rfl) (by kernel_rfl) (.inl ⟨by rfl, fun _ => ⟨run_eq_of ?run16d, ?ev16d⟩⟩) ?go16d)
          case run16d => intro K hK; go_simp; exact hK
          case ev16d => simp [go_sem, *]
          try walk_nrm
          exact anyX_done (by kernel_rfl) ⟨⟨_, rfl, rfl, rfl, rfl, rfl, rfl⟩, hpe.out.1, hpe.out.2, hF⟩ _
        · -- the other one
          refine opX_value rfl (by rfl) (fun s₁ w₁ hR hI K hK => ?_)
          replace hF := hF.rely hB hR
          clear hR
          have := (hrb.out.rely hF.rl).1
          go_simp
          refine hK _ _ ⟨s₁, mv_rd (.inl rfl) (fun e he => ?_), .refl _, ?_⟩
          · have hm := mem_listed he
            simp [go_sem, *] at hm
            subst hm
            exact ⟨_, rfl, (hrb.out.rely hF.rl).2.1, (hrb.out.rely hF.rl).2.2⟩
          clear hK K this hI
          try walk_nrm
          refine anyX_all (rs := [10]) (by kernel_rfl) (by simp) fun q hq => ?_
          simp only [List.mem_cons, List.not_mem_nil, or_false] at hq
          subst hq
          refine opX_value rfl (by rfl) (fun s₁ w₁ hR hI K hK => ?_)
          replace hF := hF.rely hB hR
          clear hR
          have := (hra.out.rely hF.rl).1
          go_simp
          refine hK _ _ ⟨s₁, mv_rd (.inl rfl) (fun e he => ?_), .refl _, ?_⟩
          · have hm := mem_listed he
            simp [go_sem, *] at hm
            subst hm
            exact ⟨_, rfl, (hra.out.rely hF.rl).2.1, (hra.out.rely hF.rl).2.2⟩
          clear hK K this hI
          try walk_nrm
          co_applyP (anyX_take hB hQ (i := 14) rfl (by kernel_rfl) (by kernel_rfl) (by kernel_rfl) (.inl ⟨by rfl, fun _ => ⟨run_eq_of ?run14e, ?ev14e⟩⟩) ?go14e)
          case run14e => intro K hK; go_simp; exact hK
          case ev14e => simp [go_sem, *]
          try walk_nrm
          co_applyP (anyX_take hB hQ (i := 15) rfl (by kernel_rfl) (by kernel_rfl) (by kernel_rfl) (.inl ⟨by rfl, fun _ => ⟨run_eq_of ?run15e, ?ev15e⟩⟩) ?go15e)
          case run15e => intro K hK; go_simp; exact hK
          case ev15e => simp [go_sem, *]
          try walk_nrm
          co_applyP (anyX_take hB hQ (i := 16) rfl (by kernel_rfl) (by kernel_rfl) (by kernel_rfl) (.inl ⟨by rfl, fun _ => ⟨run_eq_of ?run16e, ?ev16e⟩⟩) ?go16e)
          case run16e => intro K hK; go_simp; exact hK
          case ev16e => simp [go_sem, *]
          try walk_nrm
          exact anyX_done (by kernel_rfl) ⟨⟨_, rfl, rfl, rfl, rfl, rfl, rfl⟩, hpe.out.1, hpe.out.2, hF⟩ _
      · have h4n : Hid (lb = []) := ⟨List.eq_nil_of_length_eq_zero (by omega)⟩
        have hb0 : ((lb.length : Int) == 0) = true := by rw [h4n.out]; rfl
        refine ⟨true, ?_⟩
        have hQ := hQ2 true
        clear ih hM
        co_applyP (anyX_take hB hQ (i := 0) rfl (by kernel_rfl) (by kernel_rfl) (by kernel_rfl) (.inl ⟨by rfl, fun _ => ⟨run_eq_of ?run0f, ?ev0f⟩⟩) ?go0f)
        case run0f => intro K hK; go_simp; exact hK
        case ev0f => simp [go_sem, *]
        try walk_nrm
        co_applyP (anyX_take hB hQ (i := 1) rfl (by kernel_rfl) (by kernel_rfl) (by kernel_rfl) (.inl ⟨by rfl, fun _ => ⟨run_eq_of ?run1f, ?ev1f⟩⟩) ?go1f)
        case run1f => intro K hK; go_simp; exact hK
        case ev1f => simp [go_sem, *]
        try walk_nrm
        co_applyP (anyX_take hB hQ (i := 2) rfl (by kernel_rfl) (by kernel_rfl) (by kernel_rfl) (.inl ⟨by rfl, fun _ => ⟨run_eq_of ?run2f, ?ev2f⟩⟩) ?go2f)
        case run2f => intro K hK; go_simp; exact hK
        case ev2f => simp [go_sem, *]
        try walk_nrm
        co_applyP (anyX_take hB hQ (i := 3) rfl (by kernel_rfl) (by kernel_rfl) (by kernel_rfl) (.inl ⟨by rfl, fun _ => ⟨run_eq_of ?run3f, ?ev3f⟩⟩) ?go3f)
        case run3f => intro K hK; go_simp; exact hK
        case ev3f => simp [go_sem, *]
        try walk_nrm
        co_applyP (anyX_take hB hQ (i := 4) rfl (by kernel_rfl) (by kernel_rfl) (by kernel_rfl) (.inr ⟨by rfl, rfl⟩) ?go4f)
        try walk_nrm
        co_applyP (anyX_take hB hQ (i := 5) rfl (by kernel_rfl) (by kernel_rfl) (by kernel_rfl) (.inr ⟨by rfl, rfl⟩) ?go5f)
        try walk_nrm
        co_applyP (anyX_take hB hQ (i := 6) rfl (by kernel_rfl) (by kernel_rfl) (by kernel_rfl) (.inr ⟨by rfl, rfl⟩) ?go6f)
        try walk_nrm
        co_applyP (anyX_take hB hQ (i := 7) rfl (by kernel_rfl) (by kernel_rfl) (by kernel_rfl) (.inr ⟨by rfl, rfl⟩) ?go7f)
        try walk_nrm
        co_applyP (anyX_take hB hQ (i := 8) rfl (by kernel_rfl) (by kernel_rfl) (by kernel_rfl) (.inr ⟨by rfl, rfl⟩) ?go8f)
        try walk_nrm
        co_applyP (anyX_take hB hQ (i := 9) rfl (by kernel_rfl) (by kernel_rfl) (by kernel_rfl) (.inr ⟨by rfl, rfl⟩) ?go9f)
        try walk_nrm
        co_applyP (anyX_take hB hQ (i := 10) rfl (by kernel_rfl) (by kernel_rfl) (by kernel_rfl) (.inr ⟨by rfl, rfl⟩) ?go10f)
        try walk_nrm
        co_applyP (anyX_take hB hQ (i := 11) rfl (by kernel_rfl) (by kernel_rfl) (by kernel_rfl) (.inr ⟨by rfl, rfl⟩) ?go11f)
        try walk_nrm
        co_applyP (anyX_take hB hQ (i := 12) rfl (by kernel_rfl) (by kernel_rfl) (by kernel_rfl) (.inr ⟨by rfl, rfl⟩) ?go12f)
        try walk_nrm
        co_applyP (anyX_take hB hQ (i := 13) rfl (by kernel_rfl) (by kernel_rfl) (by kernel_rfl) (.inr ⟨by rfl, rfl⟩) ?go13f)
        try walk_nrm
        co_applyP (anyX_take hB hQ (i := 14) rfl (by kernel_rfl) (by kernel_rfl) (by kernel_rfl) (.inr ⟨by rfl, rfl⟩) ?go14f)
        try walk_nrm
        co_applyP (anyX_take hB hQ (i := 15) rfl (by kernel_rfl) (by kernel_rfl) (by kernel_rfl) (.inr ⟨by rfl, rfl⟩) ?go15f)
        try walk_nrm
        co_applyP (anyX_take hB hQ (i := 16) rfl (by kernel_rfl) (by kernel_rfl) (by kernel_rfl) (.inl ⟨by rfl, fun _ => ⟨run_eq_of ?run16f, ?ev16f⟩⟩) ?go16f)
        case run16f => intro K hK; go_simp; exact hK
        case ev16f => simp [go_sem, *]
        try walk_nrm
        exact anyX_done (by kernel_rfl) ⟨⟨_, rfl, rfl, rfl, rfl, rfl, rfl⟩, fun _ => ⟨h3, fun z hz => by rw [h4n.out] at hz; cases hz⟩, fun e => (by cases e), hF⟩ _
    · clear hF
      rintro e _ s w ⟨⟨T, rfl, hT, t3, t4, t5, t49⟩, he1, he2, hF⟩
      obtain ⟨T⟩ := T
      ((iterate 67 (rcases T with _ | ⟨_, T⟩; focus (simp at hT))); rcases T with _ | ⟨_, _⟩; rotate_left; focus (simp at hT))
      simp only [List.getElem?_toArray, List.getElem?_cons_succ, List.getElem?_cons_zero, Option.some.injEq] at t3 t4 t5 t49
      subst t3 t4 t5 t49
      cases e with
      | true =>
        obtain ⟨hp, hx⟩ := he1 rfl
        clear he1 he2
        replace hM := hM.left' hp hx
        clear hx
        obtain ⟨b, o, hA, hrd⟩ := na.at hp
        simp only [Nat.add_zero] at hrd
        have hp1 : (0 : Int) ≤ 0 ∧ (0 : Int) < (la.length : Int) := ⟨by omega, by omega⟩
        have hp2 : (1 : Int) ≤ (la.length : Int) := by omega
        subst hA
        have hdr := na.drop (m := 1) (by omega) (A' := if c1 = 1 then some ⟨b, o, none⟩ else some ⟨b, o + 1, none⟩) (fun hm => by rw [if_neg (by omega), Option.map_some, Addr.add_lit])
        have hev := fun w es => events_sliceAt_l (P := Try.prog) (w := w) (es := es) 23 (some ⟨b, o, none⟩) la.length c1 .i64 1 (by rw [Try.underlying23]; kernel_rfl) (by decide) hp2
        replace hrd := Hid.mk hrd
        repeat (first | ((with_reducible refine gd_op ?_); first | (refine rr_pure' hB rfl (by rfl) (by k_ne) (by rfl) (fun w₁ => by first | (simp [go_sem]; done) | simp [go_sem, *]) (fun w₁ K hK => ?_); go_simp; refine hK _ ?_; clear hK K w₁; try walk_nrm) | (refine rr_ctl hB rfl (fun _ => stepG_unwanted rfl rfl) ?_; try walk_nrm)) | ((with_reducible refine gd_rend ?_); (refine rr_regend hB hKr ?_; clear hKr Kr)) | ((with_reducible refine gd_seq ?_); refine rr_ctl hB rfl (fun _ => stepG_seq) ?_) | ((with_reducible refine gd_reg ?_); (refine rr_reg hB (fun Kr hKr => ?_); simp only [List.size_toArray, List.length_cons, List.length_nil, Nat.reduceAdd, Nat.zero_add, List.range, List.range.loop])) | ((with_reducible refine gd_skip ?_); refine rr_ctl hB rfl (fun _ => stepG_skip) ?_) | ((with_reducible refine gd_block ?_); refine rr_ctl hB rfl (fun _ => stepG_block) ?_) | ((with_reducible refine gd_inb ?_); refine rr_ctl hB rfl (fun _ => stepG_inBlock) ?_) | ((with_reducible refine gd_ret ?_); refine rr_ctl hB rfl (fun _ => stepG_ret') ?_) | ((with_reducible refine gd_exit ?_); refine rr_ctl hB rfl (fun _ => stepG_exit rfl) ?_) | ((with_reducible refine gd_end ?_); refine rr_ctl hB rfl (fun _ => stepG_end) ?_))
        (refine rr_ctl hB rfl (fun _ => stepG_cond (t := true) (by first | rfl | (simp [Act.eval, *]))) ?_; simp only [if_true, if_false, Bool.false_eq_true, ↓reduceIte])
        repeat (first | ((with_reducible refine gd_op ?_); first | (refine rr_pure' hB rfl (by rfl) (by k_ne) (by rfl) (fun w₁ => by first | (simp [go_sem]; done) | simp [go_sem, *]) (fun w₁ K hK => ?_); go_simp; refine hK _ ?_; clear hK K w₁; try walk_nrm) | (refine rr_ctl hB rfl (fun _ => stepG_unwanted rfl rfl) ?_; try walk_nrm)) | ((with_reducible refine gd_rend ?_); (refine rr_regend hB hKr ?_; clear hKr Kr)) | ((with_reducible refine gd_seq ?_); refine rr_ctl hB rfl (fun _ => stepG_seq) ?_) | ((with_reducible refine gd_reg ?_); (refine rr_reg hB (fun Kr hKr => ?_); simp only [List.size_toArray, List.length_cons, List.length_nil, Nat.reduceAdd, Nat.zero_add, List.range, List.range.loop])) | ((with_reducible refine gd_skip ?_); refine rr_ctl hB rfl (fun _ => stepG_skip) ?_) | ((with_reducible refine gd_block ?_); refine rr_ctl hB rfl (fun _ => stepG_block) ?_) | ((with_reducible refine gd_inb ?_); refine rr_ctl hB rfl (fun _ => stepG_inBlock) ?_) | ((with_reducible refine gd_ret ?_); refine rr_ctl hB rfl (fun _ => stepG_ret') ?_) | ((with_reducible refine gd_exit ?_); refine rr_ctl hB rfl (fun _ => stepG_exit rfl) ?_) | ((with_reducible refine gd_end ?_); refine rr_ctl hB rfl (fun _ => stepG_end) ?_))
        (refine rr_oper rfl (by rfl) (by k_ne) (fun s₁ w₁ hR hI K hK => ?_); replace hF := (Acc.rely hB) hF hR; clear hR; have := (hrd.out.rely hF.rl).1; go_simp; refine hK _ _ ⟨s₁, mv_rd (.inl rfl) (fun e he => ?_), .refl _, ?_⟩; (focus (have hm := mem_listed he; simp [go_sem, *] at hm; (subst hm; exact ⟨_, rfl, (hrd.out.rely hF.rl).2.1, (hrd.out.rely hF.rl).2.2⟩))); clear hK K; try walk_nrm)
        repeat (first | ((with_reducible refine gd_op ?_); first | (refine rr_pure' hB rfl (by rfl) (by k_ne) (by rfl) (fun w₁ => by first | (simp [go_sem]; done) | simp [go_sem, *]) (fun w₁ K hK => ?_); go_simp; refine hK _ ?_; clear hK K w₁; try walk_nrm) | (refine rr_ctl hB rfl (fun _ => stepG_unwanted rfl rfl) ?_; try walk_nrm)) | ((with_reducible refine gd_rend ?_); (refine rr_regend hB hKr ?_; clear hKr Kr)) | ((with_reducible refine gd_seq ?_); refine rr_ctl hB rfl (fun _ => stepG_seq) ?_) | ((with_reducible refine gd_reg ?_); (refine rr_reg hB (fun Kr hKr => ?_); simp only [List.size_toArray, List.length_cons, List.length_nil, Nat.reduceAdd, Nat.zero_add, List.range, List.range.loop])) | ((with_reducible refine gd_skip ?_); refine rr_ctl hB rfl (fun _ => stepG_skip) ?_) | ((with_reducible refine gd_block ?_); refine rr_ctl hB rfl (fun _ => stepG_block) ?_) | ((with_reducible refine gd_inb ?_); refine rr_ctl hB rfl (fun _ => stepG_inBlock) ?_) | ((with_reducible refine gd_ret ?_); refine rr_ctl hB rfl (fun _ => stepG_ret') ?_) | ((with_reducible refine gd_exit ?_); refine rr_ctl hB rfl (fun _ => stepG_exit rfl) ?_) | ((with_reducible refine gd_end ?_); refine rr_ctl hB rfl (fun _ => stepG_end) ?_))
        refine rr_push hB (sx := .tmp 50) (y := la[0]) hF rfl (by rfl) (by k_ne) rfl (fun w => by simp [go_sem]) (fun w => by simp [go_sem]) rfl rfl rfl (by simp) (fun _ => rfl) hlo ?_
        clear hF
        rintro N v' s w hF
        walk_nrm
        repeat (first | ((with_reducible refine gd_op ?_); first | (refine rr_pure' hB rfl (by rfl) (by k_ne) (by rfl) (fun w₁ => by first | (simp [go_sem]; done) | simp [go_sem, *]) (fun w₁ K hK => ?_); go_simp; refine hK _ ?_; clear hK K w₁; try walk_nrm) | (refine rr_ctl hB rfl (fun _ => stepG_unwanted rfl rfl) ?_; try walk_nrm)) | ((with_reducible refine gd_rend ?_); (refine rr_regend hB hKr ?_; clear hKr Kr)) | ((with_reducible refine gd_seq ?_); refine rr_ctl hB rfl (fun _ => stepG_seq) ?_) | ((with_reducible refine gd_reg ?_); (refine rr_reg hB (fun Kr hKr => ?_); simp only [List.size_toArray, List.length_cons, List.length_nil, Nat.reduceAdd, Nat.zero_add, List.range, List.range.loop])) | ((with_reducible refine gd_skip ?_); refine rr_ctl hB rfl (fun _ => stepG_skip) ?_) | ((with_reducible refine gd_block ?_); refine rr_ctl hB rfl (fun _ => stepG_block) ?_) | ((with_reducible refine gd_inb ?_); refine rr_ctl hB rfl (fun _ => stepG_inBlock) ?_) | ((with_reducible refine gd_ret ?_); refine rr_ctl hB rfl (fun _ => stepG_ret') ?_) | ((with_reducible refine gd_exit ?_); refine rr_ctl hB rfl (fun _ => stepG_exit rfl) ?_) | ((with_reducible refine gd_end ?_); refine rr_ctl hB rfl (fun _ => stepG_end) ?_))
        refine rr_ctl hB rfl (fun _ => stepG_inLoop) ?_
        exact ih ((la.drop 1).length + lb.length) _ _ _ (by rw [List.length_drop]; omega) ⟨_, _, _, _, la.drop 1, lb, lo ++ [la[0]], rfl, rfl, rfl, rfl, rfl, rfl, hdr, nb, hM, hF⟩
      | false =>
        obtain ⟨hp, hx⟩ := he2 rfl
        clear he1 he2
        replace hM := hM.right' hp hx
        clear hx
        obtain ⟨b, o, hA, hrd⟩ := nb.at hp
        simp only [Nat.add_zero] at hrd
        have hp1 : (0 : Int) ≤ 0 ∧ (0 : Int) < (lb.length : Int) := ⟨by omega, by omega⟩
        have hp2 : (1 : Int) ≤ (lb.length : Int) := by omega
        subst hA
        have hdr := nb.drop (m := 1) (by omega) (A' := if c2 = 1 then some ⟨b, o, none⟩ else some ⟨b, o + 1, none⟩) (fun hm => by rw [if_neg (by omega), Option.map_some, Addr.add_lit])
        have hev := fun w es => events_sliceAt_l (P := Try.prog) (w := w) (es := es) 23 (some ⟨b, o, none⟩) lb.length c2 .i64 1 (by rw [Try.underlying23]; kernel_rfl) (by decide) hp2
        replace hrd := Hid.mk hrd
        repeat (first | ((with_reducible refine gd_op ?_); first | (refine rr_pure' hB rfl (by rfl) (by k_ne) (by rfl) (fun w₁ => by first | (simp [go_sem]; done) | simp [go_sem, *]) (fun w₁ K hK => ?_); go_simp; refine hK _ ?_; clear hK K w₁; try walk_nrm) | (refine rr_ctl hB rfl (fun _ => stepG_unwanted rfl rfl) ?_; try walk_nrm)) | ((with_reducible refine gd_rend ?_); (refine rr_regend hB hKr ?_; clear hKr Kr)) | ((with_reducible refine gd_seq ?_); refine rr_ctl hB rfl (fun _ => stepG_seq) ?_) | ((with_reducible refine gd_reg ?_); (refine rr_reg hB (fun Kr hKr => ?_); simp only [List.size_toArray, List.length_cons, List.length_nil, Nat.reduceAdd, Nat.zero_add, List.range, List.range.loop])) | ((with_reducible refine gd_skip ?_); refine rr_ctl hB rfl (fun _ => stepG_skip) ?_) | ((with_reducible refine gd_block ?_); refine rr_ctl hB rfl (fun _ => stepG_block) ?_) | ((with_reducible refine gd_inb ?_); refine rr_ctl hB rfl (fun _ => stepG_inBlock) ?_) | ((with_reducible refine gd_ret ?_); refine rr_ctl hB rfl (fun _ => stepG_ret') ?_) | ((with_reducible refine gd_exit ?_); refine rr_ctl hB rfl (fun _ => stepG_exit rfl) ?_) | ((with_reducible refine gd_end ?_); refine rr_ctl hB rfl (fun _ => stepG_end) ?_))
        (refine rr_ctl hB rfl (fun _ => stepG_cond (t := false) (by first | rfl | (simp [Act.eval, *]))) ?_; simp only [if_true, if_false, Bool.false_eq_true, ↓reduceIte])
        repeat (first | ((with_reducible refine gd_op ?_); first | (refine rr_pure' hB rfl (by rfl) (by k_ne) (by rfl) (fun w₁ => by first | (simp [go_sem]; done) | simp [go_sem, *]) (fun w₁ K hK => ?_); go_simp; refine hK _ ?_; clear hK K w₁; try walk_nrm) | (refine rr_ctl hB rfl (fun _ => stepG_unwanted rfl rfl) ?_; try walk_nrm)) | ((with_reducible refine gd_rend ?_); (refine rr_regend hB hKr ?_; clear hKr Kr)) | ((with_reducible refine gd_seq ?_); refine rr_ctl hB rfl (fun _ => stepG_seq) ?_) | ((with_reducible refine gd_reg ?_); (refine rr_reg hB (fun Kr hKr => ?_); simp only [List.size_toArray, List.length_cons, List.length_nil, Nat.reduceAdd, Nat.zero_add, List.range, List.range.loop])) | ((with_reducible refine gd_skip ?_); refine rr_ctl hB rfl (fun _ => stepG_skip) ?_) | ((with_reducible refine gd_block ?_); refine rr_ctl hB rfl (fun _ => stepG_block) ?_) | ((with_reducible refine gd_inb ?_); refine rr_ctl hB rfl (fun _ => stepG_inBlock) ?_) | ((with_reducible refine gd_ret ?_); refine rr_ctl hB rfl (fun _ => stepG_ret') ?_) | ((with_reducible refine gd_exit ?_); refine rr_ctl hB rfl (fun _ => stepG_exit rfl) ?_) | ((with_reducible refine gd_end ?_); refine rr_ctl hB rfl (fun _ => stepG_end) ?_))
        (refine rr_oper rfl (by rfl) (by k_ne) (fun s₁ w₁ hR hI K hK => ?_); replace hF := (Acc.rely hB) hF hR; clear hR; have := (hrd.out.rely hF.rl).1; go_simp; refine hK _ _ ⟨s₁, mv_rd (.inl rfl) (fun e he => ?_), .refl _, ?_⟩; (focus (have hm := mem_listed he; simp [go_sem, *] at hm; (subst hm; exact ⟨_, rfl, (hrd.out.rely hF.rl).2.1, (hrd.out.rely hF.rl).2.2⟩))); clear hK K; try walk_nrm)
        repeat (first | ((with_reducible refine gd_op ?_); first | (refine rr_pure' hB rfl (by rfl) (by k_ne) (by rfl) (fun w₁ => by first | (simp [go_sem]; done) | simp [go_sem, *]) (fun w₁ K hK => ?_); go_simp; refine hK _ ?_; clear hK K w₁; try walk_nrm) | (refine rr_ctl hB rfl (fun _ => stepG_unwanted rfl rfl) ?_; try walk_nrm)) | ((with_reducible refine gd_rend ?_); (refine rr_regend hB hKr ?_; clear hKr Kr)) | ((with_reducible refine gd_seq ?_); refine rr_ctl hB rfl (fun _ => stepG_seq) ?_) | ((with_reducible refine gd_reg ?_); (refine rr_reg hB (fun Kr hKr => ?_); simp only [List.size_toArray, List.length_cons, List.length_nil, Nat.reduceAdd, Nat.zero_add, List.range, List.range.loop])) | ((with_reducible refine gd_skip ?_); refine rr_ctl hB rfl (fun _ => stepG_skip) ?_) | ((with_reducible refine gd_block ?_); refine rr_ctl hB rfl (fun _ => stepG_block) ?_) | ((with_reducible refine gd_inb ?_); refine rr_ctl hB rfl (fun _ => stepG_inBlock) ?_) | ((with_reducible refine gd_ret ?_); refine rr_ctl hB rfl (fun _ => stepG_ret') ?_) | ((with_reducible refine gd_exit ?_); refine rr_ctl hB rfl (fun _ => stepG_exit rfl) ?_) | ((with_reducible refine gd_end ?_); refine rr_ctl hB rfl (fun _ => stepG_end) ?_))
        refine rr_push hB (sx := .tmp 58) (y := lb[0]) hF rfl (by rfl) (by k_ne) rfl (fun w => by simp [go_sem]) (fun w => by simp [go_sem]) rfl rfl rfl (by simp) (fun _ => rfl) hlo ?_
        clear hF
        rintro N v' s w hF
        walk_nrm
        repeat (first | ((with_reducible refine gd_op ?_); first | (refine rr_pure' hB rfl (by rfl) (by k_ne) (by rfl) (fun w₁ => by first | (simp [go_sem]; done) | simp [go_sem, *]) (fun w₁ K hK => ?_); go_simp; refine hK _ ?_; clear hK K w₁; try walk_nrm) | (refine rr_ctl hB rfl (fun _ => stepG_unwanted rfl rfl) ?_; try walk_nrm)) | ((with_reducible refine gd_rend ?_); (refine rr_regend hB hKr ?_; clear hKr Kr)) | ((with_reducible refine gd_seq ?_); refine rr_ctl hB rfl (fun _ => stepG_seq) ?_) | ((with_reducible refine gd_reg ?_); (refine rr_reg hB (fun Kr hKr => ?_); simp only [List.size_toArray, List.length_cons, List.length_nil, Nat.reduceAdd, Nat.zero_add, List.range, List.range.loop])) | ((with_reducible refine gd_skip ?_); refine rr_ctl hB rfl (fun _ => stepG_skip) ?_) | ((with_reducible refine gd_block ?_); refine rr_ctl hB rfl (fun _ => stepG_block) ?_) | ((with_reducible refine gd_inb ?_); refine rr_ctl hB rfl (fun _ => stepG_inBlock) ?_) | ((with_reducible refine gd_ret ?_); refine rr_ctl hB rfl (fun _ => stepG_ret') ?_) | ((with_reducible refine gd_exit ?_); refine rr_ctl hB rfl (fun _ => stepG_exit rfl) ?_) | ((with_reducible refine gd_end ?_); refine rr_ctl hB rfl (fun _ => stepG_end) ?_))
        refine rr_ctl hB rfl (fun _ => stepG_inLoop) ?_
        exact ih (la.length + (lb.drop 1).length) _ _ _ (by rw [List.length_drop]; omega) ⟨_, _, _, _, la, lb.drop 1, lo ++ [lb[0]], rfl, rfl, rfl, rfl, rfl, rfl, na, hdr, hM, hF⟩
  · have h3' : ¬ (0 : Int) < (la.length : Int) := by omega
    have h3n : Hid (la = []) := ⟨List.eq_nil_of_length_eq_zero (by omega)⟩
    by_cases h4 : 0 < lb.length
    · have h4' : (0 : Int) < (lb.length : Int) := by omega
      repeat (first | ((with_reducible refine gd_op ?_); first | (refine rr_pure' hB rfl (by rfl) (by k_ne) (by rfl) (fun w₁ => by first | (simp [go_sem]; done) | simp [go_sem, *]) (fun w₁ K hK => ?_); go_simp; refine hK _ ?_; clear hK K w₁; try walk_nrm) | (refine rr_ctl hB rfl (fun _ => stepG_unwanted rfl rfl) ?_; try walk_nrm)) | ((with_reducible refine gd_rend ?_); (refine rr_regend hB hKr ?_; clear hKr Kr)) | ((with_reducible refine gd_seq ?_); refine rr_ctl hB rfl (fun _ => stepG_seq) ?_) | ((with_reducible refine gd_reg ?_); (refine rr_reg hB (fun Kr hKr => ?_); simp only [List.size_toArray, List.length_cons, List.length_nil, Nat.reduceAdd, Nat.zero_add, List.range, List.range.loop])) | ((with_reducible refine gd_skip ?_); refine rr_ctl hB rfl (fun _ => stepG_skip) ?_) | ((with_reducible refine gd_block ?_); refine rr_ctl hB rfl (fun _ => stepG_block) ?_) | ((with_reducible refine gd_inb ?_); refine rr_ctl hB rfl (fun _ => stepG_inBlock) ?_) | ((with_reducible refine gd_ret ?_); refine rr_ctl hB rfl (fun _ => stepG_ret') ?_) | ((with_reducible refine gd_exit ?_); refine rr_ctl hB rfl (fun _ => stepG_exit rfl) ?_) | ((with_reducible refine gd_end ?_); refine rr_ctl hB rfl (fun _ => stepG_end) ?_))
      (refine rr_ctl hB rfl (fun _ => stepG_cond (t := true) (by first | rfl | (simp [Act.eval, *]))) ?_; simp only [if_true, if_false, Bool.false_eq_true, ↓reduceIte])
      repeat (first | ((with_reducible refine gd_op ?_); first | (refine rr_pure' hB rfl (by rfl) (by k_ne) (by rfl) (fun w₁ => by first | (simp [go_sem]; done) | simp [go_sem, *]) (fun w₁ K hK => ?_); go_simp; refine hK _ ?_; clear hK K w₁; try walk_nrm) | (refine rr_ctl hB rfl (fun _ => stepG_unwanted rfl rfl) ?_; try walk_nrm)) | ((with_reducible refine gd_rend ?_); (refine rr_regend hB hKr ?_; clear hKr Kr)) | ((with_reducible refine gd_seq ?_); refine rr_ctl hB rfl (fun _ => stepG_seq) ?_) | ((with_reducible refine gd_reg ?_); (refine rr_reg hB (fun Kr hKr => ?_); simp only [List.size_toArray, List.length_cons, List.length_nil, Nat.reduceAdd, Nat.zero_add, List.range, List.range.loop])) | ((with_reducible refine gd_skip ?_); refine rr_ctl hB rfl (fun _ => stepG_skip) ?_) | ((with_reducible refine gd_block ?_); refine rr_ctl hB rfl (fun _ => stepG_block) ?_) | ((with_reducible refine gd_inb ?_); refine rr_ctl hB rfl (fun _ => stepG_inBlock) ?_) | ((with_reducible refine gd_ret ?_); refine rr_ctl hB rfl (fun _ => stepG_ret') ?_) | ((with_reducible refine gd_exit ?_); refine rr_ctl hB rfl (fun _ => stepG_exit rfl) ?_) | ((with_reducible refine gd_end ?_); refine rr_ctl hB rfl (fun _ => stepG_end) ?_))
      refine rr_any2 hB (Q := PickQ sc wc (.slice A1 la.length c1) (.slice A2 lb.length c2) vo la lb lo) (by k_ne) mixed hQ2 ?_ ?_
      · have hb0 : ((lb.length : Int) == 0) = false := by rw [beq_eq_false_iff_ne]; omega
        refine ⟨false, ?_⟩
        have hQ := hQ2 false
        clear ih hM
        co_applyP (anyX_take hB hQ (i := 0) rfl (by kernel_rfl) (by kernel_rfl) (by kernel_rfl) (.inl ⟨by rfl, fun _ => ⟨run_eq_of ?run0g, ?ev0g⟩⟩) ?go0g)
        case run0g => intro K hK; go_simp; exact hK
        case ev0g => simp [go_sem, *]
        try walk_nrm
        co_applyP (anyX_take hB hQ (i := 1) rfl (by kernel_rfl) (by kernel_rfl) (by kernel_rfl) (.inl ⟨by rfl, fun _ => ⟨run_eq_of ?run1g, ?ev1g⟩⟩) ?go1g)
        case run1g => intro K hK; go_simp; exact hK
        case ev1g => simp [go_sem, *]
        try walk_nrm
        co_applyP (anyX_take hB hQ (i := 2) rfl (by kernel_rfl) (by kernel_rfl) (by kernel_rfl) (.inl ⟨by rfl, fun _ => ⟨run_eq_of ?run2g, ?ev2g⟩⟩) ?go2g)
        case run2g => intro K hK; go_simp; exact hK
        case ev2g => simp [go_sem, *]
        try walk_nrm
        co_applyP (anyX_take hB hQ (i := 3) rfl (by kernel_rfl) (by kernel_rfl) (by kernel_rfl) (.inl ⟨by rfl, fun _ => ⟨run_eq_of ?run3g, ?ev3g⟩⟩) ?go3g)
        case run3g => intro K hK; go_simp; exact hK
        case ev3g => simp [go_sem, *]
        try walk_nrm
        co_applyP (anyX_take hB hQ (i := 4) rfl (by kernel_rfl) (by kernel_rfl) (by kernel_rfl) (.inl ⟨by rfl, fun _ => ⟨run_eq_of ?run4g, ?ev4g⟩⟩) ?go4g)
        case run4g => intro K hK; go_simp; exact hK
        case ev4g => simp [go_sem, *]
        try walk_nrm
        co_applyP (anyX_take hB hQ (i := 5) rfl (by kernel_rfl) (by kernel_rfl) (by kernel_rfl) (.inl ⟨by rfl, fun _ => ⟨run_eq_of ?run5g, ?ev5g⟩⟩) ?go5g)
        case run5g => intro K hK; go_simp; exact hK
        case ev5g => simp [go_sem, *]
        try walk_nrm
        co_applyP (anyX_take hB hQ (i := 6) rfl (by kernel_rfl) (by kernel_rfl) (by kernel_rfl) (.inl ⟨by rfl, fun _ => ⟨run_eq_of ?run6g, ?ev6g⟩⟩) ?go6g)
        case run6g => intro K hK; go_simp; exact hK
        case ev6g => simp [go_sem, *]
        try walk_nrm
        co_applyP (anyX_take hB hQ (i := 7) rfl (by kernel_rfl) (by kernel_rfl) (by kernel_rfl) (.inl ⟨by rfl, fun _ => ⟨run_eq_of ?run7g, ?ev7g⟩⟩) ?go7g)
        case run7g => intro K hK; go_simp; exact hK
        case ev7g => simp [go_sem, *]
        try walk_nrm
        co_applyP (anyX_take hB hQ (i := 8) rfl (by kernel_rfl) (by kernel_rfl) (by kernel_rfl) (.inr ⟨by rfl, rfl⟩) ?go8g)
        try walk_nrm
        co_applyP (anyX_take hB hQ (i := 9) rfl (by kernel_rfl) (by kernel_rfl) (by kernel_rfl) (.inr ⟨by rfl, rfl⟩) ?go9g)
        try walk_nrm
        co_applyP (anyX_take hB hQ (i := 10) rfl (by kernel_rfl) (by kernel_rfl) (by kernel_rfl) (.inr ⟨by rfl, rfl⟩) ?go10g)
        try walk_nrm
        co_applyP (anyX_take hB hQ (i := 11) rfl (by kernel_rfl) (by kernel_rfl) (by kernel_rfl) (.inr ⟨by rfl, rfl⟩) ?go11g)
        try walk_nrm
        co_applyP (anyX_take hB hQ (i := 12) rfl (by kernel_rfl) (by kernel_rfl) (by kernel_rfl) (.inr ⟨by rfl, rfl⟩) ?go12g)
        try walk_nrm
        co_applyP (anyX_take hB hQ (i := 13) rfl (by kernel_rfl) (by kernel_rfl) (by kernel_rfl) (.inr ⟨by rfl, rfl⟩) ?go13g)
        try walk_nrm
        co_applyP (anyX_take hB hQ (i := 14) rfl (by kernel_rfl) (by kernel_rfl) (by kernel_rfl) (.inr ⟨by rfl, rfl⟩) ?go14g)
        try walk_nrm
        co_applyP (anyX_take hB hQ (i := 15) rfl (by kernel_rfl) (by kernel_rfl) (by kernel_rfl) (.inl ⟨by rfl, fun _ => ⟨run_eq_of ?run15g, ?ev15g⟩⟩) ?go15g)
        case run15g => intro K hK; go_simp; exact hK
        case ev15g => simp [go_sem, *]
        try walk_nrm
        co_applyP (anyX_take hB hQ (i := 16) rfl (by kernel_rfl) (by kernel_rfl) (by kernel_rfl) (.inl ⟨by rfl, fun _ => ⟨run_eq_of ?run16g, ?ev16g⟩⟩) ?go16g)
        case run16g => intro K hK; go_simp; exact hK
        case ev16g => simp [go_sem, *]
        try walk_nrm
        exact anyX_done (by kernel_rfl) ⟨⟨_, rfl, rfl, rfl, rfl, rfl, rfl⟩, fun e => (by cases e), fun _ => ⟨h4, fun z hz => by rw [h3n.out] at hz; cases hz⟩, hF⟩ _
      · clear hF
        rintro e _ s w ⟨⟨T, rfl, hT, t3, t4, t5, t49⟩, he1, he2, hF⟩
        obtain ⟨T⟩ := T
        ((iterate 67 (rcases T with _ | ⟨_, T⟩; focus (simp at hT))); rcases T with _ | ⟨_, _⟩; rotate_left; focus (simp at hT))
        simp only [List.getElem?_toArray, List.getElem?_cons_succ, List.getElem?_cons_zero, Option.some.injEq] at t3 t4 t5 t49
        subst t3 t4 t5 t49
        cases e with
        | true =>
          obtain ⟨hp, hx⟩ := he1 rfl
          exact absurd hp h3
        | false =>
          obtain ⟨hp, hx⟩ := he2 rfl
          clear he1 he2
          replace hM := hM.right' hp hx
          clear hx
          obtain ⟨b, o, hA, hrd⟩ := nb.at hp
          simp only [Nat.add_zero] at hrd
          have hp1 : (0 : Int) ≤ 0 ∧ (0 : Int) < (lb.length : Int) := ⟨by omega, by omega⟩
          have hp2 : (1 : Int) ≤ (lb.length : Int) := by omega
          subst hA
          have hdr := nb.drop (m := 1) (by omega) (A' := if c2 = 1 then some ⟨b, o, none⟩ else some ⟨b, o + 1, none⟩) (fun hm => by rw [if_neg (by omega), Option.map_some, Addr.add_lit])
          have hev := fun w es => events_sliceAt_l (P := Try.prog) (w := w) (es := es) 23 (some ⟨b, o, none⟩) lb.length c2 .i64 1 (by rw [Try.underlying23]; kernel_rfl) (by decide) hp2
          replace hrd := Hid.mk hrd
          repeat (first | ((with_reducible refine gd_op ?_); first | (refine rr_pure' hB rfl (by rfl) (by k_ne) (by rfl) (fun w₁ => by first | (simp [go_sem]; done) | simp [go_sem, *]) (fun w₁ K hK => ?_); go_simp; refine hK _ ?_; clear hK K w₁; try walk_nrm) | (refine rr_ctl hB rfl (fun _ => stepG_unwanted rfl rfl) ?_; try walk_nrm)) | ((with_reducible refine gd_rend ?_); (refine rr_regend hB hKr ?_; clear hKr Kr)) | ((with_reducible refine gd_seq ?_); refine rr_ctl hB rfl (fun _ => stepG_seq) ?_) | ((with_reducible refine gd_reg ?_); (refine rr_reg hB (fun Kr hKr => ?_); simp only [List.size_toArray, List.length_cons, List.length_nil, Nat.reduceAdd, Nat.zero_add, List.range, List.range.loop])) | ((with_reducible refine gd_skip ?_); refine rr_ctl hB rfl (fun _ => stepG_skip) ?_) | ((with_reducible refine gd_block ?_); refine rr_ctl hB rfl (fun _ => stepG_block) ?_) | ((with_reducible refine gd_inb ?_); refine rr_ctl hB rfl (fun _ => stepG_inBlock) ?_) | ((with_reducible refine gd_ret ?_); refine rr_ctl hB rfl (fun _ => stepG_ret') ?_) | ((with_reducible refine gd_exit ?_); refine rr_ctl hB rfl (fun _ => stepG_exit rfl) ?_) | ((with_reducible refine gd_end ?_); refine rr_ctl hB rfl (fun _ => stepG_end) ?_))
          (refine rr_ctl hB rfl (fun _ => stepG_cond (t := false) (by first | rfl | (simp [Act.eval, *]))) ?_; simp only [if_true, if_false, Bool.false_eq_true, ↓reduceIte])
          repeat (first | ((with_reducible refine gd_op ?_); first | (refine rr_pure' hB rfl (by rfl) (by k_ne) (by rfl) (fun w₁ => by first | (simp [go_sem]; done) | simp [go_sem, *]) (fun w₁ K hK => ?_); go_simp; refine hK _ ?_; clear hK K w₁; try walk_nrm) | (refine rr_ctl hB rfl (fun _ => stepG_unwanted rfl rfl) ?_; try walk_nrm)) | ((with_reducible refine gd_rend ?_); (refine rr_regend hB hKr ?_; clear hKr Kr)) | ((with_reducible refine gd_seq ?_); refine rr_ctl hB rfl (fun _ => stepG_seq) ?_) | ((with_reducible refine gd_reg ?_); (refine rr_reg hB (fun Kr hKr => ?_); simp only [List.size_toArray, List.length_cons, List.length_nil, Nat.reduceAdd, Nat.zero_add, List.range, List.range.loop])) | ((with_reducible refine gd_skip ?_); refine rr_ctl hB rfl (fun _ => stepG_skip) ?_) | ((with_reducible refine gd_block ?_); refine rr_ctl hB rfl (fun _ => stepG_block) ?_) | ((with_reducible refine gd_inb ?_); refine rr_ctl hB rfl (fun _ => stepG_inBlock) ?_) | ((with_reducible refine gd_ret ?_); refine rr_ctl hB rfl (fun _ => stepG_ret') ?_) | ((with_reducible refine gd_exit ?_); refine rr_ctl hB rfl (fun _ => stepG_exit rfl) ?_) | ((with_reducible refine gd_end ?_); refine rr_ctl hB rfl (fun _ => stepG_end) ?_))
          (refine rr_oper rfl (by rfl) (by k_ne) (fun s₁ w₁ hR hI K hK => ?_); replace hF := (Acc.rely hB) hF hR; clear hR; have := (hrd.out.rely hF.rl).1; go_simp; refine hK _ _ ⟨s₁, mv_rd (.inl rfl) (fun e he => ?_), .refl _, ?_⟩; (focus (have hm := mem_listed he; simp [go_sem, *] at hm; (subst hm; exact ⟨_, rfl, (hrd.out.rely hF.rl).2.1, (hrd.out.rely hF.rl).2.2⟩))); clear hK K; try walk_nrm)
          repeat (first | ((with_reducible refine gd_op ?_); first | (refine rr_pure' hB rfl (by rfl) (by k_ne) (by rfl) (fun w₁ => by first | (simp [go_sem]; done) | simp [go_sem, *]) (fun w₁ K hK => ?_); go_simp; refine hK _ ?_; clear hK K w₁; try walk_nrm) | (refine rr_ctl hB rfl (fun _ => stepG_unwanted rfl rfl) ?_; try walk_nrm)) | ((with_reducible refine gd_rend ?_); (refine rr_regend hB hKr ?_; clear hKr Kr)) | ((with_reducible refine gd_seq ?_); refine rr_ctl hB rfl (fun _ => stepG_seq) ?_) | ((with_reducible refine gd_reg ?_); (refine rr_reg hB (fun Kr hKr => ?_); simp only [List.size_toArray, List.length_cons, List.length_nil, Nat.reduceAdd, Nat.zero_add, List.range, List.range.loop])) | ((with_reducible refine gd_skip ?_); refine rr_ctl hB rfl (fun _ => stepG_skip) ?_) | ((with_reducible refine gd_block ?_); refine rr_ctl hB rfl (fun _ => stepG_block) ?_) | ((with_reducible refine gd_inb ?_); refine rr_ctl hB rfl (fun _ => stepG_inBlock) ?_) | ((with_reducible refine gd_ret ?_); refine rr_ctl hB rfl (fun _ => stepG_ret') ?_) | ((with_reducible refine gd_exit ?_); refine rr_ctl hB rfl (fun _ => stepG_exit rfl) ?_) | ((with_reducible refine gd_end ?_); refine rr_ctl hB rfl (fun _ => stepG_end) ?_))
          refine rr_push hB (sx := .tmp 58) (y := lb[0]) hF rfl (by rfl) (by k_ne) rfl (fun w => by simp [go_sem]) (fun w => by simp [go_sem]) rfl rfl rfl (by simp) (fun _ => rfl) hlo ?_
          clear hF
          rintro N v' s w hF
          walk_nrm
          repeat (first | ((with_reducible refine gd_op ?_); first | (refine rr_pure' hB rfl (by rfl) (by k_ne) (by rfl) (fun w₁ => by first | (simp [go_sem]; done) | simp [go_sem, *]) (fun w₁ K hK => ?_); go_simp; refine hK _ ?_; clear hK K w₁; try walk_nrm) | (refine rr_ctl hB rfl (fun _ => stepG_unwanted rfl rfl) ?_; try walk_nrm)) | ((with_reducible refine gd_rend ?_); (refine rr_regend hB hKr ?_; clear hKr Kr)) | ((with_reducible refine gd_seq ?_); refine rr_ctl hB rfl (fun _ => stepG_seq) ?_) | ((with_reducible refine gd_reg ?_); (refine rr_reg hB (fun Kr hKr => ?_); simp only [List.size_toArray, List.length_cons, List.length_nil, Nat.reduceAdd, Nat.zero_add, List.range, List.range.loop])) | ((with_reducible refine gd_skip ?_); refine rr_ctl hB rfl (fun _ => stepG_skip) ?_) | ((with_reducible refine gd_block ?_); refine rr_ctl hB rfl (fun _ => stepG_block) ?_) | ((with_reducible refine gd_inb ?_); refine rr_ctl hB rfl (fun _ => stepG_inBlock) ?_) | ((with_reducible refine gd_ret ?_); refine rr_ctl hB rfl (fun _ => stepG_ret') ?_) | ((with_reducible refine gd_exit ?_); refine rr_ctl hB rfl (fun _ => stepG_exit rfl) ?_) | ((with_reducible refine gd_end ?_); refine rr_ctl hB rfl (fun _ => stepG_end) ?_))
          refine rr_ctl hB rfl (fun _ => stepG_inLoop) ?_
          exact ih (la.length + (lb.drop 1).length) _ _ _ (by rw [List.length_drop]; omega) ⟨_, _, _, _, la, lb.drop 1, lo ++ [lb[0]], rfl, rfl, rfl, rfl, rfl, rfl, na, hdr, hM, hF⟩
    · have h4' : ¬ (0 : Int) < (lb.length : Int) := by omega
      have h4n : Hid (lb = []) := ⟨List.eq_nil_of_length_eq_zero (by omega)⟩
      repeat (first | ((with_reducible refine gd_op ?_); first | (refine rr_pure' hB rfl (by rfl) (by k_ne) (by rfl) (fun w₁ => by first | (simp [go_sem]; done) | simp [go_sem, *]) (fun w₁ K hK => ?_); go_simp; refine hK _ ?_; clear hK K w₁; try walk_nrm) | (refine rr_ctl hB rfl (fun _ => stepG_unwanted rfl rfl) ?_; try walk_nrm)) | ((with_reducible refine gd_rend ?_); (refine rr_regend hB hKr ?_; clear hKr Kr)) | ((with_reducible refine gd_seq ?_); refine rr_ctl hB rfl (fun _ => stepG_seq) ?_) | ((with_reducible refine gd_reg ?_); (refine rr_reg hB (fun Kr hKr => ?_); simp only [List.size_toArray, List.length_cons, List.length_nil, Nat.reduceAdd, Nat.zero_add, List.range, List.range.loop])) | ((with_reducible refine gd_skip ?_); refine rr_ctl hB rfl (fun _ => stepG_skip) ?_) | ((with_reducible refine gd_block ?_); refine rr_ctl hB rfl (fun _ => stepG_block) ?_) | ((with_reducible refine gd_inb ?_); refine rr_ctl hB rfl (fun _ => stepG_inBlock) ?_) | ((with_reducible refine gd_ret ?_); refine rr_ctl hB rfl (fun _ => stepG_ret') ?_) | ((with_reducible refine gd_exit ?_); refine rr_ctl hB rfl (fun _ => stepG_exit rfl) ?_) | ((with_reducible refine gd_end ?_); refine rr_ctl hB rfl (fun _ => stepG_end) ?_))
      (refine rr_ctl hB rfl (fun _ => stepG_cond (t := false) (by first | rfl | (simp [Act.eval, *]))) ?_; simp only [if_true, if_false, Bool.false_eq_true, ↓reduceIte])
      repeat (first | ((with_reducible refine gd_op ?_); first | (refine rr_pure' hB rfl (by rfl) (by k_ne) (by rfl) (fun w₁ => by first | (simp [go_sem]; done) | simp [go_sem, *]) (fun w₁ K hK => ?_); go_simp; refine hK _ ?_; clear hK K w₁; try walk_nrm) | (refine rr_ctl hB rfl (fun _ => stepG_unwanted rfl rfl) ?_; try walk_nrm)) | ((with_reducible refine gd_rend ?_); (refine rr_regend hB hKr ?_; clear hKr Kr)) | ((with_reducible refine gd_seq ?_); refine rr_ctl hB rfl (fun _ => stepG_seq) ?_) | ((with_reducible refine gd_reg ?_); (refine rr_reg hB (fun Kr hKr => ?_); simp only [List.size_toArray, List.length_cons, List.length_nil, Nat.reduceAdd, Nat.zero_add, List.range, List.range.loop])) | ((with_reducible refine gd_skip ?_); refine rr_ctl hB rfl (fun _ => stepG_skip) ?_) | ((with_reducible refine gd_block ?_); refine rr_ctl hB rfl (fun _ => stepG_block) ?_) | ((with_reducible refine gd_inb ?_); refine rr_ctl hB rfl (fun _ => stepG_inBlock) ?_) | ((with_reducible refine gd_ret ?_); refine rr_ctl hB rfl (fun _ => stepG_ret') ?_) | ((with_reducible refine gd_exit ?_); refine rr_ctl hB rfl (fun _ => stepG_exit rfl) ?_) | ((with_reducible refine gd_end ?_); refine rr_ctl hB rfl (fun _ => stepG_end) ?_))
      (refine rr_leave hB rfl rfl Try.func19 (fun w => ⟨results_tmp rfl _ _ w, events_results_tmp rfl _ _⟩) ?_)
      refine hret _ _ _ lo hF ?_ hM.so
      have := hM.pm
      rw [h3n.out, h4n.out] at this
      simpa using this
end
end Go.Proofs.Ytbamamkjmfkghaa.Crw
