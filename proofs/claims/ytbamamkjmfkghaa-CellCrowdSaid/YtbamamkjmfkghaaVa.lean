/- A crowd of goroutines under a protocol of one's own: a starter (number 0), workers that it starts; the starter may be parked. 'Proto': a ghost state, an invariant over ghost, world and trace, each one's rely, what each step may do. 'Runs': a goroutine behaves to its end. The machine's theorem: the run ends by the starter's return, the trace is clean, all others only leave.
No condition. -/
import Derived.Conc.Beside
import Derived.Conc.CrowdTrace
import Derived.Conc.CrowdBase
set_option linter.unusedSimpArgs false
set_option linter.unusedVariables false
namespace Go.Proofs.Ytbamamkjmfkghaa.Crw
open Go Go.Conc
set_option linter.unusedVariables false

structure Proto (P : Program) where
  S : Type
  num : S → Nat
  ended : S → Nat → Prop
  I : S → World → Trace → Prop
  R : Nat → S → World → S → World → Prop
  G : Nat → S → World → S → World → Array Event → Prop
  GS : S → World → S → World → Array Event → Prop
  GE : S → World → Array Event → Prop
  Blk : S → World → Prop
  Post : Value → World → Prop

/-- The two rows of the trace that a go statement lays. -/
def goOps (fn fn' : FuncId) (pos : String) (es : Array Event) (c : Nat) : Trace :=
  (MemOp.ofEvents 0 fn pos es).push { g := 0, fn, pos, act := .go c } |>.push { g := c, fn := fn', pos, act := .start }

structure Proto.Laws {P : Program} (A : Proto P) : Prop where
  refl : ∀ k s w, A.R k s w s w
  trans : ∀ {k s w s₁ w₁ s₂ w₂}, A.R k s w s₁ w₁ → A.R k s₁ w₁ s₂ w₂ → A.R k s w s₂ w₂
  drawI : ∀ {s w t} (d), A.I s w t → A.I s (w.at d) t
  drawR : ∀ k s w d, A.R k s w s (w.at d)
  drawB : ∀ {s w} (d), A.Blk s w → A.Blk s (w.at d)
  step : ∀ {k s w s' w' es t}, A.I s w t → k < A.num s → ¬ A.ended s k → A.G k s w s' w' es →
    (∀ fn pos, A.I s' w' (t ++ MemOp.ofEvents k fn pos es)) ∧ A.num s' = A.num s ∧ ∀ i, i < A.num s → i ≠ k → (¬ A.ended s i → A.R i s w s' w') ∧ (A.ended s' i ↔ A.ended s i)
  leave : ∀ {i s w t es}, A.I s w t → 1 ≤ i → i < A.num s → A.ended s i → (∀ e ∈ es, Event.mute e = true) → ∀ fn pos, A.I s w (t ++ MemOp.ofEvents i fn pos es)
  spawn : ∀ {s w s' w' es t}, A.I s w t → A.GS s w s' w' es →
    (∀ fn fn' pos, A.I s' w' (t ++ goOps fn fn' pos es (A.num s))) ∧ A.num s' = A.num s + 1 ∧ ¬ A.ended s' (A.num s) ∧ ∀ i, 1 ≤ i → i < A.num s → (¬ A.ended s i → A.R i s w s' w') ∧ (A.ended s' i ↔ A.ended s i)
  alive : ∀ {s w t}, A.I s w t → A.Blk s w → ∃ i, 1 ≤ i ∧ i < A.num s ∧ ¬ A.ended s i
  fin : ∀ {s w t es}, A.I s w t → A.GE s w es → ∀ fn pos, (∀ said, ¬ Race said (t ++ MemOp.ofEvents 0 fn pos es)) ∧ (t ++ MemOp.ofEvents 0 fn pos es).HandedOver ∧ ∀ i, 1 ≤ i → i < A.num s → A.ended s i
  zero : ∀ {s w t}, A.I s w t → 0 < A.num s ∧ ¬ A.ended s 0 ∧ ∀ k, A.num s ≤ k → Deaf t k = 0

section
variable {P : Program} (A : Proto P)
abbrev Sit := Goroutine → A.S → World → Prop
variable (Child : Sit A) (k : Nat)

/-- What the next step of goroutine k, at g, must be. -/
def StepOk (C : Sit A) (g : Goroutine) (s : A.S) (w : World) (t : Trace) : Prop :=
  (∃ g' w' es s', stepG P (k == 0) g w = .go g' w' es ∧ A.G k s w s' w' es ∧ ((A.Blk s w → A.Blk s' w') ∨ (mayWake P g = true ∧ g'.status = .running)) ∧
    ((A.ended s' k ∧ ∃ q, QuitsD P q (deafBehind (Deaf t k) es) g') ∨ (¬ A.ended s' k ∧ C g' s' w'))) ∨
  (k = 0 ∧ ∃ g' child w' es s', stepG P true g w = .spawn g' child w' es ∧ A.GS s w s' w' es ∧ C g' s' w' ∧ Child child s' w') ∨
  (k = 0 ∧ stepG P true g w = .go { g with status := .blocked } w #[] ∧ g.offers = none ∧ A.Blk s w) ∨
  (k = 0 ∧ ∃ v w' es, stepG P true g w = .ended (.done v) w' es ∧ A.GE s w es ∧ A.Post v w')

def Phi (C : Sit A) : Sit A := fun g s w => g.status = .running ∧ ∀ s₁ w₁ t₁, A.R k s w s₁ w₁ → A.I s₁ w₁ t₁ → k < A.num s₁ → ¬ A.ended s₁ k → StepOk A Child k C g s₁ w₁ t₁

/-- Goroutine k behaves to its end. -/
def Runs : Sit A := fun g s w => ∀ C : Sit A, (∀ g s w, Phi A Child k C g s w → C g s w) → C g s w

variable {A Child k}
theorem StepOk.mono {C C' : Sit A} (h : ∀ g s w, C g s w → C' g s w) {g : Goroutine} {s : A.S} {w : World} {t : Trace} (hs : StepOk A Child k C g s w t) : StepOk A Child k C' g s w t := by
  rcases hs with ⟨g', w', es, s', h1, h2, h3, h4⟩ | ⟨h0, g', c, w', es, s', h1, h2, h3, h4⟩ | h1 | h1
  · exact .inl ⟨g', w', es, s', h1, h2, h3, h4.imp id fun x => ⟨x.1, h _ _ _ x.2⟩⟩
  · exact .inr (.inl ⟨h0, g', c, w', es, s', h1, h2, h _ _ _ h3, h4⟩)
  · exact .inr (.inr (.inl h1))
  · exact .inr (.inr (.inr h1))

theorem Runs.fold {g : Goroutine} {s : A.S} {w : World} (h : Phi A Child k (Runs A Child k) g s w) : Runs A Child k g s w :=
  fun C hC => hC _ _ _ ⟨h.1, fun s₁ w₁ t₁ h1 h2 h3 h4 => (h.2 s₁ w₁ t₁ h1 h2 h3 h4).mono fun _ _ _ hr => hr C hC⟩

/-- One step. -/
theorem Runs.mk {g : Goroutine} {s : A.S} {w : World} (hg : g.status = .running) (h : ∀ s₁ w₁ t₁, A.R k s w s₁ w₁ → A.I s₁ w₁ t₁ → k < A.num s₁ → ¬ A.ended s₁ k → StepOk A Child k (Runs A Child k) g s₁ w₁ t₁) : Runs A Child k g s w :=
  .fold ⟨hg, h⟩

theorem Runs.unfold {g : Goroutine} {s : A.S} {w : World} (h : Runs A Child k g s w) : Phi A Child k (Runs A Child k) g s w :=
  h (Phi A Child k (Runs A Child k)) fun _ _ _ hp => ⟨hp.1, fun s₁ w₁ t₁ h1 h2 h3 h4 => (hp.2 s₁ w₁ t₁ h1 h2 h3 h4).mono fun _ _ _ hr => .fold hr⟩

theorem Runs.rely (L : A.Laws) {g : Goroutine} {s s₁ : A.S} {w w₁ : World} (h : Runs A Child k g s w) (r : A.R k s w s₁ w₁) : Runs A Child k g s₁ w₁ :=
  have hu := h.unfold
  .fold ⟨hu.1, fun s₂ w₂ t₂ h1 h2 h3 h4 => hu.2 s₂ w₂ t₂ (L.trans r h1) h2 h3 h4⟩

/-! ### ranks -/
inductive Rk (α : Type) where
  | leaf
  | node (f : α → Rk α)
def Rk.lt {α : Type} (r' r : Rk α) : Prop := match r with | .leaf => False | .node f => ∃ a, r' = f a
theorem Rk.acc {α : Type} (r : Rk α) : Acc Rk.lt r := by
  induction r with
  | leaf => exact ⟨_, fun r' h => h.elim⟩
  | node f ih => exact ⟨_, fun r' ⟨a, e⟩ => e ▸ ih a⟩
theorem Rk.wf (α : Type) : WellFounded (Rk.lt (α := α)) := ⟨Rk.acc⟩

variable (A Child k)
abbrev Pl := Goroutine × A.S × World
def RunsR : Rk (Pl A) → Sit A
  | .leaf => fun _ _ _ => False
  | .node f => Phi A Child k fun g s w => RunsR (f (g, s, w)) g s w
variable {A Child k}

theorem RunsR.of {g : Goroutine} {s : A.S} {w : World} (h : Runs A Child k g s w) : ∃ r, RunsR A Child k r g s w := by
  refine h (fun g s w => ∃ r, RunsR A Child k r g s w) fun g s w hp => ?_
  classical
  let f : Pl A → Rk (Pl A) := fun p => if h : ∃ r, RunsR A Child k r p.1 p.2.1 p.2.2 then h.choose else .leaf
  refine ⟨.node f, hp.1, fun s₁ w₁ t₁ h1 h2 h3 h4 => (hp.2 s₁ w₁ t₁ h1 h2 h3 h4).mono fun g' s' w' hx => ?_⟩
  have e : f (g', s', w') = hx.choose := by simp only [f]; rw [dif_pos hx]
  rw [e]
  exact hx.choose_spec

theorem RunsR.running {r : Rk (Pl A)} {g : Goroutine} {s : A.S} {w : World} (h : RunsR A Child k r g s w) : g.status = .running := by
  cases r with
  | leaf => exact h.elim
  | node f => exact h.1

theorem RunsR.rely (L : A.Laws) {r : Rk (Pl A)} {g : Goroutine} {s s₁ : A.S} {w w₁ : World} (h : RunsR A Child k r g s w) (x : A.R k s w s₁ w₁) : RunsR A Child k r g s₁ w₁ := by
  cases r with
  | leaf => exact h.elim
  | node f => exact ⟨h.1, fun s₂ w₂ t₂ h1 h2 h3 h4 => h.2 s₂ w₂ t₂ (L.trans x h1) h2 h3 h4⟩

/-- The step that a ranked goroutine takes. -/
theorem RunsR.step (L : A.Laws) {r : Rk (Pl A)} {g : Goroutine} {s : A.S} {w : World} {t : Trace} (h : RunsR A Child k r g s w) (hI : A.I s w t) (hk : k < A.num s) (hne : ¬ A.ended s k) :
    StepOk A Child k (fun g' s' w' => ∃ r', Rk.lt r' r ∧ RunsR A Child k r' g' s' w') g s w t := by
  cases r with
  | leaf => exact h.elim
  | node f => exact (h.2 s w t (L.refl _ _ _) hI hk hne).mono fun g' s' w' hr => ⟨_, ⟨(g', s', w'), rfl⟩, hr⟩
end

/-! ### measures -/
inductive One {α : Type} (r : α → α → Prop) : List α → List α → Prop
  | head {a b l} : r a b → One r (a :: l) (b :: l)
  | tail {a l l'} : One r l l' → One r (a :: l) (a :: l')
theorem One.acc_cons {α : Type} {r : α → α → Prop} {a : α} (ha : Acc r a) : ∀ {l : List α}, Acc (One r) l → Acc (One r) (a :: l) := by
  induction ha with
  | intro a _ iha =>
    intro l hl
    induction hl with
    | intro l hl0 ihl =>
      refine ⟨_, fun y hy => ?_⟩
      cases hy with
      | head h => exact iha _ h ⟨l, hl0⟩
      | tail h => exact ihl _ h
theorem One.wf {α : Type} {r : α → α → Prop} (h : WellFounded r) : WellFounded (One r) :=
  ⟨fun l => by
    induction l with
    | nil => exact ⟨_, fun y hy => by cases hy⟩
    | cons a l ih => exact One.acc_cons (h.apply a) ih⟩
theorem One.set {α : Type} {r : α → α → Prop} {l : List α} {i : Nat} {a b : α} (hi : l[i]? = some b) (h : r a b) : One r (l.set i a) l := by
  induction l generalizing i with
  | nil => simp at hi
  | cons c l ih =>
    cases i with
    | zero => simp at hi; subst hi; exact .head h
    | succ i => exact .tail (ih (by simpa using hi))

section
variable {P : Program} (A : Proto P)
abbrev WM := Nat ⊕ Rk (Pl A)
def wlt : WM A → WM A → Prop := Sum.Lex (· < ·) Rk.lt
abbrev Ms := Rk (Pl A) × (List (WM A) × Nat)
def mlt : Ms A → Ms A → Prop := Prod.Lex Rk.lt (Prod.Lex (One (wlt A)) (· < ·))
theorem mlt_wf : WellFounded (mlt A) := (Prod.lex ⟨Rk.lt, Rk.wf _⟩ ⟨_, (Prod.lex ⟨One (wlt A), One.wf (Sum.lex_wf Nat.lt_wfRel.wf (Rk.wf _))⟩ ⟨_, Nat.lt_wfRel.wf⟩).wf⟩).wf

/-- A worker does not start goroutines. -/
abbrev RunsW (k : Nat) : Sit A := Runs A (fun _ _ _ => False) k
/-- A child that is born: number 'num s - 1'. -/
def Born : Sit A := fun c s w => RunsW A (A.num s - 1) c s w
abbrev Runs0 : Sit A := Runs A (Born A) 0

def WSit (k : Nat) (g : Goroutine) (s : A.S) (w : World) (t : Trace) : WM A → Prop
  | .inr r => ¬ A.ended s k ∧ RunsR A (fun _ _ _ => False) k r g s w
  | .inl q => A.ended s k ∧ QuitsD P q (Deaf t k) g

/-- The starter's record and its situation; 1 where it runs, 0 where it is parked. -/
def Sit0 (r : Rk (Pl A)) (a : Goroutine) (s : A.S) (w : World) (f : Nat) : Prop :=
  (RunsR A (Born A) 0 r a s w ∧ f = 1) ∨ (∃ g, a = { g with status := .blocked } ∧ RunsR A (Born A) 0 r g s w ∧ g.offers = none ∧ A.Blk s w ∧ f = 0)

def Inv (μ : Ms A) (m : Machine) (t : Trace) : Prop :=
  ∃ gs w sl s a, m = crowd gs w sl ∧ A.I s w t ∧ gs.size = A.num s ∧ μ.2.1.length + 1 = gs.size ∧ gs[0]? = some a ∧ Sit0 A μ.1 a s w μ.2.2 ∧
    ∀ i x, μ.2.1[i]? = some x → ∃ g, gs[i + 1]? = some g ∧ WSit A (i + 1) g s w t x

variable {A}
theorem WSit.status {k : Nat} {g : Goroutine} {s : A.S} {w : World} {t : Trace} {x : WM A} (h : WSit A k g s w t x) : g.status = .running ∨ g.status = .finished := by
  cases x with
  | inr r => exact .inl h.2.running
  | inl q => exact h.2.status
theorem WSit.woken {k : Nat} {g a a' : Goroutine} {s : A.S} {w w' : World} {t : Trace} {x : WM A} (h : WSit A k g s w t x) : woken P a a' w' g = g := by
  unfold Go.Conc.woken
  split
  · exact again_running _ h.status
  · rfl
/-- Another's step. -/
theorem WSit.other (L : A.Laws) {k : Nat} {g : Goroutine} {s s' : A.S} {w w' : World} {t t' : Trace} {x : WM A} (h : WSit A k g s w t x) (hr : ¬ A.ended s k → A.R k s w s' w') (he : A.ended s' k ↔ A.ended s k) (hd : Deaf t' k = Deaf t k) : WSit A k g s' w' t' x := by
  cases x with
  | inr r => exact ⟨fun e => h.1 (he.1 e), h.2.rely L (hr h.1)⟩
  | inl q => exact ⟨he.2 h.1, by rw [hd]; exact h.2⟩
theorem Sit0.status {r : Rk (Pl A)} {a : Goroutine} {s : A.S} {w : World} {f : Nat} (h : Sit0 A r a s w f) : a.status = .running ∨ a.status = .blocked := by
  rcases h with h | ⟨g, rfl, _⟩
  · exact .inl h.1.running
  · exact .inr rfl
/-- A worker's step, seen by the starter. -/
theorem Sit0.woken (L : A.Laws) {r : Rk (Pl A)} {a g g' : Goroutine} {s s' : A.S} {w w' : World} {f : Nat} (h : Sit0 A r a s w f) (hr : A.R 0 s w s' w')
    (hb : (A.Blk s w → A.Blk s' w') ∨ (mayWake P g = true ∧ g'.status = .running)) : ∃ f', Sit0 A r (woken P g g' w' a) s' w' f' := by
  rcases h with ⟨h, _⟩ | ⟨g0, rfl, h1, h2, h3, _⟩
  · refine ⟨1, .inl ⟨?_, rfl⟩⟩
    have : Go.Conc.woken P g g' w' a = a := by
      unfold Go.Conc.woken
      split
      · exact again_running _ (.inl h.running)
      · rfl
    rw [this]
    exact h.rely L hr
  · by_cases hm : (mayWake P g && g'.status != .blocked && g'.status != .waiting) = true
    · refine ⟨1, .inl ⟨?_, rfl⟩⟩
      have : Go.Conc.woken P g g' w' { g0 with status := .blocked } = g0 := by
        unfold Go.Conc.woken
        rw [if_pos hm]
        have := h1.running
        cases g0
        simp only at h2 this
        simp [Goroutine.again, h2, this]
      rw [this]
      exact h1.rely L hr
    · refine ⟨0, .inr ⟨g0, ?_, h1.rely L hr, h2, ?_, rfl⟩⟩
      · unfold Go.Conc.woken; rw [if_neg hm]
      · rcases hb with hb | ⟨hb1, hb2⟩
        · exact hb h3
        · exact absurd (by simp [hb1, hb2]) hm
theorem g_of_ofEvents0 {g : Nat} {fn : FuncId} {pos : String} {es : Array Event} {op : MemOp} (h : op ∈ MemOp.ofEvents g fn pos es) : op.g = g := by
  obtain ⟨e, _, rfl⟩ := Go.Conc.mem_ofEvents h
  rfl
theorem goOps_deaf (t : Trace) (fn fn' : FuncId) (pos : String) (es : Array Event) (c k : Nat) (h : k ≠ 0) : Deaf (t ++ goOps fn fn' pos es c) k = Deaf t k := by
  have e : t ++ goOps fn fn' pos es c = ((t ++ MemOp.ofEvents 0 fn pos es) ++ #[({ g := 0, fn, pos, act := .go c } : MemOp)]) ++ #[({ g := c, fn := fn', pos, act := .start } : MemOp)] := by
    apply Array.ext'; simp [goOps]
  rw [e, Deaf_push, Deaf_push, Deaf_other t (Ne.symm h) _ (fun op hop => g_of_ofEvents0 hop)]
  rfl
end
end Go.Proofs.Ytbamamkjmfkghaa.Crw
namespace Go.Proofs.Ytbamamkjmfkghaa.Crw
open Go Go.Conc
set_option linter.unusedVariables false
section
variable {P : Program} {A : Proto P}

theorem get_ms (gs : Array Goroutine) (f : Goroutine → Goroutine) (a : Nat) (x : Goroutine) (b : Nat) (hb : a ≠ b) : ((gs.map f).setIfInBounds a x)[b]? = (gs[b]?).map f := by
  rw [Array.getElem?_setIfInBounds_ne hb, Array.getElem?_map]
theorem get_ms_same (gs : Array Goroutine) (f : Goroutine → Goroutine) (a : Nat) (x : Goroutine) (ha : a < gs.size) : ((gs.map f).setIfInBounds a x)[a]? = some x := by simp [ha]

theorem ofEvents_none (g : Nat) (fn : FuncId) (pos : String) : MemOp.ofEvents g fn pos #[] = #[] := rfl

theorem step_starter (L : A.Laws) {μ : Ms A} {gs : Array Goroutine} {w w0 : World} {sl sl0 : Option (Nat × Nat)} {s : A.S} {a : Goroutine} {t : Trace}
    (hI : A.I s w t) (hn : gs.size = A.num s) (hlen : μ.2.1.length + 1 = gs.size) (h0 : gs[0]? = some a) (hS0 : Sit0 A μ.1 a s w μ.2.2)
    (hW : ∀ i x, μ.2.1[i]? = some x → ∃ g, gs[i + 1]? = some g ∧ WSit A (i + 1) g s w t x) (hg : a.status = .running) :
    (∃ o w' ops, runT P (crowd gs w sl) 0 = (.ended o w', ops) ∧ Good P A.Post (crowd gs w0 sl0) o w' (t ++ ops)) ∨
    (∃ m' ops μ', runT P (crowd gs w sl) 0 = (.next m', ops) ∧ mlt A μ' μ ∧ Inv A μ' m' (t ++ ops)) := by
  have hz := L.zero hI
  have hlt : 0 < gs.size := (Array.getElem?_eq_some_iff.1 h0).1
  have hr : RunsR A (Born A) 0 μ.1 a s w ∧ μ.2.2 = 1 := by
    rcases hS0 with h | ⟨g, rfl, _⟩
    · exact h
    · simp at hg
  rcases hr.1.step L hI hz.1 hz.2.1 with ⟨g', w', es, s', e1, e2, e3, e4⟩ | ⟨_, g', child, w', es, s', e1, e2, ⟨r', hlt', hr'⟩, e4⟩ | ⟨_, e1, e2, e3⟩ | ⟨_, v, w', es, e1, e2, e3⟩
  · obtain ⟨hI2, hnum, hoth⟩ := L.step hI hz.1 hz.2.1 e2
    have hI2 := hI2 a.frame.fn a.frame.place
    rcases e4 with ⟨e4, _⟩ | ⟨_, r', hlt', hr'⟩
    · exact absurd e4 (L.zero hI2).2.1
    have hrunT := runT_crowd_go (P := P) (sl := sl) (i := 0) h0 e1
    refine .inr ⟨_, _, (r', (μ.2.1, 1)), hrunT, .left _ _ hlt', _, w', sl, s', g', rfl, hI2, by rw [hnum]; simpa using hn, by simpa using hlen, get_ms_same _ _ _ _ hlt, .inl ⟨hr', rfl⟩, fun i x hx => ?_⟩
    obtain ⟨g, hgi, hw⟩ := hW i x hx
    refine ⟨g, ?_, hw.other L (hoth (i + 1) (hn ▸ (Array.getElem?_eq_some_iff.1 hgi).1) (by omega)).1 (hoth (i + 1) (hn ▸ (Array.getElem?_eq_some_iff.1 hgi).1) (by omega)).2 (Deaf_other t (by omega) _ fun op hop => g_of_ofEvents0 hop)⟩
    rw [get_ms _ _ _ _ _ (by omega), hgi, Option.map_some, hw.woken]
  · obtain ⟨hI2, hnum, hne, hoth⟩ := L.spawn hI e2
    have hI2 := hI2 a.frame.fn child.frame.fn a.frame.place
    have hrunT := runT_crowd_spawn (P := P) (sl := sl) (i := 0) h0 e1
    obtain ⟨rc, hc⟩ := RunsR.of (show RunsW A (A.num s' - 1) child s' w' from e4)
    rw [hnum, Nat.add_sub_cancel] at hc
    rw [← hn] at hI2
    refine .inr ⟨_, _, (r', (μ.2.1 ++ [.inr rc], 1)), hrunT, .left _ _ hlt', _, w', sl, s', g', rfl, hI2, by simp [hnum, hn], by simp [hlen], ?_, .inl ⟨hr', rfl⟩, fun i x hx => ?_⟩
    · rw [Array.getElem?_push_lt (by simpa using hlt)]; simp [hlt]
    · rcases Nat.lt_or_ge i μ.2.1.length with hi | hi
      · rw [List.getElem?_append_left hi] at hx
        obtain ⟨g, hgi, hw⟩ := hW i x hx
        have hb := hoth (i + 1) (by omega) (by omega)
        refine ⟨g, ?_, hw.other L hb.1 hb.2 (goOps_deaf _ _ _ _ _ _ _ (by omega))⟩
        rw [Array.getElem?_push_lt (by simp; omega), ← hgi, ← Array.getElem?_eq_getElem, Array.getElem?_setIfInBounds_ne (by omega)]
      · have hil : i = μ.2.1.length := by
          have := (List.getElem?_eq_some_iff.1 hx).1
          simp at this; omega
        subst hil
        simp at hx
        subst hx
        refine ⟨child, ?_, ?_, ?_⟩
        · have : μ.2.1.length + 1 = (gs.setIfInBounds 0 g').size := by simpa using hlen
          rw [this]; exact Array.getElem?_push_size
        · rw [hlen, hn]; exact hne
        · rw [hlen, hn]; exact hc
  · have hrunT := runT_crowd_go (P := P) (sl := sl) (i := 0) h0 e1
    rw [ofEvents_none] at hrunT
    have hid : woken P a { a with status := .blocked } w = id := by funext o; simp [woken]
    rw [hid] at hrunT
    refine .inr ⟨_, _, (μ.1, (μ.2.1, 0)), hrunT, ?_, _, w, sl, s, { a with status := .blocked }, rfl, by simpa using hI, by simpa using hn, by simpa using hlen, get_ms_same _ _ _ _ hlt, .inr ⟨a, rfl, hr.1, e2, e3, rfl⟩, fun i x hx => ?_⟩
    · obtain ⟨m1, m2, m3⟩ := μ
      have hm3 : m3 = 1 := hr.2
      subst hm3
      exact .right _ (.right _ (by decide))
    · obtain ⟨g, hgi, hw⟩ := hW i x hx
      refine ⟨g, ?_, by simpa using hw⟩
      rw [get_ms _ _ _ _ _ (by omega), hgi]; rfl
  · have hrunT := runT_many_ended (P := P) (sl := sl) (i := 0) h0 e1
    obtain ⟨f1, f2, f3⟩ := L.fin hI e2 a.frame.fn a.frame.place
    refine .inl ⟨_, _, _, hrunT, v, rfl, e3, f1, f2, ⟨fun x hx => ?_, rfl⟩, fun j x hx hj => ?_⟩
    · obtain ⟨j, hj⟩ := List.mem_iff_getElem?.1 hx
      rw [List.getElem?_drop] at hj
      have hj' : gs[j + 1]? = some x := by simpa [crowd, Nat.add_comm] using hj
      have hjl := (Array.getElem?_eq_some_iff.1 hj').1
      obtain ⟨g, hgi, hw⟩ := hW j _ (List.getElem?_eq_getElem (by omega))
      rw [hj'] at hgi; cases hgi
      revert hw
      cases μ.2.1[j] with
      | inr r => exact fun hw => absurd (f3 (j + 1) (by omega) (by omega)) hw.1
      | inl q => exact fun hw => ⟨q, hw.2.leaves⟩
    · obtain ⟨j, rfl⟩ : ∃ j', j = j' + 1 := ⟨j - 1, by omega⟩
      have hx' : gs[j + 1]? = some x := hx
      have hjl := (Array.getElem?_eq_some_iff.1 hx').1
      obtain ⟨g, hgi, hw⟩ := hW j _ (List.getElem?_eq_getElem (by omega))
      rw [hx'] at hgi; cases hgi
      have e : (t ++ MemOp.ofEvents 0 a.frame.fn a.frame.place es).deaf (j + 1) (t ++ MemOp.ofEvents 0 a.frame.fn a.frame.place es).size = Deaf t (j + 1) :=
        Deaf_other t (g := j + 1) (g' := 0) (by omega) _ (fun op hop => g_of_ofEvents0 hop)
      rw [e]
      revert hw
      cases μ.2.1[j] with
      | inr r => exact fun hw => absurd (f3 (j + 1) (by omega) (by omega)) hw.1
      | inl q => exact fun hw => ⟨q, hw.2.hears _⟩

theorem step_worker (L : A.Laws) {μ : Ms A} {gs : Array Goroutine} {w : World} {sl : Option (Nat × Nat)} {s : A.S} {a : Goroutine} {t : Trace}
    (hI : A.I s w t) (hn : gs.size = A.num s) (hlen : μ.2.1.length + 1 = gs.size) (h0 : gs[0]? = some a) (hS0 : Sit0 A μ.1 a s w μ.2.2)
    (hW : ∀ i x, μ.2.1[i]? = some x → ∃ g, gs[i + 1]? = some g ∧ WSit A (i + 1) g s w t x) {i : Nat} {g : Goroutine} (hgi : gs[i + 1]? = some g) (hg : g.status = .running) :
    ∃ m' ops μ', runT P (crowd gs w sl) (i + 1) = (.next m', ops) ∧ mlt A μ' μ ∧ Inv A μ' m' (t ++ ops) := by
  have hil := (Array.getElem?_eq_some_iff.1 hgi).1
  have hx : μ.2.1[i]? = some μ.2.1[i] := List.getElem?_eq_getElem (by omega)
  obtain ⟨g0, hg0, hw⟩ := hW i _ hx
  rw [hgi] at hg0; cases hg0
  have hz := L.zero hI
  -- one rule for both kinds of step
  have main : ∀ (g' : Goroutine) (w' : World) (es : Array Event) (s' : A.S) (x' : WM A), stepG P (i + 1 == 0) g w = .go g' w' es → A.I s' w' (t ++ MemOp.ofEvents (i + 1) g.frame.fn g.frame.place es) → A.num s' = A.num s →
      (∀ j, j < A.num s → j ≠ i + 1 → (¬ A.ended s j → A.R j s w s' w') ∧ (A.ended s' j ↔ A.ended s j)) → ((A.Blk s w → A.Blk s' w') ∨ (mayWake P g = true ∧ g'.status = .running)) →
      wlt A x' μ.2.1[i] → WSit A (i + 1) g' s' w' (t ++ MemOp.ofEvents (i + 1) g.frame.fn g.frame.place es) x' →
      ∃ m' ops μ', runT P (crowd gs w sl) (i + 1) = (.next m', ops) ∧ mlt A μ' μ ∧ Inv A μ' m' (t ++ ops) := by
    intro g' w' es s' x' e1 hI2 hnum hoth hb hlt hw'
    have hrunT := runT_crowd_go (P := P) (sl := sl) (i := i + 1) hgi e1
    obtain ⟨f', hS0'⟩ := hS0.woken (g := g) (g' := g') L ((hoth 0 hz.1 (by omega)).1 hz.2.1) hb
    refine ⟨_, _, (μ.1, (μ.2.1.set i x', f')), hrunT, ?_, _, w', sl, s', _, rfl, hI2, by rw [hnum]; simpa using hn, by simpa using hlen, ?_, hS0', fun j y hy => ?_⟩
    · obtain ⟨m1, m2, m3⟩ := μ
      exact .right _ (.left _ _ (One.set hx hlt))
    · rw [get_ms _ _ _ _ _ (by omega), h0]; rfl
    · by_cases hji : i = j
      · subst hji
        rw [List.getElem?_set_self (by omega)] at hy
        cases hy
        exact ⟨g', get_ms_same _ _ _ _ hil, hw'⟩
      · rw [List.getElem?_set_ne hji] at hy
        obtain ⟨g2, hg2, hw2⟩ := hW j y hy
        have ho := hoth (j + 1) (hn ▸ (Array.getElem?_eq_some_iff.1 hg2).1) (by omega)
        refine ⟨g2, ?_, hw2.other L ho.1 ho.2 (Deaf_other t (by omega) _ fun op hop => g_of_ofEvents0 hop)⟩
        rw [get_ms _ _ _ _ _ (by omega), hg2, Option.map_some, hw2.woken]
  generalize hxe : μ.2.1[i] = x at *
  cases x with
  | inr r =>
    rcases hw.2.step L hI (by omega) hw.1 with ⟨g', w', es, s', e1, e2, e3, e4⟩ | ⟨h0', _⟩ | ⟨h0', _⟩ | ⟨h0', _⟩
    · obtain ⟨hI2, hnum, hoth⟩ := L.step hI (by omega) hw.1 e2
      rcases e4 with ⟨e4, q, hq⟩ | ⟨e4, r', hlt', hr'⟩
      · exact main g' w' es s' (.inl q) e1 (hI2 _ _) hnum hoth e3 (.sep _ _) ⟨e4, by rw [Deaf_own]; exact hq⟩
      · exact main g' w' es s' (.inr r') e1 (hI2 _ _) hnum hoth e3 (.inr hlt') ⟨e4, hr'⟩
    · omega
    · omega
    · omega
  | inl q =>
    obtain ⟨he, hq⟩ := hw
    cases q with
    | zero => exact absurd hg (by rw [hq.1]; simp)
    | succ q =>
      rcases hq with ⟨hf, _⟩ | ⟨_, g', es, hm, hst, hq'⟩
      · exact absurd hg (by rw [hf]; simp)
      · refine main g' w es s (.inl q) (hst w) (L.leave hI (by omega) (by omega) he hm _ _) rfl (fun j _ _ => ⟨fun _ => L.refl _ _ _, Iff.rfl⟩) (.inl id) (.inl (Nat.lt_succ_self q)) ⟨he, by rw [Deaf_own]; exact hq'⟩

theorem crw_step (L : A.Laws) (μ : Ms A) (m : Machine) (t : Trace) (h : Inv A μ m t) :
    (∃ o w ops, stepT P m = (.ended o w, ops) ∧ Good P A.Post m o w (t ++ ops)) ∨ (∃ m' ops μ', stepT P m = (.next m', ops) ∧ mlt A μ' μ ∧ Inv A μ' m' (t ++ ops)) := by
  obtain ⟨gs, w, sl, s, a, rfl, hI, hn, hlen, h0, hS0, hW⟩ := h
  have haw : ∀ g ∈ gs, awake g := by
    intro g hg
    obtain ⟨i, hi, rfl⟩ := Array.mem_iff_getElem.1 hg
    cases i with
    | zero =>
      have : gs[0] = a := by simpa [Array.getElem?_eq_getElem hi] using h0
      rw [this]; exact awake_of (hS0.status.imp id .inl)
    | succ i =>
      obtain ⟨g, hgi, hw⟩ := hW i _ (List.getElem?_eq_getElem (by omega))
      have : gs[i + 1] = g := by simpa [Array.getElem?_eq_getElem hi] using hgi
      rw [this]; exact awake_of (hw.status.imp id .inr)
  have hrun : ∃ (i : Nat) (g : Goroutine), gs[i]? = some g ∧ g.status = .running := by
    rcases hS0 with h | ⟨g, _, _, _, hb, _⟩
    · exact ⟨0, a, h0, h.1.running⟩
    · obtain ⟨i, h1, h2, h3⟩ := L.alive hI hb
      obtain ⟨i, rfl⟩ : ∃ j, i = j + 1 := ⟨i - 1, by omega⟩
      obtain ⟨g, hgi, hw⟩ := hW i _ (List.getElem?_eq_getElem (by omega))
      revert hw
      cases μ.2.1[i]'(by omega) with
      | inr r => exact fun hw => ⟨i + 1, g, hgi, hw.2.running⟩
      | inl q => exact fun hw => absurd hw.1 h3
  obtain ⟨i, g, d, sl', hi, hg, hst⟩ := crowd_pick (P := P) (w := w) (sl := sl) haw hrun
  have hI' := L.drawI d hI
  have hS0' : Sit0 A μ.1 a s (w.at d) μ.2.2 := by
    rcases hS0 with h | ⟨g, e, h1, h2, h3, h4⟩
    · exact .inl ⟨h.1.rely L (L.drawR _ _ _ _), h.2⟩
    · exact .inr ⟨g, e, h1.rely L (L.drawR _ _ _ _), h2, L.drawB d h3, h4⟩
  have hW' : ∀ i x, μ.2.1[i]? = some x → ∃ g, gs[i + 1]? = some g ∧ WSit A (i + 1) g s (w.at d) t x := fun i x hx => by
    obtain ⟨g, hgi, hw⟩ := hW i x hx
    exact ⟨g, hgi, hw.other L (fun _ => L.drawR _ _ _ _) Iff.rfl rfl⟩
  rw [hst]
  cases i with
  | zero =>
    rw [h0] at hi; cases hi
    exact step_starter L hI' hn hlen h0 hS0' hW' hg
  | succ i => exact .inr (step_worker L hI' hn hlen h0 hS0' hW' hi hg)

/-- FROM THE ENTRY TO THE RETURN, ON EVERY TAPE. -/
theorem crw_runs (L : A.Laws) {g : Goroutine} {s : A.S} {w : World} (hI : A.I s w #[]) (hn : A.num s = 1) (h : Runs0 A g s w) :
    ∃ N last o w' t', runNT P (N + 1) (solo g w) #[] = (.ended o w', t') ∧ runN P N (solo g w) = .next last ∧ step P last = .ended o w' ∧ Good P A.Post last o w' t' := by
  obtain ⟨r, hr⟩ := RunsR.of h
  exact run_of_inv (mlt_wf A) (Inv A) (Good P A.Post) (crw_step L) (r, ([], 1)) _ _
    ⟨#[g], w, none, s, g, solo_eq_crowd g w, hI, by simp [hn], rfl, rfl, .inl ⟨hr, rfl⟩, fun i x hx => by simp at hx⟩
end
end Go.Proofs.Ytbamamkjmfkghaa.Crw
namespace Go.Proofs.Ytbamamkjmfkghaa.Crw
open Go Go.Conc
open Go.ConcN (PermW RelBy upd upd_same upd_ne)
open Go.ConcR (stA smA KK)
set_option linter.unusedVariables false

inductive Mode where
  | own (k : Nat)
  | ro (m : Nat)
  | at
  | wg
  | pub

/-- What the trace is held against. -/
structure TG where
  n : Nat
  mode : Loc → Mode
  kn : Nat → Loc → Prop
  deaf : Nat → Nat
  rel : Nat → Bool
  fin : Nat → Bool
  wg : Nat
  joined : Bool
  hd : Option Addr

def locLow (B : Nat) : Loc → Prop
  | .cell a => a.block < B
  | .obj r => r < B
  | _ => True
theorem locLow.mono {B B' : Nat} (h : B ≤ B') : ∀ {l : Loc}, locLow B l → locLow B' l
  | .cell _, x | .obj _, x => Nat.lt_of_lt_of_le x h
  | .output, _ | .goroutines, _ | .mark _, _ => trivial

def May (g : TG) (k : Nat) (l : Loc) : Prop := g.mode l = .own k ∨ (∃ m, g.mode l = .ro m ∧ (k = 0 ∨ m ≤ k)) ∨ (g.mode l = .pub ∧ g.kn k l)
def OkT (g : TG) (k : Nat) (x : Touch) : Prop :=
  match x.kind with
  | .plain => if x.write then g.mode x.loc = .own k else May g k x.loc
  | .atomic => (g.mode x.loc = .at ∨ g.mode x.loc = .wg) ∨ g.mode x.loc = .own k
  | .said => g.mode x.loc = .wg ∧ k = 0

/-- Every write of the place is before p. -/
def PermWAt (t : Trace) (l : Loc) (p : Nat) : Prop := ∀ i a, touchAt t i = some a → a.loc = l → a.write = true → Before t i p
theorem PermWAt.app {t u : Trace} {l : Loc} {p : Nat} (h : PermWAt t l p) (hu : ∀ op ∈ u, ∀ b, op.act.touch? = some b → b.loc = l → b.write = false) : PermWAt (t ++ u) l p := by
  intro i a ha hl hw
  obtain ⟨x, hx, hxa⟩ := touch_of ha
  rcases getElem?_append_cases hx with ⟨hi, hx'⟩ | ⟨_, hxu⟩
  · exact (h i a (by rw [touchAt_of hx']; exact hxa) hl hw).app u
  · rw [hu x hxu a hxa hl] at hw; cases hw

structure TI (g : TG) (t : Trace) (sz : Nat) : Prop where
  nr : ∀ said, ¬ Race said t
  own : ∀ l k, l.isMemory = true → g.mode l = .own k → Perm t k l
  ro : ∀ l m, l.isMemory = true → g.mode l = .ro m → ∀ k, k < g.n → (k = 0 ∨ m ≤ k) → PermW t k l
  sh : ∀ l, l.isMemory = true → (g.mode l = .at ∨ g.mode l = .wg) → ∀ i a, touchAt t i = some a → a.loc = l → a.kind ≠ .plain ∧ (a.kind = .said → t.g? i = some 0)
  pubW : ∀ l, l.isMemory = true → g.mode l = .pub → ∃ a q, g.hd = some a ∧ LastWrite t a q ∧ t.heard q ∧ PermWAt t l q
  pubK : ∀ l, l.isMemory = true → g.mode l = .pub → ∀ k, k < g.n → g.kn k l → PermW t k l
  gs : ∀ (i : Nat) (op : MemOp), t[i]? = some op → op.g < g.n
  deaf : ∀ k, k < g.n → g.fin k = false → Deaf t k = g.deaf k
  norel : ∀ (i : Nat) (a : Addr), t.act? i ≠ some (.mark (.release a))
  rels : ∀ k, 1 ≤ k → k < g.n → g.rel k = true → ∃ r, RelBy (stA g.wg) t k r ∧ (g.joined = false → ∀ l, l.isMemory = true → g.mode l = .own k → PermAt t l r)
  jo : g.joined = true → ∃ q, t.act? q = some (.mark (.acquire (stA g.wg))) ∧ t.g? q = some 0 ∧ t.heard q ∧ ∀ k, 1 ≤ k → k < g.n → g.rel k = true ∧ ∃ r, RelBy (stA g.wg) t k r ∧ r < q
  fresh : ∀ i a, touchAt t i = some a → locLow sz a.loc

section
variable {g : TG} {t u : Trace} {sz : Nat}

theorem OkT.ownEq {k k' : Nat} {b : Touch} (h : OkT g k b) (hm : g.mode b.loc = .own k') : k = k' := by
  unfold OkT May at h
  rw [hm] at h
  cases hk : b.kind <;> simp only [hk] at h
  · split at h
    · exact (Mode.own.inj h).symm
    · rcases h with h | ⟨_, h, _⟩ | ⟨h, _⟩
      · exact (Mode.own.inj h).symm
      · cases h
      · cases h
  · rcases h with (h | h) | h
    · cases h
    · cases h
    · exact (Mode.own.inj h).symm
  · cases h.1

theorem OkT.noWrite {k : Nat} {b : Touch} (h : OkT g k b) (hm : (∃ m, g.mode b.loc = .ro m) ∨ g.mode b.loc = .pub) : b.write = false ∧ b.kind = .plain := by
  unfold OkT at h
  cases hk : b.kind <;> simp only [hk] at h
  · refine ⟨?_, rfl⟩
    cases hw : b.write
    · rfl
    · rw [hw] at h
      rcases hm with ⟨m, hm⟩ | hm <;> rw [hm] at h <;> cases h
  · rcases hm with ⟨m, hm⟩ | hm <;> rw [hm] at h <;> rcases h with (h | h) | h <;> cases h
  · rcases hm with ⟨m, hm⟩ | hm <;> rw [hm] at h <;> cases h.1

theorem act_app {i : Nat} {x : MemAct} (h : (t ++ u).act? i = some x) : t.act? i = some x ∨ ∃ op ∈ u, op.act = x := by
  obtain ⟨op, ho, rfl⟩ := Option.map_eq_some_iff.1 h
  rcases getElem?_append_cases ho with ⟨hi, ho'⟩ | ⟨_, hou⟩
  · exact .inl (act?_of ho')
  · exact .inr ⟨op, hou, rfl⟩

/-- Operations of one goroutine that keep to the modes. -/
theorem TI.appP (h : TI g t sz) {k : Nat} (hk : k < g.n) (hu : ∀ op ∈ u, op.g = k) (hok : ∀ op ∈ u, ∀ b, op.act.touch? = some b → b.loc.isMemory = true → OkT g k b)
    (hfr : ∀ op ∈ u, ∀ b, op.act.touch? = some b → locLow sz b.loc) (hnr : ∀ op ∈ u, ∀ a, op.act ≠ .mark (.release a))
    {d' : Nat} (hd : g.fin k = false → Deaf (t ++ u) k = d') (hpw : ∀ l, l.isMemory = true → g.mode l = .pub → ∃ a q, g.hd = some a ∧ LastWrite (t ++ u) a q ∧ (t ++ u).heard q ∧ PermWAt (t ++ u) l q)
    (hrel : 1 ≤ k → g.rel k = true → (∀ r, RelBy (stA g.wg) t k r → RelBy (stA g.wg) (t ++ u) k r) ∧ ∀ op ∈ u, ∀ b, op.act.touch? = some b → b.loc.isMemory = true → g.mode b.loc = .wg) :
    TI { g with deaf := upd g.deaf k d' } (t ++ u) sz := by
  have relk : ∀ k', 1 ≤ k' → g.rel k' = true → ∀ r, RelBy (stA g.wg) t k' r → RelBy (stA g.wg) (t ++ u) k' r := fun k' k1 hr r hb => by
    by_cases e : k' = k
    · subst e; exact (hrel k1 hr).1 r hb
    · exact Go.ConcN.RelBy.appOther hb hu (Ne.symm e)
  refine ⟨fun said => ?_, fun l k' hl hm => (h.own l k' hl hm).app fun op hop b hb e => ?_, fun l m hl hm k' hk' hc => (h.ro l m hl hm k' hk' hc).app fun op hop b hb e hw => ?_,
    fun l hl hm i a ha e => ?_, fun l hl hm => ?_, fun l hl hm k' hk' hc => (h.pubK l hl hm k' hk' hc).app fun op hop b hb e hw => ?_, fun i op hi => ?_, fun k' hk' hf => ?_, fun i a ha => ?_,
    fun k' k1 hk' hr => ?_, fun hj => ?_, fun i a ha => ?_⟩
  · refine noRace_append (h.nr said) hu fun i a ha op hop b hb hc => ?_
    have hl : b.loc.isMemory = true := hc.1 ▸ hc.2.1
    have ho := hok op hop b hb hl
    have hoo := ho
    unfold OkT at ho
    cases hkd : b.kind <;> simp only [hkd] at ho
    · cases hw : b.write
      · rw [hw] at ho
        have haw : a.write = true := hc.2.2.1.resolve_right (by simp [hw])
        rcases ho with ho | ⟨m, ho, hmk⟩ | ⟨ho, hkn⟩
        · exact h.own _ _ hl ho i a ha hc.1
        · exact h.ro _ _ hl ho k hk hmk i a ha hc.1 haw
        · exact h.pubK _ hl ho k hk hkn i a ha hc.1 haw
      · rw [hw] at ho
        exact h.own _ _ hl ho i a ha hc.1
    · rcases ho with ho | ho
      · have hs := h.sh _ hl ho i a ha hc.1
        rcases hc.2.2.2 with x | x | ⟨_, _, x⟩
        · exact absurd x hs.1
        · rw [hkd] at x; cases x
        · rw [hkd] at x; cases x
      · exact h.own _ _ hl ho i a ha hc.1
    · have hs := h.sh _ hl (.inr ho.1) i a ha hc.1
      rcases hc.2.2.2 with x | x | ⟨_, x, _⟩
      · exact absurd x hs.1
      · rw [hkd] at x; cases x
      · obtain ⟨z, hz, _⟩ := touch_of ha
        have hg0 := hs.2 x
        have := knows_own hz
        have e0 : z.g = 0 := by simpa [Trace.g?, hz] using hg0
        rw [e0] at this
        rw [ho.2]; exact this
  · rw [hu op hop]; exact (hok op hop b hb (e ▸ hl)).ownEq (e ▸ hm)
  · have := (hok op hop b hb (e ▸ hl)).noWrite (.inl ⟨m, e ▸ hm⟩)
    rw [this.1] at hw; cases hw
  · obtain ⟨x, hx, hxa⟩ := touch_of ha
    rcases getElem?_append_cases hx with ⟨hi, hx'⟩ | ⟨_, hxu⟩
    · have := h.sh l hl hm i a (by rw [touchAt_of hx']; exact hxa) e
      exact ⟨this.1, fun hs => by rw [g?_old hi]; exact this.2 hs⟩
    · have ho := hok x hxu a hxa (e ▸ hl)
      unfold OkT May at ho
      rw [e] at ho
      have hm2 : g.mode l = .at ∨ g.mode l = .wg := hm
      cases hkd : a.kind <;> simp only [hkd] at ho
      · split at ho
        · rw [ho] at hm2; rcases hm2 with x | x <;> cases x
        · rcases ho with ho | ⟨_, ho, _⟩ | ⟨ho, _⟩ <;> rw [ho] at hm2 <;> rcases hm2 with x | x <;> cases x
      · exact ⟨by simp, fun x => by cases x⟩
      · exact ⟨by simp, fun _ => by simp [Trace.g?, hx, hu x hxu, ho.2]⟩
  · exact hpw l hl hm
  · have := (hok op hop b hb (e ▸ hl)).noWrite (.inr (e ▸ hm))
    rw [this.1] at hw; cases hw
  · rcases getElem?_append_cases hi with ⟨_, hi'⟩ | ⟨_, hiu⟩
    · exact h.gs i op hi'
    · rw [hu op hiu]; exact hk
  · by_cases e : k' = k
    · subst e; simp only [upd_same]; exact hd hf
    · simp only [upd_ne _ _ e]
      rw [Deaf_other t (Ne.symm e) u hu]; exact h.deaf k' hk' hf
  · rcases act_app ha with ha | ⟨op, hop, e⟩
    · exact h.norel i a ha
    · exact hnr op hop a e
  · obtain ⟨r, hr1, hr2⟩ := h.rels k' k1 hk' hr
    refine ⟨r, relk k' k1 hr r hr1, fun hj l hl hm => (hr2 hj l hl hm).app fun op hop b hb e => ?_⟩
    have hm' : g.mode l = .own k' := hm
    have hk2 := (hok op hop b hb (e ▸ hl)).ownEq (e ▸ hm)
    subst hk2
    have := (hrel k1 hr).2 op hop b hb (e ▸ hl)
    rw [e, hm'] at this; cases this
  · obtain ⟨q, h1, h2, h3, h4⟩ := h.jo hj
    have hq := lt_of_act? h1
    refine ⟨q, by rw [act?_old hq]; exact h1, by rw [g?_old hq]; exact h2, (heard_old hq).2 h3, fun k' k1 hk' => ?_⟩
    obtain ⟨hr', r, hr, hrq⟩ := h4 k' k1 hk'
    exact ⟨hr', r, relk k' k1 hr' r hr, hrq⟩
  · obtain ⟨x, hx, hxa⟩ := touch_of ha
    rcases getElem?_append_cases hx with ⟨_, hx'⟩ | ⟨_, hxu⟩
    · exact h.fresh i a (by rw [touchAt_of hx']; exact hxa)
    · exact hfr x hxu a hxa
theorem TI.app (h : TI g t sz) {k : Nat} (hk : k < g.n) (hu : ∀ op ∈ u, op.g = k) (hok : ∀ op ∈ u, ∀ b, op.act.touch? = some b → b.loc.isMemory = true → OkT g k b)
    (hfr : ∀ op ∈ u, ∀ b, op.act.touch? = some b → locLow sz b.loc) (hnr : ∀ op ∈ u, ∀ a, op.act ≠ .mark (.release a))
    {d' : Nat} (hd : g.fin k = false → Deaf (t ++ u) k = d') (hhd : ∀ op ∈ u, ∀ a, g.hd = some a → ∀ sync, op.act ≠ .access ⟨.cell a, true, sync⟩)
    (hrel : 1 ≤ k → g.rel k = true → (∀ r, RelBy (stA g.wg) t k r → RelBy (stA g.wg) (t ++ u) k r) ∧ ∀ op ∈ u, ∀ b, op.act.touch? = some b → b.loc.isMemory = true → g.mode b.loc = .wg) :
    TI { g with deaf := upd g.deaf k d' } (t ++ u) sz := by
  refine h.appP hk hu hok hfr hnr hd (fun l hl hm => ?_) hrel
  obtain ⟨a, q, h0, h1, h2, h3⟩ := h.pubW l hl hm
  exact ⟨a, q, h0, h1.app fun op hop => hhd op hop a h0, (heard_old (lt_of_act? h1.1)).2 h2, h3.app fun op hop b hb e => ((hok op hop b hb (e ▸ hl)).noWrite (.inr (e ▸ hm))).1⟩
end
end Go.Proofs.Ytbamamkjmfkghaa.Crw
namespace Go.Proofs.Ytbamamkjmfkghaa.Crw
open Go Go.Conc
open Go.ConcN (PermW RelBy upd upd_same upd_ne fork_knows)
open Go.ConcR (stA smA KK)
set_option linter.unusedVariables false

theorem upd_id {α : Type} (f : Nat → α) (k : Nat) : upd f k (f k) = f := by
  funext i
  by_cases e : i = k
  · subst e; rw [upd_same]
  · rw [upd_ne _ _ e]

def EvOk (g : TG) (k sz : Nat) (e : Event) : Prop :=
  (∀ x, (MemAct.ofEvent e).touch? = some x → locLow sz x.loc ∧ (x.loc.isMemory = true → OkT g k x)) ∧ (∀ a, e.loc ≠ .mark (.release a)) ∧ ∀ a, g.hd = some a → ∀ sync, MemAct.ofEvent e ≠ .access ⟨.cell a, true, sync⟩

section
variable {g : TG} {t : Trace} {sz k : Nat} {es : Array Event}

theorem mem_ext {es : Array Event} {j : Nat} {e : Event} (h : e ∈ es.extract 0 j) : e ∈ es := by
  obtain ⟨i, hi, rfl⟩ := Array.mem_iff_getElem.1 h
  rw [Array.getElem_extract]
  exact Array.getElem_mem _

theorem TI.evs (h : TI g t sz) (hk : k < g.n) (he : ∀ e ∈ es, EvOk g k sz e)
    (hrel : 1 ≤ k → g.rel k = true → ∀ (j : Nat) e, es[j]? = some e → (MemAct.ofEvent e).touch? = none ∨ ((∃ ad wr, e = ⟨.cell ad, wr, true⟩ ∧ g.mode (.cell ad) = .wg) ∧ 0 < deafBehind (Deaf t k) (es.extract 0 j))) (fn : FuncId) (pos : String) :
    TI { g with deaf := upd g.deaf k (deafBehind (Deaf t k) es) } (t ++ MemOp.ofEvents k fn pos es) sz := by
  refine h.app hk (fun op hop => g_of_ofEvents0 hop) (fun op hop b hb hm => ?_) (fun op hop b hb => ?_) (fun op hop a ha => ?_) (fun _ => Deaf_own t k fn pos es) (fun op hop ad had sync ha => ?_) (fun k1 hr => ⟨fun r hb => ?_, fun op hop b hb hm => ?_⟩)
  · obtain ⟨e, hee, rfl⟩ := Go.Conc.mem_ofEvents hop
    exact ((he e hee).1 b hb).2 hm
  · obtain ⟨e, hee, rfl⟩ := Go.Conc.mem_ofEvents hop
    exact ((he e hee).1 b hb).1
  · obtain ⟨e, hee, rfl⟩ := Go.Conc.mem_ofEvents hop
    exact (he e hee).2.1 a (Go.ConcR.loc_of_ofEvent ha)
  · obtain ⟨e, hee, rfl⟩ := Go.Conc.mem_ofEvents hop
    exact (he e hee).2.2 ad had sync ha
  · exact hb.appOwn fn pos es fun j e hj => (hrel k1 hr j e hj).imp id fun x => ⟨let ⟨ad, wr, h1, _⟩ := x.1; ⟨ad, wr, h1⟩, x.2⟩
  · obtain ⟨e, hee, rfl⟩ := Go.Conc.mem_ofEvents hop
    obtain ⟨j, hj⟩ := Array.mem_iff_getElem?.1 hee
    rcases hrel k1 hr j e hj with h0 | ⟨⟨ad, wr, rfl, hm'⟩, _⟩
    · simp only [h0] at hb; cases hb
    · have : b.loc = .cell ad := by
        cases wr <;> simp [MemAct.ofEvent, MemAct.touch?] at hb <;> subst hb <;> rfl
      rw [this]; exact hm'

/-- No word among them. -/
theorem TI.evs0 (h : TI g t sz) (hk : k < g.n) (hf : g.fin k = false) (he : ∀ e ∈ es, EvOk g k sz e) (hw : ∀ e ∈ es, e.loc ≠ .mark .disable ∧ e.loc ≠ .mark .enable)
    (hrel : 1 ≤ k → g.rel k = true → ∀ (j : Nat) e, es[j]? = some e → (MemAct.ofEvent e).touch? = none ∨ ((∃ ad wr, e = ⟨.cell ad, wr, true⟩ ∧ g.mode (.cell ad) = .wg) ∧ 0 < g.deaf k)) (fn : FuncId) (pos : String) :
    TI g (t ++ MemOp.ofEvents k fn pos es) sz := by
  have hd := h.deaf k hk hf
  have := h.evs hk he (fun k1 hr j e hj => (hrel k1 hr j e hj).imp id fun x => ⟨x.1, by
    rw [deafBehind_still (fun e he' => hw e (mem_ext he')), hd]; exact x.2⟩) fn pos
  rw [deafBehind_still hw, hd, upd_id] at this
  exact this

/-- New memory, and what it is given to. -/
theorem TI.grow (h : TI g t sz) {sz' : Nat} (hs : sz ≤ sz') {mode' : Loc → Mode} (hl : ∀ l, locLow sz l → mode' l = g.mode l) (hn : ∀ l, ¬ locLow sz l → mode' l ≠ .pub) : TI { g with mode := mode' } t sz' := by
  have low : ∀ {i a}, touchAt t i = some a → ∀ {l}, a.loc = l → mode' l = g.mode l := fun ha _ e => e ▸ hl _ (h.fresh _ _ ha)
  have lowp : ∀ l, mode' l = .pub → mode' l = g.mode l := fun l e => by
    by_cases hx : locLow sz l
    · exact hl l hx
    · exact absurd e (hn l hx)
  refine ⟨h.nr, fun l k hm e i a ha hl' => h.own l k hm ((low ha hl').symm.trans e) i a ha hl', fun l m hm e k hk hc i a ha hl' => h.ro l m hm ((low ha hl').symm.trans e) k hk hc i a ha hl',
    fun l hm e i a ha hl' => h.sh l hm (e.imp (low ha hl').symm.trans (low ha hl').symm.trans) i a ha hl', fun l hm e => h.pubW l hm ((lowp l e).symm.trans e), fun l hm e => h.pubK l hm ((lowp l e).symm.trans e), h.gs, h.deaf, h.norel,
    fun k k1 hk hr => ?_, h.jo, fun i a ha => (h.fresh i a ha).mono hs⟩
  obtain ⟨r, h1, h2⟩ := h.rels k k1 hk hr
  exact ⟨r, h1, fun hj l hm e i a ha hl' => h2 hj l hm ((low ha hl').symm.trans e) i a ha hl'⟩

theorem TI.end (h : TI g t sz) (fin' : Nat → Bool) (hf : ∀ k, fin' k = false → g.fin k = false) : TI { g with fin := fin' } t sz :=
  ⟨h.nr, h.own, h.ro, h.sh, h.pubW, h.pubK, h.gs, fun k hk e => h.deaf k hk (hf k e), h.norel, h.rels, h.jo, h.fresh⟩

/-- The group is made: no worker is there yet. -/
theorem TI.group (h : TI g t sz) (h1 : g.n = 1) (hj : g.joined = false) (b : Nat) : TI { g with wg := b } t sz :=
  ⟨h.nr, h.own, h.ro, h.sh, h.pubW, h.pubK, h.gs, h.deaf, h.norel, fun k k1 hk => (by have : k < g.n := hk; omega), fun x => absurd (show g.joined = true from x) (by rw [hj]; simp), h.fresh⟩

/-- One who has ended says mute words. -/
theorem TI.mute (h : TI g t sz) (hk : k < g.n) (hf : g.fin k = true) (hm : ∀ e ∈ es, Event.mute e = true) (fn : FuncId) (pos : String) : TI g (t ++ MemOp.ofEvents k fn pos es) sz := by
  have hn : ∀ op ∈ MemOp.ofEvents k fn pos es, op.act.touch? = none := fun op hop => by
    obtain ⟨e, he, rfl⟩ := Go.Conc.mem_ofEvents hop
    exact touch_mute (hm e he)
  have := h.app (d' := g.deaf k) hk (fun op hop => g_of_ofEvents0 hop) (fun op hop b hb => by rw [hn op hop] at hb; cases hb) (fun op hop b hb => by rw [hn op hop] at hb; cases hb) (fun op hop a ha => by
      obtain ⟨e, he, rfl⟩ := Go.Conc.mem_ofEvents hop
      have h1 := Go.ConcR.loc_of_ofEvent ha
      have h2 := hm e he
      obtain ⟨loc, wr, sy⟩ := e
      simp only at h1; subst h1
      simp [Event.mute] at h2) (fun x => by rw [hf] at x; cases x)
    (fun op hop _ _ sync ha => by have := hn op hop; rw [ha] at this; simp [MemAct.touch?] at this)
    (fun k1 hr => ⟨fun r hb => hb.app fun i hi hg hc => by
      obtain ⟨x, hx, _⟩ := hc
      obtain ⟨act, hact, hxt⟩ := Option.bind_eq_some_iff.1 hx
      obtain ⟨op, ho, rfl⟩ := Option.map_eq_some_iff.1 hact
      rcases getElem?_append_cases ho with ⟨hlt, _⟩ | ⟨_, hou⟩
      · omega
      · simp only [hn op hou] at hxt; exact absurd hxt (by simp), fun op hop b hb => absurd hb (by rw [hn op hop]; simp)⟩)
  rw [upd_id] at this
  exact this

/-- Worker k says 'release and merge'. -/
theorem TI.relm (h : TI g t sz) (hk : k < g.n) (k1 : 1 ≤ k) (hf : g.fin k = false) (hd : g.deaf k = 0) (hr : g.rel k = false) (hj : g.joined = false) (fn : FuncId) (pos : String) :
    TI { g with rel := upd g.rel k true } (t ++ MemOp.ofEvents k fn pos #[Go.ConcR.mk (.releaseMerge (stA g.wg))]) sz := by
  have h0 := h.evs0 (es := #[Go.ConcR.mk (.releaseMerge (stA g.wg))]) hk hf (fun e he => by
      simp at he; subst he
      exact ⟨fun x hx => by simp [Go.ConcR.mk, MemAct.ofEvent, MemAct.touch?] at hx, fun a => by simp [Go.ConcR.mk], fun _ _ sync => by simp [Go.ConcR.mk, MemAct.ofEvent]⟩)
    (fun e he => by simp at he; subst he; simp [Go.ConcR.mk]) (fun _ hr' => by rw [hr] at hr'; cases hr') fn pos
  have hD : Deaf t k = 0 := (h.deaf k hk hf).trans hd
  have e1 : MemOp.ofEvents k fn pos #[Go.ConcR.mk (.releaseMerge (stA g.wg))] = #[({ g := k, fn, pos, act := .mark (.releaseMerge (stA g.wg)) } : MemOp)] := by
    rw [ofEvents_eq]; simp [Go.ConcR.mk, MemAct.ofEvent]
  refine ⟨h0.nr, h0.own, h0.ro, h0.sh, h0.pubW, h0.pubK, h0.gs, h0.deaf, h0.norel, fun k' k1' hk' hr' => ?_, fun hj' => ?_, h0.fresh⟩
  · by_cases e : k' = k
    · subst e
      refine ⟨t.size, RelBy.new hD fn pos, fun _ l hl hm => ?_⟩
      rw [e1]
      exact (h.own l k' hl hm).release rfl (fun b hb => by simp [MemAct.touch?] at hb)
    · have hr2 : g.rel k' = true := by simpa [upd_ne _ _ e] using hr'
      exact h0.rels k' k1' hk' hr2
  · have : g.joined = true := hj'
    rw [hj] at this; cases this

/-- THE JOIN. -/
theorem TI.join (h : TI g t sz) (hn : 0 < g.n) (hf : g.fin 0 = false) (hd : g.deaf 0 = 0) (hj : g.joined = false) (hall : ∀ k, 1 ≤ k → k < g.n → g.rel k = true) (fn : FuncId) (pos : String) {mode' : Loc → Mode}
    (hm' : ∀ l, mode' l = g.mode l ∨ ∃ k, 1 ≤ k ∧ k < g.n ∧ g.mode l = .own k ∧ mode' l = .own 0) :
    TI { g with joined := true, mode := mode' } (t ++ MemOp.ofEvents 0 fn pos #[Go.ConcR.mk (.acquire (stA g.wg))]) sz := by
  have h0 := h.evs0 (es := #[Go.ConcR.mk (.acquire (stA g.wg))]) hn hf (fun e he => by
      simp at he; subst he
      exact ⟨fun x hx => by simp [Go.ConcR.mk, MemAct.ofEvent, MemAct.touch?] at hx, fun a => by simp [Go.ConcR.mk], fun _ _ sync => by simp [Go.ConcR.mk, MemAct.ofEvent]⟩)
    (fun e he => by simp at he; subst he; simp [Go.ConcR.mk]) (fun k1 _ => by omega) fn pos
  have hD : Deaf t 0 = 0 := (h.deaf 0 hn hf).trans hd
  have e1 : MemOp.ofEvents 0 fn pos #[Go.ConcR.mk (.acquire (stA g.wg))] = #[({ g := 0, fn, pos, act := .mark (.acquire (stA g.wg)) } : MemOp)] := by
    rw [ofEvents_eq]; simp [Go.ConcR.mk, MemAct.ofEvent]
  rw [e1] at h0 ⊢
  have hq : (t ++ #[({ g := 0, fn, pos, act := .mark (.acquire (stA g.wg)) } : MemOp)])[t.size]? = some { g := 0, fn, pos, act := .mark (.acquire (stA g.wg)) } := by simp
  have hh : (t ++ #[({ g := 0, fn, pos, act := .mark (.acquire (stA g.wg)) } : MemOp)]).heard t.size := ⟨0, by simp [Trace.g?], by rw [deaf_old (Nat.le_refl _)]; exact hD⟩
  have know : ∀ k, 1 ≤ k → k < g.n → ∃ r, RelBy (stA g.wg) (t ++ #[({ g := 0, fn, pos, act := .mark (.acquire (stA g.wg)) } : MemOp)]) k r ∧ r < t.size ∧ Knows (t ++ #[({ g := 0, fn, pos, act := .mark (.acquire (stA g.wg)) } : MemOp)]) 0 r ∧
      ∀ l, l.isMemory = true → g.mode l = .own k → PermAt t l r := fun k k1 hk => by
    obtain ⟨r, h1, h2⟩ := h.rels k k1 hk (hall k k1 hk)
    have hrl := lt_of_act? h1.act
    have h1' := Go.ConcN.RelBy.appOther (u := #[({ g := 0, fn, pos, act := .mark (.acquire (stA g.wg)) } : MemOp)]) (g := 0) h1 (fun op hop => by simp at hop; rw [hop]) (by omega)
    refine ⟨r, h1', hrl, ⟨t.size, _, hq, rfl, .inr (.single (.inr ⟨.marked hrl (.inr h1'.act) (act?_of hq) (fun i _ _ => h0.norel i _), h1'.heard, hh⟩))⟩, h2 hj⟩
  refine ⟨h0.nr, fun l k hl hm => ?_, fun l m hl hm => ?_, fun l hl hm => ?_, fun l hl hm => ?_, fun l hl hm => ?_, h0.gs, h0.deaf, h0.norel, fun k k1 hk hr => ?_, fun _ => ?_, h0.fresh⟩
  · rcases hm' l with e | ⟨k', k1, hk', h1, h2⟩
    · exact h0.own l k hl (e ▸ hm)
    · have hm2 : mode' l = .own k := hm
      rw [h2] at hm2
      have : (0 : Nat) = k := Mode.own.inj hm2
      subst this
      obtain ⟨r, _, _, hkr, hp⟩ := know k' k1 hk'
      have hp' := (hp l hl h1).app (u := #[({ g := 0, fn, pos, act := .mark (.acquire (stA g.wg)) } : MemOp)]) (fun op hop b hb => by simp at hop; subst hop; simp [MemAct.touch?] at hb)
      exact hp'.acquire hkr
  · rcases hm' l with e | ⟨k', k1, hk', h1, h2⟩
    · exact h0.ro l m hl (e ▸ hm)
    · have hm2 : mode' l = .ro m := hm
      rw [h2] at hm2; cases hm2
  · rcases hm' l with e | ⟨k', k1, hk', h1, h2⟩
    · exact h0.sh l hl (e ▸ hm)
    · have hm2 : mode' l = .at ∨ mode' l = .wg := hm
      rw [h2] at hm2; rcases hm2 with x | x <;> cases x
  · rcases hm' l with e | ⟨k', k1, hk', h1, h2⟩
    · exact h0.pubW l hl (e ▸ hm)
    · have hm2 : mode' l = .pub := hm
      rw [h2] at hm2; cases hm2
  · rcases hm' l with e | ⟨k', k1, hk', h1, h2⟩
    · exact h0.pubK l hl (e ▸ hm)
    · have hm2 : mode' l = .pub := hm
      rw [h2] at hm2; cases hm2
  · obtain ⟨r, h1, _⟩ := know k k1 hk
    exact ⟨r, h1, fun x => by cases x⟩
  · exact ⟨t.size, act?_of hq, by simp [Trace.g?], hh, fun k k1 hk => ⟨hall k k1 hk, let ⟨r, h1, h2, _⟩ := know k k1 hk; ⟨r, h1, h2⟩⟩⟩

/-- A GO STATEMENT. -/
theorem TI.spawn (h : TI g t sz) (hn : 0 < g.n) (hf : g.fin 0 = false) (hd : g.deaf 0 = 0) (hj : g.joined = false) (fn fn' : FuncId) (pos : String) {mode' : Loc → Mode}
    (hm' : ∀ l, mode' l = g.mode l ∨ (g.mode l = .own 0 ∧ (mode' l = .own g.n ∨ mode' l = .ro g.n))) (hown : ∀ l, g.mode l ≠ .own g.n) :
    TI { g with n := g.n + 1, mode := mode', kn := upd g.kn g.n (g.kn 0), deaf := upd g.deaf g.n 0, rel := upd g.rel g.n false, fin := upd g.fin g.n false } (t ++ goOps fn fn' pos #[] g.n) sz := by
  have e0 : t ++ goOps fn fn' pos #[] g.n = t ++ #[({ g := 0, fn, pos, act := .go g.n } : MemOp), { g := g.n, fn := fn', pos, act := .start }] := by
    simp [goOps, ofEvents_none]
  rw [e0]
  generalize hx : ({ g := 0, fn, pos, act := .go g.n } : MemOp) = x
  generalize hy : ({ g := g.n, fn := fn', pos, act := .start } : MemOp) = y
  have hxg : x.g = 0 ∧ x.act = .go g.n := by subst hx; exact ⟨rfl, rfl⟩
  have hyg : y.g = g.n ∧ y.act = .start := by subst hy; exact ⟨rfl, rfl⟩
  have hD : Deaf t 0 = 0 := (h.deaf 0 hn hf).trans hd
  have hk : Deaf t g.n = 0 := Go.ConcN.Deaf_absent fun i op hi e => by have := h.gs i op hi; omega
  have hnt : ∀ op ∈ #[x, y], op.act.touch? = none := by
    intro op hop
    simp only [List.mem_toArray, List.mem_cons, List.not_mem_nil, or_false] at hop
    rcases hop with rfl | rfl
    · rw [hxg.2]; rfl
    · rw [hyg.2]; rfl
  have old : ∀ {i : Nat} {a : Touch}, touchAt (t ++ #[x, y]) i = some a → touchAt t i = some a := by
    intro i a ha
    obtain ⟨z, hz, hza⟩ := touch_of ha
    rcases getElem?_append_cases hz with ⟨_, hz'⟩ | ⟨_, hzu⟩
    · rw [touchAt_of hz']; exact hza
    · rw [hnt z hzu] at hza; cases hza
  have kn : ∀ {i}, Knows t 0 i → Knows (t ++ #[x, y]) g.n i := fun hk' => fork_knows hxg hyg hD hk hk'
  have lt' : ∀ {i a}, touchAt t i = some a → i < t.size := fun ha => by
    obtain ⟨z, hz, _⟩ := touch_of ha
    exact lt_size_of_getElem? hz
  have notAct : ∀ {i z}, (t ++ #[x, y]).act? i = some z → t.act? i = some z ∨ z = .go g.n ∨ z = .start := fun {i z} hz => by
    rcases act_app hz with h' | ⟨op, hop, rfl⟩
    · exact .inl h'
    · simp only [List.mem_toArray, List.mem_cons, List.not_mem_nil, or_false] at hop
      rcases hop with rfl | rfl
      · exact .inr (.inl hxg.2)
      · exact .inr (.inr hyg.2)
  have relOld : ∀ {k r}, 1 ≤ k → k < g.n → RelBy (stA g.wg) t k r → RelBy (stA g.wg) (t ++ #[x, y]) k r := fun {k r} k1 hk' hb => hb.app fun i hi hgi hc => by
    obtain ⟨op, ho, hog⟩ := Option.map_eq_some_iff.1 hgi
    rcases getElem?_append_cases ho with ⟨hlt, _⟩ | ⟨_, hou⟩
    · omega
    · simp only [List.mem_toArray, List.mem_cons, List.not_mem_nil, or_false] at hou
      rcases hou with rfl | rfl
      · rw [hxg.1] at hog; omega
      · rw [hyg.1] at hog; omega
  refine ⟨fun said => ?_, fun l k hl hm i a ha e => ?_, fun l m hl hm k hk' hc i a ha e hw => ?_, fun l hl hm i a ha e => ?_, fun l hl hm => ?_, fun l hl hm k hk' hc i a ha e hw => ?_, fun i op hi => ?_, fun k hk' hf' => ?_, fun i a ha => ?_,
    fun k k1 hk' hr => ?_, fun hj' => ?_, fun i a ha => h.fresh i a (old ha)⟩
  · have e : t ++ #[x, y] = (t ++ #[x]) ++ #[y] := by apply Array.ext'; simp
    rw [e]
    refine noRace_append (g := g.n) (noRace_append (g := 0) (h.nr said) (fun op hop => by simp at hop; rw [hop]; exact hxg.1) (fun i a _ op hop b hb _ => by rw [hnt op (by simp at hop ⊢; exact .inl hop)] at hb; cases hb))
      (fun op hop => by simp at hop; rw [hop]; exact hyg.1) (fun i a _ op hop b hb _ => by rw [hnt op (by simp at hop ⊢; exact .inr hop)] at hb; cases hb)
  · have ha' := old ha
    have hm2 : mode' l = .own k := hm
    rcases hm' l with e' | ⟨e', e'' | e''⟩
    · exact (h.own l k hl (e' ▸ hm2) i a ha' e).app _
    · rw [e''] at hm2
      have : g.n = k := Mode.own.inj hm2
      subst this
      exact kn (h.own l 0 hl e' i a ha' e)
    · rw [e''] at hm2; cases hm2
  · have ha' := old ha
    have hm2 : mode' l = .ro m := hm
    have hk2 : k < g.n + 1 := hk'
    rcases hm' l with e' | ⟨e', e'' | e''⟩
    · by_cases hkn : k = g.n
      · subst hkn; exact kn (h.ro l m hl (e' ▸ hm2) 0 hn (.inl rfl) i a ha' e hw)
      · exact (h.ro l m hl (e' ▸ hm2) k (by omega) hc i a ha' e hw).app _
    · rw [e''] at hm2; cases hm2
    · rw [e''] at hm2
      have : g.n = m := Mode.ro.inj hm2
      subst this
      rcases hc with rfl | hc
      · exact (h.own l 0 hl e' i a ha' e).app _
      · obtain rfl : k = g.n := by omega
        exact kn (h.own l 0 hl e' i a ha' e)
  · have ha' := old ha
    have hm2 : mode' l = .at ∨ mode' l = .wg := hm
    rcases hm' l with e' | ⟨e', e'' | e''⟩
    · have := h.sh l hl (e' ▸ hm2) i a ha' e
      exact ⟨this.1, fun hs => by rw [g?_old (lt' ha')]; exact this.2 hs⟩
    · rw [e''] at hm2; rcases hm2 with x | x <;> cases x
    · rw [e''] at hm2; rcases hm2 with x | x <;> cases x
  · have hm2 : mode' l = .pub := hm
    rcases hm' l with e' | ⟨e', e'' | e''⟩
    · obtain ⟨a, q, h0, h1, h2, h3⟩ := h.pubW l hl (e' ▸ hm2)
      exact ⟨a, q, h0, h1.app fun op hop sync ha => by have := hnt op hop; rw [ha] at this; simp [MemAct.touch?] at this, (heard_old (lt_of_act? h1.1)).2 h2, h3.app fun op hop b hb _ => by rw [hnt op hop] at hb; cases hb⟩
    · rw [e''] at hm2; cases hm2
    · rw [e''] at hm2; cases hm2
  · have ha' := old ha
    have hm2 : mode' l = .pub := hm
    have hk2 : k < g.n + 1 := hk'
    rcases hm' l with e' | ⟨e', e'' | e''⟩
    · by_cases hkn : k = g.n
      · subst hkn
        simp only [upd_same] at hc
        exact kn (h.pubK l hl (e' ▸ hm2) 0 hn hc i a ha' e hw)
      · simp only [upd_ne _ _ hkn] at hc
        exact (h.pubK l hl (e' ▸ hm2) k (by omega) hc i a ha' e hw).app _
    · rw [e''] at hm2; cases hm2
    · rw [e''] at hm2; cases hm2
  · show op.g < g.n + 1
    rcases getElem?_append_cases hi with ⟨_, hi'⟩ | ⟨_, hiu⟩
    · have := h.gs i op hi'; omega
    · simp only [List.mem_toArray, List.mem_cons, List.not_mem_nil, or_false] at hiu
      rcases hiu with rfl | rfl
      · rw [hxg.1]; omega
      · rw [hyg.1]; omega
  · have hk2 : k < g.n + 1 := hk'
    have e : t ++ #[x, y] = (t ++ #[x]) ++ #[y] := by apply Array.ext'; simp
    have hD' : Deaf (t ++ #[x, y]) k = Deaf t k := by
      rw [e, Deaf_push, Deaf_push]; simp only [deafStep, hxg.2, hyg.2]
    by_cases hkn : k = g.n
    · subst hkn; simp only [upd_same]; rw [hD', hk]
    · simp only [upd_ne _ _ hkn] at hf' ⊢
      rw [hD']; exact h.deaf k (by omega) hf'
  · rcases notAct ha with h' | h' | h'
    · exact h.norel i a h'
    · cases h'
    · cases h'
  · have hk2 : k < g.n + 1 := hk'
    by_cases hkn : k = g.n
    · subst hkn; simp [upd_same] at hr
    · simp only [upd_ne _ _ hkn] at hr
      obtain ⟨r, h1, h2⟩ := h.rels k k1 (by omega) hr
      refine ⟨r, relOld k1 (by omega) h1, fun hj' l hl hm => ?_⟩
      have hm2 : mode' l = .own k := hm
      rcases hm' l with e' | ⟨e', e'' | e''⟩
      · exact (h2 hj' l hl (e' ▸ hm2)).app fun op hop b hb => by rw [hnt op hop] at hb; cases hb
      · rw [e''] at hm2; exact absurd (Mode.own.inj hm2).symm hkn
      · rw [e''] at hm2; cases hm2
  · have : g.joined = true := hj'
    rw [hj] at this; cases this

theorem TI.over (h : TI g t sz) (hj : g.n = 1 ∨ g.joined = true) : t.HandedOver := by
  rcases hj with h1 | hj
  · intro i k hk hne
    obtain ⟨op, ho, hog⟩ := Option.map_eq_some_iff.1 hk
    have := h.gs i op ho
    omega
  · obtain ⟨q, h1, h2, h3, h4⟩ := h.jo hj
    refine Go.ConcN.handedOver_all (fun i k hk hne => ?_) (fun i => h.norel i _) h1 h2 h3
    obtain ⟨op, ho, hog⟩ := Option.map_eq_some_iff.1 hk
    have := h.gs i op ho
    obtain ⟨_, r, hr⟩ := h4 k (by omega) (by omega)
    exact ⟨r, hr⟩

/-- The head is looked at, and so all that is published. -/
theorem TI.learn (h : TI g t sz) (hk : k < g.n) (hf : g.fin k = false) (hd : g.deaf k = 0) {a : Addr} (hh : g.hd = some a) (hm : g.mode (.cell a) = .at) (hl : a.block < sz) (hr : k = 0 ∨ g.rel k = false) (fn : FuncId) (pos : String) :
    TI { g with kn := upd g.kn k (fun l => g.mode l = .pub) } (t ++ MemOp.ofEvents k fn pos #[⟨.cell a, false, true⟩]) sz := by
  have h0 := h.evs0 (es := #[⟨.cell a, false, true⟩]) hk hf (fun e he => by
      simp at he; subst he
      exact ⟨fun x hx => by
        simp [MemAct.ofEvent, MemAct.touch?] at hx; subst hx
        exact ⟨hl, fun _ => .inl (.inl hm)⟩, fun a => by simp, fun _ _ sync => by simp [MemAct.ofEvent]⟩)
    (fun e he => by simp at he; subst he; simp) (fun k1 hr' => by
      rcases hr with rfl | hr
      · omega
      · rw [hr] at hr'; cases hr') fn pos
  have hD : Deaf t k = 0 := (h.deaf k hk hf).trans hd
  have e1 : MemOp.ofEvents k fn pos #[⟨.cell a, false, true⟩] = #[({ g := k, fn, pos, act := .access ⟨.cell a, false, true⟩ } : MemOp)] := by
    rw [ofEvents_eq]; simp [MemAct.ofEvent]
  rw [e1] at h0 ⊢
  have hq : (t ++ #[({ g := k, fn, pos, act := .access ⟨.cell a, false, true⟩ } : MemOp)])[t.size]? = some { g := k, fn, pos, act := .access ⟨.cell a, false, true⟩ } := by simp
  have hhr : (t ++ #[({ g := k, fn, pos, act := .access ⟨.cell a, false, true⟩ } : MemOp)]).heard t.size := ⟨k, by simp [Trace.g?], by rw [deaf_old (Nat.le_refl _)]; exact hD⟩
  refine ⟨h0.nr, h0.own, h0.ro, h0.sh, h0.pubW, fun l hl hm k' hk' hc => ?_, h0.gs, h0.deaf, h0.norel, h0.rels, h0.jo, h0.fresh⟩
  by_cases e : k' = k
  · subst e
    obtain ⟨a', q, e', h1, h2, h3⟩ := h.pubW l hl hm
    rw [hh] at e'; cases e'
    have hql := lt_of_act? h1.1
    have kq : Knows (t ++ #[({ g := k', fn, pos, act := .access ⟨.cell a, false, true⟩ } : MemOp)]) k' q :=
      ⟨t.size, _, hq, rfl, .inr (.single (.inr ⟨.atomic hql (by rw [act?_old hql]; exact h1.1) (act?_of hq) (fun i sync hi hj hc => h1.2 i sync hi (by rw [act?_old hj] at hc; exact hc)), (heard_old hql).2 h2, hhr⟩))⟩
    intro i b hb hbl hbw
    obtain ⟨z, hz, hzb⟩ := touch_of hb
    rcases getElem?_append_cases hz with ⟨_, hz'⟩ | ⟨_, hzu⟩
    · exact Knows.of_before ((h3 i b (by rw [touchAt_of hz']; exact hzb) hbl hbw).app _) kq
    · simp at hzu; subst hzu
      simp [MemAct.touch?] at hzb; subst hzb; cases hbw
  · have hc' : g.kn k' l := by
      have : upd g.kn k (fun l => g.mode l = .pub) k' l := hc
      rw [upd_ne _ _ e] at this; exact this
    exact h0.pubK l hl hm k' hk' hc'

/-- The head is turned, and what was one's own is published by it. -/
theorem TI.publish (h : TI g t sz) (hk : k < g.n) (hf : g.fin k = false) (hd : g.deaf k = 0) {a : Addr} (hh : g.hd = some a) (hm : g.mode (.cell a) = .at) (hl : a.block < sz) (hr : k = 0 ∨ g.rel k = false)
    {mode' : Loc → Mode} (hm' : ∀ l, mode' l = g.mode l ∨ (g.mode l = .own k ∧ mode' l = .pub)) (hkn : ∀ i l, g.kn i l → g.mode l = .pub) (hj : g.joined = false ∨ True) (fn : FuncId) (pos : String) :
    TI { g with mode := mode', kn := upd g.kn k (fun l => mode' l = .pub) } (t ++ MemOp.ofEvents k fn pos #[⟨.cell a, false, true⟩, ⟨.cell a, true, true⟩]) sz := by
  have h1 := h.learn hk hf hd hh hm hl hr fn pos
  have e1 : MemOp.ofEvents k fn pos #[⟨.cell a, false, true⟩, ⟨.cell a, true, true⟩] = MemOp.ofEvents k fn pos #[⟨.cell a, false, true⟩] ++ #[({ g := k, fn, pos, act := .access ⟨.cell a, true, true⟩ } : MemOp)] := by
    rw [ofEvents_eq, ofEvents_eq]; simp [MemAct.ofEvent]
  rw [e1, ← Array.append_assoc]
  generalize t ++ MemOp.ofEvents k fn pos #[⟨.cell a, false, true⟩] = t1 at *
  generalize hy : ({ g := k, fn, pos, act := .access ⟨.cell a, true, true⟩ } : MemOp) = y
  have hyg : y.g = k := by subst hy; rfl
  have hya : y.act = .access ⟨.cell a, true, true⟩ := by subst hy; rfl
  have hyt : ∀ b, y.act.touch? = some b → b = ⟨.cell a, true, .atomic⟩ := fun b hb => by rw [hya] at hb; simp [MemAct.touch?] at hb; exact hb.symm
  have hD : Deaf t1 k = 0 := (h1.deaf k hk hf).trans hd
  have hq : (t1 ++ #[y])[t1.size]? = some y := by simp
  have hhr : (t1 ++ #[y]).heard t1.size := ⟨k, by simp [Trace.g?, hyg], by rw [deaf_old (Nat.le_refl _)]; exact hD⟩
  have hnm : ∀ l, (g.mode l = .pub ∨ g.mode l = .own k) → ∀ op ∈ #[y], ∀ b, op.act.touch? = some b → b.loc ≠ l := fun l hx op hop b hb e => by
    simp at hop; subst hop
    have := hyt b hb; subst this
    subst e
    rw [hm] at hx; rcases hx with x | x <;> cases x
  have old : ∀ {i : Nat} {b : Touch} {l : Loc}, (g.mode l = .pub ∨ g.mode l = .own k) → touchAt (t1 ++ #[y]) i = some b → b.loc = l → touchAt t1 i = some b := fun {i b l} hx hb e => by
    obtain ⟨z, hz, hzb⟩ := touch_of hb
    rcases getElem?_append_cases hz with ⟨_, hz'⟩ | ⟨_, hzu⟩
    · rw [touchAt_of hz']; exact hzb
    · exact absurd e (hnm l hx z hzu b hzb)
  have bef : ∀ {i}, Knows t1 k i → Before (t1 ++ #[y]) i t1.size := fun hx => .inr (hx.hb_new (Nat.le_refl _) hq hyg)
  have know : ∀ {i}, Knows t1 k i → Knows (t1 ++ #[y]) k i := fun hx => ⟨t1.size, y, hq, hyg, bef hx⟩
  have pw : ∀ l, l.isMemory = true → g.mode l = .pub → PermWAt (t1 ++ #[y]) l t1.size := fun l hlm hx i b hb hbl hbw => by
    exact bef (h1.pubK l hlm hx k hk (by show upd g.kn k _ k l; rw [upd_same]; exact hx) i b (old (.inl hx) hb hbl) hbl hbw)
  have pw' : ∀ l, l.isMemory = true → g.mode l = .own k → PermWAt (t1 ++ #[y]) l t1.size := fun l hlm hx i b hb hbl hbw => bef (h1.own l k hlm hx i b (old (.inr hx) hb hbl) hbl)
  have h2 := h1.appP (u := #[y]) hk (fun op hop => by simp at hop; rw [hop]; exact hyg) (fun op hop b hb hbm => by
      simp at hop; subst hop
      have := hyt b hb; subst this
      exact .inl (.inl hm)) (fun op hop b hb => by
      simp at hop; subst hop
      have := hyt b hb; subst this
      exact hl) (fun op hop b e => by
      simp at hop; subst hop
      rw [hya] at e; cases e) (d' := g.deaf k) (fun _ => by
      have : Deaf (t1 ++ #[y]) k = Deaf t1 k := by rw [Deaf_push]; simp only [deafStep, hya]
      rw [this]; exact h1.deaf k hk hf) (fun l hlm hx => ⟨a, t1.size, hh, LastWrite.new t1 a hya, hhr, pw l hlm hx⟩) (fun k1 hr' => by
      rcases hr with rfl | hr
      · omega
      · have : g.rel k = true := hr'
        rw [hr] at this; cases this)
  have hdd : upd g.deaf k (g.deaf k) = g.deaf := upd_id _ _
  have wasPub : ∀ {l}, mode' l = .pub → g.mode l = .pub ∨ g.mode l = .own k := fun {l} e => by
    rcases hm' l with x | ⟨x, _⟩
    · exact .inl (x.symm.trans e)
    · exact .inr x
  refine ⟨h2.nr, fun l i hlm e => ?_, fun l m hlm e => ?_, fun l hlm e => ?_, fun l hlm e => ?_, fun l hlm e i hi hc => ?_, h2.gs, fun i hi hfi => ?_, h2.norel, fun i i1 hi hri => ?_, h2.jo, h2.fresh⟩
  · rcases hm' l with x | ⟨_, x⟩
    · exact h2.own l i hlm (x.symm.trans e)
    · cases x.symm.trans e
  · rcases hm' l with x | ⟨_, x⟩
    · exact h2.ro l m hlm (x.symm.trans e)
    · cases x.symm.trans e
  · rcases hm' l with x | ⟨_, x⟩
    · exact h2.sh l hlm (e.imp (fun e => x.symm.trans e) fun e => x.symm.trans e)
    · rcases e with e | e <;> cases x.symm.trans e
  · rcases wasPub e with x | x
    · exact ⟨a, t1.size, hh, LastWrite.new t1 a hya, hhr, pw l hlm x⟩
    · exact ⟨a, t1.size, hh, LastWrite.new t1 a hya, hhr, pw' l hlm x⟩
  · by_cases e2 : i = k
    · subst e2
      rcases wasPub e with x | x
      · exact h2.pubK l hlm x i hi (by show upd g.kn i _ i l; rw [upd_same]; exact x)
      · exact PermW.of (h2.own l i hlm x)
    · have hc' : g.kn i l := by
        have : upd g.kn k (fun l => mode' l = .pub) i l := hc
        rw [upd_ne _ _ e2] at this; exact this
      exact h2.pubK l hlm (hkn i l hc') i hi (by show upd g.kn k _ i l; rw [upd_ne _ _ e2]; exact hc')
  · exact (h2.deaf i hi hfi).trans (congrFun hdd i)
  · obtain ⟨r, r1, r2⟩ := h2.rels i i1 hi hri
    refine ⟨r, r1, fun hjo l hlm e => ?_⟩
    rcases hm' l with x | ⟨_, x⟩
    · exact r2 hjo l hlm (x.symm.trans e)
    · cases x.symm.trans e
end
end Go.Proofs.Ytbamamkjmfkghaa.Crw
