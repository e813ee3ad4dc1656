/- Layer 12's list in memory: nodes, what stands behind each on its levels. -/
import Derived.Test.YtnpjppnahfehnaaDoorPtr
import Derived.Test.YtnpjppnahfehnaaDoorLocks
import Derived.Conc.MuLone
import Derived.Laws.LoneSync
import Derived.IntWalk
import Derived.Deep.LoopGhost
namespace Go.Proofs.YtnpjppnahfehnaaDoor.Skip
set_option linter.unusedVariables false
set_option linter.unusedSimpArgs false
open Go.RowKit Go.Proofs.YtnpjppnahfehnaaDoorW.PrintWords Go.Proofs.YtnpjppnahfehnaaDoor.Kit Go.MuLone

abbrev TL : TypeId := 55
abbrev TN : TypeId := 47
abbrev TP : TypeId := 63
/-- A node: its block, its row's block, key, value, height. -/
structure Nd where
  p : Nat
  q : Nat
  k : ByteArray
  v : Int
  h : Nat
def ptr : Option Nat → Value
  | none => .pointer none
  | some p => .pointer (some ⟨p, 0, none⟩)
/-- The first of some nodes that stands on a level; behind them f. -/
def fst? (i : Nat) : List Nd → (Nat → Option Nat) → Option Nat
  | [], f => f i
  | y :: t, f => if i < y.h then some y.p else fst? i t f
/-- The last one on a level. -/
def lastAt (i : Nat) : Nd → List Nd → Nd
  | x, [] => x
  | x, y :: t => if i < y.h then lastAt i y t else lastAt i x t
def NodeB (w : World) (x : Nd) : Prop := Blk w x.p [.string x.k, .int .i64 x.v, .slice (some ⟨x.q, 0, none⟩) x.h x.h] TN
def NextB (w : World) (x : Nd) (g : Nat → Option Nat) : Prop := Blk w x.q ((List.range x.h).map (fun i => ptr (g i))) TP
def Links (w : World) : List Nd → (Nat → Option Nat) → Prop
  | [], _ => True
  | x :: t, f => NodeB w x ∧ NextB w x (fun i => fst? i t f) ∧ Links w t f

theorem fst_app (i : Nat) (a b : List Nd) (f : Nat → Option Nat) : fst? i (a ++ b) f = fst? i a (fun j => fst? j b f) := by
  induction a with
  | nil => rfl
  | cons y t ih => simp only [List.cons_append, fst?, ih]
theorem fst_none (i : Nat) (b : List Nd) (f : Nat → Option Nat) (h : ∀ y ∈ b, ¬ i < y.h) : fst? i b f = f i := by
  induction b with
  | nil => rfl
  | cons y t ih =>
    rw [fst?, if_neg (h y (List.mem_cons_self))]
    exact ih (fun z hz => h z (List.mem_cons_of_mem _ hz))
theorem fst_hit (i : Nat) (a b : List Nd) (y : Nd) (f : Nat → Option Nat) (h : ∀ z ∈ a, ¬ i < z.h) (hy : i < y.h) : fst? i (a ++ y :: b) f = some y.p := by
  rw [fst_app, fst_none i a _ h, fst?, if_pos hy]
theorem NextB.congr {w : World} {x : Nd} {g g' : Nat → Option Nat} (h : NextB w x g) (e : ∀ i, i < x.h → g i = g' i) : NextB w x g' := by
  have : (List.range x.h).map (fun i => ptr (g i)) = (List.range x.h).map (fun i => ptr (g' i)) := by
    apply List.map_congr_left
    intro i hi
    rw [e i (List.mem_range.1 hi)]
  unfold NextB
  rw [← this]
  exact h
theorem Links.split {w : World} (a b : List Nd) (f : Nat → Option Nat) : Links w (a ++ b) f ↔ Links w a (fun i => fst? i b f) ∧ Links w b f := by
  induction a with
  | nil => simp [Links]
  | cons x t ih =>
    simp only [List.cons_append, Links, ih]
    have e : (fun i => fst? i (t ++ b) f) = (fun i => fst? i t (fun j => fst? j b f)) := funext fun i => fst_app i t b f
    rw [e]
    constructor
    · rintro ⟨h1, h2, h3, h4⟩; exact ⟨⟨h1, h2, h3⟩, h4⟩
    · rintro ⟨⟨h1, h2, h3⟩, h4⟩; exact ⟨h1, h2, h3, h4⟩
theorem Links.congr {w : World} (l : List Nd) {f g : Nat → Option Nat} (H : Nat) (hH : ∀ x ∈ l, x.h ≤ H) (e : ∀ i, i < H → f i = g i) (h : Links w l f) : Links w l g := by
  have key : ∀ (t : List Nd) i, i < H → fst? i t f = fst? i t g := by
    intro t
    induction t with
    | nil => exact e
    | cons y t ih =>
      intro i hi
      simp only [fst?, ih i hi]
  induction l with
  | nil => trivial
  | cons x t ih =>
    obtain ⟨h1, h2, h3⟩ := h
    exact ⟨h1, h2.congr (fun i hi => key t i (Nat.lt_of_lt_of_le hi (hH x (List.mem_cons_self)))), ih (fun y hy => hH y (List.mem_cons_of_mem _ hy)) h3⟩
/-- The blocks of some nodes. -/
def Foot (l : List Nd) (i : Nat) : Prop := ∃ x ∈ l, i = x.p ∨ i = x.q
theorem Foot.nil (i : Nat) : ¬ Foot [] i := by rintro ⟨x, h, _⟩; simp at h
theorem Foot.head {x : Nd} {t : List Nd} {i : Nat} (h : i = x.p ∨ i = x.q) : Foot (x :: t) i := ⟨x, List.mem_cons_self, h⟩
theorem Foot.tail {x : Nd} {t : List Nd} {i : Nat} (h : Foot t i) : Foot (x :: t) i := by
  obtain ⟨y, hy, e⟩ := h
  exact ⟨y, List.mem_cons_of_mem _ hy, e⟩
theorem Links.only {S : Nat → Prop} {w w' : World} (ho : Only S w w') (l : List Nd) {f : Nat → Option Nat} (hS : ∀ i, Foot l i → ¬ S i) (h : Links w l f) : Links w' l f := by
  induction l with
  | nil => trivial
  | cons x t ih =>
    obtain ⟨h1, h2, h3⟩ := h
    exact ⟨ho.blk h1 (hS _ (Foot.head (Or.inl rfl))), ho.blk h2 (hS _ (Foot.head (Or.inr rfl))), ih (fun i hi => hS i hi.tail) h3⟩
theorem Links.below {w w' : World} (hb : Below w.heap.size w w') (l : List Nd) {f : Nat → Option Nat} (h : Links w l f) : Links w' l f :=
  Links.only (S := fun _ => False) (Only.ofBelow hb) l (fun _ _ => id) h
theorem Links.lt {w : World} {l : List Nd} {f : Nat → Option Nat} (h : Links w l f) {i : Nat} (hi : Foot l i) : i < w.heap.size := by
  induction l with
  | nil => exact absurd hi (Foot.nil i)
  | cons x t ih =>
    obtain ⟨h1, h2, h3⟩ := h
    obtain ⟨y, hy, e⟩ := hi
    rcases List.mem_cons.1 hy with rfl | hy
    · rcases e with rfl | rfl
      · exact h1.lt
      · exact h2.lt
    · exact ih h3 ⟨y, hy, e⟩
/-- What each block of theirs is. -/
theorem Links.typed {w : World} {l : List Nd} {f : Nat → Option Nat} (h : Links w l f) {i : Nat} (hi : Foot l i) : ∃ cs t, Blk w i cs t ∧ (t = TN ∨ t = TP) := by
  induction l with
  | nil => exact absurd hi (Foot.nil i)
  | cons x t ih =>
    obtain ⟨h1, h2, h3⟩ := h
    obtain ⟨y, hy, e⟩ := hi
    rcases List.mem_cons.1 hy with rfl | hy
    · rcases e with rfl | rfl
      · exact ⟨_, _, h1, Or.inl rfl⟩
      · exact ⟨_, _, h2, Or.inr rfl⟩
    · exact ih h3 ⟨y, hy, e⟩
theorem Links.node {w : World} {l : List Nd} {f : Nat → Option Nat} (h : Links w l f) {x : Nd} (hx : x ∈ l) : NodeB w x := by
  induction l with
  | nil => simp at hx
  | cons y t ih =>
    obtain ⟨h1, h2, h3⟩ := h
    rcases List.mem_cons.1 hx with rfl | hx
    · exact h1
    · exact ih h3 hx
theorem Links.pq {w : World} {l : List Nd} {f : Nat → Option Nat} (h : Links w l f) {x y : Nd} (hx : x ∈ l) (hy : y ∈ l) : x.p ≠ y.q := by
  have h1 := h.node hx
  have h2 : ∃ cs, Blk w y.q cs TP := by
    clear h1 hx x
    induction l with
    | nil => simp at hy
    | cons z t ih =>
      obtain ⟨a1, a2, a3⟩ := h
      rcases List.mem_cons.1 hy with rfl | hy
      · exact ⟨_, a2⟩
      · exact ih a3 hy
  intro e
  obtain ⟨cs, h2⟩ := h2
  have h1' := h1.out
  rw [e, h2.out] at h1'
  injection h1' with h1'
  injection h1' with _ h1'
  exact absurd h1' (by decide)

/-! the last one on a level -/
theorem lastAt_none (i : Nat) (b : List Nd) : ∀ x, (∀ y ∈ b, ¬ i < y.h) → lastAt i x b = x := by
  induction b with
  | nil => intro x _; rfl
  | cons y t ih =>
    intro x h
    rw [lastAt, if_neg (h y (List.mem_cons_self))]
    exact ih x (fun z hz => h z (List.mem_cons_of_mem _ hz))
theorem lastAt_app (i : Nat) (a b : List Nd) (y : Nd) (hy : i < y.h) : ∀ x, lastAt i x (a ++ y :: b) = lastAt i y b := by
  induction a with
  | nil => intro x; rw [List.nil_append, lastAt, if_pos hy]
  | cons z t ih =>
    intro x
    rw [List.cons_append, lastAt]
    split
    · exact ih z
    · exact ih x
/-- On a level: none, or a first one. -/
theorem first_in (i : Nat) (b : List Nd) : (∀ y ∈ b, ¬ i < y.h) ∨ ∃ b1 y b2, b = b1 ++ y :: b2 ∧ i < y.h ∧ ∀ z ∈ b1, ¬ i < z.h := by
  induction b with
  | nil => exact Or.inl (fun y hy => by simp at hy)
  | cons x t ih =>
    by_cases e : i < x.h
    · exact Or.inr ⟨[], x, t, rfl, e, fun z hz => by simp at hz⟩
    · rcases ih with h | ⟨b1, y, b2, rfl, h1, h2⟩
      · refine Or.inl (fun y hy => ?_)
        rcases List.mem_cons.1 hy with rfl | hy
        · exact e
        · exact h y hy
      · refine Or.inr ⟨x :: b1, y, b2, rfl, h1, fun z hz => ?_⟩
        rcases List.mem_cons.1 hz with rfl | hz
        · exact e
        · exact h2 z hz
/-- Where the last one on a level stands. -/
theorem lastAt_where (i : Nat) (b : List Nd) : ∀ x, i < x.h → ∃ a c, x :: b = a ++ lastAt i x b :: c ∧ i < (lastAt i x b).h ∧ ∀ y ∈ c, ¬ i < y.h := by
  induction b with
  | nil => intro x hx; exact ⟨[], [], rfl, hx, fun y hy => by simp at hy⟩
  | cons y t ih =>
    intro x hx
    rw [lastAt]
    by_cases e : i < y.h
    · rw [if_pos e]
      obtain ⟨a, c, h1, h2, h3⟩ := ih y e
      exact ⟨x :: a, c, by rw [h1]; rfl, h2, h3⟩
    · rw [if_neg e]
      obtain ⟨a, c, h1, h2, h3⟩ := ih x hx
      cases a with
      | nil =>
        rw [List.nil_append] at h1
        injection h1 with h4 h5
        refine ⟨[], y :: c, by rw [List.nil_append, ← h4, h5], h2, fun z hz => ?_⟩
        rcases List.mem_cons.1 hz with rfl | hz
        · exact e
        · exact h3 z hz
      | cons a0 a' =>
        rw [List.cons_append] at h1
        injection h1 with h4 h5
        subst h4
        exact ⟨x :: y :: a', c, by rw [show x :: y :: a' ++ lastAt i x t :: c = x :: y :: (a' ++ lastAt i x t :: c) from rfl, ← h5], h2, h3⟩
theorem lastAt_mem (i : Nat) (b : List Nd) (x : Nd) : lastAt i x b ∈ x :: b := by
  induction b generalizing x with
  | nil => simp [lastAt]
  | cons y t ih =>
    rw [lastAt]
    split
    · exact List.mem_cons_of_mem _ (ih y)
    · have := ih x
      rcases List.mem_cons.1 this with h | h
      · rw [h]; exact List.mem_cons_self
      · exact List.mem_cons_of_mem _ (List.mem_cons_of_mem _ h)
/-- What the last one on a level has behind it there. -/
theorem Links.last {w : World} {x : Nd} {b : List Nd} {f : Nat → Option Nat} (h : Links w (x :: b) f) (i : Nat) (hi : i < x.h) :
    NodeB w (lastAt i x b) ∧ i < (lastAt i x b).h ∧ w.cell? ⟨(lastAt i x b).q, i, none⟩ = some (ptr (f i)) ∧ w.frozen? ⟨(lastAt i x b).q, i, none⟩ = false := by
  obtain ⟨a, c, h1, h2, h3⟩ := lastAt_where i b x hi
  rw [h1, Links.split] at h
  obtain ⟨_, k1, k2, _⟩ := h
  refine ⟨k1, h2, ?_, k2.free i⟩
  have := k2.cell i (ptr (fst? i c f)) (by simp [h2])
  rw [fst_none i c f h3] at this
  exact this
/-- A store behind the last one on a level. -/
theorem Links.store {w : World} (j : Nat) (v : Option Nat) (b : List Nd) : ∀ (x : Nd) (f : Nat → Option Nat), ((x :: b).map (·.q)).Nodup → j < x.h → Links w (x :: b) f → (∀ y ∈ x :: b, ∀ z ∈ x :: b, y.p ≠ z.q) →
    Links (w.setCell ⟨(lastAt j x b).q, j, none⟩ (ptr v)) (x :: b) (fun i => if i = j then v else f i) := by
  intro x f hn hx h hpq
  obtain ⟨a, c, h1, h2, h3⟩ := lastAt_where j b x hx
  generalize lastAt j x b = y at *
  rw [h1] at hn h hpq ⊢
  rw [Links.split] at h ⊢
  obtain ⟨ka, k1, k2, kc⟩ := h
  have hq : ∀ z ∈ a ++ c, z.q ≠ y.q := by
    rw [List.map_append, List.map_cons] at hn
    obtain ⟨_, n2, n3⟩ := List.nodup_append.1 hn
    rw [List.nodup_cons] at n2
    intro z hz e
    rcases List.mem_append.1 hz with hz | hz
    · exact n3 _ (List.mem_map_of_mem hz) y.q (List.mem_cons_self) e
    · exact n2.1 (e ▸ List.mem_map_of_mem hz)
  have hm : y ∈ a ++ y :: c := List.mem_append_right _ List.mem_cons_self
  have ho : Only (fun i => i = y.q) w (w.setCell ⟨y.q, j, none⟩ (ptr v)) := Only.setCell (S := fun i => i = y.q) (Only.refl _ w) (p := ⟨y.q, j, none⟩) (Or.inl rfl) _
  have hf : ∀ l : List Nd, (∀ z ∈ l, z ∈ a ++ c) → ∀ i, Foot l i → ¬ i = y.q := by
    rintro l hl i ⟨z, hz, e | e⟩ he
    · have hz2 : z ∈ a ++ y :: c := by
        rcases List.mem_append.1 (hl z hz) with h | h
        · exact List.mem_append_left _ h
        · exact List.mem_append_right _ (List.mem_cons_of_mem _ h)
      exact hpq z hz2 y hm (e ▸ he)
    · exact hq z (hl z hz) (e ▸ he)
  have hfc : ∀ i, i ≠ j → fst? i c (fun i => if i = j then v else f i) = fst? i c f := by
    intro i hi
    have : ∀ l : List Nd, fst? i l (fun i => if i = j then v else f i) = fst? i l f := by
      intro l
      induction l with
      | nil => simp only [fst?]; rw [if_neg hi]
      | cons z t ih => simp only [fst?, ih]
    exact this c
  have hfj : ∀ (l : List Nd) i (f : Nat → Option Nat), (i = j → ∃ z ∈ l, j < z.h) → fst? i l (fun i => if i = j then v else f i) = fst? i l f := by
    intro l
    induction l with
    | nil =>
      intro i f hi
      simp only [fst?]
      rw [if_neg (fun e => by obtain ⟨z, hz, _⟩ := hi e; simp at hz)]
    | cons z t ih =>
      intro i f hi
      simp only [fst?]
      split
      · rfl
      · rename_i hzi
        refine ih i f (fun e => ?_)
        obtain ⟨z', hz', hj⟩ := hi e
        rcases List.mem_cons.1 hz' with rfl | hz'
        · exact absurd (e ▸ hj) hzi
        · exact ⟨z', hz', hj⟩
  refine ⟨?_, ?_, ?_, ?_⟩
  · -- those before
    have k := Links.only ho a (hf a (fun z hz => List.mem_append_left _ hz)) ka
    have e : (fun i => fst? i (y :: c) f) = (fun i => fst? i (y :: c) (fun i => if i = j then v else f i)) := by
      funext i
      exact (hfj (y :: c) i f (fun e => ⟨y, List.mem_cons_self, h2⟩)).symm
    rw [← e]
    exact k
  · exact ho.blk k1 (hpq y hm y hm)
  · have k := k2.put j (ptr v)
    have e : ((List.range y.h).map (fun i => ptr (fst? i c f))).set j (ptr v) = (List.range y.h).map (fun i => ptr (fst? i c (fun i => if i = j then v else f i))) := by
      apply List.ext_getElem (by simp)
      intro i a1 a2
      rw [List.getElem_set]
      simp only [List.getElem_map, List.getElem_range]
      by_cases e : j = i
      · subst e
        rw [if_pos rfl, fst_none _ _ _ h3, if_pos rfl]
      · rw [if_neg e, hfc i (fun e' => e e'.symm)]
    rw [e] at k
    exact k
  · have k := Links.only ho c (hf c (fun z hz => List.mem_append_right _ hz)) kc
    -- the ones behind have nothing on the level
    have : ∀ l : List Nd, (∀ z ∈ l, ¬ j < z.h) → Links (w.setCell ⟨y.q, j, none⟩ (ptr v)) l f → Links (w.setCell ⟨y.q, j, none⟩ (ptr v)) l (fun i => if i = j then v else f i) := by
      intro l
      induction l with
      | nil => exact fun _ _ => trivial
      | cons z t ih =>
        rintro hz ⟨a1, a2, a3⟩
        refine ⟨a1, a2.congr (fun i hi => ?_), ih (fun z hz' => hz z (List.mem_cons_of_mem _ hz')) a3⟩
        have hij : i ≠ j := fun e => hz z List.mem_cons_self (e ▸ hi)
        exact (hfj t i f (fun e => absurd e hij)).symm
    exact this c h3 k
end Go.Proofs.YtnpjppnahfehnaaDoor.Skip
