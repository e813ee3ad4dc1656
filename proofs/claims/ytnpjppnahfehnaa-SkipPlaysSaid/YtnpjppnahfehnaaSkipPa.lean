/- Merged by wip/tools/merge.py: SkipA SkipB SkipC SkipD SkipE SkipF SkipFG SkipG SkipH. -/
import Derived.Test.YtnpjppnahfehnaaPtr
import Derived.Test.YtnpjppnahfehnaaLocks
import Derived.Conc.MuLone
import Derived.Laws.LoneSync
import Derived.IntWalk
import Derived.Deep.LoopGhost
import Derived.Laws.Cover1
import Derived.Deep.CutBlock
import Derived.Outline
import Derived.Deep.DeepCutAuto
import Derived.StillTailTactics
/- Layer 12's list in memory: nodes, what stands behind each on its levels. -/
namespace Go.Proofs.Ytnpjppnahfehnaa.Skip
set_option linter.unusedVariables false
set_option linter.unusedSimpArgs false
open Go.RowKit Go.Proofs.YtnpjppnahfehnaaW.PrintWords Go.Proofs.Ytnpjppnahfehnaa.Kit Go.MuLone

abbrev TL : TypeId := 66
abbrev TN : TypeId := 80
abbrev TP : TypeId := 77
/-- A node: its block, its row's block, key, value, height. -/
structure Nd where
  p : Nat
  q : Nat
  k : ByteArray
  v : Int
  h : Nat
def ptr : Option Nat → Value
  | none => .pointer none
  | some p => .pointer (some ⟨p, 0, none⟩)
/-- The first of some nodes that stands on a level; behind them f. -/
def fst? (i : Nat) : List Nd → (Nat → Option Nat) → Option Nat
  | [], f => f i
  | y :: t, f => if i < y.h then some y.p else fst? i t f
/-- The last one on a level. -/
def lastAt (i : Nat) : Nd → List Nd → Nd
  | x, [] => x
  | x, y :: t => if i < y.h then lastAt i y t else lastAt i x t
def NodeB (w : World) (x : Nd) : Prop := Blk w x.p [.string x.k, .int .i64 x.v, .slice (some ⟨x.q, 0, none⟩) x.h x.h] TN
def NextB (w : World) (x : Nd) (g : Nat → Option Nat) : Prop := Blk w x.q ((List.range x.h).map (fun i => ptr (g i))) TP
def Links (w : World) : List Nd → (Nat → Option Nat) → Prop
  | [], _ => True
  | x :: t, f => NodeB w x ∧ NextB w x (fun i => fst? i t f) ∧ Links w t f

theorem fst_app (i : Nat) (a b : List Nd) (f : Nat → Option Nat) : fst? i (a ++ b) f = fst? i a (fun j => fst? j b f) := by
  induction a with
  | nil => rfl
  | cons y t ih => simp only [List.cons_append, fst?, ih]
theorem fst_none (i : Nat) (b : List Nd) (f : Nat → Option Nat) (h : ∀ y ∈ b, ¬ i < y.h) : fst? i b f = f i := by
  induction b with
  | nil => rfl
  | cons y t ih =>
    rw [fst?, if_neg (h y (List.mem_cons_self))]
    exact ih (fun z hz => h z (List.mem_cons_of_mem _ hz))
theorem fst_hit (i : Nat) (a b : List Nd) (y : Nd) (f : Nat → Option Nat) (h : ∀ z ∈ a, ¬ i < z.h) (hy : i < y.h) : fst? i (a ++ y :: b) f = some y.p := by
  rw [fst_app, fst_none i a _ h, fst?, if_pos hy]
theorem NextB.congr {w : World} {x : Nd} {g g' : Nat → Option Nat} (h : NextB w x g) (e : ∀ i, i < x.h → g i = g' i) : NextB w x g' := by
  have : (List.range x.h).map (fun i => ptr (g i)) = (List.range x.h).map (fun i => ptr (g' i)) := by
    apply List.map_congr_left
    intro i hi
    rw [e i (List.mem_range.1 hi)]
  unfold NextB
  rw [← this]
  exact h
theorem Links.split {w : World} (a b : List Nd) (f : Nat → Option Nat) : Links w (a ++ b) f ↔ Links w a (fun i => fst? i b f) ∧ Links w b f := by
  induction a with
  | nil => simp [Links]
  | cons x t ih =>
    simp only [List.cons_append, Links, ih]
    have e : (fun i => fst? i (t ++ b) f) = (fun i => fst? i t (fun j => fst? j b f)) := funext fun i => fst_app i t b f
    rw [e]
    constructor
    · rintro ⟨h1, h2, h3, h4⟩; exact ⟨⟨h1, h2, h3⟩, h4⟩
    · rintro ⟨⟨h1, h2, h3⟩, h4⟩; exact ⟨h1, h2, h3, h4⟩
theorem Links.congr {w : World} (l : List Nd) {f g : Nat → Option Nat} (H : Nat) (hH : ∀ x ∈ l, x.h ≤ H) (e : ∀ i, i < H → f i = g i) (h : Links w l f) : Links w l g := by
  have key : ∀ (t : List Nd) i, i < H → fst? i t f = fst? i t g := by
    intro t
    induction t with
    | nil => exact e
    | cons y t ih =>
      intro i hi
      simp only [fst?, ih i hi]
  induction l with
  | nil => trivial
  | cons x t ih =>
    obtain ⟨h1, h2, h3⟩ := h
    exact ⟨h1, h2.congr (fun i hi => key t i (Nat.lt_of_lt_of_le hi (hH x (List.mem_cons_self)))), ih (fun y hy => hH y (List.mem_cons_of_mem _ hy)) h3⟩
/-- The blocks of some nodes. -/
def Foot (l : List Nd) (i : Nat) : Prop := ∃ x ∈ l, i = x.p ∨ i = x.q
theorem Foot.nil (i : Nat) : ¬ Foot [] i := by rintro ⟨x, h, _⟩; simp at h
theorem Foot.head {x : Nd} {t : List Nd} {i : Nat} (h : i = x.p ∨ i = x.q) : Foot (x :: t) i := ⟨x, List.mem_cons_self, h⟩
theorem Foot.tail {x : Nd} {t : List Nd} {i : Nat} (h : Foot t i) : Foot (x :: t) i := by
  obtain ⟨y, hy, e⟩ := h
  exact ⟨y, List.mem_cons_of_mem _ hy, e⟩
theorem Links.only {S : Nat → Prop} {w w' : World} (ho : Only S w w') (l : List Nd) {f : Nat → Option Nat} (hS : ∀ i, Foot l i → ¬ S i) (h : Links w l f) : Links w' l f := by
  induction l with
  | nil => trivial
  | cons x t ih =>
    obtain ⟨h1, h2, h3⟩ := h
    exact ⟨ho.blk h1 (hS _ (Foot.head (Or.inl rfl))), ho.blk h2 (hS _ (Foot.head (Or.inr rfl))), ih (fun i hi => hS i hi.tail) h3⟩
theorem Links.below {w w' : World} (hb : Below w.heap.size w w') (l : List Nd) {f : Nat → Option Nat} (h : Links w l f) : Links w' l f :=
  Links.only (S := fun _ => False) (Only.ofBelow hb) l (fun _ _ => id) h
theorem Links.lt {w : World} {l : List Nd} {f : Nat → Option Nat} (h : Links w l f) {i : Nat} (hi : Foot l i) : i < w.heap.size := by
  induction l with
  | nil => exact absurd hi (Foot.nil i)
  | cons x t ih =>
    obtain ⟨h1, h2, h3⟩ := h
    obtain ⟨y, hy, e⟩ := hi
    rcases List.mem_cons.1 hy with rfl | hy
    · rcases e with rfl | rfl
      · exact h1.lt
      · exact h2.lt
    · exact ih h3 ⟨y, hy, e⟩
/-- What each block of theirs is. -/
theorem Links.typed {w : World} {l : List Nd} {f : Nat → Option Nat} (h : Links w l f) {i : Nat} (hi : Foot l i) : ∃ cs t, Blk w i cs t ∧ (t = TN ∨ t = TP) := by
  induction l with
  | nil => exact absurd hi (Foot.nil i)
  | cons x t ih =>
    obtain ⟨h1, h2, h3⟩ := h
    obtain ⟨y, hy, e⟩ := hi
    rcases List.mem_cons.1 hy with rfl | hy
    · rcases e with rfl | rfl
      · exact ⟨_, _, h1, Or.inl rfl⟩
      · exact ⟨_, _, h2, Or.inr rfl⟩
    · exact ih h3 ⟨y, hy, e⟩
theorem Links.node {w : World} {l : List Nd} {f : Nat → Option Nat} (h : Links w l f) {x : Nd} (hx : x ∈ l) : NodeB w x := by
  induction l with
  | nil => simp at hx
  | cons y t ih =>
    obtain ⟨h1, h2, h3⟩ := h
    rcases List.mem_cons.1 hx with rfl | hx
    · exact h1
    · exact ih h3 hx
theorem Links.pq {w : World} {l : List Nd} {f : Nat → Option Nat} (h : Links w l f) {x y : Nd} (hx : x ∈ l) (hy : y ∈ l) : x.p ≠ y.q := by
  have h1 := h.node hx
  have h2 : ∃ cs, Blk w y.q cs TP := by
    clear h1 hx x
    induction l with
    | nil => simp at hy
    | cons z t ih =>
      obtain ⟨a1, a2, a3⟩ := h
      rcases List.mem_cons.1 hy with rfl | hy
      · exact ⟨_, a2⟩
      · exact ih a3 hy
  intro e
  obtain ⟨cs, h2⟩ := h2
  have h1' := h1.out
  rw [e, h2.out] at h1'
  injection h1' with h1'
  injection h1' with _ h1'
  exact absurd h1' (by decide)

/-! the last one on a level -/
theorem lastAt_none (i : Nat) (b : List Nd) : ∀ x, (∀ y ∈ b, ¬ i < y.h) → lastAt i x b = x := by
  induction b with
  | nil => intro x _; rfl
  | cons y t ih =>
    intro x h
    rw [lastAt, if_neg (h y (List.mem_cons_self))]
    exact ih x (fun z hz => h z (List.mem_cons_of_mem _ hz))
theorem lastAt_app (i : Nat) (a b : List Nd) (y : Nd) (hy : i < y.h) : ∀ x, lastAt i x (a ++ y :: b) = lastAt i y b := by
  induction a with
  | nil => intro x; rw [List.nil_append, lastAt, if_pos hy]
  | cons z t ih =>
    intro x
    rw [List.cons_append, lastAt]
    split
    · exact ih z
    · exact ih x
/-- On a level: none, or a first one. -/
theorem first_in (i : Nat) (b : List Nd) : (∀ y ∈ b, ¬ i < y.h) ∨ ∃ b1 y b2, b = b1 ++ y :: b2 ∧ i < y.h ∧ ∀ z ∈ b1, ¬ i < z.h := by
  induction b with
  | nil => exact Or.inl (fun y hy => by simp at hy)
  | cons x t ih =>
    by_cases e : i < x.h
    · exact Or.inr ⟨[], x, t, rfl, e, fun z hz => by simp at hz⟩
    · rcases ih with h | ⟨b1, y, b2, rfl, h1, h2⟩
      · refine Or.inl (fun y hy => ?_)
        rcases List.mem_cons.1 hy with rfl | hy
        · exact e
        · exact h y hy
      · refine Or.inr ⟨x :: b1, y, b2, rfl, h1, fun z hz => ?_⟩
        rcases List.mem_cons.1 hz with rfl | hz
        · exact e
        · exact h2 z hz
/-- Where the last one on a level stands. -/
theorem lastAt_where (i : Nat) (b : List Nd) : ∀ x, i < x.h → ∃ a c, x :: b = a ++ lastAt i x b :: c ∧ i < (lastAt i x b).h ∧ ∀ y ∈ c, ¬ i < y.h := by
  induction b with
  | nil => intro x hx; exact ⟨[], [], rfl, hx, fun y hy => by simp at hy⟩
  | cons y t ih =>
    intro x hx
    rw [lastAt]
    by_cases e : i < y.h
    · rw [if_pos e]
      obtain ⟨a, c, h1, h2, h3⟩ := ih y e
      exact ⟨x :: a, c, by rw [h1]; rfl, h2, h3⟩
    · rw [if_neg e]
      obtain ⟨a, c, h1, h2, h3⟩ := ih x hx
      cases a with
      | nil =>
        rw [List.nil_append] at h1
        injection h1 with h4 h5
        refine ⟨[], y :: c, by rw [List.nil_append, ← h4, h5], h2, fun z hz => ?_⟩
        rcases List.mem_cons.1 hz with rfl | hz
        · exact e
        · exact h3 z hz
      | cons a0 a' =>
        rw [List.cons_append] at h1
        injection h1 with h4 h5
        subst h4
        exact ⟨x :: y :: a', c, by rw [show x :: y :: a' ++ lastAt i x t :: c = x :: y :: (a' ++ lastAt i x t :: c) from rfl, ← h5], h2, h3⟩
theorem lastAt_mem (i : Nat) (b : List Nd) (x : Nd) : lastAt i x b ∈ x :: b := by
  induction b generalizing x with
  | nil => simp [lastAt]
  | cons y t ih =>
    rw [lastAt]
    split
    · exact List.mem_cons_of_mem _ (ih y)
    · have := ih x
      rcases List.mem_cons.1 this with h | h
      · rw [h]; exact List.mem_cons_self
      · exact List.mem_cons_of_mem _ (List.mem_cons_of_mem _ h)
/-- What the last one on a level has behind it there. -/
theorem Links.last {w : World} {x : Nd} {b : List Nd} {f : Nat → Option Nat} (h : Links w (x :: b) f) (i : Nat) (hi : i < x.h) :
    NodeB w (lastAt i x b) ∧ i < (lastAt i x b).h ∧ w.cell? ⟨(lastAt i x b).q, i, none⟩ = some (ptr (f i)) ∧ w.frozen? ⟨(lastAt i x b).q, i, none⟩ = false := by
  obtain ⟨a, c, h1, h2, h3⟩ := lastAt_where i b x hi
  rw [h1, Links.split] at h
  obtain ⟨_, k1, k2, _⟩ := h
  refine ⟨k1, h2, ?_, k2.free i⟩
  have := k2.cell i (ptr (fst? i c f)) (by simp [h2])
  rw [fst_none i c f h3] at this
  exact this
/-- A store behind the last one on a level. -/
theorem Links.store {w : World} (j : Nat) (v : Option Nat) (b : List Nd) : ∀ (x : Nd) (f : Nat → Option Nat), ((x :: b).map (·.q)).Nodup → j < x.h → Links w (x :: b) f → (∀ y ∈ x :: b, ∀ z ∈ x :: b, y.p ≠ z.q) →
    Links (w.setCell ⟨(lastAt j x b).q, j, none⟩ (ptr v)) (x :: b) (fun i => if i = j then v else f i) := by
  intro x f hn hx h hpq
  obtain ⟨a, c, h1, h2, h3⟩ := lastAt_where j b x hx
  generalize lastAt j x b = y at *
  rw [h1] at hn h hpq ⊢
  rw [Links.split] at h ⊢
  obtain ⟨ka, k1, k2, kc⟩ := h
  have hq : ∀ z ∈ a ++ c, z.q ≠ y.q := by
    rw [List.map_append, List.map_cons] at hn
    obtain ⟨_, n2, n3⟩ := List.nodup_append.1 hn
    rw [List.nodup_cons] at n2
    intro z hz e
    rcases List.mem_append.1 hz with hz | hz
    · exact n3 _ (List.mem_map_of_mem hz) y.q (List.mem_cons_self) e
    · exact n2.1 (e ▸ List.mem_map_of_mem hz)
  have hm : y ∈ a ++ y :: c := List.mem_append_right _ List.mem_cons_self
  have ho : Only (fun i => i = y.q) w (w.setCell ⟨y.q, j, none⟩ (ptr v)) := Only.setCell (S := fun i => i = y.q) (Only.refl _ w) (p := ⟨y.q, j, none⟩) (Or.inl rfl) _
  have hf : ∀ l : List Nd, (∀ z ∈ l, z ∈ a ++ c) → ∀ i, Foot l i → ¬ i = y.q := by
    rintro l hl i ⟨z, hz, e | e⟩ he
    · have hz2 : z ∈ a ++ y :: c := by
        rcases List.mem_append.1 (hl z hz) with h | h
        · exact List.mem_append_left _ h
        · exact List.mem_append_right _ (List.mem_cons_of_mem _ h)
      exact hpq z hz2 y hm (e ▸ he)
    · exact hq z (hl z hz) (e ▸ he)
  have hfc : ∀ i, i ≠ j → fst? i c (fun i => if i = j then v else f i) = fst? i c f := by
    intro i hi
    have : ∀ l : List Nd, fst? i l (fun i => if i = j then v else f i) = fst? i l f := by
      intro l
      induction l with
      | nil => simp only [fst?]; rw [if_neg hi]
      | cons z t ih => simp only [fst?, ih]
    exact this c
  have hfj : ∀ (l : List Nd) i (f : Nat → Option Nat), (i = j → ∃ z ∈ l, j < z.h) → fst? i l (fun i => if i = j then v else f i) = fst? i l f := by
    intro l
    induction l with
    | nil =>
      intro i f hi
      simp only [fst?]
      rw [if_neg (fun e => by obtain ⟨z, hz, _⟩ := hi e; simp at hz)]
    | cons z t ih =>
      intro i f hi
      simp only [fst?]
      split
      · rfl
      · rename_i hzi
        refine ih i f (fun e => ?_)
        obtain ⟨z', hz', hj⟩ := hi e
        rcases List.mem_cons.1 hz' with rfl | hz'
        · exact absurd (e ▸ hj) hzi
        · exact ⟨z', hz', hj⟩
  refine ⟨?_, ?_, ?_, ?_⟩
  · -- those before
    have k := Links.only ho a (hf a (fun z hz => List.mem_append_left _ hz)) ka
    have e : (fun i => fst? i (y :: c) f) = (fun i => fst? i (y :: c) (fun i => if i = j then v else f i)) := by
      funext i
      exact (hfj (y :: c) i f (fun e => ⟨y, List.mem_cons_self, h2⟩)).symm
    rw [← e]
    exact k
  · exact ho.blk k1 (hpq y hm y hm)
  · have k := k2.put j (ptr v)
    have e : ((List.range y.h).map (fun i => ptr (fst? i c f))).set j (ptr v) = (List.range y.h).map (fun i => ptr (fst? i c (fun i => if i = j then v else f i))) := by
      apply List.ext_getElem (by simp)
      intro i a1 a2
      rw [List.getElem_set]
      simp only [List.getElem_map, List.getElem_range]
      by_cases e : j = i
      · subst e
        rw [if_pos rfl, fst_none _ _ _ h3, if_pos rfl]
      · rw [if_neg e, hfc i (fun e' => e e'.symm)]
    rw [e] at k
    exact k
  · have k := Links.only ho c (hf c (fun z hz => List.mem_append_right _ hz)) kc
    -- the ones behind have nothing on the level
    have : ∀ l : List Nd, (∀ z ∈ l, ¬ j < z.h) → Links (w.setCell ⟨y.q, j, none⟩ (ptr v)) l f → Links (w.setCell ⟨y.q, j, none⟩ (ptr v)) l (fun i => if i = j then v else f i) := by
      intro l
      induction l with
      | nil => exact fun _ _ => trivial
      | cons z t ih =>
        rintro hz ⟨a1, a2, a3⟩
        refine ⟨a1, a2.congr (fun i hi => ?_), ih (fun z hz' => hz z (List.mem_cons_of_mem _ hz')) a3⟩
        have hij : i ≠ j := fun e => hz z List.mem_cons_self (e ▸ hi)
        exact (hfj t i f (fun e => absurd e hij)).symm
    exact this c h3 k
end Go.Proofs.Ytnpjppnahfehnaa.Skip
/- Layer 12's list: the atomics below it; before. -/
namespace Go.Proofs.Ytnpjppnahfehnaa.Skip
set_option linter.unusedVariables false
set_option linter.unusedSimpArgs false
open Go.RowKit Go.Proofs.YtnpjppnahfehnaaW.PrintWords Go.Proofs.Ytnpjppnahfehnaa.Kit Go.MuLone

theorem i64Load (b o : Nat) (v : Int) (w : World) (h : w.cell? ⟨b, o, none⟩ = some (.int .i64 v)) :
    Calls Try.prog 26 #[.pointer (some ⟨b, o, none⟩)] w fun e w' => e = .returned (.int .i64 v) ∧ w = w' := by
  have ha := run_call_load (P := Try.prog) Try.func41 (by kernel_rfl) (by kernel_rfl) (by kernel_rfl) .i64 (by kernel_rfl) h
  go_enter Try.func26, Try.ntmps26
  go_wp2
  go_ret
  exact ⟨rfl, rfl⟩
theorem i64Store (b o : Nat) (v u : Int) (w : World) (h : w.cell? ⟨b, o, none⟩ = some (.int .i64 u)) (z : w.frozen? ⟨b, o, none⟩ = false) :
    Calls Try.prog 46 #[.pointer (some ⟨b, o, none⟩), .int .i64 v] w fun e w' => e = .returned (.tuple #[]) ∧ w.setCell ⟨b, o, none⟩ (.int .i64 v) = w' := by
  have ha := run_call_store (P := Try.prog) (k := .i64) (y := v) Try.func58 (by kernel_rfl) (by kernel_rfl) (by kernel_rfl) (by kernel_rfl) h z
  go_enter Try.func46, Try.ntmps46
  go_wp2
  go_end0
  exact ⟨rfl, rfl⟩
theorem infoN : ∃ i, Try.prog.info? TN = some i := Option.isSome_iff_exists.1 (by kernel_rfl)
/-- A pointer's node, if it has one. -/
def IsN (w : World) (o : Option Nat) : Prop := ∀ p, o = some p → ∃ x y z, Blk w p [x, y, z] TN
theorem IsN.below {w w' : World} {o : Option Nat} (h : IsN w o) (hb : Below w.heap.size w w') : IsN w' o := fun p hp => by
  obtain ⟨x, y, z, hx⟩ := h p hp
  exact ⟨x, y, z, hx.belowSize hb⟩
theorem pload (b o : Nat) (q : Option Nat) (w : World) (h : w.cell? ⟨b, o, none⟩ = some (ptr q)) (hq : IsN w q) :
    Calls Try.prog 24 #[.pointer (some ⟨b, o, none⟩)] w fun e w' => e = .returned (ptr q) ∧ w = w' := by
  cases q with
  | none =>
    have h : w.cell? ⟨b, o, none⟩ = some (.pointer none) := h
    have ha := run_call_loadp (P := Try.prog) Try.func40 (by kernel_rfl) (by kernel_rfl) (by kernel_rfl) (by kernel_rfl) h
    have hv := run_convert_nil_from (P := Try.prog) Try.underlying75 Try.underlying60
    go_enter Try.func24, Try.ntmps24
    go_wp2
    go_ret
    exact ⟨rfl, rfl⟩
  | some g =>
    obtain ⟨x, y, z, hb⟩ := hq g rfl
    have h : w.cell? ⟨b, o, none⟩ = some (.pointer (some ⟨g, 0, none⟩)) := h
    have ha := run_call_loadp (P := Try.prog) Try.func40 (by kernel_rfl) (by kernel_rfl) (by kernel_rfl) (by kernel_rfl) h
    obtain ⟨i, hi⟩ := infoN
    have hv := run_convert_from (P := Try.prog) Try.underlying75 Try.underlying60 hi hb (by kernel_rfl)
    clear hi hq
    go_enter Try.func24, Try.ntmps24
    go_wp2
    go_ret
    exact ⟨rfl, rfl⟩
theorem pstore (b o : Nat) (q : Option Nat) (u : Value) (w : World) (h : w.cell? ⟨b, o, none⟩ = some u) (z : w.frozen? ⟨b, o, none⟩ = false) (hq : IsN w q) :
    Calls Try.prog 47 #[.pointer (some ⟨b, o, none⟩), ptr q] w fun e w' => e = .returned (.tuple #[]) ∧ w.setCell ⟨b, o, none⟩ (ptr q) = w' := by
  cases q with
  | none =>
    have ha := run_call_storep (P := Try.prog) (q := none) Try.func59 (by kernel_rfl) (by kernel_rfl) (by kernel_rfl) (by kernel_rfl) h z
    have hv := run_convert_nil_to (P := Try.prog) Try.underlying60 Try.underlying75 w
    simp only [ptr]
    go_enter Try.func47, Try.ntmps47
    go_wp2
    go_end0
    exact ⟨rfl, rfl⟩
  | some g =>
    obtain ⟨x, y, zz, hb⟩ := hq g rfl
    have ha := run_call_storep (P := Try.prog) (q := some ⟨g, 0, none⟩) Try.func59 (by kernel_rfl) (by kernel_rfl) (by kernel_rfl) (by kernel_rfl) h z
    have hv := run_convert_to_unsafe (P := Try.prog) Try.underlying60 Try.underlying75 (by kernel_rfl) (hb.cell 0 _ rfl)
    clear hq
    simp only [ptr]
    go_enter Try.func47, Try.ntmps47
    go_wp2
    go_end0
    exact ⟨rfl, rfl⟩
end Go.Proofs.Ytnpjppnahfehnaa.Skip
/- Layer 12's list: before. -/
namespace Go.Proofs.Ytnpjppnahfehnaa.Skip
set_option linter.unusedVariables false
set_option linter.unusedSimpArgs false
open Go.RowKit Go.Proofs.YtnpjppnahfehnaaW.PrintWords Go.Proofs.Ytnpjppnahfehnaa.Kit Go.MuLone

abbrev TA : TypeId := 81
abbrev ltB (a b : ByteArray) : Bool := Op.bytesLess a.toList b.toList
theorem zeroA (W : World) : (zeroValue TA).run Try.prog W = .ok (.agg (List.replicate 16 (.pointer none)).toArray) W := by kernel_rfl
/-- The array out, its levels from c on set. -/
def outC (hd : Nd) (lo : List Nd) (c : Nat) : List Value := (List.range 16).map (fun l => if c ≤ l then ptr (some (lastAt l hd lo).p) else .pointer none)
def outV (hd : Nd) (lo : List Nd) : Value := .agg (outC hd lo 0).toArray
theorem outC_len (hd : Nd) (lo : List Nd) (c : Nat) : (outC hd lo c).length = 16 := by unfold outC; simp
theorem outC_at (hd : Nd) (lo : List Nd) (c i : Nat) (hi : i < 16) : (outC hd lo c)[i]? = some (if c ≤ i then ptr (some (lastAt i hd lo).p) else .pointer none) := by
  unfold outC
  rw [List.getElem?_map, List.getElem?_range hi]
  rfl
theorem outC_start (hd : Nd) (lo : List Nd) : outC hd lo 16 = List.replicate 16 (.pointer none) := by
  apply List.ext_getElem?
  intro i
  by_cases hi : i < 16
  · rw [outC_at hd lo 16 i hi, if_neg (by omega), List.getElem?_replicate, if_pos hi]
  · rw [List.getElem?_eq_none (by rw [outC_len]; omega), List.getElem?_eq_none (by rw [List.length_replicate]; omega)]
theorem outC_set (hd : Nd) (lo : List Nd) (c : Nat) (hc : c < 16) : (outC hd lo (c + 1)).set c (ptr (some (lastAt c hd lo).p)) = outC hd lo c := by
  apply List.ext_getElem?
  intro i
  rw [List.getElem?_set, outC_len]
  by_cases e : c = i
  · subst e
    rw [if_pos rfl, if_pos hc, outC_at hd lo c c hc, if_pos (Nat.le_refl _)]
  · rw [if_neg e]
    by_cases hi : i < 16
    · rw [outC_at hd lo _ i hi, outC_at hd lo _ i hi]
      by_cases e2 : c + 1 ≤ i
      · rw [if_pos e2, if_pos (by omega)]
      · rw [if_neg e2, if_neg (by omega)]
    · rw [List.getElem?_eq_none (by rw [outC_len]; omega), List.getElem?_eq_none (by rw [outC_len]; omega)]
theorem outC_get (hd : Nd) (lo : List Nd) (i : Nat) (hi : i < 16) : (outC hd lo 0)[i]? = some (ptr (some (lastAt i hd lo).p)) := by
  rw [outC_at hd lo 0 i hi, if_pos (Nat.zero_le _)]

/-- What a walk down the levels knows: below level c it stands at x, b is between x and the key. -/
structure Pos (w : World) (hd : Nd) (lo hi : List Nd) (c : Nat) (x : Nd) (b : List Nd) : Prop where
  lnk : Links w (x :: (b ++ hi)) (fun _ => none)
  ht : c ≤ x.h
  last : ∀ i, i < c → lastAt i x b = lastAt i hd lo
  sub : ∀ y ∈ b, y ∈ lo
theorem Pos.node {w : World} {hd : Nd} {lo hi : List Nd} {c : Nat} {x : Nd} {b : List Nd} (h : Pos w hd lo hi c x b) : NodeB w x := h.lnk.1
theorem Links.isN {w : World} {l : List Nd} {f : Nat → Option Nat} (h : Links w l f) (i : Nat) (hf : IsN w (f i)) : IsN w (fst? i l f) := by
  induction l with
  | nil => exact hf
  | cons x t ih =>
    rw [fst?]
    split
    · intro p hp
      injection hp with hp
      subst hp
      exact ⟨_, _, _, h.1⟩
    · exact ih h.2.2
theorem IsN.nil (w : World) : IsN w none := fun p hp => by cases hp
/-- What stands in x's row on a level. -/
theorem Pos.cell {w : World} {hd : Nd} {lo hi : List Nd} {c : Nat} {x : Nd} {b : List Nd} (h : Pos w hd lo hi c x b) (i : Nat) (hi' : i < c) :
    w.cell? ⟨x.q, i, none⟩ = some (ptr (fst? i (b ++ hi) (fun _ => none))) ∧ IsN w (fst? i (b ++ hi) (fun _ => none)) := by
  have := h.ht
  exact ⟨h.lnk.2.1.cell i _ (by rw [List.getElem?_map, List.getElem?_range (by omega)]; rfl), h.lnk.2.2.isN i (IsN.nil w)⟩
theorem Pos.step {w : World} {hd : Nd} {lo hi : List Nd} {c : Nat} {x : Nd} {b1 b2 : List Nd} {y : Nd} (h : Pos w hd lo hi c x (b1 ++ y :: b2)) (hc : c ≤ y.h) : Pos w hd lo hi c y b2 where
  lnk := by
    have := h.lnk.2.2
    rw [List.append_assoc, Links.split] at this
    exact this.2
  ht := hc
  last := fun i hi => by
    rw [← h.last i hi]
    exact (lastAt_app i b1 b2 y (by omega) x).symm
  sub := fun z hz => h.sub z (List.mem_append_right _ (List.mem_cons_of_mem _ hz))
theorem Pos.down {w : World} {hd : Nd} {lo hi : List Nd} {c : Nat} {x : Nd} {b : List Nd} (h : Pos w hd lo hi (c + 1) x b) (hb : ∀ y ∈ b, ¬ c < y.h) : Pos w hd lo hi c x b ∧ lastAt c hd lo = x := by
  have hh := h.ht
  exact ⟨⟨h.lnk, by omega, fun i hi => h.last i (by omega), h.sub⟩, by rw [← h.last c (by omega)]; exact lastAt_none c b x hb⟩
theorem Pos.below {w w' : World} {hd : Nd} {lo hi : List Nd} {c : Nat} {x : Nd} {b : List Nd} (h : Pos w hd lo hi c x b) (hb : Below w.heap.size w w') : Pos w' hd lo hi c x b :=
  ⟨h.lnk.below hb, h.ht, h.last, h.sub⟩
theorem Pos.only {w w' : World} {S : Nat → Prop} {hd : Nd} {lo hi : List Nd} {c : Nat} {x : Nd} {b : List Nd} (h : Pos w hd lo hi c x b) (ho : Only S w w') (hS : ∀ i, Foot (x :: (b ++ hi)) i → ¬ S i) : Pos w' hd lo hi c x b :=
  ⟨h.lnk.only ho _ hS, h.ht, h.last, h.sub⟩

theorem Blk.uniq {w : World} {b : Nat} {cs cs' : List Value} {t t' : TypeId} (h : Blk w b cs t) (h' : Blk w b cs' t') : t = t' := by
  have e := h.out.symm.trans h'.out
  simp only [Option.some.injEq, Obj.cells.injEq] at e
  exact e.2.1
/-- A block of another type is none of theirs. -/
theorem Links.off {w : World} {l : List Nd} {f : Nat → Option Nat} (h : Links w l f) {g : Nat} {cs : List Value} {t : TypeId} (hb : Blk w g cs t) (h1 : t ≠ TN) (h2 : t ≠ TP) : ∀ i, Foot l i → ¬ i = g := by
  rintro i hi rfl
  obtain ⟨cs', t', hb', ht⟩ := h.typed hi
  have := Blk.uniq hb hb'
  rcases ht with rfl | rfl
  · exact h1 this
  · exact h2 this
theorem Pos.far {w : World} {hd : Nd} {lo hi : List Nd} {c : Nat} {x : Nd} {b : List Nd} (h : Pos w hd lo hi c x b) {g : Nat} {cs : List Value} {t : TypeId} (hb : Blk w g cs t) (h1 : t ≠ TN) (h2 : t ≠ TP) (o : Nat) (v : Value) : Pos (w.setCell ⟨g, o, none⟩ v) hd lo hi c x b :=
  h.only (S := fun i => i = g) (Only.setCell (S := fun i => i = g) (Only.refl _ w) (p := ⟨g, o, none⟩) (Or.inl rfl) _) (h.lnk.off hb h1 h2)

set_option maxRecDepth 100000 in
set_option maxHeartbeats 4000000 in
theorem beforeCalls (g : Nat) (hd : Nd) (lo hi : List Nd) (key : ByteArray) (w : World) (hc : w.cell? ⟨g, 3, none⟩ = some (.pointer (some ⟨hd.p, 0, none⟩))) (hl : Links w (hd :: (lo ++ hi)) (fun _ => none)) (hh : hd.h = 16)
    (hlo : ∀ x ∈ lo, ltB x.k key = true) (hhi : ∀ x ∈ hi, ltB x.k key = false) :
    Calls Try.prog 23 #[.pointer (some ⟨g, 0, none⟩), .string key] w fun e w' => e = .returned (outV hd lo) ∧ Below w.heap.size w w' := by
  have HLt := Aside0.mk hl
  have hz := zeroA
  have HZ := Aside0.mk (outC_start hd lo)
  have HLo := Aside0.mk hlo
  have HHi := Aside0.mk hhi
  have HP0 : Aside0 (Pos w hd lo hi 16 hd lo) := ⟨⟨hl, by omega, fun _ _ => rfl, fun _ h => h⟩⟩
  have HF0 : Aside0 (∀ i, Foot (hd :: (lo ++ hi)) i → i < w.heap.size) := ⟨fun i => hl.lt⟩
  clear hl hlo hhi hh
  have hne : ¬ (List.replicate 16 (Value.pointer none)).toArray = #[] := by simp
  have hsz : (List.replicate 16 (Value.pointer none)).toArray.size = 16 := by simp
  obtain ⟨Z, hZ⟩ : ∃ Z, Z = (List.replicate 16 (Value.pointer none)).toArray := ⟨_, rfl⟩
  have HZ2 : Aside0 (Z.toList = outC hd lo 16) := ⟨by rw [hZ, HZ.out]⟩
  rw [← hZ] at hne hsz
  simp only [← hZ] at hz
  clear hZ HZ
  go_enter Try.func23, Try.ntmps23
  go_upto_region 2 with (fail)
  have hgl : g < w.heap.size := World.block_lt_of_cell? w _ hc
  obtain ⟨W, hW⟩ : ∃ W, W = (w.alloc (.cells Z TA)).alloc (.cells Z TA) := ⟨_, rfl⟩
  have hb0 : Below w.heap.size w W := by rw [hW]; exact ((Below.refl _ _).alloc (Nat.le_refl _) _).alloc (by simp) _
  have HB : Aside0 (Below w.heap.size w W) := ⟨hb0⟩
  have HX : Aside0 (Blk W w.heap.size (outC hd lo 16) TA) := ⟨by rw [hW, ← HZ2.out]; exact (Blk.newA w _ _).alloc _⟩
  have HY : Aside0 (Blk W (w.heap.size + 1) (outC hd lo 16) TA) := ⟨by rw [hW, ← HZ2.out]; have := Blk.newA (w.alloc (.cells Z TA)) Z TA; simpa using this⟩
  have HP := Aside0.mk (HP0.out.below hb0)
  have hcW : W.cell? ⟨g, 3, none⟩ = some (.pointer (some ⟨hd.p, 0, none⟩)) := pw_cell_below hb0 hc
  rw [← hW]
  clear hW hb0 hc HZ2 HP0 hz hne hsz HLt
  go_wp2_with fail
  clear hcW
  go_loopw [6, 7] (fun a i wr => ∃ (c : Nat) (x : Nd) (b : List Nd), c ≤ 16 ∧ a = .pointer (some ⟨x.p, 0, none⟩) ∧ i = .int .i64 ((c : Int) - 1) ∧ Aside0 (Pos wr hd lo hi c x b) ∧ Aside0 (Blk wr w.heap.size (outC hd lo 16) TA) ∧ Aside0 (Blk wr (w.heap.size + 1) (outC hd lo c) TA) ∧ Aside0 (Below w.heap.size w wr)) (fun _ i _ => (intOf i + 1).toNat)
  case atStart => exact ⟨16, hd, lo, Nat.le_refl _, rfl, rfl, HP, HX, HY, HB⟩
  case round =>
    clear HP HX HY HB
    obtain ⟨c, x, b, hcl, rfl, rfl, HP, HX, HY, HB⟩ := hrel
    cases c with
    | zero =>
      have hsz : (outC hd lo 0).toArray.size = 16 := by simp [outC_len]
      have HS : Aside0 ((outC hd lo 16).toArray.size = (outC hd lo 0).toArray.size) := ⟨by simp [outC_len]⟩
      have HI : Aside0 ((Try.prog.info? TA).map (·.size) = some (outC hd lo 0).toArray.size) := ⟨by rw [hsz]; kernel_rfl⟩
      have H1 : Aside0 ((outC hd lo 0).toArray.all (·.oneCell') = true) := ⟨by
        rw [Array.all_eq_true_iff_forall_mem]
        intro v hv
        simp only [List.mem_toArray, outC, List.mem_map] at hv
        obtain ⟨l, _, rfl⟩ := hv
        split <;> rfl⟩
      clear hsz HF0
      go_wp2_with (first
        | (with_reducible refine wpList_load_row rfl TA (.tmp 5) rfl (w.heap.size + 1) rfl TA (outC hd lo 0).toArray (0, 0) _ HY.out.out Try.underlying81 rfl HI.out ?_)
        | (with_reducible refine wpList_store_row rfl TA (.tmp 4) (.tmp 38) rfl w.heap.size (outC hd lo 0).toArray rfl rfl TA (outC hd lo 16).toArray HX.out.out HI.out HS.out H1.out ?_))
      have hbb : Below w.heap.size w (wr.setRow w.heap.size (outC hd lo 0).toArray) := ⟨HB.out.os, HB.out.tape, HB.out.output, by rw [setRow_size]; exact HB.out.size, fun k hk => by rw [setRow_other _ _ _ _ (by omega)]; exact HB.out.block k hk⟩
      exact bodyPost_ret (v := outV hd lo) (results_cell_row rfl _ _ _ TA _ (0, 0) _ rfl (setRow_heap _ _ _ _ _ _ HX.out.out) Try.underlying81 rfl HI.out) rfl ⟨rfl, hbb⟩
    | succ c =>
      have e0 : ((c + 1 : Nat) : Int) - 1 = (c : Int) := by omega
      rw [e0]
      clear e0
      go_wp2_with fail
      go_loopg [6] b.length (fun n a wz => ∃ (x : Nd) (b : List Nd), n = b.length ∧ a = .pointer (some ⟨x.p, 0, none⟩) ∧ Aside0 (Pos wr hd lo hi (c + 1) x b) ∧ wz = wr)
      case atStart => exact ⟨x, b, rfl, rfl, HP, rfl⟩
      case round =>
        clear HP
        obtain ⟨y, b', rfl, rfl, HP, rfl⟩ := hrel
        have hnode := HP.out.node
        have hn2 := hnode.cell 2 _ rfl
        obtain ⟨hq, hisn⟩ := HP.out.cell c (Nat.lt_succ_self c)
        have hyh := HP.out.ht
        have hlt : (c : Int) < (y.h : Int) := by omega
        rcases first_in c b' with hno | ⟨b1, y2, b2, rfl, hc2, hn1⟩
        · have HD := Aside0.mk (HP.out.down hno)
          have hend : ∃ q : Option Nat, fst? c (b' ++ hi) (fun _ => none) = q ∧ (q = none ∨ ∃ z, z ∈ hi ∧ q = some z.p) := by
            rw [fst_app, fst_none c b' _ hno]
            rcases first_in c hi with h3 | ⟨h1, z, h2, rfl, hz1, hz2⟩
            · exact ⟨none, fst_none c hi _ h3, Or.inl rfl⟩
            · exact ⟨some z.p, fst_hit c h1 h2 z _ hz2 hz1, Or.inr ⟨z, List.mem_append_right _ List.mem_cons_self, rfl⟩⟩
          obtain ⟨q, hqe, hq3⟩ := hend
          rw [hqe] at hq hisn
          have HNd := Aside0.mk (fun z (hz : z ∈ hi) => (show NodeB _ z from HP.out.lnk.2.2.node (List.mem_append_right _ hz)))
          clear hqe hno hyh HP
          have hfy := HY.out.free c
          have hcy := HY.out.cell c _ (outC_at hd lo (c + 1) c (by omega))
          rw [if_neg (by omega)] at hcy
          have hc16 : (c : Int) < 16 := by omega
          rcases hq3 with rfl | ⟨z, hz, rfl⟩
          · have HL := Aside0.mk (pload y.q c _ _ hq hisn)
            clear hq hisn
            go_wp2_with fail
            refine HL.out.mono ?_
            rintro e w' ⟨rfl, rfl⟩
            clear HL
            simp only [ptr]
            have HPn := Aside0.mk (HD.out.1.far HY.out (by decide) (by decide) c (.pointer (some ⟨y.p, 0, none⟩)))
            have HXn := Aside0.mk (HX.out.far (a := ⟨w.heap.size + 1, c, none⟩) (by simp) (.pointer (some ⟨y.p, 0, none⟩)))
            have HYn := Aside0.mk (HY.out.put c (.pointer (some ⟨y.p, 0, none⟩)))
            have HBn := Aside0.mk (HB.out.setCell (p := ⟨w.heap.size + 1, c, none⟩) (by simp) (.pointer (some ⟨y.p, 0, none⟩)))
            have HE : Aside0 ((outC hd lo (c + 1)).set c (.pointer (some ⟨y.p, 0, none⟩)) = outC hd lo c) := ⟨by
              have := outC_set hd lo c (by omega)
              rw [HD.out.2] at this
              exact this⟩
            rw [HE.out] at HYn
            clear HX HY HB HE
            go_wp2
            go_roundw
            case rel => exact ⟨c, y, b', by omega, rfl, rfl, HPn, HXn, HYn, HBn⟩
            case measure => simp [intOf]
          · have HL := Aside0.mk (pload y.q c _ _ hq hisn)
            have hzn := (HNd.out z hz).cell 0 _ rfl
            have hzk : Op.bytesLess z.k.toList key.toList = false := HHi.out z hz
            clear hq hisn hz
            go_wp2_with fail
            refine HL.out.mono ?_
            rintro e w' ⟨rfl, rfl⟩
            clear HL
            simp only [ptr]
            have HPn := Aside0.mk (HD.out.1.far HY.out (by decide) (by decide) c (.pointer (some ⟨y.p, 0, none⟩)))
            have HXn := Aside0.mk (HX.out.far (a := ⟨w.heap.size + 1, c, none⟩) (by simp) (.pointer (some ⟨y.p, 0, none⟩)))
            have HYn := Aside0.mk (HY.out.put c (.pointer (some ⟨y.p, 0, none⟩)))
            have HBn := Aside0.mk (HB.out.setCell (p := ⟨w.heap.size + 1, c, none⟩) (by simp) (.pointer (some ⟨y.p, 0, none⟩)))
            have HE : Aside0 ((outC hd lo (c + 1)).set c (.pointer (some ⟨y.p, 0, none⟩)) = outC hd lo c) := ⟨by
              have := outC_set hd lo c (by omega)
              rw [HD.out.2] at this
              exact this⟩
            rw [HE.out] at HYn
            clear HX HY HB HE
            go_wp2
            go_roundw
            case rel => exact ⟨c, y, b', by omega, rfl, rfl, HPn, HXn, HYn, HBn⟩
            case measure => simp [intOf]
        · rw [List.append_assoc, List.cons_append, fst_hit c b1 (b2 ++ hi) y2 _ hn1 hc2] at hq hisn
          have HL := Aside0.mk (pload y.q c _ _ hq hisn)
          have HP2 := Aside0.mk (HP.out.step (y := y2) (by omega))
          have hzn := HP2.out.node.cell 0 _ rfl
          have hzk : Op.bytesLess y2.k.toList key.toList = true := HLo.out y2 (HP.out.sub y2 (List.mem_append_right _ List.mem_cons_self))
          clear hq hisn HP hyh hn1
          go_wp2_with fail
          refine HL.out.mono ?_
          rintro e w' ⟨rfl, rfl⟩
          clear HL
          simp only [ptr]
          go_wp2
          go_roundg b2.length
          case measure => simp; omega
          case rel => exact ⟨y2, b2, rfl, rfl, HP2, rfl⟩
end Go.Proofs.Ytnpjppnahfehnaa.Skip
/- Layer 12's list: the order of keys; the list's parts below and from a key on; find. -/
namespace Go.Proofs.Ytnpjppnahfehnaa.Skip
set_option linter.unusedVariables false
set_option linter.unusedSimpArgs false
open Go.RowKit Go.Proofs.YtnpjppnahfehnaaW.PrintWords Go.Proofs.Ytnpjppnahfehnaa.Kit Go.MuLone

/-! the order of keys -/
theorem bl_cons (a b : UInt8) (x y : List UInt8) : Op.bytesLess (a :: x) (b :: y) = (decide (a < b) || (a == b && Op.bytesLess x y)) := by rw [Op.bytesLess]
theorem bl_nil (x : List UInt8) : Op.bytesLess x [] = false := by cases x <;> rfl
theorem bl_irrefl : ∀ x : List UInt8, Op.bytesLess x x = false
  | [] => rfl
  | a :: x => by rw [bl_cons, bl_irrefl x]; simp
theorem bl_trans : ∀ x y z : List UInt8, Op.bytesLess x y = true → Op.bytesLess y z = true → Op.bytesLess x z = true
  | _, [], _, h, _ => by rw [bl_nil] at h; cases h
  | _, _ :: _, [], _, h => by rw [bl_nil] at h; cases h
  | [], _ :: _, _ :: _, _, _ => rfl
  | a :: x, b :: y, c :: z, h1, h2 => by
    rw [bl_cons, Bool.or_eq_true, Bool.and_eq_true, decide_eq_true_iff, beq_iff_eq] at h1 h2 ⊢
    rcases h1 with h1 | ⟨rfl, h1⟩
    · rcases h2 with h2 | ⟨rfl, h2⟩
      · exact Or.inl (UInt8.lt_trans h1 h2)
      · exact Or.inl h1
    · rcases h2 with h2 | ⟨rfl, h2⟩
      · exact Or.inl h2
      · exact Or.inr ⟨rfl, bl_trans x y z h1 h2⟩
theorem bl_total : ∀ x y : List UInt8, Op.bytesLess x y = true ∨ x = y ∨ Op.bytesLess y x = true
  | [], [] => Or.inr (Or.inl rfl)
  | [], _ :: _ => Or.inl rfl
  | _ :: _, [] => Or.inr (Or.inr rfl)
  | a :: x, b :: y => by
    rw [bl_cons, bl_cons, Bool.or_eq_true, Bool.and_eq_true, decide_eq_true_iff, beq_iff_eq, Bool.or_eq_true, Bool.and_eq_true, decide_eq_true_iff, beq_iff_eq]
    by_cases h1 : a < b
    · exact Or.inl (Or.inl h1)
    · by_cases h2 : b < a
      · exact Or.inr (Or.inr (Or.inl h2))
      · obtain rfl : a = b := by
          rw [UInt8.lt_iff_toNat_lt] at h1 h2
          exact UInt8.toNat_inj.1 (by omega)
        rcases bl_total x y with h | rfl | h
        · exact Or.inl (Or.inr ⟨rfl, h⟩)
        · exact Or.inr (Or.inl rfl)
        · exact Or.inr (Or.inr (Or.inr ⟨rfl, h⟩))
theorem key_inj {a b : ByteArray} (h : a.toList = b.toList) : a = b := by
  rw [ByteArray.toList_eq, ByteArray.toList_eq] at h
  cases a; cases b
  simp at h
  rw [h]
theorem lt_irrefl (a : ByteArray) : ltB a a = false := bl_irrefl _
theorem lt_trans {a b c : ByteArray} (h1 : ltB a b = true) (h2 : ltB b c = true) : ltB a c = true := bl_trans _ _ _ h1 h2
theorem lt_total (a b : ByteArray) : ltB a b = true ∨ a = b ∨ ltB b a = true := by
  rcases bl_total a.toList b.toList with h | h | h
  · exact Or.inl h
  · exact Or.inr (Or.inl (key_inj h))
  · exact Or.inr (Or.inr h)
theorem lt_asymm {a b : ByteArray} (h : ltB a b = true) : ltB b a = false := by
  cases h2 : ltB b a with
  | false => rfl
  | true => have := lt_trans h h2; rw [lt_irrefl] at this; cases this
theorem beq_key (a b : ByteArray) : (a.toList == b.toList) = decide (a = b) := by
  by_cases h : a = b
  · subst h; simp
  · rw [decide_eq_false h, beq_eq_false_iff_ne]
    exact fun e => h (key_inj e)

/-! a sorted list, parted at a key -/
def Sorted (ns : List Nd) : Prop := ns.Pairwise (fun a b => ltB a.k b.k = true)
theorem parts (key : ByteArray) (ns : List Nd) (h : Sorted ns) : ∃ lo hi, ns = lo ++ hi ∧ (∀ x ∈ lo, ltB x.k key = true) ∧ (∀ x ∈ hi, ltB x.k key = false) := by
  induction ns with
  | nil => exact ⟨[], [], rfl, fun x h => by simp at h, fun x h => by simp at h⟩
  | cons x t ih =>
    obtain ⟨h1, h2⟩ := List.pairwise_cons.1 h
    cases e : ltB x.k key with
    | true =>
      obtain ⟨lo, hi, rfl, a, b⟩ := ih h2
      refine ⟨x :: lo, hi, rfl, fun y hy => ?_, b⟩
      rcases List.mem_cons.1 hy with rfl | hy
      · exact e
      · exact a y hy
    | false =>
      refine ⟨[], x :: t, rfl, fun y hy => by simp at hy, fun y hy => ?_⟩
      rcases List.mem_cons.1 hy with rfl | hy
      · exact e
      · cases h3 : ltB y.k key with
        | false => rfl
        | true => have := lt_trans (h1 y hy) h3; rw [e] at this; cases this
/-- Whether the part from a key on begins with it. -/
def Hit (hi : List Nd) (key : ByteArray) : Prop := ∃ z t, hi = z :: t ∧ z.k = key
def Miss (hi : List Nd) (key : ByteArray) : Prop := ∀ z t, hi = z :: t → z.k ≠ key
theorem hit_or_miss (hi : List Nd) (key : ByteArray) : Hit hi key ∨ Miss hi key := by
  cases hi with
  | nil => exact Or.inr (fun z t h => by cases h)
  | cons z t =>
    by_cases e : z.k = key
    · exact Or.inl ⟨z, t, rfl, e⟩
    · exact Or.inr (fun z' t' h => by injection h with h1 h2; subst h1; exact e)

/-- The list in block g. -/
structure Sk (w : World) (g : Nat) (st : Int) (hd : Nd) (ns : List Nd) : Prop where
  row : Blk w g [.bool true, .int .i32 st, .int .u32 0, .pointer (some ⟨hd.p, 0, none⟩), .int .i64 ns.length] TL
  lnk : Links w (hd :: ns) (fun _ => none)
  hh : hd.h = 16
  hts : ∀ x ∈ ns, 1 ≤ x.h ∧ x.h ≤ 16
  srt : Sorted ns
  np : ((hd :: ns).map (·.p)).Nodup
  nq : ((hd :: ns).map (·.q)).Nodup
theorem Sk.below {w w' : World} {g : Nat} {st : Int} {hd : Nd} {ns : List Nd} (h : Sk w g st hd ns) (hb : Below w.heap.size w w') : Sk w' g st hd ns :=
  ⟨h.row.belowSize hb, h.lnk.below hb, h.hh, h.hts, h.srt, h.np, h.nq⟩
/-- The list's blocks. -/
def Fp (g : Nat) (hd : Nd) (ns : List Nd) (i : Nat) : Prop := i = g ∨ Foot (hd :: ns) i
theorem Sk.only {w w' : World} {S : Nat → Prop} {g : Nat} {st : Int} {hd : Nd} {ns : List Nd} (h : Sk w g st hd ns) (ho : Only S w w') (hS : ∀ i, Fp g hd ns i → ¬ S i) : Sk w' g st hd ns :=
  ⟨ho.blk h.row (hS _ (Or.inl rfl)), h.lnk.only ho _ (fun i hi => hS i (Or.inr hi)), h.hh, h.hts, h.srt, h.np, h.nq⟩
theorem Sk.c3 {w : World} {g : Nat} {st : Int} {hd : Nd} {ns : List Nd} (h : Sk w g st hd ns) : w.cell? ⟨g, 3, none⟩ = some (.pointer (some ⟨hd.p, 0, none⟩)) := h.row.cell 3 _ rfl
theorem Sk.lt {w : World} {g : Nat} {st : Int} {hd : Nd} {ns : List Nd} (h : Sk w g st hd ns) {i : Nat} (hi : Fp g hd ns i) : i < w.heap.size := by
  rcases hi with rfl | hi
  · exact h.row.lt
  · exact h.lnk.lt hi
theorem Sk.typed {w : World} {g : Nat} {st : Int} {hd : Nd} {ns : List Nd} (h : Sk w g st hd ns) {i : Nat} (hi : Fp g hd ns i) : ∃ cs t, Blk w i cs t ∧ (t = TL ∨ t = TN ∨ t = TP) := by
  rcases hi with rfl | hi
  · exact ⟨_, _, h.row, Or.inl rfl⟩
  · obtain ⟨cs, t, hb, ht⟩ := h.lnk.typed hi
    exact ⟨cs, t, hb, Or.inr ht⟩
theorem Sk.gN {w : World} {g : Nat} {st : Int} {hd : Nd} {ns : List Nd} (h : Sk w g st hd ns) : ∀ i, Foot (hd :: ns) i → ¬ i = g := h.lnk.off h.row (by decide) (by decide)
theorem Sk.before {w : World} {g : Nat} {st : Int} {hd : Nd} {lo hi : List Nd} (h : Sk w g st hd (lo ++ hi)) (key : ByteArray) (hlo : ∀ x ∈ lo, ltB x.k key = true) (hhi : ∀ x ∈ hi, ltB x.k key = false) :
    Calls Try.prog 23 #[.pointer (some ⟨g, 0, none⟩), .string key] w fun e w' => e = .returned (outV hd lo) ∧ Below w.heap.size w w' :=
  beforeCalls g hd lo hi key w h.c3 h.lnk h.hh hlo hhi
/-- Behind the last one below a key, on the lowest level. -/
theorem Sk.at0 {w : World} {g : Nat} {st : Int} {hd : Nd} {lo hi : List Nd} (h : Sk w g st hd (lo ++ hi)) (i : Nat) (hi16 : i < 16) :
    NodeB w (lastAt i hd lo) ∧ i < (lastAt i hd lo).h ∧ w.cell? ⟨(lastAt i hd lo).q, i, none⟩ = some (ptr (fst? i hi (fun _ => none))) ∧ w.frozen? ⟨(lastAt i hd lo).q, i, none⟩ = false ∧ IsN w (fst? i hi (fun _ => none)) := by
  have hl := h.lnk
  rw [← List.cons_append, Links.split] at hl
  obtain ⟨a, b, c, d⟩ := hl.1.last i (by rw [h.hh]; exact hi16)
  exact ⟨a, b, c, d, hl.2.isN i (IsN.nil w)⟩
theorem Sk.fst0 {w : World} {g : Nat} {st : Int} {hd : Nd} {lo hi : List Nd} (h : Sk w g st hd (lo ++ hi)) : fst? 0 hi (fun _ => none) = hi.head?.map (·.p) := by
  cases hi with
  | nil => rfl
  | cons z t =>
    have := (h.hts z (List.mem_append_right _ List.mem_cons_self)).1
    rw [fst?, if_pos (by omega)]
    rfl

theorem index0 (hd : Nd) (lo : List Nd) (W : World) : (Instr.index TA (outV hd lo) (.int .i64 0)).run Try.prog W = .ok (.pointer (some ⟨(lastAt 0 hd lo).p, 0, none⟩)) W := by
  have h := outC_get hd lo 0 (by decide)
  have h2 : (outC hd lo 0)[0]? = some (.pointer (some ⟨(lastAt 0 hd lo).p, 0, none⟩)) := h
  unfold Instr.index outV
  simp [asIntOf, Try.runUnderlying81, Try.sizeOf60, Try.isAgg60, part, h2]
set_option maxRecDepth 100000 in
set_option maxHeartbeats 1600000 in
theorem findMiss (g : Nat) (st : Int) (hd : Nd) (lo hi : List Nd) (key : ByteArray) (w : World) (h : Sk w g st hd (lo ++ hi)) (hlo : ∀ x ∈ lo, ltB x.k key = true) (hhi : ∀ x ∈ hi, ltB x.k key = false) (hm : Miss hi key) :
    Calls Try.prog 38 #[.pointer (some ⟨g, 0, none⟩), .string key] w fun e w' => e = .returned (.pointer none) ∧ Below w.heap.size w w' := by
  have HB := Aside0.mk (h.before key hlo hhi)
  have HM := Aside0.mk hm
  clear hm
  have H := Aside0.mk h
  have hix := index0 hd lo
  clear h hlo hhi
  go_enter Try.func38, Try.ntmps38
  go_wp2_with fail
  refine HB.out.mono ?_
  rintro e w1 ⟨rfl, hb⟩
  have HB1 := Aside0.mk hb
  have H1 := Aside0.mk (H.out.below hb)
  clear hb HB H
  obtain ⟨hn, hlt, hcell, _, hisn⟩ := H1.out.at0 0 (by decide)
  rw [H1.out.fst0] at hcell hisn
  generalize lastAt 0 hd lo = x at *
  have HL := Aside0.mk (pload x.q 0 _ _ hcell hisn)
  have hn2 := hn.cell 2 _ rfl
  have hlt2 : (0 : Int) < (x.h : Int) := by omega
  clear hcell hisn hn
  go_wp2_with fail
  refine HL.out.mono ?_
  rintro e w' ⟨rfl, rfl⟩
  clear HL hn2 hix
  cases hi with
  | nil =>
    simp only [List.head?_nil, Option.map_none, ptr]
    go_wp2
    go_ret
    exact ⟨rfl, HB1.out⟩
  | cons z t =>
    have hz := (H1.out.lnk.node (x := z) (List.mem_cons_of_mem _ (List.mem_append_right _ List.mem_cons_self))).cell 0 _ rfl
    have hk : (z.k.toList == key.toList) = false := by rw [beq_key]; exact decide_eq_false (HM.out z t rfl)
    simp only [List.head?_cons, Option.map_some, ptr]
    go_wp2
    go_ret
    exact ⟨rfl, HB1.out⟩
set_option maxRecDepth 100000 in
set_option maxHeartbeats 1600000 in
theorem findHit (g : Nat) (st : Int) (hd : Nd) (lo : List Nd) (key : ByteArray) (w : World) (z : Nd) (t : List Nd) (h : Sk w g st hd (lo ++ z :: t)) (hlo : ∀ x ∈ lo, ltB x.k key = true) (hhi : ∀ x ∈ z :: t, ltB x.k key = false) (hm : z.k = key) :
    Calls Try.prog 38 #[.pointer (some ⟨g, 0, none⟩), .string key] w fun e w' => e = .returned (.pointer (some ⟨z.p, 0, none⟩)) ∧ Below w.heap.size w w' := by
  have HB := Aside0.mk (h.before key hlo hhi)
  have hk : (z.k.toList == key.toList) = true := by rw [hm]; simp
  clear hm
  have H := Aside0.mk h
  have hix := index0 hd lo
  clear h hlo hhi
  go_enter Try.func38, Try.ntmps38
  go_wp2_with fail
  refine HB.out.mono ?_
  rintro e w1 ⟨rfl, hb⟩
  have HB1 := Aside0.mk hb
  have H1 := Aside0.mk (H.out.below hb)
  clear hb HB H
  obtain ⟨hn, hlt, hcell, _, hisn⟩ := H1.out.at0 0 (by decide)
  rw [H1.out.fst0] at hcell hisn
  generalize lastAt 0 hd lo = x at *
  have HL := Aside0.mk (pload x.q 0 _ _ hcell hisn)
  have hn2 := hn.cell 2 _ rfl
  have hlt2 : (0 : Int) < (x.h : Int) := by omega
  clear hcell hisn hn
  have hz := (H1.out.lnk.node (x := z) (List.mem_cons_of_mem _ (List.mem_append_right _ List.mem_cons_self))).cell 0 _ rfl
  go_wp2_with fail
  refine HL.out.mono ?_
  rintro e w' ⟨rfl, rfl⟩
  clear HL hn2 hix
  simp only [List.head?_cons, Option.map_some, ptr]
  go_wp2
  go_ret
  exact ⟨rfl, HB1.out⟩
end Go.Proofs.Ytnpjppnahfehnaa.Skip
/- Layer 12's list: New, is, entry, Get, Len, Seek. -/
namespace Go.Proofs.Ytnpjppnahfehnaa.Skip
set_option linter.unusedVariables false
set_option linter.unusedSimpArgs false
open Go.RowKit Go.Proofs.YtnpjppnahfehnaaW.PrintWords Go.Proofs.Ytnpjppnahfehnaa.Kit Go.MuLone

abbrev TE : TypeId := 33
def eV (x : Nd) : Value := .agg #[.string x.k, .int .i64 x.v, .int .i64 x.h]

theorem isTrue (g : Nat) (st : Int) (hd : Nd) (ns : List Nd) (w : World) (h : Sk w g st hd ns) :
    Calls Try.prog 21 #[.pointer (some ⟨g, 0, none⟩)] w fun e w' => e = .returned (.bool true) ∧ w = w' := by
  have h0 := h.row.cell 0 _ rfl
  clear h
  go_enter Try.func21, Try.ntmps21
  go_wp2
  go_ret
  exact ⟨rfl, rfl⟩
theorem lenCalls (g : Nat) (hd : Nd) (ns : List Nd) (w : World) (h : Sk w g 0 hd ns) :
    Calls Try.prog 9 #[.pointer (some ⟨g, 0, none⟩)] w fun e w' => e = .returned (.int .i64 ns.length) ∧ w = w' := by
  have HI := Aside0.mk (isTrue g 0 hd ns w h)
  have HL := Aside0.mk (i64Load g 4 _ w (h.row.cell 4 _ rfl))
  clear h
  go_enter Try.func9, Try.ntmps9
  go_wp2_with fail
  refine HI.out.mono ?_
  rintro e w' ⟨rfl, rfl⟩
  go_wp2_with fail
  refine HL.out.mono ?_
  rintro e w' ⟨rfl, rfl⟩
  go_wp2
  go_ret
  exact ⟨rfl, rfl⟩
theorem zeroE (W : World) : (zeroValue TE).run Try.prog W = .ok (.agg #[.string ByteArray.empty, .int .i64 0, .int .i64 0]) W := by kernel_rfl
set_option maxHeartbeats 1600000 in
theorem entryCalls (x : Nd) (w : World) (h : NodeB w x) :
    Calls Try.prog 25 #[.pointer (some ⟨x.p, 0, none⟩)] w fun e w' => e = .returned (eV x) ∧ Below w.heap.size w w' := by
  have hz := zeroE
  obtain ⟨W, hW⟩ : ∃ W, W = w.alloc (.cells #[.string ByteArray.empty, .int .i64 0, .int .i64 0] TE) := ⟨_, rfl⟩
  have hb : Below w.heap.size w W := by rw [hW]; exact (Below.refl _ _).alloc (Nat.le_refl _) _
  have HX : Aside0 (Blk W w.heap.size [.string ByteArray.empty, .int .i64 0, .int .i64 0] TE) := ⟨by rw [hW]; exact Blk.newA w _ _⟩
  have HB := Aside0.mk hb
  have hN : NodeB W x := h.belowSize hb
  have HL := Aside0.mk (i64Load x.p 1 _ W.drew (hN.drew.cell 1 _ rfl))
  have n0 := hN.cell 0 _ rfl
  have n1 := hN.cell 1 _ rfl
  have n2 := hN.cell 2 _ rfl
  clear h hb hN
  go_enter Try.func25, Try.ntmps25
  go_upto_region 1 with (fail)
  rw [← hW]
  clear hW
  have z0 := HX.out.cell 0 _ rfl
  have z1 := HX.out.cell 1 _ rfl
  have z2 := HX.out.cell 2 _ rfl
  have f0 := HX.out.free 0
  have f1 := HX.out.free 1
  have f2 := HX.out.free 2
  go_region_with (go_at_call 26; refine (HL.out).mono ?_; rintro e w1 ⟨rfl, rfl⟩)
  all_goals
    have HZ : Aside0 (Blk (((W.setCell ⟨w.heap.size, 0, none⟩ (.string x.k)).setCell ⟨w.heap.size, 1, none⟩ (.int .i64 x.v)).setCell ⟨w.heap.size, 2, none⟩ (.int .i64 x.h)).drew w.heap.size [.string x.k, .int .i64 x.v, .int .i64 x.h] TE) := ⟨(((HX.out.put 0 (.string x.k)).put 1 (.int .i64 x.v)).put 2 (.int .i64 x.h)).drew⟩
    have HBf := Aside0.mk (((HB.out.setCell (p := ⟨w.heap.size, 0, none⟩) (Nat.le_refl _) (.string x.k)).setCell (p := ⟨w.heap.size, 1, none⟩) (Nat.le_refl _) (.int .i64 x.v)).setCell (p := ⟨w.heap.size, 2, none⟩) (Nat.le_refl _) (.int .i64 x.h)).drew
    go_wp2
    exact bodyPost_ret (v := eV x) (results_cell_row rfl _ _ _ TE _ (0, 0) _ rfl HZ.out.out Try.underlying33 rfl (by kernel_rfl)) rfl ⟨rfl, HBf.out⟩
end Go.Proofs.Ytnpjppnahfehnaa.Skip
/- Layer 12's list: Seek. -/
namespace Go.Proofs.Ytnpjppnahfehnaa.Skip
set_option linter.unusedVariables false
set_option linter.unusedSimpArgs false
open Go.RowKit Go.Proofs.YtnpjppnahfehnaaW.PrintWords Go.Proofs.Ytnpjppnahfehnaa.Kit Go.MuLone

theorem infoN2 : ∃ i, Try.prog.info? TN = some i ∧ i.size ≠ 0 := by
  have h : (Try.prog.info? TN).map (·.size) = some 3 := by kernel_rfl
  obtain ⟨i, hi, hs⟩ := Option.map_eq_some_iff.1 h
  exact ⟨i, hi, by omega⟩
theorem ptrSame (W : World) (p : Nat) : (binOp .eql 60 (.pointer (some ⟨p, 0, none⟩)) (.pointer (some ⟨p, 0, none⟩))).run Try.prog W = .ok (.bool true) W := by
  obtain ⟨i, hi, _⟩ := infoN2
  exact run_eql_ptr_same W ⟨p, 0, none⟩ Try.underlying60 hi
theorem ptrOther (W : World) (x y : Nd) (h : x.p ≠ y.p) (hx : NodeB W x) (hy : NodeB W y) : (binOp .eql 60 (.pointer (some ⟨x.p, 0, none⟩)) (.pointer (some ⟨y.p, 0, none⟩))).run Try.prog W = .ok (.bool false) W := by
  obtain ⟨i, hi, hs⟩ := infoN2
  exact run_eql_ptr_other (a := ⟨x.p, 0, none⟩) (b := ⟨y.p, 0, none⟩) W Try.underlying60 hi hs (fun e => h (by injection e)) hx.out hy.out
/-! Seek -/
def seekO (lo hi : List Nd) (key : ByteArray) (back : Bool) : Option Nd :=
  cond back (match hi with | [] => lo.getLast? | z :: _ => if z.k = key then some z else lo.getLast?) hi.head?
def zE : Value := .agg #[.string ByteArray.empty, .int .i64 0, .int .i64 0]
def seekV : Option Nd → Value
  | none => .tuple #[zE, .bool false]
  | some x => .tuple #[eV x, .bool true]
theorem last0 (hd : Nd) (lo : List Nd) (h : ∀ x ∈ lo, 1 ≤ x.h) : lastAt 0 hd lo = lo.getLast?.getD hd := by
  induction lo generalizing hd with
  | nil => rfl
  | cons y t ih =>
    have := h y List.mem_cons_self
    rw [lastAt, if_pos (by omega), ih y (fun x hx => h x (List.mem_cons_of_mem _ hx))]
    cases t with
    | nil => rfl
    | cons z t => rw [List.getLast?_cons_cons]; rw [List.getLast?_eq_some_getLast (by simp)]; rfl
/-- The end of Seek: what it found. -/
theorem seekZero (W : World) (g : Nat) (h : Blk W g [.string ByteArray.empty, .int .i64 0, .int .i64 0] TE) : Blk (((W.setCell ⟨g, 0, none⟩ (.string ByteArray.empty)).setCell ⟨g, 1, none⟩ (.int .i64 0)).setCell ⟨g, 2, none⟩ (.int .i64 0)) g [.string ByteArray.empty, .int .i64 0, .int .i64 0] TE :=
  ((h.put 0 (.string ByteArray.empty)).put 1 (.int .i64 0)).put 2 (.int .i64 0)
theorem seekSome (W : World) (g : Nat) (x : Nd) (h : Blk W g [.string ByteArray.empty, .int .i64 0, .int .i64 0] TE) : Blk (((W.setCell ⟨g, 0, none⟩ (.string x.k)).setCell ⟨g, 1, none⟩ (.int .i64 x.v)).setCell ⟨g, 2, none⟩ (.int .i64 x.h)) g [.string x.k, .int .i64 x.v, .int .i64 x.h] TE :=
  ((h.put 0 (.string x.k)).put 1 (.int .i64 x.v)).put 2 (.int .i64 x.h)
theorem set3 {B : Nat} {w W : World} (h : Below B w W) (g : Nat) (hg : B ≤ g) (a b c : Value) : Below B w (((W.setCell ⟨g, 0, none⟩ a).setCell ⟨g, 1, none⟩ b).setCell ⟨g, 2, none⟩ c) :=
  ((h.setCell (p := ⟨g, 0, none⟩) hg a).setCell (p := ⟨g, 1, none⟩) hg b).setCell (p := ⟨g, 2, none⟩) hg c

set_option maxRecDepth 100000 in
set_option maxHeartbeats 8000000 in
theorem seekCalls (g : Nat) (hd : Nd) (lo hi : List Nd) (key : ByteArray) (back : Bool) (w : World) (h : Sk w g 0 hd (lo ++ hi)) (hlo : ∀ x ∈ lo, ltB x.k key = true) (hhi : ∀ x ∈ hi, ltB x.k key = false) :
    Calls Try.prog 10 #[.pointer (some ⟨g, 0, none⟩), .string key, .bool back] w fun e w' => e = .returned (seekV (seekO lo hi key back)) ∧ Below w.heap.size w w' := by
  have hz := zeroE
  have hix := index0 hd lo
  obtain ⟨W, hW⟩ : ∃ W, W = w.alloc (.cells #[.string ByteArray.empty, .int .i64 0, .int .i64 0] TE) := ⟨_, rfl⟩
  have hb : Below w.heap.size w W := by rw [hW]; exact (Below.refl _ _).alloc (Nat.le_refl _) _
  have HX : Aside0 (Blk W w.heap.size [.string ByteArray.empty, .int .i64 0, .int .i64 0] TE) := ⟨by rw [hW]; exact Blk.newA w _ _⟩
  have HB := Aside0.mk hb
  have H := Aside0.mk (h.below hb)
  have HI := Aside0.mk (isTrue g 0 hd _ W H.out)
  have HBf := Aside0.mk (H.out.before key hlo hhi)
  have HNp := Aside0.mk h.np
  have HH := Aside0.mk (fun x (hx : x ∈ lo) => (h.hts x (List.mem_append_left _ hx)).1)
  clear h hlo hhi hb
  go_enter Try.func10, Try.ntmps10
  go_wp2_with fail
  rw [← hW]
  clear hW
  refine HI.out.mono ?_
  rintro e w' ⟨rfl, rfl⟩
  go_wp2_with fail
  refine HBf.out.mono ?_
  rintro e w1 ⟨rfl, hb1⟩
  have HB1 := Aside0.mk (HB.out.trans (hb1.mono HB.out.size))
  have H1 := Aside0.mk (H.out.below hb1)
  have HX1 := Aside0.mk (HX.out.belowSize hb1)
  clear hb1 HB H HX HI HBf
  obtain ⟨hn, hlt, hcell, _, hisn⟩ := H1.out.at0 0 (by decide)
  rw [H1.out.fst0] at hcell hisn
  have HLast := Aside0.mk (last0 hd lo HH.out)
  generalize lastAt 0 hd lo = x at *
  have HL := Aside0.mk (pload x.q 0 _ _ hcell hisn)
  have hn2 := hn.cell 2 _ rfl
  have hlt2 : (0 : Int) < (x.h : Int) := by omega
  have x0 := HX1.out.cell 0 _ rfl
  have x1 := HX1.out.cell 1 _ rfl
  have x2 := HX1.out.cell 2 _ rfl
  have f0 := HX1.out.free 0
  have f1 := HX1.out.free 1
  have f2 := HX1.out.free 2
  have HNx := Aside0.mk hn
  clear hcell hisn hn
  have hc2 := H1.out.c3
  go_wp2_with fail
  refine HL.out.mono ?_
  rintro e w' ⟨rfl, rfl⟩
  clear HL hn2 hix
  have hmem : ∀ z t, hi = z :: t → NodeB _ z := fun z t e => H1.out.lnk.node (List.mem_cons_of_mem _ (List.mem_append_right _ (by rw [e]; exact List.mem_cons_self)))
  have HMem := Aside0.mk hmem
  clear hmem
  -- an entry that is told
  have HTell : Aside0 (∀ y, NodeB w1 y → Calls Try.prog 25 #[.pointer (some ⟨y.p, 0, none⟩)] w1 fun e w' => e = .returned (eV y) ∧ Below w.heap.size w w' ∧ Blk w' w.heap.size [.string ByteArray.empty, .int .i64 0, .int .i64 0] TE) :=
    ⟨fun y hy => (entryCalls y w1 hy).mono fun e w' ⟨he, hb⟩ => ⟨he, HB1.out.trans (hb.mono HB1.out.size), HX1.out.belowSize hb⟩⟩
  cases back with
  | false =>
    cases hi with
    | nil =>
      simp only [List.head?_nil, Option.map_none, ptr]
      go_wp2
      exact bodyPost_ret (v := seekV (seekO lo [] key false)) (results_ct (p := 6) (u := 7) rfl _ _ _ TE _ (0, 0) _ rfl (seekZero _ _ HX1.out).out Try.underlying33 rfl (by kernel_rfl)) rfl ⟨rfl, set3 HB1.out _ (Nat.le_refl _) _ _ _⟩
    | cons z t =>
      have HT := Aside0.mk (HTell.out z (HMem.out z t rfl))
      clear HTell HMem
      simp only [List.head?_cons, Option.map_some, ptr]
      go_wp2_with fail
      refine HT.out.mono ?_
      rintro e w2 ⟨rfl, hb2, hx2⟩
      have HB2 := Aside0.mk hb2
      have HX2 := Aside0.mk hx2
      clear hb2 hx2 x0 x1 x2 f0 f1 f2
      have x0 := HX2.out.cell 0 _ rfl
      have x1 := HX2.out.cell 1 _ rfl
      have x2 := HX2.out.cell 2 _ rfl
      have f0 := HX2.out.free 0
      have f1 := HX2.out.free 1
      have f2 := HX2.out.free 2
      simp only [eV]
      go_wp2
      exact bodyPost_ret (v := seekV (seekO lo (z :: t) key false)) (results_ct (p := 6) (u := 7) rfl _ _ _ TE _ (0, 0) _ rfl (seekSome _ _ z HX2.out).out Try.underlying33 rfl (by kernel_rfl)) rfl ⟨rfl, set3 HB2.out _ (Nat.le_refl _) _ _ _⟩
  | true =>
    cases hi with
    | nil =>
      cases hlo : lo.getLast? with
      | none =>
        have HRes : Aside0 (seekO lo ([]) key true = none) := ⟨by simp [seekO, hlo]⟩
        have e : x = hd := by rw [HLast.out, hlo]; rfl
        subst e
        have hpe := ptrSame w1 x.p
        clear hlo HTell HMem HLast
        simp only [List.head?_nil, Option.map_none, ptr]
        go_wp2
        exact bodyPost_ret (v := .tuple #[zE, .bool false]) (results_ct (p := 6) (u := 7) rfl _ _ _ TE _ (0, 0) _ rfl (seekZero _ _ HX1.out).out Try.underlying33 rfl (by kernel_rfl)) rfl ⟨by rw [HRes.out]; rfl, set3 HB1.out _ (Nat.le_refl _) _ _ _⟩
      | some y =>
        have HRes : Aside0 (seekO lo ([]) key true = some y) := ⟨by simp [seekO, hlo]⟩
        have e : x = y := by rw [HLast.out, hlo]; rfl
        subst e
        have HT := Aside0.mk (HTell.out x HNx.out)
        have hne : ¬ x.p = hd.p := by
          have hm : x ∈ lo := List.mem_of_getLast? hlo
          have hn := HNp.out
          rw [List.map_cons, List.nodup_cons] at hn
          exact fun e => hn.1 (e ▸ List.mem_map_of_mem (List.mem_append_left _ hm))
        have hpe := ptrOther w1 x hd hne HNx.out H1.out.lnk.1
        clear hne hlo HTell HMem HLast
        simp only [List.head?_nil, Option.map_none, ptr]
        go_wp2_with fail
        refine HT.out.mono ?_
        rintro e w2 ⟨rfl, hb2, hx2⟩
        have HB2 := Aside0.mk hb2
        have HX2 := Aside0.mk hx2
        clear hb2 hx2 x0 x1 x2 f0 f1 f2
        have x0 := HX2.out.cell 0 _ rfl
        have x1 := HX2.out.cell 1 _ rfl
        have x2 := HX2.out.cell 2 _ rfl
        have f0 := HX2.out.free 0
        have f1 := HX2.out.free 1
        have f2 := HX2.out.free 2
        simp only [eV]
        go_wp2
        exact bodyPost_ret (v := .tuple #[eV x, .bool true]) (results_ct (p := 6) (u := 7) rfl _ _ _ TE _ (0, 0) _ rfl (seekSome _ _ x HX2.out).out Try.underlying33 rfl (by kernel_rfl)) rfl ⟨by rw [HRes.out]; rfl, set3 HB2.out _ (Nat.le_refl _) _ _ _⟩
    | cons z t =>
      have hzk := (HMem.out z t rfl).cell 0 _ rfl
      by_cases hk : z.k = key
      · have HRes : Aside0 (seekO lo (z :: t) key true = some z) := ⟨by simp [seekO, hk]⟩
        have hkb : (z.k.toList == key.toList) = true := by rw [hk]; simp
        have HT := Aside0.mk (HTell.out z (HMem.out z t rfl))
        clear HTell HMem HLast hk
        simp only [List.head?_cons, Option.map_some, ptr]
        go_wp2_with fail
        refine HT.out.mono ?_
        rintro e w2 ⟨rfl, hb2, hx2⟩
        have HB2 := Aside0.mk hb2
        have HX2 := Aside0.mk hx2
        clear hb2 hx2 x0 x1 x2 f0 f1 f2
        have x0 := HX2.out.cell 0 _ rfl
        have x1 := HX2.out.cell 1 _ rfl
        have x2 := HX2.out.cell 2 _ rfl
        have f0 := HX2.out.free 0
        have f1 := HX2.out.free 1
        have f2 := HX2.out.free 2
        simp only [eV]
        go_wp2
        exact bodyPost_ret (v := .tuple #[eV z, .bool true]) (results_ct (p := 6) (u := 7) rfl _ _ _ TE _ (0, 0) _ rfl (seekSome _ _ z HX2.out).out Try.underlying33 rfl (by kernel_rfl)) rfl ⟨by rw [HRes.out]; rfl, set3 HB2.out _ (Nat.le_refl _) _ _ _⟩
      · have hkb : (z.k.toList == key.toList) = false := by rw [beq_key]; exact decide_eq_false hk
        have HK := Aside0.mk hk
        clear hk
        cases hlo : lo.getLast? with
        | none =>
          have HRes : Aside0 (seekO lo (z :: t) key true = none) := ⟨by simp [seekO, hlo, HK.out]⟩
          have e : x = hd := by rw [HLast.out, hlo]; rfl
          subst e
          have hpe := ptrSame w1 x.p
          clear hlo HTell HMem HLast
          simp only [List.head?_cons, Option.map_some, ptr]
          go_wp2
          exact bodyPost_ret (v := .tuple #[zE, .bool false]) (results_ct (p := 6) (u := 7) rfl _ _ _ TE _ (0, 0) _ rfl (seekZero _ _ HX1.out).out Try.underlying33 rfl (by kernel_rfl)) rfl ⟨by rw [HRes.out]; rfl, set3 HB1.out _ (Nat.le_refl _) _ _ _⟩
        | some y =>
          have HRes : Aside0 (seekO lo (z :: t) key true = some y) := ⟨by simp [seekO, hlo, HK.out]⟩
          have e : x = y := by rw [HLast.out, hlo]; rfl
          subst e
          have HT := Aside0.mk (HTell.out x HNx.out)
          have hne : ¬ x.p = hd.p := by
            have hm : x ∈ lo := List.mem_of_getLast? hlo
            have hn := HNp.out
            rw [List.map_cons, List.nodup_cons] at hn
            exact fun e => hn.1 (e ▸ List.mem_map_of_mem (List.mem_append_left _ hm))
          have hpe := ptrOther w1 x hd hne HNx.out H1.out.lnk.1
          clear hne hlo HTell HMem HLast
          simp only [List.head?_cons, Option.map_some, ptr]
          go_wp2_with fail
          refine HT.out.mono ?_
          rintro e w2 ⟨rfl, hb2, hx2⟩
          have HB2 := Aside0.mk hb2
          have HX2 := Aside0.mk hx2
          clear hb2 hx2 x0 x1 x2 f0 f1 f2
          have x0 := HX2.out.cell 0 _ rfl
          have x1 := HX2.out.cell 1 _ rfl
          have x2 := HX2.out.cell 2 _ rfl
          have f0 := HX2.out.free 0
          have f1 := HX2.out.free 1
          have f2 := HX2.out.free 2
          simp only [eV]
          go_wp2
          exact bodyPost_ret (v := .tuple #[eV x, .bool true]) (results_ct (p := 6) (u := 7) rfl _ _ _ TE _ (0, 0) _ rfl (seekSome _ _ x HX2.out).out Try.underlying33 rfl (by kernel_rfl)) rfl ⟨by rw [HRes.out]; rfl, set3 HB2.out _ (Nat.le_refl _) _ _ _⟩
end Go.Proofs.Ytnpjppnahfehnaa.Skip
/- Layer 12's list: Get. -/
namespace Go.Proofs.Ytnpjppnahfehnaa.Skip
set_option linter.unusedVariables false
set_option linter.unusedSimpArgs false
open Go.RowKit Go.Proofs.YtnpjppnahfehnaaW.PrintWords Go.Proofs.Ytnpjppnahfehnaa.Kit Go.MuLone

theorem getMiss (g : Nat) (hd : Nd) (lo hi : List Nd) (key : ByteArray) (w : World) (h : Sk w g 0 hd (lo ++ hi)) (hlo : ∀ x ∈ lo, ltB x.k key = true) (hhi : ∀ x ∈ hi, ltB x.k key = false) (hm : Miss hi key) :
    Calls Try.prog 20 #[.pointer (some ⟨g, 0, none⟩), .string key] w fun e w' => e = .returned (.tuple #[.int .i64 0, .bool false]) ∧ Below w.heap.size w w' := by
  have HI := Aside0.mk (isTrue g 0 hd _ w h)
  have HF := Aside0.mk (findMiss g 0 hd lo hi key w h hlo hhi hm)
  clear h hlo hhi hm
  go_enter Try.func20, Try.ntmps20
  go_wp2_with fail
  refine HI.out.mono ?_
  rintro e w' ⟨rfl, rfl⟩
  go_wp2_with fail
  refine HF.out.mono ?_
  rintro e w1 ⟨rfl, hb⟩
  have HB := Aside0.mk hb
  clear hb
  go_wp2
  go_ret2
  exact ⟨rfl, HB.out⟩
theorem getHit (g : Nat) (hd : Nd) (lo : List Nd) (key : ByteArray) (w : World) (z : Nd) (t : List Nd) (h : Sk w g 0 hd (lo ++ z :: t)) (hlo : ∀ x ∈ lo, ltB x.k key = true) (hhi : ∀ x ∈ z :: t, ltB x.k key = false) (hm : z.k = key) :
    Calls Try.prog 20 #[.pointer (some ⟨g, 0, none⟩), .string key] w fun e w' => e = .returned (.tuple #[.int .i64 z.v, .bool true]) ∧ Below w.heap.size w w' := by
  have HI := Aside0.mk (isTrue g 0 hd _ w h)
  have HF := Aside0.mk (findHit g 0 hd lo key w z t h hlo hhi hm)
  have HN := Aside0.mk (h.lnk.node (x := z) (List.mem_cons_of_mem _ (List.mem_append_right _ List.mem_cons_self)))
  clear h hlo hhi hm
  go_enter Try.func20, Try.ntmps20
  go_wp2_with fail
  refine HI.out.mono ?_
  rintro e w' ⟨rfl, rfl⟩
  go_wp2_with fail
  refine HF.out.mono ?_
  rintro e w1 ⟨rfl, hb⟩
  have HB := Aside0.mk hb
  have HL := Aside0.mk (i64Load z.p 1 _ w1 ((HN.out.belowSize hb).cell 1 _ rfl))
  clear hb
  go_wp2_with fail
  refine HL.out.mono ?_
  rintro e w' ⟨rfl, rfl⟩
  go_wp2
  go_ret2
  exact ⟨rfl, HB.out⟩

end Go.Proofs.Ytnpjppnahfehnaa.Skip
/- Layer 12's list: what a store leaves of it; put of a key that is there. -/
namespace Go.Proofs.Ytnpjppnahfehnaa.Skip
set_option linter.unusedVariables false
set_option linter.unusedSimpArgs false
open Go.RowKit Go.Proofs.YtnpjppnahfehnaaW.PrintWords Go.Proofs.Ytnpjppnahfehnaa.Kit Go.MuLone

theorem run_call_swap {P : Program} {f : FuncId} {fn : Func} (hf : P.funcs[f]? = some fn) (hname : (fn.name == "runtime.NumGoroutine") = false) (hb : fn.body.isNone = true) (hn : Extern.findNext fn = none) (k : IntKind)
    (he : Extern.find fn = some (Extern.Atomic.swapT (.int k))) {a : Addr} {x y : Int} {w : World} (hc : w.cell? a = some (.int k x)) (hz : w.frozen? a = false) :
    (callFunc f #[.pointer (some a), .int k y]).run P w = .ok (.value (.int k x)) (w.setCell a (.int k y)) := by
  rw [run_callFunc_extern hf hname hb hn he]
  change (Sem.run P (do
    let a' ← asAddr (.pointer (some a))
    let old ← Extern.Atomic.read (.int k) a'
    store a' (.int k y) .atomic
    pure old) w).andThen _ = _
  simp [Extern.Atomic.read, asAddr, hc, hz, run_store P w a (.int k y) .atomic rfl, Result.andThen]
theorem i64Swap (b o : Nat) (u v : Int) (w : World) (h : w.cell? ⟨b, o, none⟩ = some (.int .i64 u)) (z : w.frozen? ⟨b, o, none⟩ = false) :
    Calls Try.prog 45 #[.pointer (some ⟨b, o, none⟩), .int .i64 v] w fun e w' => e = .returned (.int .i64 u) ∧ w.setCell ⟨b, o, none⟩ (.int .i64 v) = w' := by
  have ha := run_call_swap (P := Try.prog) Try.func57 (by kernel_rfl) (by kernel_rfl) (by kernel_rfl) .i64 (by kernel_rfl) (y := v) h z
  go_enter Try.func45, Try.ntmps45
  go_wp2
  go_ret
  exact ⟨rfl, rfl⟩
theorem i64Add (b o : Nat) (v d : Int) (w : World) (h : w.cell? ⟨b, o, none⟩ = some (.int .i64 v)) (z : w.frozen? ⟨b, o, none⟩ = false) :
    Calls Try.prog 48 #[.pointer (some ⟨b, o, none⟩), .int .i64 d] w fun e w' => e = .returned (.int .i64 (wrap64 (v + d))) ∧ w.setCell ⟨b, o, none⟩ (.int .i64 (wrap64 (v + d))) = w' := by
  have hs : (Op.intArith .add .i64 v d).run Try.prog w = .ok (.int .i64 (wrap64 (v + d))) w := by simp [Op.intArith, IntKind.wrap_i64, wrap64]
  have ha := run_call_add (P := Try.prog) Try.func60 (by kernel_rfl) (by kernel_rfl) (by kernel_rfl) .i64 (by kernel_rfl) h z hs
  clear hs
  go_enter Try.func48, Try.ntmps48
  go_wp2
  go_ret
  exact ⟨rfl, rfl⟩

/-! lists of places -/
theorem map_mid {α β : Type} (f : α → β) (a b : List α) (z : α) : (a ++ z :: b).map f = a.map f ++ f z :: b.map f := by simp
theorem nodup_mid {a b : List Nat} {z : Nat} : (a ++ z :: b).Nodup ↔ z ∉ a ++ b ∧ (a ++ b).Nodup := by
  rw [List.perm_middle.nodup_iff, List.nodup_cons]
theorem Links.other {w : World} {l : List Nd} {f : Nat → Option Nat} (h : Links w l f) {b : Nat} {v : Value} {o : Nat} (hb : ∀ i, Foot l i → ¬ i = b) : Links (w.setCell ⟨b, o, none⟩ v) l f :=
  h.only (S := fun i => i = b) (Only.setCell (S := fun i => i = b) (Only.refl _ w) (p := ⟨b, o, none⟩) (Or.inl rfl) _) l hb
/-- A node's value is stored. -/
theorem Links.val {w : World} {a b : List Nd} {z : Nd} {f : Nat → Option Nat} (h : Links w (a ++ z :: b) f) (hn : ((a ++ z :: b).map (·.p)).Nodup) (v : Int) :
    Links (w.setCell ⟨z.p, 1, none⟩ (.int .i64 v)) (a ++ { z with v := v } :: b) f := by
  have hq : ∀ x ∈ a ++ z :: b, ∀ y ∈ a ++ z :: b, x.p ≠ y.q := fun x hx y hy => h.pq hx hy
  rw [map_mid, nodup_mid] at hn
  have hm : z ∈ a ++ z :: b := List.mem_append_right _ List.mem_cons_self
  have ho : ∀ l : List Nd, (∀ x ∈ l, x ∈ a ++ b) → ∀ i, Foot l i → ¬ i = z.p := by
    rintro l hl i ⟨x, hx, e | e⟩ he
    · exact hn.1 (by rw [← he, e, ← List.map_append]; exact List.mem_map_of_mem (hl x hx))
    · have hx2 : x ∈ a ++ z :: b := by
        rcases List.mem_append.1 (hl x hx) with k | k
        · exact List.mem_append_left _ k
        · exact List.mem_append_right _ (List.mem_cons_of_mem _ k)
      exact hq z hm x hx2 (by rw [← he, e])
  rw [Links.split] at h ⊢
  obtain ⟨ha, h1, h2, hb⟩ := h
  refine ⟨?_, h1.put 1 (.int .i64 v), ?_, hb.other (ho b (fun x hx => List.mem_append_right _ hx))⟩
  · exact ha.other (ho a (fun x hx => List.mem_append_left _ hx))
  · exact h2.far (a := ⟨z.p, 1, none⟩) (fun e => hq z hm z hm e.symm) _

/-- The list's blocks behind a put, a remove. -/
theorem Sk.val {w : World} {g : Nat} {st : Int} {hd : Nd} {lo t : List Nd} {z : Nd} (h : Sk w g st hd (lo ++ z :: t)) (v : Int) : Sk (w.setCell ⟨z.p, 1, none⟩ (.int .i64 v)) g st hd (lo ++ { z with v := v } :: t) where
  row := by
    have e : (lo ++ { z with v := v } :: t).length = (lo ++ z :: t).length := by simp
    rw [e]
    exact h.row.far (a := ⟨z.p, 1, none⟩) (fun e => h.gN z.p ⟨z, List.mem_cons_of_mem _ (List.mem_append_right _ List.mem_cons_self), Or.inl rfl⟩ e.symm) _
  lnk := by
    have := Links.val (a := hd :: lo) (b := t) (z := z) (f := fun _ => none) h.lnk h.np v
    exact this
  hh := h.hh
  hts := fun x hx => by
    rcases List.mem_append.1 hx with hx | hx
    · exact h.hts x (List.mem_append_left _ hx)
    · rcases List.mem_cons.1 hx with rfl | hx
      · exact h.hts z (List.mem_append_right _ List.mem_cons_self)
      · exact h.hts x (List.mem_append_right _ (List.mem_cons_of_mem _ hx))
  srt := by
    have hs := h.srt
    unfold Sorted at hs ⊢
    rw [List.pairwise_append, List.pairwise_cons] at hs ⊢
    refine ⟨hs.1, ⟨fun y hy => hs.2.1.1 y hy, hs.2.1.2⟩, fun x hx y hy => ?_⟩
    rcases List.mem_cons.1 hy with rfl | hy
    · exact hs.2.2 x hx z List.mem_cons_self
    · exact hs.2.2 x hx y (List.mem_cons_of_mem _ hy)
  np := by
    have := h.np
    simp only [List.map_cons, List.map_append] at this ⊢
    exact this
  nq := by
    have := h.nq
    simp only [List.map_cons, List.map_append] at this ⊢
    exact this
theorem Fp.val {g : Nat} {hd : Nd} {lo t : List Nd} {z : Nd} {v : Int} {i : Nat} (h : Fp g hd (lo ++ { z with v := v } :: t) i) : Fp g hd (lo ++ z :: t) i := by
  rcases h with h | ⟨x, hx, e⟩
  · exact Or.inl h
  · refine Or.inr ?_
    rcases List.mem_cons.1 hx with rfl | hx
    · exact ⟨x, List.mem_cons_self, e⟩
    · rcases List.mem_append.1 hx with hx | hx
      · exact ⟨x, List.mem_cons_of_mem _ (List.mem_append_left _ hx), e⟩
      · rcases List.mem_cons.1 hx with rfl | hx
        · exact ⟨z, List.mem_cons_of_mem _ (List.mem_append_right _ List.mem_cons_self), e⟩
        · exact ⟨x, List.mem_cons_of_mem _ (List.mem_append_right _ (List.mem_cons_of_mem _ hx)), e⟩

/-- What a call leaves: the list, other blocks, and no block of others' among its own. -/
structure Lv (w w' : World) (g : Nat) (st : Int) (hd : Nd) (ns ns' : List Nd) : Prop where
  sk : Sk w' g st hd ns'
  only : Only (Fp g hd ns) w w'
  fp : ∀ i, Fp g hd ns' i → Fp g hd ns i ∨ w.heap.size ≤ i
set_option maxRecDepth 100000 in
set_option maxHeartbeats 1600000 in
theorem putHit (g : Nat) (st : Int) (hd : Nd) (lo t : List Nd) (z : Nd) (key : ByteArray) (v ht : Int) (w : World) (h : Sk w g st hd (lo ++ z :: t)) (hlo : ∀ x ∈ lo, ltB x.k key = true) (hhi : ∀ x ∈ z :: t, ltB x.k key = false) (hm : z.k = key) :
    Calls Try.prog 36 #[.pointer (some ⟨g, 0, none⟩), .string key, .int .i64 v, .int .i64 ht] w fun e w' => e = .returned (.tuple #[.int .i64 z.v, .bool true]) ∧ Lv w w' g st hd (lo ++ z :: t) (lo ++ { z with v := v } :: t) := by
  have HF := Aside0.mk (findHit g st hd lo key w z t h hlo hhi hm)
  have H := Aside0.mk h
  clear h hlo hhi hm
  go_enter Try.func36, Try.ntmps36
  go_wp2_with fail
  refine HF.out.mono ?_
  rintro e w1 ⟨rfl, hb⟩
  have HB := Aside0.mk hb
  have H1 := Aside0.mk (H.out.below hb)
  clear hb
  have HN := Aside0.mk (H1.out.lnk.node (x := z) (List.mem_cons_of_mem _ (List.mem_append_right _ List.mem_cons_self)))
  have HS := Aside0.mk (i64Swap z.p 1 _ v w1 (HN.out.cell 1 _ rfl) (HN.out.free 1))
  go_wp2_with fail
  refine HS.out.mono ?_
  rintro e w2 ⟨rfl, hw2⟩
  have H2 : Aside0 (Lv w w2 g st hd (lo ++ z :: t) (lo ++ { z with v := v } :: t)) := ⟨⟨by rw [← hw2]; exact H1.out.val v, by
    rw [← hw2]
    exact (Only.ofBelow HB.out).trans (Only.setCell (S := Fp g hd (lo ++ z :: t)) (Only.refl _ w1) (p := ⟨z.p, 1, none⟩) (Or.inl (Or.inr ⟨z, List.mem_cons_of_mem _ (List.mem_append_right _ List.mem_cons_self), Or.inl rfl⟩)) _), fun i hi => Or.inl (Fp.val hi)⟩⟩
  clear hw2 H HB H1 HN HS HF
  go_wp2
  go_ret2
  exact ⟨rfl, H2.out⟩
end Go.Proofs.Ytnpjppnahfehnaa.Skip
/- Layer 12's list: put of a key that is not there. -/
namespace Go.Proofs.Ytnpjppnahfehnaa.Skip
set_option linter.unusedVariables false
set_option linter.unusedSimpArgs false
open Go.RowKit Go.Proofs.YtnpjppnahfehnaaW.PrintWords Go.Proofs.Ytnpjppnahfehnaa.Kit Go.MuLone

abbrev TS : TypeId := 78
/-- A new node's row, its first levels set. -/
def midC (hi : List Nd) (ht j : Nat) : List Value := (List.range ht).map (fun i => if i < j then ptr (fst? i hi (fun _ => none)) else .pointer none)
theorem midC_len (hi : List Nd) (ht j : Nat) : (midC hi ht j).length = ht := by unfold midC; simp
theorem midC_at (hi : List Nd) (ht j i : Nat) (h : i < ht) : (midC hi ht j)[i]? = some (if i < j then ptr (fst? i hi (fun _ => none)) else .pointer none) := by
  unfold midC
  rw [List.getElem?_map, List.getElem?_range h]
  rfl
theorem midC_start (hi : List Nd) (ht : Nat) : midC hi ht 0 = List.replicate ht (.pointer none) := by
  apply List.ext_getElem?
  intro i
  by_cases h : i < ht
  · rw [midC_at hi ht 0 i h, if_neg (by omega), List.getElem?_replicate, if_pos h]
  · rw [List.getElem?_eq_none (by rw [midC_len]; omega), List.getElem?_eq_none (by rw [List.length_replicate]; omega)]
theorem midC_set (hi : List Nd) (ht j : Nat) (h : j < ht) : (midC hi ht j).set j (ptr (fst? j hi (fun _ => none))) = midC hi ht (j + 1) := by
  apply List.ext_getElem?
  intro i
  rw [List.getElem?_set, midC_len]
  by_cases e : j = i
  · subst e
    rw [if_pos rfl, if_pos h, midC_at hi ht _ j h, if_pos (by omega)]
  · rw [if_neg e]
    by_cases hi' : i < ht
    · rw [midC_at hi ht _ i hi', midC_at hi ht _ i hi']
      by_cases e2 : i < j
      · rw [if_pos e2, if_pos (by omega)]
      · rw [if_neg e2, if_neg (by omega)]
    · rw [List.getElem?_eq_none (by rw [midC_len]; omega), List.getElem?_eq_none (by rw [midC_len]; omega)]
theorem midC_end (hi : List Nd) (ht : Nat) : midC hi ht ht = (List.range ht).map (fun i => ptr (fst? i hi (fun _ => none))) := by
  unfold midC
  apply List.map_congr_left
  intro i hi'
  rw [if_pos (List.mem_range.1 hi')]
/-- The facts on a list that is given, for a walk in whose world nothing of it was turned. -/
theorem Sk.lastAt {w : World} {g : Nat} {st : Int} {hd : Nd} {lo hi : List Nd} (h : Sk w g st hd (lo ++ hi)) (i : Nat) (hi16 : i < 16) :
    ∃ x, lastAt i hd lo = x ∧ NodeB w x ∧ i < x.h ∧ w.cell? ⟨x.q, i, none⟩ = some (ptr (fst? i hi (fun _ => none))) ∧ IsN w (fst? i hi (fun _ => none)) := by
  obtain ⟨a, b, c, _, d⟩ := h.at0 i hi16
  exact ⟨_, rfl, a, b, c, d⟩

theorem miss_above {hi : List Nd} {key : ByteArray} (hs : Sorted hi) (hhi : ∀ x ∈ hi, ltB x.k key = false) (hm : Miss hi key) : ∀ x ∈ hi, ltB key x.k = true := by
  cases hi with
  | nil => intro x hx; simp at hx
  | cons z t =>
    have hz : ltB key z.k = true := by
      rcases lt_total key z.k with h | h | h
      · exact h
      · exact absurd h.symm (hm z t rfl)
      · rw [hhi z List.mem_cons_self] at h; cases h
    intro x hx
    rcases List.mem_cons.1 hx with rfl | hx
    · exact hz
    · exact lt_trans hz ((List.pairwise_cons.1 hs).1 x hx)
theorem Sk.insert {w0 w : World} {g : Nat} {st : Int} {hd : Nd} {lo hi : List Nd} (h : Sk w0 g st hd (lo ++ hi)) (N : Nd)
    (row : Blk w g [.bool true, .int .i32 st, .int .u32 0, .pointer (some ⟨hd.p, 0, none⟩), .int .i64 ((lo ++ N :: hi).length)] TL)
    (l1 : Links w (hd :: lo) (fun i => fst? i (N :: hi) (fun _ => none))) (nb : NodeB w N) (nx : NextB w N (fun i => fst? i hi (fun _ => none))) (l2 : Links w hi (fun _ => none))
    (h1 : 1 ≤ N.h) (h16 : N.h ≤ 16) (hf : ∀ i, Foot (hd :: (lo ++ hi)) i → i ≠ N.p ∧ i ≠ N.q) (hlo : ∀ x ∈ lo, ltB x.k N.k = true) (hhi : ∀ x ∈ hi, ltB x.k N.k = false) (hm : Miss hi N.k) : Sk w g st hd (lo ++ N :: hi) where
  row := row
  lnk := by
    rw [← List.cons_append, Links.split]
    exact ⟨l1, nb, nx, l2⟩
  hh := h.hh
  hts := fun x hx => by
    rcases List.mem_append.1 hx with hx | hx
    · exact h.hts x (List.mem_append_left _ hx)
    · rcases List.mem_cons.1 hx with rfl | hx
      · exact ⟨h1, h16⟩
      · exact h.hts x (List.mem_append_right _ hx)
  srt := by
    have hs := h.srt
    unfold Sorted at hs ⊢
    rw [List.pairwise_append] at hs ⊢
    rw [List.pairwise_cons]
    have hab := miss_above hs.2.1 hhi hm
    refine ⟨hs.1, ⟨hab, hs.2.1⟩, fun x hx y hy => ?_⟩
    rcases List.mem_cons.1 hy with rfl | hy
    · exact hlo x hx
    · exact hs.2.2 x hx y hy
  np := by
    have hn := h.np
    rw [← List.cons_append] at hn ⊢
    rw [map_mid, nodup_mid, ← List.map_append]
    refine ⟨fun hp => ?_, hn⟩
    obtain ⟨x, hx, e⟩ := List.mem_map.1 hp
    exact (hf x.p ⟨x, hx, Or.inl rfl⟩).1 e
  nq := by
    have hn := h.nq
    rw [← List.cons_append] at hn ⊢
    rw [map_mid, nodup_mid, ← List.map_append]
    refine ⟨fun hp => ?_, hn⟩
    obtain ⟨x, hx, e⟩ := List.mem_map.1 hp
    exact (hf x.q ⟨x, hx, Or.inr rfl⟩).2 e
theorem Fp.insert {g : Nat} {hd : Nd} {lo hi : List Nd} {N : Nd} {i : Nat} (h : Fp g hd (lo ++ N :: hi) i) : Fp g hd (lo ++ hi) i ∨ i = N.p ∨ i = N.q := by
  rcases h with h | ⟨x, hx, e⟩
  · exact Or.inl (Or.inl h)
  · rcases List.mem_cons.1 hx with rfl | hx
    · exact Or.inl (Or.inr ⟨x, List.mem_cons_self, e⟩)
    · rcases List.mem_append.1 hx with hx | hx
      · exact Or.inl (Or.inr ⟨x, List.mem_cons_of_mem _ (List.mem_append_left _ hx), e⟩)
      · rcases List.mem_cons.1 hx with rfl | hx
        · exact Or.inr e
        · exact Or.inl (Or.inr ⟨x, List.mem_cons_of_mem _ (List.mem_append_right _ hx), e⟩)

set_option maxRecDepth 100000 in
set_option maxHeartbeats 8000000 in
theorem putMiss (g : Nat) (st : Int) (hd : Nd) (lo hi : List Nd) (key : ByteArray) (v : Int) (ht : Nat) (w : World) (h : Sk w g st hd (lo ++ hi)) (hlo : ∀ x ∈ lo, ltB x.k key = true) (hhi : ∀ x ∈ hi, ltB x.k key = false) (hm : Miss hi key)
    (h1 : 1 ≤ ht) (h16 : ht ≤ 16) (hlen : (lo ++ hi).length < 4611686018427387904) :
    Calls Try.prog 36 #[.pointer (some ⟨g, 0, none⟩), .string key, .int .i64 v, .int .i64 ht] w fun e w' => ∃ N : Nd, e = .returned (.tuple #[.int .i64 0, .bool false]) ∧ N.k = key ∧ N.v = v ∧ N.h = ht ∧ Lv w w' g st hd (lo ++ hi) (lo ++ N :: hi) := by
  have HF := Aside0.mk (findMiss g st hd lo hi key w h hlo hhi hm)
  have H := Aside0.mk h
  have HLo := Aside0.mk hlo
  have HHi := Aside0.mk hhi
  have HM := Aside0.mk hm
  have HLen := Aside0.mk hlen
  have hz := zeroA
  have hZs : Aside0 ((List.replicate 16 (Value.pointer none)).toArray.size = (outC hd lo 0).toArray.size) := ⟨by simp [outC_len]⟩
  have hne : ¬ (List.replicate 16 (Value.pointer none)).toArray = #[] := by simp
  generalize (List.replicate 16 (Value.pointer none)).toArray = Z at *
  have hmk := fun W => make_one (P := Try.prog) TS TP (.pointer none) 8 Try.underlying78 (by kernel_rfl) .i64 .i64 ht (by omega) (by omega) W
  have HMs := Aside0.mk (midC_start hi ht)
  have HI : Aside0 ((Try.prog.info? TA).map (·.size) = some (outC hd lo 0).toArray.size) := ⟨by rw [show (outC hd lo 0).toArray.size = 16 by simp [outC_len]]; kernel_rfl⟩
  have H1 : Aside0 ((outC hd lo 0).toArray.all (·.oneCell') = true) := ⟨by
    rw [Array.all_eq_true_iff_forall_mem]
    intro v hv
    simp only [List.mem_toArray, outC, List.mem_map] at hv
    obtain ⟨l, _, rfl⟩ := hv
    split <;> rfl⟩
  clear h hlo hhi hm hlen
  go_enter Try.func36, Try.ntmps36
  go_wp2_with fail
  refine HF.out.mono ?_
  rintro e w1 ⟨rfl, hb⟩
  have HB := Aside0.mk hb
  have Hs1 := Aside0.mk (H.out.below hb)
  clear hb HF H
  go_wp2_with fail
  obtain ⟨W, hW⟩ : ∃ W, W = (w1.alloc (.cells (Array.replicate ht (.pointer none)) TP)).alloc (.cells #[.string key, .int .i64 0, .slice (some ⟨w1.heap.size, 0, none⟩) ht ht] TN) := ⟨_, rfl⟩
  have hbW : Below w1.heap.size w1 W := by rw [hW]; exact ((Below.refl _ _).alloc (Nat.le_refl _) _).alloc (by simp) _
  have HQ : Aside0 (Blk W w1.heap.size (midC hi ht 0) TP) := ⟨by
    rw [hW, HMs.out]
    have := (Blk.newA w1 (Array.replicate ht (.pointer none)) TP).alloc (.cells #[.string key, .int .i64 0, .slice (some ⟨w1.heap.size, 0, none⟩) ht ht] TN)
    rw [Array.toList_replicate] at this
    exact this⟩
  have HN : Aside0 (Blk W (w1.heap.size + 1) [.string key, .int .i64 0, .slice (some ⟨w1.heap.size, 0, none⟩) ht ht] TN) := ⟨by rw [hW]; have := Blk.newA (w1.alloc (.cells (Array.replicate ht (.pointer none)) TP)) #[.string key, .int .i64 0, .slice (some ⟨w1.heap.size, 0, none⟩) ht ht] TN; simpa using this⟩
  have Hs2 := Aside0.mk (Hs1.out.below hbW)
  have HB2 := Aside0.mk (HB.out.trans (hbW.mono HB.out.size))
  have hlt1 : ∀ i, Fp g hd (lo ++ hi) i → i < w1.heap.size := fun i hi => Hs1.out.lt hi
  have HLt := Aside0.mk hlt1
  have HwL := Aside0.mk HB.out.size
  rw [← hW]
  clear hW hbW hmk HMs Hs1 HB hlt1
  generalize w1.heap.size = qn at *
  refine (i64Store (qn + 1) 1 v 0 W (HN.out.cell 1 _ rfl) (HN.out.free 1)).mono ?_
  rintro e w2 ⟨rfl, hw2⟩
  have ho2 : Only (fun i => i = qn + 1) W w2 := by rw [← hw2]; exact Only.setCell (S := fun i => i = qn + 1) (Only.refl _ W) (p := ⟨qn + 1, 1, none⟩) (Or.inl rfl) _
  have HN2 : Aside0 (Blk w2 (qn + 1) [.string key, .int .i64 v, .slice (some ⟨qn, 0, none⟩) ht ht] TN) := ⟨by rw [← hw2]; exact HN.out.put 1 (.int .i64 v)⟩
  have HQ2 := Aside0.mk (ho2.blk HQ.out (by omega))
  have Hs3 := Aside0.mk (Hs2.out.only ho2 (fun i hi e => by have := HLt.out i hi; omega))
  have HB3 : Aside0 (Below w.heap.size w w2) := ⟨HB2.out.trans (ho2.below (fun i e => by have := HwL.out; omega) HB2.out.size)⟩
  clear hw2 ho2 HN HQ Hs2 HB2
  have HBf := Aside0.mk (Hs3.out.before key HLo.out HHi.out)
  go_wp2_with fail
  refine HBf.out.mono ?_
  rintro e w3 ⟨rfl, hb3⟩
  have HN3 := Aside0.mk (HN2.out.belowSize hb3)
  have HQ3 := Aside0.mk (HQ2.out.belowSize hb3)
  have Hs4 := Aside0.mk (Hs3.out.below hb3)
  have HB4 := Aside0.mk (HB3.out.trans (hb3.mono HB3.out.size))
  clear hb3 HN2 HQ2 Hs3 HB3 HBf
  have ha12 : (w3.alloc (.cells Z TA)).heap[w3.heap.size]? = some (.cells Z TA (0, 0)) := heap_alloc_new w3 _
  go_wp2_with (with_reducible refine wpList_store_row rfl TA (.tmp 12) (.tmp 37) rfl w3.heap.size (outC hd lo 0).toArray rfl rfl TA Z ha12 HI.out hZs.out H1.out ?_)
  clear ha12
  obtain ⟨W4, hW4⟩ : ∃ W4, W4 = (w3.alloc (.cells Z TA)).setRow w3.heap.size (outC hd lo 0).toArray := ⟨_, rfl⟩
  have hb4 : Below w3.heap.size w3 W4 := by
    rw [hW4]
    exact ⟨rfl, rfl, rfl, by rw [setRow_size]; simp, fun k hk => by rw [setRow_other _ _ _ _ (by omega)]; exact Below.heap_alloc w3 _ k hk⟩
  have HA : Aside0 (Blk W4 w3.heap.size (outC hd lo 0) TA) := ⟨⟨by rw [hW4]; exact setRow_heap _ _ _ _ _ _ (heap_alloc_new w3 _)⟩⟩
  have HN4 := Aside0.mk (HN3.out.belowSize hb4)
  have HQ4 := Aside0.mk (HQ3.out.belowSize hb4)
  have Hs5 := Aside0.mk (Hs4.out.below hb4)
  have HB5 := Aside0.mk (HB4.out.trans (hb4.mono HB4.out.size))
  have HAn : Aside0 (qn + 1 < w3.heap.size) := ⟨HN3.out.lt⟩
  rw [← hW4]
  clear hW4 hb4 HN3 HQ3 Hs4 HB4 hz hne hZs HI H1
  generalize w3.heap.size = an at *
  go_loopw [13, 39] (fun _ x wr => ∃ j : Nat, j ≤ ht ∧ x = .int .i64 j ∧ Aside0 (Only (fun i => i = qn) W4 wr) ∧ Aside0 (Blk wr qn (midC hi ht j) TP)) (fun _ x _ => ht - (intOf x).toNat)
  case atStart => exact ⟨0, Nat.zero_le _, rfl, ⟨Only.refl _ _⟩, HQ4⟩
  case round =>
    obtain ⟨j, hj, rfl, HO, HQ⟩ := hrel
    have HNr := Aside0.mk (HO.out.blk HN4.out (by omega))
    have HAr := Aside0.mk (HO.out.blk HA.out (by have := HAn.out; omega))
    have Hsr := Aside0.mk (Hs5.out.only HO.out (fun i hi e => by have := HLt.out i hi; omega))
    by_cases hjl : j < ht
    · obtain ⟨x, hx, hxn, hxh, hxc, hxi⟩ := Hsr.out.lastAt j (by omega)
      have hac := HAr.out.cell j _ (outC_get hd lo j (by omega))
      rw [hx] at hac
      have hx2 := hxn.cell 2 _ rfl
      have hn2 := HNr.out.cell 2 _ rfl
      have HL := Aside0.mk (pload x.q j _ wr.drew hxc (hxi.below ((Below.refl _ wr).drew)))
      have HSt := Aside0.mk (pstore qn j (fst? j hi (fun _ => none)) _ wr.drew (HQ.out.drew.cell j _ (midC_at hi ht j j hjl)) (HQ.out.drew.free j) (hxi.below ((Below.refl _ wr).drew)))
      have i1 : (j : Int) < 16 := by omega
      have i2 : (j : Int) < (ht : Int) := by omega
      have i3 : (j : Int) < (x.h : Int) := by omega
      have hdn : qn ≠ an := by have := HAn.out; omega
      clear hx hxn hxh hxc hxi
      simp only [ptr] at hac
      go_wp2_with fail
      go_region_with (first
        | (go_at_call 24; refine (HL.out).mono ?_; rintro e w5 ⟨rfl, rfl⟩)
        | (go_at_call 47; refine (HSt.out).mono ?_; rintro e w6 ⟨rfl, hw6⟩))
      all_goals
        have HO2 : Aside0 (Only (fun i => i = qn) W4 w6) := ⟨by rw [← hw6]; exact Only.setCell (S := fun i => i = qn) HO.out.drew (p := ⟨qn, j, none⟩) (Or.inl rfl) _⟩
        have HQ2 : Aside0 (Blk w6 qn (midC hi ht (j + 1)) TP) := ⟨by rw [← hw6, ← midC_set hi ht j hjl]; exact HQ.out.drew.put j _⟩
        clear hw6 HO HQ HNr HAr Hsr HL HSt hac hx2 hn2
        go_wp2
        go_roundw
        case rel => exact ⟨j + 1, by omega, by go_num, HO2, HQ2⟩
        case measure => simp [intOf]; omega
    · obtain rfl : j = ht := by omega
      have HB6 : Aside0 (Below w.heap.size w wr) := ⟨HB5.out.trans (HO.out.below (fun i e => by have := HwL.out; omega) HB5.out.size)⟩
      have HL0 : Aside0 (Links wr (hd :: lo) (fun i => if i < 0 then some (qn + 1) else fst? i hi (fun _ => none))) := ⟨by
        have hl := Hsr.out.lnk
        rw [← List.cons_append, Links.split] at hl
        have e : (fun i => if i < 0 then some (qn + 1) else fst? i hi (fun _ => none)) = (fun i => fst? i hi (fun _ => none)) := funext fun i => by rw [if_neg (by omega)]
        rw [e]
        exact hl.1⟩
      have HFt : Aside0 (∀ i, Foot (hd :: lo) i → i < qn) := ⟨fun i ⟨x, hx, e⟩ => HLt.out i (Or.inr ⟨x, by
        rcases List.mem_cons.1 hx with rfl | hx
        · exact List.mem_cons_self
        · exact List.mem_cons_of_mem _ (List.mem_append_left _ hx), e⟩)⟩
      have HNd : Aside0 (((hd :: lo).map (·.q)).Nodup) := ⟨by
        have := Hsr.out.nq
        rw [← List.cons_append, List.map_append, List.nodup_append] at this
        exact this.1⟩
      have HPq : Aside0 (∀ y ∈ hd :: lo, ∀ z ∈ hd :: lo, y.p ≠ z.q) := ⟨fun y hy z hz => HL0.out.pq hy hz⟩
      have Hhh := Aside0.mk Hsr.out.hh
      clear HO HB5 HN4 HA Hs5 HQ4
      obtain ⟨W5, hW5⟩ : ∃ W5, W5 = wr := ⟨_, rfl⟩
      have HOr : Aside0 (Only (Foot (hd :: lo)) W5 wr) := ⟨by rw [hW5]; exact Only.refl _ _⟩
      rw [← hW5] at HNr HAr Hsr HQ HB6
      clear hW5
      go_wp2_with fail
      go_loopw [14, 60] (fun _ x wz => ∃ i : Nat, i ≤ j ∧ x = .int .i64 i ∧ Aside0 (Links wz (hd :: lo) (fun l => if l < i then some (qn + 1) else fst? l hi (fun _ => none))) ∧ Aside0 (Only (Foot (hd :: lo)) W5 wz)) (fun _ x _ => j - (intOf x).toNat)
      case atStart => exact ⟨0, Nat.zero_le _, rfl, HL0, HOr⟩
      case round =>
        clear HL0 HOr
        obtain ⟨i, hij, rfl, HL, HO⟩ := hrel
        by_cases hil : i < j
        · have hls := HL.out.last i (by rw [Hhh.out]; omega)
          have hst := Links.store i (some (qn + 1)) lo hd _ HNd.out (by rw [Hhh.out]; omega) HL.out HPq.out
          rw [if_neg (Nat.lt_irrefl i)] at hls
          obtain ⟨hxn, hxh, hxc, hxf⟩ := hls
          have hac := HAr.out.cell i _ (outC_get hd lo i (by omega))
          have hac := (show _ from ((HO.out.blk HAr.out (fun hf => by have := HFt.out _ hf; have := HAn.out; omega)).cell i _ (outC_get hd lo i (by omega))))
          have HIn : IsN _ (some (qn + 1)) := fun p hp => by
            injection hp with hp
            subst hp
            exact ⟨_, _, _, HO.out.blk HNr.out (fun hf => by have := HFt.out _ hf; omega)⟩
          have HOn : Aside0 (Only (Foot (hd :: lo)) W5 (wr.setCell ⟨(lastAt i hd lo).q, i, none⟩ (ptr (some (qn + 1))))) := ⟨Only.setCell (S := Foot (hd :: lo)) HO.out (p := ⟨(lastAt i hd lo).q, i, none⟩) (Or.inl ⟨_, lastAt_mem i lo hd, Or.inr rfl⟩) _⟩
          have HLn : Aside0 (Links (wr.setCell ⟨(lastAt i hd lo).q, i, none⟩ (ptr (some (qn + 1)))) (hd :: lo) (fun l => if l < i + 1 then some (qn + 1) else fst? l hi (fun _ => none))) := ⟨by
            have e : (fun l => if l = i then some (qn + 1) else if l < i then some (qn + 1) else fst? l hi (fun _ => none)) = (fun l => if l < i + 1 then some (qn + 1) else fst? l hi (fun _ => none)) := by
              funext l
              by_cases h1 : l = i
              · rw [if_pos h1, if_pos (by omega)]
              · rw [if_neg h1]
                by_cases h2 : l < i
                · rw [if_pos h2, if_pos (by omega)]
                · rw [if_neg h2, if_neg (by omega)]
            rw [← e]
            exact hst⟩
          clear hst
          generalize lastAt i hd lo = x at *
          have hx2 := hxn.cell 2 _ rfl
          have HSt := Aside0.mk (pstore x.q i (some (qn + 1)) _ _ hxc hxf HIn)
          have i1 : (i : Int) < 16 := by omega
          have i3 : (i : Int) < (x.h : Int) := by omega
          clear hxn hxh hxc hxf HIn
          simp only [ptr] at hac
          go_wp2_with fail
          refine HSt.out.mono ?_
          rintro e w6 ⟨rfl, hw6⟩
          rw [hw6] at HLn HOn
          clear hw6 HL HO HSt hac hx2
          go_wp2
          go_roundw
          case rel => exact ⟨i + 1, by omega, by go_num, HLn, HOn⟩
          case measure => simp [intOf]; omega
        · obtain rfl : i = j := by omega
          have hgf : ¬ Foot (hd :: lo) g := fun ⟨x, hx, e⟩ => Hsr.out.gN g ⟨x, by
            rcases List.mem_cons.1 hx with rfl | hx
            · exact List.mem_cons_self
            · exact List.mem_cons_of_mem _ (List.mem_append_left _ hx), e⟩ rfl
          have hrow := HO.out.blk Hsr.out.row hgf
          have hlen : wrap64 (((lo ++ hi).length : Int) + 1) = ((lo ++ (⟨qn + 1, qn, key, v, i⟩ : Nd) :: hi).length : Int) := by
            have := HLen.out
            rw [List.length_append] at this ⊢
            rw [List.length_append, List.length_cons]
            unfold wrap64
            omega
          have HAd := Aside0.mk (i64Add g 4 _ 1 _ (hrow.cell 4 _ rfl) (hrow.free 4))
          rw [hlen] at HAd
          have HRow := Aside0.mk hrow
          have HNn : Aside0 (∀ k, Foot (hd :: lo) k → ¬ k = g) := ⟨fun k hk e => hgf (e ▸ hk)⟩
          clear hrow hgf hlen
          go_wp2_with fail
          refine HAd.out.mono ?_
          rintro e w7 ⟨rfl, hw7⟩
          have HEnd : Aside0 (Lv w w7 g st hd (lo ++ hi) (lo ++ (⟨qn + 1, qn, key, v, i⟩ : Nd) :: hi)) := ⟨by
            have hfg : ∀ l : List Nd, (∀ x ∈ l, x ∈ hd :: (lo ++ hi)) → ∀ k, Foot l k → ¬ k = g := fun l hl k ⟨x, hx, e⟩ => Hsr.out.gN k ⟨x, hl x hx, e⟩
            have hgl := HLt.out g (Or.inl rfl)
            have hsplit := Hsr.out.lnk
            rw [← List.cons_append, Links.split] at hsplit
            have hnf : ∀ k, Foot hi k → ¬ Foot (hd :: lo) k := by
              -- the parts share no block
              rintro k ⟨x, hx, ex⟩ ⟨y, hy, ey⟩
              have np := Hsr.out.np
              have nq := Hsr.out.nq
              rw [← List.cons_append, List.map_append, List.nodup_append] at np nq
              have hx2 : x ∈ hd :: (lo ++ hi) := List.mem_cons_of_mem _ (List.mem_append_right _ hx)
              have hy2 : y ∈ hd :: (lo ++ hi) := by
                rcases List.mem_cons.1 hy with rfl | hy
                · exact List.mem_cons_self
                · exact List.mem_cons_of_mem _ (List.mem_append_left _ hy)
              rcases ex with rfl | rfl <;> rcases ey with e | e
              · exact np.2.2 y.p (List.mem_map_of_mem hy) x.p (List.mem_map_of_mem hx) e.symm
              · exact Hsr.out.lnk.pq hx2 hy2 e
              · exact Hsr.out.lnk.pq hy2 hx2 e.symm
              · exact nq.2.2 y.q (List.mem_map_of_mem hy) x.q (List.mem_map_of_mem hx) e.symm
            refine ⟨Hsr.out.insert (⟨qn + 1, qn, key, v, i⟩ : Nd) ?_ ?_ ?_ ?_ ?_ h1 h16 (fun k hk => ?_) HLo.out HHi.out HM.out, ?_, fun k hk => ?_⟩
            · rw [← hw7]
              exact HRow.out.put 4 _
            · rw [← hw7]
              exact HL.out.other HNn.out
            · rw [← hw7]
              exact (HO.out.blk HNr.out (fun hf => by have := HFt.out _ hf; omega)).far (a := ⟨g, 4, none⟩) (by simp only; omega) _
            · rw [← hw7]
              have := (HO.out.blk HQ.out (fun hf => by have := HFt.out _ hf; omega)).far (a := ⟨g, 4, none⟩) (by simp only; omega) (.int .i64 ((lo ++ (⟨qn + 1, qn, key, v, i⟩ : Nd) :: hi).length : Int))
              rw [midC_end] at this
              exact this
            · rw [← hw7]
              exact (hsplit.2.only HO.out hi hnf).other (hfg hi (fun x hx => List.mem_cons_of_mem _ (List.mem_append_right _ hx)))
            · have := HLt.out k (Or.inr hk)
              exact ⟨by simp only; omega, by simp only; omega⟩
            · rw [← hw7]
              have o1 : Only (Fp g hd (lo ++ hi)) w W5 := Only.ofBelow HB6.out
              have o2 : Only (Fp g hd (lo ++ hi)) W5 wr := HO.out.mono (fun k ⟨x, hx, e⟩ => Or.inr ⟨x, by
                rcases List.mem_cons.1 hx with rfl | hx
                · exact List.mem_cons_self
                · exact List.mem_cons_of_mem _ (List.mem_append_left _ hx), e⟩)
              exact Only.setCell (S := Fp g hd (lo ++ hi)) (o1.trans o2) (p := ⟨g, 4, none⟩) (Or.inl (Or.inl rfl)) _
            · have := HwL.out
              rcases Fp.insert hk with h | h | h
              · exact Or.inl h
              · exact Or.inr (by rw [h]; simp only; omega)
              · exact Or.inr (by rw [h]; simp only; omega)⟩
          clear hw7 HL HO HAd HRow HNn
          go_wp2
          go_ret2
          exact ⟨_, rfl, rfl, rfl, rfl, HEnd.out⟩
end Go.Proofs.Ytnpjppnahfehnaa.Skip
