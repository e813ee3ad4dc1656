/- What a law's arguments read as: from the row's reading of memory to the print's kinds, type by type. -/
import Derived.Test.YtbamamkjmfkghaaKit
import Derived.Deep.Slices
import Derived.SizedLaws
namespace Go.Proofs.Ytbamamkjmfkghaa.Kit
set_option linter.unusedVariables false
set_option linter.unusedSimpArgs false
open Go.RowKit Go.Proofs.YtbamamkjmfkghaaW.PrintWords Go.ChangeShapes Go.WideShapes

/-- Whatever the row reads as type t is read by kind d, and is in its bounds. -/
def Opens (P : Program) (t : TypeId) {α : Type} (d : Kd α) (ok : α → Prop) : Prop :=
  ∀ {H : Type} (enc : TypeId × Value → H) (w : World) (base : Nat) (sp : Nat → Bool) (held : Bool) (fuel : Nat) (cs : List Value) (y : DataW H) (ps : List MemPlace),
    DataW.trod enc P w base sp held fuel t cs = some (y, ps) → (∀ n ∈ y.weights P t, n ≤ 140737488351232) → ∃ x : α, d.K w x cs ∧ ok x

theorem opens_int {P : Program} {t : TypeId} (k : IntKind) (h : P.underlying t = some (.int k)) : Opens P t (Kd.int k) (fun n => (Lit.int k n).wf = true) := by
  intro H enc w base sp held fuel cs y ps hy _
  obtain ⟨n, rfl, _, hw⟩ := DataW.trod_int h hy
  exact ⟨n, rfl, hw⟩
theorem opens_bool {P : Program} {t : TypeId} (h : P.underlying t = some .bool) : Opens P t Kd.bool (fun _ => True) := by
  intro H enc w base sp held fuel cs y ps hy _
  obtain ⟨n, rfl, _⟩ := DataW.trod_bool h hy
  exact ⟨n, rfl, trivial⟩
theorem opens_string {P : Program} {t : TypeId} (h : P.underlying t = some .string) : Opens P t Kd.string (fun s => s.size ≤ 140737488351232) := by
  intro H enc w base sp held fuel cs y ps hy hz
  obtain ⟨s, rfl, he, _⟩ := DataW.trod_string h hy
  obtain ⟨rfl, _⟩ := Prod.mk.inj he
  refine ⟨s, rfl, ?_⟩
  have := hz s.data.toList.length (by simp [DataW.weights])
  simpa using this

/-- The fields from one on. -/
def OpensFs (P : Program) (off total : Nat) (fs : List Field) {α : Type} (d : Kd α) (ok : α → Prop) : Prop :=
  ∀ {H : Type} (enc : TypeId × Value → H) (w : World) (base : Nat) (sp : Nat → Bool) (held : Bool) (fuel : Nat) (cs : List Value) (ys : List (DataW H × List MemPlace)),
    cs.length = total → ys.length = fs.length → (∀ (i : Nat) (f : Field), fs[i]? = some f → DataW.trod enc P w base sp held fuel f.type ((cs.drop f.offset).take (P.cellsOf f.type)) = ys[i]?) →
    (∀ n ∈ DataW.weightsEach P (fs.map (·.type)) (ys.map (·.1)), n ≤ 140737488351232) → ∃ x : α, d.K w x (cs.drop off) ∧ ok x

theorem opensFs_one {P : Program} {off total : Nat} {f : Field} {α : Type} {d : Kd α} {ok : α → Prop} (ho : f.offset = off) (ht : off + P.cellsOf f.type = total) (h : Opens P f.type d ok) : OpensFs P off total [f] d ok := by
  intro H enc w base sp held fuel cs ys hl hn hy hz
  match ys, hn with
  | [(y, q)], _ =>
    have := hy 0 f rfl
    rw [ho, List.take_of_length_le (by rw [List.length_drop]; omega)] at this
    exact h enc w base sp held fuel _ y q this (fun n hn => hz n (by simp [DataW.weightsEach, hn]))
theorem opensFs_cons {P : Program} {off total : Nat} {f : Field} {fs : List Field} {α β : Type} {d : Kd α} {d2 : Kd β} {ok : α → Prop} {ok2 : β → Prop} (ho : f.offset = off) (h : Opens P f.type d ok) (h2 : OpensFs P (off + P.cellsOf f.type) total fs d2 ok2) :
    OpensFs P off total (f :: fs) (Kd.pair d d2) (fun x => ok x.1 ∧ ok2 x.2) := by
  intro H enc w base sp held fuel cs ys hl hn hy hz
  match ys, hn with
  | (y, q) :: ys, hn =>
    have h0 := hy 0 f rfl
    rw [ho] at h0
    obtain ⟨x, hx, kx⟩ := h enc w base sp held fuel _ y q h0 (fun n hn => hz n (by simp [DataW.weightsEach, hn]))
    obtain ⟨x2, hx2, kx2⟩ := h2 enc w base sp held fuel cs ys hl (by simpa using hn) (fun i g hg => hy (i + 1) g hg) (fun n hn => hz n (by simp [DataW.weightsEach]; exact Or.inr hn))
    refine ⟨(x, x2), ⟨_, _, ?_, hx, hx2⟩, kx, kx2⟩
    rw [← List.drop_drop, List.take_append_drop]
theorem opens_struct {P : Program} {t : TypeId} {fs : Array Field} {α β : Type} {d : Kd α} {ok : α → Prop} (f : β → α) (g : α → β) (hfg : ∀ a, f (g a) = a) (h : P.underlying t = some (.struct fs)) (total : Nat) (hc : P.cellsOf t = total)
    (fl : List Field) (hl : fs.toList = fl) (hf : OpensFs P 0 total fl d ok) : Opens P t (Kd.iso d f) (fun s => ok (f s)) := by
  intro H enc w base sp held fuel cs y ps hy hz
  obtain ⟨xs, n, _, he, hcl, hxl, hx⟩ := DataW.trod_struct h hy
  obtain ⟨rfl, _⟩ := Prod.mk.inj he
  subst hl
  obtain ⟨x, hK, hok⟩ := hf enc w base sp held n cs xs (by rw [hcl, hc]) (by rw [hxl]; simp) (fun i f hf => hx i f (by simpa using hf)) (fun n hn => hz n (by simp only [DataW.weights, h]; exact hn))
  refine ⟨g x, ?_, by show ok (f (g x)); rw [hfg]; exact hok⟩
  show d.K w (f (g x)) cs
  rw [hfg]
  simpa using hK

theorem weightsAll_mem {H : Type} {P : Program} {e : TypeId} : ∀ {ds : List (DataW H)} {x : DataW H} (_ : x ∈ ds) (n : Nat) (_ : n ∈ x.weights P e), n ∈ DataW.weightsAll P e ds
  | d :: ds, x, hx, n, hn => by
    simp only [DataW.weightsAll, List.mem_append]
    rcases List.mem_cons.1 hx with rfl | hx
    · exact Or.inl hn
    · exact Or.inr (weightsAll_mem hx n hn)
theorem add_addr (a : Addr) (i j : Nat) : (a.add i).add j = a.add (i + j) := Go.Deep.add_add a i j

theorem opens_slice {P : Program} {t e : TypeId} {α : Type} {d : Kd α} {ok : α → Prop} (h : P.underlying t = some (.slice e)) (hs : P.cellsOf e = d.sz) (B : Nat) (hB : P.bytesOf e = B) (he : Opens P e d ok) :
    Opens P t (Kd.slice e d) (fun xs => xs.length * B ≤ 140737488351232 ∧ ∀ x ∈ xs, ok x) := by
  intro H enc w base sp held fuel cs y ps hy hz
  rcases Go.Deep.open_slice h hy with ⟨rfl, _⟩ | ⟨a, len, cap, m, n, D, Pl, rfl, hb, hl, hm, hmm, he2, hx⟩
  · exact ⟨[], ⟨none, 0, rfl, Nat.le_refl _, rfl, Nat.zero_le _, fun hn => absurd hn (Nat.lt_irrefl _)⟩, by simp, fun x hx => by simp at hx⟩
  · obtain ⟨rfl, _⟩ := Prod.mk.inj he2
    have hlm : len ≤ m := by rw [hmm]; split <;> omega
    have key : ∀ k, k ≤ len → ∃ xs : List α, xs.length = k ∧ ∀ (j : Nat) p, xs[j]? = some p → (∃ c, c.length = d.sz ∧ d.K w p c ∧ ∀ (i : Nat) (u : Value), c[i]? = some u → w.cell? (a.add (j * d.sz + i)) = some u) ∧ ok p := by
      intro k
      induction k with
      | zero => exact fun _ => ⟨[], rfl, fun j p hj => by simp at hj⟩
      | succ k ih =>
        intro hk
        obtain ⟨xs, hxl, hxs⟩ := ih (by omega)
        obtain ⟨cs', hcs, hD⟩ := hx k (by omega)
        obtain ⟨_, hcl, hcc⟩ := World.cells?_some hcs
        obtain ⟨x, hK, hok⟩ := he enc w base sp held n cs' (D k) (Pl k) hD (fun n hn => hz n (by
          simp only [DataW.weights, h, List.mem_cons, List.mem_append]
          exact Or.inr (Or.inl (weightsAll_mem (List.mem_map.2 ⟨k, List.mem_range.2 (by omega), rfl⟩) n hn))))
        refine ⟨xs ++ [x], by simp [hxl], fun j p hj => ?_⟩
        rcases Nat.lt_or_ge j xs.length with hlt | hge
        · exact hxs j p (by rwa [List.getElem?_append_left hlt] at hj)
        · rw [List.getElem?_append_right hge] at hj
          have hj0 : j = k := by
            have := (List.getElem?_eq_some_iff.1 hj).1
            simp at this
            omega
          subst hj0
          rw [hxl, Nat.sub_self] at hj
          obtain rfl : x = p := by simpa using hj
          refine ⟨⟨cs', by rw [hcl, hs], hK, fun i u hu => ?_⟩, hok⟩
          have hi : i < P.cellsOf e := by rw [← hcl]; exact (List.getElem?_eq_some_iff.1 hu).1
          rw [← hs, ← add_addr, hcc i hi]
          exact hu
    obtain ⟨xs, hxl, hxs⟩ := key len (Nat.le_refl _)
    subst hxl
    refine ⟨xs, ⟨some a, cap, rfl, hl, rfl, by simp only [maxLen] at hm; omega, fun _ => ⟨a, rfl, fun j p hj => (hxs j p hj).1⟩⟩, ?_, fun x hx => ?_⟩
    · have := hz ((xs.length + (m - xs.length)) * P.bytesOf e) (by simp [DataW.weights, h])
      rw [hB] at this
      exact Nat.le_trans (Nat.mul_le_mul_right _ (by omega)) this
    · obtain ⟨i, hi⟩ := List.getElem?_of_mem hx
      exact (hxs i x hi).2

/-- Element i of a row that is read, cell by cell. -/
theorem plainAdd (b o i : Nat) : (⟨b, o, none⟩ : Addr).add i = ⟨b, o + i, none⟩ := by unfold Addr.add; split <;> simp_all
theorem addSpot (a : Addr) (i : Nat) (h : (a.add i).spot = none) : a.spot = none ∨ i ≠ 0 := by
  unfold Addr.add at h
  split at h
  · exact Or.inl h
  · exact Or.inr (by assumption)
theorem C_at {α : Type} {d : Kd α} {s : Nat} (hs : d.sz = s) (h0 : 0 < s) {w : World} {A : Option Addr} {n : Nat} {xs : List α} (h : d.C w A n xs) (i : Nat) (hi : i < n) :
    ∃ b o x cs, A = some ⟨b, o, none⟩ ∧ xs[i]? = some x ∧ d.K w x cs ∧ ∀ (k : Nat) (u : Value), cs[k]? = some u → w.cell? ⟨b, o + i * s + k, none⟩ = some u := by
  obtain ⟨h1, _, h3⟩ := h
  obtain ⟨ad, rfl, hc⟩ := h3 (by omega)
  subst hs
  -- the first element's first cell tells that the address is plain
  obtain ⟨c0, hl0, hK0, hcell0⟩ := hc 0 _ (List.getElem?_eq_getElem (show 0 < xs.length by omega))
  obtain ⟨u0, hu0⟩ : ∃ u, c0[0]? = some u := ⟨_, List.getElem?_eq_getElem (by omega)⟩
  have sp := World.cell?_spot (hcell0 0 u0 hu0)
  obtain ⟨b, o, sp'⟩ := ad
  rcases addSpot _ _ sp with e | e
  · obtain rfl : sp' = none := e
    obtain ⟨c, hl, hK, hcell⟩ := hc i _ (List.getElem?_eq_getElem (show i < xs.length by omega))
    refine ⟨b, o, _, c, rfl, List.getElem?_eq_getElem (show i < xs.length by omega), hK, fun k u hu => ?_⟩
    have := hcell k u hu
    rwa [plainAdd, ← Nat.add_assoc] at this
  · omega

/-- An argument of the row. -/
theorem opens_arg {P : Program} {t : TypeId} {α : Type} {d : Kd α} {ok : α → Prop} (h : Opens P t d ok) {H : Type} {enc : TypeId × Value → H} {W : World} {base : Nat} {sp : Nat → Bool} {held : Bool} {ts : List TypeId} {ds : List (DataW H)} {v : Value} {y : DataW H} {ps : List MemPlace}
    (hsz : (DataW.weightsEach P ts ds).all (· ≤ reachBytes) = true) {j : Nat} (ht : ts[j]? = some t) (hd : ds[j]? = some y) (hy : DataW.Trod enc P W base sp held t v y ps) : ∃ x : α, d.K W x v.cells.toList ∧ ok x := by
  obtain ⟨fuel, hf⟩ := hy
  exact h enc W base sp held fuel _ y ps hf (fun n hn => by
    have := List.all_eq_true.1 hsz n (DataW.weights_mem_each ht hd n hn)
    have h2 : n ≤ reachBytes := of_decide_eq_true this
    exact h2)
end Go.Proofs.Ytbamamkjmfkghaa.Kit
