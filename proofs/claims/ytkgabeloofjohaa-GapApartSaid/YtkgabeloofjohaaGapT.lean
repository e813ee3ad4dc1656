/- Layer 13: what the program keeps is what the reference keeps (no program in sight). -/
import Derived.Test.YtkgabeloofjohaaGapS
namespace Go.Proofs.Ytkgabeloofjohaa.Gap
set_option linter.unusedVariables false
set_option linter.unusedSimpArgs false
open Go.RowKit Go.Proofs.YtkgabeloofjohaaW.PrintWords Go.Proofs.Ytkgabeloofjohaa.Kit

def toRT (k : Tk) : RT := ⟨k.t, k.hs⟩
theorem rt_tickets (ts : List Tk) : rtickets (ts.map toRT) = tickets ts := by
  unfold rtickets tickets
  rw [List.map_map]
  rfl
theorem rt_find (ts : List Tk) (n : Int) : rfind (ts.map toRT) n = idxT ts n := by
  unfold rfind idxT
  rw [List.findIdx?_map]
  rfl
theorem rt_regrant (ts : List Tk) : (regrant ts).map toRT = ts.map toRT := by
  unfold regrant
  rw [List.map_map]
  rfl
theorem rt_erase (ts : List Tk) (m : Nat) : (ts.eraseIdx m).map toRT = (ts.map toRT).eraseIdx m := map_erase toRT ts m
theorem filter_none {α : Type} (p : α → Bool) (l : List α) (h : ∀ x ∈ l, p x = false) : l.filter p = [] := by
  rw [List.filter_eq_nil_iff]
  intro x hx
  rw [h x hx]
  simp
theorem rt_ahead {ts : List Tk} {i : Nat} {k : Tk} (h : ts[i]? = some k) (hr : ts.Pairwise (fun a b => a.t < b.t)) : raheadP (ts.map toRT) (toRT k) i = aheadK ts k := by
  have e := erase_mid h
  have hl := (List.getElem?_eq_some_iff.1 h).1
  have hr' := hr
  rw [e, List.pairwise_append] at hr'
  obtain ⟨_, h2, h3⟩ := hr'
  rw [List.pairwise_cons] at h2
  have hk : isAhead k k = false := by simp [isAhead]
  have hd : (ts.drop (i + 1)).filter (isAhead k) = [] := filter_none _ _ (fun x hx => by
    have := h2.1 x hx
    unfold isAhead
    rw [decide_eq_false (by omega)]
    rfl)
  have ht : (ts.take i).filter (isAhead k) = (ts.take i).filter (fun y => wayB y.hs k.hs) := by
    apply List.filter_congr
    intro x hx
    have := h3 x hx k List.mem_cons_self
    unfold isAhead
    rw [decide_eq_true this]
    rfl
  have hA : aheadK ts k = ((ts.take i).filter (fun y => wayB y.hs k.hs)).map (·.t) := by
    unfold aheadK
    conv => lhs; rw [e]
    rw [List.filter_append, List.filter_cons, hk, hd, ht]
    simp
  rw [hA]
  unfold raheadP
  rw [← List.map_take, List.filter_map, List.map_map]
  rfl

/-- Granted is who has nobody ahead. -/
def GrInv (ts : List Tk) : Prop := ∀ k ∈ ts, k.gr = (aheadK ts k).isEmpty
theorem gr1_ahead (ts us : List Tk) (k : Tk) : aheadK us (gr1 ts k) = aheadK us k := rfl
theorem grInv_regrant {ts : List Tk} (h : ∀ k ∈ ts, k.gr = true → (aheadK ts k).isEmpty = true) : GrInv (regrant ts) := by
  intro x hx
  obtain ⟨k, hk, rfl⟩ := List.mem_map.1 hx
  have e : aheadK (regrant ts) (gr1 ts k) = aheadK ts k := aheadK_map ts (gr1 ts) (fun _ => ⟨rfl, rfl⟩) k
  rw [e]
  show (k.gr || (aheadK ts k).isEmpty) = _
  cases hg : k.gr with
  | false => rfl
  | true => rw [h k hk hg]; rfl
theorem aheadK_snoc {ts : List Tk} {k x : Tk} (h : x.t ≤ k.t) : aheadK (ts ++ [k]) x = aheadK ts x := by
  unfold aheadK
  have : [k].filter (isAhead x) = [] := filter_none _ _ (fun y hy => by
    rw [List.mem_singleton.1 hy]
    unfold isAhead
    rw [decide_eq_false (by omega)]
    rfl)
  rw [List.filter_append, this, List.append_nil]
theorem grInv_take {ts : List Tk} {k : Tk} (h : GrInv ts) (hk : k.gr = false) (hle : ∀ x ∈ ts, x.t ≤ k.t) : GrInv (regrant (ts ++ [k])) := grInv_regrant (fun x hx hg => by
  rw [List.mem_append, List.mem_singleton] at hx
  rcases hx with hx | rfl
  · rw [aheadK_snoc (hle x hx), ← h x hx]
    exact hg
  · rw [hk] at hg
    cases hg)
theorem grInv_give {ts : List Tk} {m : Nat} (h : GrInv ts) : GrInv (regrant (ts.eraseIdx m)) := grInv_regrant (fun x hx hg => by
  have h1 := h x (List.mem_of_mem_eraseIdx hx)
  rw [hg] at h1
  have h2 : aheadK ts x = [] := by simpa using h1.symm
  have h3 : aheadK (ts.eraseIdx m) x = [] := by
    unfold aheadK at h2 ⊢
    rw [List.map_eq_nil_iff, List.filter_eq_nil_iff] at h2 ⊢
    exact fun y hy => h2 y (List.mem_of_mem_eraseIdx hy)
  rw [h3]
  rfl)
theorem use_regrant (g : Nat) (v : Value) (ts : List Tk) (i : Nat) : use g v (regrant ts) i → use g v ts i := by
  have := use_mix g v ts ts.length i
  rw [gmix_all] at this
  exact this
theorem use_regrant' (g : Nat) (v : Value) (ts : List Tk) (i : Nat) : use g v ts i → use g v (regrant ts) i := by
  rintro (e | e | ⟨k, hk, hu⟩)
  · exact Or.inl e
  · exact Or.inr (Or.inl e)
  · exact Or.inr (Or.inr ⟨gr1 ts k, List.mem_map.2 ⟨k, hk, rfl⟩, hu⟩)
/-- A row that is not in use stays through a call of the object's. -/
theorem R_after {α : Type} {d : Kd α} {e base : Nat} {w w' : World} {v : Value} {xs : List α} {U U' : Nat → Prop} (h : d.R e w base (fun i => ¬ U i) v xs) (ho : Only U w w') (hu : ∀ i, U' i → U i ∨ w.heap.size ≤ i) : d.R e w' base (fun i => ¬ U' i) v xs := by
  have hb := Kd.R_bound h
  have h1 := ho.R hb (fun i _ hi => hi.1)
  exact Kd.R_mono h1 (fun i hi hU => by
    rcases hu i hU with h2 | h2
    · exact hi.1 h2
    · have := hi.2.2.1
      omega)

theorem R_afterF {α : Type} {d : Kd α} {e base : Nat} {w w' : World} {v : Value} {xs : List α} {U U' Fr : Nat → Prop} (h : d.R e w base (fun i => ¬ U i ∧ Fr i) v xs) (ho : Only U w w') (hu : ∀ i, U' i → U i ∨ w.heap.size ≤ i) : d.R e w' base (fun i => ¬ U' i ∧ Fr i) v xs := by
  have hb := Kd.R_bound h
  have h1 := ho.R hb (fun i _ hi => hi.1.1)
  exact Kd.R_mono h1 (fun i hi => ⟨fun hU => by
    rcases hu i hU with h2 | h2
    · exact hi.1.1 h2
    · have := hi.2.2.1
      omega, hi.1.2⟩)
/-- The object and the reference's state side by side; Fr: where the reference's rows may lie besides. -/
structure St (Fr : Nat → Prop) (W : World) (g : Nat) (v : Value) (ts : List Tk) (last : Int) (A : Option Addr) (c : Nat) : Prop where
  ga : Ga W g 0 v ts last
  row : kT.R TK W 0 (fun i => ¬ use g v ts i ∧ Fr i) (.slice A ts.length c) (ts.map toRT)
  gr : GrInv ts
  pos : ∀ k ∈ ts, 1 ≤ k.t
  last0 : 0 ≤ last
theorem St.below {Fr : Nat → Prop} {W W' : World} {g : Nat} {v : Value} {ts : List Tk} {last : Int} {A : Option Addr} {c : Nat} (h : St Fr W g v ts last A c) (hb : Below W.heap.size W W') : St Fr W' g v ts last A c :=
  ⟨h.ga.below hb, Kd.R_below h.row hb, h.gr, h.pos, h.last0⟩
theorem St.prog {Fr : Nat → Prop} {W W' : World} {g : Nat} {v : Value} {ts : List Tk} {last : Int} {A : Option Addr} {c : Nat} (h : St Fr W g v ts last A c) (hg : Ga W' g 0 v ts last) (ho : Only (use g v ts) W W') : St Fr W' g v ts last A c :=
  ⟨hg, R_afterF h.row ho (fun _ h => Or.inl h), h.gr, h.pos, h.last0⟩
theorem St.C {Fr : Nat → Prop} {W : World} {g : Nat} {v : Value} {ts : List Tk} {last : Int} {A : Option Addr} {c : Nat} (h : St Fr W g v ts last A c) : kT.C W A ts.length (ts.map toRT) := by
  obtain ⟨A', c', e, _, hC⟩ := Kd.R_reads h.row
  injection e with e1 e2 e3
  subst e1 e3
  rw [e2]
  exact hC
theorem St.none0 {Fr : Nat → Prop} {W : World} {g : Nat} {v : Value} {ts : List Tk} {last : Int} {A : Option Addr} {c : Nat} (h : St Fr W g v ts last A c) : findT ts 0 = none := by
  unfold findT
  rw [List.find?_eq_none]
  intro k hk
  have := h.pos k hk
  simp
  omega
theorem St.noneL {Fr : Nat → Prop} {W : World} {g : Nat} {v : Value} {ts : List Tk} {last : Int} {A : Option Addr} {c : Nat} (h : St Fr W g v ts last A c) : findT ts (last + 1) = none := by
  unfold findT
  rw [List.find?_eq_none]
  intro k hk
  have := h.ga.le k hk
  simp
  omega
theorem St.at {Fr : Nat → Prop} {W : World} {g : Nat} {v : Value} {ts : List Tk} {last : Int} {A : Option Addr} {c : Nat} (h : St Fr W g v ts last A c) {i : Nat} {k : Tk} (hk : ts[i]? = some k) : findT ts k.t = some k ∧ idxT ts k.t = (i : Int) := by
  have hl := (List.getElem?_eq_some_iff.1 hk).1
  have hi : ts.findIdx? (fun x => decide (x.t = k.t)) = some i := by
    refine List.findIdx?_eq_some_iff_getElem.2 ⟨hl, by rw [(List.getElem?_eq_some_iff.1 hk).2]; simp, fun j hj => ?_⟩
    have := List.pairwise_iff_getElem.1 h.ga.rise j i (by omega) hl hj
    rw [(List.getElem?_eq_some_iff.1 hk).2] at this
    simp
    omega
  rcases findT_idx ts k.t with ⟨e1, _⟩ | ⟨j, k', e1, e2, _, e4⟩
  · unfold idxT at e1
    rw [hi] at e1
    simp at e1
  · have : idxT ts k.t = (i : Int) := by
      unfold idxT
      rw [hi]
    rw [this] at e1
    have hij : i = j := by omega
    subst hij
    rw [hk] at e2
    injection e2 with e2
    subst e2
    exact ⟨e4, this⟩
theorem St.new {Fr : Nat → Prop} {W : World} {g : Nat} {A : Option Addr} {c : Nat} (hg : Ga W g 0 (.slice none 0 0) [] 0) : St Fr W g (.slice none 0 0) [] 0 none 0 :=
  ⟨hg, Kd.R_nil _ _ _ _ _, fun k hk => by simp at hk, fun k hk => by simp at hk, Int.le_refl _⟩
theorem wrapL {last : Int} (h0 : 0 ≤ last) (h1 : last < 9223372036854775807) : IntKind.u64.wrap (last + 1) = last + 1 := by
  simp [IntKind.wrap, IntKind.bits, IntKind.signed]
  omega
end Go.Proofs.Ytkgabeloofjohaa.Gap
