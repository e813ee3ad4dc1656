/- Layer 13: grant. -/
import Derived.Test.YtkgabeloofjohaaGapG
import Derived.Conc.LoneCalls
namespace Go.Proofs.Ytkgabeloofjohaa.Gap
set_option linter.unusedVariables false
set_option linter.unusedSimpArgs false
open Go.RowKit Go.Proofs.YtkgabeloofjohaaW.PrintWords Go.Proofs.Ytkgabeloofjohaa.Kit

theorem ne_heap {w : World} {i j : Nat} {x y : Obj} (hi : w.heap[i]? = some x) (hj : w.heap[j]? = some y) (h : x ≠ y) : i ≠ j := by
  rintro rfl
  rw [hi] at hj
  injection hj with hj
  exact h hj
theorem cells_ne {a b : Array Value} {t u : TypeId} {p q : Nat × Nat} (h : t ≠ u) : (Obj.cells a t p : Obj) ≠ Obj.cells b u q := by
  intro e
  injection e with _ e _
  exact h e
theorem cells_chan {a : Array Value} {t : TypeId} {p : Nat × Nat} {c : Nat} {bf : Array Value} {cl : Bool} {s r : Nat} {tm : Bool} : (Obj.cells a t p : Obj) ≠ Obj.chan c bf cl s r tm := by
  intro e
  cases e
theorem nodup_ne {xs : List Tk} {f : Tk → Nat} {a b : List Tk} {k x : Tk} (h : ((a ++ k :: b).map f).Nodup) (hx : x ∈ a ∨ x ∈ b) : f x ≠ f k := by
  rw [List.map_append, List.map_cons, List.nodup_append] at h
  obtain ⟨_, h2, h3⟩ := h
  rw [List.nodup_cons] at h2
  rcases hx with hx | hx
  · exact h3 _ (List.mem_map.2 ⟨x, hx, rfl⟩) _ List.mem_cons_self
  · intro e
    exact h2.1 (by rw [← e]; exact List.mem_map.2 ⟨x, hx, rfl⟩)
/-- What a taker of the object does not share with the blocks of another one. -/
theorem Ga.far {w : World} {g : Nat} {st : Int} {v : Value} {a b : List Tk} {k : Tk} {last : Int} (h : Ga w g st v (a ++ k :: b) last) {i : Nat} (hi : i = g ∨ v.ownBlock = some i ∨ ∃ x, (x ∈ a ∨ x ∈ b) ∧ x.use i) : ¬ (i = k.id ∨ i = k.ch) := by
  have hk := h.tk k (by simp)
  have ht : ∀ x : Tk, (x ∈ a ∨ x ∈ b) → TkIs w x := fun x hx => h.tk x (by rcases hx with hx | hx <;> simp [hx])
  rcases hi with rfl | e | ⟨x, hx, hu⟩
  · rintro (e | e)
    · exact ne_heap h.gb.out hk.blk.out (cells_ne (by decide)) e
    · exact ne_heap h.gb.out hk.ch cells_chan e
  · obtain ⟨inner, ho, _⟩ := h.row.2
    obtain ⟨cs, hc⟩ := own_typed ho i e
    rintro (e | e)
    · exact ne_heap hc hk.blk.out (cells_ne (by decide)) e
    · exact ne_heap hc hk.ch cells_chan e
  · have hX := ht x hx
    rcases hu with rfl | rfl | ⟨ad, ha, rfl⟩
    · rintro (e | e)
      · exact nodup_ne (xs := []) (f := fun x => x.id) h.ids hx e
      · exact ne_heap hX.blk.out hk.ch cells_chan e
    · rintro (e | e)
      · exact ne_heap hk.blk.out hX.ch cells_chan e.symm
      · exact nodup_ne (xs := []) (f := fun x => x.ch) h.chs hx e
    · obtain ⟨cs, hc⟩ := hX.hb ad ha
      rintro (e | e)
      · exact ne_heap hc hk.blk.out (cells_ne (by decide)) e
      · exact ne_heap hc hk.ch cells_chan e
theorem map_mid {β : Type} (f : Tk → β) (a b : List Tk) (k k' : Tk) (h : f k' = f k) : (a ++ k' :: b).map f = (a ++ k :: b).map f := by simp [h]
theorem Ga.turn {w w' : World} {g : Nat} {st : Int} {v : Value} {a b : List Tk} {k : Tk} {last : Int} {r : Bool} (h : Ga w g st v (a ++ k :: b) last) (ho : Only (fun i => i = k.id ∨ i = k.ch) w w') (hb : Blk w' k.id { k with gr := r }.cells TT)
    (hc : w'.heap[k.ch]? = some (.chan 0 #[] r 0 0 false)) : Ga w' g st v (a ++ { k with gr := r } :: b) last where
  gb := ho.blk h.gb (h.far (Or.inl rfl))
  row := by
    have e := map_mid (fun x => x.id) a b k { k with gr := r } rfl
    rw [e]
    exact ho.R h.row (fun i _ hi => h.far (Or.inr (Or.inl hi)))
  tk := fun x hx => by
    have hk := h.tk k (by simp)
    have hold : (x ∈ a ∨ x ∈ b) → TkIs w' x := fun hx' => (h.tk x (by rcases hx' with hx' | hx' <;> simp [hx'])).only ho (fun i hi => h.far (Or.inr (Or.inr ⟨x, hx', hi⟩)))
    rw [List.mem_append, List.mem_cons] at hx
    rcases hx with hx | rfl | hx
    · exact hold (Or.inl hx)
    · have hA : ∀ ad, k.A = some ad → w'.heap[ad.block]? = w.heap[ad.block]? := fun ad ha => by
        obtain ⟨cs, hcc⟩ := hk.hb ad ha
        refine ho.block _ (lt_of_block hcc) ?_
        rintro (e | e)
        · exact ne_heap hcc hk.blk.out (cells_ne (by decide)) e
        · exact ne_heap hcc hk.ch cells_chan e
      exact ⟨hb, hc, kH_move hk.hs hA, fun ad ha => by
        obtain ⟨cs, hcc⟩ := hk.hb ad ha
        exact ⟨cs, (hA ad ha).trans hcc⟩, hk.len, hk.t0⟩
    · exact hold (Or.inr hx)
  ids := by
    have e := map_mid (fun x => x.id) a b k { k with gr := r } rfl
    rw [e]
    exact h.ids
  chs := by
    have e := map_mid (fun x => x.ch) a b k { k with gr := r } rfl
    rw [e]
    exact h.chs
  rise := by
    have := h.rise
    rw [← List.pairwise_map (f := fun x : Tk => x.t) (R := fun a b => a < b)] at this ⊢
    have e := map_mid (fun x => x.t) a b k { k with gr := r } rfl
    rw [e]
    exact this
  le := fun x hx => by
    rw [List.mem_append, List.mem_cons] at hx
    rcases hx with hx | rfl | hx
    · exact h.le x (by simp [hx])
    · exact h.le k (by simp)
    · exact h.le x (by simp [hx])
  small := by have := h.small; simpa using this
/-- The taker is granted, its channel shut. -/
def shut (w : World) (c : Nat) : World := { w with heap := w.heap.setIfInBounds c (.chan 0 #[] true 0 0 false) }
theorem Only.shut {S : Nat → Prop} {a w : World} (h : Only S a w) {c : Nat} (hc : S c) : Only S a (shut w c) :=
  ⟨h.os, h.tape, h.output, by simpa [Gap.shut] using h.size, fun i hi hn => by
    rw [← h.block i hi hn]
    simp only [Gap.shut]
    rw [Array.getElem?_setIfInBounds_ne (by rintro rfl; exact hn hc)]⟩
theorem Ga.granted {w : World} {g : Nat} {st : Int} {v : Value} {a b : List Tk} {k : Tk} {last : Int} (h : Ga w g st v (a ++ k :: b) last) :
    Ga (shut (w.setCell ⟨k.id, 2, none⟩ (.bool true)) k.ch) g st v (a ++ { k with gr := true } :: b) last ∧ Only (fun i => i = k.id ∨ i = k.ch) w (shut (w.setCell ⟨k.id, 2, none⟩ (.bool true)) k.ch) := by
  have hk := h.tk k (by simp)
  have ho : Only (fun i => i = k.id ∨ i = k.ch) w (shut (w.setCell ⟨k.id, 2, none⟩ (.bool true)) k.ch) := Only.shut (Only.setCell (Only.refl _ w) (p := ⟨k.id, 2, none⟩) (Or.inl (Or.inl rfl)) _) (Or.inr rfl)
  have hne : k.ch ≠ k.id := (ne_heap hk.blk.out hk.ch cells_chan).symm
  refine ⟨h.turn ho ?_ ?_, ho⟩
  · have := hk.blk.put 2 (.bool true)
    refine this.move ?_
    simp only [shut]
    rw [Array.getElem?_setIfInBounds_ne hne]
  · have hlt : k.ch < (w.setCell ⟨k.id, 2, none⟩ (.bool true)).heap.size := by
      simpa [World.setCell] using lt_of_block hk.ch
    simp only [shut]
    rw [Array.getElem?_setIfInBounds_self, if_pos hlt]

def gr1 (ts : List Tk) (k : Tk) : Tk := { k with gr := k.gr || (aheadK ts k).isEmpty }
def regrant (ts : List Tk) : List Tk := ts.map (gr1 ts)
def gmix (ts : List Tk) (i : Nat) : List Tk := (ts.take i).map (gr1 ts) ++ ts.drop i
theorem gmix_zero (ts : List Tk) : gmix ts 0 = ts := by simp [gmix]
theorem gmix_all (ts : List Tk) : gmix ts ts.length = regrant ts := by simp [gmix, regrant]
theorem gmix_at {ts : List Tk} {i : Nat} {k : Tk} (h : ts[i]? = some k) : gmix ts i = (ts.take i).map (gr1 ts) ++ k :: ts.drop (i + 1) := by
  unfold gmix
  obtain ⟨hl, e⟩ := List.getElem?_eq_some_iff.1 h
  rw [List.drop_eq_getElem_cons hl, e]
theorem gmix_succ {ts : List Tk} {i : Nat} {k : Tk} (h : ts[i]? = some k) : gmix ts (i + 1) = (ts.take i).map (gr1 ts) ++ gr1 ts k :: ts.drop (i + 1) := by
  unfold gmix
  rw [List.take_add_one, h, Option.toList_some, List.map_append, List.append_assoc]
  rfl
theorem aheadK_map (ts : List Tk) (f : Tk → Tk) (hf : ∀ x, (f x).t = x.t ∧ (f x).hs = x.hs) (k : Tk) : aheadK (ts.map f) k = aheadK ts k := by
  unfold aheadK
  rw [List.filter_map, List.map_map]
  have h1 : (isAhead k ∘ f) = isAhead k := by
    funext x
    simp only [Function.comp, isAhead, hf x]
  have h2 : ((fun x : Tk => x.t) ∘ f) = fun x => x.t := by
    funext x
    simp only [Function.comp, hf x]
  rw [h1, h2]
theorem aheadK_mix (ts : List Tk) (i : Nat) (k : Tk) : aheadK (gmix ts i) k = aheadK ts k := by
  have h : aheadK ((ts.take i).map (gr1 ts)) k = aheadK (ts.take i) k := aheadK_map (ts.take i) (gr1 ts) (fun _ => ⟨rfl, rfl⟩) k
  unfold gmix
  unfold aheadK at *
  rw [List.filter_append, List.map_append, h, ← List.map_append, ← List.filter_append, List.take_append_drop]
theorem use_mix (g : Nat) (v : Value) (ts : List Tk) (j : Nat) (i : Nat) : use g v (gmix ts j) i → use g v ts i := by
  rintro (e | e | ⟨k, hk, hu⟩)
  · exact Or.inl e
  · exact Or.inr (Or.inl e)
  · unfold gmix at hk
    rw [List.mem_append, List.mem_map] at hk
    rcases hk with ⟨x, hx, rfl⟩ | hk
    · exact Or.inr (Or.inr ⟨x, List.mem_of_mem_take hx, hu⟩)
    · exact Or.inr (Or.inr ⟨k, List.mem_of_mem_drop hk, hu⟩)
end Go.Proofs.Ytkgabeloofjohaa.Gap
