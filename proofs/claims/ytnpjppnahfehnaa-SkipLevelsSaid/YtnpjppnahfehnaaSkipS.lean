/- The laws of lists behind SkipLevels. -/
import Derived.Test.YtnpjppnahfehnaaSkipR
import Derived.Test.YtnpjppnahfehnaaSkipQ
namespace Go.Proofs.Ytnpjppnahfehnaa.Skip
set_option linter.unusedVariables false
set_option linter.unusedSimpArgs false
open Go.RowKit Go.Proofs.YtnpjppnahfehnaaW.PrintWords Go.Proofs.Ytnpjppnahfehnaa.Kit Go.MuLone

def kv (x : En) : ByteArray × Int := (x.k, x.v)
theorem putE_kv (key : ByteArray) (v h h' : Int) : ∀ (l l' : List En), l.map kv = l'.map kv → (putE l key v h).map kv = (putE l' key v h').map kv
  | [], [], _ => rfl
  | [], _ :: _, e => by simp at e
  | _ :: _, [], e => by simp at e
  | x :: l, y :: l', e => by
    rw [List.map_cons, List.map_cons] at e
    injection e with e1 e2
    have ek : x.k = y.k := congrArg Prod.fst e1
    have ev : x.v = y.v := congrArg Prod.snd e1
    unfold putE
    rw [ek]
    split
    · rw [List.map_cons, List.map_cons, putE_kv key v h h' l l' e2, e1]
    · split
      · rw [List.map_cons, List.map_cons, e2]; rfl
      · rw [List.map_cons, List.map_cons, List.map_cons, List.map_cons, e2, e1]; rfl
theorem filter_kv (p : ByteArray → Bool) (l : List En) : (l.filter (fun x => p x.k)).map kv = (l.map kv).filter (fun q => p q.1) := by
  rw [List.filter_map]
  rfl
theorem stepE_kv (a b : Bool) (l l' : List En) (x : Op) (e : l.map kv = l'.map kv) : (stepE a l x).map kv = (stepE b l' x).map kv := by
  unfold stepE
  split
  · split
    · exact putE_kv _ _ _ _ _ _ e
    · exact e
  · split
    · have h1 := filter_kv (fun k => decide (k ≠ x.op.key)) l
      have h2 := filter_kv (fun k => decide (k ≠ x.op.key)) l'
      exact (h1.trans (by rw [e])).trans h2.symm
    · exact e
theorem runE_kv (a b : Bool) (xs : List Op) : (runE a xs).map kv = (runE b xs).map kv := by
  have key : ∀ (xs : List Op) (l l' : List En), l.map kv = l'.map kv → (xs.foldl (stepE a) l).map kv = (xs.foldl (stepE b) l').map kv := by
    intro xs
    induction xs with
    | nil => exact fun _ _ e => e
    | cons x xs ih => exact fun l l' e => ih _ _ (stepE_kv a b l l' x e)
  exact key xs [] [] rfl
theorem mid_kv (l l' : List En) (rlo rhi : ByteArray) (opn : Bool) (e : l.map kv = l'.map kv) : (mid l rlo rhi opn).map kv = (mid l' rlo rhi opn).map kv := by
  have h1 := filter_kv (fun k => !ltB k rlo && (opn || ltB k rhi)) l
  have h2 := filter_kv (fun k => !ltB k rlo && (opn || ltB k rhi)) l'
  exact (h1.trans (by rw [e])).trans h2.symm
theorem pick_kv (l l' : List En) (rlo rhi : ByteArray) (opn back : Bool) (most : Int) (e : l.map kv = l'.map kv) : (pick l rlo rhi opn back most).map kv = (pick l' rlo rhi opn back most).map kv := by
  have h := mid_kv l l' rlo rhi opn e
  unfold pick
  rw [List.map_take, List.map_take]
  cases back
  · simp only [cond_false]; rw [h]
  · simp only [cond_true]; rw [List.map_reverse, List.map_reverse, h]
theorem kv_len {l l' : List En} (e : l.map kv = l'.map kv) : l.length = l'.length := by
  have := congrArg List.length e
  rwa [List.length_map, List.length_map] at this
theorem kv_get {l l' : List En} (e : l.map kv = l'.map kv) {j : Nat} {x y : En} (hx : l[j]? = some x) (hy : l'[j]? = some y) : x.k = y.k ∧ x.v = y.v := by
  have h : (l.map kv)[j]? = (l'.map kv)[j]? := by rw [e]
  rw [List.getElem?_map, List.getElem?_map, hx, hy] at h
  injection h with h
  exact ⟨congrArg Prod.fst h, congrArg Prod.snd h⟩

def lvlE (n : Nat) (l : List En) : List ByteArray := (l.filter (fun x => decide ((n : Int) < x.h))).map (·.k)
theorem lvl_en (n : Nat) (ns : List Nd) : lvl n ns = lvlE n (ns.map en) := by
  unfold lvl lvlE
  rw [List.filter_map, List.map_map]
  have : ((fun x : En => decide ((n : Int) < x.h)) ∘ en) = (fun x : Nd => decide (n < x.h)) := funext fun x => by
    show decide ((n : Int) < (x.h : Int)) = _
    exact decide_eq_decide.2 Int.ofNat_lt
  rw [this]
  rfl
theorem lvFrom_get (ns : List Nd) : ∀ (k i j : Nat) (K : List ByteArray), (lvFrom ns k i)[j]? = some K → K = lvl (i + j) ns ∧ K ≠ []
  | 0, i, j, K, h => by rw [lvFrom_zero] at h; simp at h
  | k + 1, i, j, K, h => by
    rw [lvFrom_succ] at h
    split at h
    · simp at h
    · rename_i hne
      cases j with
      | zero => simp at h; rw [← h]; exact ⟨rfl, hne⟩
      | succ j =>
        have := lvFrom_get ns k (i + 1) j K (by simpa using h)
        rw [show i + (j + 1) = i + 1 + j by omega]
        exact this
theorem lvFrom_len (ns : List Nd) : ∀ k i, (lvFrom ns k i).length ≤ k
  | 0, i => by rw [lvFrom_zero]; simp
  | k + 1, i => by
    rw [lvFrom_succ]
    split
    · simp
    · have := lvFrom_len ns k (i + 1); simp; omega
theorem lvl_zero (ns : List Nd) (h : ∀ x ∈ ns, 1 ≤ x.h) : (lvl 0 ns).length = ns.length := by
  unfold lvl
  rw [List.length_map, List.filter_eq_self.2]
  intro x hx
  have := h x hx
  simp
  omega
theorem lvFrom_pos (ns : List Nd) (h : ∀ x ∈ ns, 1 ≤ x.h) : decide (0 < (lvFrom ns 16 0).length) = decide (0 < ns.length) := by
  have h0 := lvl_zero ns h
  rw [show (16 : Nat) = 15 + 1 from rfl, lvFrom_succ]
  by_cases hn : lvl 0 ns = []
  · rw [if_pos hn]
    rw [hn] at h0
    rw [← h0]
    rfl
  · rw [if_neg hn]
    have : 0 < (lvl 0 ns).length := by
      rcases hq : lvl 0 ns with _ | ⟨a, b⟩
      · exact absurd hq hn
      · simp
    rw [h0] at this
    simp [this]
theorem lvlE_take (n : Nat) (l : List En) (i : Nat) (x : En) (hx : l[i]? = some x) : lvlE n l = lvlE n (l.take i) ++ lvlE n (x :: l.drop (i + 1)) ∧ lvlE n (l.take (i + 1)) = lvlE n (l.take i) ++ lvlE n [x] := by
  obtain ⟨hi, e⟩ := List.getElem?_eq_some_iff.1 hx
  constructor
  · have h0 : l = l.take i ++ x :: l.drop (i + 1) := by
      have := List.take_append_drop i l
      rw [List.drop_eq_getElem_cons hi, e] at this
      exact this.symm
    have h1 := congrArg (lvlE n) h0
    rw [h1]
    unfold lvlE
    rw [List.filter_append, List.map_append]
  · rw [List.take_succ_eq_append_getElem hi, e]
    unfold lvlE
    rw [List.filter_append, List.map_append]
theorem lvlE_hit (n : Nat) (l : List En) (i : Nat) (x : En) (hx : l[i]? = some x) (hh : (n : Int) < x.h) :
    (lvlE n l)[(lvlE n (l.take i)).length]? = some x.k ∧ (lvlE n (l.take i)).length < (lvlE n l).length ∧ (lvlE n (l.take (i + 1))).length = (lvlE n (l.take i)).length + 1 := by
  obtain ⟨h1, h2⟩ := lvlE_take n l i x hx
  have h3 : ∀ t, lvlE n (x :: t) = x.k :: lvlE n t := fun t => by
    unfold lvlE
    rw [List.filter_cons_of_pos (by simp [hh]), List.map_cons]
  rw [h3] at h1
  refine ⟨?_, ?_, ?_⟩
  · rw [h1, List.getElem?_append_right (Nat.le_refl _), Nat.sub_self]; rfl
  · rw [h1, List.length_append, List.length_cons]; omega
  · rw [h2, h3, List.length_append]; rfl
theorem lvlE_miss (n : Nat) (l : List En) (i : Nat) (x : En) (hx : l[i]? = some x) (hh : ¬ (n : Int) < x.h) : (lvlE n (l.take (i + 1))).length = (lvlE n (l.take i)).length := by
  rw [(lvlE_take n l i x hx).2, List.length_append]
  have : lvlE n [x] = [] := by
    unfold lvlE
    rw [List.filter_cons_of_neg (by simp [hh])]
    rfl
  rw [this]
  rfl
theorem mid_all (l : List En) (e r : ByteArray) (he : e.data.toList = []) : mid l e r true = l := by
  unfold mid inR
  rw [List.filter_eq_self.2]
  intro x hx
  have : ltB x.k e = false := by
    unfold ltB
    rw [ByteArray.toList_eq e, he]
    exact bl_nil _
  simp [this]
end Go.Proofs.Ytnpjppnahfehnaa.Skip
