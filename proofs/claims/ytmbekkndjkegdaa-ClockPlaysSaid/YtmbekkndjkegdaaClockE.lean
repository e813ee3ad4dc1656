/- Layer 6's document in plain numbers: a ring and a frontier against a list of open stamps. -/
import Derived.Test.YtmbekkndjkegdaaClockC
import Derived.Test.YtmbekkndjkegdaaClockD
namespace Go.Proofs.Ytmbekkndjkegdaa.Clock
set_option linter.unusedVariables false
set_option linter.unusedSimpArgs false
open Go.RowKit Go.Proofs.YtmbekkndjkegdaaW.PrintWords Go.Proofs.Ytmbekkndjkegdaa.Kit

/-- What holds of the numbers of a clock. -/
structure Rg (l f : Int) (rs : List Int) : Prop where
  len : rs.length = 4096
  f0 : 0 ≤ f
  fl : f ≤ l
  lM : l ≤ 4611686018427387904
  gap : l - f ≤ 4096
  le : ∀ s, 0 ≤ at_ rs s ∧ at_ rs s ≤ l
  res : ∀ s, at_ rs s = 0 ∨ (at_ rs s).toNat % 4096 = s.toNat % 4096
  front : f < l → at_ rs (f + 1) < f + 1
theorem at_zeros (s : Int) : at_ zeros s = 0 := zeros_rd _ (by omega)
theorem Rg.new (l : Int) (h0 : 0 ≤ l) (hl : l ≤ 4611686018427387904) : Rg l l zeros :=
  ⟨zeros_len, h0, Int.le_refl _, hl, by omega, fun s => by rw [at_zeros]; omega, fun s => Or.inl (at_zeros s), fun h => by omega⟩
/-- A place behind the frontier holds its stamp, or an elder one. -/
theorem Rg.elder {l f : Int} {rs : List Int} (h : Rg l f rs) (s : Int) (h1 : f < s) : at_ rs s ≤ s := by
  have h2 := h.le s
  have h3 := h.gap
  have h4 := h.f0
  rcases h.res s with e | e
  · omega
  · omega
theorem Rg.take {l f : Int} {rs : List Int} (h : Rg l f rs) (h1 : l < 4611686018427387904) (h2 : l - f < 4096) : Rg (l + 1) f rs :=
  ⟨h.len, h.f0, by have := h.fl; omega, by omega, by omega, fun s => by have := h.le s; omega, h.res, fun _ => by
    by_cases e : f < l
    · exact h.front e
    · have := h.le (f + 1); have := h.fl; omega⟩
theorem openL_take {l f : Int} {rs : List Int} (h : Rg l f rs) : openL rs f (l + 1) = openL rs f l ++ [l + 1] := by
  have h1 := h.fl
  have e : (l + 1 - f).toNat = (l - f).toNat + 1 := by omega
  have e2 : f + 1 + ((l - f).toNat : Int) = l + 1 := by omega
  have h2 := h.le (l + 1)
  unfold openL
  rw [e, openTo, e2, open1, if_pos (by omega)]
theorem openTo_mem (rs : List Int) (f s : Int) (j : Nat) : s ∈ openTo rs f j ↔ f < s ∧ s ≤ f + j ∧ at_ rs s < s := by
  induction j with
  | zero => simp only [openTo, List.not_mem_nil, false_iff]; omega
  | succ j ih =>
    rw [openTo, List.mem_append, ih, open1]
    split
    · rename_i h
      rw [List.mem_singleton]
      constructor
      · rintro (⟨a, b, c⟩ | rfl)
        · exact ⟨a, by omega, c⟩
        · exact ⟨by omega, by omega, h⟩
      · rintro ⟨a, b, c⟩
        by_cases e : s = f + 1 + j
        · exact Or.inr e
        · exact Or.inl ⟨a, by omega, c⟩
    · rename_i h
      simp only [List.not_mem_nil, or_false]
      constructor
      · rintro ⟨a, b, c⟩
        exact ⟨a, by omega, c⟩
      · rintro ⟨a, b, c⟩
        refine ⟨a, ?_, c⟩
        by_cases e : s = f + 1 + j
        · subst e; exact absurd c h
        · omega
theorem openL_mem {l f : Int} {rs : List Int} (h : f ≤ l) (s : Int) : s ∈ openL rs f l ↔ f < s ∧ s ≤ l ∧ at_ rs s < s := by
  unfold openL
  rw [openTo_mem]
  have : f + ((l - f).toNat : Int) = l := by omega
  rw [this]
theorem openTo_mark {l f : Int} {rs : List Int} (h : Rg l f rs) (s : Int) (h1 : f < s) (h2 : s ≤ l) (j : Nat) (hj : j ≤ (l - f).toNat) : openTo (mark rs s) f j = (openTo rs f j).filter (fun t => decide (t ≠ s)) := by
  have hg := h.gap
  have h0 := h.f0
  induction j with
  | zero => rfl
  | succ j ih =>
    rw [openTo, openTo, List.filter_append, ih (by omega)]
    congr 1
    have hmk := mark_at rs s (f + 1 + j) h.len
    by_cases e : f + 1 + (j : Int) = s
    · rw [if_pos (by rw [e])] at hmk
      unfold open1
      rw [hmk, if_neg (by omega)]
      split
      · simp [e]
      · rfl
    · rw [if_neg (by omega)] at hmk
      unfold open1
      rw [hmk]
      split
      · simp [e]
      · rfl
theorem openTo_shift (rs : List Int) (f : Int) (d : Nat) (hd : ∀ t, f < t → t ≤ f + d → at_ rs t = t) : openTo rs f d = [] := by
  induction d with
  | zero => rfl
  | succ d ih =>
    rw [openTo, ih (fun t h1 h2 => hd t h1 (by omega)), open1, hd (f + 1 + d) (by omega) (by omega), if_neg (by omega)]
    rfl
theorem openTo_add (rs : List Int) (f : Int) (d : Nat) (hd : ∀ t, f < t → t ≤ f + d → at_ rs t = t) (j : Nat) : openTo rs f (d + j) = openTo rs (f + d) j := by
  induction j with
  | zero => exact openTo_shift rs f d hd
  | succ j ih =>
    rw [← Nat.add_assoc, openTo, openTo, ih]
    congr 2
    omega
theorem openL_done {l f f' : Int} {rs : List Int} (h : Rg l f rs) (s : Int) (h1 : f < s) (h2 : s ≤ l) (h3 : f ≤ f') (h4 : f' ≤ l) (hd : ∀ t, f < t → t ≤ f' → at_ (mark rs s) t = t) :
    openL (mark rs s) f' l = (openL rs f l).filter (fun t => decide (t ≠ s)) := by
  have e1 := openTo_mark h s h1 h2 (l - f).toNat (Nat.le_refl _)
  have e2 := openTo_add (mark rs s) f (f' - f).toNat (fun t a b => hd t a (by omega)) (l - f').toNat
  have e3 : (f' - f).toNat + (l - f').toNat = (l - f).toNat := by omega
  have e4 : f + ((f' - f).toNat : Int) = f' := by omega
  rw [e3, e4] at e2
  unfold openL
  rw [← e2, e1]
theorem Rg.done {l f f' : Int} {rs : List Int} (h : Rg l f rs) (s : Int) (h1 : f < s) (h2 : s ≤ l) (h3 : f ≤ f') (h4 : f' ≤ l) (hn : at_ (mark rs s) (f' + 1) ≠ f' + 1) : Rg l f' (mark rs s) := by
  have hle : ∀ t, 0 ≤ at_ (mark rs s) t ∧ at_ (mark rs s) t ≤ l := fun t => by
    rw [mark_at rs s t h.len]
    split
    · have := h.f0; omega
    · exact h.le t
  have hres : ∀ t, at_ (mark rs s) t = 0 ∨ (at_ (mark rs s) t).toNat % 4096 = t.toNat % 4096 := fun t => by
    rw [mark_at rs s t h.len]
    split
    · rename_i e; exact Or.inr e.symm
    · exact h.res t
  have h0 := h.f0
  have hg := h.gap
  refine ⟨by unfold mark; rw [List.length_set]; exact h.len, by omega, h4, h.lM, by omega, hle, hres, fun hl => ?_⟩
  have a := hle (f' + 1)
  rcases hres (f' + 1) with e | e
  · omega
  · omega

/-! the reference -/
theorem openTo_head (rs : List Int) (f : Int) (j : Nat) (h : at_ rs (f + 1) < f + 1) : ∃ t, openTo rs f (j + 1) = (f + 1) :: t := by
  induction j with
  | zero => exact ⟨[], by simp [openTo, open1, h]⟩
  | succ j ih =>
    obtain ⟨t, e⟩ := ih
    rw [openTo, e]
    exact ⟨t ++ open1 rs (f + 1 + ((j + 1 : Nat) : Int)), rfl⟩
theorem ref_front {l f : Int} {rs : List Int} (h : Rg l f rs) (bg : Int) : PClockPlays.vellumref06_Frontier.f bg l (openL rs f l) = some f := by
  have h0 := h.f0
  have hl := h.lM
  by_cases e : f < l
  · obtain ⟨j, hj⟩ : ∃ j, (l - f).toNat = j + 1 := ⟨(l - f).toNat - 1, by omega⟩
    obtain ⟨t, ht⟩ := openTo_head rs f j (h.front e)
    unfold openL PClockPlays.vellumref06_Frontier.f
    rw [hj, ht, if_neg (by first | (simp; done) | (simp; omega)), if_pos (by first | (simp; done) | (simp; omega))]
    have : rd ((f + 1) :: t) 0 = f + 1 := rfl
    rw [this, show f + 1 - 1 = f by omega, IntWalk.u64_in f (by omega)]
  · have e2 : l = f := by have := h.fl; omega
    subst e2
    have : openL rs l l = [] := by unfold openL; rw [Int.sub_self]; rfl
    rw [this]
    rfl
theorem rd_get (xs : List Int) (i : Nat) (h : i < xs.length) : rd xs (i : Int) = xs[i] := by simp [rd, h]
theorem ref_done_l (os : List Int) (bg l s : Int) (h2 : os.length ≤ 4096) (d : Nat) : ∀ (k i : Nat), i + d = os.length → d < k →
    PClockPlays.vellumref06_Done.l0 k s ((os.take i).filter (fun t => decide (t ≠ s))) i bg l os =
      some (if ((os.filter (fun t => decide (t ≠ s))).length : Int) = os.length then (bg, l, os, 60) else (bg, l, os.filter (fun t => decide (t ≠ s)), 0)) := by
  induction d with
  | zero =>
    intro k i hi hk
    obtain ⟨k, rfl⟩ : ∃ m, k = m + 1 := ⟨k - 1, by omega⟩
    simp only [PClockPlays.vellumref06_Done.l0]
    rw [if_neg (by omega), List.take_of_length_le (by omega)]
    split <;> rfl
  | succ d ih =>
    intro k i hi hk
    obtain ⟨k, rfl⟩ : ∃ m, k = m + 1 := ⟨k - 1, by omega⟩
    have hlt : i < os.length := by omega
    have ht : os.take (i + 1) = os.take i ++ [os[i]] := List.take_succ_eq_append_getElem hlt
    have hr := ih k (i + 1) (by omega) (by omega)
    rw [ht, List.filter_append] at hr
    have hfl : ((os.take i).filter (fun t => decide (t ≠ s))).length ≤ 4096 := by
      have h1 := List.length_filter_le (fun t => decide (t ≠ s)) (os.take i)
      have h2 : (os.take i).length ≤ i := by rw [List.length_take]; omega
      omega
    simp only [PClockPlays.vellumref06_Done.l0]
    rw [if_pos (by omega), if_pos (by omega), wrap_next i (by omega), rd_get os i hlt]
    by_cases e : os[i] = s
    · rw [if_pos e]
      have : [os[i]].filter (fun t => decide (t ≠ s)) = [] := by simp [e]
      rw [this, List.append_nil] at hr
      exact hr
    · rw [if_neg e, if_pos (by omega)]
      have : [os[i]].filter (fun t => decide (t ≠ s)) = [os[i]] := by simp [e]
      rw [this] at hr
      exact hr
theorem ref_done (os : List Int) (bg l s : Int) (h2 : os.length ≤ 4096) :
    PClockPlays.vellumref06_Done.f (os.length + 1) bg l os s =
      some (if ((os.filter (fun t => decide (t ≠ s))).length : Int) = os.length then (bg, l, os, 60) else (bg, l, os.filter (fun t => decide (t ≠ s)), 0)) :=
  ref_done_l os bg l s h2 os.length (os.length + 1) 0 (by omega) (by omega)
theorem filter_all (os : List Int) (s : Int) : (((os.filter (fun t => decide (t ≠ s))).length : Int) = os.length) ↔ s ∉ os := by
  rw [Int.ofNat_inj, List.length_filter_eq_length_iff]
  constructor
  · intro h hs
    have := h s hs
    simp at this
  · intro h t ht
    simp only [ne_eq, decide_not, Bool.not_eq_eq_eq_not, Bool.not_true, decide_eq_false_iff_not]
    rintro rfl
    exact h ht
end Go.Proofs.Ytmbekkndjkegdaa.Clock
