/- Layer 10's document in plain lists: slots against readers by rising slots. -/
import Derived.Test.YtohpcifpnfomnaaSnapH
import Derived.Test.YtohpcifpnfomnaaPSnapPlaysx2
import Derived.Test.YtohpcifpnfomnaaPSnapPlaysx3
namespace Go.Proofs.Ytohpcifpnfomnaa.Snap
set_option linter.unusedVariables false
set_option linter.unusedSimpArgs false
open Go.RowKit Go.Proofs.YtohpcifpnfomnaaW.PrintWords Go.Proofs.Ytohpcifpnfomnaa.Kit Go.MuLone

abbrev rdR (xs : List RS) (i : Int) : RS := PSnapPlays.rd_T39 xs i
theorem rdR_nat (xs : List RS) (j : Nat) : rdR xs (j : Int) = xs.getD j PSnapPlays.z39 := rfl
theorem rdR_get (xs : List RS) (j : Nat) (h : j < xs.length) : rdR xs (j : Int) = xs[j] := by
  rw [rdR_nat, List.getD_eq_getElem?_getD, List.getElem?_eq_getElem h]; rfl
theorem rd_get (xs : List Int) (i : Nat) (h : i < xs.length) : rd xs (i : Int) = xs[i] := by simp [rd, h]
theorem split_at (rs : List Int) (q : Nat) (h : q < rs.length) : rs = rs.take q ++ rd rs q :: rs.drop (q + 1) := by
  rw [rd_get rs q h, ← List.drop_eq_getElem_cons h, List.take_append_drop]
theorem set_at (rs : List Int) (q : Nat) (v : Int) (h : q < rs.length) : rs.set q v = rs.take q ++ v :: rs.drop (q + 1) := by
  rw [List.set_eq_take_append_cons_drop, if_pos h]
theorem rdsFrom_at (rs : List Int) (i q : Nat) (h : q < rs.length) : rdsFrom i rs = rdsFrom i (rs.take q) ++ (one (i + q) (rd rs q) ++ rdsFrom (i + q + 1) (rs.drop (q + 1))) := by
  have e := split_at rs q h
  have hl : (rs.take q).length = q := by rw [List.length_take]; omega
  conv => lhs; rw [e]
  rw [rdsFrom_app, hl]
  rfl
theorem rdsFrom_set (rs : List Int) (i q : Nat) (v : Int) (h : q < rs.length) : rdsFrom i (rs.set q v) = rdsFrom i (rs.take q) ++ (one (i + q) v ++ rdsFrom (i + q + 1) (rs.drop (q + 1))) := by
  have hl : (rs.take q).length = q := by rw [List.length_take]; omega
  rw [set_at rs q v h, rdsFrom_app, hl]
  rfl
theorem rdsFrom_mem (l : List Int) : ∀ i x, x ∈ rdsFrom i l → (i : Int) ≤ x.f0 ∧ x.f0 < i + l.length := by
  induction l with
  | nil => intro i x h; simp [rdsFrom] at h
  | cons v t ih =>
    intro i x h
    rw [rdsFrom, List.mem_append] at h
    rw [List.length_cons]
    rcases h with h | h
    · unfold one at h
      split at h
      · rw [List.mem_singleton] at h
        subst h
        simp only
        omega
      · simp at h
    · have := ih (i + 1) x h
      omega
theorem rdsFrom_full (l : List Int) : ∀ i, (∀ j : Nat, j < l.length → 0 < rd l j) → (rdsFrom i l).length = l.length ∧ ∀ j : Nat, j < l.length → (rdR (rdsFrom i l) j).f0 = i + j := by
  induction l with
  | nil => intro i _; exact ⟨rfl, fun j h => by simp at h⟩
  | cons v t ih =>
    intro i h
    have h0 : 0 < v := by simpa [rd] using h 0 (by simp)
    have ho : one i v = [⟨(i : Int), v - 1⟩] := by unfold one; rw [if_pos h0]
    obtain ⟨h1, h2⟩ := ih (i + 1) (fun j hj => by
      have := h (j + 1) (by rw [List.length_cons]; omega)
      simpa [rd] using this)
    rw [rdsFrom, ho]
    refine ⟨by simp [h1], fun j hj => ?_⟩
    cases j with
    | zero => simp only [List.singleton_append]; rw [rdR_nat]; simp
    | succ j =>
      have := h2 j (by rw [List.length_cons] at hj; omega)
      rw [rdR_nat] at this ⊢
      simp only [List.singleton_append, List.getD_cons_succ]
      rw [this]
      omega

/-! Enter -/
theorem refEnter_l (P S : List RS) (s fl : Int) (q : Nat) (hP : P.length = q) (hq : q < 256) (hS : S.length ≤ 256) (h0 : ∀ j : Nat, j < q → (rdR P j).f0 = j) (h1 : ∀ x ∈ S, (q : Int) + 1 ≤ x.f0) (d : Nat) : ∀ (k j : Nat), j + d = q → d < k →
    PSnapPlays.vellumref10_Enter.l0 k s j fl (P ++ S) = some (fl, P ++ ⟨q, s⟩ :: S, (q : Int), 0) := by
  have hgen : ∀ k, PSnapPlays.vellumref10_Enter.l0 (k + 1) s q fl (P ++ S) = some (fl, P ++ ⟨q, s⟩ :: S, (q : Int), 0) := by
    intro k
    have ht : (P ++ S).take q = P := by rw [← hP]; simp
    have hd : (P ++ S).drop q = S := by rw [← hP]; simp
    have hlen : (P ++ S).length = q + S.length := by rw [List.length_append, hP]
    have hcat : ((([] : List RS) ++ P) ++ [⟨(q : Int), s⟩]) ++ S = P ++ ⟨q, s⟩ :: S := by simp
    simp only [PSnapPlays.vellumref10_Enter.l0, Int.toNat_natCast, ht, hd, hlen, Option.bind_some]
    by_cases hs : S = []
    · subst hs
      rw [if_neg (by simp), if_pos (by omega), if_pos (by simp), if_pos (by simp; omega), if_pos (by simp; omega), if_pos (by simp; omega)]
      rw [hcat]
    · have hne : ¬ (rdR (P ++ S) (q : Int)).f0 = (q : Int) := by
        cases S with
        | nil => exact absurd rfl hs
        | cons x t =>
          have : rdR (P ++ x :: t) (q : Int) = x := by rw [rdR_nat, ← hP]; simp
          rw [this]
          have := h1 x (List.mem_cons_self)
          omega
      have hpos : 0 < S.length := List.length_pos_iff.2 hs
      rw [if_pos (by omega), if_pos (by omega), if_neg hne, if_pos (by omega), if_pos (by simp; omega), if_pos (by simp; omega), if_pos (by simp; omega)]
      rw [hcat]
  induction d with
  | zero =>
    intro k j hj hk
    obtain ⟨k, rfl⟩ : ∃ m, k = m + 1 := ⟨k - 1, by omega⟩
    obtain rfl : j = q := by omega
    exact hgen k
  | succ d ih =>
    intro k j hj hk
    obtain ⟨k, rfl⟩ : ∃ m, k = m + 1 := ⟨k - 1, by omega⟩
    have hr := ih k (j + 1) (by omega) (by omega)
    have he : (rdR (P ++ S) (j : Int)).f0 = (j : Int) := by
      have := h0 j (by omega)
      rw [rdR_nat] at this ⊢
      rw [List.getD_eq_getElem?_getD, List.getElem?_append_left (by omega), ← List.getD_eq_getElem?_getD]
      exact this
    simp only [PSnapPlays.vellumref10_Enter.l0]
    rw [if_pos (by rw [List.length_append]; omega), if_pos (by omega), if_pos he, show wrap64 ((j : Int) + 1) = ((j + 1 : Nat) : Int) by unfold wrap64; omega]
    exact hr
/-- The first free slot of the first n, if there is one. -/
theorem firstFree (rs : List Int) (n : Nat) : (∀ i : Nat, i < n → rd rs (i : Int) ≠ 0) ∨ ∃ q, q < n ∧ rd rs (q : Int) = 0 ∧ ∀ i : Nat, i < q → rd rs (i : Int) ≠ 0 := by
  induction n with
  | zero => exact Or.inl (fun i h => by omega)
  | succ n ih =>
    rcases ih with h | ⟨q, h1, h2, h3⟩
    · by_cases e : rd rs (n : Int) = 0
      · exact Or.inr ⟨n, by omega, e, h⟩
      · exact Or.inl (fun i hi => by
          by_cases e2 : i = n
          · subst e2; exact e
          · exact h i (by omega))
    · exact Or.inr ⟨q, by omega, h2, h3⟩
theorem rd_take (rs : List Int) (n j : Nat) (h : j < n) (hl : n ≤ rs.length) : rd (rs.take n) (j : Int) = rd rs (j : Int) := by
  rw [rd_get _ j (by rw [List.length_take]; omega), rd_get _ j (by omega)]
  simp
theorem refEnter_hit (rs : List Int) (fl s : Int) (q : Nat) (hl : rs.length = 256) (hr : ∀ i : Nat, i < 256 → 0 ≤ rd rs (i : Int)) (h1 : fl ≤ s) (h2 : s ≤ 4611686018427387904) (h0 : 0 ≤ s) (hq : q < 256) (hz : rd rs (q : Int) = 0) (hf : ∀ i : Nat, i < q → rd rs (i : Int) ≠ 0) :
    PSnapPlays.vellumref10_Enter.f 257 fl (rds rs) s = some (fl, rds (rs.set q (s + 1)), (q : Int), 0) := by
  have hlq : (rs.take q).length = q := by rw [List.length_take]; omega
  have e1 : rds rs = rdsFrom 0 (rs.take q) ++ rdsFrom (q + 1) (rs.drop (q + 1)) := by
    unfold rds
    rw [rdsFrom_at rs 0 q (by omega), hz, Nat.zero_add]
    have : one q 0 = [] := by unfold one; rw [if_neg (by omega)]
    rw [this, List.nil_append]
  have e2 : rds (rs.set q (s + 1)) = rdsFrom 0 (rs.take q) ++ ⟨q, s⟩ :: rdsFrom (q + 1) (rs.drop (q + 1)) := by
    unfold rds
    rw [rdsFrom_set rs 0 q _ (by omega), Nat.zero_add]
    have : one q (s + 1) = [⟨q, s⟩] := by unfold one; rw [if_pos (by omega)]; congr; omega
    rw [this, List.singleton_append]
  obtain ⟨f1, f2⟩ := rdsFrom_full (rs.take q) 0 (fun j hj => by
    rw [hlq] at hj
    rw [rd_take rs q j hj (by omega)]
    have := hf j hj
    have := hr j (by omega)
    omega)
  have hS : (rdsFrom (q + 1) (rs.drop (q + 1))).length ≤ 256 - (q + 1) := by
    have := rdsFrom_len (rs.drop (q + 1)) (q + 1)
    rw [List.length_drop] at this
    omega
  rw [e1, e2]
  unfold PSnapPlays.vellumref10_Enter.f
  rw [if_neg (by omega), if_neg (by omega), if_neg (by rw [List.length_append, f1, hlq]; omega)]
  refine refEnter_l _ _ s fl q (by rw [f1, hlq]) hq (by omega) (fun j hj => by rw [f2 j (by rw [hlq]; exact hj)]; omega) (fun x hx => ?_) q 257 0 (by omega) (by omega)
  have := rdsFrom_mem _ _ x hx
  omega
theorem refEnter_full (rs : List Int) (fl s : Int) (hl : rs.length = 256) (hr : ∀ i : Nat, i < 256 → 0 ≤ rd rs (i : Int)) (h1 : fl ≤ s) (h2 : s ≤ 4611686018427387904) (hf : ∀ i : Nat, i < 256 → rd rs (i : Int) ≠ 0) :
    PSnapPlays.vellumref10_Enter.f 257 fl (rds rs) s = some (fl, rds rs, 0, 2) := by
  obtain ⟨f1, _⟩ := rdsFrom_full rs 0 (fun j hj => by
    have := hf j (by omega)
    have := hr j (by omega)
    omega)
  unfold PSnapPlays.vellumref10_Enter.f
  rw [if_neg (by omega), if_neg (by omega), if_pos (by unfold rds; rw [f1, hl]; decide)]

/-! Leave -/
theorem refLeave_l (L : List RS) (s fl : Int) (hL : L.length ≤ 256) (d : Nat) : ∀ (k i : Nat), i + d = L.length → d < k →
    PSnapPlays.vellumref10_Leave.l0 k s ((L.take i).filter (fun x => decide (x.f0 ≠ s))) i fl L =
      some (if ((L.filter (fun x => decide (x.f0 ≠ s))).length : Int) = L.length then (fl, L, 100) else (fl, L.filter (fun x => decide (x.f0 ≠ s)), 0)) := by
  induction d with
  | zero =>
    intro k i hi hk
    obtain ⟨k, rfl⟩ : ∃ m, k = m + 1 := ⟨k - 1, by omega⟩
    simp only [PSnapPlays.vellumref10_Leave.l0]
    rw [if_neg (by omega), List.take_of_length_le (by omega)]
    split <;> rfl
  | succ d ih =>
    intro k i hi hk
    obtain ⟨k, rfl⟩ : ∃ m, k = m + 1 := ⟨k - 1, by omega⟩
    have hlt : i < L.length := by omega
    have ht : L.take (i + 1) = L.take i ++ [L[i]] := List.take_succ_eq_append_getElem hlt
    have hr := ih k (i + 1) (by omega) (by omega)
    rw [ht, List.filter_append] at hr
    have hfl : ((L.take i).filter (fun x => decide (x.f0 ≠ s))).length ≤ 256 := by
      have h1 := List.length_filter_le (fun x : RS => decide (x.f0 ≠ s)) (L.take i)
      have h2 : (L.take i).length ≤ i := by rw [List.length_take]; omega
      omega
    have hg := rdR_get L i hlt
    unfold rdR at hg
    simp only [PSnapPlays.vellumref10_Leave.l0]
    rw [if_pos (by omega), if_pos (by omega), show wrap64 ((i : Int) + 1) = ((i + 1 : Nat) : Int) by unfold wrap64; omega, hg]
    by_cases e : L[i].f0 = s
    · rw [if_pos e]
      have : [L[i]].filter (fun x => decide (x.f0 ≠ s)) = [] := by simp [e]
      rw [this, List.append_nil] at hr
      exact hr
    · rw [if_neg e, if_pos (Nat.lt_of_le_of_lt hfl (by decide))]
      have : [L[i]].filter (fun x => decide (x.f0 ≠ s)) = [L[i]] := by simp [e]
      rw [this] at hr
      exact hr
theorem rds_len (rs : List Int) : (rds rs).length ≤ rs.length := rdsFrom_len rs 0
theorem refLeave (rs : List Int) (fl s : Int) (hl : rs.length = 256) :
    PSnapPlays.vellumref10_Leave.f 257 fl (rds rs) s = some (if (((rds rs).filter (fun x => decide (x.f0 ≠ s))).length : Int) = (rds rs).length then (fl, rds rs, 100) else (fl, (rds rs).filter (fun x => decide (x.f0 ≠ s)), 0)) := by
  have := rds_len rs
  exact refLeave_l (rds rs) s fl (by omega) (rds rs).length 257 0 (by omega) (by omega)
theorem filter_out (l : List Int) (i : Nat) (s : Int) (h : s < i ∨ (i : Int) + l.length ≤ s) : (rdsFrom i l).filter (fun x => decide (x.f0 ≠ s)) = rdsFrom i l := by
  rw [List.filter_eq_self]
  intro x hx
  have := rdsFrom_mem l i x hx
  simp only [ne_eq, decide_not, Bool.not_eq_eq_eq_not, Bool.not_true, decide_eq_false_iff_not]
  omega
theorem refLeave_out (rs : List Int) (fl s : Int) (hl : rs.length = 256) (h : s < 0 ∨ 256 ≤ s) : PSnapPlays.vellumref10_Leave.f 257 fl (rds rs) s = some (fl, rds rs, 100) := by
  have : (rds rs).filter (fun x => decide (x.f0 ≠ s)) = rds rs := filter_out rs 0 s (by omega)
  rw [refLeave rs fl s hl, this, if_pos rfl]
theorem refLeave_in (rs : List Int) (fl : Int) (q : Nat) (hl : rs.length = 256) (hq : q < 256) (h0 : 0 ≤ rd rs (q : Int)) : PSnapPlays.vellumref10_Leave.f 257 fl (rds rs) (q : Int) = some (fl, rds (rs.set q 0), if rd rs (q : Int) = 0 then 100 else 0) := by
  have e1 : rds rs = rdsFrom 0 (rs.take q) ++ (one q (rd rs q) ++ rdsFrom (q + 1) (rs.drop (q + 1))) := by
    unfold rds
    rw [rdsFrom_at rs 0 q (by omega), Nat.zero_add]
  have e2 : rds (rs.set q 0) = rdsFrom 0 (rs.take q) ++ rdsFrom (q + 1) (rs.drop (q + 1)) := by
    unfold rds
    rw [rdsFrom_set rs 0 q _ (by omega), Nat.zero_add]
    have : one q 0 = [] := by unfold one; rw [if_neg (by omega)]
    rw [this, List.nil_append]
  have e3 : (rds rs).filter (fun x => decide (x.f0 ≠ (q : Int))) = rds (rs.set q 0) := by
    have a := filter_out (rs.take q) 0 q (by rw [List.length_take]; omega)
    have b := filter_out (rs.drop (q + 1)) (q + 1) q (by omega)
    have c : (one q (rd rs q)).filter (fun x => decide (x.f0 ≠ (q : Int))) = [] := by
      unfold one
      split <;> simp
    rw [e1, e2, List.filter_append, List.filter_append, a, b, c, List.nil_append]
  rw [refLeave rs fl q hl, e3]
  by_cases e : rd rs (q : Int) = 0
  · have e4 : rds (rs.set q 0) = rds rs := by
      rw [e1, e2, e]
      have : one q 0 = [] := by unfold one; rw [if_neg (by omega)]
      rw [this, List.nil_append]
    rw [e4, if_pos rfl, if_pos e]
  · have e4 : (rds (rs.set q 0)).length + 1 = (rds rs).length := by
      rw [e1, e2]
      have : one q (rd rs q) = [⟨q, rd rs q - 1⟩] := by unfold one; rw [if_pos (by omega)]
      rw [this]
      simp
      omega
    rw [if_neg (by omega), if_neg e]

/-! Least, Raise -/
def minStep (s : Int × Bool) (x : RS) : Int × Bool := if s.2 = false ∨ x.f1 < s.1 then (x.f1, true) else s
def minInt (n : Int) (x : RS) : Int := if x.f1 < n then x.f1 else n
theorem leastTo_min (rs : List Int) (j : Nat) (h : j ≤ rs.length) : leastTo rs j = (rdsFrom 0 (rs.take j)).foldl minStep (0, false) := by
  induction j with
  | zero => simp [leastTo, rdsFrom]
  | succ j ih =>
    rw [leastTo, ih (by omega), rds_take rs j (by omega), List.foldl_append]
    generalize (rdsFrom 0 (rs.take j)).foldl minStep (0, false) = s
    unfold leastStep one
    by_cases hv : 0 < rd rs (j : Int)
    · rw [if_pos hv]
      simp only [List.foldl_cons, List.foldl_nil, minStep, hv, true_and]
    · rw [if_neg hv, if_neg (by omega)]
      rfl
theorem min_true (L : List RS) : ∀ n, L.foldl minStep (n, true) = (L.foldl minInt n, true) := by
  induction L with
  | nil => intro n; rfl
  | cons x t ih =>
    intro n
    rw [List.foldl_cons, List.foldl_cons]
    have : minStep (n, true) x = (minInt n x, true) := by
      unfold minStep minInt
      simp only [Bool.true_eq_false, false_or]
      split <;> rfl
    rw [this, ih]
theorem refLeast_l (L : List RS) (fl : Int) (hL : L.length ≤ 256) (d : Nat) : ∀ (k i : Nat) (n : Int), i + d = L.length → d < k →
    PSnapPlays.vellumref10_Least.l0 k n i fl L = some ((L.drop i).foldl minInt n, true) := by
  induction d with
  | zero =>
    intro k i n hi hk
    obtain ⟨k, rfl⟩ : ∃ m, k = m + 1 := ⟨k - 1, by omega⟩
    simp only [PSnapPlays.vellumref10_Least.l0]
    rw [if_neg (by omega), List.drop_of_length_le (by omega)]
    rfl
  | succ d ih =>
    intro k i n hi hk
    obtain ⟨k, rfl⟩ : ∃ m, k = m + 1 := ⟨k - 1, by omega⟩
    have hlt : i < L.length := by omega
    have hg := rdR_get L i hlt
    unfold rdR at hg
    simp only [PSnapPlays.vellumref10_Least.l0]
    rw [if_pos (by omega), if_pos (by omega), show wrap64 ((i : Int) + 1) = ((i + 1 : Nat) : Int) by unfold wrap64; omega, hg, ih k (i + 1) _ (by omega) (by omega), ih k (i + 1) _ (by omega) (by omega), List.drop_eq_getElem_cons hlt, List.foldl_cons]
    unfold minInt
    split <;> rfl
theorem refLeast (rs : List Int) (fl : Int) (hl : rs.length = 256) : PSnapPlays.vellumref10_Least.f 257 fl (rds rs) = some (leastTo rs 256) := by
  have h0 := rds_len rs
  rw [leastTo_min rs 256 (by omega), List.take_of_length_le (by omega)]
  change PSnapPlays.vellumref10_Least.f 257 fl (rds rs) = some ((rds rs).foldl minStep (0, false))
  unfold PSnapPlays.vellumref10_Least.f
  cases hL : rds rs with
  | nil => rfl
  | cons x t =>
    rw [hL] at h0
    rw [if_neg (by rw [List.length_cons]; omega), if_pos (by rw [List.length_cons]; omega)]
    have this : PSnapPlays.vellumref10_Least.l0 257 x.f1 0 fl (x :: t) = some (((x :: t).drop 0).foldl minInt x.f1, true) := refLeast_l (x :: t) fl (by omega) (x :: t).length 257 0 x.f1 (by omega) (by omega)
    have e : (PSnapPlays.rd_T39 (x :: t) 0).f1 = x.f1 := rfl
    rw [e, this, List.foldl_cons]
    have e2 : minStep (0, false) x = (x.f1, true) := by unfold minStep; rw [if_pos (Or.inl rfl)]
    rw [e2, min_true, List.drop_zero, List.foldl_cons]
    have e3 : minInt x.f1 x = x.f1 := by unfold minInt; rw [if_neg (by omega)]
    rw [e3]
theorem refRaise (rs : List Int) (fl x : Int) (hl : rs.length = 256) : PSnapPlays.vellumref10_Raise.f 258 fl (rds rs) x = some (upTo fl (capL (leastTo rs 256) (capM x)), rds rs, upTo fl (capL (leastTo rs 256) (capM x))) := by
  have key : ∀ y, PSnapPlays.vellumref10_Raise.j0 258 y fl (rds rs) = some (upTo fl (capL (leastTo rs 256) y), rds rs, upTo fl (capL (leastTo rs 256) y)) := by
    intro y
    simp only [PSnapPlays.vellumref10_Raise.j0, refLeast rs fl hl, Option.bind_some]
    generalize leastTo rs 256 = ls
    obtain ⟨l, sm⟩ := ls
    cases sm with
    | false =>
      simp only [Bool.false_eq_true, if_false, PSnapPlays.vellumref10_Raise.j1, capL, cond_false, upTo]
      by_cases h : fl < y
      · rw [if_pos (show y > fl from h), if_pos h]
      · rw [if_neg (show ¬ y > fl from h), if_neg h]
    | true =>
      simp only [if_true, PSnapPlays.vellumref10_Raise.j1, capL, cond_true, upTo, decide_eq_true_eq]
      by_cases h1 : l < y
      · rw [if_pos (show y > l from h1), if_pos h1]
        by_cases h : fl < l
        · rw [if_pos (show l > fl from h), if_pos h]
        · rw [if_neg (show ¬ l > fl from h), if_neg h]
      · rw [if_neg (show ¬ y > l from h1), if_neg h1]
        by_cases h : fl < y
        · rw [if_pos (show y > fl from h), if_pos h]
        · rw [if_neg (show ¬ y > fl from h), if_neg h]
  unfold PSnapPlays.vellumref10_Raise.f capM
  by_cases h : 4611686018427387904 < x
  · rw [if_pos (show x > 4611686018427387904 from h), if_pos h, key]
  · rw [if_neg (show ¬ x > 4611686018427387904 from h), if_neg h, key]

/-! Same -/
theorem refSame_l (L : List RS) (hL : L.length ≤ 256) (d : Nat) : ∀ (k i : Nat), i + d = L.length → d < k → PSnapPlays.vellumref10_Same.l0 k L L i = some true := by
  induction d with
  | zero =>
    intro k i hi hk
    obtain ⟨k, rfl⟩ : ∃ m, k = m + 1 := ⟨k - 1, by omega⟩
    simp only [PSnapPlays.vellumref10_Same.l0]
    rw [if_neg (by omega)]
  | succ d ih =>
    intro k i hi hk
    obtain ⟨k, rfl⟩ : ∃ m, k = m + 1 := ⟨k - 1, by omega⟩
    simp only [PSnapPlays.vellumref10_Same.l0]
    rw [if_pos (by omega), if_pos (by omega), if_pos (by omega), if_neg (by simp), show wrap64 ((i : Int) + 1) = ((i + 1 : Nat) : Int) by unfold wrap64; omega]
    exact ih k (i + 1) (by omega) (by omega)
theorem refSame (L : List RS) (hL : L.length ≤ 256) : PSnapPlays.vellumref10_Same.f 257 L L = some true := by
  unfold PSnapPlays.vellumref10_Same.f
  rw [if_pos rfl]
  exact refSame_l L hL L.length 257 0 (by omega) (by omega)
theorem refNew (l : Int) (h : l ≤ 4611686018427387904) : PSnapPlays.vellumref10_New.f l = some (l, [], 0) := by
  unfold PSnapPlays.vellumref10_New.f
  rw [if_neg (by omega)]
theorem refNewArg (l : Int) (h : 4611686018427387904 < l) : PSnapPlays.vellumref10_New.f l = some (0, [], 1) := by
  unfold PSnapPlays.vellumref10_New.f
  rw [if_pos (by omega)]
theorem rds_zeros : rds zeros = [] := by
  have : ∀ n i, rdsFrom i (List.replicate n 0) = [] := by
    intro n
    induction n with
    | zero => intro i; rfl
    | succ n ih => intro i; rw [List.replicate_succ, rdsFrom, ih]; rfl
  exact this 256 0
end Go.Proofs.Ytohpcifpnfomnaa.Snap
