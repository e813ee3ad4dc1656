/- Layer 5's histogram in plain numbers: what the document's counts and its Below are. -/
import Derived.Test.YtipgbkbkpheioaaTallyI
import Derived.Test.YtipgbkbkpheioaaPBelowx1
import Derived.Test.YtipgbkbkpheioaaPcountsx1
namespace Go.Proofs.Ytipgbkbkpheioaa.Tally
set_option linter.unusedVariables false
set_option linter.unusedSimpArgs false
open Go.RowKit Go.Proofs.YtipgbkbkpheioaaW.PrintWords Go.Proofs.Ytipgbkbkpheioaa.Kit

theorem wrap_next (i : Nat) (h : i < 140737488355329) : wrap64 ((i : Int) + 1) = ((i + 1 : Nat) : Int) := by unfold wrap64; omega
theorem ref_size_l (d : Nat) : ∀ (k n j : Nat), n < 2 ^ d → n < 18446744073709551616 → j + d ≤ 64 → d < k → PBelow.vellumref05_Size.l0 k n j = some ((j + bl n : Nat) : Int) := by
  induction d with
  | zero =>
    intro k n j hn _ _ hk
    obtain ⟨k, rfl⟩ : ∃ m, k = m + 1 := ⟨k - 1, by omega⟩
    obtain rfl : n = 0 := by simpa using hn
    simp [PBelow.vellumref05_Size.l0, bl]
  | succ d ih =>
    intro k n j hn hb hj hk
    obtain ⟨k, rfl⟩ : ∃ m, k = m + 1 := ⟨k - 1, by omega⟩
    simp only [PBelow.vellumref05_Size.l0]
    by_cases h0 : n = 0
    · subst h0
      simp [bl]
    · rw [if_pos (by omega), bl_half n (by omega)]
      have e1 : IntKind.u64.wrap (Int.tdiv (n : Int) 2) = ((n / 2 : Nat) : Int) := by
        rw [IntKind.wrap_u64, Int.tdiv_eq_ediv_of_nonneg (by omega)]
        omega
      rw [e1, wrap_next j (by omega), ih k (n / 2) (j + 1) (by rw [Nat.pow_succ] at hn; omega) (by omega) (by omega) (by omega)]
      congr 2
      omega
theorem ref_size (n : Int) (h0 : 0 ≤ n) (h1 : n < 18446744073709551616) (k : Nat) (hk : 64 < k) : PBelow.vellumref05_Size.f k n = some ((bl n.toNat : Nat) : Int) := by
  obtain ⟨m, rfl⟩ := Int.eq_ofNat_of_zero_le h0
  have := ref_size_l 64 k m 0 (by omega) (by omega) (by omega) hk
  simpa [PBelow.vellumref05_Size.f] using this

/-- All numbers counted. -/
def cnts (l : List Int) : List Int := l.foldl counted (List.replicate 65 0)
theorem counted_len (xs : List Int) (n : Int) : (counted xs n).length = xs.length := by simp [counted]
theorem cnts_len_from (l : List Int) : ∀ xs : List Int, (l.foldl counted xs).length = xs.length := by
  induction l with
  | nil => intro xs; rfl
  | cons n l ih => intro xs; rw [List.foldl_cons, ih, counted_len]
theorem cnts_len (l : List Int) : (cnts l).length = 65 := by rw [cnts, cnts_len_from]; simp
theorem cnts_take (l : List Int) (j : Nat) (h : j < l.length) : cnts (l.take (j + 1)) = counted (cnts (l.take j)) (rd l j) := by
  rw [take_rd l j h, cnts, List.foldl_append]
  rfl

theorem ref_counts_l (l : List Int) (hr : ∀ n ∈ l, 0 ≤ n ∧ n < 18446744073709551616) (hl : l.length ≤ 140737488351232) (d : Nat) : ∀ (k j : Nat), j + d = l.length → d + 66 < k → PBelow.vellumref05_Counts.l0 k l (cnts (l.take j)) j = some (cnts l) := by
  induction d with
  | zero =>
    intro k j hj hk
    obtain ⟨k, rfl⟩ : ∃ m, k = m + 1 := ⟨k - 1, by omega⟩
    simp only [PBelow.vellumref05_Counts.l0]
    rw [if_neg (by omega), List.take_of_length_le (by omega)]
  | succ d ih =>
    intro k j hj hk
    obtain ⟨k, rfl⟩ : ∃ m, k = m + 1 := ⟨k - 1, by omega⟩
    simp only [PBelow.vellumref05_Counts.l0]
    have hlt : j < l.length := by omega
    have hm : rd l j ∈ l := by simp [rd, hlt]
    obtain ⟨h0, h1⟩ := hr _ hm
    rw [if_pos (by omega), if_pos (by omega), ref_size _ h0 h1 k (by omega)]
    simp only [Option.bind_some]
    have hb := bl_le (rd l j).toNat (by omega)
    rw [if_pos (by omega), if_pos (by rw [cnts_len]; omega), wrap_next j (by omega)]
    have := ih k (j + 1) (by omega) (by omega)
    rw [cnts_take l j hlt] at this
    exact this
theorem ref_counts (l : List Int) (hr : ∀ n ∈ l, 0 ≤ n ∧ n < 18446744073709551616) (hl : l.length ≤ 140737488351232) (k : Nat) (hk : l.length + 66 < k) : PBelow.vellumref05_Counts.f k l = some (cnts l) := by
  have := ref_counts_l l hr hl l.length k 0 (by omega) (by omega)
  simpa [PBelow.vellumref05_Counts.f, cnts] using this

theorem sumU_from (xs : List Int) : ∀ a : Int, u64 a = a → xs.foldl (fun n s => u64 (n + s)) a = u64 (a + xs.sum) := by
  induction xs with
  | nil => intro a ha; simp [ha]
  | cons x xs ih =>
    intro a ha
    rw [List.foldl_cons, ih _ (by unfold u64; rw [IntKind.wrap_u64, IntKind.wrap_u64]; omega), List.sum_cons]
    unfold u64
    simp only [IntKind.wrap_u64]
    omega
theorem sumU_eq (xs : List Int) : sumU xs = u64 xs.sum := by
  rw [sumU, sumU_from xs 0 (by unfold u64; rw [IntKind.wrap_u64]; omega), Int.zero_add]
theorem sum_set (xs : List Int) : ∀ (i : Nat) (v : Int), i < xs.length → (xs.set i v).sum = xs.sum - rd xs i + v := by
  induction xs with
  | nil => intro i v h; simp at h
  | cons x xs ih =>
    intro i v h
    cases i with
    | zero => simp [rd]; omega
    | succ i =>
      have := ih i v (by simpa using h)
      simp only [List.set_cons_succ, List.sum_cons, this]
      have e : rd (x :: xs) ((i + 1 : Nat) : Int) = rd xs (i : Int) := by simp [rd]
      rw [e]
      omega
theorem cnts_sum_from (l : List Int) (hr : ∀ n ∈ l, 0 ≤ n ∧ n < 18446744073709551616) : ∀ xs : List Int, xs.length = 65 → u64 (l.foldl counted xs).sum = u64 (xs.sum + l.length) := by
  induction l with
  | nil => intro xs _; simp
  | cons n l ih =>
    intro xs hx
    have hb := bl_le n.toNat (by have := hr n (by simp); omega)
    rw [List.foldl_cons, ih (fun m hm => hr m (by simp [hm])) _ (by rw [counted_len, hx]), counted, sum_set _ _ _ (by omega), List.length_cons]
    unfold u64
    simp only [IntKind.wrap_u64]
    omega
theorem cnts_sum (l : List Int) (hr : ∀ n ∈ l, 0 ≤ n ∧ n < 18446744073709551616) (hl : l.length ≤ 140737488351232) : sumU (cnts l) = l.length := by
  rw [sumU_eq, cnts, cnts_sum_from l hr _ (by simp), show (List.replicate 65 (0 : Int)).sum = 0 by decide]
  unfold u64
  simp only [IntKind.wrap_u64]
  omega

theorem ref_below_l (l xs : List Int) (t r : Int) (hx : xs.length = 65) (hs : sumU xs = u64 l.length) (hL : Least xs t r) (d : Nat) : ∀ (k j : Nat), j + d = 65 → d < k → (∀ i, i < j → ¬ reached xs t i) →
    PBelow.vellumref05_Below.l0 k l t xs (sumU (xs.take j)) j = some (r, 0) := by
  induction d with
  | zero =>
    intro k j hj hk hn
    obtain ⟨k, rfl⟩ : ∃ m, k = m + 1 := ⟨k - 1, by omega⟩
    simp only [PBelow.vellumref05_Below.l0]
    rw [if_neg (by omega)]
    rcases hL.out with ⟨i, hi, _, h, _⟩ | ⟨rfl, _⟩
    · exact absurd h (hn i (by omega))
    · rfl
  | succ d ih =>
    intro k j hj hk hn
    obtain ⟨k, rfl⟩ : ∃ m, k = m + 1 := ⟨k - 1, by omega⟩
    simp only [PBelow.vellumref05_Below.l0]
    rw [if_pos (by omega), if_pos (by omega), if_pos (by omega)]
    have e1 : IntKind.u64.wrap (sumU (xs.take j) + rd xs j) = sumU (xs.take (j + 1)) := (sumU_take xs j (by omega)).symm
    have e2 : IntKind.u64.wrap ((l.length : Int)) = sumU xs := hs.symm
    rw [e1, e2, wrap_next j (by omega)]
    by_cases h : reached xs t j
    · rw [if_pos (show IntKind.u64.wrap (IntKind.u64.wrap t * sumU xs) ≤ IntKind.u64.wrap (1000 * sumU (xs.take (j + 1))) from h)]
      rcases hL.out with ⟨i, hi, rfl, hr, hm⟩ | ⟨_, hm⟩
      · rcases Nat.lt_or_ge i j with hij | hij
        · exact absurd hr (hn i hij)
        · rcases Nat.lt_or_ge j i with hji | hji
          · exact absurd h (hm j hji)
          · obtain rfl : i = j := by omega
            rfl
      · exact absurd h (hm j (by omega))
    · rw [if_neg (show ¬ IntKind.u64.wrap (IntKind.u64.wrap t * sumU xs) ≤ IntKind.u64.wrap (1000 * sumU (xs.take (j + 1))) from h)]
      exact ih k (j + 1) (by omega) (by omega) (fun i hi => by
        rcases Nat.lt_or_ge i j with hij | hij
        · exact hn i hij
        · obtain rfl : i = j := by omega
          exact h)
/-- The document's Below answers as the program's, whose contract this is. -/
theorem ref_below (l : List Int) (hr : ∀ n ∈ l, 0 ≤ n ∧ n < 18446744073709551616) (hl : l.length ≤ 140737488351232) (t : Int) (h0 : 0 ≤ t) (h1 : t ≤ 1000) (r1 r2 : Int)
    (h : (sumU (cnts l) = 0 ∧ r1 = 0 ∧ r2 = 5) ∨ (sumU (cnts l) ≠ 0 ∧ r2 = 0 ∧ Least (cnts l) t r1)) (k : Nat) (hk : l.length + 140 < k) : PBelow.vellumref05_Below.f k l t = some (r1, r2) := by
  obtain ⟨k, rfl⟩ : ∃ m, k = m + 1 := ⟨k - 1, by omega⟩
  have hd : decide (t > 1000) = false := by simp; omega
  unfold PBelow.vellumref05_Below.f
  rw [if_neg (by omega), hd]
  simp only [PBelow.vellumref05_Below.j0]
  rw [if_neg (by simp)]
  have hs := cnts_sum l hr hl
  rcases h with ⟨hz, rfl, rfl⟩ | ⟨hz, rfl, hL⟩
  · rw [if_pos (by omega)]
  · rw [if_neg (by omega), ref_counts l hr hl k (by omega)]
    simp only [Option.bind_some]
    have := ref_below_l l (cnts l) t r1 (cnts_len l) (by rw [hs]; unfold u64; rw [IntKind.wrap_u64]; omega) hL 65 k 0 (by omega) (by omega) (fun i hi => absurd hi (Nat.not_lt_zero _))
    simpa [sumU] using this
theorem ref_below_out (l : List Int) (t : Int) (h : t < 0 ∨ 1000 < t) (k : Nat) (hk : 0 < k) : PBelow.vellumref05_Below.f k l t = some (0, 1) := by
  obtain ⟨k, rfl⟩ : ∃ m, k = m + 1 := ⟨k - 1, by omega⟩
  unfold PBelow.vellumref05_Below.f
  rcases h with h | h
  · rw [if_pos h]
    simp [PBelow.vellumref05_Below.j0]
  · rw [if_neg (by omega), show decide (t > 1000) = true by simp; omega]
    simp [PBelow.vellumref05_Below.j0]

theorem least_upto (xs : List Int) (t : Int) (n : Nat) : (∃ j, j < n ∧ reached xs t j ∧ ∀ i, i < j → ¬ reached xs t i) ∨ (∀ i, i < n → ¬ reached xs t i) := by
  induction n with
  | zero => exact Or.inr (fun i hi => absurd hi (Nat.not_lt_zero _))
  | succ n ih =>
    rcases ih with ⟨j, hj, h1, h2⟩ | h
    · exact Or.inl ⟨j, by omega, h1, h2⟩
    · by_cases hn : reached xs t n
      · exact Or.inl ⟨n, by omega, hn, h⟩
      · exact Or.inr (fun i hi => by
          rcases Nat.lt_or_ge i n with hin | hin
          · exact h i hin
          · obtain rfl : i = n := by omega
            exact hn)
theorem least_is (xs : List Int) (t : Int) : ∃ r, Least xs t r := by
  rcases least_upto xs t 65 with ⟨j, hj, h1, h2⟩ | h
  · exact ⟨j, ⟨Or.inl ⟨j, hj, rfl, h1, h2⟩⟩⟩
  · exact ⟨64, ⟨Or.inr ⟨rfl, h⟩⟩⟩
theorem least_one (xs : List Int) (t r r' : Int) (h : Least xs t r) (h' : Least xs t r') : r = r' := by
  rcases h.out with ⟨i, hi, rfl, hr, hm⟩ | ⟨rfl, hm⟩ <;> rcases h'.out with ⟨j, hj, rfl, hr', hm'⟩ | ⟨rfl, hm'⟩
  · rcases Nat.lt_trichotomy i j with hij | rfl | hij
    · exact absurd hr (hm' i hij)
    · rfl
    · exact absurd hr' (hm j hij)
  · exact absurd hr (hm' i hi)
  · exact absurd hr' (hm j hj)
  · rfl
/-- What the program's Below answers of all numbers counted, and the document's. -/
theorem below_both (l : List Int) (hr : ∀ n ∈ l, 0 ≤ n ∧ n < 18446744073709551616) (hl : l.length ≤ 140737488351232) (t : Int) :
    ∃ r1 r2, PBelow.vellumref05_Below.f (l.length + 141) l t = some (r1, r2) ∧
      ∀ p w, Hist w p (cnts l) → Calls Try.prog 20 #[.pointer (some ⟨p, 0, none⟩), .int .i64 t] w fun e w' => e = .returned (.tuple #[.int .i64 r1, .int .i64 r2]) ∧ Below w.heap.size w w' := by
  by_cases ht : t < 0 ∨ 1000 < t
  · refine ⟨0, 1, ref_below_out l t ht _ (by omega), fun p w _ => ?_⟩
    by_cases h0 : t < 0
    · exact (belowSmall _ t h0 w).mono fun e w' ⟨he, hw⟩ => ⟨he, hw ▸ Below.refl _ _⟩
    · exact (belowBig _ t (by omega) (by omega) w).mono fun e w' ⟨he, hw⟩ => ⟨he, hw ▸ Below.refl _ _⟩
  · by_cases hz : sumU (cnts l) = 0
    · refine ⟨0, 5, ref_below l hr hl t (by omega) (by omega) 0 5 (Or.inl ⟨hz, rfl, rfl⟩) _ (by omega), fun p w h => ?_⟩
      refine (belowCalls p _ t w h (by omega) (by omega)).mono fun e w' ⟨r1, r2, he, hc, hb⟩ => ⟨?_, hb⟩
      rcases hc with ⟨_, rfl, rfl⟩ | ⟨hnz, _⟩
      · exact he
      · exact absurd hz hnz
    · obtain ⟨r, hL⟩ := least_is (cnts l) t
      refine ⟨r, 0, ref_below l hr hl t (by omega) (by omega) r 0 (Or.inr ⟨hz, rfl, hL⟩) _ (by omega), fun p w h => ?_⟩
      refine (belowCalls p _ t w h (by omega) (by omega)).mono fun e w' ⟨r1, r2, he, hc, hb⟩ => ⟨?_, hb⟩
      rcases hc with ⟨hz', _⟩ | ⟨_, rfl, hL'⟩
      · exact absurd hz' hz
      · rw [he, least_one _ _ _ _ hL hL']

theorem counts_self_l (x0 : List Int) (h2 : x0.length ≤ 65) (d : Nat) : ∀ (k i : Nat), i + d = x0.length → d < k → Pcounts.vellumlaw05_counts.l0 k x0 x0 i = some true := by
  induction d with
  | zero =>
    intro k i hi hk
    obtain ⟨k, rfl⟩ : ∃ m, k = m + 1 := ⟨k - 1, by omega⟩
    simp only [Pcounts.vellumlaw05_counts.l0]
    rw [if_neg (by omega)]
  | succ d ih =>
    intro k i hi hk
    obtain ⟨k, rfl⟩ : ∃ m, k = m + 1 := ⟨k - 1, by omega⟩
    simp only [Pcounts.vellumlaw05_counts.l0]
    simp only [wrap_next i (by omega), ih k (i + 1) (by omega) (by omega)]
    simp
theorem counts_self (x0 : List Int) (h2 : x0.length ≤ 65) : Pcounts.vellumlaw05_counts.f 66 x0 x0 = some true := by
  have := counts_self_l x0 h2 x0.length 66 0 (by omega) (by omega)
  simp only [Pcounts.vellumlaw05_counts.f]
  simpa using this
end Go.Proofs.Ytipgbkbkpheioaa.Tally
