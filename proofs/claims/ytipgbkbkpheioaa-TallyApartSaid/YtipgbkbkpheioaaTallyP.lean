/- Layer 5's document in plain numbers: what the reference's Add, Sum and the law's own comparison answer. -/
import Derived.Test.YtipgbkbkpheioaaTallyC
import Derived.Test.YtipgbkbkpheioaaPTallyAddsx1
namespace Go.Proofs.Ytipgbkbkpheioaa.Tally
open Go.RowKit Go.Proofs.YtipgbkbkpheioaaW.PrintWords Go.Proofs.Ytipgbkbkpheioaa.Kit Go.Proofs.Ytipgbkbkpheioaa.PTallyAdds

theorem ref_shard (k : Int) (n : Nat) (h : 1 ≤ n) (h2 : n ≤ 64) : vellumref05_Shard.f k n = some (shardOf k n : Int) := by
  unfold vellumref05_Shard.f
  rw [if_neg (by omega)]
  have h1 := Int.emod_lt_of_pos k (show (0 : Int) < n by omega)
  have h3 := Int.emod_nonneg k (show (n : Int) ≠ 0 by omega)
  have hm := mod_neg k n h
  have hs := shard_lt k n h
  congr 1
  have hw : ∀ x : Int, -64 ≤ x → x ≤ 128 → wrap64 x = x := fun x _ _ => by unfold wrap64; omega
  rcases Int.lt_or_le (k.tmod n) 0 with hn | hn
  · have := hm.1 hn
    rw [hw _ (by omega) (by omega), this]
    rw [Int.tmod_eq_emod_of_nonneg (by omega), Int.emod_eq_of_lt (by omega) (by omega)]
  · have := hm.2 (by omega)
    rw [this, hw _ (by omega) (by omega)]
    rw [Int.tmod_eq_emod_of_nonneg (by omega), Int.add_emod_right, Int.emod_eq_of_lt (by omega) (by omega)]

theorem wrap_small (i : Nat) (h : i < 140737488355329) : wrap64 ((i : Int) + 1) = ((i + 1 : Nat) : Int) := by unfold wrap64; omega

theorem ref_add_l (x0 : List Int) (a1 a2 : Int) (h1 : 1 ≤ x0.length) (h2 : x0.length ≤ 64) (d : Nat) : ∀ (k i : Nat), i + d = x0.length → d < k → vellumref05_Add.l0 k x0 a1 a2 (x0.take i) i = some (added x0 a1 a2) := by
  induction d with
  | zero =>
    intro k i hi hk
    obtain ⟨k, rfl⟩ : ∃ m, k = m + 1 := ⟨k - 1, by omega⟩
    have hs := shard_lt a1 x0.length h1
    simp only [vellumref05_Add.l0]
    rw [if_neg (by omega), List.take_of_length_le (by omega), ref_shard a1 _ h1 h2]
    simp only [Option.bind_some]
    rw [if_pos (by omega), if_pos (by omega)]
    rfl
  | succ d ih =>
    intro k i hi hk
    obtain ⟨k, rfl⟩ : ∃ m, k = m + 1 := ⟨k - 1, by omega⟩
    simp only [vellumref05_Add.l0]
    rw [if_pos (by omega), if_pos (by omega), if_pos (by rw [List.length_take]; omega), ← take_rd x0 i (by omega), wrap_small i (by omega)]
    exact ih k (i + 1) (by omega) (by omega)
theorem ref_add (x0 : List Int) (a1 a2 : Int) (h1 : 1 ≤ x0.length) (h2 : x0.length ≤ 64) : vellumref05_Add.f 65 x0 a1 a2 = some (added x0 a1 a2) := by
  have := ref_add_l x0 a1 a2 h1 h2 x0.length 65 0 (by omega) (by omega)
  simpa [vellumref05_Add.f] using this

theorem ref_sum_l (x0 : List Int) (h2 : x0.length ≤ 64) (d : Nat) : ∀ (k i : Nat), i + d = x0.length → d < k → vellumref05_Sum.l0 k x0 (sumW (x0.take i)) i = some (sumW x0) := by
  induction d with
  | zero =>
    intro k i hi hk
    obtain ⟨k, rfl⟩ : ∃ m, k = m + 1 := ⟨k - 1, by omega⟩
    simp only [vellumref05_Sum.l0]
    rw [if_neg (by omega), List.take_of_length_le (by omega)]
  | succ d ih =>
    intro k i hi hk
    obtain ⟨k, rfl⟩ : ∃ m, k = m + 1 := ⟨k - 1, by omega⟩
    simp only [vellumref05_Sum.l0]
    rw [if_pos (by omega), if_pos (by omega), ← sumW_take x0 i (by omega), wrap_small i (by omega)]
    exact ih k (i + 1) (by omega) (by omega)
theorem ref_sum (x0 : List Int) (h2 : x0.length ≤ 64) : vellumref05_Sum.f 65 x0 = some (sumW x0) := by
  have := ref_sum_l x0 h2 x0.length 65 0 (by omega) (by omega)
  simpa [vellumref05_Sum.f, sumW] using this

theorem same_self_l (x0 : List Int) (h2 : x0.length ≤ 64) (d : Nat) : ∀ (k i : Nat), i + d = x0.length → d < k → vellumlaw05_same.l0 k x0 x0 i = some true := by
  induction d with
  | zero =>
    intro k i hi hk
    obtain ⟨k, rfl⟩ : ∃ m, k = m + 1 := ⟨k - 1, by omega⟩
    simp only [vellumlaw05_same.l0]
    rw [if_neg (by omega)]
  | succ d ih =>
    intro k i hi hk
    obtain ⟨k, rfl⟩ : ∃ m, k = m + 1 := ⟨k - 1, by omega⟩
    simp only [vellumlaw05_same.l0]
    simp only [wrap_small i (by omega), ih k (i + 1) (by omega) (by omega)]
    simp
theorem same_self (x0 : List Int) (h2 : x0.length ≤ 64) : vellumlaw05_same.f 65 x0 x0 = some true := by
  have := same_self_l x0 h2 x0.length 65 0 (by omega) (by omega)
  simp only [vellumlaw05_same.f]
  simpa using this
end Go.Proofs.Ytipgbkbkpheioaa.Tally
