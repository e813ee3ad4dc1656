/- Layer 12: a key's own height, as the document has it: the hash, and its lowest bits. -/
import Derived.Test.YtnpjppnahfehnaaDoorPHeightx1
import Derived.Laws.Bits64b
import Derived.Lib.TrailingZeros
import Derived.WalkKit
import Derived.IntWalk
namespace Go.Proofs.YtnpjppnahfehnaaDoor.Skip
set_option linter.unusedVariables false
set_option linter.unusedSimpArgs false
open Go.RowKit Go.Proofs.YtnpjppnahfehnaaDoorW.PrintWords

/-- The hash of a key's first bytes. -/
def hI (key : ByteArray) : Nat → Int
  | 0 => 14695981039346656037
  | i + 1 => IntKind.u64.wrap ((Go.bits .xor .u64 (hI key i) (IntKind.u64.wrap (bt key (i : Int)))) * 1099511628211)
theorem hI_in (key : ByteArray) (i : Nat) : 0 ≤ hI key i ∧ hI key i < 18446744073709551616 := by
  cases i with
  | zero => unfold hI; omega
  | succ i => unfold hI; rw [IntKind.wrap_u64]; omega
def hN (key : ByteArray) : Nat := (hI key key.size).toNat
theorem hN_in (key : ByteArray) : hN key < 18446744073709551616 := by
  have := hI_in key key.size
  unfold hN
  omega
theorem hN_eq (key : ByteArray) : hI key key.size = (hN key : Int) := by
  have := hI_in key key.size
  unfold hN
  omega
def hgt (X : Nat) : Int := if 1 + ((Lib.ctz 64 X / 2 : Nat) : Int) > 16 then 16 else 1 + ((Lib.ctz 64 X / 2 : Nat) : Int)
theorem ctz_le (X : Nat) (hX : X < 18446744073709551616) : Lib.ctz 64 X ≤ 64 := by
  by_cases h : X = 0
  · unfold Lib.ctz; rw [if_pos h]; omega
  · have := (Lib.lowest_bit 64 X h hX).2
    omega
theorem ctz_spec (X : Nat) (hX : X < 18446744073709551616) (h0 : X ≠ 0) : ∃ m, X = 2 ^ Lib.ctz 64 X * (2 * m + 1) := by
  obtain ⟨m, hm, _⟩ := Lib.ctzFrom_spec 64 X (by omega) hX
  exact ⟨m, by unfold Lib.ctz; rw [if_neg h0]; exact hm⟩
theorem bit_low (X n : Nat) (hX : X < 18446744073709551616) (hn : n < Lib.ctz 64 X) : X / 2 ^ n % 2 = 0 := by
  by_cases h0 : X = 0
  · rw [h0]; simp
  · obtain ⟨m, hm⟩ := ctz_spec X hX h0
    generalize Lib.ctz 64 X = c at *
    obtain ⟨d, rfl⟩ : ∃ d, c = n + (d + 1) := ⟨c - n - 1, by omega⟩
    have : X / 2 ^ n = 2 * (2 ^ d * (2 * m + 1)) := by
      rw [hm, Nat.pow_add, Nat.mul_assoc, Nat.mul_div_cancel_left _ (Nat.two_pow_pos n), Nat.pow_succ, Nat.mul_comm (2 ^ d) 2, Nat.mul_assoc]
    rw [this]
    omega
theorem bit_at (X : Nat) (hX : X < 18446744073709551616) (h0 : X ≠ 0) : X / 2 ^ (Lib.ctz 64 X) % 2 = 1 := by
  obtain ⟨m, hm⟩ := ctz_spec X hX h0
  generalize Lib.ctz 64 X = c at *
  rw [hm, Nat.mul_div_cancel_left _ (Nat.two_pow_pos c)]
  omega
theorem bitTest (X n : Nat) (hX : X < 18446744073709551616) (hn : n < 64) : Go.bits .and .u64 (shr .u64 (X : Int) (IntKind.u64.wrap (n : Int))) 1 = ((X / 2 ^ n % 2 : Nat) : Int) := by
  have h1 : IntKind.u64.wrap (n : Int) = n := by rw [IntKind.wrap_u64]; omega
  have h2 : shr .u64 (X : Int) (n : Int) = ((X / 2 ^ n : Nat) : Int) := by
    unfold shr
    rw [Int.toNat_natCast, Nat.min_eq_left (by show n ≤ 64; omega)]
    simp
  have h3 : X / 2 ^ n < 18446744073709551616 := Nat.lt_of_le_of_lt (Nat.div_le_self _ _) hX
  rw [h1, h2, show (1 : Int) = ((1 : Nat) : Int) from rfl, bits_and_u64_nat _ 1 h3 (by omega), Nat.and_one_is_mod]
theorem wrapHalf (n : Nat) (hn : n ≤ 64) : wrap64 (1 + wrap64 (Int.tdiv (n : Int) 2)) = 1 + ((n / 2 : Nat) : Int) := by
  have : Int.tdiv (n : Int) 2 = ((n / 2 : Nat) : Int) := by
    rw [Int.tdiv_eq_ediv_of_nonneg (by omega)]
    omega
  rw [this]
  unfold wrap64
  omega
theorem ref_l1 (X : Nat) (hX : X < 18446744073709551616) : ∀ (d n : Nat), n + d = Lib.ctz 64 X → ∃ k, PHeight.vellumref12_Height.l1 k (X : Int) (n : Int) = some (hgt X)
  | 0, n, h => by
    have hle := ctz_le X hX
    have hn : n = Lib.ctz 64 X := by omega
    by_cases h64 : n < 64
    · have h0 : X ≠ 0 := by
        intro e
        rw [e] at hn
        have : Lib.ctz 64 0 = 64 := rfl
        omega
      refine ⟨1, ?_⟩
      rw [PHeight.vellumref12_Height.l1, if_pos (by omega), if_pos (by rw [IntKind.wrap_u64]; omega), bitTest X n hX h64, hn, bit_at X hX h0, if_neg (by omega), wrapHalf _ hle]
      unfold hgt
      split <;> rfl
    · refine ⟨1, ?_⟩
      rw [PHeight.vellumref12_Height.l1, if_neg (by omega), hn, wrapHalf _ hle]
      unfold hgt
      split <;> rfl
  | d + 1, n, h => by
    have hle := ctz_le X hX
    obtain ⟨k, hk⟩ := ref_l1 X hX d (n + 1) (by omega)
    have hw : wrap64 ((n : Int) + 1) = ((n + 1 : Nat) : Int) := by unfold wrap64; omega
    exact ⟨k + 1, by rw [PHeight.vellumref12_Height.l1, if_pos (by omega), if_pos (by rw [IntKind.wrap_u64]; omega), bitTest X n hX (by omega), bit_low X n hX (by omega), if_pos (show ((0 : Nat) : Int) = 0 from rfl), hw, hk]⟩
theorem ref_l0 (key : ByteArray) (hs : key.size ≤ 140737488351232) : ∀ (d i : Nat), i + d = key.size → ∃ k, PHeight.vellumref12_Height.l0 k key (hI key i) (i : Int) = some (hgt (hN key))
  | 0, i, h => by
    obtain ⟨k, hk⟩ := ref_l1 (hN key) (hN_in key) (Lib.ctz 64 (hN key)) 0 (by omega)
    have hi : i = key.size := by omega
    exact ⟨k + 1, by rw [PHeight.vellumref12_Height.l0, if_neg (by omega), hi, hN_eq]; exact hk⟩
  | d + 1, i, h => by
    have hw : wrap64 ((i : Int) + 1) = ((i + 1 : Nat) : Int) := by unfold wrap64; omega
    obtain ⟨k, hk⟩ := ref_l0 key hs d (i + 1) (by omega)
    exact ⟨k + 1, by rw [PHeight.vellumref12_Height.l0, if_pos (by omega), if_pos (by omega), hw]; exact hk⟩
theorem refHeightCalls (key : ByteArray) (hs : key.size ≤ 140737488351232) (w : World) : Calls Tryd.prog 5 #[.string key] w fun e w' => e = .returned (.int .i64 (hgt (hN key))) ∧ Drawn0 w w' := by
  obtain ⟨k, hk⟩ := ref_l0 key hs key.size 0 (by omega)
  exact PHeight.vellumref12_Height.calls k key _ w hk
end Go.Proofs.YtnpjppnahfehnaaDoor.Skip
