/- math/bits.Len64: how many binary digits a number has. -/
import Derived.Test.YtipgbkbkpheioaaKit
namespace Go.Proofs.Ytipgbkbkpheioaa.Tally
set_option linter.unusedVariables false
set_option linter.unusedSimpArgs false
open Go.RowKit Go.Proofs.YtipgbkbkpheioaaW.PrintWords Go.Proofs.Ytipgbkbkpheioaa.Kit

/-- How many binary digits. -/
def bl (n : Nat) : Nat := if n = 0 then 0 else Nat.log2 n + 1
theorem bl_half (n : Nat) (h : 0 < n) : bl n = bl (n / 2) + 1 := by
  unfold bl
  rw [if_neg (by omega)]
  by_cases h2 : n / 2 = 0
  · rw [if_pos h2]
    obtain rfl : n = 1 := by omega
    decide
  · rw [if_neg h2]
    rw [Nat.log2_def, if_pos (by omega)]
theorem bl_shift (k : Nat) : ∀ n : Nat, 2 ^ k ≤ n → bl n = bl (n / 2 ^ k) + k := by
  induction k with
  | zero => intro n _; simp
  | succ k ih =>
    intro n hn
    have hp : 2 ^ (k + 1) = 2 * 2 ^ k := by rw [Nat.pow_succ, Nat.mul_comm]
    have hpos := Nat.two_pow_pos k
    rw [bl_half n (by omega), ih (n / 2) (by omega), hp, Nat.div_div_eq_div_mul]
    omega
theorem bl_le (n : Nat) (h : n < 18446744073709551616) : bl n ≤ 64 := by
  unfold bl
  split
  · omega
  · have := (Nat.log2_lt (by assumption)).2 (show n < 2 ^ 64 by omega)
    omega
def len8 : ByteArray := ⟨#[0, 1, 2, 2, 3, 3, 3, 3, 4, 4, 4, 4, 4, 4, 4, 4, 5, 5, 5, 5, 5, 5, 5, 5, 5, 5, 5, 5, 5, 5, 5, 5, 6, 6, 6, 6, 6, 6, 6, 6, 6, 6, 6, 6, 6, 6, 6, 6, 6, 6, 6, 6, 6, 6, 6, 6, 6, 6, 6, 6, 6, 6, 6, 6, 7, 7, 7, 7, 7, 7, 7, 7, 7, 7, 7, 7, 7, 7, 7, 7, 7, 7, 7, 7, 7, 7, 7, 7, 7, 7, 7, 7, 7, 7, 7, 7, 7, 7, 7, 7, 7, 7, 7, 7, 7, 7, 7, 7, 7, 7, 7, 7, 7, 7, 7, 7, 7, 7, 7, 7, 7, 7, 7, 7, 7, 7, 7, 7, 8, 8, 8, 8, 8, 8, 8, 8, 8, 8, 8, 8, 8, 8, 8, 8, 8, 8, 8, 8, 8, 8, 8, 8, 8, 8, 8, 8, 8, 8, 8, 8, 8, 8, 8, 8, 8, 8, 8, 8, 8, 8, 8, 8, 8, 8, 8, 8, 8, 8, 8, 8, 8, 8, 8, 8, 8, 8, 8, 8, 8, 8, 8, 8, 8, 8, 8, 8, 8, 8, 8, 8, 8, 8, 8, 8, 8, 8, 8, 8, 8, 8, 8, 8, 8, 8, 8, 8, 8, 8, 8, 8, 8, 8, 8, 8, 8, 8, 8, 8, 8, 8, 8, 8, 8, 8, 8, 8, 8, 8, 8, 8, 8, 8, 8, 8, 8, 8, 8, 8, 8, 8, 8, 8, 8, 8, 8, 8]⟩
theorem len8_size : len8.size = 256 := by decide +kernel
theorem len8_in (x : Nat) (h : x < 256) : x < len8.size := by rw [len8_size]; exact h
theorem len8_bl : ∀ x : Fin 256, (len8[x.val]'(len8_in x.val x.isLt)).toNat = bl x.val := by decide +kernel
theorem len8_at (x : Int) (k : Int) (h0 : 0 ≤ x) (h1 : x < 256) (hk0 : 0 ≤ k) (hk : k ≤ 100) : ∀ h : x.toNat < 256, wrap64 (k + wrap64 ((len8[x.toNat]'(len8_in _ h)).toNat : Int)) = k + bl x.toNat := by
  intro h
  rw [len8_bl ⟨x.toNat, h⟩]
  have := bl_le x.toNat (by omega)
  show wrap64 (k + wrap64 ((bl x.toNat : Nat) : Int)) = _
  unfold wrap64
  omega
theorem ret_int {a b : Int} (h : a = b) : Ending.returned (.int .i64 a) = Ending.returned (.int .i64 b) := by rw [h]

set_option maxRecDepth 100000 in
theorem len64_000 (n : Int) (h0 : 0 ≤ n) (h1 : n < 4294967296) (h2 : n < 65536) (h3 : n < 256) (hx : n < 256) (w : World) : Calls Try.prog 25 #[.int .u64 n] w fun e w' => e = .returned (.int .i64 (0 + (bl (n).toNat : Nat))) ∧ w' = w := by
  have H := Aside0.mk (len8_at (n) 0 (by omega) hx (by omega) (by omega) (by omega))
  go_enter Try.func25, Try.ntmps25
  go_wp2
  go_ret
  exact ⟨ret_int ((by unfold wrap64; omega : ∀ z : Nat, wrap64 (wrap64 (z : Int)) = wrap64 (0 + wrap64 (z : Int))) _ |>.trans H.out), rfl⟩
set_option maxRecDepth 100000 in
theorem len64_001 (n : Int) (h0 : 0 ≤ n) (h1 : n < 4294967296) (h2 : n < 65536) (h3 : 256 ≤ n) (hx : n / 256 < 256) (w : World) : Calls Try.prog 25 #[.int .u64 n] w fun e w' => e = .returned (.int .i64 (8 + (bl (n / 256).toNat : Nat))) ∧ w' = w := by
  have H := Aside0.mk (len8_at (n / 256) 8 (by omega) hx (by omega) (by omega) (by omega))
  go_enter Try.func25, Try.ntmps25
  go_wp2
  go_ret
  exact ⟨ret_int H.out, rfl⟩
set_option maxRecDepth 100000 in
theorem len64_010 (n : Int) (h0 : 0 ≤ n) (h1 : n < 4294967296) (h2 : 65536 ≤ n) (h3 : n / 65536 < 256) (hx : n / 65536 < 256) (w : World) : Calls Try.prog 25 #[.int .u64 n] w fun e w' => e = .returned (.int .i64 (16 + (bl (n / 65536).toNat : Nat))) ∧ w' = w := by
  have H := Aside0.mk (len8_at (n / 65536) 16 (by omega) hx (by omega) (by omega) (by omega))
  go_enter Try.func25, Try.ntmps25
  go_wp2
  go_ret
  exact ⟨ret_int H.out, rfl⟩
set_option maxRecDepth 100000 in
theorem len64_011 (n : Int) (h0 : 0 ≤ n) (h1 : n < 4294967296) (h2 : 65536 ≤ n) (h3 : 256 ≤ n / 65536) (hx : n / 65536 / 256 < 256) (w : World) : Calls Try.prog 25 #[.int .u64 n] w fun e w' => e = .returned (.int .i64 (24 + (bl (n / 65536 / 256).toNat : Nat))) ∧ w' = w := by
  have H := Aside0.mk (len8_at (n / 65536 / 256) 24 (by omega) hx (by omega) (by omega) (by omega))
  go_enter Try.func25, Try.ntmps25
  go_wp2
  go_ret
  exact ⟨ret_int H.out, rfl⟩
set_option maxRecDepth 100000 in
theorem len64_100 (n : Int) (h0 : 0 ≤ n) (h1 : 4294967296 ≤ n) (h2 : n / 4294967296 < 65536) (h3 : n / 4294967296 < 256) (hx : n / 4294967296 < 256) (w : World) : Calls Try.prog 25 #[.int .u64 n] w fun e w' => e = .returned (.int .i64 (32 + (bl (n / 4294967296).toNat : Nat))) ∧ w' = w := by
  have H := Aside0.mk (len8_at (n / 4294967296) 32 (by omega) hx (by omega) (by omega) (by omega))
  go_enter Try.func25, Try.ntmps25
  go_wp2
  go_ret
  exact ⟨ret_int H.out, rfl⟩
set_option maxRecDepth 100000 in
theorem len64_101 (n : Int) (h0 : 0 ≤ n) (h1 : 4294967296 ≤ n) (h2 : n / 4294967296 < 65536) (h3 : 256 ≤ n / 4294967296) (hx : n / 4294967296 / 256 < 256) (w : World) : Calls Try.prog 25 #[.int .u64 n] w fun e w' => e = .returned (.int .i64 (40 + (bl (n / 4294967296 / 256).toNat : Nat))) ∧ w' = w := by
  have H := Aside0.mk (len8_at (n / 4294967296 / 256) 40 (by omega) hx (by omega) (by omega) (by omega))
  go_enter Try.func25, Try.ntmps25
  go_wp2
  go_ret
  exact ⟨ret_int H.out, rfl⟩
set_option maxRecDepth 100000 in
theorem len64_110 (n : Int) (h0 : 0 ≤ n) (h1 : 4294967296 ≤ n) (h2 : 65536 ≤ n / 4294967296) (h3 : n / 4294967296 / 65536 < 256) (hx : n / 4294967296 / 65536 < 256) (w : World) : Calls Try.prog 25 #[.int .u64 n] w fun e w' => e = .returned (.int .i64 (48 + (bl (n / 4294967296 / 65536).toNat : Nat))) ∧ w' = w := by
  have H := Aside0.mk (len8_at (n / 4294967296 / 65536) 48 (by omega) hx (by omega) (by omega) (by omega))
  go_enter Try.func25, Try.ntmps25
  go_wp2
  go_ret
  exact ⟨ret_int H.out, rfl⟩
set_option maxRecDepth 100000 in
theorem len64_111 (n : Int) (h0 : 0 ≤ n) (h1 : 4294967296 ≤ n) (h2 : 65536 ≤ n / 4294967296) (h3 : 256 ≤ n / 4294967296 / 65536) (hx : n / 4294967296 / 65536 / 256 < 256) (w : World) : Calls Try.prog 25 #[.int .u64 n] w fun e w' => e = .returned (.int .i64 (56 + (bl (n / 4294967296 / 65536 / 256).toNat : Nat))) ∧ w' = w := by
  have H := Aside0.mk (len8_at (n / 4294967296 / 65536 / 256) 56 (by omega) hx (by omega) (by omega) (by omega))
  go_enter Try.func25, Try.ntmps25
  go_wp2
  go_ret
  exact ⟨ret_int H.out, rfl⟩

theorem len64Calls (n : Int) (h0 : 0 ≤ n) (h1 : n < 18446744073709551616) (w : World) : Calls Try.prog 25 #[.int .u64 n] w fun e w' => e = .returned (.int .i64 (bl n.toNat : Nat)) ∧ w' = w := by
  obtain ⟨m, rfl⟩ := Int.eq_ofNat_of_zero_le h0
  have s32 : 4294967296 ≤ m → bl m = bl (m / 4294967296) + 32 := fun h => bl_shift 32 m h
  have s16 : ∀ m : Nat, 65536 ≤ m → bl m = bl (m / 65536) + 16 := fun m h => bl_shift 16 m h
  have s8 : ∀ m : Nat, 256 ≤ m → bl m = bl (m / 256) + 8 := fun m h => bl_shift 8 m h
  have cast : ∀ a b : Nat, ((a : Int) / (b : Int)).toNat = a / b := fun a b => by rw [← Int.natCast_ediv, Int.toNat_natCast]
  by_cases a : 4294967296 ≤ m
  ·
    by_cases b : 65536 ≤ m / 4294967296
    ·
      by_cases c : 256 ≤ m / 4294967296 / 65536
      ·
        have e : ((m : Int) / 4294967296 / 65536 / 256).toNat = m / 4294967296 / 65536 / 256 := by omega
        refine (len64_111 m (by omega) (by omega) (by omega) (by omega) (by omega) w).mono ?_
        rintro e' w' ⟨rfl, rfl⟩
        refine ⟨ret_int ?_, rfl⟩
        rw [e, Int.toNat_natCast, s32 (by omega), s16 (m / 4294967296) (by omega), s8 (m / 4294967296 / 65536) (by omega)]
        omega
      ·
        have e : ((m : Int) / 4294967296 / 65536).toNat = m / 4294967296 / 65536 := by omega
        refine (len64_110 m (by omega) (by omega) (by omega) (by omega) (by omega) w).mono ?_
        rintro e' w' ⟨rfl, rfl⟩
        refine ⟨ret_int ?_, rfl⟩
        rw [e, Int.toNat_natCast, s32 (by omega), s16 (m / 4294967296) (by omega)]
        omega
    ·
      by_cases c : 256 ≤ m / 4294967296
      ·
        have e : ((m : Int) / 4294967296 / 256).toNat = m / 4294967296 / 256 := by omega
        refine (len64_101 m (by omega) (by omega) (by omega) (by omega) (by omega) w).mono ?_
        rintro e' w' ⟨rfl, rfl⟩
        refine ⟨ret_int ?_, rfl⟩
        rw [e, Int.toNat_natCast, s32 (by omega), s8 (m / 4294967296) (by omega)]
        omega
      ·
        have e : ((m : Int) / 4294967296).toNat = m / 4294967296 := by omega
        refine (len64_100 m (by omega) (by omega) (by omega) (by omega) (by omega) w).mono ?_
        rintro e' w' ⟨rfl, rfl⟩
        refine ⟨ret_int ?_, rfl⟩
        rw [e, Int.toNat_natCast, s32 (by omega)]
        omega
  ·
    by_cases b : 65536 ≤ m
    ·
      by_cases c : 256 ≤ m / 65536
      ·
        have e : ((m : Int) / 65536 / 256).toNat = m / 65536 / 256 := by omega
        refine (len64_011 m (by omega) (by omega) (by omega) (by omega) (by omega) w).mono ?_
        rintro e' w' ⟨rfl, rfl⟩
        refine ⟨ret_int ?_, rfl⟩
        rw [e, Int.toNat_natCast, s16 (m) (by omega), s8 (m / 65536) (by omega)]
        omega
      ·
        have e : ((m : Int) / 65536).toNat = m / 65536 := by omega
        refine (len64_010 m (by omega) (by omega) (by omega) (by omega) (by omega) w).mono ?_
        rintro e' w' ⟨rfl, rfl⟩
        refine ⟨ret_int ?_, rfl⟩
        rw [e, Int.toNat_natCast, s16 (m) (by omega)]
        omega
    ·
      by_cases c : 256 ≤ m
      ·
        have e : ((m : Int) / 256).toNat = m / 256 := by omega
        refine (len64_001 m (by omega) (by omega) (by omega) (by omega) (by omega) w).mono ?_
        rintro e' w' ⟨rfl, rfl⟩
        refine ⟨ret_int ?_, rfl⟩
        rw [e, Int.toNat_natCast, s8 (m) (by omega)]
        omega
      ·
        have e : ((m : Int)).toNat = m := by omega
        refine (len64_000 m (by omega) (by omega) (by omega) (by omega) (by omega) w).mono ?_
        rintro e' w' ⟨rfl, rfl⟩
        refine ⟨ret_int ?_, rfl⟩
        rw [e]
        omega
end Go.Proofs.Ytipgbkbkpheioaa.Tally
