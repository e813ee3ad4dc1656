/- Products of 128 bits: bits.Mul64 and the reference's wide, in plain numbers. -/
import Derived.Test.YtlodcfbiabfiiaaPVacuumDuesx1
import Derived.Laws.Bits64b
import Derived.Lib.Mul64
import Derived.IntWalk
namespace Go.Proofs.Ytlodcfbiabfiiaa.Dues
set_option linter.unusedVariables false
set_option linter.unusedSimpArgs false
open Go.RowKit Go.Proofs.YtlodcfbiabfiiaaW.PrintWords

theorem and_low (a : Nat) (h : a < 18446744073709551616) : Go.bits .and .u64 (a : Int) 4294967295 = ((a % 4294967296 : Nat) : Int) := by
  have e := bits_and_u64_nat a 4294967295 h (by decide)
  have e2 : a &&& 4294967295 = a % 4294967296 := Nat.and_two_pow_sub_one_eq_mod a 32
  rw [e2] at e
  exact e
theorem or_low (a b : Nat) (h : a * 4294967296 < 18446744073709551616) (hb : b < 4294967296) : Go.bits .or .u64 ((a * 4294967296 : Nat) : Int) (b : Int) = ((a * 4294967296 + b : Nat) : Int) := by
  have e := bits_or_u64_nat (a * 4294967296) b h (by omega)
  have e2 : a * 4294967296 + b = a * 4294967296 ||| b := by
    have := Nat.two_pow_add_eq_or_of_lt (i := 32) hb a
    rw [Nat.mul_comm a]
    exact this
  rw [← e2] at e
  exact e
theorem mul_f (x y : Nat) (hx : x < 18446744073709551616) (hy : y < 18446744073709551616) :
    PVacuumDues.bits_Mul64.f x y = some (((x * y / 18446744073709551616 : Nat) : Int), ((x * y % 18446744073709551616 : Nat) : Int)) := by
  obtain ⟨h1, h2, h3, h4⟩ := Go.Lib.mul64_hi x y hx hy
  have ha := Go.Lib.half_mul_le (a := x / 4294967296) (b := y / 4294967296) (by omega) (by omega)
  have hb := Go.Lib.half_mul_le (a := x / 4294967296) (b := y % 4294967296) (by omega) (by omega)
  have hc := Go.Lib.half_mul_le (a := x % 4294967296) (b := y / 4294967296) (by omega) (by omega)
  have hd := Go.Lib.half_mul_le (a := x % 4294967296) (b := y % 4294967296) (by omega) (by omega)
  have ex : (x : Int) / 4294967296 = ((x / 4294967296 : Nat) : Int) := by omega
  have ey : (y : Int) / 4294967296 = ((y / 4294967296 : Nat) : Int) := by omega
  unfold PVacuumDues.bits_Mul64.f
  rw [and_low x hx, and_low y hy, ex, ey]
  simp only [← Int.natCast_mul]
  generalize hxy : x * y = m at *
  clear hxy
  generalize (x / 4294967296) * (y / 4294967296) = a at *
  generalize (x / 4294967296) * (y % 4294967296) = b at *
  generalize (x % 4294967296) * (y / 4294967296) = c at *
  generalize (x % 4294967296) * (y % 4294967296) = d at *
  have e1 : IntKind.u64.wrap (d : Int) = (d : Int) := IntWalk.u64_in _ (by omega)
  have e2 : IntKind.u64.wrap (b : Int) = (b : Int) := IntWalk.u64_in _ (by omega)
  have e3 : IntKind.u64.wrap (c : Int) = (c : Int) := IntWalk.u64_in _ (by omega)
  have e4 : IntKind.u64.wrap (a : Int) = (a : Int) := IntWalk.u64_in _ (by omega)
  rw [e1, e2, e3, e4]
  have e5 : IntKind.u64.wrap ((b : Int) + (d : Int) / 4294967296) = ((b + d / 4294967296 : Nat) : Int) := by rw [IntWalk.u64_in _ (by omega)]; omega
  rw [e5, and_low _ h2]
  have e6 : IntKind.u64.wrap ((((b + d / 4294967296) % 4294967296 : Nat) : Int) + (c : Int)) = (((b + d / 4294967296) % 4294967296 + c : Nat) : Int) := by rw [IntWalk.u64_in _ (by omega)]; omega
  rw [e6]
  have e7 : IntKind.u64.wrap ((a : Int) + ((b + d / 4294967296 : Nat) : Int) / 4294967296) = ((a + (b + d / 4294967296) / 4294967296 : Nat) : Int) := by rw [IntWalk.u64_in _ (by omega)]; omega
  rw [e7]
  have e8 : IntKind.u64.wrap (((a + (b + d / 4294967296) / 4294967296 : Nat) : Int) + (((b + d / 4294967296) % 4294967296 + c : Nat) : Int) / 4294967296) = ((m / 18446744073709551616 : Nat) : Int) := by rw [IntWalk.u64_in _ (by omega)]; omega
  rw [e8, IntKind.wrap_u64]
  congr 2
theorem wide_f (x y z : Nat) (hx : x < 18446744073709551616) (hy : y < 18446744073709551616) (hz : z < 18446744073709551616) :
    PVacuumDues.vellumref22_wide.f x y z = some ((((x * y + z) / 18446744073709551616 : Nat) : Int), (((x * y + z) % 18446744073709551616 : Nat) : Int)) := by
  obtain ⟨h1, h2, h3, h4⟩ := Go.Lib.mul64_hi x y hx hy
  have e0 : x * y = (x / 4294967296) * (y / 4294967296) * (4294967296 * 4294967296) + ((x / 4294967296) * (y % 4294967296) + (x % 4294967296) * (y / 4294967296)) * 4294967296 + (x % 4294967296) * (y % 4294967296) := by
    rw [← Go.Lib.split_mul, Nat.div_add_mod' x 4294967296, Nat.div_add_mod' y 4294967296]
  have ha := Go.Lib.half_mul_le (a := x / 4294967296) (b := y / 4294967296) (by omega) (by omega)
  have hb := Go.Lib.half_mul_le (a := x / 4294967296) (b := y % 4294967296) (by omega) (by omega)
  have hc := Go.Lib.half_mul_le (a := x % 4294967296) (b := y / 4294967296) (by omega) (by omega)
  have hd := Go.Lib.half_mul_le (a := x % 4294967296) (b := y % 4294967296) (by omega) (by omega)
  have hm : x * y ≤ 18446744073709551615 * 18446744073709551615 := Nat.mul_le_mul (by omega) (by omega)
  have ex : (x : Int) / 4294967296 = ((x / 4294967296 : Nat) : Int) := by omega
  have ey : (y : Int) / 4294967296 = ((y / 4294967296 : Nat) : Int) := by omega
  have mx : (x : Int) % 4294967296 = ((x % 4294967296 : Nat) : Int) := by omega
  have my : (y : Int) % 4294967296 = ((y % 4294967296 : Nat) : Int) := by omega
  unfold PVacuumDues.vellumref22_wide.f
  rw [ex, ey, mx, my]
  simp only [← Int.natCast_mul]
  generalize hxy : x * y = m at *
  clear hxy
  generalize (x / 4294967296) * (y / 4294967296) = a at *
  generalize (x / 4294967296) * (y % 4294967296) = b at *
  generalize (x % 4294967296) * (y / 4294967296) = c at *
  generalize (x % 4294967296) * (y % 4294967296) = d at *
  have e1 : IntKind.u64.wrap (d : Int) = (d : Int) := IntWalk.u64_in _ (by omega)
  have e2 : IntKind.u64.wrap (b : Int) = (b : Int) := IntWalk.u64_in _ (by omega)
  have e3 : IntKind.u64.wrap (c : Int) = (c : Int) := IntWalk.u64_in _ (by omega)
  have e4 : IntKind.u64.wrap (a : Int) = (a : Int) := IntWalk.u64_in _ (by omega)
  rw [e1, e2, e3, e4]
  have e5 : IntKind.u64.wrap ((b : Int) + (d : Int) / 4294967296) = ((b + d / 4294967296 : Nat) : Int) := by rw [IntWalk.u64_in _ (by omega)]; omega
  rw [e5]
  have e6 : IntKind.u64.wrap ((c : Int) + ((b + d / 4294967296 : Nat) : Int) % 4294967296) = (((b + d / 4294967296) % 4294967296 + c : Nat) : Int) := by rw [IntWalk.u64_in _ (by omega)]; omega
  rw [e6]
  have e7 : IntKind.u64.wrap ((a : Int) + ((b + d / 4294967296 : Nat) : Int) / 4294967296) = ((a + (b + d / 4294967296) / 4294967296 : Nat) : Int) := by rw [IntWalk.u64_in _ (by omega)]; omega
  rw [e7]
  have e8 : IntKind.u64.wrap (((a + (b + d / 4294967296) / 4294967296 : Nat) : Int) + (((b + d / 4294967296) % 4294967296 + c : Nat) : Int) / 4294967296) = ((m / 18446744073709551616 : Nat) : Int) := by rw [IntWalk.u64_in _ (by omega)]; omega
  rw [e8]
  have e9 : IntKind.u64.wrap ((((b + d / 4294967296) % 4294967296 + c : Nat) : Int) * 4294967296) = ((((b + d / 4294967296) % 4294967296 + c) % 4294967296 * 4294967296 : Nat) : Int) := by rw [IntKind.wrap_u64]; omega
  have e10 : (d : Int) % 4294967296 = ((d % 4294967296 : Nat) : Int) := by omega
  rw [e9, e10, or_low _ _ (by omega) (by omega)]
  have e11 : (((b + d / 4294967296) % 4294967296 + c) % 4294967296 * 4294967296 + d % 4294967296 : Nat) = m % 18446744073709551616 := by omega
  rw [e11]
  have e12 : IntKind.u64.wrap (((m % 18446744073709551616 : Nat) : Int) + (z : Int)) = (((m + z) % 18446744073709551616 : Nat) : Int) := by rw [IntKind.wrap_u64]; omega
  rw [e12]
  clear e0 e1 e2 e3 e4 e5 e6 e7 e8 e9 e10 e11 e12 h1 h2 h3 h4 ha hb hc hd ex ey mx my
  split
  · have e13 : IntKind.u64.wrap (((m / 18446744073709551616 : Nat) : Int) + 1) = (((m + z) / 18446744073709551616 : Nat) : Int) := by rw [IntWalk.u64_in _ (by omega)]; omega
    rw [e13]
  · have e13 : m / 18446744073709551616 = (m + z) / 18446744073709551616 := by omega
    rw [e13]
/-- Two numbers of 128 bits, compared by halves. -/
theorem more_f (p q : Nat) : PVacuumDues.vellumref22_more.f ((p / 18446744073709551616 : Nat) : Int) ((p % 18446744073709551616 : Nat) : Int) ((q / 18446744073709551616 : Nat) : Int) ((q % 18446744073709551616 : Nat) : Int) = some (decide (q < p)) := by
  unfold PVacuumDues.vellumref22_more.f
  by_cases h : q < p
  · rw [decide_eq_true h]
    split
    · rfl
    · split
      · rw [decide_eq_true (by omega)]
      · omega
  · rw [decide_eq_false h]
    split
    · omega
    · split
      · rw [decide_eq_false (by omega)]
      · rfl
end Go.Proofs.Ytlodcfbiabfiiaa.Dues
