/- Layer 22's document in plain numbers: the reference's due answers as the program's. -/
import Derived.Test.YtlodcfbiabfiiaaDuesC
namespace Go.Proofs.Ytlodcfbiabfiiaa.Dues
set_option linter.unusedVariables false
set_option linter.unusedSimpArgs false
open Go.RowKit Go.Proofs.YtlodcfbiabfiiaaW.PrintWords Go.Proofs.Ytlodcfbiabfiiaa.Kit Go.Proofs.Ytlodcfbiabfiiaa.PVacuumDues

theorem wideK (x z : Nat) (hx : x < 18446744073709551616) (hz : z < 18446744073709551616) : vellumref22_wide.f (x : Int) 1000 (z : Int) = some ((((x * 1000 + z) / 18446744073709551616 : Nat) : Int), (((x * 1000 + z) % 18446744073709551616 : Nat) : Int)) := wide_f x 1000 z hx (by decide) hz
theorem wideK0 (x : Nat) (hx : x < 18446744073709551616) : vellumref22_wide.f (x : Int) 1000 0 = some ((((x * 1000) / 18446744073709551616 : Nat) : Int), (((x * 1000) % 18446744073709551616 : Nat) : Int)) := by
  have h := wide_f x 1000 0 hx (by decide) (by decide)
  simp only [Nat.add_zero] at h
  exact h
theorem wide0 (x y : Nat) (hx : x < 18446744073709551616) (hy : y < 18446744073709551616) : vellumref22_wide.f (x : Int) (y : Int) 0 = some ((((x * y) / 18446744073709551616 : Nat) : Int), (((x * y) % 18446744073709551616 : Nat) : Int)) := wide_f x y 0 hx hy (by decide)
theorem join_hi (P Q : Nat) (h : P + Q < 18446744073709551616 * 18446744073709551616) : IntKind.u64.wrap (((P / 18446744073709551616 : Nat) : Int) + (((Q + P % 18446744073709551616) / 18446744073709551616 : Nat) : Int)) = (((P + Q) / 18446744073709551616 : Nat) : Int) := by
  rw [IntWalk.u64_in _ (by omega)]
  omega
theorem join_hi' (P Q : Nat) (h : P + Q < 18446744073709551616 * 18446744073709551616) : IntKind.u64.wrap ((((Q + P % 18446744073709551616) / 18446744073709551616 : Nat) : Int) + ((P / 18446744073709551616 : Nat) : Int)) = (((P + Q) / 18446744073709551616 : Nat) : Int) := by
  rw [IntWalk.u64_in _ (by omega)]
  omega
theorem join_lo (P Q : Nat) : (Q + P % 18446744073709551616) % 18446744073709551616 = (P + Q) % 18446744073709551616 := by omega
theorem flip (n : Nat) (x : Int) (h : x = -(n : Int)) (h1 : 1 ≤ n) (h2 : n ≤ 9223372036854775808) : IntKind.u64.wrap (IntKind.u64.wrap (wrap64 (-(wrap64 (x + 1)))) + 1) = (n : Int) := by
  have e : wrap64 (x + 1) = x + 1 := by unfold wrap64; omega
  have e2 : wrap64 (-(x + 1)) = (n : Int) - 1 := by unfold wrap64; omega
  rw [e, e2, IntWalk.u64_in ((n : Int) - 1) (by omega), IntWalk.u64_in _ (by omega)]
  omega

theorem ref_signed (x : S) (k base th : Nat) (hl : R64 x.f0) (hd : R64 x.f2) (hb : base < 9223372036854775808) (ht : th < 9223372036854775808) (hs : x.f0 < 0 ∨ x.f2 < 0) :
    vellumref22_signed.f (k + 1) x.f0 x.f1 x.f2 x.f3 x.f4 (base : Int) (th : Int) = some (isDue (toWs x) base th) := by
  unfold R64 at hl hd
  obtain ⟨l, v, d, r, e⟩ := x
  simp only at hl hd hs ⊢
  unfold vellumref22_signed.f isDue toWs
  simp only
  rw [IntWalk.u64_in (base : Int) (by omega), wideK0 base (by omega), Option.bind_some]
  have ut : IntKind.u64.wrap (th : Int) = (th : Int) := IntWalk.u64_in _ (by omega)
  by_cases h1 : d < 0
  · rw [if_pos h1]
    obtain ⟨nd, hnd⟩ : ∃ nd : Nat, d = -(nd : Int) := ⟨(-d).toNat, by omega⟩
    by_cases h0 : l < 0
    · obtain ⟨nl, hnl⟩ : ∃ nl : Nat, l = -(nl : Int) := ⟨(-l).toNat, by omega⟩
      have hcn : nl * th ≤ 9223372036854775808 * 9223372036854775807 := Nat.mul_le_mul (by omega) (by omega)
      simp only [vellumref22_signed.j0, decide_eq_true h0, if_true]
      rw [flip nd d hnd (by omega) (by omega), flip nl l hnl (by omega) (by omega), wideK nd _ (by omega) (by omega), Option.bind_some, ut, wide0 nl th (by omega) (by omega), Option.bind_some]
      have hlt : l * (th : Int) = -((nl * th : Nat) : Int) := by rw [hnl, Int.neg_mul, Int.natCast_mul]
      rw [hlt]
      generalize nl * th = C at *
      simp only
      rw [join_hi' (base * 1000) (nd * 1000) (by omega), join_lo (base * 1000) (nd * 1000), more_f, Option.bind_some]
      congr 1
      rw [Bool.eq_iff_iff]
      simp only [decide_eq_true_eq]
      omega
    · obtain ⟨nl, hnl⟩ : ∃ nl : Nat, l = (nl : Int) := ⟨l.toNat, by omega⟩
      simp only [vellumref22_signed.j0, decide_eq_false h0, Bool.false_eq_true, if_false]
      rw [if_pos h1, hnl, ← Int.natCast_mul]
      generalize nl * th = C
      congr 1
      symm
      rw [decide_eq_false_iff_not]
      omega
  · rw [if_neg h1]
    have h0 : l < 0 := by omega
    obtain ⟨nd, hnd⟩ : ∃ nd : Nat, d = (nd : Int) := ⟨d.toNat, by omega⟩
    obtain ⟨nl, hnl⟩ : ∃ nl : Nat, l = -(nl : Int) := ⟨(-l).toNat, by omega⟩
    have hcn : nl * th ≤ 9223372036854775808 * 9223372036854775807 := Nat.mul_le_mul (by omega) (by omega)
    simp only [vellumref22_signed.j0, Bool.false_eq_true, if_false]
    rw [if_neg h1, flip nl l hnl (by omega) (by omega), hnd, IntWalk.u64_in (nd : Int) (by omega), wideK0 nd (by omega), Option.bind_some, ut, wide_f nl th _ (by omega) (by omega) (by omega), Option.bind_some]
    have hlt : l * (th : Int) = -((nl * th : Nat) : Int) := by rw [hnl, Int.neg_mul, Int.natCast_mul]
    rw [hlt]
    generalize nl * th = C at *
    simp only
    rw [join_hi (nd * 1000) C (by omega), join_lo (nd * 1000) C, more_f, Option.bind_some]
    congr 1
    rw [Bool.eq_iff_iff]
    simp only [decide_eq_true_eq]
    omega
theorem ref_due (x : S) (k base th : Nat) (hl : R64 x.f0) (hd : R64 x.f2) (hb : base < 9223372036854775808) (ht : th < 9223372036854775808) :
    vellumref22_due.f (k + 2) x.f0 x.f1 x.f2 x.f3 x.f4 (base : Int) (th : Int) = some (isDue (toWs x) base th) := by
  unfold vellumref22_due.f
  by_cases h1 : x.f2 < 0
  · rw [if_pos h1]
    simp only [vellumref22_due.j0, if_true]
    rw [ref_signed x k base th hl hd hb ht (Or.inr h1), Option.bind_some]
  · rw [if_neg h1]
    by_cases h0 : x.f0 < 0
    · simp only [vellumref22_due.j0, decide_eq_true h0, if_true]
      rw [ref_signed x k base th hl hd hb ht (Or.inl h0), Option.bind_some]
    · simp only [vellumref22_due.j0, decide_eq_false h0, Bool.false_eq_true, if_false]
      unfold R64 at hl hd
      obtain ⟨l, v, d, r, e⟩ := x
      simp only at hl hd h0 h1 ⊢
      obtain ⟨nd, hnd⟩ : ∃ nd : Nat, d = (nd : Int) := ⟨d.toNat, by omega⟩
      obtain ⟨nl, hnl⟩ : ∃ nl : Nat, l = (nl : Int) := ⟨l.toNat, by omega⟩
      have hcn : nl * th ≤ 9223372036854775807 * 9223372036854775807 := Nat.mul_le_mul (by omega) (by omega)
      unfold isDue toWs
      simp only
      rw [hnd, hnl, IntWalk.u64_in (nd : Int) (by omega), IntWalk.u64_in (nl : Int) (by omega), IntWalk.u64_in (base : Int) (by omega), IntWalk.u64_in (th : Int) (by omega), wideK0 nd (by omega), Option.bind_some, wideK0 base (by omega), Option.bind_some, wide_f nl th _ (by omega) (by omega) (by omega), Option.bind_some, ← Int.natCast_mul]
      generalize nl * th = C at *
      simp only
      rw [join_hi (base * 1000) C (by omega), join_lo (base * 1000) C, more_f, Option.bind_some]
      congr 1
      rw [Bool.eq_iff_iff]
      simp only [decide_eq_true_eq]
      omega
theorem wrap_next (i : Nat) (h : i < 140737488355329) : wrap64 ((i : Int) + 1) = ((i + 1 : Nat) : Int) := by unfold wrap64; omega
theorem ref_l (l : List S) (base th : Nat) (hb : base < 9223372036854775808) (ht : th < 9223372036854775808) (hl : l.length ≤ 17592186044000) (hok : ∀ i : Nat, i < l.length → R64 (rd_T31 l (i : Int)).f0 ∧ R64 (rd_T31 l (i : Int)).f2) (d : Nat) : ∀ (k i : Nat), i + d = l.length → d + 2 < k →
    vellumref22_Due.l0 k l (base : Int) (th : Int) (dueTo l base th i) (i : Int) = some (dueTo l base th l.length, 0) := by
  induction d with
  | zero =>
    intro k i hi hk
    obtain ⟨k, rfl⟩ : ∃ m, k = m + 1 := ⟨k - 1, by omega⟩
    have e : i = l.length := by omega
    subst e
    simp only [vellumref22_Due.l0]
    rw [if_neg (by omega)]
  | succ d ih =>
    intro k i hi hk
    obtain ⟨k, rfl⟩ : ∃ m, k = m + 2 + 1 := ⟨k - 3, by omega⟩
    have h := hok i (by omega)
    have hr := ih (k + 2) (i + 1) (by omega) (by omega)
    have hlen := dueTo_len l base th i
    simp only [vellumref22_Due.l0]
    rw [if_pos (by omega), if_pos (by omega), ref_due _ k base th h.1 h.2 hb ht, Option.bind_some, wrap_next i (by omega)]
    simp only [dueTo, due1] at hr
    cases hd : isDue (toWs (rd_T31 l (i : Int))) base th with
    | true =>
      rw [hd] at hr
      simp only [cond_true] at hr
      rw [if_pos rfl, if_pos (by omega)]
      exact hr
    | false =>
      rw [hd] at hr
      simp only [cond_false, List.append_nil] at hr
      rw [if_neg (by decide)]
      exact hr
theorem ref_all (l : List S) (base th : Nat) (hb : base < 9223372036854775808) (ht : th < 9223372036854775808) (hl : l.length ≤ 17592186044000) (hok : ∀ i : Nat, i < l.length → R64 (rd_T31 l (i : Int)).f0 ∧ R64 (rd_T31 l (i : Int)).f2) :
    vellumref22_Due.f (l.length + 5) l (base : Int) (th : Int) = some (dueTo l base th l.length, 0) := by
  unfold vellumref22_Due.f
  rw [if_neg (by omega)]
  simp only [vellumref22_Due.j0, decide_eq_true_eq]
  rw [if_neg (by omega)]
  exact ref_l l base th hb ht hl hok l.length (l.length + 4) 0 (by omega) (by omega)
theorem ref_arg (l : List S) (base th : Int) (k : Nat) (h : base < 0 ∨ th < 0) : vellumref22_Due.f (k + 1) l base th = some ([], 1) := by
  unfold vellumref22_Due.f
  by_cases h0 : base < 0
  · rw [if_pos h0]
    simp only [vellumref22_Due.j0, if_true]
  · rw [if_neg h0]
    simp only [vellumref22_Due.j0, decide_eq_true_eq]
    rw [if_pos (by omega)]
end Go.Proofs.Ytlodcfbiabfiiaa.Dues
