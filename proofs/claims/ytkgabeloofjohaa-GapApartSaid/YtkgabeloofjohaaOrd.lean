/- The order of strings, byte by byte. -/
import Derived.Test.YtkgabeloofjohaaKit
import Derived.Laws.Cover1
namespace Go.Proofs.Ytkgabeloofjohaa.Kit
set_option linter.unusedVariables false
set_option linter.unusedSimpArgs false
open Go.RowKit Go.Proofs.YtkgabeloofjohaaW.PrintWords
abbrev ltB (a b : ByteArray) : Bool := Op.bytesLess a.toList b.toList
theorem bl_cons (a b : UInt8) (x y : List UInt8) : Op.bytesLess (a :: x) (b :: y) = (decide (a < b) || (a == b && Op.bytesLess x y)) := by rw [Op.bytesLess]
theorem bl_nil (x : List UInt8) : Op.bytesLess x [] = false := by cases x <;> rfl
theorem bl_irrefl : ∀ x : List UInt8, Op.bytesLess x x = false
  | [] => rfl
  | a :: x => by rw [bl_cons, bl_irrefl x]; simp
theorem bl_trans : ∀ x y z : List UInt8, Op.bytesLess x y = true → Op.bytesLess y z = true → Op.bytesLess x z = true
  | _, [], _, h, _ => by rw [bl_nil] at h; cases h
  | _, _ :: _, [], _, h => by rw [bl_nil] at h; cases h
  | [], _ :: _, _ :: _, _, _ => rfl
  | a :: x, b :: y, c :: z, h1, h2 => by
    rw [bl_cons, Bool.or_eq_true, Bool.and_eq_true, decide_eq_true_iff, beq_iff_eq] at h1 h2 ⊢
    rcases h1 with h1 | ⟨rfl, h1⟩
    · rcases h2 with h2 | ⟨rfl, h2⟩
      · exact Or.inl (UInt8.lt_trans h1 h2)
      · exact Or.inl h1
    · rcases h2 with h2 | ⟨rfl, h2⟩
      · exact Or.inl h2
      · exact Or.inr ⟨rfl, bl_trans x y z h1 h2⟩
theorem bl_total : ∀ x y : List UInt8, Op.bytesLess x y = true ∨ x = y ∨ Op.bytesLess y x = true
  | [], [] => Or.inr (Or.inl rfl)
  | [], _ :: _ => Or.inl rfl
  | _ :: _, [] => Or.inr (Or.inr rfl)
  | a :: x, b :: y => by
    rw [bl_cons, bl_cons, Bool.or_eq_true, Bool.and_eq_true, decide_eq_true_iff, beq_iff_eq, Bool.or_eq_true, Bool.and_eq_true, decide_eq_true_iff, beq_iff_eq]
    by_cases h1 : a < b
    · exact Or.inl (Or.inl h1)
    · by_cases h2 : b < a
      · exact Or.inr (Or.inr (Or.inl h2))
      · obtain rfl : a = b := by
          rw [UInt8.lt_iff_toNat_lt] at h1 h2
          exact UInt8.toNat_inj.1 (by omega)
        rcases bl_total x y with h | rfl | h
        · exact Or.inl (Or.inr ⟨rfl, h⟩)
        · exact Or.inr (Or.inl rfl)
        · exact Or.inr (Or.inr (Or.inr ⟨rfl, h⟩))
theorem key_inj {a b : ByteArray} (h : a.toList = b.toList) : a = b := by
  rw [ByteArray.toList_eq, ByteArray.toList_eq] at h
  cases a; cases b
  simp at h
  rw [h]
theorem lt_irrefl (a : ByteArray) : ltB a a = false := bl_irrefl _
theorem lt_trans {a b c : ByteArray} (h1 : ltB a b = true) (h2 : ltB b c = true) : ltB a c = true := bl_trans _ _ _ h1 h2
theorem lt_total (a b : ByteArray) : ltB a b = true ∨ a = b ∨ ltB b a = true := by
  rcases bl_total a.toList b.toList with h | h | h
  · exact Or.inl h
  · exact Or.inr (Or.inl (key_inj h))
  · exact Or.inr (Or.inr h)
theorem lt_asymm {a b : ByteArray} (h : ltB a b = true) : ltB b a = false := by
  cases h2 : ltB b a with
  | false => rfl
  | true => have := lt_trans h h2; rw [lt_irrefl] at this; cases this
theorem beq_key (a b : ByteArray) : (a.toList == b.toList) = decide (a = b) := by
  by_cases h : a = b
  · subst h; simp
  · rw [decide_eq_false h, beq_eq_false_iff_ne]
    exact fun e => h (key_inj e)

/-! a sorted list, parted at a key -/
theorem leq_not_lt (a b : ByteArray) : (Op.bytesLess a.toList b.toList || a.toList == b.toList) = !ltB b a := by
  rcases lt_total a b with h | h | h
  · rw [lt_asymm h]; unfold ltB at h; rw [h]; rfl
  · subst h; rw [lt_irrefl]; simp
  · have h2 := lt_asymm h
    unfold ltB at h2
    rw [h2, h, beq_key]
    have : a ≠ b := by rintro rfl; rw [lt_irrefl] at h; cases h
    simp [this]
def maxS (a b : ByteArray) : ByteArray := if ltB a b = true then b else a
def minS (a b : ByteArray) : ByteArray := if ltB b a = true then b else a
theorem run_max_str {P : Program} (ts : Array TypeId) (t : TypeId) (a b : ByteArray) (w : World) : (Builtin.max_ ts t #[.string a, .string b]).run P w = .ok (.string (maxS a b)) w := by
  unfold maxS ltB
  cases h : Op.bytesLess a.toList b.toList <;> simp [Builtin.max_, Builtin.max2, Op.stringOp, asBool, h]
theorem run_min_str {P : Program} (ts : Array TypeId) (t : TypeId) (a b : ByteArray) (w : World) : (Builtin.min_ ts t #[.string a, .string b]).run P w = .ok (.string (minS a b)) w := by
  have e := leq_not_lt a b
  unfold minS
  cases h : ltB b a with
  | true => rw [h] at e; simp [Builtin.min_, Builtin.min2, Op.stringOp, asBool] ; simp at e; simp [e]
  | false => rw [h] at e; simp [Builtin.min_, Builtin.min2, Op.stringOp, asBool]; simp at e; rcases e with e | e <;> simp [e]
end Go.Proofs.Ytkgabeloofjohaa.Kit
