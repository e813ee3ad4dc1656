/- Layer 7's place of int64: what each of its calls does to memory. -/
import Derived.Test.YtkljhdmbhaffeaaPtr
import Derived.Deep.QuietTactic
import Derived.BigQuiet
import Derived.Deep.LoopGhost
namespace Go.Proofs.Ytkljhdmbhaffeaa.Cell
set_option linter.unusedVariables false
set_option linter.unusedSimpArgs false
open Go.RowKit Go.Proofs.YtkljhdmbhaffeaaW.PrintWords Go.Proofs.Ytkljhdmbhaffeaa.Kit

/-- Nodes of type T from a pointer on: their values; the first one's number (0 if there is none). -/
def Chain {α : Type} (enc : α → Value) (T : TypeId) (w : World) : Option Addr → List α → Int → Prop
  | q, [], n => q = none ∧ n = 0
  | q, v :: vs, n => ∃ b q' n', q = some ⟨b, 0, none⟩ ∧ Blk w b [enc v, .int .u64 n, .pointer q'] T ∧ Chain enc T w q' vs n'
/-- No block of S is of type T. -/
def Off (w : World) (S : Nat → Prop) (T : TypeId) : Prop := ∀ i cs, S i → ¬ Blk w i cs T
theorem Off.one {w : World} {p : Nat} {cs : List Value} {t T : TypeId} (h : Blk w p cs t) (hne : t ≠ T) : Off w (fun i => i = p) T := by
  rintro i cs' rfl h'
  have := h.out.symm.trans h'.out
  injection this with this
  injection this with _ e
  exact hne e
theorem Chain.only {α : Type} {enc : α → Value} {T : TypeId} {S : Nat → Prop} {w w' : World} (ho : Only S w w') (hS : Off w S T) : ∀ {vs : List α} {q : Option Addr} {n : Int}, Chain enc T w q vs n → Chain enc T w' q vs n
  | [], _, _, h => h
  | v :: vs, q, n, h => by
    obtain ⟨b, q', n', rfl, hb, hc⟩ := h
    exact ⟨b, q', n', rfl, ho.blk hb (fun s => hS b _ s hb), Chain.only ho hS hc⟩
theorem Chain.below {α : Type} {enc : α → Value} {T : TypeId} {w w' : World} (hb : Below w.heap.size w w') {vs : List α} {q : Option Addr} {n : Int} (h : Chain enc T w q vs n) : Chain enc T w' q vs n :=
  h.only (S := fun _ => False) (Only.ofBelow hb) (fun _ _ => False.elim)
theorem Chain.zero {α : Type} {enc : α → Value} {T : TypeId} {w : World} {q : Option Addr} {vs : List α} {n : Int} (h : Chain enc T w q vs n) (e : vs = []) : q = none ∧ n = 0 := by subst e; exact h

/-- A place in block p. -/
structure At {α : Type} (enc : α → Value) (TC TN : TypeId) (w : World) (p : Nat) (vs : List α) (n : Int) : Prop where mk :: (out : ∃ q, Blk w p [.pointer q] TC ∧ Chain enc TN w q vs n)
theorem At.below {α : Type} {enc : α → Value} {TC TN : TypeId} {w w' : World} {p : Nat} {vs : List α} {n : Int} (h : At enc TC TN w p vs n) (hb : Below w.heap.size w w') : At enc TC TN w' p vs n := by
  obtain ⟨q, h1, h2⟩ := h.out
  exact ⟨q, h1.belowSize hb, h2.below hb⟩
theorem At.only {α : Type} {enc : α → Value} {TC TN : TypeId} {S : Nat → Prop} {w w' : World} {p : Nat} {vs : List α} {n : Int} (h : At enc TC TN w p vs n) (ho : Only S w w') (hp : ¬ S p) (hS : Off w S TN) : At enc TC TN w' p vs n := by
  obtain ⟨q, h1, h2⟩ := h.out
  exact ⟨q, ho.blk h1 hp, h2.only ho hS⟩

abbrev TC : TypeId := 53
abbrev TN : TypeId := 63
abbrev encI : Int → Value := fun v => .int .i64 v

theorem ploadNil (b o : Nat) (w : World) (h : w.cell? ⟨b, o, none⟩ = some (.pointer none)) :
    Calls Try.prog 21 #[.pointer (some ⟨b, o, none⟩)] w fun e w' => e = .returned (.pointer none) ∧ w = w' := by
  have ha := run_call_loadp (P := Try.prog) Try.func28 (by kernel_rfl) (by kernel_rfl) (by kernel_rfl) (by kernel_rfl) h
  have hv := run_convert_nil_from (P := Try.prog) Try.underlying49 Try.underlying45
  go_enter Try.func21, Try.ntmps21
  go_wp2
  go_ret
  exact ⟨rfl, rfl⟩
theorem infoN : ∃ i, Try.prog.info? TN = some i := Option.isSome_iff_exists.1 (by kernel_rfl)
theorem ploadSome (b o : Nat) (g : Nat) (x y z : Value) (w : World) (h : w.cell? ⟨b, o, none⟩ = some (.pointer (some ⟨g, 0, none⟩))) (hb : Blk w g [x, y, z] TN) :
    Calls Try.prog 21 #[.pointer (some ⟨b, o, none⟩)] w fun e w' => e = .returned (.pointer (some ⟨g, 0, none⟩)) ∧ w = w' := by
  have ha := run_call_loadp (P := Try.prog) Try.func28 (by kernel_rfl) (by kernel_rfl) (by kernel_rfl) (by kernel_rfl) h
  obtain ⟨i, hi⟩ := infoN
  have hv := run_convert_from (P := Try.prog) Try.underlying49 Try.underlying45 hi hb (by kernel_rfl)
  clear hi
  go_enter Try.func21, Try.ntmps21
  go_wp2
  go_ret
  exact ⟨rfl, rfl⟩
/-- The pointer of a chain, loaded. -/
theorem pload (b o : Nat) (q : Option Addr) (vs : List Int) (n : Int) (w : World) (h : w.cell? ⟨b, o, none⟩ = some (.pointer q)) (hc : Chain encI TN w q vs n) :
    Calls Try.prog 21 #[.pointer (some ⟨b, o, none⟩)] w fun e w' => e = .returned (.pointer q) ∧ w = w' := by
  cases vs with
  | nil =>
    obtain ⟨rfl, _⟩ := hc
    exact ploadNil b o w h
  | cons v vs =>
    obtain ⟨g, q', n', rfl, hb, _⟩ := hc
    exact ploadSome b o g _ _ _ w h hb

/-- unsafe.Pointer of a chain's pointer is that pointer. -/
theorem toUnsafe (q : Option Addr) (vs : List Int) (n : Int) (w : World) (hc : Chain encI TN w q vs n) : (convert 45 49 (.pointer q)).run Try.prog w = .ok (.pointer q) w := by
  cases vs with
  | nil =>
    obtain ⟨rfl, _⟩ := hc
    exact run_convert_nil_to (P := Try.prog) Try.underlying45 Try.underlying49 w
  | cons v vs =>
    obtain ⟨g, q', n', rfl, hb, _⟩ := hc
    exact run_convert_to_unsafe (P := Try.prog) Try.underlying45 Try.underlying49 (by kernel_rfl) (hb.cell 0 _ rfl)

theorem pcas (b o : Nat) (q r : Option Addr) (w : World) (h : w.cell? ⟨b, o, none⟩ = some (.pointer q)) (hf : w.frozen? ⟨b, o, none⟩ = false)
    (h1 : (convert 45 49 (.pointer q)).run Try.prog w = .ok (.pointer q) w) (h2 : (convert 45 49 (.pointer r)).run Try.prog w = .ok (.pointer r) w) :
    Calls Try.prog 27 #[.pointer (some ⟨b, o, none⟩), .pointer q, .pointer r] w fun e w' => e = .returned (.bool true) ∧ w.setCell ⟨b, o, none⟩ (.pointer r) = w' := by
  have ha := run_call_casp_hit (P := Try.prog) Try.func29 (by kernel_rfl) (by kernel_rfl) (by kernel_rfl) (by kernel_rfl) (r := r) h hf
  go_enter Try.func27, Try.ntmps27
  go_wp2
  go_ret
  exact ⟨rfl, rfl⟩
end Go.Proofs.Ytkljhdmbhaffeaa.Cell
