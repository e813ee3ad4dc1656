/- Layer 12's list: the atomics below it; before. -/
import Derived.Test.YtnpjppnahfehnaaDoorSkipA
import Derived.Laws.Cover1
namespace Go.Proofs.YtnpjppnahfehnaaDoor.Skip
set_option linter.unusedVariables false
set_option linter.unusedSimpArgs false
open Go.RowKit Go.Proofs.YtnpjppnahfehnaaDoorW.PrintWords Go.Proofs.YtnpjppnahfehnaaDoor.Kit Go.MuLone

theorem i64Load (b o : Nat) (v : Int) (w : World) (h : w.cell? ⟨b, o, none⟩ = some (.int .i64 v)) :
    Calls Tryd.prog 19 #[.pointer (some ⟨b, o, none⟩)] w fun e w' => e = .returned (.int .i64 v) ∧ w = w' := by
  have ha := run_call_load (P := Tryd.prog) Tryd.func28 (by kernel_rfl) (by kernel_rfl) (by kernel_rfl) .i64 (by kernel_rfl) h
  go_enter Tryd.func19, Tryd.ntmps19
  go_wp2
  go_ret
  exact ⟨rfl, rfl⟩
theorem i64Store (b o : Nat) (v u : Int) (w : World) (h : w.cell? ⟨b, o, none⟩ = some (.int .i64 u)) (z : w.frozen? ⟨b, o, none⟩ = false) :
    Calls Tryd.prog 24 #[.pointer (some ⟨b, o, none⟩), .int .i64 v] w fun e w' => e = .returned (.tuple #[]) ∧ w.setCell ⟨b, o, none⟩ (.int .i64 v) = w' := by
  have ha := run_call_store (P := Tryd.prog) (k := .i64) (y := v) Tryd.func38 (by kernel_rfl) (by kernel_rfl) (by kernel_rfl) (by kernel_rfl) h z
  go_enter Tryd.func24, Tryd.ntmps24
  go_wp2
  go_end0
  exact ⟨rfl, rfl⟩
theorem infoN : ∃ i, Tryd.prog.info? TN = some i := Option.isSome_iff_exists.1 (by kernel_rfl)
/-- A pointer's node, if it has one. -/
def IsN (w : World) (o : Option Nat) : Prop := ∀ p, o = some p → ∃ x y z, Blk w p [x, y, z] TN
theorem IsN.below {w w' : World} {o : Option Nat} (h : IsN w o) (hb : Below w.heap.size w w') : IsN w' o := fun p hp => by
  obtain ⟨x, y, z, hx⟩ := h p hp
  exact ⟨x, y, z, hx.belowSize hb⟩
theorem pload (b o : Nat) (q : Option Nat) (w : World) (h : w.cell? ⟨b, o, none⟩ = some (ptr q)) (hq : IsN w q) :
    Calls Tryd.prog 17 #[.pointer (some ⟨b, o, none⟩)] w fun e w' => e = .returned (ptr q) ∧ w = w' := by
  cases q with
  | none =>
    have h : w.cell? ⟨b, o, none⟩ = some (.pointer none) := h
    have ha := run_call_loadp (P := Tryd.prog) Tryd.func27 (by kernel_rfl) (by kernel_rfl) (by kernel_rfl) (by kernel_rfl) h
    have hv := run_convert_nil_from (P := Tryd.prog) Tryd.underlying61 Tryd.underlying39
    go_enter Tryd.func17, Tryd.ntmps17
    go_wp2
    go_ret
    exact ⟨rfl, rfl⟩
  | some g =>
    obtain ⟨x, y, z, hb⟩ := hq g rfl
    have h : w.cell? ⟨b, o, none⟩ = some (.pointer (some ⟨g, 0, none⟩)) := h
    have ha := run_call_loadp (P := Tryd.prog) Tryd.func27 (by kernel_rfl) (by kernel_rfl) (by kernel_rfl) (by kernel_rfl) h
    obtain ⟨i, hi⟩ := infoN
    have hv := run_convert_from (P := Tryd.prog) Tryd.underlying61 Tryd.underlying39 hi hb (by kernel_rfl)
    clear hi hq
    go_enter Tryd.func17, Tryd.ntmps17
    go_wp2
    go_ret
    exact ⟨rfl, rfl⟩
theorem pstore (b o : Nat) (q : Option Nat) (u : Value) (w : World) (h : w.cell? ⟨b, o, none⟩ = some u) (z : w.frozen? ⟨b, o, none⟩ = false) (hq : IsN w q) :
    Calls Tryd.prog 25 #[.pointer (some ⟨b, o, none⟩), ptr q] w fun e w' => e = .returned (.tuple #[]) ∧ w.setCell ⟨b, o, none⟩ (ptr q) = w' := by
  cases q with
  | none =>
    have ha := run_call_storep (P := Tryd.prog) (q := none) Tryd.func39 (by kernel_rfl) (by kernel_rfl) (by kernel_rfl) (by kernel_rfl) h z
    have hv := run_convert_nil_to (P := Tryd.prog) Tryd.underlying39 Tryd.underlying61 w
    simp only [ptr]
    go_enter Tryd.func25, Tryd.ntmps25
    go_wp2
    go_end0
    exact ⟨rfl, rfl⟩
  | some g =>
    obtain ⟨x, y, zz, hb⟩ := hq g rfl
    have ha := run_call_storep (P := Tryd.prog) (q := some ⟨g, 0, none⟩) Tryd.func39 (by kernel_rfl) (by kernel_rfl) (by kernel_rfl) (by kernel_rfl) h z
    have hv := run_convert_to_unsafe (P := Tryd.prog) Tryd.underlying39 Tryd.underlying61 (by kernel_rfl) (hb.cell 0 _ rfl)
    clear hq
    simp only [ptr]
    go_enter Tryd.func25, Tryd.ntmps25
    go_wp2
    go_end0
    exact ⟨rfl, rfl⟩
end Go.Proofs.YtnpjppnahfehnaaDoor.Skip
