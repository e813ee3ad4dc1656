/- The walks of layer 5's own functions on shards and sizes: what each call does to memory. -/
import Derived.Test.YtipgbkbkpheioaaProg
import Derived.WalkKit
import Derived.KernelRfl
namespace Go.Proofs.Ytipgbkbkpheioaa.Tally
set_option linter.unusedVariables false
set_option linter.unusedSimpArgs false
open Go.RowKit

theorem i64Add (b o : Nat) (v d : Int) (w : World) (h : w.cell? ⟨b, o, none⟩ = some (.int .i64 v)) (z : w.frozen? ⟨b, o, none⟩ = false) :
    Calls Try.prog 22 #[.pointer (some ⟨b, o, none⟩), .int .i64 d] w fun e w' => e = .returned (.int .i64 (wrap64 (v + d))) ∧ w.setCell ⟨b, o, none⟩ (.int .i64 (wrap64 (v + d))) = w' := by
  have hs : (Op.intArith .add .i64 v d).run Try.prog w = .ok (.int .i64 (wrap64 (v + d))) w := by simp [Op.intArith, IntKind.wrap_i64, wrap64]
  have ha := run_call_add (P := Try.prog) Try.func29 (by kernel_rfl) (by kernel_rfl) (by kernel_rfl) .i64 (by kernel_rfl) h z hs
  clear hs
  go_enter Try.func22, Try.ntmps22
  go_wp2
  go_ret
  exact ⟨rfl, rfl⟩

theorem i64Load (b o : Nat) (v : Int) (w : World) (h : w.cell? ⟨b, o, none⟩ = some (.int .i64 v)) :
    Calls Try.prog 24 #[.pointer (some ⟨b, o, none⟩)] w fun e w' => e = .returned (.int .i64 v) ∧ w = w' := by
  have ha := run_call_load (P := Try.prog) Try.func30 (by kernel_rfl) (by kernel_rfl) (by kernel_rfl) .i64 (by kernel_rfl) h
  go_enter Try.func24, Try.ntmps24
  go_wp2
  go_ret
  exact ⟨rfl, rfl⟩
end Go.Proofs.Ytipgbkbkpheioaa.Tally
