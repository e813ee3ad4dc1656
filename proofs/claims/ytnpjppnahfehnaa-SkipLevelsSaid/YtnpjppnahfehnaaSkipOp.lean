/- What layer 12's laws are given: calls, looks. -/
import Derived.Test.YtnpjppnahfehnaaSkipNobodyW
namespace Go.Proofs.Ytnpjppnahfehnaa.Skip
set_option linter.unusedVariables false
set_option linter.unusedSimpArgs false
open Go.RowKit Go.Proofs.YtnpjppnahfehnaaW.PrintWords Go.Proofs.Ytnpjppnahfehnaa.Kit Go.MuLone

structure SOp where
  kind : Int
  key : ByteArray
  value : Int
structure Op where
  op : SOp
  height : Int
structure Rg where
  lo : ByteArray
  hi : ByteArray
  opn : Bool
structure Look where
  key : ByteArray
  r : Rg
  back : Bool
  most : Int
abbrev TSOp : TypeId := 46
def kSOp : Kd SOp := Kd.iso (Kd.pair (Kd.int .i64) (Kd.pair Kd.string (Kd.int .i64))) (fun x => (x.kind, x.key, x.value))
def kOp : Kd Op := Kd.iso (Kd.pair kSOp (Kd.int .i64)) (fun x => (x.op, x.height))
def kRg : Kd Rg := Kd.iso (Kd.pair Kd.string (Kd.pair Kd.string Kd.bool)) (fun x => (x.lo, x.hi, x.opn))
def kLook : Kd Look := Kd.iso (Kd.pair Kd.string (Kd.pair kRg (Kd.pair Kd.bool (Kd.int .i64)))) (fun x => (x.key, x.r, x.back, x.most))
theorem kOp_cells {w : World} {x : Op} {cs : List Value} (h : kOp.K w x cs) : cs = [.int .i64 x.op.kind, .string x.op.key, .int .i64 x.op.value, .int .i64 x.height] := by
  obtain ⟨c0, c1, rfl, ⟨d0, d1, rfl, h0, d2, d3, rfl, h1, h2⟩, h3⟩ := h
  rw [show d0 = [.int .i64 x.op.kind] from h0, show d2 = [.string x.op.key] from h1, show d3 = [.int .i64 x.op.value] from h2, show c1 = [.int .i64 x.height] from h3]
  rfl
theorem kLook_cells {w : World} {x : Look} {cs : List Value} (h : kLook.K w x cs) : cs = [.string x.key, .string x.r.lo, .string x.r.hi, .bool x.r.opn, .bool x.back, .int .i64 x.most] := by
  obtain ⟨c0, c1, rfl, h0, c2, c3, rfl, ⟨d0, d1, rfl, h1, d2, d3, rfl, h2, h3⟩, c4, c5, rfl, h4, h5⟩ := h
  rw [show c0 = [.string x.key] from h0, show d0 = [.string x.r.lo] from h1, show d2 = [.string x.r.hi] from h2, show d3 = [.bool x.r.opn] from h3, show c4 = [.bool x.back] from h4, show c5 = [.int .i64 x.most] from h5]
  rfl
def okOp (x : Op) : Prop := ((Lit.int .i64 x.op.kind).wf = true ∧ x.op.key.size ≤ 140737488351232 ∧ (Lit.int .i64 x.op.value).wf = true) ∧ (Lit.int .i64 x.height).wf = true
def okLook (x : Look) : Prop := x.key.size ≤ 140737488351232 ∧ (x.r.lo.size ≤ 140737488351232 ∧ x.r.hi.size ≤ 140737488351232 ∧ True) ∧ True ∧ (Lit.int .i64 x.most).wf = true
theorem kOp_opens : Opens Try.prog TOp kOp okOp :=
  opens_struct (fun x : Op => (x.op, x.height)) (fun a => ⟨a.1, a.2⟩) (fun _ => rfl) Try.underlying48 4 (by kernel_rfl) _ rfl
    (opensFs_cons rfl (opens_struct (fun x : SOp => (x.kind, x.key, x.value)) (fun a => ⟨a.1, a.2.1, a.2.2⟩) (fun _ => rfl) Try.underlying46 3 (by kernel_rfl) _ rfl
      (opensFs_cons rfl (opens_int .i64 Try.underlying3) (opensFs_cons (by kernel_rfl) (opens_string Try.underlying9) (opensFs_one (by kernel_rfl) (by kernel_rfl) (opens_int .i64 Try.underlying2)))))
      (opensFs_one (by kernel_rfl) (by kernel_rfl) (opens_int .i64 Try.underlying3)))
theorem kLook_opens : Opens Try.prog TLook kLook okLook :=
  opens_struct (fun x : Look => (x.key, x.r, x.back, x.most)) (fun a => ⟨a.1, a.2.1, a.2.2.1, a.2.2.2⟩) (fun _ => rfl) Try.underlying26 6 (by kernel_rfl) _ rfl
    (opensFs_cons rfl (opens_string Try.underlying9) (opensFs_cons (by kernel_rfl) (opens_struct (fun x : Rg => (x.lo, x.hi, x.opn)) (fun a => ⟨a.1, a.2.1, a.2.2⟩) (fun _ => rfl) Try.underlying24 3 (by kernel_rfl) _ rfl
      (opensFs_cons rfl (opens_string Try.underlying9) (opensFs_cons (by kernel_rfl) (opens_string Try.underlying9) (opensFs_one (by kernel_rfl) (by kernel_rfl) (opens_bool Try.underlying4)))))
      (opensFs_cons (by kernel_rfl) (opens_bool Try.underlying4) (opensFs_one (by kernel_rfl) (by kernel_rfl) (opens_int .i64 Try.underlying3)))))
theorem kOps_opens : Opens Try.prog 22 (Kd.slice TOp kOp) (fun xs => xs.length * 40 ≤ 140737488351232 ∧ ∀ x ∈ xs, okOp x) :=
  opens_slice Try.underlying22 (by kernel_rfl) 40 (by kernel_rfl) kOp_opens
theorem kOp_at {w : World} {A : Option Addr} {n : Nat} {xs : List Op} (h : kOp.C w A n xs) (i : Nat) (hi : i < n) : ∃ b o x, A = some ⟨b, o, none⟩ ∧ xs[i]? = some x ∧ w.cell? ⟨b, o + i * 4, none⟩ = some (.int .i64 x.op.kind) ∧ w.cell? ⟨b, o + i * 4 + 1, none⟩ = some (.string x.op.key) ∧ w.cell? ⟨b, o + i * 4 + 2, none⟩ = some (.int .i64 x.op.value) ∧ w.cell? ⟨b, o + i * 4 + 3, none⟩ = some (.int .i64 x.height) := by
  obtain ⟨b, o, x, cs, rfl, hx, hK, hc⟩ := C_at (s := 4) rfl (by omega) h i hi
  have := kOp_cells hK
  subst this
  exact ⟨b, o, x, rfl, hx, hc 0 _ rfl, hc 1 _ rfl, hc 2 _ rfl, hc 3 _ rfl⟩
end Go.Proofs.Ytnpjppnahfehnaa.Skip
