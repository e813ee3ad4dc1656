/-
  No cell of these rows narrows 'for every input' (looked for: loops, veiled, ifaces, maps, wideKeys, modest, calm, conditions, laid).
  DERIVED. THE GIVEN ROWS OF THIS SEAT. 3 by the template 'for every input the law returns true; each argument reads behind the call as it read before'; 0 by the template 'total and deterministic' (their statements: YtipgbkbkpheioaaTotals.lean).
  GIVEN WITH THE SEED: the statements are not yours to turn. If you find one false, say at which input.
  Laid BY PROGRAM, IN A SANDBOX (cutbox-rows.mjs): the forced cells as the released guide's own fill.sh prints them over the translation 33f8e7477454b301… (all of the seat's roots in one cut). By AI agents, Wed Nov 11 2026. No macro, syntax, notation, axiom, sorry.
-/
import Derived.Test.YtipgbkbkpheioaaChecked
import GoSem.Claim
import GoSem.ClaimJoined
import GoSem.ClaimMapViews
import Derived.JoinedTies
import Derived.KernelRfl
namespace Go.Proofs.Ytipgbkbkpheioaa
/- THE CELL 'sum', in the pinned program and in every row, IS THE sha256 OF THE DUMP (.gsa) THAT YtipgbkbkpheioaaProg.lean LOADS. Nothing in Lean hashes anything: it is a label: what it is worth is what the hold of that sum in a sandbox is worth. -/
noncomputable def Try.pinned : Pinned := { name := "ytipgbkbkpheioaa", sum := "33f8e7477454b301bfc9d7eac8b0fa2f9f84b0c1416a1251988316f96c4abfac", checked := Try.checked }
namespace Rows
def none {H : Type} : Left H := { results := [], args := [] }

/-- 'vellumlaw05.TallyAdds': WHATEVER THE INPUT: true; the input reads as it did. -/
def tallyAddsSpec : ChangeSpec := { name := "tallyAdds", fn := fun _ => fun
  | [d1, d2] => { results := [.lit (.bool true)], args := [d1, d2] }
  | _ => none }
def tallyAddsRow : OpenClaim := { program := "ytipgbkbkpheioaa", sum := "33f8e7477454b301bfc9d7eac8b0fa2f9f84b0c1416a1251988316f96c4abfac", func := "vellum/vellumlaw05.TallyAdds", spec := "tallyAdds", inPlace := ["sync/atomic.AddInt64", "sync/atomic.LoadInt64"], apart := false }
def TallyAddsSaid : Prop := tallyAddsRow.holds Try.pinned (OpenSpec.ofChange tallyAddsSpec)

/-- ITS FALSE NEIGHBOUR: 'it returns false'. Refute it at one input. -/
def tallyAddsWrong : ChangeSpec := { name := "tallyAdds", fn := fun _ => fun
  | [d1, d2] => { results := [.lit (.bool false)], args := [d1, d2] }
  | _ => none }
def TallyAddsWrongFalsely : Prop := tallyAddsRow.holds Try.pinned (OpenSpec.ofChange tallyAddsWrong)

/-- 'vellumlaw05.TallyApart': WHATEVER THE INPUT: true; the input reads as it did. -/
def tallyApartSpec : ChangeSpec := { name := "tallyApart", fn := fun _ => fun
  | [d1, d2, d3] => { results := [.lit (.bool true)], args := [d1, d2, d3] }
  | _ => none }
def tallyApartRow : OpenClaim := { program := "ytipgbkbkpheioaa", sum := "33f8e7477454b301bfc9d7eac8b0fa2f9f84b0c1416a1251988316f96c4abfac", func := "vellum/vellumlaw05.TallyApart", spec := "tallyApart", inPlace := ["sync/atomic.AddInt64", "sync/atomic.LoadInt64", "sync/atomic.AddUint64", "sync/atomic.LoadUint64"], apart := false }
def TallyApartSaid : Prop := tallyApartRow.holds Try.pinned (OpenSpec.ofChange tallyApartSpec)

/-- ITS FALSE NEIGHBOUR: 'it returns false'. Refute it at one input. -/
def tallyApartWrong : ChangeSpec := { name := "tallyApart", fn := fun _ => fun
  | [d1, d2, d3] => { results := [.lit (.bool false)], args := [d1, d2, d3] }
  | _ => none }
def TallyApartWrongFalsely : Prop := tallyApartRow.holds Try.pinned (OpenSpec.ofChange tallyApartWrong)

/-- 'vellumlaw05.TallySizes': WHATEVER THE INPUT: true; the input reads as it did. -/
def tallySizesSpec : ChangeSpec := { name := "tallySizes", fn := fun _ => fun
  | [d1, d2] => { results := [.lit (.bool true)], args := [d1, d2] }
  | _ => none }
def tallySizesRow : OpenClaim := { program := "ytipgbkbkpheioaa", sum := "33f8e7477454b301bfc9d7eac8b0fa2f9f84b0c1416a1251988316f96c4abfac", func := "vellum/vellumlaw05.TallySizes", spec := "tallySizes", inPlace := ["sync/atomic.AddUint64", "sync/atomic.LoadUint64", "sync/atomic.AddInt64", "sync/atomic.LoadInt64"], apart := false }
def TallySizesSaid : Prop := tallySizesRow.holds Try.pinned (OpenSpec.ofChange tallySizesSpec)

/-- ITS FALSE NEIGHBOUR: 'it returns false'. Refute it at one input. -/
def tallySizesWrong : ChangeSpec := { name := "tallySizes", fn := fun _ => fun
  | [d1, d2] => { results := [.lit (.bool false)], args := [d1, d2] }
  | _ => none }
def TallySizesWrongFalsely : Prop := tallySizesRow.holds Try.pinned (OpenSpec.ofChange tallySizesWrong)

/- THE SECOND FORM. 'bulk': how many values and letters a reading holds, each counted each time it is reached (what is shared counts as often as it is met; a slice's spare places count too). A statement '..UptoSaid' is the law's where the arguments, and the package variables that the reading takes, are together of bulk at most 1048576: NARROWER than '..Said'. Prove '..Said' where nothing that the law and all that it calls make is longer than what came in: it says more and counts as full. Else prove '..UptoSaid'. A law counts once. -/
mutual
def uptoBulk {H : Type} : DataW H → Nat
  | .lit (.string bytes) => bytes.length + 1
  | .lit _ => 1
  | .nil => 1
  | .ptr d => uptoBulk d + 1
  | .slice elems spare => uptoBulkAll elems + uptoBulkAll spare + 1
  | .agg parts => uptoBulkAll parts + 1
  | .iface _ d => uptoBulk d + 1
  | .map entries => uptoBulkEntries entries + 1
  | .held _ => 1
def uptoBulkAll {H : Type} : List (DataW H) → Nat
  | [] => 0
  | d :: r => uptoBulk d + uptoBulkAll r
def uptoBulkEntries {H : Type} : List (Lit × DataW H) → Nat
  | [] => 0
  | x :: r => uptoBulkEntry x + uptoBulkEntries r
def uptoBulkEntry {H : Type} : Lit × DataW H → Nat
  | (.string bytes, d) => bytes.length + uptoBulk d + 1
  | (_, d) => uptoBulk d + 1
 end
def uptoSmall : (H : Type) → List (DataW H) → Bool := fun _ ds => decide (uptoBulkAll ds ≤ 1048576)
def OpenSpec.upto (s : _root_.Go.ChangeSpec) : _root_.Go.OpenSpec := { _root_.Go.OpenSpec.ofChange s with cond := some uptoSmall }

/-- 'vellumlaw05.TallyAdds', WHERE WHAT IT READS IS OF BULK AT MOST 1048576: true; the input reads as it did. -/
def tallyAddsUptoRow : OpenClaim := { program := "ytipgbkbkpheioaa", sum := "33f8e7477454b301bfc9d7eac8b0fa2f9f84b0c1416a1251988316f96c4abfac", func := "vellum/vellumlaw05.TallyAdds", spec := "tallyAdds", inPlace := ["sync/atomic.AddInt64", "sync/atomic.LoadInt64"], apart := false, narrowed := true }
def TallyAddsUptoSaid : Prop := tallyAddsUptoRow.holds Try.pinned (OpenSpec.upto tallyAddsSpec)

/-- 'vellumlaw05.TallyApart', WHERE WHAT IT READS IS OF BULK AT MOST 1048576: true; the input reads as it did. -/
def tallyApartUptoRow : OpenClaim := { program := "ytipgbkbkpheioaa", sum := "33f8e7477454b301bfc9d7eac8b0fa2f9f84b0c1416a1251988316f96c4abfac", func := "vellum/vellumlaw05.TallyApart", spec := "tallyApart", inPlace := ["sync/atomic.AddInt64", "sync/atomic.LoadInt64", "sync/atomic.AddUint64", "sync/atomic.LoadUint64"], apart := false, narrowed := true }
def TallyApartUptoSaid : Prop := tallyApartUptoRow.holds Try.pinned (OpenSpec.upto tallyApartSpec)

/-- 'vellumlaw05.TallySizes', WHERE WHAT IT READS IS OF BULK AT MOST 1048576: true; the input reads as it did. -/
def tallySizesUptoRow : OpenClaim := { program := "ytipgbkbkpheioaa", sum := "33f8e7477454b301bfc9d7eac8b0fa2f9f84b0c1416a1251988316f96c4abfac", func := "vellum/vellumlaw05.TallySizes", spec := "tallySizes", inPlace := ["sync/atomic.AddUint64", "sync/atomic.LoadUint64", "sync/atomic.AddInt64", "sync/atomic.LoadInt64"], apart := false, narrowed := true }
def TallySizesUptoSaid : Prop := tallySizesUptoRow.holds Try.pinned (OpenSpec.upto tallySizesSpec)

end Rows
end Go.Proofs.Ytipgbkbkpheioaa
