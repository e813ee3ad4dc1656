/- sync/atomic on pointers, in the run of one goroutine: Load, Store, CompareAndSwap where it hits; unsafe.Pointer there and back. -/
import Derived.Test.YtbamamkjmfkghaaKit
import Derived.LaidEqlPtr
namespace Go.Proofs.Ytbamamkjmfkghaa.Kit
set_option linter.unusedVariables false
set_option linter.unusedSimpArgs false
open Go.RowKit Go.Proofs.YtbamamkjmfkghaaW.PrintWords

section
variable {P : Program} {f : FuncId} {fn : Func}
theorem run_call_loadp (hf : P.funcs[f]? = some fn) (hname : (fn.name == "runtime.NumGoroutine") = false) (hb : fn.body.isNone = true) (hn : Extern.findNext fn = none)
    (he : Extern.find fn = some (Extern.Atomic.loadT .ptr)) {a : Addr} {q : Option Addr} {w : World} (hc : w.cell? a = some (.pointer q)) :
    (callFunc f #[.pointer (some a)]).run P w = .ok (.value (.pointer q)) w := by
  rw [run_callFunc_extern hf hname hb hn he]
  change (Sem.run P (do Extern.Atomic.read .ptr (← asAddr (.pointer (some a)))) w).andThen _ = _
  simp [Extern.Atomic.read, asAddr, hc, Result.andThen]
theorem run_call_storep (hf : P.funcs[f]? = some fn) (hname : (fn.name == "runtime.NumGoroutine") = false) (hb : fn.body.isNone = true) (hn : Extern.findNext fn = none)
    (he : Extern.find fn = some Extern.Atomic.storeT) {a : Addr} {q : Option Addr} {u : Value} {w : World} (hc : w.cell? a = some u) (hz : w.frozen? a = false) :
    (callFunc f #[.pointer (some a), .pointer q]).run P w = .ok (.value (.tuple #[])) (w.setCell a (.pointer q)) := by
  rw [run_callFunc_extern hf hname hb hn he]
  change (Sem.run P (do
    store (← asAddr (.pointer (some a))) (.pointer q) .atomic
    pure Extern.Atomic.none_) w).andThen _ = _
  simp [asAddr, hc, hz, run_store P w a (.pointer q) .atomic rfl, Result.andThen, Extern.Atomic.none_]
theorem run_same_self (q : Option Addr) (w : World) : (samePointer q q).run P w = .ok true w := by
  cases q with
  | none => simp [samePointer]
  | some a => simp [samePointer, run_sameAddr_same]
theorem run_call_casp_hit (hf : P.funcs[f]? = some fn) (hname : (fn.name == "runtime.NumGoroutine") = false) (hb : fn.body.isNone = true) (hn : Extern.findNext fn = none)
    (he : Extern.find fn = some (Extern.Atomic.casT .ptr)) {a : Addr} {q r : Option Addr} {w : World} (hc : w.cell? a = some (.pointer q)) (hz : w.frozen? a = false) :
    (callFunc f #[.pointer (some a), .pointer q, .pointer r]).run P w = .ok (.value (.bool true)) (w.setCell a (.pointer r)) := by
  rw [run_callFunc_extern hf hname hb hn he]
  change (Sem.run P (do
    let a' ← asAddr (.pointer (some a))
    if ← Extern.Atomic.touchesFrozen a' then unsupported (.unsafePointer "a write to bytes that a string shares")
    let eq ← match Extern.Atomic.T.ptr, ← Extern.Atomic.read .ptr a', Value.pointer q with
      | _, .int _ x, .int _ y => pure (x == y)
      | .ptr, .pointer x, .pointer y => samePointer x y
      | .int _, .pointer (some _), .int _ 0 | .int _, .int _ 0, .pointer (some _) => pure false
      | .int _, .pointer (some _), _ | .int _, _, .pointer (some _) => unsupported .addressObserved
      | _, _, _ => stuck "atomic.CompareAndSwap: old is no T"
    if eq then store a' (.pointer r) .atomic
    pure (Value.bool eq)) w).andThen _ = _
  simp [Extern.Atomic.touchesFrozen, Extern.Atomic.read, asAddr, viewAt, World.shape?_isSome_of_cell? hc, hc, hz, run_same_self, run_store P w a (.pointer r) .atomic rfl, Result.andThen]
end

section
variable {P : Program}
theorem run_convert_nil_to {src dst t : TypeId} (hs : P.underlying src = some (.pointer t)) (hd : P.underlying dst = some .unsafePointer) (w : World) : (convert src dst (.pointer none)).run P w = .ok (.pointer none) w := by
  simp [convert, Conv.unsafePointer, run_underlying hs, run_underlying hd]
theorem run_convert_nil_from {src dst t : TypeId} (hs : P.underlying src = some .unsafePointer) (hd : P.underlying dst = some (.pointer t)) (w : World) : (convert src dst (.pointer none)).run P w = .ok (.pointer none) w := by
  simp [convert, Conv.unsafePointer, run_underlying hs, run_underlying hd]
theorem run_convert_from {src dst t : TypeId} {i : TypeInfo} (hs : P.underlying src = some .unsafePointer) (hd : P.underlying dst = some (.pointer t)) (hi : P.info? t = some i) {w : World} {b : Nat} {cs : List Value} (h : Blk w b cs t)
    (hl : liesAt P P.depth t (cs.length / P.cellsOf t) 0 t 1 = true) : (convert src dst (.pointer (some ⟨b, 0, none⟩))).run P w = .ok (.pointer (some ⟨b, 0, none⟩)) w := by
  have hb := h.out
  have hsh : w.shape? b = some (t, cs.length) := by simp [World.shape?, hb]
  have hv : (variablesAt ⟨b, 0, none⟩ t 1).run P w = .ok true w := by
    simp [variablesAt, hsh, hl]
  simp [convert, Conv.unsafePointer, Conv.seenAt, viewAt, run_underlying hs, run_underlying hd, sizeOf, typeInfo, hi, hsh, hv, Result.andThen]
end
end Go.Proofs.Ytbamamkjmfkghaa.Kit
