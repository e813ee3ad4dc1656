/- A crowd pushes: sync/atomic on pointers, each as one step of a goroutine in company, with what the trace keeps of it.
No condition. -/
import Derived.Test.YtbamamkjmfkghaaProg
import Derived.Test.YtbamamkjmfkghaaVe
import Derived.Test.YtbamamkjmfkghaaPtr
import Derived.Conc.AtomicLaws2
import Derived.WalkKit
import Derived.KernelRfl
import Derived.Test.YtbamamkjmfkghaaVc
set_option linter.unusedSimpArgs false
set_option linter.unusedVariables false
namespace Go.Proofs.Ytbamamkjmfkghaa.Crw
open Go Go.Conc Go.RowKit Go.Conc.Lib Go.ConcR.Gen Go.Proofs.Ytbamamkjmfkghaa.Kit Go.Proofs.YtbamamkjmfkghaaW.PrintWords
open Go.ConcN (upd upd_same upd_ne)
open Go.ConcR (stA smA KK WgAt wgBlock rd wr)
set_option linter.unusedVariables false
set_option maxRecDepth 100000
set_option maxHeartbeats 4000000

section
variable {P : Program} {main : Bool} {b : Frame} {a : Act} {kk : List Item} {cs : List Frame} {w : World}
variable {f : FuncId} {fn : Func} {ops : Array Oper} {i : Nat} {rest : List Nat} {o : Oper} {ats : Array TypeId} {ad : Addr}

theorem run_loadp_entry {q : Option Addr} (hc : w.cell? ad = some (.pointer q)) : (Extern.Atomic.loadT .ptr #[.pointer (some ad)]).run P w = .ok (.pointer q) w := by
  change (Sem.run P (do Extern.Atomic.read .ptr (← asAddr (.pointer (some ad)))) w) = _
  simp [Extern.Atomic.read, asAddr, hc, Result.andThen]
theorem events_loadp_entry {q : Option Addr} (hc : w.cell? ad = some (.pointer q)) (es : Array Event) : (Extern.Atomic.loadT .ptr #[.pointer (some ad)]).events P w es = es.push ⟨.cell ad, false, true⟩ := by
  change Sem.events P (do Extern.Atomic.read .ptr (← asAddr (.pointer (some ad)))) w _ = _
  simp [Extern.Atomic.read, asAddr, hc, events_load]
theorem stepG_loadp_atomic {x : Operand} (ho : ops[i]? = some o) (hw : Region.wanted o (yielded ops a.tmps) = true) (hk : b.kind ≠ .early) (hop : o.op = .call { callee := .value (.func f), args := #[x], argTypes := ats })
    (hf : P.funcs[f]? = some fn) (hname : (fn.name == "runtime.NumGoroutine") = false) (hb : fn.body.isNone = true) (hn : Extern.findNext fn = none)
    (he : Extern.find fn = some (Extern.Atomic.loadT .ptr)) {v : Option Addr} (hx : a.eval x = .pointer (some ad)) (hc : w.cell? ad = some (.pointer v)) :
    stepG P main (G (b.at a (.inRegion ops (i :: rest) :: kk)) cs) w = .go (G (b.at (a.put o.dst (.pointer v)) (.inRegion ops rest :: kk)) cs) w #[⟨.cell ad, false, true⟩] := by
  have hm : (#[x] : Array Operand).map a.eval = #[.pointer (some ad)] := by simp [hx]
  exact stepG_entry ho hw hk hop hf hname hb hn he (by rw [hm]; exact run_loadp_entry hc) (by rw [hm, events_loadp_entry hc]; rfl) (sync_r ad)

/-- casT's body, spelled out. -/
def caspBody (ad : Addr) (old n : Option Addr) : Sem Value := do
  let a' ← asAddr (.pointer (some ad))
  if ← Extern.Atomic.touchesFrozen a' then unsupported (.unsafePointer "a write to bytes that a string shares")
  let eq ← match Extern.Atomic.T.ptr, ← Extern.Atomic.read .ptr a', Value.pointer old with
    | _, .int _ x, .int _ y => pure (x == y)
    | .ptr, .pointer x, .pointer y => samePointer x y
    | .int _, .pointer (some _), .int _ 0 | .int _, .int _ 0, .pointer (some _) => pure false
    | .int _, .pointer (some _), _ | .int _, _, .pointer (some _) => unsupported .addressObserved
    | _, _, _ => stuck "atomic.CompareAndSwap: old is no T"
  if eq then store a' (.pointer n) .atomic
  pure (Value.bool eq)
theorem caspT_eq (old n : Option Addr) : Extern.Atomic.casT .ptr #[.pointer (some ad), .pointer old, .pointer n] = caspBody ad old n := rfl

/-- Pointers that are compared without a word: equal ones, or two whole blocks of cells, or nil. -/
def Told (P : Program) (w : World) (x y : Option Addr) (r : Bool) : Prop := (samePointer x y).run P w = .ok r w ∧ ∀ es, (samePointer x y).events P w es = es
theorem told_self (q : Option Addr) : Told P w q q true := by
  refine ⟨run_same_self q w, fun es => ?_⟩
  cases q with
  | none => simp [samePointer]
  | some a => simp [samePointer, sameAddr]
abbrev TN : TypeId := 73
/-- A node's pointer, or nil. -/
def NodeP (w : World) (q : Option Addr) : Prop := q = none ∨ ∃ g x y z, q = some ⟨g, 0, none⟩ ∧ w.heap[g]? = some (.cells #[x, y, z] TN (0, 0))
theorem told_other {x y : Option Addr} (hne : x ≠ y) (hx : NodeP w x) (hy : NodeP w y) : Told P w x y false := by
  rcases hx with rfl | ⟨g, a1, a2, a3, rfl, hg⟩ <;> rcases hy with rfl | ⟨g', b1, b2, b3, rfl, hg'⟩
  · exact absurd rfl hne
  · exact ⟨by simp [samePointer], fun es => by simp [samePointer]⟩
  · exact ⟨by simp [samePointer], fun es => by simp [samePointer]⟩
  · have hb : g ≠ g' := fun e => hne (by rw [e])
    have hne' : (⟨g, 0, none⟩ : Addr) ≠ ⟨g', 0, none⟩ := fun e => hb (by simpa using congrArg Addr.block e)
    refine ⟨run_sameAddr_other w hne' hg hg', fun es => ?_⟩
    simp [samePointer, sameAddr, hb, World.frozen?, hg, hg', noView, viewAt, World.shape?, mayBeOne, stringish, Result.evThen]

theorem run_casp_entry {v old n : Option Addr} {r : Bool} (hc : w.cell? ad = some (.pointer v)) (hz : w.frozen? ad = false) (ht : Told P w v old r) : (caspBody ad old n).run P w = .ok (.bool r) (if r then w.setCell ad (.pointer n) else w) := by
  cases r <;> simp [caspBody, Extern.Atomic.touchesFrozen, Extern.Atomic.read, asAddr, viewAt, World.shape?_isSome_of_cell? hc, hc, hz, ht.1, run_store P w ad (.pointer n) .atomic rfl, Result.andThen]
theorem events_casp_entry {v old n : Option Addr} {r : Bool} (hc : w.cell? ad = some (.pointer v)) (hz : w.frozen? ad = false) (ht : Told P w v old r) (es : Array Event) :
    (caspBody ad old n).events P w es = if r then (es.push ⟨.cell ad, false, true⟩).push ⟨.cell ad, true, true⟩ else es.push ⟨.cell ad, false, true⟩ := by
  cases r <;> simp [caspBody, Extern.Atomic.touchesFrozen, Extern.Atomic.read, asAddr, viewAt, World.shape?_isSome_of_cell? hc, hc, hz, ht.1, ht.2, events_load, events_store P w _ ad (.pointer n) .atomic rfl, Result.evThen]

theorem stepG_casp {x y z : Operand} (ho : ops[i]? = some o) (hw : Region.wanted o (yielded ops a.tmps) = true) (hk : b.kind ≠ .early) (hop : o.op = .call { callee := .value (.func f), args := #[x, y, z], argTypes := ats })
    (hf : P.funcs[f]? = some fn) (hname : (fn.name == "runtime.NumGoroutine") = false) (hb : fn.body.isNone = true) (hn : Extern.findNext fn = none)
    (he : Extern.find fn = some (Extern.Atomic.casT .ptr)) {v old n : Option Addr} {r : Bool} (hx : a.eval x = .pointer (some ad)) (hy : a.eval y = .pointer old) (hzz : a.eval z = .pointer n) (hc : w.cell? ad = some (.pointer v)) (hz : w.frozen? ad = false) (ht : Told P w v old r) :
    stepG P main (G (b.at a (.inRegion ops (i :: rest) :: kk)) cs) w =
      .go (G (b.at (a.put o.dst (.bool r)) (.inRegion ops rest :: kk)) cs) (if r then w.setCell ad (.pointer n) else w) (if r then #[⟨.cell ad, false, true⟩, ⟨.cell ad, true, true⟩] else #[⟨.cell ad, false, true⟩]) := by
  have hm : (#[x, y, z] : Array Operand).map a.eval = #[.pointer (some ad), .pointer old, .pointer n] := by simp [hx, hy, hzz]
  refine stepG_entry ho hw hk hop hf hname hb hn he (by rw [hm, caspT_eq]; exact run_casp_entry hc hz ht) (by rw [hm, caspT_eq, events_casp_entry hc hz ht]; cases r <;> rfl) ?_
  cases r
  · exact sync_r ad
  · exact sync_rw ad

theorem events_convert_from {src dst t : TypeId} {ti : TypeInfo} (hs : P.underlying src = some .unsafePointer) (hd : P.underlying dst = some (.pointer t)) (hi : P.info? t = some ti) {g : Nat} {x y z : Value} (h : w.heap[g]? = some (.cells #[x, y, z] t (0, 0)))
    (hl : liesAt P P.depth t (3 / P.cellsOf t) 0 t 1 = true) (es : Array Event) : (convert src dst (.pointer (some ⟨g, 0, none⟩))).events P w es = es := by
  have hsh : w.shape? g = some (t, 3) := by simp [World.shape?, h]
  have hv : (variablesAt ⟨g, 0, none⟩ t 1).run P w = .ok true w := by simp [variablesAt, hsh, hl]
  have hve : ∀ es, (variablesAt ⟨g, 0, none⟩ t 1).events P w es = es := fun es => by simp [variablesAt, hsh, Result.evThen]
  simp [convert, Conv.unsafePointer, Conv.seenAt, viewAt, run_underlying hs, run_underlying hd, events_underlying, sizeOf, typeInfo, hi, hsh, hv, hve, Result.andThen, Result.evThen]
theorem events_convert_nil {src dst : TypeId} (h : (∃ t, P.underlying src = some (.pointer t) ∧ P.underlying dst = some .unsafePointer) ∨ (∃ t, P.underlying src = some .unsafePointer ∧ P.underlying dst = some (.pointer t))) (es : Array Event) :
    (convert src dst (.pointer none)).events P w es = es := by
  rcases h with ⟨t, hs, hd⟩ | ⟨t, hs, hd⟩ <;> simp [convert, Conv.unsafePointer, run_underlying hs, run_underlying hd, events_underlying, Result.evThen]
end

/-- The words of conversion, for this program. -/
theorem conv_from {w : World} {q : Option Addr} (h : NodeP w q) : (convert 53 51 (.pointer q)).run Try.prog w = .ok (.pointer q) w ∧ ∀ es, (convert 53 51 (.pointer q)).events Try.prog w es = es := by
  obtain ⟨ti, hi⟩ : ∃ i, Try.prog.info? TN = some i := Option.isSome_iff_exists.1 (by kernel_rfl)
  rcases h with rfl | ⟨g, x, y, z, rfl, hg⟩
  · exact ⟨run_convert_nil_from (P := Try.prog) Try.underlying53 Try.underlying51 w, events_convert_nil (.inr ⟨_, Try.underlying53, Try.underlying51⟩)⟩
  · exact ⟨run_convert_from (P := Try.prog) Try.underlying53 Try.underlying51 hi (cs := [x, y, z]) ⟨hg⟩ (by kernel_rfl), events_convert_from Try.underlying53 Try.underlying51 hi hg (by kernel_rfl)⟩
theorem conv_to {w : World} {q : Option Addr} (h : NodeP w q) : (convert 51 53 (.pointer q)).run Try.prog w = .ok (.pointer q) w ∧ ∀ es, (convert 51 53 (.pointer q)).events Try.prog w es = es := by
  rcases h with rfl | ⟨g, x, y, z, rfl, hg⟩
  · exact ⟨run_convert_nil_to (P := Try.prog) Try.underlying51 Try.underlying53 w, events_convert_nil (.inl ⟨_, Try.underlying51, Try.underlying53⟩)⟩
  · have hc : w.cell? ⟨g, 0, none⟩ = some x := by simp [World.cell?, hg]
    exact ⟨run_convert_to_unsafe (P := Try.prog) Try.underlying51 Try.underlying53 (by kernel_rfl) hc, events_convert_to_unsafe (P := Try.prog) Try.underlying51 Try.underlying53 (by kernel_rfl) hc⟩

section
variable {B : Usr} {E : Env} {Post : Value → World → Prop} {Child : Sit (proto Try.prog B E Post)} {k : Nat} {s : St B} {w : World}

theorem pload_x (hB : B.Laws) {A : St B → World → Prop} {Q : Option Addr → St B → World → Prop} (hst : ∀ s w s₁ w₁, A s w → Rl k s w s₁ w₁ → A s₁ w₁) {b : Nat}
    (hrd : ∀ s w, A s w → Ok E s w → ∃ (q : Option Addr) (s' : St B), w.cell? ⟨b, 0, none⟩ = some (.pointer q) ∧ Mv E k s w s' w #[rd ⟨b, 0, none⟩] ∧ Soft s s' ∧ Q q s' w)
    (hq : ∀ v s w s₁ w₁, Q v s w → Rl k s w s₁ w₁ → Q v s₁ w₁) (hn : ∀ q s w, Q q s w → Ok E s w → NodeP w q) (h : A s w) :
    CallX Try.prog B E Post Child k 41 #[.pointer (some ⟨b, 0, none⟩)] s w (fun v s w => ∃ q, v = .pointer q ∧ Q q s w) := by
  refine ⟨Try.f41, _, Try.func41, by kernel_rfl, rfl, fun cal cs hret => ?_⟩
  walk_nrmf Try.f41
  repeat (first | ((with_reducible refine gd_op ?_); first | (refine rr_pure' hB rfl (by rfl) (by k_ne) (by rfl) (fun w₁ => by first | (simp [go_sem]; done) | simp [go_sem, *]) (fun w₁ K hK => ?_); go_simp; refine hK _ ?_; clear hK K w₁; try walk_nrm) | (refine rr_ctl hB rfl (fun _ => stepG_unwanted rfl rfl) ?_; try walk_nrm)) | ((with_reducible refine gd_rend ?_); (refine rr_regend hB hKr ?_; clear hKr Kr)) | ((with_reducible refine gd_seq ?_); refine rr_ctl hB rfl (fun _ => stepG_seq) ?_) | ((with_reducible refine gd_reg ?_); (refine rr_reg hB (fun Kr hKr => ?_); simp only [List.size_toArray, List.length_cons, List.length_nil, Nat.reduceAdd, Nat.zero_add, List.range, List.range.loop])) | ((with_reducible refine gd_skip ?_); refine rr_ctl hB rfl (fun _ => stepG_skip) ?_) | ((with_reducible refine gd_block ?_); refine rr_ctl hB rfl (fun _ => stepG_block) ?_) | ((with_reducible refine gd_inb ?_); refine rr_ctl hB rfl (fun _ => stepG_inBlock) ?_) | ((with_reducible refine gd_ret ?_); refine rr_ctl hB rfl (fun _ => stepG_ret') ?_) | ((with_reducible refine gd_exit ?_); refine rr_ctl hB rfl (fun _ => stepG_exit rfl) ?_) | ((with_reducible refine gd_end ?_); refine rr_ctl hB rfl (fun _ => stepG_end) ?_))
  refine rr_mk rfl fun s₁ w₁ hR hI _ _ => ?_
  obtain ⟨q, s', hc, hmv, hso, hQ⟩ := hrd s₁ w₁ (hst _ _ _ _ h hR) hI
  refine ⟨_, _, _, _, stepG_loadp_atomic rfl rfl (by k_ne) rfl Try.func48 (by kernel_rfl) (by kernel_rfl) (by kernel_rfl) (by kernel_rfl) rfl hc, hmv, hso, ?_⟩
  walk_nrm
  refine rr_conv hB (v := .pointer q) (F := Q q) hQ (fun h r => hq _ _ _ _ _ h r) rfl (by rfl) (by k_ne) (fun s₂ w₂ hF hI₂ => ?_) ?_
  · have := conv_from (hn _ _ _ hF hI₂)
    refine ⟨?_, ?_⟩
    · unfold execOp
      simp [go_sem, this.1, Result.andThen]
    · unfold execOp
      simp [go_sem, this.1, this.2, Result.evThen]
  walk_nrm
  repeat (first | ((with_reducible refine gd_op ?_); first | (refine rr_pure' hB rfl (by rfl) (by k_ne) (by rfl) (fun w₁ => by first | (simp [go_sem]; done) | simp [go_sem, *]) (fun w₁ K hK => ?_); go_simp; refine hK _ ?_; clear hK K w₁; try walk_nrm) | (refine rr_ctl hB rfl (fun _ => stepG_unwanted rfl rfl) ?_; try walk_nrm)) | ((with_reducible refine gd_rend ?_); (refine rr_regend hB hKr ?_; clear hKr Kr)) | ((with_reducible refine gd_seq ?_); refine rr_ctl hB rfl (fun _ => stepG_seq) ?_) | ((with_reducible refine gd_reg ?_); (refine rr_reg hB (fun Kr hKr => ?_); simp only [List.size_toArray, List.length_cons, List.length_nil, Nat.reduceAdd, Nat.zero_add, List.range, List.range.loop])) | ((with_reducible refine gd_skip ?_); refine rr_ctl hB rfl (fun _ => stepG_skip) ?_) | ((with_reducible refine gd_block ?_); refine rr_ctl hB rfl (fun _ => stepG_block) ?_) | ((with_reducible refine gd_inb ?_); refine rr_ctl hB rfl (fun _ => stepG_inBlock) ?_) | ((with_reducible refine gd_ret ?_); refine rr_ctl hB rfl (fun _ => stepG_ret') ?_) | ((with_reducible refine gd_exit ?_); refine rr_ctl hB rfl (fun _ => stepG_exit rfl) ?_) | ((with_reducible refine gd_end ?_); refine rr_ctl hB rfl (fun _ => stepG_end) ?_))
  (refine rr_leave hB rfl rfl Try.func41 (fun w => ⟨results_tmp rfl _ _ w, events_results_tmp rfl _ _⟩) ?_)
  walk_nrm
  exact hret _ _ _ ⟨_, rfl, hQ⟩

/-- CompareAndSwap: it hits where the cell holds the old pointer. -/
theorem pcas_x (hB : B.Laws) {A : St B → World → Prop} {Q : Bool → St B → World → Prop} {b : Nat} {q r : Option Addr} (hst : ∀ s w s₁ w₁, A s w → Rl k s w s₁ w₁ → A s₁ w₁)
    (hn : ∀ s w, A s w → Ok E s w → NodeP w q ∧ NodeP w r)
    (hcas : ∀ s w, A s w → Ok E s w → ∃ x : Option Addr, w.cell? ⟨b, 0, none⟩ = some (.pointer x) ∧ w.frozen? ⟨b, 0, none⟩ = false ∧ NodeP w x ∧
      ((x = q ∧ ∃ s', Mv E k s w s' (w.setCell ⟨b, 0, none⟩ (.pointer r)) #[rd ⟨b, 0, none⟩, wr ⟨b, 0, none⟩] ∧ Soft s s' ∧ Q true s' (w.setCell ⟨b, 0, none⟩ (.pointer r))) ∨
       (x ≠ q ∧ ∃ s', Mv E k s w s' w #[rd ⟨b, 0, none⟩] ∧ Soft s s' ∧ Q false s' w)))
    (hq : ∀ v s w s₁ w₁, Q v s w → Rl k s w s₁ w₁ → Q v s₁ w₁) (h : A s w) :
    CallX Try.prog B E Post Child k 35 #[.pointer (some ⟨b, 0, none⟩), .pointer q, .pointer r] s w (fun v s w => ∃ ok, v = .bool ok ∧ Q ok s w) := by
  refine ⟨Try.f35, _, Try.func35, by kernel_rfl, rfl, fun cal cs hret => ?_⟩
  walk_nrmf Try.f35
  repeat (first | ((with_reducible refine gd_op ?_); first | (refine rr_pure' hB rfl (by rfl) (by k_ne) (by rfl) (fun w₁ => by first | (simp [go_sem]; done) | simp [go_sem, *]) (fun w₁ K hK => ?_); go_simp; refine hK _ ?_; clear hK K w₁; try walk_nrm) | (refine rr_ctl hB rfl (fun _ => stepG_unwanted rfl rfl) ?_; try walk_nrm)) | ((with_reducible refine gd_rend ?_); (refine rr_regend hB hKr ?_; clear hKr Kr)) | ((with_reducible refine gd_seq ?_); refine rr_ctl hB rfl (fun _ => stepG_seq) ?_) | ((with_reducible refine gd_reg ?_); (refine rr_reg hB (fun Kr hKr => ?_); simp only [List.size_toArray, List.length_cons, List.length_nil, Nat.reduceAdd, Nat.zero_add, List.range, List.range.loop])) | ((with_reducible refine gd_skip ?_); refine rr_ctl hB rfl (fun _ => stepG_skip) ?_) | ((with_reducible refine gd_block ?_); refine rr_ctl hB rfl (fun _ => stepG_block) ?_) | ((with_reducible refine gd_inb ?_); refine rr_ctl hB rfl (fun _ => stepG_inBlock) ?_) | ((with_reducible refine gd_ret ?_); refine rr_ctl hB rfl (fun _ => stepG_ret') ?_) | ((with_reducible refine gd_exit ?_); refine rr_ctl hB rfl (fun _ => stepG_exit rfl) ?_) | ((with_reducible refine gd_end ?_); refine rr_ctl hB rfl (fun _ => stepG_end) ?_))
  refine rr_conv hB (v := .pointer q) (F := A) h (fun h r => hst _ _ _ _ h r) rfl (by rfl) (by k_ne) (fun s₂ w₂ hF hI₂ => ?_) ?_
  · have := conv_to (hn _ _ hF hI₂).1
    refine ⟨?_, ?_⟩
    · unfold execOp
      simp [go_sem, this.1, Result.andThen]
    · unfold execOp
      simp [go_sem, this.1, this.2, Result.evThen]
  walk_nrm
  repeat (first | ((with_reducible refine gd_op ?_); first | (refine rr_pure' hB rfl (by rfl) (by k_ne) (by rfl) (fun w₁ => by first | (simp [go_sem]; done) | simp [go_sem, *]) (fun w₁ K hK => ?_); go_simp; refine hK _ ?_; clear hK K w₁; try walk_nrm) | (refine rr_ctl hB rfl (fun _ => stepG_unwanted rfl rfl) ?_; try walk_nrm)) | ((with_reducible refine gd_rend ?_); (refine rr_regend hB hKr ?_; clear hKr Kr)) | ((with_reducible refine gd_seq ?_); refine rr_ctl hB rfl (fun _ => stepG_seq) ?_) | ((with_reducible refine gd_reg ?_); (refine rr_reg hB (fun Kr hKr => ?_); simp only [List.size_toArray, List.length_cons, List.length_nil, Nat.reduceAdd, Nat.zero_add, List.range, List.range.loop])) | ((with_reducible refine gd_skip ?_); refine rr_ctl hB rfl (fun _ => stepG_skip) ?_) | ((with_reducible refine gd_block ?_); refine rr_ctl hB rfl (fun _ => stepG_block) ?_) | ((with_reducible refine gd_inb ?_); refine rr_ctl hB rfl (fun _ => stepG_inBlock) ?_) | ((with_reducible refine gd_ret ?_); refine rr_ctl hB rfl (fun _ => stepG_ret') ?_) | ((with_reducible refine gd_exit ?_); refine rr_ctl hB rfl (fun _ => stepG_exit rfl) ?_) | ((with_reducible refine gd_end ?_); refine rr_ctl hB rfl (fun _ => stepG_end) ?_))
  refine rr_conv hB (v := .pointer r) (F := A) h (fun h r => hst _ _ _ _ h r) rfl (by rfl) (by k_ne) (fun s₂ w₂ hF hI₂ => ?_) ?_
  · have := conv_to (hn _ _ hF hI₂).2
    refine ⟨?_, ?_⟩
    · unfold execOp
      simp [go_sem, this.1, Result.andThen]
    · unfold execOp
      simp [go_sem, this.1, this.2, Result.evThen]
  walk_nrm
  repeat (first | ((with_reducible refine gd_op ?_); first | (refine rr_pure' hB rfl (by rfl) (by k_ne) (by rfl) (fun w₁ => by first | (simp [go_sem]; done) | simp [go_sem, *]) (fun w₁ K hK => ?_); go_simp; refine hK _ ?_; clear hK K w₁; try walk_nrm) | (refine rr_ctl hB rfl (fun _ => stepG_unwanted rfl rfl) ?_; try walk_nrm)) | ((with_reducible refine gd_rend ?_); (refine rr_regend hB hKr ?_; clear hKr Kr)) | ((with_reducible refine gd_seq ?_); refine rr_ctl hB rfl (fun _ => stepG_seq) ?_) | ((with_reducible refine gd_reg ?_); (refine rr_reg hB (fun Kr hKr => ?_); simp only [List.size_toArray, List.length_cons, List.length_nil, Nat.reduceAdd, Nat.zero_add, List.range, List.range.loop])) | ((with_reducible refine gd_skip ?_); refine rr_ctl hB rfl (fun _ => stepG_skip) ?_) | ((with_reducible refine gd_block ?_); refine rr_ctl hB rfl (fun _ => stepG_block) ?_) | ((with_reducible refine gd_inb ?_); refine rr_ctl hB rfl (fun _ => stepG_inBlock) ?_) | ((with_reducible refine gd_ret ?_); refine rr_ctl hB rfl (fun _ => stepG_ret') ?_) | ((with_reducible refine gd_exit ?_); refine rr_ctl hB rfl (fun _ => stepG_exit rfl) ?_) | ((with_reducible refine gd_end ?_); refine rr_ctl hB rfl (fun _ => stepG_end) ?_))
  refine rr_mk rfl fun s₁ w₁ hR hI _ _ => ?_
  have hA := hst _ _ _ _ h hR
  obtain ⟨x, hc, hz, hx, hcase⟩ := hcas s₁ w₁ hA hI
  rcases hcase with ⟨rfl, s', hmv, hso, hQ⟩ | ⟨hne, s', hmv, hso, hQ⟩
  · refine ⟨_, _, _, _, stepG_casp (r := true) rfl rfl (by k_ne) rfl Try.func46 (by kernel_rfl) (by kernel_rfl) (by kernel_rfl) (by kernel_rfl) rfl rfl rfl hc hz (told_self _), hmv, hso, ?_⟩
    walk_nrm
    repeat (first | ((with_reducible refine gd_op ?_); first | (refine rr_pure' hB rfl (by rfl) (by k_ne) (by rfl) (fun w₁ => by first | (simp [go_sem]; done) | simp [go_sem, *]) (fun w₁ K hK => ?_); go_simp; refine hK _ ?_; clear hK K w₁; try walk_nrm) | (refine rr_ctl hB rfl (fun _ => stepG_unwanted rfl rfl) ?_; try walk_nrm)) | ((with_reducible refine gd_rend ?_); (refine rr_regend hB hKr ?_; clear hKr Kr)) | ((with_reducible refine gd_seq ?_); refine rr_ctl hB rfl (fun _ => stepG_seq) ?_) | ((with_reducible refine gd_reg ?_); (refine rr_reg hB (fun Kr hKr => ?_); simp only [List.size_toArray, List.length_cons, List.length_nil, Nat.reduceAdd, Nat.zero_add, List.range, List.range.loop])) | ((with_reducible refine gd_skip ?_); refine rr_ctl hB rfl (fun _ => stepG_skip) ?_) | ((with_reducible refine gd_block ?_); refine rr_ctl hB rfl (fun _ => stepG_block) ?_) | ((with_reducible refine gd_inb ?_); refine rr_ctl hB rfl (fun _ => stepG_inBlock) ?_) | ((with_reducible refine gd_ret ?_); refine rr_ctl hB rfl (fun _ => stepG_ret') ?_) | ((with_reducible refine gd_exit ?_); refine rr_ctl hB rfl (fun _ => stepG_exit rfl) ?_) | ((with_reducible refine gd_end ?_); refine rr_ctl hB rfl (fun _ => stepG_end) ?_))
    (refine rr_leave hB rfl rfl Try.func35 (fun w => ⟨results_tmp rfl _ _ w, events_results_tmp rfl _ _⟩) ?_)
    walk_nrm
    exact hret _ _ _ ⟨_, rfl, hQ⟩
  · refine ⟨_, _, _, _, stepG_casp (r := false) rfl rfl (by k_ne) rfl Try.func46 (by kernel_rfl) (by kernel_rfl) (by kernel_rfl) (by kernel_rfl) rfl rfl rfl hc hz (told_other hne hx (hn _ _ hA hI).1), hmv, hso, ?_⟩
    walk_nrm
    repeat (first | ((with_reducible refine gd_op ?_); first | (refine rr_pure' hB rfl (by rfl) (by k_ne) (by rfl) (fun w₁ => by first | (simp [go_sem]; done) | simp [go_sem, *]) (fun w₁ K hK => ?_); go_simp; refine hK _ ?_; clear hK K w₁; try walk_nrm) | (refine rr_ctl hB rfl (fun _ => stepG_unwanted rfl rfl) ?_; try walk_nrm)) | ((with_reducible refine gd_rend ?_); (refine rr_regend hB hKr ?_; clear hKr Kr)) | ((with_reducible refine gd_seq ?_); refine rr_ctl hB rfl (fun _ => stepG_seq) ?_) | ((with_reducible refine gd_reg ?_); (refine rr_reg hB (fun Kr hKr => ?_); simp only [List.size_toArray, List.length_cons, List.length_nil, Nat.reduceAdd, Nat.zero_add, List.range, List.range.loop])) | ((with_reducible refine gd_skip ?_); refine rr_ctl hB rfl (fun _ => stepG_skip) ?_) | ((with_reducible refine gd_block ?_); refine rr_ctl hB rfl (fun _ => stepG_block) ?_) | ((with_reducible refine gd_inb ?_); refine rr_ctl hB rfl (fun _ => stepG_inBlock) ?_) | ((with_reducible refine gd_ret ?_); refine rr_ctl hB rfl (fun _ => stepG_ret') ?_) | ((with_reducible refine gd_exit ?_); refine rr_ctl hB rfl (fun _ => stepG_exit rfl) ?_) | ((with_reducible refine gd_end ?_); refine rr_ctl hB rfl (fun _ => stepG_end) ?_))
    (refine rr_leave hB rfl rfl Try.func35 (fun w => ⟨results_tmp rfl _ _ w, events_results_tmp rfl _ _⟩) ?_)
    walk_nrm
    exact hret _ _ _ ⟨_, rfl, hQ⟩
end
end Go.Proofs.Ytbamamkjmfkghaa.Crw
namespace Go.Proofs.Ytbamamkjmfkghaa.Crw
open Go Go.Conc Go.RowKit Go.Conc.Lib Go.ConcR.Gen
open Go.ConcN (upd upd_same upd_ne)
open Go.ConcR (stA smA KK WgAt wgBlock rd wr)
set_option linter.unusedVariables false
set_option maxRecDepth 100000
set_option maxHeartbeats 4000000
theorem mixed : Try.prog.follows .mixedOrders = true := by kernel_rfl
section
variable {B : Usr} {E : Env} {Post : Value → World → Prop} {Child : Sit (proto Try.prog B E Post)} {k : Nat} {s s₁ : St B} {w w₁ : World}

/-- Nodes from a pointer on, which k may read. -/
def ChainR (k : Nat) (s : St B) (w : World) : Option Addr → List Int → Prop
  | q, [] => q = none
  | q, v :: vs => ∃ g q', q = some ⟨g, 0, none⟩ ∧ Rds k s w g TN [.int .i64 v, .int .u64 ((vs.length + 1 : Nat) : Int), .pointer q'] ∧ ChainR k s w q' vs
theorem ChainR.map {vs : List Int} {q : Option Addr} (h : ChainR k s w q vs) (f : ∀ b t xs, Rds k s w b t xs → Rds k s₁ w₁ b t xs) : ChainR k s₁ w₁ q vs := by
  induction vs generalizing q with
  | nil => exact h
  | cons v vs ih =>
    obtain ⟨g, q', e, h1, h2⟩ := h
    exact ⟨g, q', e, f _ _ _ h1, ih h2⟩
theorem ChainR.rely {vs : List Int} {q : Option Addr} (h : ChainR k s w q vs) (r : Rl k s w s₁ w₁) : ChainR k s₁ w₁ q vs := h.map fun _ _ _ x => x.rely r
theorem ChainR.nil {q : Option Addr} (h : ChainR k s w q []) : q = none := h
theorem ChainR.isSome {vs : List Int} {v : Int} {q : Option Addr} (h : ChainR k s w q (v :: vs)) : ∃ g, q = some ⟨g, 0, none⟩ := let ⟨g, _, e, _⟩ := h; ⟨g, e⟩
theorem ChainR.val {vs : List Int} {v : Int} {g : Nat} (h : ChainR k s w (some ⟨g, 0, none⟩) (v :: vs)) : w.cell? ⟨g, 0, none⟩ = some (.int .i64 v) ∧ May s.tg k (.cell ⟨g, 0, none⟩) ∧ g < w.heap.size := by
  obtain ⟨g', q', e, h1, _⟩ := h
  cases e
  exact ⟨h1.cell 0, h1.md _ rfl, h1.lt⟩
theorem ChainR.num {vs : List Int} {v : Int} {g : Nat} (h : ChainR k s w (some ⟨g, 0, none⟩) (v :: vs)) : w.cell? ⟨g, 1, none⟩ = some (.int .u64 ((vs.length + 1 : Nat) : Int)) ∧ May s.tg k (.cell ⟨g, 1, none⟩) ∧ g < w.heap.size := by
  obtain ⟨g', q', e, h1, _⟩ := h
  cases e
  exact ⟨h1.cell 1, h1.md _ rfl, h1.lt⟩
theorem ChainR.next {vs : List Int} {v : Int} {g : Nat} (h : ChainR k s w (some ⟨g, 0, none⟩) (v :: vs)) : ∃ q', w.cell? ⟨g, 2, none⟩ = some (.pointer q') ∧ May s.tg k (.cell ⟨g, 2, none⟩) ∧ g < w.heap.size ∧ ChainR k s w q' vs := by
  obtain ⟨g', q', e, h1, h2⟩ := h
  cases e
  exact ⟨q', h1.cell 2, h1.md _ rfl, h1.lt, h2⟩
theorem ChainR.node {vs : List Int} {q : Option Addr} (h : ChainR k s w q vs) : NodeP w q := by
  cases vs with
  | nil => exact .inl h
  | cons v vs =>
    obtain ⟨g, q', e, h1, _⟩ := h
    exact .inr ⟨g, _, _, _, e, h1.hp⟩

/-- What a look at the head gives. -/
structure Look (E : Env) (k b : Nat) (A : St B → World → Prop) (Q : Option Addr → List Int → St B → World → Prop) : Prop where
  hst : ∀ {s w s₁ w₁}, A s w → Rl k s w s₁ w₁ → A s₁ w₁
  hrd : ∀ {s w}, A s w → Ok E s w → ∃ (q : Option Addr) (vs : List Int) (s' : St B), w.cell? ⟨b, 0, none⟩ = some (.pointer q) ∧ Mv E k s w s' w #[rd ⟨b, 0, none⟩] ∧ Soft s s' ∧ Q q vs s' w
  hq : ∀ {q vs s w s₁ w₁}, Q q vs s w → Rl k s w s₁ w₁ → Q q vs s₁ w₁
  hch : ∀ {q vs s w}, Q q vs s w → ChainR k s w q vs
  hr : ∀ {q vs s w}, Q q vs s w → k = 0 ∨ s.tg.rel k = false

theorem top_x (hB : B.Laws) {A : St B → World → Prop} {Q : Option Addr → List Int → St B → World → Prop} {b : Nat} (L : Look E k b A Q) (h : A s w) :
    CallX Try.prog B E Post Child k 34 #[.pointer (some ⟨b, 0, none⟩)] s w (fun v s w => ∃ q vs, v = .tuple #[.pointer q, .int .u64 (vs.length : Nat)] ∧ Q q vs s w) := by
  refine ⟨Try.f34, _, Try.func34, by kernel_rfl, rfl, fun cal cs hret => ?_⟩
  walk_nrmf Try.f34
  have he1 := fun (x : Option Addr) (w : World) (es : Array Event) => ev_eql_ptr_nil (P := Try.prog) Try.underlying51 x w es
  repeat (first | ((with_reducible refine gd_op ?_); first | (refine rr_pure' hB rfl (by rfl) (by k_ne) (by rfl) (fun w₁ => by first | (simp [go_sem]; done) | simp [go_sem, *]) (fun w₁ K hK => ?_); go_simp; refine hK _ ?_; clear hK K w₁; try walk_nrm) | (refine rr_ctl hB rfl (fun _ => stepG_unwanted rfl rfl) ?_; try walk_nrm)) | ((with_reducible refine gd_rend ?_); (refine rr_regend hB hKr ?_; clear hKr Kr)) | ((with_reducible refine gd_seq ?_); refine rr_ctl hB rfl (fun _ => stepG_seq) ?_) | ((with_reducible refine gd_reg ?_); (refine rr_reg hB (fun Kr hKr => ?_); simp only [List.size_toArray, List.length_cons, List.length_nil, Nat.reduceAdd, Nat.zero_add, List.range, List.range.loop])) | ((with_reducible refine gd_skip ?_); refine rr_ctl hB rfl (fun _ => stepG_skip) ?_) | ((with_reducible refine gd_block ?_); refine rr_ctl hB rfl (fun _ => stepG_block) ?_) | ((with_reducible refine gd_inb ?_); refine rr_ctl hB rfl (fun _ => stepG_inBlock) ?_) | ((with_reducible refine gd_ret ?_); refine rr_ctl hB rfl (fun _ => stepG_ret') ?_) | ((with_reducible refine gd_exit ?_); refine rr_ctl hB rfl (fun _ => stepG_exit rfl) ?_) | ((with_reducible refine gd_end ?_); refine rr_ctl hB rfl (fun _ => stepG_end) ?_))
  (apply rr_call hB rfl (by rfl) (by k_ne) rfl; focus ((try walk_nrm); exact (pload_x hB (A := A) (Q := fun q s w => ∃ vs, Q q vs s w) (fun _ _ _ _ => L.hst) (fun s w hA hI => let ⟨q, vs, s', h1, h2, h3, h4⟩ := L.hrd hA hI; ⟨q, s', h1, h2, h3, vs, h4⟩) (fun _ _ _ _ _ ⟨vs, h⟩ r => ⟨vs, L.hq h r⟩) (fun _ _ _ ⟨vs, h⟩ _ => (L.hch h).node) h)))
  clear h
  rintro _ s w ⟨q, rfl, vs, hQ⟩
  walk_nrm
  cases vs with
  | nil =>
    obtain rfl := (L.hch hQ).nil
    repeat (first | ((with_reducible refine gd_op ?_); first | (refine rr_pure' hB rfl (by rfl) (by k_ne) (by rfl) (fun w₁ => by first | (simp [go_sem]; done) | simp [go_sem, *]) (fun w₁ K hK => ?_); go_simp; refine hK _ ?_; clear hK K w₁; try walk_nrm) | (refine rr_ctl hB rfl (fun _ => stepG_unwanted rfl rfl) ?_; try walk_nrm)) | ((with_reducible refine gd_rend ?_); (refine rr_regend hB hKr ?_; clear hKr Kr)) | ((with_reducible refine gd_seq ?_); refine rr_ctl hB rfl (fun _ => stepG_seq) ?_) | ((with_reducible refine gd_reg ?_); (refine rr_reg hB (fun Kr hKr => ?_); simp only [List.size_toArray, List.length_cons, List.length_nil, Nat.reduceAdd, Nat.zero_add, List.range, List.range.loop])) | ((with_reducible refine gd_skip ?_); refine rr_ctl hB rfl (fun _ => stepG_skip) ?_) | ((with_reducible refine gd_block ?_); refine rr_ctl hB rfl (fun _ => stepG_block) ?_) | ((with_reducible refine gd_inb ?_); refine rr_ctl hB rfl (fun _ => stepG_inBlock) ?_) | ((with_reducible refine gd_ret ?_); refine rr_ctl hB rfl (fun _ => stepG_ret') ?_) | ((with_reducible refine gd_exit ?_); refine rr_ctl hB rfl (fun _ => stepG_exit rfl) ?_) | ((with_reducible refine gd_end ?_); refine rr_ctl hB rfl (fun _ => stepG_end) ?_))
    (refine rr_ctl hB rfl (fun _ => stepG_cond (t := true) (by first | rfl | (simp [Act.eval, *]))) ?_; simp only [if_true, if_false, Bool.false_eq_true, ↓reduceIte])
    repeat (first | ((with_reducible refine gd_op ?_); first | (refine rr_pure' hB rfl (by rfl) (by k_ne) (by rfl) (fun w₁ => by first | (simp [go_sem]; done) | simp [go_sem, *]) (fun w₁ K hK => ?_); go_simp; refine hK _ ?_; clear hK K w₁; try walk_nrm) | (refine rr_ctl hB rfl (fun _ => stepG_unwanted rfl rfl) ?_; try walk_nrm)) | ((with_reducible refine gd_rend ?_); (refine rr_regend hB hKr ?_; clear hKr Kr)) | ((with_reducible refine gd_seq ?_); refine rr_ctl hB rfl (fun _ => stepG_seq) ?_) | ((with_reducible refine gd_reg ?_); (refine rr_reg hB (fun Kr hKr => ?_); simp only [List.size_toArray, List.length_cons, List.length_nil, Nat.reduceAdd, Nat.zero_add, List.range, List.range.loop])) | ((with_reducible refine gd_skip ?_); refine rr_ctl hB rfl (fun _ => stepG_skip) ?_) | ((with_reducible refine gd_block ?_); refine rr_ctl hB rfl (fun _ => stepG_block) ?_) | ((with_reducible refine gd_inb ?_); refine rr_ctl hB rfl (fun _ => stepG_inBlock) ?_) | ((with_reducible refine gd_ret ?_); refine rr_ctl hB rfl (fun _ => stepG_ret') ?_) | ((with_reducible refine gd_exit ?_); refine rr_ctl hB rfl (fun _ => stepG_exit rfl) ?_) | ((with_reducible refine gd_end ?_); refine rr_ctl hB rfl (fun _ => stepG_end) ?_))
    (refine rr_leave hB rfl rfl Try.func34 (fun w => ⟨results_tmp2 rfl _ _ w, events_results_tmp2 rfl _ _⟩) ?_)
    exact hret _ _ _ ⟨_, _, rfl, hQ⟩
  | cons v vs =>
    obtain ⟨g, rfl⟩ := (L.hch hQ).isSome
    repeat (first | ((with_reducible refine gd_op ?_); first | (refine rr_pure' hB rfl (by rfl) (by k_ne) (by rfl) (fun w₁ => by first | (simp [go_sem]; done) | simp [go_sem, *]) (fun w₁ K hK => ?_); go_simp; refine hK _ ?_; clear hK K w₁; try walk_nrm) | (refine rr_ctl hB rfl (fun _ => stepG_unwanted rfl rfl) ?_; try walk_nrm)) | ((with_reducible refine gd_rend ?_); (refine rr_regend hB hKr ?_; clear hKr Kr)) | ((with_reducible refine gd_seq ?_); refine rr_ctl hB rfl (fun _ => stepG_seq) ?_) | ((with_reducible refine gd_reg ?_); (refine rr_reg hB (fun Kr hKr => ?_); simp only [List.size_toArray, List.length_cons, List.length_nil, Nat.reduceAdd, Nat.zero_add, List.range, List.range.loop])) | ((with_reducible refine gd_skip ?_); refine rr_ctl hB rfl (fun _ => stepG_skip) ?_) | ((with_reducible refine gd_block ?_); refine rr_ctl hB rfl (fun _ => stepG_block) ?_) | ((with_reducible refine gd_inb ?_); refine rr_ctl hB rfl (fun _ => stepG_inBlock) ?_) | ((with_reducible refine gd_ret ?_); refine rr_ctl hB rfl (fun _ => stepG_ret') ?_) | ((with_reducible refine gd_exit ?_); refine rr_ctl hB rfl (fun _ => stepG_exit rfl) ?_) | ((with_reducible refine gd_end ?_); refine rr_ctl hB rfl (fun _ => stepG_end) ?_))
    (refine rr_ctl hB rfl (fun _ => stepG_cond (t := false) (by first | rfl | (simp [Act.eval, *]))) ?_; simp only [if_true, if_false, Bool.false_eq_true, ↓reduceIte])
    repeat (first | ((with_reducible refine gd_op ?_); first | (refine rr_pure' hB rfl (by rfl) (by k_ne) (by rfl) (fun w₁ => by first | (simp [go_sem]; done) | simp [go_sem, *]) (fun w₁ K hK => ?_); go_simp; refine hK _ ?_; clear hK K w₁; try walk_nrm) | (refine rr_ctl hB rfl (fun _ => stepG_unwanted rfl rfl) ?_; try walk_nrm)) | ((with_reducible refine gd_rend ?_); (refine rr_regend hB hKr ?_; clear hKr Kr)) | ((with_reducible refine gd_seq ?_); refine rr_ctl hB rfl (fun _ => stepG_seq) ?_) | ((with_reducible refine gd_reg ?_); (refine rr_reg hB (fun Kr hKr => ?_); simp only [List.size_toArray, List.length_cons, List.length_nil, Nat.reduceAdd, Nat.zero_add, List.range, List.range.loop])) | ((with_reducible refine gd_skip ?_); refine rr_ctl hB rfl (fun _ => stepG_skip) ?_) | ((with_reducible refine gd_block ?_); refine rr_ctl hB rfl (fun _ => stepG_block) ?_) | ((with_reducible refine gd_inb ?_); refine rr_ctl hB rfl (fun _ => stepG_inBlock) ?_) | ((with_reducible refine gd_ret ?_); refine rr_ctl hB rfl (fun _ => stepG_ret') ?_) | ((with_reducible refine gd_exit ?_); refine rr_ctl hB rfl (fun _ => stepG_exit rfl) ?_) | ((with_reducible refine gd_end ?_); refine rr_ctl hB rfl (fun _ => stepG_end) ?_))
    refine rr_drawn hB (F := Q (some ⟨g, 0, none⟩) (v :: vs)) hQ (fun h r => L.hq h r) mixed (os := [[0, 1, 2, 3, 4, 5, 6], [0, 1, 2, 3, 5, 4, 6], [0, 1, 2, 5, 3, 4, 6], [0, 1, 5, 2, 3, 4, 6], [0, 5, 1, 2, 3, 4, 6], [1, 0, 2, 3, 4, 5, 6], [1, 0, 2, 3, 5, 4, 6], [1, 0, 2, 5, 3, 4, 6], [1, 0, 5, 2, 3, 4, 6], [1, 2, 0, 3, 4, 5, 6], [1, 2, 0, 3, 5, 4, 6], [1, 2, 0, 5, 3, 4, 6], [1, 2, 3, 0, 4, 5, 6], [1, 2, 3, 0, 5, 4, 6], [1, 2, 3, 4, 0, 5, 6]]) (by kernel_rfl) ?_
    clear hQ
    intro s w hQ lo hlo Kr hKr
    simp only [List.mem_cons, List.not_mem_nil, or_false] at hlo
    rcases hlo with rfl | rfl | rfl | rfl | rfl | rfl | rfl | rfl | rfl | rfl | rfl | rfl | rfl | rfl | rfl
    all_goals
      repeat (first | ((with_reducible refine gd_op ?_); first | (refine rr_pure' hB rfl (by rfl) (by k_ne) (by rfl) (fun w₁ => by first | (simp [go_sem]; done) | simp [go_sem, *]) (fun w₁ K hK => ?_); go_simp; refine hK _ ?_; clear hK K w₁; try walk_nrm) | (refine rr_ctl hB rfl (fun _ => stepG_unwanted rfl rfl) ?_; try walk_nrm)) | ((with_reducible refine gd_rend ?_); (refine rr_regend hB hKr ?_; clear hKr Kr)) | ((with_reducible refine gd_seq ?_); refine rr_ctl hB rfl (fun _ => stepG_seq) ?_) | ((with_reducible refine gd_reg ?_); (refine rr_reg hB (fun Kr hKr => ?_); simp only [List.size_toArray, List.length_cons, List.length_nil, Nat.reduceAdd, Nat.zero_add, List.range, List.range.loop])) | ((with_reducible refine gd_skip ?_); refine rr_ctl hB rfl (fun _ => stepG_skip) ?_) | ((with_reducible refine gd_block ?_); refine rr_ctl hB rfl (fun _ => stepG_block) ?_) | ((with_reducible refine gd_inb ?_); refine rr_ctl hB rfl (fun _ => stepG_inBlock) ?_) | ((with_reducible refine gd_ret ?_); refine rr_ctl hB rfl (fun _ => stepG_ret') ?_) | ((with_reducible refine gd_exit ?_); refine rr_ctl hB rfl (fun _ => stepG_exit rfl) ?_) | ((with_reducible refine gd_end ?_); refine rr_ctl hB rfl (fun _ => stepG_end) ?_))
      (refine rr_oper rfl (by rfl) (by k_ne) (fun s₁ w₁ hR hI K hK => ?_); replace hQ := L.hq hQ hR; clear hR; have := (L.hch hQ).num.1; go_simp; refine hK _ _ ⟨s₁, mv_rd (L.hr hQ) (fun e he => ?_), .refl _, ?_⟩; (focus (have hm := mem_listed he; simp [go_sem, *] at hm; (subst hm; exact ⟨_, rfl, (L.hch hQ).num.2.1, (L.hch hQ).num.2.2⟩))); clear hK K; try walk_nrm)
      repeat (first | ((with_reducible refine gd_op ?_); first | (refine rr_pure' hB rfl (by rfl) (by k_ne) (by rfl) (fun w₁ => by first | (simp [go_sem]; done) | simp [go_sem, *]) (fun w₁ K hK => ?_); go_simp; refine hK _ ?_; clear hK K w₁; try walk_nrm) | (refine rr_ctl hB rfl (fun _ => stepG_unwanted rfl rfl) ?_; try walk_nrm)) | ((with_reducible refine gd_rend ?_); (refine rr_regend hB hKr ?_; clear hKr Kr)) | ((with_reducible refine gd_seq ?_); refine rr_ctl hB rfl (fun _ => stepG_seq) ?_) | ((with_reducible refine gd_reg ?_); (refine rr_reg hB (fun Kr hKr => ?_); simp only [List.size_toArray, List.length_cons, List.length_nil, Nat.reduceAdd, Nat.zero_add, List.range, List.range.loop])) | ((with_reducible refine gd_skip ?_); refine rr_ctl hB rfl (fun _ => stepG_skip) ?_) | ((with_reducible refine gd_block ?_); refine rr_ctl hB rfl (fun _ => stepG_block) ?_) | ((with_reducible refine gd_inb ?_); refine rr_ctl hB rfl (fun _ => stepG_inBlock) ?_) | ((with_reducible refine gd_ret ?_); refine rr_ctl hB rfl (fun _ => stepG_ret') ?_) | ((with_reducible refine gd_exit ?_); refine rr_ctl hB rfl (fun _ => stepG_exit rfl) ?_) | ((with_reducible refine gd_end ?_); refine rr_ctl hB rfl (fun _ => stepG_end) ?_))
      (refine rr_leave hB rfl rfl Try.func34 (fun w => ⟨results_tmp2 rfl _ _ w, events_results_tmp2 rfl _ _⟩) ?_)
      exact hret _ _ _ ⟨_, _, rfl, hQ⟩

theorem cload_x (hB : B.Laws) {A : St B → World → Prop} {Q : Option Addr → List Int → St B → World → Prop} {b : Nat} (L : Look E k b A Q) (h : A s w) :
    CallX Try.prog B E Post Child k 13 #[.pointer (some ⟨b, 0, none⟩)] s w (fun v s w => ∃ q vs, v = .tuple #[.int .i64 (vs.headD 0), .int .u64 (vs.length : Nat)] ∧ Q q vs s w) := by
  refine ⟨Try.f13, _, Try.func13, by kernel_rfl, rfl, fun cal cs hret => ?_⟩
  walk_nrmf Try.f13
  have he1 := fun (x : Option Addr) (w : World) (es : Array Event) => ev_neq_ptr_nil (P := Try.prog) Try.underlying51 x w es
  repeat (first | ((with_reducible refine gd_op ?_); first | (refine rr_pure' hB rfl (by rfl) (by k_ne) (by rfl) (fun w₁ => by first | (simp [go_sem]; done) | simp [go_sem, *]) (fun w₁ K hK => ?_); go_simp; refine hK _ ?_; clear hK K w₁; try walk_nrm) | (refine rr_ctl hB rfl (fun _ => stepG_unwanted rfl rfl) ?_; try walk_nrm)) | ((with_reducible refine gd_rend ?_); (refine rr_regend hB hKr ?_; clear hKr Kr)) | ((with_reducible refine gd_seq ?_); refine rr_ctl hB rfl (fun _ => stepG_seq) ?_) | ((with_reducible refine gd_reg ?_); (refine rr_reg hB (fun Kr hKr => ?_); simp only [List.size_toArray, List.length_cons, List.length_nil, Nat.reduceAdd, Nat.zero_add, List.range, List.range.loop])) | ((with_reducible refine gd_skip ?_); refine rr_ctl hB rfl (fun _ => stepG_skip) ?_) | ((with_reducible refine gd_block ?_); refine rr_ctl hB rfl (fun _ => stepG_block) ?_) | ((with_reducible refine gd_inb ?_); refine rr_ctl hB rfl (fun _ => stepG_inBlock) ?_) | ((with_reducible refine gd_ret ?_); refine rr_ctl hB rfl (fun _ => stepG_ret') ?_) | ((with_reducible refine gd_exit ?_); refine rr_ctl hB rfl (fun _ => stepG_exit rfl) ?_) | ((with_reducible refine gd_end ?_); refine rr_ctl hB rfl (fun _ => stepG_end) ?_))
  (apply rr_call hB rfl (by rfl) (by k_ne) rfl; focus ((try walk_nrm); exact (top_x hB L h)))
  clear h
  rintro _ s w ⟨q, vs, rfl, hQ⟩
  walk_nrm
  cases vs with
  | nil =>
    obtain rfl := (L.hch hQ).nil
    repeat (first | ((with_reducible refine gd_op ?_); first | (refine rr_pure' hB rfl (by rfl) (by k_ne) (by rfl) (fun w₁ => by first | (simp [go_sem]; done) | simp [go_sem, *]) (fun w₁ K hK => ?_); go_simp; refine hK _ ?_; clear hK K w₁; try walk_nrm) | (refine rr_ctl hB rfl (fun _ => stepG_unwanted rfl rfl) ?_; try walk_nrm)) | ((with_reducible refine gd_rend ?_); (refine rr_regend hB hKr ?_; clear hKr Kr)) | ((with_reducible refine gd_seq ?_); refine rr_ctl hB rfl (fun _ => stepG_seq) ?_) | ((with_reducible refine gd_reg ?_); (refine rr_reg hB (fun Kr hKr => ?_); simp only [List.size_toArray, List.length_cons, List.length_nil, Nat.reduceAdd, Nat.zero_add, List.range, List.range.loop])) | ((with_reducible refine gd_skip ?_); refine rr_ctl hB rfl (fun _ => stepG_skip) ?_) | ((with_reducible refine gd_block ?_); refine rr_ctl hB rfl (fun _ => stepG_block) ?_) | ((with_reducible refine gd_inb ?_); refine rr_ctl hB rfl (fun _ => stepG_inBlock) ?_) | ((with_reducible refine gd_ret ?_); refine rr_ctl hB rfl (fun _ => stepG_ret') ?_) | ((with_reducible refine gd_exit ?_); refine rr_ctl hB rfl (fun _ => stepG_exit rfl) ?_) | ((with_reducible refine gd_end ?_); refine rr_ctl hB rfl (fun _ => stepG_end) ?_))
    (refine rr_ctl hB rfl (fun _ => stepG_cond (t := false) (by first | rfl | (simp [Act.eval, *]))) ?_; simp only [if_true, if_false, Bool.false_eq_true, ↓reduceIte])
    repeat (first | ((with_reducible refine gd_op ?_); first | (refine rr_pure' hB rfl (by rfl) (by k_ne) (by rfl) (fun w₁ => by first | (simp [go_sem]; done) | simp [go_sem, *]) (fun w₁ K hK => ?_); go_simp; refine hK _ ?_; clear hK K w₁; try walk_nrm) | (refine rr_ctl hB rfl (fun _ => stepG_unwanted rfl rfl) ?_; try walk_nrm)) | ((with_reducible refine gd_rend ?_); (refine rr_regend hB hKr ?_; clear hKr Kr)) | ((with_reducible refine gd_seq ?_); refine rr_ctl hB rfl (fun _ => stepG_seq) ?_) | ((with_reducible refine gd_reg ?_); (refine rr_reg hB (fun Kr hKr => ?_); simp only [List.size_toArray, List.length_cons, List.length_nil, Nat.reduceAdd, Nat.zero_add, List.range, List.range.loop])) | ((with_reducible refine gd_skip ?_); refine rr_ctl hB rfl (fun _ => stepG_skip) ?_) | ((with_reducible refine gd_block ?_); refine rr_ctl hB rfl (fun _ => stepG_block) ?_) | ((with_reducible refine gd_inb ?_); refine rr_ctl hB rfl (fun _ => stepG_inBlock) ?_) | ((with_reducible refine gd_ret ?_); refine rr_ctl hB rfl (fun _ => stepG_ret') ?_) | ((with_reducible refine gd_exit ?_); refine rr_ctl hB rfl (fun _ => stepG_exit rfl) ?_) | ((with_reducible refine gd_end ?_); refine rr_ctl hB rfl (fun _ => stepG_end) ?_))
    (refine rr_leave hB rfl rfl Try.func13 (fun w => ⟨results_tmp2 rfl _ _ w, events_results_tmp2 rfl _ _⟩) ?_)
    exact hret _ _ _ ⟨_, _, rfl, hQ⟩
  | cons v vs =>
    obtain ⟨g, rfl⟩ := (L.hch hQ).isSome
    repeat (first | ((with_reducible refine gd_op ?_); first | (refine rr_pure' hB rfl (by rfl) (by k_ne) (by rfl) (fun w₁ => by first | (simp [go_sem]; done) | simp [go_sem, *]) (fun w₁ K hK => ?_); go_simp; refine hK _ ?_; clear hK K w₁; try walk_nrm) | (refine rr_ctl hB rfl (fun _ => stepG_unwanted rfl rfl) ?_; try walk_nrm)) | ((with_reducible refine gd_rend ?_); (refine rr_regend hB hKr ?_; clear hKr Kr)) | ((with_reducible refine gd_seq ?_); refine rr_ctl hB rfl (fun _ => stepG_seq) ?_) | ((with_reducible refine gd_reg ?_); (refine rr_reg hB (fun Kr hKr => ?_); simp only [List.size_toArray, List.length_cons, List.length_nil, Nat.reduceAdd, Nat.zero_add, List.range, List.range.loop])) | ((with_reducible refine gd_skip ?_); refine rr_ctl hB rfl (fun _ => stepG_skip) ?_) | ((with_reducible refine gd_block ?_); refine rr_ctl hB rfl (fun _ => stepG_block) ?_) | ((with_reducible refine gd_inb ?_); refine rr_ctl hB rfl (fun _ => stepG_inBlock) ?_) | ((with_reducible refine gd_ret ?_); refine rr_ctl hB rfl (fun _ => stepG_ret') ?_) | ((with_reducible refine gd_exit ?_); refine rr_ctl hB rfl (fun _ => stepG_exit rfl) ?_) | ((with_reducible refine gd_end ?_); refine rr_ctl hB rfl (fun _ => stepG_end) ?_))
    (refine rr_ctl hB rfl (fun _ => stepG_cond (t := true) (by first | rfl | (simp [Act.eval, *]))) ?_; simp only [if_true, if_false, Bool.false_eq_true, ↓reduceIte])
    repeat (first | ((with_reducible refine gd_op ?_); first | (refine rr_pure' hB rfl (by rfl) (by k_ne) (by rfl) (fun w₁ => by first | (simp [go_sem]; done) | simp [go_sem, *]) (fun w₁ K hK => ?_); go_simp; refine hK _ ?_; clear hK K w₁; try walk_nrm) | (refine rr_ctl hB rfl (fun _ => stepG_unwanted rfl rfl) ?_; try walk_nrm)) | ((with_reducible refine gd_rend ?_); (refine rr_regend hB hKr ?_; clear hKr Kr)) | ((with_reducible refine gd_seq ?_); refine rr_ctl hB rfl (fun _ => stepG_seq) ?_) | ((with_reducible refine gd_reg ?_); (refine rr_reg hB (fun Kr hKr => ?_); simp only [List.size_toArray, List.length_cons, List.length_nil, Nat.reduceAdd, Nat.zero_add, List.range, List.range.loop])) | ((with_reducible refine gd_skip ?_); refine rr_ctl hB rfl (fun _ => stepG_skip) ?_) | ((with_reducible refine gd_block ?_); refine rr_ctl hB rfl (fun _ => stepG_block) ?_) | ((with_reducible refine gd_inb ?_); refine rr_ctl hB rfl (fun _ => stepG_inBlock) ?_) | ((with_reducible refine gd_ret ?_); refine rr_ctl hB rfl (fun _ => stepG_ret') ?_) | ((with_reducible refine gd_exit ?_); refine rr_ctl hB rfl (fun _ => stepG_exit rfl) ?_) | ((with_reducible refine gd_end ?_); refine rr_ctl hB rfl (fun _ => stepG_end) ?_))
    (refine rr_oper rfl (by rfl) (by k_ne) (fun s₁ w₁ hR hI K hK => ?_); replace hQ := L.hq hQ hR; clear hR; have := (L.hch hQ).val.1; go_simp; refine hK _ _ ⟨s₁, mv_rd (L.hr hQ) (fun e he => ?_), .refl _, ?_⟩; (focus (have hm := mem_listed he; simp [go_sem, *] at hm; (subst hm; exact ⟨_, rfl, (L.hch hQ).val.2.1, (L.hch hQ).val.2.2⟩))); clear hK K; try walk_nrm)
    repeat (first | ((with_reducible refine gd_op ?_); first | (refine rr_pure' hB rfl (by rfl) (by k_ne) (by rfl) (fun w₁ => by first | (simp [go_sem]; done) | simp [go_sem, *]) (fun w₁ K hK => ?_); go_simp; refine hK _ ?_; clear hK K w₁; try walk_nrm) | (refine rr_ctl hB rfl (fun _ => stepG_unwanted rfl rfl) ?_; try walk_nrm)) | ((with_reducible refine gd_rend ?_); (refine rr_regend hB hKr ?_; clear hKr Kr)) | ((with_reducible refine gd_seq ?_); refine rr_ctl hB rfl (fun _ => stepG_seq) ?_) | ((with_reducible refine gd_reg ?_); (refine rr_reg hB (fun Kr hKr => ?_); simp only [List.size_toArray, List.length_cons, List.length_nil, Nat.reduceAdd, Nat.zero_add, List.range, List.range.loop])) | ((with_reducible refine gd_skip ?_); refine rr_ctl hB rfl (fun _ => stepG_skip) ?_) | ((with_reducible refine gd_block ?_); refine rr_ctl hB rfl (fun _ => stepG_block) ?_) | ((with_reducible refine gd_inb ?_); refine rr_ctl hB rfl (fun _ => stepG_inBlock) ?_) | ((with_reducible refine gd_ret ?_); refine rr_ctl hB rfl (fun _ => stepG_ret') ?_) | ((with_reducible refine gd_exit ?_); refine rr_ctl hB rfl (fun _ => stepG_exit rfl) ?_) | ((with_reducible refine gd_end ?_); refine rr_ctl hB rfl (fun _ => stepG_end) ?_))
    (refine rr_leave hB rfl rfl Try.func13 (fun w => ⟨results_tmp2 rfl _ _ w, events_results_tmp2 rfl _ _⟩) ?_)
    exact hret _ _ _ ⟨_, _, rfl, hQ⟩
end
end Go.Proofs.Ytbamamkjmfkghaa.Crw
namespace Go.Proofs.Ytbamamkjmfkghaa.Crw
open Go Go.Conc Go.RowKit Go.Conc.Lib Go.ConcR.Gen
open Go.ConcN (upd upd_same upd_ne)
open Go.ConcR (stA smA KK WgAt wgBlock rd wr)
set_option linter.unusedVariables false
set_option maxRecDepth 100000
set_option maxHeartbeats 4000000
section
variable {B : Usr} {E : Env} {Post : Value → World → Prop} {Child : Sit (proto Try.prog B E Post)} {k : Nat} {s s₁ : St B} {w w₁ : World}

/-- A node that is to be pushed. -/
abbrev nodeV (v : Int) (n : Nat) (q : Option Addr) : List Value := [.int .i64 v, .int .u64 ((n : Int) + 1), .pointer q]

theorem cpush_x (hB : B.Laws) {A : St B → World → Prop} {Q : Option Addr → List Int → St B → World → Prop} {R : Bool → St B → World → Prop} {b m : Nat} {v : Int} (L : Look E k b A Q) (hm : m < 18446744073709551615)
    (hR : ∀ {ok s w s₁ w₁}, R ok s w → Rl k s w s₁ w₁ → R ok s₁ w₁) (hmis : ∀ {q vs s w}, Q q vs s w → vs.length ≠ m → R false s w)
    (hcas : ∀ {q vs g s w}, Q q vs s w → vs.length = m → Own k s w g TN (nodeV v m q) → Ok E s w → ∃ x : Option Addr, w.cell? ⟨b, 0, none⟩ = some (.pointer x) ∧ w.frozen? ⟨b, 0, none⟩ = false ∧ NodeP w x ∧
      ((x = q ∧ ∃ s', Mv E k s w s' (w.setCell ⟨b, 0, none⟩ (.pointer (some ⟨g, 0, none⟩))) #[rd ⟨b, 0, none⟩, wr ⟨b, 0, none⟩] ∧ Soft s s' ∧ R true s' (w.setCell ⟨b, 0, none⟩ (.pointer (some ⟨g, 0, none⟩)))) ∨
       (x ≠ q ∧ ∃ s', Mv E k s w s' w #[rd ⟨b, 0, none⟩] ∧ Soft s s' ∧ R false s' w)))
    (h : A s w) :
    CallX Try.prog B E Post Child k 14 #[.pointer (some ⟨b, 0, none⟩), .int .u64 (m : Nat), .int .i64 v] s w (fun r s w => ∃ ok, r = .bool ok ∧ R ok s w) := by
  refine ⟨Try.f14, _, Try.func14, by kernel_rfl, rfl, fun cal cs hret => ?_⟩
  walk_nrmf Try.f14
  repeat (first | ((with_reducible refine gd_op ?_); first | (refine rr_pure' hB rfl (by rfl) (by k_ne) (by rfl) (fun w₁ => by first | (simp [go_sem]; done) | simp [go_sem, *]) (fun w₁ K hK => ?_); go_simp; refine hK _ ?_; clear hK K w₁; try walk_nrm) | (refine rr_ctl hB rfl (fun _ => stepG_unwanted rfl rfl) ?_; try walk_nrm)) | ((with_reducible refine gd_rend ?_); (refine rr_regend hB hKr ?_; clear hKr Kr)) | ((with_reducible refine gd_seq ?_); refine rr_ctl hB rfl (fun _ => stepG_seq) ?_) | ((with_reducible refine gd_reg ?_); (refine rr_reg hB (fun Kr hKr => ?_); simp only [List.size_toArray, List.length_cons, List.length_nil, Nat.reduceAdd, Nat.zero_add, List.range, List.range.loop])) | ((with_reducible refine gd_skip ?_); refine rr_ctl hB rfl (fun _ => stepG_skip) ?_) | ((with_reducible refine gd_block ?_); refine rr_ctl hB rfl (fun _ => stepG_block) ?_) | ((with_reducible refine gd_inb ?_); refine rr_ctl hB rfl (fun _ => stepG_inBlock) ?_) | ((with_reducible refine gd_ret ?_); refine rr_ctl hB rfl (fun _ => stepG_ret') ?_) | ((with_reducible refine gd_exit ?_); refine rr_ctl hB rfl (fun _ => stepG_exit rfl) ?_) | ((with_reducible refine gd_end ?_); refine rr_ctl hB rfl (fun _ => stepG_end) ?_))
  (apply rr_call hB rfl (by rfl) (by k_ne) rfl; focus ((try walk_nrm); exact (top_x hB L h)))
  clear h
  rintro _ s w ⟨q, vs, rfl, hQ⟩
  walk_nrm
  by_cases he : vs.length = m
  · have hwm : IntKind.u64.wrap ((m : Int) + 1) = ((m + 1 : Nat) : Int) := by rw [IntKind.wrap_u64]; omega
    subst he
    repeat (first | ((with_reducible refine gd_op ?_); first | (refine rr_pure' hB rfl (by rfl) (by k_ne) (by rfl) (fun w₁ => by first | (simp [go_sem]; done) | simp [go_sem, *]) (fun w₁ K hK => ?_); go_simp; refine hK _ ?_; clear hK K w₁; try walk_nrm) | (refine rr_ctl hB rfl (fun _ => stepG_unwanted rfl rfl) ?_; try walk_nrm)) | ((with_reducible refine gd_rend ?_); (refine rr_regend hB hKr ?_; clear hKr Kr)) | ((with_reducible refine gd_seq ?_); refine rr_ctl hB rfl (fun _ => stepG_seq) ?_) | ((with_reducible refine gd_reg ?_); (refine rr_reg hB (fun Kr hKr => ?_); simp only [List.size_toArray, List.length_cons, List.length_nil, Nat.reduceAdd, Nat.zero_add, List.range, List.range.loop])) | ((with_reducible refine gd_skip ?_); refine rr_ctl hB rfl (fun _ => stepG_skip) ?_) | ((with_reducible refine gd_block ?_); refine rr_ctl hB rfl (fun _ => stepG_block) ?_) | ((with_reducible refine gd_inb ?_); refine rr_ctl hB rfl (fun _ => stepG_inBlock) ?_) | ((with_reducible refine gd_ret ?_); refine rr_ctl hB rfl (fun _ => stepG_ret') ?_) | ((with_reducible refine gd_exit ?_); refine rr_ctl hB rfl (fun _ => stepG_exit rfl) ?_) | ((with_reducible refine gd_end ?_); refine rr_ctl hB rfl (fun _ => stepG_end) ?_))
    refine rr_oper rfl (by rfl) (by k_ne) (fun s₁ w₁ hR hI K hK => ?_)
    replace hQ := L.hq hQ hR
    clear hR
    go_simp
    refine hK _ _ ⟨_, mv_new_at (L.hr hQ) _ (listed_nil (by simp [go_sem, *])), St.take_soft _ _ _ _, ?_⟩
    clear hK K
    have hO := own_new (k := k) s₁ w₁ (nodeV v vs.length q) TN
    replace hQ := L.hq hQ (Rl.new hB (Rl.refl hB k s₁ w₁) (.cells (nodeV v vs.length q).toArray TN))
    generalize w₁.alloc (.cells (nodeV v vs.length q).toArray TN) = w at *
    generalize s₁.take k w₁.heap.size (w₁.heap.size + 1) = s at *
    generalize w₁.heap.size = g at *
    try walk_nrm
    repeat (first | ((with_reducible refine gd_op ?_); first | (refine rr_pure' hB rfl (by rfl) (by k_ne) (by rfl) (fun w₁ => by first | (simp [go_sem]; done) | simp [go_sem, *]) (fun w₁ K hK => ?_); go_simp; refine hK _ ?_; clear hK K w₁; try walk_nrm) | (refine rr_ctl hB rfl (fun _ => stepG_unwanted rfl rfl) ?_; try walk_nrm)) | ((with_reducible refine gd_rend ?_); (refine rr_regend hB hKr ?_; clear hKr Kr)) | ((with_reducible refine gd_seq ?_); refine rr_ctl hB rfl (fun _ => stepG_seq) ?_) | ((with_reducible refine gd_reg ?_); (refine rr_reg hB (fun Kr hKr => ?_); simp only [List.size_toArray, List.length_cons, List.length_nil, Nat.reduceAdd, Nat.zero_add, List.range, List.range.loop])) | ((with_reducible refine gd_skip ?_); refine rr_ctl hB rfl (fun _ => stepG_skip) ?_) | ((with_reducible refine gd_block ?_); refine rr_ctl hB rfl (fun _ => stepG_block) ?_) | ((with_reducible refine gd_inb ?_); refine rr_ctl hB rfl (fun _ => stepG_inBlock) ?_) | ((with_reducible refine gd_ret ?_); refine rr_ctl hB rfl (fun _ => stepG_ret') ?_) | ((with_reducible refine gd_exit ?_); refine rr_ctl hB rfl (fun _ => stepG_exit rfl) ?_) | ((with_reducible refine gd_end ?_); refine rr_ctl hB rfl (fun _ => stepG_end) ?_))
    (apply rr_call hB rfl (by rfl) (by k_ne) rfl; focus ((try walk_nrm); exact (pcas_x hB (A := fun s w => Q q vs s w ∧ Own k s w g TN (nodeV v vs.length q)) (Q := R) (fun _ _ _ _ h r => ⟨L.hq h.1 r, h.2.rely r⟩) (fun s w h _ => ⟨(L.hch h.1).node, .inr ⟨g, _, _, _, rfl, h.2.hp⟩⟩) (fun s w h hI => hcas h.1 rfl h.2 hI) (fun _ _ _ _ _ => hR) ⟨hQ, hO⟩)))
    rintro _ s w ⟨ok, rfl, hF⟩
    walk_nrm
    repeat (first | ((with_reducible refine gd_op ?_); first | (refine rr_pure' hB rfl (by rfl) (by k_ne) (by rfl) (fun w₁ => by first | (simp [go_sem]; done) | simp [go_sem, *]) (fun w₁ K hK => ?_); go_simp; refine hK _ ?_; clear hK K w₁; try walk_nrm) | (refine rr_ctl hB rfl (fun _ => stepG_unwanted rfl rfl) ?_; try walk_nrm)) | ((with_reducible refine gd_rend ?_); (refine rr_regend hB hKr ?_; clear hKr Kr)) | ((with_reducible refine gd_seq ?_); refine rr_ctl hB rfl (fun _ => stepG_seq) ?_) | ((with_reducible refine gd_reg ?_); (refine rr_reg hB (fun Kr hKr => ?_); simp only [List.size_toArray, List.length_cons, List.length_nil, Nat.reduceAdd, Nat.zero_add, List.range, List.range.loop])) | ((with_reducible refine gd_skip ?_); refine rr_ctl hB rfl (fun _ => stepG_skip) ?_) | ((with_reducible refine gd_block ?_); refine rr_ctl hB rfl (fun _ => stepG_block) ?_) | ((with_reducible refine gd_inb ?_); refine rr_ctl hB rfl (fun _ => stepG_inBlock) ?_) | ((with_reducible refine gd_ret ?_); refine rr_ctl hB rfl (fun _ => stepG_ret') ?_) | ((with_reducible refine gd_exit ?_); refine rr_ctl hB rfl (fun _ => stepG_exit rfl) ?_) | ((with_reducible refine gd_end ?_); refine rr_ctl hB rfl (fun _ => stepG_end) ?_))
    (refine rr_leave hB rfl rfl Try.func14 (fun w => ⟨results_tmp rfl _ _ w, events_results_tmp rfl _ _⟩) ?_)
    exact hret _ _ _ ⟨_, rfl, hF⟩
  · have hne : ((vs.length : Int) == (m : Int)) = false := by rw [beq_eq_false_iff_ne]; omega
    repeat (first | ((with_reducible refine gd_op ?_); first | (refine rr_pure' hB rfl (by rfl) (by k_ne) (by rfl) (fun w₁ => by first | (simp [go_sem]; done) | simp [go_sem, *]) (fun w₁ K hK => ?_); go_simp; refine hK _ ?_; clear hK K w₁; try walk_nrm) | (refine rr_ctl hB rfl (fun _ => stepG_unwanted rfl rfl) ?_; try walk_nrm)) | ((with_reducible refine gd_rend ?_); (refine rr_regend hB hKr ?_; clear hKr Kr)) | ((with_reducible refine gd_seq ?_); refine rr_ctl hB rfl (fun _ => stepG_seq) ?_) | ((with_reducible refine gd_reg ?_); (refine rr_reg hB (fun Kr hKr => ?_); simp only [List.size_toArray, List.length_cons, List.length_nil, Nat.reduceAdd, Nat.zero_add, List.range, List.range.loop])) | ((with_reducible refine gd_skip ?_); refine rr_ctl hB rfl (fun _ => stepG_skip) ?_) | ((with_reducible refine gd_block ?_); refine rr_ctl hB rfl (fun _ => stepG_block) ?_) | ((with_reducible refine gd_inb ?_); refine rr_ctl hB rfl (fun _ => stepG_inBlock) ?_) | ((with_reducible refine gd_ret ?_); refine rr_ctl hB rfl (fun _ => stepG_ret') ?_) | ((with_reducible refine gd_exit ?_); refine rr_ctl hB rfl (fun _ => stepG_exit rfl) ?_) | ((with_reducible refine gd_end ?_); refine rr_ctl hB rfl (fun _ => stepG_end) ?_))
    (refine rr_leave hB rfl rfl Try.func14 (fun w => ⟨results_tmp rfl _ _ w, events_results_tmp rfl _ _⟩) ?_)
    exact hret _ _ _ ⟨_, rfl, hmis hQ he⟩
end
end Go.Proofs.Ytbamamkjmfkghaa.Crw
