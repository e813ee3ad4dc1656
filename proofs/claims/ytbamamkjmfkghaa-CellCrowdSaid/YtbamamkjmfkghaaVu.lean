/- A crowd pushes: from what came in to the run's end.
No condition. -/
import Derived.Test.YtbamamkjmfkghaaVt
import Derived.Test.YtbamamkjmfkghaaOpen
set_option linter.unusedSimpArgs false
set_option linter.unusedVariables false
namespace Go.Proofs.Ytbamamkjmfkghaa.Crw
open Go Go.Conc Go.RowKit Go.Proofs.YtbamamkjmfkghaaW.PrintWords Go.Proofs.Ytbamamkjmfkghaa.Kit
open Go.ConcN (upd upd_same upd_ne)
set_option linter.unusedVariables false
set_option maxRecDepth 100000
set_option maxHeartbeats 4000000

def mode0 (W : World) : Loc → Go.Proofs.Ytbamamkjmfkghaa.Crw.Mode
  | .cell a => if a.block < W.heap.size then .ro 0 else .own 0
  | .obj r => if r < W.heap.size then .ro 0 else .own 0
  | _ => .own 0
def st0 (W : World) : St cellU := { tg := { n := 1, mode := mode0 W, kn := fun _ _ => False, deaf := fun _ => 0, rel := fun _ => false, fin := fun _ => false, wg := 0, joined := false, hd := none }, on := false, ph := .opn, alive := [], pend := false, u := { on := false, h := 0, ns := [], don := [], all := [], st := 0 } }
def env0 (W : World) : Env := { W0 := W, ty := 43, N := 100, small := by decide }
theorem mode0_cases (W : World) (l : Loc) : mode0 W l = .ro 0 ∨ mode0 W l = .own 0 := by
  cases l <;> simp only [mode0] <;> (try split) <;> simp
theorem ok0 (W : World) : Ok (env0 W) (st0 W) W := by
  refine ⟨⟨Nat.le_refl _, fun _ _ => rfl, rfl, rfl, rfl⟩, ⟨fun l hm hl => ?_, fun l hl => ?_, fun l k e => ?_, fun e => (by cases e), fun l e => ?_⟩, ⟨fun k => ⟨fun h => (by simp [st0] at h), fun ⟨h1, h2, _⟩ => ?_⟩, List.nodup_nil, Nat.le_refl _, (by show 1 ≤ 100; decide), fun e => (by cases e), fun k b e => (by cases e), fun e => (by cases e), fun _ => ⟨rfl, rfl, rfl, rfl⟩, fun k h1 h2 => ?_, rfl, fun e => (by cases e)⟩, fun e => (by cases e), fun a e => (by cases e), fun e => (by cases e), fun _ k h1 h2 => ?_, fun i l h => h.elim⟩
  · cases l with
    | cell a => exact if_pos (show a.block < W.heap.size from hl)
    | obj r => exact if_pos (show r < W.heap.size from hl)
    | _ => cases hm
  · cases l with
    | cell a => exact if_neg (show ¬ a.block < W.heap.size from hl)
    | obj r => exact if_neg (show ¬ r < W.heap.size from hl)
    | _ => exact absurd trivial hl
  · rcases mode0_cases W l with h | h
    · cases h.symm.trans e
    · cases h.symm.trans e; exact Nat.lt_succ_self 0
  · rcases mode0_cases W l with h | h <;> cases h.symm.trans e
  · have : k < 1 := h2; omega
  · have : k < 1 := h2; omega
  · have : k < 1 := h2; omega
theorem noTouch (i : Nat) (a : Touch) : ¬ touchAt #[] i = some a := by simp [touchAt, Trace.act?]
theorem ti0 (W : World) : TI (st0 W).tg #[] W.heap.size := by
  refine ⟨fun said => Go.ConcN.noRace_nil said, fun l k _ _ i a ha => absurd ha (noTouch i a), fun l m _ _ k _ _ i a ha => absurd ha (noTouch i a), fun l _ _ i a ha => absurd ha (noTouch i a), fun l _ e => ?_, fun l _ _ k _ hk => hk.elim, fun i op h => (by simp at h), fun k _ _ => rfl, fun i a h => (by simp [Trace.act?] at h), fun k h1 h2 => ?_, fun e => (by cases e), fun i a ha => absurd ha (noTouch i a)⟩
  · rcases mode0_cases W l with h | h <;> cases h.symm.trans e
  · have : k < 1 := h2; omega

theorem law_run (W : World) {ls : List (List Int)} {A : Option Addr} {cap : Nat} (hL : OldL W A ls) :
    ∃ M last o w' t', runNT Try.prog (M + 1) (solo (G (Frame.enter Try.prog 3 #[.slice A ls.length cap] .normal) []) W) #[] = (.ended o w', t') ∧ runN Try.prog M (solo (G (Frame.enter Try.prog 3 #[.slice A ls.length cap] .normal) []) W) = .next last ∧
      step Try.prog last = .ended o w' ∧ Conc.Good Try.prog (fun v w => v = .bool true ∧ Below W.heap.size W w) last o w' t' := by
  have hb : Begin (st0 W) := ⟨rfl, rfl, rfl, rfl, rfl⟩
  have hp : ∀ w, Below (env0 W).W0.heap.size (env0 W).W0 w → (fun v w => v = Value.bool true ∧ Below W.heap.size W w) (.bool true) w := fun w h => ⟨rfl, h⟩
  refine crw_runs (A := proto Try.prog cellU (env0 W) fun v w => v = .bool true ∧ Below W.heap.size W w) (proto_laws Try.prog cellLaws (env0 W) _) (s := st0 W) ⟨ok0 W, ti0 W⟩ rfl ?_
  rw [enter_at _ Try.func3 (c := Try.f3.body.getD .skip) (by simp [Try.f3])]
  by_cases hr : refused ls = 0
  · have h1 : ¬ (64 < ls.length ∨ 65536 < wsum ls) := fun h => by unfold refused at hr; rw [if_pos h] at hr; cases hr
    have hw := wsum_small (ls := ls) (by omega) fun l hl => by have := hL.lens l hl; omega
    exact law_main cellLaws rfl (by show 66 ≤ 100; decide) hp (by omega) (by omega) (by omega) hL hb
  · exact law_refused cellLaws hp hL hb hr

/-! ### what came in -/
theorem kIs_opens : Opens Try.prog 23 (Kd.slice 2 (Kd.int .i64)) (fun xs => xs.length * 8 ≤ 140737488351232 ∧ ∀ x ∈ xs, (Lit.int .i64 x).wf = true) :=
  opens_slice Try.underlying23 (by kernel_rfl) 8 (by kernel_rfl) (opens_int .i64 Try.underlying2)
theorem kIss_opens : Opens Try.prog 22 (Kd.slice 23 (Kd.slice 2 (Kd.int .i64))) (fun xs => xs.length * 24 ≤ 140737488351232 ∧ ∀ l ∈ xs, l.length * 8 ≤ 140737488351232 ∧ ∀ x ∈ l, (Lit.int .i64 x).wf = true) :=
  opens_slice Try.underlying22 (by kernel_rfl) 24 (by kernel_rfl) kIs_opens
theorem oldL_of {W : World} {A : Option Addr} {ls : List (List Int)} (hC : (Kd.slice 2 (Kd.int .i64)).C W A ls.length ls) (hok : ls.length * 24 ≤ 140737488351232 ∧ ∀ l ∈ ls, l.length * 8 ≤ 140737488351232 ∧ ∀ x ∈ l, (Lit.int .i64 x).wf = true) : OldL W A ls := by
  refine ⟨fun i hi => ?_, by have := hok.1; omega, fun l hl => by have := (hok.2 l hl).1; omega⟩
  obtain ⟨b, o, l, cs, rfl, hl, hK, hc⟩ := C_at (s := 1) rfl (by omega) hC i hi
  rw [List.getElem?_eq_getElem hi] at hl
  cases hl
  obtain ⟨Ai, ci, rfl, hle, hCi⟩ := hK
  refine ⟨b, o, Ai, ci, rfl, by simpa using hc 0 _ rfl, hle, fun j hj => ?_⟩
  obtain ⟨b', o', x, cs', rfl, hx, hK', hc'⟩ := C_at (s := 1) rfl (by omega) hCi j hj
  rw [List.getElem?_eq_getElem hj] at hx
  cases hx
  have e : cs' = [.int .i64 ls[i][j]] := hK'
  subst e
  exact ⟨b', o', rfl, by simpa using hc' 0 _ rfl⟩
end Go.Proofs.Ytbamamkjmfkghaa.Crw
