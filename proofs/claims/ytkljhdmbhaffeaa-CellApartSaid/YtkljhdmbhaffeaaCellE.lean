/- The law's own awake over layer 7; the law's arguments. -/
import Derived.Test.YtkljhdmbhaffeaaCellD
import Derived.Test.YtkljhdmbhaffeaaOpen
namespace Go.Proofs.Ytkljhdmbhaffeaa.Cell
set_option linter.unusedVariables false
set_option linter.unusedSimpArgs false
open Go.RowKit Go.Proofs.YtkljhdmbhaffeaaW.PrintWords Go.Proofs.Ytkljhdmbhaffeaa.Kit

set_option maxHeartbeats 800000 in
theorem awakeCalls (w : World) : Calls Try.prog 9 #[] w fun e w' => e = .returned (.bool true) ∧ Below w.heap.size w w' := by
  go_enter Try.func9, Try.ntmps9
  go_wp2_with fail
  refine (newCalls _).mono ?_
  rintro e w1 ⟨rfl, ha, hb⟩
  have HA := Aside0.mk ha
  have HB := Aside0.mk hb
  clear ha hb
  go_wp2_with fail
  refine (pushHit _ [] 0 5 _ HA.out).mono ?_
  rintro e w2 ⟨rfl, ha2, ho2⟩
  have e1 : IntKind.u64.wrap (0 + 1) = 1 := by decide +kernel
  rw [e1] at ha2
  have HA2 : Aside0 (At encI TC TN w2 w.heap.size [5] 1) := ⟨ha2⟩
  have HB2 : Aside0 (Below w.heap.size w w2) := ⟨HB.out.trans (ho2.below (fun i (e : i = w.heap.size) => Nat.le_of_eq e.symm) HB.out.size)⟩
  clear ha2 ho2 HA HB
  go_wp2_with fail
  refine (loadCalls _ [5] 1 _ HA2.out).mono ?_
  rintro e w3 ⟨rfl, ⟨nd, rfl⟩⟩
  have HB3 := Aside0.mk (pw_below_drewN HB2.out nd)
  simp only [newest, List.headD_cons]
  clear HA2
  go_wp2
  go_ret
  exact ⟨rfl, HB3.out⟩

/-! what the law is given -/
def kAct : Kd Act := Kd.iso (Kd.pair (Kd.int .i64) (Kd.pair (Kd.int .i64) (Kd.int .i64))) (fun x => (x.kind, x.off, x.n))
theorem kAct_cells {w : World} {x : Act} {cs : List Value} (h : kAct.K w x cs) : cs = [.int .i64 x.kind, .int .i64 x.off, .int .i64 x.n] := by
  obtain ⟨c0, c1, rfl, h0, c2, c3, rfl, h1, h2⟩ := h
  rw [show c0 = [.int .i64 x.kind] from h0, show c2 = [.int .i64 x.off] from h1, show c3 = [.int .i64 x.n] from h2]
  rfl
theorem kAct_at {w : World} {A : Option Addr} {n : Nat} {xs : List Act} (h : kAct.C w A n xs) (i : Nat) (hi : i < n) : ∃ b o x, A = some ⟨b, o, none⟩ ∧ xs[i]? = some x ∧ w.cell? ⟨b, o + i * 3, none⟩ = some (.int .i64 x.kind) ∧ w.cell? ⟨b, o + i * 3 + 1, none⟩ = some (.int .i64 x.off) ∧ w.cell? ⟨b, o + i * 3 + 2, none⟩ = some (.int .i64 x.n) := by
  obtain ⟨b, o, x, cs, rfl, hx, hK, hc⟩ := C_at (s := 3) rfl (by omega) h i hi
  have := kAct_cells hK
  subst this
  exact ⟨b, o, x, rfl, hx, hc 0 _ rfl, hc 1 _ rfl, hc 2 _ rfl⟩
theorem kActs_opens : Opens Try.prog 22 (Kd.slice TA kAct) (fun xs => xs.length * 24 ≤ 140737488351232 ∧ ∀ x ∈ xs, (Lit.int .i64 x.kind).wf = true ∧ (Lit.int .i64 x.off).wf = true ∧ (Lit.int .i64 x.n).wf = true) :=
  opens_slice Try.underlying22 (by kernel_rfl) 24 (by kernel_rfl)
    (opens_struct (fun x : Act => (x.kind, x.off, x.n)) (fun a => ⟨a.1, a.2.1, a.2.2⟩) (fun _ => rfl) Try.underlying33 3 (by kernel_rfl) _ rfl
      (opensFs_cons rfl (opens_int .i64 Try.underlying3) (opensFs_cons (by kernel_rfl) (opens_int .i64 Try.underlying3) (opensFs_one (by kernel_rfl) (by kernel_rfl) (opens_int .i64 Try.underlying2)))))

theorem kStrs_opens : Opens Try.prog 39 (Kd.slice 9 Kd.string) (fun xs => xs.length * 16 ≤ 140737488351232 ∧ ∀ x ∈ xs, x.size ≤ 140737488351232) :=
  opens_slice Try.underlying39 (by kernel_rfl) 16 (by kernel_rfl) (opens_string Try.underlying9)
/-- What some calls leave. -/
def stepsV (s : List Int × Int) (l : List Act) : List Int × Int := l.foldl (fun s a => stepV s.1 s.2 a) s
theorem stepsV_take (s : List Int × Int) (l : List Act) (j : Nat) (x : Act) (h : l[j]? = some x) : stepsV s (l.take (j + 1)) = stepV (stepsV s (l.take j)).1 (stepsV s (l.take j)).2 x := by
  obtain ⟨hlt, hx⟩ := List.getElem?_eq_some_iff.1 h
  rw [List.take_succ_eq_append_getElem hlt, hx, stepsV, List.foldl_append]
  rfl
theorem stepsV_len (s : List Int × Int) (l : List Act) : (stepsV s l).1.length ≤ s.1.length + l.length := by
  unfold stepsV
  induction l generalizing s with
  | nil => simp
  | cons a l ih =>
    rw [List.foldl_cons, List.length_cons]
    have h1 := ih (stepV s.1 s.2 a)
    have h2 := stepV_len s.1 s.2 a
    omega
end Go.Proofs.Ytkljhdmbhaffeaa.Cell
