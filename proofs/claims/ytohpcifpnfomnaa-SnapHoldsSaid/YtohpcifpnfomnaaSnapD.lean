/- sync/atomic's Swap in a lone run; leave. -/
import Derived.Test.YtohpcifpnfomnaaSnapC
namespace Go.Proofs.Ytohpcifpnfomnaa.Snap
set_option linter.unusedVariables false
set_option linter.unusedSimpArgs false
open Go.RowKit Go.Proofs.YtohpcifpnfomnaaW.PrintWords Go.Proofs.Ytohpcifpnfomnaa.Kit Go.MuLone

theorem run_call_swap {P : Program} {f : FuncId} {fn : Func} (hf : P.funcs[f]? = some fn) (hname : (fn.name == "runtime.NumGoroutine") = false) (hb : fn.body.isNone = true) (hn : Extern.findNext fn = none) (k : IntKind)
    (he : Extern.find fn = some (Extern.Atomic.swapT (.int k))) {a : Addr} {x y : Int} {w : World} (hc : w.cell? a = some (.int k x)) (hz : w.frozen? a = false) :
    (callFunc f #[.pointer (some a), .int k y]).run P w = .ok (.value (.int k x)) (w.setCell a (.int k y)) := by
  rw [run_callFunc_extern hf hname hb hn he]
  change (Sem.run P (do
    let a' ← asAddr (.pointer (some a))
    let old ← Extern.Atomic.read (.int k) a'
    store a' (.int k y) .atomic
    pure old) w).andThen _ = _
  simp [Extern.Atomic.read, asAddr, hc, hz, run_store P w a (.int k y) .atomic rfl, Result.andThen]
theorem u64Swap (b o : Nat) (u v : Int) (w : World) (h : w.cell? ⟨b, o, none⟩ = some (.int .u64 u)) (z : w.frozen? ⟨b, o, none⟩ = false) :
    Calls Try.prog 35 #[.pointer (some ⟨b, o, none⟩), .int .u64 v] w fun e w' => e = .returned (.int .u64 u) ∧ w.setCell ⟨b, o, none⟩ (.int .u64 v) = w' := by
  have ha := run_call_swap (P := Try.prog) Try.func47 (by kernel_rfl) (by kernel_rfl) (by kernel_rfl) .u64 (by kernel_rfl) (y := v) h z
  go_enter Try.func35, Try.ntmps35
  go_wp2
  go_ret
  exact ⟨rfl, rfl⟩
theorem leaveOut (p : Nat) (s : Int) (w : World) (h : s < 0 ∨ 256 ≤ s) :
    Calls Try.prog 22 #[.pointer (some ⟨p, 0, none⟩), .int .i64 s] w fun e w' => e = .returned (.int .i64 100) ∧ w = w' := by
  by_cases h0 : s < 0
  · clear h
    go_enter Try.func22, Try.ntmps22
    go_wp2
    go_ret
    exact ⟨rfl, rfl⟩
  · have h1 : 256 ≤ s := by omega
    clear h
    go_enter Try.func22, Try.ntmps22
    go_wp2
    go_ret
    exact ⟨rfl, rfl⟩
set_option maxRecDepth 100000 in
/-- leave of a slot: it is free behind it; an error where it was free. -/
theorem leaveIn (p : Nat) (st fl : Int) (rs : List Int) (q : Nat) (w : World) (h : Sn w p st fl rs) (hq : q < 256) :
    Calls Try.prog 22 #[.pointer (some ⟨p, 0, none⟩), .int .i64 (q : Int)] w fun e w' => e = .returned (.int .i64 (if rd rs (q : Int) = 0 then 100 else 0)) ∧ Sn w' p st fl (rs.set q 0) ∧ Only (fun i => i = p) w w' := by
  have HS := Aside0.mk (u64Swap p (4 + q) _ 0 w (h.cr q hq) (h.row.free _))
  have H := Aside0.mk h
  have h0 : ¬ (q : Int) < 0 := by omega
  have h1 : (q : Int) < 256 := by omega
  clear h
  generalize rd rs (q : Int) = x at *
  by_cases hx : x = 0
  · subst hx
    rw [if_pos rfl]
    go_enter Try.func22, Try.ntmps22
    go_wp2_with fail
    refine HS.out.mono ?_
    rintro e w' ⟨rfl, hw'⟩
    have HX : Aside0 (Sn w' p st fl (rs.set q 0)) := ⟨by rw [← hw']; exact H.out.set q hq 0 (by decide) (by decide)⟩
    have HO : Aside0 (Only (fun i => i = p) w w') := ⟨by rw [← hw']; exact Only.setCell (S := fun i => i = p) (Only.refl _ w) (p := ⟨p, 4 + q, none⟩) (Or.inl rfl) _⟩
    clear hw' HS
    go_wp2
    go_ret
    exact ⟨rfl, HX.out, HO.out⟩
  · rw [if_neg hx]
    have hb : (x == 0) = false := by rw [beq_eq_false_iff_ne]; exact hx
    clear hx
    go_enter Try.func22, Try.ntmps22
    go_wp2_with fail
    refine HS.out.mono ?_
    rintro e w' ⟨rfl, hw'⟩
    have HX : Aside0 (Sn w' p st fl (rs.set q 0)) := ⟨by rw [← hw']; exact H.out.set q hq 0 (by decide) (by decide)⟩
    have HO : Aside0 (Only (fun i => i = p) w w') := ⟨by rw [← hw']; exact Only.setCell (S := fun i => i = p) (Only.refl _ w) (p := ⟨p, 4 + q, none⟩) (Or.inl rfl) _⟩
    clear hw' HS
    go_wp2
    go_ret
    exact ⟨rfl, HX.out, HO.out⟩
set_option maxRecDepth 100000 in
set_option maxHeartbeats 1600000 in
theorem leaveGen (p : Nat) (fl s en : Int) (rs rs' : List Int) (w : World) (h : Sn w p 0 fl rs)
    (HC : Aside0 (∀ W, Sn W p 1 fl rs → Calls Try.prog 22 #[.pointer (some ⟨p, 0, none⟩), .int .i64 s] W fun e w' => e = .returned (.int .i64 en) ∧ Sn w' p 1 fl rs' ∧ Only (fun i => i = p) W w')) :
    Calls Try.prog 9 #[.pointer (some ⟨p, 0, none⟩), .int .i64 s] w fun e w' => e = .returned (.int .i64 en) ∧ Sn w' p 0 fl rs' ∧ Only (fun i => i = p) w w' := by
  have HI := Aside0.mk (isCalls p 0 fl rs w h)
  have H := Aside0.mk h
  clear h
  go_enter_defers Try.func9, Try.ntmps9
  go_wp2_with fail
  refine HI.out.mono ?_
  rintro e w' ⟨rfl, rfl⟩
  go_wp2_with fail
  refine (lock_free muLib ⟨p, 1, none⟩ w H.out.c1 (H.out.row.free 1)).mono ?_
  rintro e w1 ⟨rfl, hw1⟩
  have H1 : Aside0 (Sn w1 p 1 fl rs) := ⟨by rw [hw1]; exact H.out.lock 1⟩
  have HO1 : Aside0 (Only (fun i => i = p) w w1) := ⟨by rw [hw1]; exact lockOnly w p _⟩
  clear hw1 H HI
  go_wp2_with fail
  refine (HC.out w1 H1.out).mono ?_
  rintro e w2 ⟨rfl, h2, ho2⟩
  have H2 := Aside0.mk h2
  have HO2 := Aside0.mk (HO1.out.trans ho2)
  clear h2 ho2 HC H1 HO1
  go_wp2_with fail
  refine leaves_cons (f := 20) (args := #[.pointer (some ⟨p, 1, none⟩)]) (by simp) (by simp [go_sem]) ?_
  refine (unlock_deferred muLib ⟨p, 1, none⟩ .returning _ H2.out.c1 (H2.out.row.free 1)).mono ?_
  rintro e u' w3 ⟨rfl, rfl, hw3⟩
  have H3 : Aside0 (Sn w3 p 0 fl rs') := ⟨by rw [hw3]; exact H2.out.lock 0⟩
  have HO3 : Aside0 (Only (fun i => i = p) w w3) := ⟨by rw [hw3]; exact HO2.out.trans (lockOnly w2 p _)⟩
  clear hw3 H2 HO2
  exact ⟨_, results_tmp rfl _ _ _, rfl, H3.out, HO3.out⟩
end Go.Proofs.Ytohpcifpnfomnaa.Snap
