/- Layer 13: Wait, behind a granted ticket and behind one that is not there. -/
import Derived.Test.YtkgabeloofjohaaGapL
import Derived.Conc.LoneCalls
import Derived.KernelRfl
namespace Go.Proofs.Ytkgabeloofjohaa.Gap
set_option linter.unusedVariables false
set_option linter.unusedSimpArgs false
open Go.RowKit Go.Proofs.YtkgabeloofjohaaW.PrintWords Go.Proofs.Ytkgabeloofjohaa.Kit Go.MuLone Go.Conc

/-- A call of which a contract is known, amid a walk of the machine of one. -/
theorem loneCall {P : Program} {Q : Goroutine → World → Prop} {b : Frame} {a : Act} {k : List Item} {cs : List Frame} {w : World} {ops : Array Oper} {i : Nat} {rest : List Nat} {o : Oper} {f : FuncId} {fn : Func} {c : Code} {args : Array Operand} {ats : Array TypeId} {vs : Array Value} {R : Ending → World → Prop}
    (ho : ops[i]? = some o) (hw : Region.wanted o (yielded ops a.tmps) = true) (hk : b.kind ≠ .early) (hop : o.op = .call { callee := .value (.func f), args, argTypes := ats })
    (hf : P.funcs[f]? = some fn) (hname : (fn.name == "runtime.NumGoroutine") = false) (hb : fn.body = some c)
    (hv : args.map a.eval = vs) (hc : Calls P f vs w R) (h : ∀ e w', R e w' → ∃ v, e = .returned v ∧ LoneTo P Q (G (b.at (a.put ((ops[i]?).bind (·.dst)) v) (.inRegion ops rest :: k)) cs) w') :
    LoneTo P Q (G (b.at a (.inRegion ops (i :: rest) :: k)) cs) w := by
  subst hv
  have hb' : fn.body.isNone = false := by rw [hb]; rfl
  have hs : stepG P true (G (b.at a (.inRegion ops (i :: rest) :: k)) cs) w = .go (G (Frame.enter P f (args.map a.eval) .normal) (b.at a (.inRegion ops (i :: rest) :: k) :: cs)) w (listed P b.fn a o w) := stepG_enter ho hw hk (run_call_body hop hf hname hb')
  refine .step (step_solo_go rfl hs) ?_
  obtain ⟨e, w', fr, hR, hcome, hfn, hl⟩ := hc (b.at a (.inRegion ops (i :: rest) :: k) :: cs)
  obtain ⟨v, rfl, hL⟩ := h e w' hR
  have hst := step_leave_returned (c := b.at a (.inRegion ops (i :: rest) :: k)) (cs := cs) hl
  rw [Frame.finish_at] at hst
  obtain ⟨g₂, w₂, hs2, hq⟩ := LoneTo.step (g := G fr (b.at a (.inRegion ops (i :: rest) :: k) :: cs)) hst hL
  exact ⟨g₂, w₂, Steps.trans hcome hs2, hq⟩

theorem waitNone (g : Nat) (v : Value) (ts : List Tk) (last n : Int) (w : World) (h : Ga w g 0 v ts last) (hn : findT ts n = none) :
    Calls Try.prog 11 #[ptrV g, .int .u64 n] w fun e w' => e = .returned (.int .i64 130) ∧ Ga w' g 0 v ts last ∧ Only (use g v ts) w w' := by
  have HT := Aside0.mk (takerCalls g v ts last n w h)
  rw [hn] at HT
  simp only [tkV] at HT
  clear h hn
  go_enter Try.func11, Try.ntmps11
  go_wp2_with fail
  refine HT.out.mono ?_
  rintro e w1 ⟨rfl, h1, ho1⟩
  have H1 := Aside0.mk h1
  have HO1 := Aside0.mk ho1
  clear h1 ho1 HT
  go_wp2
  go_ret
  exact ⟨rfl, H1.out, HO1.out⟩

set_option maxRecDepth 100000 in
set_option maxHeartbeats 4000000 in
theorem waitOk (g : Nat) (v : Value) (ts : List Tk) (last n : Int) (k : Tk) (w : World) (h : Ga w g 0 v ts last) (hn : findT ts n = some k) (hg : k.gr = true) :
    Calls Try.prog 11 #[ptrV g, .int .u64 n] w fun e w' => e = .returned (.int .i64 0) ∧ Ga w' g 0 v ts last ∧ Only (use g v ts) w w' := by
  have HT : Aside0 (∀ W, Ga W g 0 v ts last → Calls Try.prog 24 #[ptrV g, .int .u64 n] W fun e w' => e = .returned (ptrV k.id) ∧ Ga w' g 0 v ts last ∧ Only (use g v ts) W w') := ⟨fun W hW => by
    have := takerCalls g v ts last n W hW
    rw [hn] at this
    exact this⟩
  have HM := Aside0.mk (findT_mem hn).1
  clear hn
  refine calls_of_loneTo fun cs => ?_
  have e : Frame.enter Try.prog 11 #[ptrV g, .int .u64 n] .normal = (base 11).at ⟨#[ptrV g, .int .u64 n, undef, undef, undef, undef, undef, undef, undef, undef, undef, undef, undef, undef, undef, undef, undef, undef, undef, undef], []⟩ [.code (Try.f11.body.getD .skip)] := by
    simp [Frame.enter, Frame.at, Try.func11, base, Try.f11]
  rw [e]
  refine LoneTo.goes (n := 40) ?_
  simp only [Try.f11, Option.getD_some]
  s_c stepG_seq
  s_reg
  s_op
  s_c stepG_region_end
  s_c stepG_seq
  s_reg
  s_op
  s_op
  s_stop
  refine loneCall rfl rfl (by decide) rfl Try.func24 (by decide) rfl (by simp [Act.eval]) (HT.out w h) ?_
  rintro e1 w1 ⟨rfl, h1, ho1⟩
  refine ⟨_, rfl, ?_⟩
  walk_nrm
  have H1 := Aside0.mk h1
  have HO1 := Aside0.mk ho1
  have c3 := (h1.tk k HM.out).blk.cell 3 _ rfl
  have hch := (h1.tk k HM.out).ch
  rw [hg] at hch
  clear h1 ho1 h
  generalize k.id = kid at *
  generalize k.ch = kch at *
  refine LoneTo.goes (n := 40) ?_
  s_op
  s_c stepG_region_end
  s_c stepG_seq
  s_c stepG_seq
  s_reg
  s_op
  s_op
  s_c stepG_region_end
  s_cond false
  s_c stepG_skip
  s_c stepG_seq
  s_reg
  s_op
  s_op
  s_op
  s_op
  s_stop
  refine LoneTo.step (step_lone_recv_shut (c := kch) (z := .agg #[]) (cap := 0) (s := 0) (r := 0) (tm := false) false (stepG_comm (cases := #[rcase kch (.agg #[])]) (blocking := true) (shape := .recv false) (w' := w1) rfl rfl (by decide) (by simp [go_sem, execOp, rcase, Act.eval])) hch) ?_
  rw [Frame.finish_at]
  walk_nrm
  refine LoneTo.goes (n := 40) ?_
  s_c stepG_region_end
  s_c stepG_seq
  s_c stepG_seq
  s_reg
  s_op
  s_op
  s_stop
  refine loneCall rfl rfl (by decide) rfl Try.func24 (by decide) rfl (by simp [Act.eval]) (HT.out w1 H1.out) ?_
  rintro e2 w2 ⟨rfl, h2, ho2⟩
  refine ⟨_, rfl, ?_⟩
  walk_nrm
  refine LoneTo.goes (n := 40) ?_
  s_op
  s_c stepG_region_end
  s_cond false
  s_c stepG_skip
  s_c stepG_seq
  s_reg
  s_op
  s_c stepG_region_end
  s_c stepG_ret'
  s_stop
  exact LoneTo.done ⟨.returned (.int .i64 0), _, rfl, ⟨rfl, h2, HO1.out.trans ho2⟩, rfl, rfl, rfl, rfl, _, Try.func11, by simp [results, Try.f11, Frame.at]⟩
end Go.Proofs.Ytkgabeloofjohaa.Gap
