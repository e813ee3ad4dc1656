/- Layer 13: who stands in a taker's way (printed by wip/tools/gapg.py). -/
import Derived.Test.YtkgabeloofjohaaGapF
import Derived.Deep.QuietTactic
import Derived.BigQuiet
import Derived.Deep.RegionHeld3
namespace Go.Proofs.Ytkgabeloofjohaa.Gap
set_option linter.unusedVariables false
set_option linter.unusedSimpArgs false
open Go.RowKit Go.Proofs.YtkgabeloofjohaaW.PrintWords Go.Proofs.Ytkgabeloofjohaa.Kit

abbrev TU : TypeId := 26
abbrev TUs : TypeId := 29
def isAhead (k x : Tk) : Bool := decide (x.t < k.t) && wayB x.hs k.hs
def aheadK (ts : List Tk) (k : Tk) : List Int := (ts.filter (isAhead k)).map (·.t)
def aheadP (ts : List Tk) (k : Tk) (i : Nat) : List Int := ((ts.take i).filter (isAhead k)).map (·.t)
theorem aheadP_zero (ts : List Tk) (k : Tk) : aheadP ts k 0 = [] := by simp [aheadP]
theorem aheadP_all (ts : List Tk) (k : Tk) : aheadP ts k ts.length = aheadK ts k := by simp [aheadP, aheadK]
theorem aheadP_succ {ts : List Tk} {k x : Tk} {i : Nat} (h : ts[i]? = some x) : aheadP ts k (i + 1) = aheadP ts k i ++ (if isAhead k x then [x.t] else []) := by
  unfold aheadP
  rw [List.take_add_one, h, Option.toList_some, List.filter_append, List.map_append]
  congr 1
  by_cases hx : isAhead k x = true
  · simp [hx]
  · simp [hx]
theorem aheadP_le (ts : List Tk) (k : Tk) (i : Nat) : (aheadP ts k i).length ≤ i := by
  unfold aheadP
  rw [List.length_map]
  exact Nat.le_trans (List.length_filter_le _ _) (by rw [List.length_take]; omega)

set_option maxRecDepth 100000 in
set_option maxHeartbeats 4000000 in
theorem aheadCalls (g : Nat) (st : Int) (v : Value) (ts : List Tk) (last : Int) (k : Tk) (w : World) (h : Ga w g st v ts last) (hk : TkIs w k) :
    Calls Try.prog 40 #[ptrV g, ptrV k.id] w fun e w' => ∃ v1, e = .returned v1 ∧ (Kd.int .u64).R TU w' w.heap.size (fun _ => True) v1 (aheadK ts k) ∧ Below w.heap.size w w' := by
  obtain ⟨A, c, rfl, hC⟩ := h.slice
  have HC := Aside0.mk hC
  have HT := Aside0.mk h.tk
  have HKk := Aside0.mk hk
  have HS := Aside0.mk h.small
  have c3 := h.cell3
  clear h hC hk
  go_enter Try.func40, Try.ntmps40
  go_wp2_with fail
  go_loopw [13, 5] (fun v u wr => ∃ i : Nat, i ≤ ts.length ∧ v = .int .i64 i ∧ Aside0 ((Kd.int .u64).R TU wr w.heap.size (fun _ => True) u (aheadP ts k i)) ∧ Aside0 (Below w.heap.size w wr)) (fun v u _ => ts.length - (intOf v).toNat)
  case atStart => exact ⟨0, Nat.zero_le _, rfl, ⟨by rw [aheadP_zero]; exact Kd.R_nil _ _ _ _ _⟩, ⟨Below.refl _ _⟩⟩
  case round =>
    clear c3
    obtain ⟨i, hi, rfl, HR, HB⟩ := hrel
    have hs := HS.out
    by_cases hlt : i < ts.length
    · obtain ⟨b, o, x, rfl, hx, c0⟩ := kP_at (Kd.C_below HC.out HB.out) i hlt
      obtain ⟨x, hx', rfl⟩ := map_at _ hx
      clear hx
      have hx := hx'
      have HXs := Aside0.mk hx'
      clear hx'
      have i1 : (i : Int) < (ts.length : Int) := by omega
      have hX := HT.out x (List.mem_of_getElem? hx)
      have HM : Aside0 (∀ W, Below wr.heap.size wr W → Calls Try.prog 51 #[.slice x.A x.hs.length x.c, .slice k.A k.hs.length k.c] W fun e w' => e = .returned (.bool (wayB x.hs k.hs)) ∧ Below W.heap.size W w') := ⟨fun W hW => by
        have hb' : Below w.heap.size w W := HB.out.trans (hW.mono HB.out.size)
        have h1 := hX.len
        have h2 := HKk.out.len
        exact meetsCalls x.A k.A _ _ x.c k.c x.hs k.hs W (Kd.C_below hX.hs hb') (Kd.C_below HKk.out.hs hb') (by omega) (by omega)⟩
      have HA : Aside0 (aheadP ts k (i + 1) = aheadP ts k i ++ (if isAhead k x then [x.t] else [])) := ⟨aheadP_succ hx⟩
      have HI : Aside0 (isAhead k x = (decide (x.t < k.t) && wayB x.hs k.hs)) := ⟨rfl⟩
      have HL := Aside0.mk (aheadP_le ts k i)
      have x0 := pw_cell_below HB.out (hX.blk.cell 0 _ rfl)
      have x1 := pw_cell_below HB.out (hX.blk.cell 1 _ rfl)
      have k0 := pw_cell_below HB.out (HKk.out.blk.cell 0 _ rfl)
      have k1 := pw_cell_below HB.out (HKk.out.blk.cell 1 _ rfl)
      clear hX
      generalize isAhead k x = r at HA HI
      generalize wayB x.hs k.hs = q at HM HI
      generalize aheadP ts k i = L0 at HA HR HL
      clear hx
      obtain ⟨kid, kch, kA, kc, kt, khs, kgr⟩ := k
      obtain ⟨xid, xch, xA, xc, xt, xhs, xgr⟩ := x
      simp only [] at *
      by_cases hd : xt < kt
      · have d0 : decide (xt < kt) = true := decide_eq_true hd
        have HQ : Aside0 (r = q) := ⟨by rw [HI.out, d0]; rfl⟩
        clear HI hd
        go_upto_region 5 with (fail)
        refine wp_region_held_drew (S := fun W' => Below wr.heap.size wr W') (by kernel_rfl) ((Below.refl _ wr).drew) (fun hHeld => ?_)
        refine wpAnyH_take (i := 0) (oi := { dst := some 17, op := Op.move (Operand.tmp 7), type := 73, pos := "gap.go:42", after := #[], guard := none }) (v := ptrV xid) rfl (by kernel_rfl) (by kernel_rfl) (by kernel_rfl) (fun _ _ _ h => h) (Or.inl ⟨by rfl, fun W' hS' => by go_simp⟩) (by assumption) ?_
        try simp only [Act.put, List.setIfInBounds_toArray, List.set_cons_zero, List.set_cons_succ]
        refine wpAnyH_take (i := 1) (oi := { dst := some 18, op := Op.nilCheck (Operand.tmp 17), type := 0, pos := "gap.go:42", after := #[{ on := 0, ground := Ground.data }], guard := none }) (v := ptrV xid) rfl (by kernel_rfl) (by kernel_rfl) (by kernel_rfl) (fun _ _ _ h => h) (Or.inl ⟨by rfl, fun W' hS' => by go_simp⟩) (by assumption) ?_
        try simp only [Act.put, List.setIfInBounds_toArray, List.set_cons_zero, List.set_cons_succ]
        refine wpAnyH_take (i := 2) (oi := { dst := some 19, op := Op.fieldAddr 77 (Operand.tmp 18) 0, type := 0, pos := "gap.go:42", after := #[{ on := 1, ground := Ground.data }], guard := none }) (v := .pointer (some ⟨xid, 0, none⟩)) rfl (by kernel_rfl) (by kernel_rfl) (by kernel_rfl) (fun _ _ _ h => h) (Or.inl ⟨by rfl, fun W' hS' => by go_simp⟩) (by assumption) ?_
        try simp only [Act.put, List.setIfInBounds_toArray, List.set_cons_zero, List.set_cons_succ]
        refine wpAnyH_take (i := 3) (oi := { dst := some 20, op := Op.load 26 (Operand.tmp 19), type := 26, pos := "gap.go:42", after := #[{ on := 2, ground := Ground.data }], guard := none }) (v := .int .u64 xt) rfl (by kernel_rfl) (by kernel_rfl) (by kernel_rfl) (fun _ _ _ h => h) (Or.inl ⟨by rfl, fun W' hS' => by have r0 := pw_cell_below hS' x0; go_simp⟩) (by assumption) ?_
        try simp only [Act.put, List.setIfInBounds_toArray, List.set_cons_zero, List.set_cons_succ]
        refine wpAnyH_take (i := 4) (oi := { dst := some 21, op := Op.move (Operand.tmp 1), type := 73, pos := "gap.go:42", after := #[], guard := none }) (v := ptrV kid) rfl (by kernel_rfl) (by kernel_rfl) (by kernel_rfl) (fun _ _ _ h => h) (Or.inl ⟨by rfl, fun W' hS' => by go_simp⟩) (by assumption) ?_
        try simp only [Act.put, List.setIfInBounds_toArray, List.set_cons_zero, List.set_cons_succ]
        refine wpAnyH_take (i := 5) (oi := { dst := some 22, op := Op.nilCheck (Operand.tmp 21), type := 0, pos := "gap.go:42", after := #[{ on := 4, ground := Ground.data }], guard := none }) (v := ptrV kid) rfl (by kernel_rfl) (by kernel_rfl) (by kernel_rfl) (fun _ _ _ h => h) (Or.inl ⟨by rfl, fun W' hS' => by go_simp⟩) (by assumption) ?_
        try simp only [Act.put, List.setIfInBounds_toArray, List.set_cons_zero, List.set_cons_succ]
        refine wpAnyH_take (i := 6) (oi := { dst := some 23, op := Op.fieldAddr 77 (Operand.tmp 22) 0, type := 0, pos := "gap.go:42", after := #[{ on := 5, ground := Ground.data }], guard := none }) (v := .pointer (some ⟨kid, 0, none⟩)) rfl (by kernel_rfl) (by kernel_rfl) (by kernel_rfl) (fun _ _ _ h => h) (Or.inl ⟨by rfl, fun W' hS' => by go_simp⟩) (by assumption) ?_
        try simp only [Act.put, List.setIfInBounds_toArray, List.set_cons_zero, List.set_cons_succ]
        refine wpAnyH_take (i := 7) (oi := { dst := some 24, op := Op.load 26 (Operand.tmp 23), type := 26, pos := "gap.go:42", after := #[{ on := 6, ground := Ground.data }], guard := none }) (v := .int .u64 kt) rfl (by kernel_rfl) (by kernel_rfl) (by kernel_rfl) (fun _ _ _ h => h) (Or.inl ⟨by rfl, fun W' hS' => by have r0 := pw_cell_below hS' k0; go_simp⟩) (by assumption) ?_
        try simp only [Act.put, List.setIfInBounds_toArray, List.set_cons_zero, List.set_cons_succ]
        refine wpAnyH_take (i := 8) (oi := { dst := some 25, op := Op.binOp BinOp.lss 26 (Operand.tmp 20) (Operand.tmp 24) 26, type := 4, pos := "gap.go:42", after := #[{ on := 3, ground := Ground.data }, { on := 7, ground := Ground.data }], guard := none }) (v := .bool true) rfl (by kernel_rfl) (by kernel_rfl) (by kernel_rfl) (fun _ _ _ h => h) (Or.inl ⟨by rfl, fun W' hS' => by go_simp⟩) (by assumption) ?_
        try simp only [Act.put, List.setIfInBounds_toArray, List.set_cons_zero, List.set_cons_succ]
        refine wpAnyH_take (i := 9) (oi := { dst := some 26, op := Op.move (Operand.tmp 25), type := 4, pos := "gap.go:42", after := #[{ on := 8, ground := Ground.data }], guard := none }) (v := .bool true) rfl (by kernel_rfl) (by kernel_rfl) (by kernel_rfl) (fun _ _ _ h => h) (Or.inl ⟨by rfl, fun W' hS' => by go_simp⟩) (by assumption) ?_
        try simp only [Act.put, List.setIfInBounds_toArray, List.set_cons_zero, List.set_cons_succ]
        refine wpAnyH_take (i := 10) (oi := { dst := some 27, op := Op.move (Operand.tmp 7), type := 73, pos := "gap.go:42", after := #[{ on := 9, ground := Ground.guard }], guard := some (9, true) }) (v := ptrV xid) rfl (by kernel_rfl) (by kernel_rfl) (by kernel_rfl) (fun _ _ _ h => h) (Or.inl ⟨by rfl, fun W' hS' => by go_simp⟩) (by assumption) ?_
        try simp only [Act.put, List.setIfInBounds_toArray, List.set_cons_zero, List.set_cons_succ]
        refine wpAnyH_take (i := 11) (oi := { dst := some 28, op := Op.nilCheck (Operand.tmp 27), type := 0, pos := "gap.go:42", after := #[{ on := 10, ground := Ground.data }, { on := 9, ground := Ground.guard }], guard := some (9, true) }) (v := ptrV xid) rfl (by kernel_rfl) (by kernel_rfl) (by kernel_rfl) (fun _ _ _ h => h) (Or.inl ⟨by rfl, fun W' hS' => by go_simp⟩) (by assumption) ?_
        try simp only [Act.put, List.setIfInBounds_toArray, List.set_cons_zero, List.set_cons_succ]
        refine wpAnyH_take (i := 12) (oi := { dst := some 29, op := Op.fieldAddr 77 (Operand.tmp 28) 1, type := 0, pos := "gap.go:42", after := #[{ on := 11, ground := Ground.data }, { on := 9, ground := Ground.guard }], guard := some (9, true) }) (v := .pointer (some ⟨xid, 1, none⟩)) rfl (by kernel_rfl) (by kernel_rfl) (by kernel_rfl) (fun _ _ _ h => h) (Or.inl ⟨by rfl, fun W' hS' => by go_simp⟩) (by assumption) ?_
        try simp only [Act.put, List.setIfInBounds_toArray, List.set_cons_zero, List.set_cons_succ]
        refine wpAnyH_take (i := 13) (oi := { dst := some 30, op := Op.load 32 (Operand.tmp 29), type := 32, pos := "gap.go:42", after := #[{ on := 12, ground := Ground.data }, { on := 9, ground := Ground.guard }], guard := some (9, true) }) (v := .slice xA xhs.length xc) rfl (by kernel_rfl) (by kernel_rfl) (by kernel_rfl) (fun _ _ _ h => h) (Or.inl ⟨by rfl, fun W' hS' => by have r0 := pw_cell_below hS' x1; go_simp⟩) (by assumption) ?_
        try simp only [Act.put, List.setIfInBounds_toArray, List.set_cons_zero, List.set_cons_succ]
        refine wpAnyH_take (i := 14) (oi := { dst := some 31, op := Op.move (Operand.tmp 1), type := 73, pos := "gap.go:42", after := #[{ on := 9, ground := Ground.guard }], guard := some (9, true) }) (v := ptrV kid) rfl (by kernel_rfl) (by kernel_rfl) (by kernel_rfl) (fun _ _ _ h => h) (Or.inl ⟨by rfl, fun W' hS' => by go_simp⟩) (by assumption) ?_
        try simp only [Act.put, List.setIfInBounds_toArray, List.set_cons_zero, List.set_cons_succ]
        refine wpAnyH_take (i := 15) (oi := { dst := some 32, op := Op.nilCheck (Operand.tmp 31), type := 0, pos := "gap.go:42", after := #[{ on := 14, ground := Ground.data }, { on := 9, ground := Ground.guard }], guard := some (9, true) }) (v := ptrV kid) rfl (by kernel_rfl) (by kernel_rfl) (by kernel_rfl) (fun _ _ _ h => h) (Or.inl ⟨by rfl, fun W' hS' => by go_simp⟩) (by assumption) ?_
        try simp only [Act.put, List.setIfInBounds_toArray, List.set_cons_zero, List.set_cons_succ]
        refine wpAnyH_take (i := 16) (oi := { dst := some 33, op := Op.fieldAddr 77 (Operand.tmp 32) 1, type := 0, pos := "gap.go:42", after := #[{ on := 15, ground := Ground.data }, { on := 9, ground := Ground.guard }], guard := some (9, true) }) (v := .pointer (some ⟨kid, 1, none⟩)) rfl (by kernel_rfl) (by kernel_rfl) (by kernel_rfl) (fun _ _ _ h => h) (Or.inl ⟨by rfl, fun W' hS' => by go_simp⟩) (by assumption) ?_
        try simp only [Act.put, List.setIfInBounds_toArray, List.set_cons_zero, List.set_cons_succ]
        refine wpAnyH_take (i := 17) (oi := { dst := some 34, op := Op.load 32 (Operand.tmp 33), type := 32, pos := "gap.go:42", after := #[{ on := 16, ground := Ground.data }, { on := 9, ground := Ground.guard }], guard := some (9, true) }) (v := .slice kA khs.length kc) rfl (by kernel_rfl) (by kernel_rfl) (by kernel_rfl) (fun _ _ _ h => h) (Or.inl ⟨by rfl, fun W' hS' => by have r0 := pw_cell_below hS' k1; go_simp⟩) (by assumption) ?_
        try simp only [Act.put, List.setIfInBounds_toArray, List.set_cons_zero, List.set_cons_succ]
        refine wpAnyH_ready (rs := [18]) (by kernel_rfl) (by simp) ?_
        refine AllReadyH.cons (o := { dst := some 35, op := Op.call { callee := Callee.value (Operand.func 51), args := #[Operand.tmp 30, Operand.tmp 34], argTypes := #[32, 32] }, type := 4, pos := "gap.go:42", after := #[{ on := 13, ground := Ground.data }, { on := 17, ground := Ground.data }, { on := 9, ground := Ground.chain }, { on := 9, ground := Ground.guard }], guard := some (9, true) }) rfl (fun K hK => ?_) AllReadyH.nil
        go_simp
        go_at_call 51
        refine (HM.out _ hHeld).mono ?_
        rintro e w9 ⟨rfl, hb9⟩
        have hk9 : Below wr.heap.size wr w9 := hHeld.trans (hb9.mono hHeld.size)
        have HB9 : Aside0 (Below w.heap.size w w9) := ⟨HB.out.trans (hk9.mono HB.out.size)⟩
        have HR9 := Aside0.mk (Kd.R_below HR.out hk9)
        go_wp2_with fail
        refine hK.out _ _ hk9 (fun hHeld2 => ?_)
        try simp only [Act.put, List.setIfInBounds_toArray, List.set_cons_zero, List.set_cons_succ]
        refine wpAnyH_take (i := 19) (oi := { dst := some 36, op := Op.pick (Operand.tmp 26) (Operand.tmp 35) (Operand.const (Value.bool false)), type := 4, pos := "gap.go:42", after := #[{ on := 9, ground := Ground.data }, { on := 18, ground := Ground.data }], guard := none }) (v := .bool q) rfl (by kernel_rfl) (by kernel_rfl) (by kernel_rfl) (fun _ _ _ h => h) (Or.inl ⟨by rfl, fun W' hS' => by go_simp⟩) (by assumption) ?_
        try simp only [Act.put, List.setIfInBounds_toArray, List.set_cons_zero, List.set_cons_succ]
        refine wpAnyH_done (by kernel_rfl) ?_ _
        clear hK hb9 hk9 hHeld hHeld2 HB HR HM x0 x1 k0 k1 c0
        cases q with
        | true =>
          have HA2 : Aside0 (aheadP ts ⟨kid, kch, kA, kc, kt, khs, kgr⟩ (i + 1) = L0 ++ [xt]) := ⟨by rw [HA.out, HQ.out]; rfl⟩
          have x0 := pw_cell_below HB9.out ((HT.out _ (List.mem_of_getElem? HXs.out)).blk.cell 0 _ rfl)
          clear HA HQ
          go_wp2_with ((with_reducible refine gate_builtin (b := .append) (xs := #[.tmp 37, .tmp 42]) rfl ?_); at_builtin; refine Kd.R_append (Kd.int .u64) (w0 := w) w.heap.size rfl (.tmp 37) (.tmp 42) TUs TU (.int .u64 0) 8 rfl Try.underlying29 (by kernel_rfl) rfl (by decide) (by omega) u5 L0 xt [.int .u64 xt] (fun _ => True) (fun _ => False) rfl rfl ?aP (fun _ hk => hk.elim) ?aF ?aO ?aB ?aS ?aL ?_; (case aP => rfl); (case aF => exact fun _ _ => trivial); (case aO => exact HR9.out); (case aB => exact HB9.out); (case aS => exact HB9.out.size); (case aL => have := HL.out; omega); intro v1 w2 ho hb hg hat; have HO2 := Aside0.mk ho; have HB2 := Aside0.mk hb; clear ho hb hg hat HR9 HB9 x0)
          go_roundw
          case rel => exact ⟨i + 1, by omega, by go_num, ⟨by rw [HA2.out]; exact HO2.out⟩, HB2⟩
          case measure => simp [intOf]; omega
        | false =>
          have HA2 : Aside0 (aheadP ts ⟨kid, kch, kA, kc, kt, khs, kgr⟩ (i + 1) = L0) := ⟨by rw [HA.out, HQ.out]; simp⟩
          clear HA HQ
          go_wp2
          go_roundw
          case rel => exact ⟨i + 1, by omega, by go_num, ⟨by rw [HA2.out]; exact HR9.out⟩, HB9⟩
          case measure => simp [intOf]; omega
      · have d0 : decide (xt < kt) = false := decide_eq_false hd
        have HA2 : Aside0 (aheadP ts ⟨kid, kch, kA, kc, kt, khs, kgr⟩ (i + 1) = L0) := ⟨by rw [HA.out, HI.out, d0]; simp⟩
        clear HI hd HA HM
        go_upto_region 5 with (fail)
        go_quiet (fail)
        have hbq : Below wr.heap.size wr (wr.drewN nq) := pw_below_drewN (Below.refl _ wr) nq
        have HBq : Aside0 (Below w.heap.size w (wr.drewN nq)) := ⟨HB.out.trans (hbq.mono HB.out.size)⟩
        have HRq := Aside0.mk (Kd.R_below HR.out hbq)
        clear hbq HB HR x0 x1 k0 k1 c0
        go_wp2
        go_roundw
        case rel => exact ⟨i + 1, by omega, by go_num, ⟨by rw [HA2.out]; exact HRq.out⟩, HBq⟩
        case measure => simp [intOf]; omega
    · obtain rfl : i = ts.length := by omega
      have HR2 : Aside0 ((Kd.int .u64).R TU wr w.heap.size (fun _ => True) _ (aheadK ts k)) := ⟨by rw [← aheadP_all]; exact HR.out⟩
      clear hi HR
      go_wp2
      go_ret
      exact ⟨_, rfl, HR2.out, HB.out⟩
end Go.Proofs.Ytkgabeloofjohaa.Gap
