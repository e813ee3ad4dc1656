/- The law's own play over layer 10: a call of the readers and of the document's. -/
import Derived.Test.YtohpcifpnfomnaaSnapMakesW
namespace Go.Proofs.Ytohpcifpnfomnaa.Snap
set_option linter.unusedVariables false
set_option linter.unusedSimpArgs false
open Go.RowKit Go.Proofs.YtohpcifpnfomnaaW.PrintWords Go.Proofs.Ytohpcifpnfomnaa.Kit Go.MuLone

abbrev TO : TypeId := 35
/-- The blocks that a call may turn: the readers', and rows of readers of the call's own. -/
def Sp (w : World) (base p : Nat) (i : Nat) : Prop := i = p ∨ (base ≤ i ∧ ∃ cs, w.heap[i]? = some (.cells cs TR (0, 0)))
def rowOf (w : World) (base : Nat) (k : Nat) : Prop := base ≤ k ∧ k < w.heap.size ∧ ∃ cs, w.heap[k]? = some (.cells cs TR (0, 0))
theorem MR.row {w : World} {base : Nat} {s : Value} {vs : List RS} (h : MR w base s vs) : rk.R TR w base (rowOf w base) s vs :=
  Kd.R_mono (Kd.R_bound h) (fun k hk => ⟨hk.2.1, hk.2.2.1, by
    obtain ⟨q, hq, cells, hc⟩ := hk.2.2.2
    have hq' : q ∈ [TR] := hq
    rw [List.mem_singleton] at hq'
    subst hq'
    exact ⟨cells, hc⟩⟩)
theorem onlyOf {w0 w w' : World} {P : Nat → Prop} (h : Below w0.heap.size w0 w) (h' : Below w0.heap.size w0 w') (k : Kept w w' P) : Only P w w' :=
  ⟨h'.os.trans h.os.symm, h'.tape.trans h.tape.symm, h'.output.trans h.output.symm, k.1, fun i hi hn => k.2 i hi hn⟩
/-- A block of another type is none of these. -/
theorem notRow {w : World} {base b : Nat} {cs : List Value} {t : TypeId} (h : Blk w b cs t) (ht : t ≠ TR) : ¬ rowOf w base b := by
  rintro ⟨_, _, cells, hc⟩
  have e := hc.symm.trans h.out
  simp only [Option.some.injEq, Obj.cells.injEq] at e
  exact ht e.2.1.symm

set_option maxRecDepth 100000 in
set_option maxHeartbeats 4000000 in
theorem playEnter (p : Nat) (fl fl' st ii r en : Int) (rs rs' : List Int) (os os' : List RS) (A : Option Addr) (c : Nat) (w0 w : World)
    (HPrg : Aside0 (∀ W, Sn W p 0 fl rs → Calls Try.prog 8 #[.pointer (some ⟨p, 0, none⟩), .int .u64 st] W fun e w' => e = .returned (.tuple #[.int .i64 r, .int .i64 en]) ∧ Sn w' p 0 fl' rs' ∧ Only (fun i => i = p) W w'))
    (HRef : Aside0 (PSnapPlays.vellumref10_Enter.f 257 fl os st = some (fl', os', r, en)))
    (h : Cl w0 w p fl rs) (hR : MR w w0.heap.size (.slice A os.length c) os) :
    Calls Try.prog 16 #[.pointer (some ⟨p, 0, none⟩), .agg #[.int .u64 fl, .slice A os.length c], .agg #[.int .i64 1, .int .u64 st, .int .i64 ii]] w fun e w' =>
      ∃ A' c', e = .returned (.tuple #[.agg #[.int .u64 fl', .slice A' os'.length c'], .bool true]) ∧ Sn w' p 0 fl' rs' ∧ MR w' w0.heap.size (.slice A' os'.length c') os' ∧ Only (Sp w w0.heap.size p) w w' := by
  have H := Aside0.mk h.sn
  have HR := Aside0.mk hR
  have HBw := Aside0.mk h.below
  have hz := zeroM
  have hpl : p < w.heap.size := h.sn.row.lt
  have hpB := Aside0.mk h.hp
  clear h hR
  go_enter Try.func16, Try.ntmps16
  go_wp2_with fail
  obtain ⟨W, hW⟩ : ∃ W, W = ((w.alloc (.cells #[.int .u64 fl, .slice A os.length c] TM)).alloc (.cells #[.int .i64 1, .int .u64 st, .int .i64 ii] TO)).alloc (.cells #[.int .u64 0, .slice none 0 0] TM) := ⟨_, rfl⟩
  have HB0 : Aside0 (Below w.heap.size w W) := ⟨by rw [hW]; exact (((Below.refl _ _).alloc (Nat.le_refl _) _).alloc (by simp) _).alloc (by simp; omega) _⟩
  have HX : Aside0 (Blk W w.heap.size [.int .u64 fl, .slice A os.length c] TM) := ⟨by rw [hW]; exact ((Blk.newA w _ _).alloc _).alloc _⟩
  have HY : Aside0 (Blk W (w.heap.size + 1) [.int .i64 1, .int .u64 st, .int .i64 ii] TO) := ⟨by rw [hW]; have := (Blk.newA (w.alloc (.cells #[.int .u64 fl, .slice A os.length c] TM)) #[.int .i64 1, .int .u64 st, .int .i64 ii] TO).alloc (.cells #[.int .u64 0, .slice none 0 0] TM); simpa using this⟩
  have HZ : Aside0 (Blk W (w.heap.size + 1 + 1) [.int .u64 0, .slice none 0 0] TM) := ⟨by rw [hW]; have := Blk.newA ((w.alloc (.cells #[.int .u64 fl, .slice A os.length c] TM)).alloc (.cells #[.int .i64 1, .int .u64 st, .int .i64 ii] TO)) #[.int .u64 0, .slice none 0 0] TM; simpa using this⟩
  rw [← hW]
  clear hW
  refine (HPrg.out W (H.out.below HB0.out)).mono ?_
  rintro e w1 ⟨rfl, ha1, ho1⟩
  have HA1 := Aside0.mk ha1
  have HO1 : Aside0 (Only (fun i => i = p) w w1) := ⟨(Only.ofBelow HB0.out).trans ho1⟩
  have HX1 := Aside0.mk (ho1.blk HX.out (by omega))
  have HY1 := Aside0.mk (ho1.blk HY.out (by omega))
  have HZ1 := Aside0.mk (ho1.blk HZ.out (by omega))
  have HR1 : Aside0 (MR w1 w0.heap.size (.slice A os.length c) os) := ⟨HO1.out.Rt H.out.row (by decide) HR.out⟩
  have HB1 : Aside0 (Below w0.heap.size w0 w1) := ⟨HBw.out.trans (HO1.out.below (fun i (e : i = p) => by have := hpB.out; omega) HBw.out.size)⟩
  clear ha1 ho1 HX HY HZ HB0
  have x0 := HX1.out.cell 0 _ rfl
  have x1 := HX1.out.cell 1 _ rfl
  have t0 := HY1.out.cell 0 _ rfl
  have t1 := HY1.out.cell 1 _ rfl
  have t2 := HY1.out.cell 2 _ rfl
  go_wp2_with fail
  refine (PSnapPlays.vellumref10_Enter.calls 257 fl (rowOf w1 w0.heap.size) (.slice A os.length c) os st fl' os' r en w0 w1 HB1.out (MR.row HR1.out) HRef.out).mono ?_
  rintro e w2 ⟨v2, rfl, hR2, hb2, hk2⟩
  have ho2 : Only (rowOf w1 w0.heap.size) w1 w2 := onlyOf HB1.out hb2 hk2
  obtain ⟨A2, c2, rfl⟩ := Kd.R_slice hR2
  have HR2 : Aside0 (MR w2 w0.heap.size (.slice A2 os'.length c2) os') := ⟨Kd.R_mono hR2 (fun _ _ => trivial)⟩
  have HA2 : Aside0 (Sn w2 p 0 fl' rs') := ⟨HA1.out.only ho2 (notRow HA1.out.row (by decide))⟩
  have HZ2 := Aside0.mk (ho2.blk HZ1.out (notRow HZ1.out (by decide)))
  have HO2 : Aside0 (Only (Sp w w0.heap.size p) w w2) := ⟨(HO1.out.mono (fun i e => Or.inl e)).then ho2 (fun i hr hi => by
    by_cases e : i = p
    · exact Or.inl e
    · obtain ⟨h1, _, cs, h2⟩ := hr
      exact Or.inr ⟨h1, cs, by rw [← HO1.out.block i hi e]; exact h2⟩)⟩
  clear hR2 hb2 hk2 ho2 HX1 HY1 HZ1 HR1 HB1 HA1 HO1 x0 x1 t0 t1 t2
  go_upto_region 5 with (fail)
  obtain ⟨W3, hW3⟩ : ∃ W3, W3 = w2.alloc (.cells #[.int .u64 fl', .slice A2 os'.length c2] TM) := ⟨_, rfl⟩
  have hb3 : Below w2.heap.size w2 W3 := by rw [hW3]; exact (Below.refl _ _).alloc (Nat.le_refl _) _
  have HV : Aside0 (Blk W3 w2.heap.size [.int .u64 fl', .slice A2 os'.length c2] TM) := ⟨by rw [hW3]; exact Blk.newA w2 _ _⟩
  have HA3 := Aside0.mk (HA2.out.below hb3)
  have HR3 := Aside0.mk (Kd.R_below HR2.out hb3)
  have HZ3 := Aside0.mk (HZ2.out.belowSize hb3)
  have HO3 : Aside0 (Only (Sp w w0.heap.size p) w W3) := ⟨HO2.out.then (Only.ofBelow (S := fun _ => False) hb3) (fun _ h _ => h.elim)⟩
  have h2l : w.heap.size + 1 + 1 < w2.heap.size := HZ2.out.lt
  rw [← hW3]
  clear hW3 hb3 HA2 HR2 HZ2 HO2
  generalize w2.heap.size = g9 at *
  have y0 := HV.out.cell 0 _ rfl
  have y1 := HV.out.cell 1 _ rfl
  have q0 := HZ3.out.cell 0 _ rfl
  have q1 := HZ3.out.cell 1 _ rfl
  have f0 := HZ3.out.free 0
  have f1 := HZ3.out.free 1
  have hne1 : g9 ≠ w.heap.size + 1 + 1 := by omega
  have hne2 : w.heap.size + 1 + 1 ≠ g9 := by omega
  have HZf := Aside0.mk ((HZ3.out.put 0 (.int .u64 fl')).put 1 (.slice A2 os'.length c2))
  have HRf := Aside0.mk (Kd.R_set (Kd.R_set HR3.out HZ3.out.out (by decide) 0 (.int .u64 fl')) (HZ3.out.put 0 (.int .u64 fl')).out (by decide) 1 (.slice A2 os'.length c2))
  have hOz : Only (fun i => i = w.heap.size + 1 + 1) W3 ((W3.setCell ⟨w.heap.size + 1 + 1, 0, none⟩ (.int .u64 fl')).setCell ⟨w.heap.size + 1 + 1, 1, none⟩ (.slice A2 os'.length c2)) :=
    Only.setCell (S := fun i => i = w.heap.size + 1 + 1) (Only.setCell (S := fun i => i = w.heap.size + 1 + 1) (Only.refl _ W3) (p := ⟨w.heap.size + 1 + 1, 0, none⟩) (Or.inl rfl) _) (p := ⟨w.heap.size + 1 + 1, 1, none⟩) (Or.inl rfl) _
  have HAf := Aside0.mk (HA3.out.only hOz (by omega))
  have HOf := Aside0.mk (HO3.out.then hOz (fun i (e : i = w.heap.size + 1 + 1) hi => absurd hi (by omega)))
  clear hOz
  go_wp2
  have z0 := HZf.out.cell 0 _ rfl
  have z1 := HZf.out.cell 1 _ rfl
  generalize ((W3.setCell ⟨w.heap.size + 1 + 1, 0, none⟩ (.int .u64 fl')).setCell ⟨w.heap.size + 1 + 1, 1, none⟩ (.slice A2 os'.length c2)) = wf at *
  clear y0 y1 q0 q1 f0 f1
  exact bodyPost_ret (v := .tuple #[.agg #[.int .u64 fl', .slice A2 os'.length c2], .bool true]) (by simp [results, Try.results16, go_sem, z0, z1]) rfl ⟨_, _, rfl, HAf.out, HRf.out, HOf.out⟩

set_option maxRecDepth 100000 in
set_option maxHeartbeats 4000000 in
theorem playLeave (p : Nat) (fl fl' st ii en : Int) (rs rs' : List Int) (os os' : List RS) (A : Option Addr) (c : Nat) (w0 w : World)
    (HPrg : Aside0 (∀ W, Sn W p 0 fl rs → Calls Try.prog 9 #[.pointer (some ⟨p, 0, none⟩), .int .i64 ii] W fun e w' => e = .returned (.int .i64 en) ∧ Sn w' p 0 fl' rs' ∧ Only (fun i => i = p) W w'))
    (HRef : Aside0 (PSnapPlays.vellumref10_Leave.f 257 fl os ii = some (fl', os', en)))
    (h : Cl w0 w p fl rs) (hR : MR w w0.heap.size (.slice A os.length c) os) :
    Calls Try.prog 16 #[.pointer (some ⟨p, 0, none⟩), .agg #[.int .u64 fl, .slice A os.length c], .agg #[.int .i64 2, .int .u64 st, .int .i64 ii]] w fun e w' =>
      ∃ A' c', e = .returned (.tuple #[.agg #[.int .u64 fl', .slice A' os'.length c'], .bool true]) ∧ Sn w' p 0 fl' rs' ∧ MR w' w0.heap.size (.slice A' os'.length c') os' ∧ Only (Sp w w0.heap.size p) w w' := by
  have H := Aside0.mk h.sn
  have HR := Aside0.mk hR
  have HBw := Aside0.mk h.below
  have hz := zeroM
  have hpl : p < w.heap.size := h.sn.row.lt
  have hpB := Aside0.mk h.hp
  clear h hR
  go_enter Try.func16, Try.ntmps16
  go_wp2_with fail
  obtain ⟨W, hW⟩ : ∃ W, W = ((w.alloc (.cells #[.int .u64 fl, .slice A os.length c] TM)).alloc (.cells #[.int .i64 2, .int .u64 st, .int .i64 ii] TO)).alloc (.cells #[.int .u64 0, .slice none 0 0] TM) := ⟨_, rfl⟩
  have HB0 : Aside0 (Below w.heap.size w W) := ⟨by rw [hW]; exact (((Below.refl _ _).alloc (Nat.le_refl _) _).alloc (by simp) _).alloc (by simp; omega) _⟩
  have HX : Aside0 (Blk W w.heap.size [.int .u64 fl, .slice A os.length c] TM) := ⟨by rw [hW]; exact ((Blk.newA w _ _).alloc _).alloc _⟩
  have HY : Aside0 (Blk W (w.heap.size + 1) [.int .i64 2, .int .u64 st, .int .i64 ii] TO) := ⟨by rw [hW]; have := (Blk.newA (w.alloc (.cells #[.int .u64 fl, .slice A os.length c] TM)) #[.int .i64 2, .int .u64 st, .int .i64 ii] TO).alloc (.cells #[.int .u64 0, .slice none 0 0] TM); simpa using this⟩
  have HZ : Aside0 (Blk W (w.heap.size + 1 + 1) [.int .u64 0, .slice none 0 0] TM) := ⟨by rw [hW]; have := Blk.newA ((w.alloc (.cells #[.int .u64 fl, .slice A os.length c] TM)).alloc (.cells #[.int .i64 2, .int .u64 st, .int .i64 ii] TO)) #[.int .u64 0, .slice none 0 0] TM; simpa using this⟩
  rw [← hW]
  clear hW
  refine (HPrg.out W (H.out.below HB0.out)).mono ?_
  rintro e w1 ⟨rfl, ha1, ho1⟩
  have HA1 := Aside0.mk ha1
  have HO1 : Aside0 (Only (fun i => i = p) w w1) := ⟨(Only.ofBelow HB0.out).trans ho1⟩
  have HX1 := Aside0.mk (ho1.blk HX.out (by omega))
  have HY1 := Aside0.mk (ho1.blk HY.out (by omega))
  have HZ1 := Aside0.mk (ho1.blk HZ.out (by omega))
  have HR1 : Aside0 (MR w1 w0.heap.size (.slice A os.length c) os) := ⟨HO1.out.Rt H.out.row (by decide) HR.out⟩
  have HB1 : Aside0 (Below w0.heap.size w0 w1) := ⟨HBw.out.trans (HO1.out.below (fun i (e : i = p) => by have := hpB.out; omega) HBw.out.size)⟩
  clear ha1 ho1 HX HY HZ HB0
  have x0 := HX1.out.cell 0 _ rfl
  have x1 := HX1.out.cell 1 _ rfl
  have t0 := HY1.out.cell 0 _ rfl
  have t1 := HY1.out.cell 1 _ rfl
  have t2 := HY1.out.cell 2 _ rfl
  go_wp2_with fail
  refine (PSnapPlays.vellumref10_Leave.calls 257 fl (rowOf w1 w0.heap.size) (.slice A os.length c) os ii fl' os' en w0 w1 HB1.out (MR.row HR1.out) HRef.out).mono ?_
  rintro e w2 ⟨v2, rfl, hR2, hb2, hk2⟩
  have ho2 : Only (rowOf w1 w0.heap.size) w1 w2 := onlyOf HB1.out hb2 hk2
  obtain ⟨A2, c2, rfl⟩ := Kd.R_slice hR2
  have HR2 : Aside0 (MR w2 w0.heap.size (.slice A2 os'.length c2) os') := ⟨Kd.R_mono hR2 (fun _ _ => trivial)⟩
  have HA2 : Aside0 (Sn w2 p 0 fl' rs') := ⟨HA1.out.only ho2 (notRow HA1.out.row (by decide))⟩
  have HZ2 := Aside0.mk (ho2.blk HZ1.out (notRow HZ1.out (by decide)))
  have HO2 : Aside0 (Only (Sp w w0.heap.size p) w w2) := ⟨(HO1.out.mono (fun i e => Or.inl e)).then ho2 (fun i hr hi => by
    by_cases e : i = p
    · exact Or.inl e
    · obtain ⟨h1, _, cs, h2⟩ := hr
      exact Or.inr ⟨h1, cs, by rw [← HO1.out.block i hi e]; exact h2⟩)⟩
  clear hR2 hb2 hk2 ho2 HX1 HY1 HZ1 HR1 HB1 HA1 HO1 x0 x1 t0 t1 t2
  go_upto_region 9 with (fail)
  obtain ⟨W3, hW3⟩ : ∃ W3, W3 = w2.alloc (.cells #[.int .u64 fl', .slice A2 os'.length c2] TM) := ⟨_, rfl⟩
  have hb3 : Below w2.heap.size w2 W3 := by rw [hW3]; exact (Below.refl _ _).alloc (Nat.le_refl _) _
  have HV : Aside0 (Blk W3 w2.heap.size [.int .u64 fl', .slice A2 os'.length c2] TM) := ⟨by rw [hW3]; exact Blk.newA w2 _ _⟩
  have HA3 := Aside0.mk (HA2.out.below hb3)
  have HR3 := Aside0.mk (Kd.R_below HR2.out hb3)
  have HZ3 := Aside0.mk (HZ2.out.belowSize hb3)
  have HO3 : Aside0 (Only (Sp w w0.heap.size p) w W3) := ⟨HO2.out.then (Only.ofBelow (S := fun _ => False) hb3) (fun _ h _ => h.elim)⟩
  have h2l : w.heap.size + 1 + 1 < w2.heap.size := HZ2.out.lt
  rw [← hW3]
  clear hW3 hb3 HA2 HR2 HZ2 HO2
  generalize w2.heap.size = g9 at *
  have y0 := HV.out.cell 0 _ rfl
  have y1 := HV.out.cell 1 _ rfl
  have q0 := HZ3.out.cell 0 _ rfl
  have q1 := HZ3.out.cell 1 _ rfl
  have f0 := HZ3.out.free 0
  have f1 := HZ3.out.free 1
  have hne1 : g9 ≠ w.heap.size + 1 + 1 := by omega
  have hne2 : w.heap.size + 1 + 1 ≠ g9 := by omega
  have HZf := Aside0.mk ((HZ3.out.put 0 (.int .u64 fl')).put 1 (.slice A2 os'.length c2))
  have HRf := Aside0.mk (Kd.R_set (Kd.R_set HR3.out HZ3.out.out (by decide) 0 (.int .u64 fl')) (HZ3.out.put 0 (.int .u64 fl')).out (by decide) 1 (.slice A2 os'.length c2))
  have hOz : Only (fun i => i = w.heap.size + 1 + 1) W3 ((W3.setCell ⟨w.heap.size + 1 + 1, 0, none⟩ (.int .u64 fl')).setCell ⟨w.heap.size + 1 + 1, 1, none⟩ (.slice A2 os'.length c2)) :=
    Only.setCell (S := fun i => i = w.heap.size + 1 + 1) (Only.setCell (S := fun i => i = w.heap.size + 1 + 1) (Only.refl _ W3) (p := ⟨w.heap.size + 1 + 1, 0, none⟩) (Or.inl rfl) _) (p := ⟨w.heap.size + 1 + 1, 1, none⟩) (Or.inl rfl) _
  have HAf := Aside0.mk (HA3.out.only hOz (by omega))
  have HOf := Aside0.mk (HO3.out.then hOz (fun i (e : i = w.heap.size + 1 + 1) hi => absurd hi (by omega)))
  clear hOz
  go_wp2
  have z0 := HZf.out.cell 0 _ rfl
  have z1 := HZf.out.cell 1 _ rfl
  generalize ((W3.setCell ⟨w.heap.size + 1 + 1, 0, none⟩ (.int .u64 fl')).setCell ⟨w.heap.size + 1 + 1, 1, none⟩ (.slice A2 os'.length c2)) = wf at *
  clear y0 y1 q0 q1 f0 f1
  exact bodyPost_ret (v := .tuple #[.agg #[.int .u64 fl', .slice A2 os'.length c2], .bool true]) (by simp [results, Try.results16, go_sem, z0, z1]) rfl ⟨_, _, rfl, HAf.out, HRf.out, HOf.out⟩

set_option maxRecDepth 100000 in
set_option maxHeartbeats 4000000 in
theorem playRaise (p : Nat) (fl fl' st ii en : Int) (rs rs' : List Int) (os os' : List RS) (A : Option Addr) (c : Nat) (w0 w : World)
    (HPrg : Aside0 (∀ W, Sn W p 0 fl rs → Calls Try.prog 11 #[.pointer (some ⟨p, 0, none⟩), .int .u64 st] W fun e w' => e = .returned (.int .u64 en) ∧ Sn w' p 0 fl' rs' ∧ Only (fun i => i = p) W w'))
    (HRef : Aside0 (PSnapPlays.vellumref10_Raise.f 258 fl os st = some (fl', os', en)))
    (h : Cl w0 w p fl rs) (hR : MR w w0.heap.size (.slice A os.length c) os) :
    Calls Try.prog 16 #[.pointer (some ⟨p, 0, none⟩), .agg #[.int .u64 fl, .slice A os.length c], .agg #[.int .i64 3, .int .u64 st, .int .i64 ii]] w fun e w' =>
      ∃ A' c', e = .returned (.tuple #[.agg #[.int .u64 fl', .slice A' os'.length c'], .bool true]) ∧ Sn w' p 0 fl' rs' ∧ MR w' w0.heap.size (.slice A' os'.length c') os' ∧ Only (Sp w w0.heap.size p) w w' := by
  have H := Aside0.mk h.sn
  have HR := Aside0.mk hR
  have HBw := Aside0.mk h.below
  have hz := zeroM
  have hpl : p < w.heap.size := h.sn.row.lt
  have hpB := Aside0.mk h.hp
  clear h hR
  go_enter Try.func16, Try.ntmps16
  go_wp2_with fail
  obtain ⟨W, hW⟩ : ∃ W, W = ((w.alloc (.cells #[.int .u64 fl, .slice A os.length c] TM)).alloc (.cells #[.int .i64 3, .int .u64 st, .int .i64 ii] TO)).alloc (.cells #[.int .u64 0, .slice none 0 0] TM) := ⟨_, rfl⟩
  have HB0 : Aside0 (Below w.heap.size w W) := ⟨by rw [hW]; exact (((Below.refl _ _).alloc (Nat.le_refl _) _).alloc (by simp) _).alloc (by simp; omega) _⟩
  have HX : Aside0 (Blk W w.heap.size [.int .u64 fl, .slice A os.length c] TM) := ⟨by rw [hW]; exact ((Blk.newA w _ _).alloc _).alloc _⟩
  have HY : Aside0 (Blk W (w.heap.size + 1) [.int .i64 3, .int .u64 st, .int .i64 ii] TO) := ⟨by rw [hW]; have := (Blk.newA (w.alloc (.cells #[.int .u64 fl, .slice A os.length c] TM)) #[.int .i64 3, .int .u64 st, .int .i64 ii] TO).alloc (.cells #[.int .u64 0, .slice none 0 0] TM); simpa using this⟩
  have HZ : Aside0 (Blk W (w.heap.size + 1 + 1) [.int .u64 0, .slice none 0 0] TM) := ⟨by rw [hW]; have := Blk.newA ((w.alloc (.cells #[.int .u64 fl, .slice A os.length c] TM)).alloc (.cells #[.int .i64 3, .int .u64 st, .int .i64 ii] TO)) #[.int .u64 0, .slice none 0 0] TM; simpa using this⟩
  rw [← hW]
  clear hW
  refine (HPrg.out W (H.out.below HB0.out)).mono ?_
  rintro e w1 ⟨rfl, ha1, ho1⟩
  have HA1 := Aside0.mk ha1
  have HO1 : Aside0 (Only (fun i => i = p) w w1) := ⟨(Only.ofBelow HB0.out).trans ho1⟩
  have HX1 := Aside0.mk (ho1.blk HX.out (by omega))
  have HY1 := Aside0.mk (ho1.blk HY.out (by omega))
  have HZ1 := Aside0.mk (ho1.blk HZ.out (by omega))
  have HR1 : Aside0 (MR w1 w0.heap.size (.slice A os.length c) os) := ⟨HO1.out.Rt H.out.row (by decide) HR.out⟩
  have HB1 : Aside0 (Below w0.heap.size w0 w1) := ⟨HBw.out.trans (HO1.out.below (fun i (e : i = p) => by have := hpB.out; omega) HBw.out.size)⟩
  clear ha1 ho1 HX HY HZ HB0
  have x0 := HX1.out.cell 0 _ rfl
  have x1 := HX1.out.cell 1 _ rfl
  have t0 := HY1.out.cell 0 _ rfl
  have t1 := HY1.out.cell 1 _ rfl
  have t2 := HY1.out.cell 2 _ rfl
  go_wp2_with fail
  refine (PSnapPlays.vellumref10_Raise.calls 258 fl (rowOf w1 w0.heap.size) (.slice A os.length c) os st fl' os' en w0 w1 HB1.out (MR.row HR1.out) HRef.out).mono ?_
  rintro e w2 ⟨v2, rfl, hR2, hb2, hk2⟩
  have ho2 : Only (rowOf w1 w0.heap.size) w1 w2 := onlyOf HB1.out hb2 hk2
  obtain ⟨A2, c2, rfl⟩ := Kd.R_slice hR2
  have HR2 : Aside0 (MR w2 w0.heap.size (.slice A2 os'.length c2) os') := ⟨Kd.R_mono hR2 (fun _ _ => trivial)⟩
  have HA2 : Aside0 (Sn w2 p 0 fl' rs') := ⟨HA1.out.only ho2 (notRow HA1.out.row (by decide))⟩
  have HZ2 := Aside0.mk (ho2.blk HZ1.out (notRow HZ1.out (by decide)))
  have HO2 : Aside0 (Only (Sp w w0.heap.size p) w w2) := ⟨(HO1.out.mono (fun i e => Or.inl e)).then ho2 (fun i hr hi => by
    by_cases e : i = p
    · exact Or.inl e
    · obtain ⟨h1, _, cs, h2⟩ := hr
      exact Or.inr ⟨h1, cs, by rw [← HO1.out.block i hi e]; exact h2⟩)⟩
  clear hR2 hb2 hk2 ho2 HX1 HY1 HZ1 HR1 HB1 HA1 HO1 x0 x1 t0 t1 t2
  go_upto_region 13 with (fail)
  obtain ⟨W3, hW3⟩ : ∃ W3, W3 = w2.alloc (.cells #[.int .u64 fl', .slice A2 os'.length c2] TM) := ⟨_, rfl⟩
  have hb3 : Below w2.heap.size w2 W3 := by rw [hW3]; exact (Below.refl _ _).alloc (Nat.le_refl _) _
  have HV : Aside0 (Blk W3 w2.heap.size [.int .u64 fl', .slice A2 os'.length c2] TM) := ⟨by rw [hW3]; exact Blk.newA w2 _ _⟩
  have HA3 := Aside0.mk (HA2.out.below hb3)
  have HR3 := Aside0.mk (Kd.R_below HR2.out hb3)
  have HZ3 := Aside0.mk (HZ2.out.belowSize hb3)
  have HO3 : Aside0 (Only (Sp w w0.heap.size p) w W3) := ⟨HO2.out.then (Only.ofBelow (S := fun _ => False) hb3) (fun _ h _ => h.elim)⟩
  have h2l : w.heap.size + 1 + 1 < w2.heap.size := HZ2.out.lt
  rw [← hW3]
  clear hW3 hb3 HA2 HR2 HZ2 HO2
  generalize w2.heap.size = g9 at *
  have y0 := HV.out.cell 0 _ rfl
  have y1 := HV.out.cell 1 _ rfl
  have q0 := HZ3.out.cell 0 _ rfl
  have q1 := HZ3.out.cell 1 _ rfl
  have f0 := HZ3.out.free 0
  have f1 := HZ3.out.free 1
  have hne1 : g9 ≠ w.heap.size + 1 + 1 := by omega
  have hne2 : w.heap.size + 1 + 1 ≠ g9 := by omega
  have HZf := Aside0.mk ((HZ3.out.put 0 (.int .u64 fl')).put 1 (.slice A2 os'.length c2))
  have HRf := Aside0.mk (Kd.R_set (Kd.R_set HR3.out HZ3.out.out (by decide) 0 (.int .u64 fl')) (HZ3.out.put 0 (.int .u64 fl')).out (by decide) 1 (.slice A2 os'.length c2))
  have hOz : Only (fun i => i = w.heap.size + 1 + 1) W3 ((W3.setCell ⟨w.heap.size + 1 + 1, 0, none⟩ (.int .u64 fl')).setCell ⟨w.heap.size + 1 + 1, 1, none⟩ (.slice A2 os'.length c2)) :=
    Only.setCell (S := fun i => i = w.heap.size + 1 + 1) (Only.setCell (S := fun i => i = w.heap.size + 1 + 1) (Only.refl _ W3) (p := ⟨w.heap.size + 1 + 1, 0, none⟩) (Or.inl rfl) _) (p := ⟨w.heap.size + 1 + 1, 1, none⟩) (Or.inl rfl) _
  have HAf := Aside0.mk (HA3.out.only hOz (by omega))
  have HOf := Aside0.mk (HO3.out.then hOz (fun i (e : i = w.heap.size + 1 + 1) hi => absurd hi (by omega)))
  clear hOz
  go_wp2
  have z0 := HZf.out.cell 0 _ rfl
  have z1 := HZf.out.cell 1 _ rfl
  generalize ((W3.setCell ⟨w.heap.size + 1 + 1, 0, none⟩ (.int .u64 fl')).setCell ⟨w.heap.size + 1 + 1, 1, none⟩ (.slice A2 os'.length c2)) = wf at *
  clear y0 y1 q0 q1 f0 f1
  exact bodyPost_ret (v := .tuple #[.agg #[.int .u64 fl', .slice A2 os'.length c2], .bool true]) (by simp [results, Try.results16, go_sem, z0, z1]) rfl ⟨_, _, rfl, HAf.out, HRf.out, HOf.out⟩

set_option maxRecDepth 100000 in
set_option maxHeartbeats 4000000 in
theorem playOther (p : Nat) (fl st ii k : Int) (os : List RS) (A : Option Addr) (c base : Nat) (w : World) (hk : k ≠ 1 ∧ k ≠ 2 ∧ k ≠ 3) (hR : MR w base (.slice A os.length c) os) :
    Calls Try.prog 16 #[.pointer (some ⟨p, 0, none⟩), .agg #[.int .u64 fl, .slice A os.length c], .agg #[.int .i64 k, .int .u64 st, .int .i64 ii]] w fun e w' =>
      e = .returned (.tuple #[.agg #[.int .u64 fl, .slice A os.length c], .bool true]) ∧ MR w' base (.slice A os.length c) os ∧ Below w.heap.size w w' := by
  have HR := Aside0.mk hR
  have hz := zeroM
  have h1 : (k == 1) = false := by rw [beq_eq_false_iff_ne]; exact hk.1
  have h2 : (k == 2) = false := by rw [beq_eq_false_iff_ne]; exact hk.2.1
  have h3 : (k == 3) = false := by rw [beq_eq_false_iff_ne]; exact hk.2.2
  clear hk hR
  go_enter Try.func16, Try.ntmps16
  go_upto_region 14 with (fail)
  obtain ⟨W, hW⟩ : ∃ W, W = ((w.alloc (.cells #[.int .u64 fl, .slice A os.length c] TM)).alloc (.cells #[.int .i64 k, .int .u64 st, .int .i64 ii] TO)).alloc (.cells #[.int .u64 0, .slice none 0 0] TM) := ⟨_, rfl⟩
  have HB0 : Aside0 (Below w.heap.size w W) := ⟨by rw [hW]; exact (((Below.refl _ _).alloc (Nat.le_refl _) _).alloc (by simp) _).alloc (by simp; omega) _⟩
  have HX : Aside0 (Blk W w.heap.size [.int .u64 fl, .slice A os.length c] TM) := ⟨by rw [hW]; exact ((Blk.newA w _ _).alloc _).alloc _⟩
  have HZ : Aside0 (Blk W (w.heap.size + 1 + 1) [.int .u64 0, .slice none 0 0] TM) := ⟨by rw [hW]; have := Blk.newA ((w.alloc (.cells #[.int .u64 fl, .slice A os.length c] TM)).alloc (.cells #[.int .i64 k, .int .u64 st, .int .i64 ii] TO)) #[.int .u64 0, .slice none 0 0] TM; simpa using this⟩
  rw [← hW]
  clear hW
  have HR1 := Aside0.mk (Kd.R_below HR.out HB0.out)
  have x0 := HX.out.cell 0 _ rfl
  have x1 := HX.out.cell 1 _ rfl
  have q0 := HZ.out.cell 0 _ rfl
  have q1 := HZ.out.cell 1 _ rfl
  have f0 := HZ.out.free 0
  have f1 := HZ.out.free 1
  have HZf := Aside0.mk ((HZ.out.put 0 (.int .u64 fl)).put 1 (.slice A os.length c))
  have HRf := Aside0.mk (Kd.R_set (Kd.R_set HR1.out HZ.out.out (by decide) 0 (.int .u64 fl)) (HZ.out.put 0 (.int .u64 fl)).out (by decide) 1 (.slice A os.length c))
  have HOf : Aside0 (Below w.heap.size w ((W.setCell ⟨w.heap.size + 1 + 1, 0, none⟩ (.int .u64 fl)).setCell ⟨w.heap.size + 1 + 1, 1, none⟩ (.slice A os.length c))) :=
    ⟨(HB0.out.setCell (p := ⟨w.heap.size + 1 + 1, 0, none⟩) (by simp only; omega) _).setCell (p := ⟨w.heap.size + 1 + 1, 1, none⟩) (by simp only; omega) _⟩
  go_wp2
  have z0 := HZf.out.cell 0 _ rfl
  have z1 := HZf.out.cell 1 _ rfl
  generalize ((W.setCell ⟨w.heap.size + 1 + 1, 0, none⟩ (.int .u64 fl)).setCell ⟨w.heap.size + 1 + 1, 1, none⟩ (.slice A os.length c)) = wf at *
  clear x0 x1 q0 q1 f0 f1
  exact bodyPost_ret (v := .tuple #[.agg #[.int .u64 fl, .slice A os.length c], .bool true]) (by simp [results, Try.results16, go_sem, z0, z1]) rfl ⟨rfl, HRf.out, HOf.out⟩

structure Op where
  kind : Int
  stamp : Int
  i : Int
theorem playAny (p : Nat) (fl : Int) (rs : List Int) (x : Op) (A : Option Addr) (c : Nat) (w0 w : World) (hst : 0 ≤ x.stamp)
    (h : Cl w0 w p fl rs) (hR : MR w w0.heap.size (.slice A (rds rs).length c) (rds rs)) :
    Calls Try.prog 16 #[.pointer (some ⟨p, 0, none⟩), .agg #[.int .u64 fl, .slice A (rds rs).length c], .agg #[.int .i64 x.kind, .int .u64 x.stamp, .int .i64 x.i]] w fun e w' =>
      ∃ fl' rs' A' c', e = .returned (.tuple #[.agg #[.int .u64 fl', .slice A' (rds rs').length c'], .bool true]) ∧ Sn w' p 0 fl' rs' ∧ MR w' w0.heap.size (.slice A' (rds rs').length c') (rds rs') ∧ Only (Sp w w0.heap.size p) w w' := by
  have hl := h.sn.len
  have hr : ∀ i : Nat, i < 256 → 0 ≤ rd rs (i : Int) := fun i hi => (h.sn.r0 i hi).1
  obtain ⟨k, st, ii⟩ := x
  simp only at hst ⊢
  by_cases h1 : k = 1
  · subst h1
    obtain ⟨r, en, rs', e1, e2⟩ := enterBoth p fl st rs hst h.sn.f0 hl hr
    exact (playEnter p fl fl st ii r en rs rs' (rds rs) (rds rs') A c w0 w ⟨e2⟩ ⟨e1⟩ h hR).mono fun e w' ⟨A', c', he, hs, hr', ho⟩ => ⟨fl, rs', A', c', he, hs, hr', ho⟩
  · by_cases h2 : k = 2
    · subst h2
      obtain ⟨en, rs', e1, e2⟩ := leaveBoth p fl ii rs hl hr
      exact (playLeave p fl fl st ii en rs rs' (rds rs) (rds rs') A c w0 w ⟨e2⟩ ⟨e1⟩ h hR).mono fun e w' ⟨A', c', he, hs, hr', ho⟩ => ⟨fl, rs', A', c', he, hs, hr', ho⟩
    · by_cases h3 : k = 3
      · subst h3
        exact (playRaise p fl _ st ii _ rs rs (rds rs) (rds rs) A c w0 w ⟨fun W hW => lraiseCalls p fl st rs W hW hst⟩ ⟨refRaise rs fl st hl⟩ h hR).mono fun e w' ⟨A', c', he, hs, hr', ho⟩ => ⟨_, rs, A', c', he, hs, hr', ho⟩
      · exact (playOther p fl st ii k (rds rs) A c _ w ⟨h1, h2, h3⟩ hR).mono fun e w' ⟨he, hr', hb⟩ => ⟨fl, rs, A, c, he, h.sn.below hb, hr', Only.ofBelow hb⟩
end Go.Proofs.Ytohpcifpnfomnaa.Snap
