/- The law's own play over layer 6: a call of the clock and of the reference's. -/
import Derived.Test.YtmbekkndjkegdaaClockRisesW
import Derived.Deep.CutBlock
import Derived.Deep.DeepCutAuto
namespace Go.Proofs.Ytmbekkndjkegdaa.Clock
set_option linter.unusedVariables false
set_option linter.unusedSimpArgs false
open Go.RowKit Go.Proofs.YtmbekkndjkegdaaW.PrintWords Go.Proofs.Ytmbekkndjkegdaa.Kit

theorem zeroO (W : World) : (zeroValue TO).run Try.prog W = .ok (.agg #[.bool false, .int .i64 0, .int .u64 0]) W := by kernel_rfl
abbrev MR (w : World) (base : Nat) (s : Value) (vs : List Int) : Prop := (Kd.int .u64).R 22 w base (fun _ => True) s vs
/-- The blocks that a call may turn: the clock, and rows of numbers of the call's own. -/
def Sp (w : World) (base p : Nat) (i : Nat) : Prop := i = p ∨ (base ≤ i ∧ ∃ cs, w.heap[i]? = some (.cells cs 22 (0, 0)))
def rowOf (w : World) (base : Nat) (k : Nat) : Prop := base ≤ k ∧ k < w.heap.size ∧ ∃ cs, w.heap[k]? = some (.cells cs 22 (0, 0))
theorem MR.row {w : World} {base : Nat} {s : Value} {vs : List Int} (h : MR w base s vs) : (Kd.int .u64).R 22 w base (rowOf w base) s vs :=
  Kd.R_mono (Kd.R_bound h) (fun k hk => ⟨hk.2.1, hk.2.2.1, by
    obtain ⟨q, hq, cells, hc⟩ := hk.2.2.2
    have hq' : q ∈ [22] := hq
    rw [List.mem_singleton] at hq'
    subst hq'
    exact ⟨cells, hc⟩⟩)
theorem onlyOf {w0 w w' : World} {P : Nat → Prop} (h : Below w0.heap.size w0 w) (h' : Below w0.heap.size w0 w') (k : Kept w w' P) : Only P w w' :=
  ⟨h'.os.trans h.os.symm, h'.tape.trans h.tape.symm, h'.output.trans h.output.symm, k.1, fun i hi hn => k.2 i hi hn⟩
theorem Sp.mono {w w' : World} {base p : Nat} (hb : Below w.heap.size w w') (i : Nat) (hi : i < w.heap.size) (h : Sp w' base p i) : Sp w base p i := by
  rcases h with h | ⟨h1, cs, h2⟩
  · exact Or.inl h
  · exact Or.inr ⟨h1, cs, by rw [← hb.block i hi]; exact h2⟩
/-- A block of another type is none of these. -/
theorem notRow {w : World} {base b : Nat} {cs : List Value} {t : TypeId} (h : Blk w b cs t) (ht : t ≠ 22) : ¬ rowOf w base b := by
  rintro ⟨_, _, cells, hc⟩
  have e := hc.symm.trans h.out
  simp only [Option.some.injEq, Obj.cells.injEq] at e
  exact ht e.2.1.symm

set_option maxRecDepth 100000 in
set_option maxHeartbeats 4000000 in
theorem playTake (p : Nat) (bg l l' f s en : Int) (rs os os' : List Int) (pk st : Int) (A : Option Addr) (c : Nat) (w0 w : World)
    (HPrg : Aside0 (∀ W, Clk W p l f rs → Calls Try.prog 11 #[.pointer (some ⟨p, 0, none⟩)] W fun e w' => e = .returned (.tuple #[.int .u64 s, .int .i64 en]) ∧ Clk w' p l' f rs ∧ Only (fun i => i = p) W w'))
    (HRef : Aside0 (PClockPlays.vellumref06_Take.f bg l os = some (bg, l', os', s, en)))
    (h : Clk w p l f rs) (hR : MR w w0.heap.size (.slice A os.length c) os) (hb : Below w0.heap.size w0 w) (hp : w0.heap.size ≤ p) :
    Calls Try.prog 15 #[.pointer (some ⟨p, 0, none⟩), .agg #[.int .u64 bg, .int .u64 l, .slice A os.length c], .agg #[.bool true, .int .i64 pk, .int .u64 st]] w fun e w' =>
      ∃ A' c', e = .returned (.tuple #[.agg #[.int .u64 bg, .int .u64 l', .slice A' os'.length c'], .bool true]) ∧ Clk w' p l' f rs ∧ MR w' w0.heap.size (.slice A' os'.length c') os' ∧ Only (Sp w w0.heap.size p) w w' := by
  have H := Aside0.mk h
  have HR := Aside0.mk hR
  have HBw := Aside0.mk hb
  have hz := zeroM
  have hpl : p < w.heap.size := h.row.lt
  have hpB := Aside0.mk hp
  clear h hR hb hp
  go_enter Try.func15, Try.ntmps15
  go_wp2_with fail
  obtain ⟨W, hW⟩ : ∃ W, W = ((w.alloc (.cells #[.int .u64 bg, .int .u64 l, .slice A os.length c] TM)).alloc (.cells #[.bool true, .int .i64 pk, .int .u64 st] TO)).alloc (.cells #[.int .u64 0, .int .u64 0, .slice none 0 0] TM) := ⟨_, rfl⟩
  have HB0 : Aside0 (Below w.heap.size w W) := ⟨by rw [hW]; exact (((Below.refl _ _).alloc (Nat.le_refl _) _).alloc (by simp) _).alloc (by simp; omega) _⟩
  have HX : Aside0 (Blk W w.heap.size [.int .u64 bg, .int .u64 l, .slice A os.length c] TM) := ⟨by rw [hW]; exact ((Blk.newA w _ _).alloc _).alloc _⟩
  have HZ : Aside0 (Blk W (w.heap.size + 1 + 1) [.int .u64 0, .int .u64 0, .slice none 0 0] TM) := ⟨by rw [hW]; have := Blk.newA ((w.alloc (.cells #[.int .u64 bg, .int .u64 l, .slice A os.length c] TM)).alloc (.cells #[.bool true, .int .i64 pk, .int .u64 st] TO)) #[.int .u64 0, .int .u64 0, .slice none 0 0] TM; simpa using this⟩
  rw [← hW]
  clear hW
  refine (HPrg.out W (H.out.below HB0.out)).mono ?_
  rintro e w1 ⟨rfl, ha1, ho1⟩
  have HA1 := Aside0.mk ha1
  have HO1 : Aside0 (Only (fun i => i = p) w w1) := ⟨(Only.ofBelow HB0.out).trans ho1⟩
  have HX1 := Aside0.mk (ho1.blk HX.out (by omega))
  have HZ1 := Aside0.mk (ho1.blk HZ.out (by omega))
  have HR1 : Aside0 (MR w1 w0.heap.size (.slice A os.length c) os) := ⟨HO1.out.Rt H.out.row (by decide) HR.out⟩
  have HB1 : Aside0 (Below w0.heap.size w0 w1) := ⟨HBw.out.trans (HO1.out.below (fun i (e : i = p) => by have := hpB.out; omega) HBw.out.size)⟩
  clear ha1 ho1 HX HZ HB0
  have x0 := HX1.out.cell 0 _ rfl
  have x1 := HX1.out.cell 1 _ rfl
  have x2 := HX1.out.cell 2 _ rfl
  go_wp2_with fail
  refine (PClockPlays.vellumref06_Take.calls bg l (rowOf w1 w0.heap.size) (.slice A os.length c) os bg l' os' s en w0 w1 HB1.out (MR.row HR1.out) HRef.out).mono ?_
  rintro e w2 ⟨v2, rfl, hR2, hb2, hk2⟩
  have ho2 : Only (rowOf w1 w0.heap.size) w1 w2 := onlyOf HB1.out hb2 hk2
  obtain ⟨A2, c2, rfl⟩ := Kd.R_slice hR2
  have HR2 : Aside0 (MR w2 w0.heap.size (.slice A2 os'.length c2) os') := ⟨Kd.R_mono hR2 (fun _ _ => trivial)⟩
  have HA2 : Aside0 (Clk w2 p l' f rs) := ⟨HA1.out.only ho2 (notRow HA1.out.row (by decide))⟩
  have HZ2 := Aside0.mk (ho2.blk HZ1.out (notRow HZ1.out (by decide)))
  have HO2 : Aside0 (Only (Sp w w0.heap.size p) w w2) := ⟨(HO1.out.mono (fun i e => Or.inl e)).then ho2 (fun i hr hi => by
    by_cases e : i = p
    · exact Or.inl e
    · obtain ⟨h1, _, cs, h2⟩ := hr
      exact Or.inr ⟨h1, cs, by rw [← HO1.out.block i hi e]; exact h2⟩)⟩
  clear hR2 hb2 hk2 ho2 HX1 HZ1 HR1 HB1 HA1 HO1 x0 x1 x2
  go_upto_region 4 with (fail)
  obtain ⟨W3, hW3⟩ : ∃ W3, W3 = w2.alloc (.cells #[.int .u64 bg, .int .u64 l', .slice A2 os'.length c2] TM) := ⟨_, rfl⟩
  have hb3 : Below w2.heap.size w2 W3 := by rw [hW3]; exact (Below.refl _ _).alloc (Nat.le_refl _) _
  have HY : Aside0 (Blk W3 w2.heap.size [.int .u64 bg, .int .u64 l', .slice A2 os'.length c2] TM) := ⟨by rw [hW3]; exact Blk.newA w2 _ _⟩
  have HA3 := Aside0.mk (HA2.out.below hb3)
  have HR3 := Aside0.mk (Kd.R_below HR2.out hb3)
  have HZ3 := Aside0.mk (HZ2.out.belowSize hb3)
  have HO3 : Aside0 (Only (Sp w w0.heap.size p) w W3) := ⟨HO2.out.then (Only.ofBelow (S := fun _ => False) hb3) (fun _ h _ => h.elim)⟩
  have h2l : w.heap.size + 1 + 1 < w2.heap.size := HZ2.out.lt
  rw [← hW3]
  clear hW3 hb3 HA2 HR2 HZ2 HO2
  generalize w2.heap.size = g9 at *
  have y0 := HY.out.cell 0 _ rfl
  have y1 := HY.out.cell 1 _ rfl
  have y2 := HY.out.cell 2 _ rfl
  have q0 := HZ3.out.cell 0 _ rfl
  have q1 := HZ3.out.cell 1 _ rfl
  have q2 := HZ3.out.cell 2 _ rfl
  have f0 := HZ3.out.free 0
  have f1 := HZ3.out.free 1
  have f2 := HZ3.out.free 2
  have hne1 : g9 ≠ w.heap.size + 1 + 1 := by omega
  have hne2 : w.heap.size + 1 + 1 ≠ g9 := by omega
  have HZf := Aside0.mk (((HZ3.out.put 0 (.int .u64 bg)).put 1 (.int .u64 l')).put 2 (.slice A2 os'.length c2))
  have HRf := Aside0.mk (Kd.R_set (Kd.R_set (Kd.R_set HR3.out HZ3.out.out (by decide) 0 (.int .u64 bg)) (HZ3.out.put 0 (.int .u64 bg)).out (by decide) 1 (.int .u64 l')) ((HZ3.out.put 0 (.int .u64 bg)).put 1 (.int .u64 l')).out (by decide) 2 (.slice A2 os'.length c2))
  have hOz : Only (fun i => i = w.heap.size + 1 + 1) W3 (((W3.setCell ⟨w.heap.size + 1 + 1, 0, none⟩ (.int .u64 bg)).setCell ⟨w.heap.size + 1 + 1, 1, none⟩ (.int .u64 l')).setCell ⟨w.heap.size + 1 + 1, 2, none⟩ (.slice A2 os'.length c2)) :=
    Only.setCell (S := fun i => i = w.heap.size + 1 + 1) (Only.setCell (S := fun i => i = w.heap.size + 1 + 1) (Only.setCell (S := fun i => i = w.heap.size + 1 + 1) (Only.refl _ W3) (p := ⟨w.heap.size + 1 + 1, 0, none⟩) (Or.inl rfl) _) (p := ⟨w.heap.size + 1 + 1, 1, none⟩) (Or.inl rfl) _) (p := ⟨w.heap.size + 1 + 1, 2, none⟩) (Or.inl rfl) _
  have HAf := Aside0.mk (HA3.out.only hOz (by omega))
  have HOf := Aside0.mk (HO3.out.then hOz (fun i (e : i = w.heap.size + 1 + 1) hi => absurd hi (by omega)))
  clear hOz
  go_wp2
  have z0 := HZf.out.cell 0 _ rfl
  have z1 := HZf.out.cell 1 _ rfl
  have z2 := HZf.out.cell 2 _ rfl
  generalize (((W3.setCell ⟨w.heap.size + 1 + 1, 0, none⟩ (.int .u64 bg)).setCell ⟨w.heap.size + 1 + 1, 1, none⟩ (.int .u64 l')).setCell ⟨w.heap.size + 1 + 1, 2, none⟩ (.slice A2 os'.length c2)) = wf at *
  clear y0 y1 y2 q0 q1 q2 f0 f1 f2
  exact bodyPost_ret (v := .tuple #[.agg #[.int .u64 bg, .int .u64 l', .slice A2 os'.length c2], .bool true]) (by simp [results, Try.results15, go_sem, z0, z1, z2]) rfl ⟨_, _, rfl, HAf.out, HRf.out, HOf.out⟩

set_option maxRecDepth 100000 in
set_option maxHeartbeats 4000000 in
theorem playDone (p : Nat) (bg l f s en : Int) (rs os os' : List Int) (pk st : Int) (A : Option Addr) (c : Nat) (w0 w : World)
    (hsel : (0 ≤ pk ∧ pk < os.length ∧ rd os pk = s) ∨ (¬ (0 ≤ pk ∧ pk < os.length) ∧ st = s)) (hos : os.length ≤ 4096)
    (HPrg : Aside0 (∀ W, Clk W p l f rs → Calls Try.prog 12 #[.pointer (some ⟨p, 0, none⟩), .int .u64 s] W fun e w' => e = .returned (.int .i64 en) ∧ ∃ f' rs', (Rg l f' rs' ∧ openL rs' f' l = os') ∧ Clk w' p l f' rs' ∧ Only (fun i => i = p) W w'))
    (HRef : Aside0 (PClockPlays.vellumref06_Done.f (os.length + 1) bg l os s = some (bg, l, os', en)))
    (h : Clk w p l f rs) (hR : MR w w0.heap.size (.slice A os.length c) os) (hb : Below w0.heap.size w0 w) (hp : w0.heap.size ≤ p) :
    Calls Try.prog 15 #[.pointer (some ⟨p, 0, none⟩), .agg #[.int .u64 bg, .int .u64 l, .slice A os.length c], .agg #[.bool false, .int .i64 pk, .int .u64 st]] w fun e w' =>
      ∃ A' c', e = .returned (.tuple #[.agg #[.int .u64 bg, .int .u64 l, .slice A' os'.length c'], .bool true]) ∧ (∃ f' rs', (Rg l f' rs' ∧ openL rs' f' l = os') ∧ Clk w' p l f' rs') ∧ MR w' w0.heap.size (.slice A' os'.length c') os' ∧ Only (Sp w w0.heap.size p) w w' := by
  have H := Aside0.mk h
  have HR := Aside0.mk hR
  have HBw := Aside0.mk hb
  have hz := zeroM
  have hpl : p < w.heap.size := h.row.lt
  have hpB := Aside0.mk hp
  have HSel := Aside0.mk hsel
  clear h hR hb hp hsel
  go_enter Try.func15, Try.ntmps15
  go_upto_region 5 with (fail)
  obtain ⟨W, hW⟩ : ∃ W, W = ((w.alloc (.cells #[.int .u64 bg, .int .u64 l, .slice A os.length c] TM)).alloc (.cells #[.bool false, .int .i64 pk, .int .u64 st] TO)).alloc (.cells #[.int .u64 0, .int .u64 0, .slice none 0 0] TM) := ⟨_, rfl⟩
  have HB0 : Aside0 (Below w.heap.size w W) := ⟨by rw [hW]; exact (((Below.refl _ _).alloc (Nat.le_refl _) _).alloc (by simp) _).alloc (by simp; omega) _⟩
  have HX : Aside0 (Blk W w.heap.size [.int .u64 bg, .int .u64 l, .slice A os.length c] TM) := ⟨by rw [hW]; exact ((Blk.newA w _ _).alloc _).alloc _⟩
  have HV : Aside0 (Blk W (w.heap.size + 1) [.bool false, .int .i64 pk, .int .u64 st] TO) := ⟨by rw [hW]; have := (Blk.newA (w.alloc (.cells #[.int .u64 bg, .int .u64 l, .slice A os.length c] TM)) #[.bool false, .int .i64 pk, .int .u64 st] TO).alloc (.cells #[.int .u64 0, .int .u64 0, .slice none 0 0] TM); simpa using this⟩
  have HZ : Aside0 (Blk W (w.heap.size + 1 + 1) [.int .u64 0, .int .u64 0, .slice none 0 0] TM) := ⟨by rw [hW]; have := Blk.newA ((w.alloc (.cells #[.int .u64 bg, .int .u64 l, .slice A os.length c] TM)).alloc (.cells #[.bool false, .int .i64 pk, .int .u64 st] TO)) #[.int .u64 0, .int .u64 0, .slice none 0 0] TM; simpa using this⟩
  rw [← hW]
  clear hW
  have x2 := HX.out.cell 2 _ rfl
  have v1 := HV.out.cell 1 _ rfl
  have v2 := HV.out.cell 2 _ rfl
  go_upto_region 6 with (fail)
  go_cut [51] (fun v wc => ∃ bd : Bool, v = .bool bd ∧ W = wc ∧ Aside0 (bd = true → 0 ≤ pk ∧ pk < os.length ∧ rd os pk = s) ∧ Aside0 (bd = false → st = s))
  case first =>
    by_cases h1 : 0 ≤ pk
    · by_cases h2 : pk < os.length
      · have hs : rd os pk = s := by
          rcases HSel.out with h | h
          · exact h.2.2
          · exact absurd ⟨h1, h2⟩ h.1
        have HSx : Aside0 (rd os pk = s) := ⟨hs⟩
        clear hs
        go_wp2
        go_meet
        exact ⟨true, by simp [h2], rfl, ⟨fun _ => ⟨h1, h2, HSx.out⟩⟩, ⟨fun hh => by simp at hh⟩⟩
      · have hs : Aside0 (st = s) := ⟨by
          rcases HSel.out with h | h
          · exact absurd h.2.1 h2
          · exact h.2⟩
        go_wp2
        go_meet
        exact ⟨false, by first | (simp; done) | (simp; omega), rfl, ⟨fun hh => by simp at hh⟩, ⟨fun _ => hs.out⟩⟩
    · have hs : Aside0 (st = s) := ⟨by
        rcases HSel.out with h | h
        · exact absurd h.1 h1
        · exact h.2⟩
      go_wp2
      go_meet
      exact ⟨false, by simp, rfl, ⟨fun hh => by simp at hh⟩, ⟨fun _ => hs.out⟩⟩
  case rest =>
  obtain ⟨bd, rfl, rfl, HT, HF⟩ := hcut
  go_upto_if 51 with (fail)
  go_cut [13] (fun v wc => v = .int .u64 s ∧ W = wc)
  case first =>
    cases bd with
    | true =>
      obtain ⟨h1, h2, h3⟩ := HT.out rfl
      obtain ⟨ad, e, hy⟩ := Kd.at_int (Kd.C_below (Kd.R_reads' HR.out).2.2 HB0.out) pk h1 h2
      rw [h3] at hy
      subst e
      have H3 := Aside0.mk h3
      clear h3
      go_wp2
      go_meet
      exact ⟨rfl, rfl⟩
    | false =>
      have e := HF.out rfl
      subst e
      go_wp2
      go_meet
      exact ⟨rfl, rfl⟩
  case rest =>
  obtain ⟨rfl, rfl⟩ := hcut
  clear HT HF x2 v1 v2 HSel
  go_wp2_with fail
  refine (HPrg.out W (H.out.below HB0.out)).mono ?_
  rintro e w1 ⟨rfl, f', rs', hQ, ha1, ho1⟩
  have HQ := Aside0.mk hQ
  have HA1 := Aside0.mk ha1
  have HO1 : Aside0 (Only (fun i => i = p) w w1) := ⟨(Only.ofBelow HB0.out).trans ho1⟩
  have HX1 := Aside0.mk (ho1.blk HX.out (by omega))
  have HZ1 := Aside0.mk (ho1.blk HZ.out (by omega))
  have HR1 : Aside0 (MR w1 w0.heap.size (.slice A os.length c) os) := ⟨HO1.out.Rt H.out.row (by decide) HR.out⟩
  have HB1 : Aside0 (Below w0.heap.size w0 w1) := ⟨HBw.out.trans (HO1.out.below (fun i (e : i = p) => by have := hpB.out; omega) HBw.out.size)⟩
  clear ha1 ho1 hQ HX HZ HB0 HV
  have x0 := HX1.out.cell 0 _ rfl
  have x1 := HX1.out.cell 1 _ rfl
  have x2 := HX1.out.cell 2 _ rfl
  go_wp2_with fail
  refine (PClockPlays.vellumref06_Done.calls (os.length + 1) bg l (rowOf w1 w0.heap.size) (.slice A os.length c) os s bg l os' en w0 w1 HB1.out (MR.row HR1.out) HRef.out).mono ?_
  rintro e w2 ⟨v2, rfl, hR2, hb2, hk2⟩
  have ho2 : Only (rowOf w1 w0.heap.size) w1 w2 := onlyOf HB1.out hb2 hk2
  obtain ⟨A2, c2, rfl⟩ := Kd.R_slice hR2
  have HR2 : Aside0 (MR w2 w0.heap.size (.slice A2 os'.length c2) os') := ⟨Kd.R_mono hR2 (fun _ _ => trivial)⟩
  have HA2 : Aside0 (Clk w2 p l f' rs') := ⟨HA1.out.only ho2 (notRow HA1.out.row (by decide))⟩
  have HZ2 := Aside0.mk (ho2.blk HZ1.out (notRow HZ1.out (by decide)))
  have HO2 : Aside0 (Only (Sp w w0.heap.size p) w w2) := ⟨(HO1.out.mono (fun i e => Or.inl e)).then ho2 (fun i hr hi => by
    by_cases e : i = p
    · exact Or.inl e
    · obtain ⟨h1, _, cs, h2⟩ := hr
      exact Or.inr ⟨h1, cs, by rw [← HO1.out.block i hi e]; exact h2⟩)⟩
  clear hR2 hb2 hk2 ho2 HX1 HZ1 HR1 HB1 HA1 HO1 x0 x1 x2
  go_upto_region 10 with (fail)
  obtain ⟨W3, hW3⟩ : ∃ W3, W3 = w2.alloc (.cells #[.int .u64 bg, .int .u64 l, .slice A2 os'.length c2] TM) := ⟨_, rfl⟩
  have hb3 : Below w2.heap.size w2 W3 := by rw [hW3]; exact (Below.refl _ _).alloc (Nat.le_refl _) _
  have HY : Aside0 (Blk W3 w2.heap.size [.int .u64 bg, .int .u64 l, .slice A2 os'.length c2] TM) := ⟨by rw [hW3]; exact Blk.newA w2 _ _⟩
  have HA3 := Aside0.mk (HA2.out.below hb3)
  have HR3 := Aside0.mk (Kd.R_below HR2.out hb3)
  have HZ3 := Aside0.mk (HZ2.out.belowSize hb3)
  have HO3 : Aside0 (Only (Sp w w0.heap.size p) w W3) := ⟨HO2.out.then (Only.ofBelow (S := fun _ => False) hb3) (fun _ h _ => h.elim)⟩
  have h2l : w.heap.size + 1 + 1 < w2.heap.size := HZ2.out.lt
  rw [← hW3]
  clear hW3 hb3 HA2 HR2 HZ2 HO2
  generalize w2.heap.size = g9 at *
  have y0 := HY.out.cell 0 _ rfl
  have y1 := HY.out.cell 1 _ rfl
  have y2 := HY.out.cell 2 _ rfl
  have q0 := HZ3.out.cell 0 _ rfl
  have q1 := HZ3.out.cell 1 _ rfl
  have q2 := HZ3.out.cell 2 _ rfl
  have f0 := HZ3.out.free 0
  have f1 := HZ3.out.free 1
  have f2 := HZ3.out.free 2
  have hne1 : g9 ≠ w.heap.size + 1 + 1 := by omega
  have hne2 : w.heap.size + 1 + 1 ≠ g9 := by omega
  have HZf := Aside0.mk (((HZ3.out.put 0 (.int .u64 bg)).put 1 (.int .u64 l)).put 2 (.slice A2 os'.length c2))
  have HRf := Aside0.mk (Kd.R_set (Kd.R_set (Kd.R_set HR3.out HZ3.out.out (by decide) 0 (.int .u64 bg)) (HZ3.out.put 0 (.int .u64 bg)).out (by decide) 1 (.int .u64 l)) ((HZ3.out.put 0 (.int .u64 bg)).put 1 (.int .u64 l)).out (by decide) 2 (.slice A2 os'.length c2))
  have hOz : Only (fun i => i = w.heap.size + 1 + 1) W3 (((W3.setCell ⟨w.heap.size + 1 + 1, 0, none⟩ (.int .u64 bg)).setCell ⟨w.heap.size + 1 + 1, 1, none⟩ (.int .u64 l)).setCell ⟨w.heap.size + 1 + 1, 2, none⟩ (.slice A2 os'.length c2)) :=
    Only.setCell (S := fun i => i = w.heap.size + 1 + 1) (Only.setCell (S := fun i => i = w.heap.size + 1 + 1) (Only.setCell (S := fun i => i = w.heap.size + 1 + 1) (Only.refl _ W3) (p := ⟨w.heap.size + 1 + 1, 0, none⟩) (Or.inl rfl) _) (p := ⟨w.heap.size + 1 + 1, 1, none⟩) (Or.inl rfl) _) (p := ⟨w.heap.size + 1 + 1, 2, none⟩) (Or.inl rfl) _
  have HAf := Aside0.mk (HA3.out.only hOz (by omega))
  have HOf := Aside0.mk (HO3.out.then hOz (fun i (e : i = w.heap.size + 1 + 1) hi => absurd hi (by omega)))
  clear hOz
  go_wp2
  have z0 := HZf.out.cell 0 _ rfl
  have z1 := HZf.out.cell 1 _ rfl
  have z2 := HZf.out.cell 2 _ rfl
  generalize (((W3.setCell ⟨w.heap.size + 1 + 1, 0, none⟩ (.int .u64 bg)).setCell ⟨w.heap.size + 1 + 1, 1, none⟩ (.int .u64 l)).setCell ⟨w.heap.size + 1 + 1, 2, none⟩ (.slice A2 os'.length c2)) = wf at *
  clear y0 y1 y2 q0 q1 q2 f0 f1 f2
  exact bodyPost_ret (v := .tuple #[.agg #[.int .u64 bg, .int .u64 l, .slice A2 os'.length c2], .bool true]) (by simp [results, Try.results15, go_sem, z0, z1, z2]) rfl ⟨_, _, rfl, ⟨f', rs', HQ.out, HAf.out⟩, HRf.out, HOf.out⟩

theorem refTake_end (bg l : Int) (os : List Int) (h : 4611686018427387904 ≤ l) : PClockPlays.vellumref06_Take.f bg l os = some (bg, l, os, 0, 4) := by
  unfold PClockPlays.vellumref06_Take.f
  rw [if_pos h]
theorem refTake_full {l f : Int} {rs : List Int} (h : Rg l f rs) (bg : Int) (h1 : l < 4611686018427387904) (h2 : l - f = 4096) : PClockPlays.vellumref06_Take.f bg l (openL rs f l) = some (bg, l, openL rs f l, 0, 2) := by
  unfold PClockPlays.vellumref06_Take.f
  rw [if_neg (by omega), ref_front h bg, Option.bind_some, IntWalk.u64_in _ (by omega), if_pos (by omega)]
theorem refTake_ok {l f : Int} {rs : List Int} (h : Rg l f rs) (bg : Int) (h1 : l < 4611686018427387904) (h2 : l - f < 4096) : PClockPlays.vellumref06_Take.f bg l (openL rs f l) = some (bg, l + 1, openL rs f (l + 1), l + 1, 0) := by
  have h0 := h.f0
  have hf := h.fl
  have hl := openTo_len rs f (l - f).toNat
  have hl2 : (openL rs f l).length ≤ 4096 := by unfold openL; omega
  unfold PClockPlays.vellumref06_Take.f
  rw [if_neg (by omega), ref_front h bg, Option.bind_some, IntWalk.u64_in _ (by omega), if_neg (by omega), if_pos (by simp only [List.length_nil]; omega), Option.bind_some, List.nil_append, if_pos (by omega), IntWalk.u64_in _ (by omega), openL_take h]

theorem playAny (p : Nat) (bg l f : Int) (rs : List Int) (x : Op) (A : Option Addr) (c : Nat) (w0 w : World) (hst : 0 ≤ x.stamp)
    (h : Cl w0 w p l f rs) (hR : MR w w0.heap.size (.slice A (openL rs f l).length c) (openL rs f l)) :
    Calls Try.prog 15 #[.pointer (some ⟨p, 0, none⟩), .agg #[.int .u64 bg, .int .u64 l, .slice A (openL rs f l).length c], .agg #[.bool x.take, .int .i64 x.pick, .int .u64 x.stamp]] w fun e w' =>
      ∃ l' f' rs' A' c', e = .returned (.tuple #[.agg #[.int .u64 bg, .int .u64 l', .slice A' (openL rs' f' l').length c'], .bool true]) ∧ Rg l' f' rs' ∧ Clk w' p l' f' rs' ∧ MR w' w0.heap.size (.slice A' (openL rs' f' l').length c') (openL rs' f' l') ∧ Only (Sp w w0.heap.size p) w w' := by
  have hf0 := h.rg.f0
  have hfl := h.rg.fl
  have hgap := h.rg.gap
  have hlM := h.rg.lM
  have hlen := openL_len h.clk
  cases hx : x.take with
  | true =>
    by_cases h1 : l < 4611686018427387904
    · by_cases h2 : l - f < 4096
      · exact (playTake p bg l (l + 1) f (l + 1) 0 rs _ _ x.pick x.stamp A c w0 w ⟨fun W hW => takeOk p l f rs W hW h1 h2⟩ ⟨refTake_ok h.rg bg h1 h2⟩ h.clk hR h.below h.hp).mono
          fun e w' ⟨A', c', he, hc, hr, ho⟩ => ⟨l + 1, f, rs, A', c', he, h.rg.take h1 h2, hc, hr, ho⟩
      · exact (playTake p bg l l f 0 2 rs _ _ x.pick x.stamp A c w0 w ⟨fun W hW => (takeFull p l f rs W hW h1 (by omega)).mono fun e w' ⟨he, hw⟩ => ⟨he, hw ▸ hW, hw ▸ Only.refl _ _⟩⟩ ⟨refTake_full h.rg bg h1 (by omega)⟩ h.clk hR h.below h.hp).mono
          fun e w' ⟨A', c', he, hc, hr, ho⟩ => ⟨l, f, rs, A', c', he, h.rg, hc, hr, ho⟩
    · have e : l = 4611686018427387904 := by omega
      subst e
      exact (playTake p bg _ _ f 0 4 rs _ _ x.pick x.stamp A c w0 w ⟨fun W hW => (takeEnd p f rs W hW).mono fun e w' ⟨he, hw⟩ => ⟨he, hw ▸ hW, hw ▸ Only.refl _ _⟩⟩ ⟨refTake_end bg _ _ (Int.le_refl _)⟩ h.clk hR h.below h.hp).mono
        fun e w' ⟨A', c', he, hc, hr, ho⟩ => ⟨_, f, rs, A', c', he, h.rg, hc, hr, ho⟩
  | false =>
    obtain ⟨s, hsel, hs0⟩ : ∃ s, ((0 ≤ x.pick ∧ x.pick < (openL rs f l).length ∧ rd (openL rs f l) x.pick = s) ∨ (¬ (0 ≤ x.pick ∧ x.pick < (openL rs f l).length) ∧ x.stamp = s)) ∧ 0 ≤ s := by
      by_cases hp : 0 ≤ x.pick ∧ x.pick < (openL rs f l).length
      · have := open_at (rs := rs) hfl x.pick hp.1 hp.2
        exact ⟨_, Or.inl ⟨hp.1, hp.2, rfl⟩, by omega⟩
      · exact ⟨_, Or.inr ⟨hp, rfl⟩, hst⟩
    have href := ref_done (openL rs f l) bg l s hlen
    by_cases hm : s ∈ openL rs f l
    · obtain ⟨g1, g2, g3⟩ := (openL_mem hfl s).1 hm
      rw [if_neg (fun h => (filter_all _ s).1 h hm)] at href
      exact (playDone p bg l f s 0 rs _ _ x.pick x.stamp A c w0 w hsel hlen ⟨fun W hW => (doneOk p l f s rs W hW (fun t => (h.rg.le t).2) g1 g2 g3).mono fun e w' ⟨he, f', k1, k2, k3, k4, k5, k6⟩ => ⟨he, f', mark rs s, ⟨h.rg.done s g1 g2 k1 k2 k4, openL_done h.rg s g1 g2 k1 k2 k3⟩, k5, k6⟩⟩ ⟨href⟩ h.clk hR h.below h.hp).mono
        fun e w' ⟨A', c', he, ⟨f', rs', ⟨hg, ho'⟩, hc⟩, hr, ho⟩ => ⟨l, f', rs', A', c', by rw [ho']; exact he, hg, hc, by rw [ho']; exact hr, ho⟩
    · rw [if_pos ((filter_all _ s).2 hm)] at href
      have hbad : l < s ∨ s ≤ f ∨ s ≤ at_ rs s := by
        by_cases a : l < s
        · exact Or.inl a
        · by_cases b : s ≤ f
          · exact Or.inr (Or.inl b)
          · by_cases d : s ≤ at_ rs s
            · exact Or.inr (Or.inr d)
            · exact absurd ((openL_mem hfl s).2 ⟨by omega, by omega, by omega⟩) hm
      exact (playDone p bg l f s 60 rs _ _ x.pick x.stamp A c w0 w hsel hlen ⟨fun W hW => (doneBad p l f s rs W hW hs0 hbad).mono fun e w' ⟨he, hw⟩ => ⟨he, f, rs, ⟨h.rg, rfl⟩, hw ▸ hW, hw ▸ Only.refl _ _⟩⟩ ⟨href⟩ h.clk hR h.below h.hp).mono
        fun e w' ⟨A', c', he, ⟨f', rs', ⟨hg, ho'⟩, hc⟩, hr, ho⟩ => ⟨l, f', rs', A', c', by rw [ho']; exact he, hg, hc, by rw [ho']; exact hr, ho⟩
end Go.Proofs.Ytmbekkndjkegdaa.Clock
