/- Layer 22: a database that nobody made: what each of vacuum's functions tells of it; the law's walk. -/
import Derived.Test.YtpjdbmhcpcmakaaGreatDoorVacA
namespace Go.Proofs.YtpjdbmhcpcmakaaGreatDoor.Vac
set_option linter.unusedVariables false
set_option linter.unusedSimpArgs false
open Go.RowKit Go.Proofs.YtpjdbmhcpcmakaaGreatDoorW.PrintWords Go.Proofs.YtpjdbmhcpcmakaaGreatDoor.Kit

abbrev TD : TypeId := 38
abbrev TPr : TypeId := 48
theorem zeroP (W : World) : (zeroValue TPr).run Tryz.prog W = .ok (.agg #[.int .i64 0, .int .i64 0, .int .i64 0]) W := by kernel_rfl
/-- Nobody made it: nil, or a struct whose clock is nil. -/
def Nob (w : World) (d : Value) : Prop := d = .pointer none ∨ ∃ b, d = .pointer (some ⟨b, 0, none⟩) ∧ w.cell? ⟨b, 3, none⟩ = some (.pointer none)
theorem cellB {w w' : World} {a : Addr} {v : Value} (hb : Below w.heap.size w w') (hc : w.cell? a = some v) : w'.cell? a = some v := by
  have : a.block < w.heap.size := by
    by_cases h : a.block < w.heap.size
    · exact h
    · simp [World.cell?, Array.getElem?_eq_none (Nat.le_of_not_lt h)] at hc
  rw [hb.cell this]
  exact hc
theorem Nob.below {w w' : World} {d : Value} (h : Nob w d) (hb : Below w.heap.size w w') : Nob w' d := by
  rcases h with rfl | ⟨b, rfl, hc⟩
  · exact Or.inl rfl
  · exact Or.inr ⟨b, rfl, cellB hb hc⟩
theorem dbIs (d : Value) (w : World) (h : Nob w d) : Calls Tryz.prog 20 #[d] w fun e w' => e = .returned (.bool false) ∧ w = w' := by
  rcases h with rfl | ⟨b, rfl, hc⟩
  all_goals
    go_enter Tryz.func20, Tryz.ntmps20
    go_wp2
    go_ret
    exact ⟨rfl, rfl⟩
theorem dbTables (d : Value) (w : World) (h : Nob w d) : Calls Tryz.prog 11 #[d] w fun e w' => e = .returned (.slice none 0 0) ∧ w = w' := by
  have H := Aside0.mk (dbIs d w h)
  clear h
  go_enter Tryz.func11, Tryz.ntmps11
  go_wp2_with fail
  refine H.out.mono ?_
  rintro e w' ⟨rfl, rfl⟩
  go_wp2
  go_ret
  exact ⟨rfl, rfl⟩
theorem isNo (d : Value) (w : World) (h : Nob w d) : Calls Tryz.prog 10 #[d] w fun e w' => e = .returned (.bool false) ∧ w = w' := by
  have H := Aside0.mk (dbTables d w h)
  rcases h with rfl | ⟨b, rfl, hc⟩
  · clear H
    go_enter Tryz.func10, Tryz.ntmps10
    go_wp2
    go_ret
    exact ⟨rfl, rfl⟩
  · clear hc
    go_enter Tryz.func10, Tryz.ntmps10
    go_wp2_with fail
    refine H.out.mono ?_
    rintro e w' ⟨rfl, rfl⟩
    go_wp2
    go_ret
    exact ⟨rfl, rfl⟩
theorem lookNo (d : Value) (w : World) (h : Nob w d) : Calls Tryz.prog 4 #[d] w fun e w' => e = .returned (.tuple #[.slice none 0 0, .int .i64 1]) ∧ w = w' := by
  have H := Aside0.mk (isNo d w h)
  clear h
  go_enter Tryz.func4, Tryz.ntmps4
  go_wp2_with fail
  refine H.out.mono ?_
  rintro e w' ⟨rfl, rfl⟩
  go_wp2
  go_ret2
  exact ⟨rfl, rfl⟩
theorem holdersNo (d : Value) (w : World) (h : Nob w d) : Calls Tryz.prog 5 #[d] w fun e w' => e = .returned (.tuple #[.slice none 0 0, .int .i64 1]) ∧ w = w' := by
  have H := Aside0.mk (isNo d w h)
  clear h
  go_enter Tryz.func5, Tryz.ntmps5
  go_wp2_with fail
  refine H.out.mono ?_
  rintro e w' ⟨rfl, rfl⟩
  go_wp2
  go_ret2
  exact ⟨rfl, rfl⟩
theorem oldNo (d : Value) (age : Int) (w : World) (h : Nob w d) : Calls Tryz.prog 6 #[d, .int .u64 age] w fun e w' => e = .returned (.tuple #[.slice none 0 0, .int .i64 1]) ∧ w = w' := by
  have H := Aside0.mk (isNo d w h)
  clear h
  go_enter Tryz.func6, Tryz.ntmps6
  go_wp2_with fail
  refine H.out.mono ?_
  rintro e w' ⟨rfl, rfl⟩
  go_wp2
  go_ret2
  exact ⟨rfl, rfl⟩
abbrev zP : Value := .agg #[.int .i64 0, .int .i64 0, .int .i64 0]
theorem prunedZero (W : World) (g : Nat) (h : Blk W g [.int .i64 0, .int .i64 0, .int .i64 0] TPr) : Blk (((W.setCell ⟨g, 0, none⟩ (.int .i64 0)).setCell ⟨g, 1, none⟩ (.int .i64 0)).setCell ⟨g, 2, none⟩ (.int .i64 0)) g [.int .i64 0, .int .i64 0, .int .i64 0] TPr :=
  ((h.put 0 (.int .i64 0)).put 1 (.int .i64 0)).put 2 (.int .i64 0)
theorem set3 {B : Nat} {w W : World} (h : Below B w W) (g : Nat) (hg : B ≤ g) (a b c : Value) : Below B w (((W.setCell ⟨g, 0, none⟩ a).setCell ⟨g, 1, none⟩ b).setCell ⟨g, 2, none⟩ c) :=
  ((h.setCell (p := ⟨g, 0, none⟩) hg a).setCell (p := ⟨g, 1, none⟩) hg b).setCell (p := ⟨g, 2, none⟩) hg c
theorem results_tct {P : Program} {fn : Func} {p u v : Tmp} {ty : TypeId} (h : fn.results = #[.tmp u, .cell p ty, .tmp v]) (tmps : Array Value) (w : World) (g : Nat) (t : TypeId) (cs : Array Value) (fr : Nat × Nat) (d : TypeDesc)
    (hp : tmps.getD p undef = .pointer (some ⟨g, 0, none⟩)) (hg : w.heap[g]? = some (.cells cs t fr))
    (hu : P.underlying ty = some d) (hd : (match d with | .struct _ | .array _ _ => true | _ => false) = true) (hi : (P.info? ty).map (·.size) = some cs.size) :
    (results fn tmps).run P w = .ok (.tuple #[tmps.getD u undef, .agg cs, tmps.getD v undef]) w := by
  have hp' : tmps[p]?.getD undef = .pointer (some ⟨g, 0, none⟩) := by simpa using hp
  simp [results, h, hp', asAddr, run_loadVar_row w g t ty cs fr d hg hu hd hi]
set_option maxHeartbeats 4000000 in
theorem runNo (d : Value) (w : World) (h : Nob w d) : Calls Tryz.prog 7 #[d] w fun e w' => e = .returned (.tuple #[zP, .int .i64 1]) ∧ Below w.heap.size w w' := by
  have hz := zeroP
  obtain ⟨W, hW⟩ : ∃ W, W = w.alloc (.cells #[.int .i64 0, .int .i64 0, .int .i64 0] TPr) := ⟨_, rfl⟩
  have hb : Below w.heap.size w W := by rw [hW]; exact (Below.refl _ _).alloc (Nat.le_refl _) _
  have HX : Aside0 (Blk W w.heap.size [.int .i64 0, .int .i64 0, .int .i64 0] TPr) := ⟨by rw [hW]; exact Blk.newA w _ _⟩
  have H := Aside0.mk (isNo d W (h.below hb))
  have HB := Aside0.mk hb
  clear h hb
  go_enter Tryz.func7, Tryz.ntmps7
  go_wp2_with fail
  rw [← hW]
  clear hW
  refine H.out.mono ?_
  rintro e w' ⟨rfl, rfl⟩
  have x0 := HX.out.cell 0 _ rfl
  have x1 := HX.out.cell 1 _ rfl
  have x2 := HX.out.cell 2 _ rfl
  have f0 := HX.out.free 0
  have f1 := HX.out.free 1
  have f2 := HX.out.free 2
  clear H
  go_wp2
  exact bodyPost_ret (v := .tuple #[zP, .int .i64 1]) (results_ct (p := 2) (u := 3) rfl _ _ _ TPr _ (0, 0) _ rfl (prunedZero _ _ HX.out).out Tryz.underlying48 rfl (by kernel_rfl)) rfl ⟨rfl, set3 HB.out _ (Nat.le_refl _) _ _ _⟩
set_option maxHeartbeats 4000000 in
theorem clearNo (d : Value) (age : Int) (w : World) (h : Nob w d) : Calls Tryz.prog 8 #[d, .int .u64 age] w fun e w' => e = .returned (.tuple #[.slice none 0 0, zP, .int .i64 1]) ∧ Below w.heap.size w w' := by
  have hz := zeroP
  obtain ⟨W, hW⟩ : ∃ W, W = w.alloc (.cells #[.int .i64 0, .int .i64 0, .int .i64 0] TPr) := ⟨_, rfl⟩
  have hb : Below w.heap.size w W := by rw [hW]; exact (Below.refl _ _).alloc (Nat.le_refl _) _
  have HX : Aside0 (Blk W w.heap.size [.int .i64 0, .int .i64 0, .int .i64 0] TPr) := ⟨by rw [hW]; exact Blk.newA w _ _⟩
  have H := Aside0.mk (isNo d W (h.below hb))
  have HB := Aside0.mk hb
  clear h hb
  go_enter Tryz.func8, Tryz.ntmps8
  go_wp2_with fail
  rw [← hW]
  clear hW
  refine H.out.mono ?_
  rintro e w' ⟨rfl, rfl⟩
  have x0 := HX.out.cell 0 _ rfl
  have x1 := HX.out.cell 1 _ rfl
  have x2 := HX.out.cell 2 _ rfl
  have f0 := HX.out.free 0
  have f1 := HX.out.free 1
  have f2 := HX.out.free 2
  clear H
  go_wp2
  exact bodyPost_ret (v := .tuple #[.slice none 0 0, zP, .int .i64 1]) (results_tct (p := 5) (u := 4) (v := 6) rfl _ _ _ TPr _ (0, 0) _ rfl (prunedZero _ _ HX.out).out Tryz.underlying48 rfl (by kernel_rfl)) rfl ⟨rfl, set3 HB.out _ (Nat.le_refl _) _ _ _⟩

abbrev zD : Array Value := #[.int .i32 0, .int .u32 0, .slice none 0 0, .pointer none, .pointer none, .pointer none, .pointer none, .map none]
theorem zeroD (W : World) : (zeroValue TD).run Tryz.prog W = .ok (.agg zD) W := by kernel_rfl
set_option maxRecDepth 100000 in
set_option maxHeartbeats 4000000 in
theorem vacuumNobody_walk (age : Int) (w : World) :
    Calls Tryz.prog 3 #[.int .u64 age] w fun e w' => e = .returned (.bool true) ∧ Below w.heap.size w w' := by
  have hz := zeroP
  have hzd := zeroD
  go_enter Tryz.func3, Tryz.ntmps3
  go_wp2_with fail
  go_loopw [3] (fun v wr => ∃ j : Nat, j ≤ 2 ∧ v = .int .i64 j ∧ Aside0 (Below w.heap.size w wr)) (fun v _ => 2 - (intOf v).toNat)
  case atStart => exact ⟨0, Nat.zero_le _, rfl, ⟨Below.refl _ _⟩⟩
  case round =>
    obtain ⟨j, hj, rfl, HB⟩ := hrel
    have hcases : j = 0 ∨ j = 1 ∨ j = 2 := by omega
    rcases hcases with rfl | rfl | rfl
    · have HN : Aside0 (∀ W, Nob W (.pointer none)) := ⟨fun W => Or.inl rfl⟩
      go_wp2_with fail
      refine (lookNo _ _ (HN.out _)).mono ?_
      rintro e w' ⟨rfl, rfl⟩
      go_wp2_with fail
      refine (holdersNo _ _ (HN.out _)).mono ?_
      rintro e w' ⟨rfl, rfl⟩
      go_wp2_with fail
      refine (oldNo _ age _ (HN.out _)).mono ?_
      rintro e w' ⟨rfl, rfl⟩
      go_wp2_with fail
      refine (runNo _ _ (HN.out _)).mono ?_
      rintro e w1 ⟨rfl, hb1⟩
      have HB1 := Aside0.mk (HB.out.trans (hb1.mono HB.out.size))
      clear hb1 HB
      go_upto_region 11 with (fail)
      have hb2 : Below w1.heap.size w1 (w1.alloc (.cells #[.int .i64 0, .int .i64 0, .int .i64 0] TPr)) := (Below.refl _ _).alloc (Nat.le_refl _) _
      have HB2 := Aside0.mk (HB1.out.trans (hb2.mono HB1.out.size))
      generalize w1.alloc (.cells #[.int .i64 0, .int .i64 0, .int .i64 0] TPr) = w2 at *
      clear hb2 HB1
      go_wp2_with fail
      refine (clearNo _ age _ (HN.out _)).mono ?_
      rintro e w3 ⟨rfl, hb3⟩
      have HB3 := Aside0.mk (HB2.out.trans (hb3.mono HB2.out.size))
      clear hb3 HB2
      go_upto_region 12 with (fail)
      have hb4 : Below w3.heap.size w3 (w3.alloc (.cells #[.int .i64 0, .int .i64 0, .int .i64 0] TPr)) := (Below.refl _ _).alloc (Nat.le_refl _) _
      have HB4 := Aside0.mk (HB3.out.trans (hb4.mono HB3.out.size))
      generalize w3.alloc (.cells #[.int .i64 0, .int .i64 0, .int .i64 0] TPr) = w4 at *
      clear hb4 HB3
      go_wp2
      go_roundw
      case rel => exact ⟨1, by omega, by go_num, HB4⟩
      case measure => simp [intOf]
    · go_upto_region 7 with (fail)
      have hb0 : Below wr.heap.size wr (wr.alloc (.cells zD TD)) := (Below.refl _ _).alloc (Nat.le_refl _) _
      have hc0 := (Blk.newA wr zD TD).cell 3 _ rfl
      have HB0 := Aside0.mk (HB.out.trans (hb0.mono HB.out.size))
      generalize wr.alloc (.cells zD TD) = W0 at *
      have HN : Aside0 (∀ W, Below W0.heap.size W0 W → Nob W (.pointer (some ⟨wr.heap.size, 0, none⟩))) := ⟨fun W h => Or.inr ⟨_, rfl, cellB h hc0⟩⟩
      generalize wr.heap.size = b at *
      clear hb0 hc0 HB
      go_wp2_with fail
      refine (lookNo _ _ (HN.out _ (Below.refl _ _))).mono ?_
      rintro e w' ⟨rfl, rfl⟩
      go_wp2_with fail
      refine (holdersNo _ _ (HN.out _ (Below.refl _ _))).mono ?_
      rintro e w' ⟨rfl, rfl⟩
      go_wp2_with fail
      refine (oldNo _ age _ (HN.out _ (Below.refl _ _))).mono ?_
      rintro e w' ⟨rfl, rfl⟩
      go_wp2_with fail
      refine (runNo _ _ (HN.out _ (Below.refl _ _))).mono ?_
      rintro e w1 ⟨rfl, hb1⟩
      have HC1 := Aside0.mk hb1
      clear hb1
      go_upto_region 11 with (fail)
      have hb2 : Below w1.heap.size w1 (w1.alloc (.cells #[.int .i64 0, .int .i64 0, .int .i64 0] TPr)) := (Below.refl _ _).alloc (Nat.le_refl _) _
      have HC2 := Aside0.mk (HC1.out.trans (hb2.mono HC1.out.size))
      generalize w1.alloc (.cells #[.int .i64 0, .int .i64 0, .int .i64 0] TPr) = w2 at *
      clear hb2 HC1
      go_wp2_with fail
      refine (clearNo _ age _ (HN.out _ HC2.out)).mono ?_
      rintro e w3 ⟨rfl, hb3⟩
      have HB3 := Aside0.mk (HB0.out.trans ((HC2.out.trans (hb3.mono HC2.out.size)).mono HB0.out.size))
      clear hb3 HC2 HB0 HN
      go_upto_region 12 with (fail)
      have hb4 : Below w3.heap.size w3 (w3.alloc (.cells #[.int .i64 0, .int .i64 0, .int .i64 0] TPr)) := (Below.refl _ _).alloc (Nat.le_refl _) _
      have HB4 := Aside0.mk (HB3.out.trans (hb4.mono HB3.out.size))
      generalize w3.alloc (.cells #[.int .i64 0, .int .i64 0, .int .i64 0] TPr) = w4 at *
      clear hb4 HB3
      go_wp2
      go_roundw
      case rel => exact ⟨2, by omega, by go_num, HB4⟩
      case measure => simp [intOf]
    · go_wp2_with fail
      refine (awakeCalls wr).mono ?_
      rintro e w9 ⟨rfl, hb9⟩
      have HB9 := Aside0.mk (HB.out.trans (hb9.mono HB.out.size))
      clear hb9 HB
      go_wp2
      go_ret
      exact ⟨rfl, HB9.out⟩
end Go.Proofs.YtpjdbmhcpcmakaaGreatDoor.Vac
