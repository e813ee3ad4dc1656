/- Merged by wip/tools/merge.py: SkipNobodyW SkipOp SkipQ SkipTurnsW SkipR SkipS SkipT SkipU SkipV SkipW. -/
import Derived.Test.YtnpjppnahfehnaaSkipPb
import Derived.Test.YtnpjppnahfehnaaSkipPa
import Derived.Test.YtnpjppnahfehnaaOpen
import Derived.Deep.CutBlock
import Derived.Deep.DeepCutAuto
import Derived.Test.YtnpjppnahfehnaaPSamex1
import Derived.Deep.QuietTactic
import Derived.BigQuiet
import Derived.Deep.RegionHeld3
import Derived.Laws.Cover1
/- Layer 12's list that New did not give; the walk of the law SkipNobody. -/
namespace Go.Proofs.Ytnpjppnahfehnaa.Skip
set_option linter.unusedVariables false
set_option linter.unusedSimpArgs false
open Go.RowKit Go.Proofs.YtnpjppnahfehnaaW.PrintWords Go.Proofs.Ytnpjppnahfehnaa.Kit Go.MuLone

/-- Nobody's list: is says so, in every world behind one. -/
def NoL (w : World) (r : Value) : Prop := ∀ W, Below w.heap.size w W → Calls Try.prog 21 #[r] W fun e w' => e = .returned (.bool false) ∧ W = w'
theorem NoL.on {w W : World} {r : Value} (h : NoL w r) (hb : Below w.heap.size w W) : NoL W r := fun V hV => h V (hb.trans (hV.mono hb.size))
theorem noNil (w : World) : NoL w (.pointer none) := fun W _ => by
  go_enter Try.func21, Try.ntmps21
  go_wp2
  go_ret
  exact ⟨rfl, rfl⟩
theorem noZero (w : World) (g : Nat) (h : w.cell? ⟨g, 0, none⟩ = some (.bool false)) : NoL w (.pointer (some ⟨g, 0, none⟩)) := fun W hb => by
  have h0 := pw_cell_below hb h
  clear h hb
  go_enter Try.func21, Try.ntmps21
  go_wp2
  go_ret
  exact ⟨rfl, rfl⟩
theorem noPut (r : Value) (key : ByteArray) (v ht : Int) (w : World) (h : NoL w r) :
    Calls Try.prog 18 #[r, .string key, .int .i64 v, .int .i64 ht] w fun e w' => e = .returned (.tuple #[.int .i64 0, .bool false, .int .i64 1]) ∧ w = w' := by
  have HI := Aside0.mk (h w (Below.refl _ _))
  clear h
  go_enter_defers Try.func18, Try.ntmps18
  go_wp2_with fail
  refine HI.out.mono ?_
  rintro e w' ⟨rfl, rfl⟩
  go_wp2_with fail
  exact ⟨_, results_tmp3 rfl _ _ _, rfl, rfl⟩
theorem noDelete (r : Value) (key : ByteArray) (w : World) (h : NoL w r) :
    Calls Try.prog 19 #[r, .string key] w fun e w' => e = .returned (.tuple #[.int .i64 0, .bool false]) ∧ w = w' := by
  have HI := Aside0.mk (h w (Below.refl _ _))
  clear h
  go_enter_defers Try.func19, Try.ntmps19
  go_wp2_with fail
  refine HI.out.mono ?_
  rintro e w' ⟨rfl, rfl⟩
  go_wp2_with fail
  exact ⟨_, results_tmp2 rfl _ _ _, rfl, rfl⟩
theorem noGet (r : Value) (key : ByteArray) (w : World) (h : NoL w r) :
    Calls Try.prog 20 #[r, .string key] w fun e w' => e = .returned (.tuple #[.int .i64 0, .bool false]) ∧ w = w' := by
  have HI := Aside0.mk (h w (Below.refl _ _))
  clear h
  go_enter Try.func20, Try.ntmps20
  go_wp2_with fail
  refine HI.out.mono ?_
  rintro e w' ⟨rfl, rfl⟩
  go_wp2
  go_ret2
  exact ⟨rfl, rfl⟩
theorem noLen (r : Value)  (w : World) (h : NoL w r) :
    Calls Try.prog 9 #[r] w fun e w' => e = .returned (.int .i64 0) ∧ w = w' := by
  have HI := Aside0.mk (h w (Below.refl _ _))
  clear h
  go_enter Try.func9, Try.ntmps9
  go_wp2_with fail
  refine HI.out.mono ?_
  rintro e w' ⟨rfl, rfl⟩
  go_wp2
  go_ret
  exact ⟨rfl, rfl⟩
theorem noLevels (r : Value)  (w : World) (h : NoL w r) :
    Calls Try.prog 12 #[r] w fun e w' => e = .returned (.slice none 0 0) ∧ w = w' := by
  have HI := Aside0.mk (h w (Below.refl _ _))
  clear h
  go_enter Try.func12, Try.ntmps12
  go_wp2_with fail
  refine HI.out.mono ?_
  rintro e w' ⟨rfl, rfl⟩
  go_wp2
  go_ret
  exact ⟨rfl, rfl⟩
theorem noSeek (r : Value) (key : ByteArray) (back : Bool) (w : World) (h : NoL w r) :
    Calls Try.prog 10 #[r, .string key, .bool back] w fun e w' => e = .returned (.tuple #[zE, .bool false]) ∧ Below w.heap.size w w' := by
  have hz := zeroE
  obtain ⟨W, hW⟩ : ∃ W, W = w.alloc (.cells #[.string ByteArray.empty, .int .i64 0, .int .i64 0] TE) := ⟨_, rfl⟩
  have hb : Below w.heap.size w W := by rw [hW]; exact (Below.refl _ _).alloc (Nat.le_refl _) _
  have HX : Aside0 (Blk W w.heap.size [.string ByteArray.empty, .int .i64 0, .int .i64 0] TE) := ⟨by rw [hW]; exact Blk.newA w _ _⟩
  have HB := Aside0.mk hb
  have HI := Aside0.mk (h W hb)
  clear h hb
  go_enter Try.func10, Try.ntmps10
  go_wp2_with fail
  rw [← hW]
  clear hW
  refine HI.out.mono ?_
  rintro e w' ⟨rfl, rfl⟩
  have x0 := HX.out.cell 0 _ rfl
  have x1 := HX.out.cell 1 _ rfl
  have x2 := HX.out.cell 2 _ rfl
  have f0 := HX.out.free 0
  have f1 := HX.out.free 1
  have f2 := HX.out.free 2
  go_wp2
  exact bodyPost_ret (v := .tuple #[zE, .bool false]) (results_ct (p := 6) (u := 7) rfl _ _ _ TE _ (0, 0) _ rfl (seekZero _ _ HX.out).out Try.underlying33 rfl (by kernel_rfl)) rfl ⟨rfl, set3 HB.out _ (Nat.le_refl _) _ _ _⟩
abbrev TR : TypeId := 24
theorem noScan (r : Value) (lo hi : ByteArray) (op back : Bool) (most : Int) (w : World) (h : NoL w r) :
    Calls Try.prog 8 #[r, .agg #[.string lo, .string hi, .bool op], .bool back, .int .i64 most] w fun e w' => e = .returned (.slice none 0 0) ∧ Below w.heap.size w w' := by
  obtain ⟨W, hW⟩ : ∃ W, W = w.alloc (.cells #[.string lo, .string hi, .bool op] TR) := ⟨_, rfl⟩
  have hb : Below w.heap.size w W := by rw [hW]; exact (Below.refl _ _).alloc (Nat.le_refl _) _
  have HB := Aside0.mk hb
  have HI := Aside0.mk (h W hb)
  clear h hb
  go_enter Try.func8, Try.ntmps8
  go_wp2_with fail
  rw [← hW]
  clear hW
  refine HI.out.mono ?_
  rintro e w' ⟨rfl, rfl⟩
  go_wp2
  go_ret
  exact ⟨rfl, HB.out⟩

abbrev TOp : TypeId := 48
abbrev TLook : TypeId := 26
theorem zeroL (W : World) : (zeroValue TL).run Try.prog W = .ok (.agg #[.bool false, .int .i32 0, .int .u32 0, .pointer none, .int .i64 0]) W := by kernel_rfl
set_option maxRecDepth 100000 in
set_option maxHeartbeats 8000000 in
theorem nobody_walk (k v h m : Int) (key xk lo hi : ByteArray) (op bk : Bool) (w : World) :
    Calls Try.prog 6 #[.agg #[.int .i64 k, .string key, .int .i64 v, .int .i64 h], .agg #[.string xk, .string lo, .string hi, .bool op, .bool bk, .int .i64 m]] w fun e w' => e = .returned (.bool true) ∧ Below w.heap.size w w' := by
  have hz := zeroL
  have hzE := zeroE
  obtain ⟨W, hW⟩ : ∃ W, W = (w.alloc (.cells #[.int .i64 k, .string key, .int .i64 v, .int .i64 h] TOp)).alloc (.cells #[.string xk, .string lo, .string hi, .bool op, .bool bk, .int .i64 m] TLook) := ⟨_, rfl⟩
  have HB : Aside0 (Below w.heap.size w W) := ⟨by rw [hW]; exact ((Below.refl _ _).alloc (Nat.le_refl _) _).alloc (by simp) _⟩
  have HX : Aside0 (Blk W w.heap.size [.int .i64 k, .string key, .int .i64 v, .int .i64 h] TOp) := ⟨by rw [hW]; exact (Blk.newA w _ _).alloc _⟩
  have HY : Aside0 (Blk W (w.heap.size + 1) [.string xk, .string lo, .string hi, .bool op, .bool bk, .int .i64 m] TLook) := ⟨by rw [hW]; have := Blk.newA (w.alloc (.cells #[.int .i64 k, .string key, .int .i64 v, .int .i64 h] TOp)) #[.string xk, .string lo, .string hi, .bool op, .bool bk, .int .i64 m] TLook; simpa using this⟩
  go_enter Try.func6, Try.ntmps6
  go_upto_region 1 with (fail)
  rw [← hW]
  clear hW
  have HB0 : Aside0 (Below W.heap.size W W) := ⟨Below.refl _ _⟩
  go_wp2_with fail
  go_loopw [5] (fun i wr => ∃ j : Nat, j ≤ 2 ∧ i = .int .i64 j ∧ Aside0 (Below W.heap.size W wr)) (fun i _ => 2 - (intOf i).toNat)
  case atStart => exact ⟨0, Nat.zero_le _, rfl, HB0⟩
  case round =>
    clear HB0
    obtain ⟨j, hj, rfl, HB1⟩ := hrel
    by_cases h0 : j = 0
    · subst h0
      have HXn := Aside0.mk (HX.out.belowSize HB1.out)
      have HYn := Aside0.mk (HY.out.belowSize HB1.out)
      have o1 := HXn.out.cell 1 _ rfl
      have o2 := HXn.out.cell 2 _ rfl
      have o3 := HXn.out.cell 3 _ rfl
      have l0 := HYn.out.cell 0 _ rfl
      have l1 := HYn.out.cell 1 _ rfl
      have l2 := HYn.out.cell 2 _ rfl
      have l3 := HYn.out.cell 3 _ rfl
      have l4 := HYn.out.cell 4 _ rfl
      have l5 := HYn.out.cell 5 _ rfl
      have HNo := Aside0.mk (noNil wr)
      go_wp2_with fail
      refine (noPut _ key v h _ HNo.out).mono ?_
      rintro e w' ⟨rfl, rfl⟩
      go_wp2_with fail
      refine (noDelete _ key _ HNo.out).mono ?_
      rintro e w' ⟨rfl, rfl⟩
      go_wp2_with fail
      refine (noGet _ key _ HNo.out).mono ?_
      rintro e w' ⟨rfl, rfl⟩
      go_wp2_with fail
      refine (noSeek _ xk bk _ HNo.out).mono ?_
      rintro e w3 ⟨rfl, hb3⟩
      simp only [zE]
      have HNo3 := Aside0.mk (HNo.out.on hb3)
      have HB3 := Aside0.mk (HB1.out.trans (hb3.mono HB1.out.size))
      clear hb3 HXn HYn o1 o2 o3 l0 l1 l2 l3 l4 l5 HB1 HNo
      go_upto_region 11 with (fail)
      obtain ⟨U, hU⟩ : ∃ U, U = w3.alloc (.cells #[.string ByteArray.empty, .int .i64 0, .int .i64 0] TE) := ⟨_, rfl⟩
      have hbU : Below w3.heap.size w3 U := by rw [hU]; exact (Below.refl _ _).alloc (Nat.le_refl _) _
      have HBU := Aside0.mk (HB3.out.trans (hbU.mono HB3.out.size))
      have HNoU := Aside0.mk (HNo3.out.on hbU)
      rw [← hU]
      clear hU hbU HB3 HNo3
      have HXn := Aside0.mk (HX.out.belowSize HBU.out)
      have HYn := Aside0.mk (HY.out.belowSize HBU.out)
      have o1 := HXn.out.cell 1 _ rfl
      have o2 := HXn.out.cell 2 _ rfl
      have o3 := HXn.out.cell 3 _ rfl
      have l0 := HYn.out.cell 0 _ rfl
      have l1 := HYn.out.cell 1 _ rfl
      have l2 := HYn.out.cell 2 _ rfl
      have l3 := HYn.out.cell 3 _ rfl
      have l4 := HYn.out.cell 4 _ rfl
      have l5 := HYn.out.cell 5 _ rfl
      go_wp2_with fail
      refine (noScan _ lo hi op bk m _ HNoU.out).mono ?_
      rintro e w4 ⟨rfl, hb4⟩
      have HNo4 := Aside0.mk (HNoU.out.on hb4)
      have HB4 := Aside0.mk (HBU.out.trans (hb4.mono HBU.out.size))
      clear hb4 HXn HYn o1 o2 o3 l0 l1 l2 l3 l4 l5 HBU HNoU
      go_wp2_with fail
      refine (noLen _ _ HNo4.out).mono ?_
      rintro e w' ⟨rfl, rfl⟩
      go_wp2_with fail
      refine (noLevels _ _ HNo4.out).mono ?_
      rintro e w' ⟨rfl, rfl⟩
      clear HNo4
      go_wp2
      go_roundw
      case rel => exact ⟨1, by omega, by go_num, HB4⟩
      case measure => simp [intOf]
    · by_cases h1 : j = 1
      · subst h1
        clear h0
        have HXn := Aside0.mk (HX.out.belowSize HB1.out)
        have HYn := Aside0.mk (HY.out.belowSize HB1.out)
        have o1 := HXn.out.cell 1 _ rfl
        have o2 := HXn.out.cell 2 _ rfl
        have o3 := HXn.out.cell 3 _ rfl
        have l0 := HYn.out.cell 0 _ rfl
        have l1 := HYn.out.cell 1 _ rfl
        have l2 := HYn.out.cell 2 _ rfl
        have l3 := HYn.out.cell 3 _ rfl
        have l4 := HYn.out.cell 4 _ rfl
        have l5 := HYn.out.cell 5 _ rfl
        go_upto_region 7 with (fail)
        obtain ⟨V, hV⟩ : ∃ V, V = wr.alloc (.cells #[.bool false, .int .i32 0, .int .u32 0, .pointer none, .int .i64 0] TL) := ⟨_, rfl⟩
        have hbV : Below wr.heap.size wr V := by rw [hV]; exact (Below.refl _ _).alloc (Nat.le_refl _) _
        have HV : Aside0 (Blk V wr.heap.size [.bool false, .int .i32 0, .int .u32 0, .pointer none, .int .i64 0] TL) := ⟨by rw [hV]; exact Blk.newA wr _ _⟩
        have HBV := Aside0.mk (HB1.out.trans (hbV.mono HB1.out.size))
        rw [← hV]
        clear hV hbV HXn HYn o1 o2 o3 l0 l1 l2 l3 l4 l5 HB1
        have HXn := Aside0.mk (HX.out.belowSize HBV.out)
        have HYn := Aside0.mk (HY.out.belowSize HBV.out)
        have o1 := HXn.out.cell 1 _ rfl
        have o2 := HXn.out.cell 2 _ rfl
        have o3 := HXn.out.cell 3 _ rfl
        have l0 := HYn.out.cell 0 _ rfl
        have l1 := HYn.out.cell 1 _ rfl
        have l2 := HYn.out.cell 2 _ rfl
        have l3 := HYn.out.cell 3 _ rfl
        have l4 := HYn.out.cell 4 _ rfl
        have l5 := HYn.out.cell 5 _ rfl
        have HNo := Aside0.mk (noZero V wr.heap.size (HV.out.cell 0 _ rfl))
        clear HV
        generalize wr.heap.size = gz at *
        go_wp2_with fail
        refine (noPut _ key v h _ HNo.out).mono ?_
        rintro e w' ⟨rfl, rfl⟩
        go_wp2_with fail
        refine (noDelete _ key _ HNo.out).mono ?_
        rintro e w' ⟨rfl, rfl⟩
        go_wp2_with fail
        refine (noGet _ key _ HNo.out).mono ?_
        rintro e w' ⟨rfl, rfl⟩
        go_wp2_with fail
        refine (noSeek _ xk bk _ HNo.out).mono ?_
        rintro e w3 ⟨rfl, hb3⟩
        simp only [zE]
        have HNo3 := Aside0.mk (HNo.out.on hb3)
        have HB3 := Aside0.mk (HBV.out.trans (hb3.mono HBV.out.size))
        clear hb3 HXn HYn o1 o2 o3 l0 l1 l2 l3 l4 l5 HBV HNo
        go_upto_region 11 with (fail)
        obtain ⟨U, hU⟩ : ∃ U, U = w3.alloc (.cells #[.string ByteArray.empty, .int .i64 0, .int .i64 0] TE) := ⟨_, rfl⟩
        have hbU : Below w3.heap.size w3 U := by rw [hU]; exact (Below.refl _ _).alloc (Nat.le_refl _) _
        have HBU := Aside0.mk (HB3.out.trans (hbU.mono HB3.out.size))
        have HNoU := Aside0.mk (HNo3.out.on hbU)
        rw [← hU]
        clear hU hbU HB3 HNo3
        have HXn := Aside0.mk (HX.out.belowSize HBU.out)
        have HYn := Aside0.mk (HY.out.belowSize HBU.out)
        have o1 := HXn.out.cell 1 _ rfl
        have o2 := HXn.out.cell 2 _ rfl
        have o3 := HXn.out.cell 3 _ rfl
        have l0 := HYn.out.cell 0 _ rfl
        have l1 := HYn.out.cell 1 _ rfl
        have l2 := HYn.out.cell 2 _ rfl
        have l3 := HYn.out.cell 3 _ rfl
        have l4 := HYn.out.cell 4 _ rfl
        have l5 := HYn.out.cell 5 _ rfl
        go_wp2_with fail
        refine (noScan _ lo hi op bk m _ HNoU.out).mono ?_
        rintro e w4 ⟨rfl, hb4⟩
        have HNo4 := Aside0.mk (HNoU.out.on hb4)
        have HB4 := Aside0.mk (HBU.out.trans (hb4.mono HBU.out.size))
        clear hb4 HXn HYn o1 o2 o3 l0 l1 l2 l3 l4 l5 HBU HNoU
        go_wp2_with fail
        refine (noLen _ _ HNo4.out).mono ?_
        rintro e w' ⟨rfl, rfl⟩
        go_wp2_with fail
        refine (noLevels _ _ HNo4.out).mono ?_
        rintro e w' ⟨rfl, rfl⟩
        clear HNo4
        go_wp2
        go_roundw
        case rel => exact ⟨2, by omega, by go_num, HB4⟩
        case measure => simp [intOf]
      · obtain rfl : j = 2 := by omega
        clear h0 h1
        go_wp2_with fail
        refine (awakeCalls _).mono ?_
        rintro e w7 ⟨rfl, hb7⟩
        have HB7 : Aside0 (Below w.heap.size w w7) := ⟨HB.out.trans ((HB1.out.trans (hb7.mono HB1.out.size)).mono HB.out.size)⟩
        clear hb7 HB1
        go_wp2
        go_ret
        exact ⟨rfl, HB7.out⟩
end Go.Proofs.Ytnpjppnahfehnaa.Skip
/- What layer 12's laws are given: calls, looks. -/
namespace Go.Proofs.Ytnpjppnahfehnaa.Skip
set_option linter.unusedVariables false
set_option linter.unusedSimpArgs false
open Go.RowKit Go.Proofs.YtnpjppnahfehnaaW.PrintWords Go.Proofs.Ytnpjppnahfehnaa.Kit Go.MuLone

structure SOp where
  kind : Int
  key : ByteArray
  value : Int
structure Op where
  op : SOp
  height : Int
structure Rg where
  lo : ByteArray
  hi : ByteArray
  opn : Bool
structure Look where
  key : ByteArray
  r : Rg
  back : Bool
  most : Int
abbrev TSOp : TypeId := 46
def kSOp : Kd SOp := Kd.iso (Kd.pair (Kd.int .i64) (Kd.pair Kd.string (Kd.int .i64))) (fun x => (x.kind, x.key, x.value))
def kOp : Kd Op := Kd.iso (Kd.pair kSOp (Kd.int .i64)) (fun x => (x.op, x.height))
def kRg : Kd Rg := Kd.iso (Kd.pair Kd.string (Kd.pair Kd.string Kd.bool)) (fun x => (x.lo, x.hi, x.opn))
def kLook : Kd Look := Kd.iso (Kd.pair Kd.string (Kd.pair kRg (Kd.pair Kd.bool (Kd.int .i64)))) (fun x => (x.key, x.r, x.back, x.most))
theorem kOp_cells {w : World} {x : Op} {cs : List Value} (h : kOp.K w x cs) : cs = [.int .i64 x.op.kind, .string x.op.key, .int .i64 x.op.value, .int .i64 x.height] := by
  obtain ⟨c0, c1, rfl, ⟨d0, d1, rfl, h0, d2, d3, rfl, h1, h2⟩, h3⟩ := h
  rw [show d0 = [.int .i64 x.op.kind] from h0, show d2 = [.string x.op.key] from h1, show d3 = [.int .i64 x.op.value] from h2, show c1 = [.int .i64 x.height] from h3]
  rfl
theorem kLook_cells {w : World} {x : Look} {cs : List Value} (h : kLook.K w x cs) : cs = [.string x.key, .string x.r.lo, .string x.r.hi, .bool x.r.opn, .bool x.back, .int .i64 x.most] := by
  obtain ⟨c0, c1, rfl, h0, c2, c3, rfl, ⟨d0, d1, rfl, h1, d2, d3, rfl, h2, h3⟩, c4, c5, rfl, h4, h5⟩ := h
  rw [show c0 = [.string x.key] from h0, show d0 = [.string x.r.lo] from h1, show d2 = [.string x.r.hi] from h2, show d3 = [.bool x.r.opn] from h3, show c4 = [.bool x.back] from h4, show c5 = [.int .i64 x.most] from h5]
  rfl
def okOp (x : Op) : Prop := ((Lit.int .i64 x.op.kind).wf = true ∧ x.op.key.size ≤ 140737488351232 ∧ (Lit.int .i64 x.op.value).wf = true) ∧ (Lit.int .i64 x.height).wf = true
def okLook (x : Look) : Prop := x.key.size ≤ 140737488351232 ∧ (x.r.lo.size ≤ 140737488351232 ∧ x.r.hi.size ≤ 140737488351232 ∧ True) ∧ True ∧ (Lit.int .i64 x.most).wf = true
theorem kOp_opens : Opens Try.prog TOp kOp okOp :=
  opens_struct (fun x : Op => (x.op, x.height)) (fun a => ⟨a.1, a.2⟩) (fun _ => rfl) Try.underlying48 4 (by kernel_rfl) _ rfl
    (opensFs_cons rfl (opens_struct (fun x : SOp => (x.kind, x.key, x.value)) (fun a => ⟨a.1, a.2.1, a.2.2⟩) (fun _ => rfl) Try.underlying46 3 (by kernel_rfl) _ rfl
      (opensFs_cons rfl (opens_int .i64 Try.underlying3) (opensFs_cons (by kernel_rfl) (opens_string Try.underlying9) (opensFs_one (by kernel_rfl) (by kernel_rfl) (opens_int .i64 Try.underlying2)))))
      (opensFs_one (by kernel_rfl) (by kernel_rfl) (opens_int .i64 Try.underlying3)))
theorem kLook_opens : Opens Try.prog TLook kLook okLook :=
  opens_struct (fun x : Look => (x.key, x.r, x.back, x.most)) (fun a => ⟨a.1, a.2.1, a.2.2.1, a.2.2.2⟩) (fun _ => rfl) Try.underlying26 6 (by kernel_rfl) _ rfl
    (opensFs_cons rfl (opens_string Try.underlying9) (opensFs_cons (by kernel_rfl) (opens_struct (fun x : Rg => (x.lo, x.hi, x.opn)) (fun a => ⟨a.1, a.2.1, a.2.2⟩) (fun _ => rfl) Try.underlying24 3 (by kernel_rfl) _ rfl
      (opensFs_cons rfl (opens_string Try.underlying9) (opensFs_cons (by kernel_rfl) (opens_string Try.underlying9) (opensFs_one (by kernel_rfl) (by kernel_rfl) (opens_bool Try.underlying4)))))
      (opensFs_cons (by kernel_rfl) (opens_bool Try.underlying4) (opensFs_one (by kernel_rfl) (by kernel_rfl) (opens_int .i64 Try.underlying3)))))
theorem kOps_opens : Opens Try.prog 22 (Kd.slice TOp kOp) (fun xs => xs.length * 40 ≤ 140737488351232 ∧ ∀ x ∈ xs, okOp x) :=
  opens_slice Try.underlying22 (by kernel_rfl) 40 (by kernel_rfl) kOp_opens
theorem kOp_at {w : World} {A : Option Addr} {n : Nat} {xs : List Op} (h : kOp.C w A n xs) (i : Nat) (hi : i < n) : ∃ b o x, A = some ⟨b, o, none⟩ ∧ xs[i]? = some x ∧ w.cell? ⟨b, o + i * 4, none⟩ = some (.int .i64 x.op.kind) ∧ w.cell? ⟨b, o + i * 4 + 1, none⟩ = some (.string x.op.key) ∧ w.cell? ⟨b, o + i * 4 + 2, none⟩ = some (.int .i64 x.op.value) ∧ w.cell? ⟨b, o + i * 4 + 3, none⟩ = some (.int .i64 x.height) := by
  obtain ⟨b, o, x, cs, rfl, hx, hK, hc⟩ := C_at (s := 4) rfl (by omega) h i hi
  have := kOp_cells hK
  subst this
  exact ⟨b, o, x, rfl, hx, hc 0 _ rfl, hc 1 _ rfl, hc 2 _ rfl, hc 3 _ rfl⟩
end Go.Proofs.Ytnpjppnahfehnaa.Skip
/- Layer 12's laws' own made: a list behind some calls. -/
namespace Go.Proofs.Ytnpjppnahfehnaa.Skip
set_option linter.unusedVariables false
set_option linter.unusedSimpArgs false
open Go.RowKit Go.Proofs.YtnpjppnahfehnaaW.PrintWords Go.Proofs.Ytnpjppnahfehnaa.Kit Go.MuLone

def hOf (hts : Bool) (h : Int) : Int := if hts = true ∧ 1 ≤ h ∧ h ≤ 16 then h else 1
theorem hOf_in (hts : Bool) (h : Int) : 1 ≤ hOf hts h ∧ hOf hts h ≤ 16 := by unfold hOf; split <;> omega
def stepE (hts : Bool) (l : List En) (x : Op) : List En :=
  if x.op.kind = 1 ∨ x.op.kind = 2 then (if (x.op.key.size : Int) ≤ 1025 then putE l x.op.key x.op.value (hOf hts x.height) else l) else if x.op.kind = 3 then delE l x.op.key else l
def runE (hts : Bool) (xs : List Op) : List En := xs.foldl (stepE hts) []
theorem stepE_len (hts : Bool) (l : List En) (x : Op) : (stepE hts l x).length ≤ l.length + 1 := by
  unfold stepE
  split
  · split
    · exact putE_len _ _ _ _
    · omega
  · split
    · have := delE_len l x.op.key; omega
    · omega
theorem runE_take (hts : Bool) (xs : List Op) (j : Nat) (x : Op) (h : xs[j]? = some x) : runE hts (xs.take (j + 1)) = stepE hts (runE hts (xs.take j)) x := by
  obtain ⟨hj, e⟩ := List.getElem?_eq_some_iff.1 h
  unfold runE
  rw [List.take_succ_eq_append_getElem hj, List.foldl_append, e]
  rfl
theorem runE_len (hts : Bool) (xs : List Op) (j : Nat) : (runE hts (xs.take j)).length ≤ j := by
  induction j with
  | zero => simp [runE]
  | succ j ih =>
    cases h : xs[j]? with
    | none =>
      have e : xs.take (j + 1) = xs.take j := by
        rw [List.getElem?_eq_none_iff] at h
        rw [List.take_of_length_le (by omega), List.take_of_length_le h]
      rw [e]; omega
    | some x =>
      rw [runE_take hts xs j x h]
      have := stepE_len hts (runE hts (xs.take j)) x
      omega
theorem map_len {ns : List Nd} {l : List En} (h : ns.map en = l) : ns.length = l.length := by rw [← h, List.length_map]

set_option maxRecDepth 100000 in
set_option maxHeartbeats 8000000 in
theorem madeCalls (A : Option Addr) (c : Nat) (xs : List Op) (hts : Bool) (w : World) (hC : kOp.C w A xs.length xs) (hxl : xs.length * 40 ≤ 140737488351232) :
    Calls Try.prog 7 #[.slice A xs.length c, .bool hts] w fun e w' => ∃ (g : Nat) (hd : Nd) (ns : List Nd), e = .returned (.pointer (some ⟨g, 0, none⟩)) ∧ Ol w w' g hd ns ∧ ns.map en = runE hts xs := by
  have HC := Aside0.mk hC
  obtain ⟨m, hm'⟩ : ∃ m, m = xs.length := ⟨_, rfl⟩
  have Hm := Aside0.mk hm'
  rw [← hm'] at hxl ⊢
  clear hm' hC
  go_enter Try.func7, Try.ntmps7
  go_wp2_with fail
  refine (newCalls w).mono ?_
  rintro e w1 ⟨g, hd, rfl, ha⟩
  have HA0 := Aside0.mk (Ol.new w w1 g hd ha)
  clear ha
  go_wp2_with fail
  go_loopw [6] (fun i wr => ∃ (j : Nat) (ns : List Nd), j ≤ m ∧ i = .int .i64 j ∧ Aside0 (Ol w wr g hd ns) ∧ Aside0 (ns.map en = runE hts (xs.take j))) (fun i _ => m - (intOf i).toNat)
  case atStart => exact ⟨0, [], Nat.zero_le _, rfl, HA0, ⟨rfl⟩⟩
  case round =>
    clear HA0
    obtain ⟨j, ns, hj, rfl, HA, HE⟩ := hrel
    by_cases hlt : j < m
    · obtain ⟨b, o, x, e, hx, hx0, hx1, hx2, hx3⟩ := kOp_at HC.out j (by rw [← Hm.out]; exact hlt)
      subst e
      have hx0 := pw_cell_below HA.out.below hx0
      have hx1 := pw_cell_below HA.out.below hx1
      have hx2 := pw_cell_below HA.out.below hx2
      have hx3 := pw_cell_below HA.out.below hx3
      have HT := Aside0.mk (runE_take hts xs j x hx)
      have HLn := Aside0.mk (by have := runE_len hts xs j; rw [← HE.out, List.length_map] at this; exact this)
      obtain ⟨⟨k, key, v⟩, ht⟩ := x
      simp only at hx0 hx1 hx2 hx3
      clear hx
      rw [show stepE hts (runE hts (xs.take j)) ⟨⟨k, key, v⟩, ht⟩ = (if k = 1 ∨ k = 2 then (if (key.size : Int) ≤ 1025 then putE (runE hts (xs.take j)) key v (hOf hts ht) else runE hts (xs.take j)) else if k = 3 then delE (runE hts (xs.take j)) key else runE hts (xs.take j)) from rfl] at HT
      go_upto_region 6 with (fail)
      obtain ⟨W, hW⟩ : ∃ W, W = wr.alloc (.cells #[.int .i64 k, .string key, .int .i64 v, .int .i64 ht] TOp) := ⟨_, rfl⟩
      have hbW : Below wr.heap.size wr W := by rw [hW]; exact (Below.refl _ _).alloc (Nat.le_refl _) _
      have HX : Aside0 (Blk W wr.heap.size [.int .i64 k, .string key, .int .i64 v, .int .i64 ht] TOp) := ⟨by rw [hW]; exact Blk.newA wr _ _⟩
      have HAW := Aside0.mk (HA.out.belowed hbW)
      have HWs : Aside0 (w.heap.size ≤ wr.heap.size) := ⟨HA.out.below.size⟩
      have HFo : Aside0 (∀ i, Fp g hd ns i → i ≠ wr.heap.size) := ⟨fun i hi e => by have := HA.out.sk.lt hi; omega⟩
      rw [← hW]
      clear hW hbW HA hx0 hx1 hx2 hx3
      generalize wr.heap.size = ob at *
      have q0 := HX.out.cell 0 _ rfl
      by_cases hk : k = 1 ∨ k = 2
      · rw [if_pos hk] at HT
        rcases hk with rfl | rfl
        · have q3 := HX.out.cell 3 _ rfl
          cases hts with
          | false =>
            have HH : Aside0 (hOf false ht = 1) := ⟨by unfold hOf; rw [if_neg (fun h => by cases h.1)]⟩
            have HXn : Aside0 (Blk (W.setCell ⟨ob, 3, none⟩ (.int .i64 1)) ob [.int .i64 1, .string key, .int .i64 v, .int .i64 1] TOp) := ⟨HX.out.put 3 _⟩
            have hon : Only (fun i => i = ob) W (W.setCell ⟨ob, 3, none⟩ (.int .i64 1)) := Only.setCell (S := fun i => i = ob) (Only.refl _ W) (p := ⟨ob, 3, none⟩) (Or.inl rfl) _
            have HAn : Aside0 (Ol w (W.setCell ⟨ob, 3, none⟩ (.int .i64 1)) g hd ns) := ⟨⟨HAW.out.sk.only hon (fun i hi e => HFo.out i hi e), HAW.out.fp, HAW.out.below.trans (hon.below (fun i e => by have := HWs.out; omega) HAW.out.below.size)⟩⟩
            have f3 := HX.out.free 3
            clear hon
            rw [HH.out] at HT
            have q1 := HX.out.cell 1 _ rfl
            have q2 := HX.out.cell 2 _ rfl
            by_cases hks : (key.size : Int) ≤ 1025
            · rw [if_pos hks] at HT
              have HP := Aside0.mk (putAll g hd ns key v 1 _ HAn.out.sk hks (by omega) (by omega) (by have := HLn.out; omega))
              clear hks HX HFo
              go_wp2_with fail
              refine HP.out.mono ?_
              rintro e w5 ⟨ns', rfl, hq, hl⟩
              have HA5 := Aside0.mk (HAn.out.turned hl)
              have HE5 : Aside0 (ns'.map en = runE false (xs.take (j + 1))) := ⟨by rw [HT.out, hq, HE.out]⟩
              clear hq hl HAW HE HP q0 q1 q2
              go_wp2
              go_roundw
              case rel => exact ⟨j + 1, ns', by omega, by go_num, HA5, HE5⟩
              case measure => simp [intOf]; omega
            · rw [if_neg hks] at HT
              have HP := Aside0.mk (putLong g hd ns key v 1 _ HAn.out.sk (by omega))
              have HE5 : Aside0 (ns.map en = runE false (xs.take (j + 1))) := ⟨by rw [HT.out, HE.out]⟩
              clear hks HX HFo
              go_wp2_with fail
              refine HP.out.mono ?_
              rintro e w' ⟨rfl, rfl⟩
              clear HP q0 q1 q2
              go_wp2
              go_roundw
              case rel => exact ⟨j + 1, ns, by omega, by go_num, HAn, HE5⟩
              case measure => simp [intOf]; omega
          | true =>
            by_cases h1 : ht < 1
            · have HH : Aside0 (hOf true ht = 1) := ⟨by unfold hOf; rw [if_neg (fun h => by omega)]⟩
              have HXn : Aside0 (Blk (W.setCell ⟨ob, 3, none⟩ (.int .i64 1)) ob [.int .i64 1, .string key, .int .i64 v, .int .i64 1] TOp) := ⟨HX.out.put 3 _⟩
              have hon : Only (fun i => i = ob) W (W.setCell ⟨ob, 3, none⟩ (.int .i64 1)) := Only.setCell (S := fun i => i = ob) (Only.refl _ W) (p := ⟨ob, 3, none⟩) (Or.inl rfl) _
              have HAn : Aside0 (Ol w (W.setCell ⟨ob, 3, none⟩ (.int .i64 1)) g hd ns) := ⟨⟨HAW.out.sk.only hon (fun i hi e => HFo.out i hi e), HAW.out.fp, HAW.out.below.trans (hon.below (fun i e => by have := HWs.out; omega) HAW.out.below.size)⟩⟩
              have f3 := HX.out.free 3
              clear hon
              rw [HH.out] at HT
              have q1 := HX.out.cell 1 _ rfl
              have q2 := HX.out.cell 2 _ rfl
              by_cases hks : (key.size : Int) ≤ 1025
              · rw [if_pos hks] at HT
                have HP := Aside0.mk (putAll g hd ns key v 1 _ HAn.out.sk hks (by omega) (by omega) (by have := HLn.out; omega))
                clear hks HX HFo
                go_wp2_with fail
                refine HP.out.mono ?_
                rintro e w5 ⟨ns', rfl, hq, hl⟩
                have HA5 := Aside0.mk (HAn.out.turned hl)
                have HE5 : Aside0 (ns'.map en = runE true (xs.take (j + 1))) := ⟨by rw [HT.out, hq, HE.out]⟩
                clear hq hl HAW HE HP q0 q1 q2
                go_wp2
                go_roundw
                case rel => exact ⟨j + 1, ns', by omega, by go_num, HA5, HE5⟩
                case measure => simp [intOf]; omega
              · rw [if_neg hks] at HT
                have HP := Aside0.mk (putLong g hd ns key v 1 _ HAn.out.sk (by omega))
                have HE5 : Aside0 (ns.map en = runE true (xs.take (j + 1))) := ⟨by rw [HT.out, HE.out]⟩
                clear hks HX HFo
                go_wp2_with fail
                refine HP.out.mono ?_
                rintro e w' ⟨rfl, rfl⟩
                clear HP q0 q1 q2
                go_wp2
                go_roundw
                case rel => exact ⟨j + 1, ns, by omega, by go_num, HAn, HE5⟩
                case measure => simp [intOf]; omega
            · by_cases h2 : 16 < ht
              · have HH : Aside0 (hOf true ht = 1) := ⟨by unfold hOf; rw [if_neg (fun h => by omega)]⟩
                have HXn : Aside0 (Blk (W.setCell ⟨ob, 3, none⟩ (.int .i64 1)) ob [.int .i64 1, .string key, .int .i64 v, .int .i64 1] TOp) := ⟨HX.out.put 3 _⟩
                have hon : Only (fun i => i = ob) W (W.setCell ⟨ob, 3, none⟩ (.int .i64 1)) := Only.setCell (S := fun i => i = ob) (Only.refl _ W) (p := ⟨ob, 3, none⟩) (Or.inl rfl) _
                have HAn : Aside0 (Ol w (W.setCell ⟨ob, 3, none⟩ (.int .i64 1)) g hd ns) := ⟨⟨HAW.out.sk.only hon (fun i hi e => HFo.out i hi e), HAW.out.fp, HAW.out.below.trans (hon.below (fun i e => by have := HWs.out; omega) HAW.out.below.size)⟩⟩
                have f3 := HX.out.free 3
                clear hon
                rw [HH.out] at HT
                have q1 := HX.out.cell 1 _ rfl
                have q2 := HX.out.cell 2 _ rfl
                by_cases hks : (key.size : Int) ≤ 1025
                · rw [if_pos hks] at HT
                  have HP := Aside0.mk (putAll g hd ns key v 1 _ HAn.out.sk hks (by omega) (by omega) (by have := HLn.out; omega))
                  clear hks HX HFo
                  go_wp2_with fail
                  refine HP.out.mono ?_
                  rintro e w5 ⟨ns', rfl, hq, hl⟩
                  have HA5 := Aside0.mk (HAn.out.turned hl)
                  have HE5 : Aside0 (ns'.map en = runE true (xs.take (j + 1))) := ⟨by rw [HT.out, hq, HE.out]⟩
                  clear hq hl HAW HE HP q0 q1 q2
                  go_wp2
                  go_roundw
                  case rel => exact ⟨j + 1, ns', by omega, by go_num, HA5, HE5⟩
                  case measure => simp [intOf]; omega
                · rw [if_neg hks] at HT
                  have HP := Aside0.mk (putLong g hd ns key v 1 _ HAn.out.sk (by omega))
                  have HE5 : Aside0 (ns.map en = runE true (xs.take (j + 1))) := ⟨by rw [HT.out, HE.out]⟩
                  clear hks HX HFo
                  go_wp2_with fail
                  refine HP.out.mono ?_
                  rintro e w' ⟨rfl, rfl⟩
                  clear HP q0 q1 q2
                  go_wp2
                  go_roundw
                  case rel => exact ⟨j + 1, ns, by omega, by go_num, HAn, HE5⟩
                  case measure => simp [intOf]; omega
              · have HH : Aside0 (hOf true ht = ht) := ⟨by unfold hOf; rw [if_pos ⟨rfl, by omega, by omega⟩]⟩
                rw [HH.out] at HT
                have q1 := HX.out.cell 1 _ rfl
                have q2 := HX.out.cell 2 _ rfl
                by_cases hks : (key.size : Int) ≤ 1025
                · rw [if_pos hks] at HT
                  have HP := Aside0.mk (putAll g hd ns key v ht _ HAW.out.sk hks (by omega) (by omega) (by have := HLn.out; omega))
                  clear hks HX HFo
                  go_wp2_with fail
                  refine HP.out.mono ?_
                  rintro e w5 ⟨ns', rfl, hq, hl⟩
                  have HA5 := Aside0.mk (HAW.out.turned hl)
                  have HE5 : Aside0 (ns'.map en = runE true (xs.take (j + 1))) := ⟨by rw [HT.out, hq, HE.out]⟩
                  clear hq hl HAW HE HP q0 q1 q2
                  go_wp2
                  go_roundw
                  case rel => exact ⟨j + 1, ns', by omega, by go_num, HA5, HE5⟩
                  case measure => simp [intOf]; omega
                · rw [if_neg hks] at HT
                  have HP := Aside0.mk (putLong g hd ns key v ht _ HAW.out.sk (by omega))
                  have HE5 : Aside0 (ns.map en = runE true (xs.take (j + 1))) := ⟨by rw [HT.out, HE.out]⟩
                  clear hks HX HFo
                  go_wp2_with fail
                  refine HP.out.mono ?_
                  rintro e w' ⟨rfl, rfl⟩
                  clear HP q0 q1 q2
                  go_wp2
                  go_roundw
                  case rel => exact ⟨j + 1, ns, by omega, by go_num, HAW, HE5⟩
                  case measure => simp [intOf]; omega
        · have q3 := HX.out.cell 3 _ rfl
          cases hts with
          | false =>
            have HH : Aside0 (hOf false ht = 1) := ⟨by unfold hOf; rw [if_neg (fun h => by cases h.1)]⟩
            have HXn : Aside0 (Blk (W.setCell ⟨ob, 3, none⟩ (.int .i64 1)) ob [.int .i64 2, .string key, .int .i64 v, .int .i64 1] TOp) := ⟨HX.out.put 3 _⟩
            have hon : Only (fun i => i = ob) W (W.setCell ⟨ob, 3, none⟩ (.int .i64 1)) := Only.setCell (S := fun i => i = ob) (Only.refl _ W) (p := ⟨ob, 3, none⟩) (Or.inl rfl) _
            have HAn : Aside0 (Ol w (W.setCell ⟨ob, 3, none⟩ (.int .i64 1)) g hd ns) := ⟨⟨HAW.out.sk.only hon (fun i hi e => HFo.out i hi e), HAW.out.fp, HAW.out.below.trans (hon.below (fun i e => by have := HWs.out; omega) HAW.out.below.size)⟩⟩
            have f3 := HX.out.free 3
            clear hon
            rw [HH.out] at HT
            have q1 := HX.out.cell 1 _ rfl
            have q2 := HX.out.cell 2 _ rfl
            by_cases hks : (key.size : Int) ≤ 1025
            · rw [if_pos hks] at HT
              have HP := Aside0.mk (putAll g hd ns key v 1 _ HAn.out.sk hks (by omega) (by omega) (by have := HLn.out; omega))
              clear hks HX HFo
              go_wp2_with fail
              refine HP.out.mono ?_
              rintro e w5 ⟨ns', rfl, hq, hl⟩
              have HA5 := Aside0.mk (HAn.out.turned hl)
              have HE5 : Aside0 (ns'.map en = runE false (xs.take (j + 1))) := ⟨by rw [HT.out, hq, HE.out]⟩
              clear hq hl HAW HE HP q0 q1 q2
              go_wp2
              go_roundw
              case rel => exact ⟨j + 1, ns', by omega, by go_num, HA5, HE5⟩
              case measure => simp [intOf]; omega
            · rw [if_neg hks] at HT
              have HP := Aside0.mk (putLong g hd ns key v 1 _ HAn.out.sk (by omega))
              have HE5 : Aside0 (ns.map en = runE false (xs.take (j + 1))) := ⟨by rw [HT.out, HE.out]⟩
              clear hks HX HFo
              go_wp2_with fail
              refine HP.out.mono ?_
              rintro e w' ⟨rfl, rfl⟩
              clear HP q0 q1 q2
              go_wp2
              go_roundw
              case rel => exact ⟨j + 1, ns, by omega, by go_num, HAn, HE5⟩
              case measure => simp [intOf]; omega
          | true =>
            by_cases h1 : ht < 1
            · have HH : Aside0 (hOf true ht = 1) := ⟨by unfold hOf; rw [if_neg (fun h => by omega)]⟩
              have HXn : Aside0 (Blk (W.setCell ⟨ob, 3, none⟩ (.int .i64 1)) ob [.int .i64 2, .string key, .int .i64 v, .int .i64 1] TOp) := ⟨HX.out.put 3 _⟩
              have hon : Only (fun i => i = ob) W (W.setCell ⟨ob, 3, none⟩ (.int .i64 1)) := Only.setCell (S := fun i => i = ob) (Only.refl _ W) (p := ⟨ob, 3, none⟩) (Or.inl rfl) _
              have HAn : Aside0 (Ol w (W.setCell ⟨ob, 3, none⟩ (.int .i64 1)) g hd ns) := ⟨⟨HAW.out.sk.only hon (fun i hi e => HFo.out i hi e), HAW.out.fp, HAW.out.below.trans (hon.below (fun i e => by have := HWs.out; omega) HAW.out.below.size)⟩⟩
              have f3 := HX.out.free 3
              clear hon
              rw [HH.out] at HT
              have q1 := HX.out.cell 1 _ rfl
              have q2 := HX.out.cell 2 _ rfl
              by_cases hks : (key.size : Int) ≤ 1025
              · rw [if_pos hks] at HT
                have HP := Aside0.mk (putAll g hd ns key v 1 _ HAn.out.sk hks (by omega) (by omega) (by have := HLn.out; omega))
                clear hks HX HFo
                go_wp2_with fail
                refine HP.out.mono ?_
                rintro e w5 ⟨ns', rfl, hq, hl⟩
                have HA5 := Aside0.mk (HAn.out.turned hl)
                have HE5 : Aside0 (ns'.map en = runE true (xs.take (j + 1))) := ⟨by rw [HT.out, hq, HE.out]⟩
                clear hq hl HAW HE HP q0 q1 q2
                go_wp2
                go_roundw
                case rel => exact ⟨j + 1, ns', by omega, by go_num, HA5, HE5⟩
                case measure => simp [intOf]; omega
              · rw [if_neg hks] at HT
                have HP := Aside0.mk (putLong g hd ns key v 1 _ HAn.out.sk (by omega))
                have HE5 : Aside0 (ns.map en = runE true (xs.take (j + 1))) := ⟨by rw [HT.out, HE.out]⟩
                clear hks HX HFo
                go_wp2_with fail
                refine HP.out.mono ?_
                rintro e w' ⟨rfl, rfl⟩
                clear HP q0 q1 q2
                go_wp2
                go_roundw
                case rel => exact ⟨j + 1, ns, by omega, by go_num, HAn, HE5⟩
                case measure => simp [intOf]; omega
            · by_cases h2 : 16 < ht
              · have HH : Aside0 (hOf true ht = 1) := ⟨by unfold hOf; rw [if_neg (fun h => by omega)]⟩
                have HXn : Aside0 (Blk (W.setCell ⟨ob, 3, none⟩ (.int .i64 1)) ob [.int .i64 2, .string key, .int .i64 v, .int .i64 1] TOp) := ⟨HX.out.put 3 _⟩
                have hon : Only (fun i => i = ob) W (W.setCell ⟨ob, 3, none⟩ (.int .i64 1)) := Only.setCell (S := fun i => i = ob) (Only.refl _ W) (p := ⟨ob, 3, none⟩) (Or.inl rfl) _
                have HAn : Aside0 (Ol w (W.setCell ⟨ob, 3, none⟩ (.int .i64 1)) g hd ns) := ⟨⟨HAW.out.sk.only hon (fun i hi e => HFo.out i hi e), HAW.out.fp, HAW.out.below.trans (hon.below (fun i e => by have := HWs.out; omega) HAW.out.below.size)⟩⟩
                have f3 := HX.out.free 3
                clear hon
                rw [HH.out] at HT
                have q1 := HX.out.cell 1 _ rfl
                have q2 := HX.out.cell 2 _ rfl
                by_cases hks : (key.size : Int) ≤ 1025
                · rw [if_pos hks] at HT
                  have HP := Aside0.mk (putAll g hd ns key v 1 _ HAn.out.sk hks (by omega) (by omega) (by have := HLn.out; omega))
                  clear hks HX HFo
                  go_wp2_with fail
                  refine HP.out.mono ?_
                  rintro e w5 ⟨ns', rfl, hq, hl⟩
                  have HA5 := Aside0.mk (HAn.out.turned hl)
                  have HE5 : Aside0 (ns'.map en = runE true (xs.take (j + 1))) := ⟨by rw [HT.out, hq, HE.out]⟩
                  clear hq hl HAW HE HP q0 q1 q2
                  go_wp2
                  go_roundw
                  case rel => exact ⟨j + 1, ns', by omega, by go_num, HA5, HE5⟩
                  case measure => simp [intOf]; omega
                · rw [if_neg hks] at HT
                  have HP := Aside0.mk (putLong g hd ns key v 1 _ HAn.out.sk (by omega))
                  have HE5 : Aside0 (ns.map en = runE true (xs.take (j + 1))) := ⟨by rw [HT.out, HE.out]⟩
                  clear hks HX HFo
                  go_wp2_with fail
                  refine HP.out.mono ?_
                  rintro e w' ⟨rfl, rfl⟩
                  clear HP q0 q1 q2
                  go_wp2
                  go_roundw
                  case rel => exact ⟨j + 1, ns, by omega, by go_num, HAn, HE5⟩
                  case measure => simp [intOf]; omega
              · have HH : Aside0 (hOf true ht = ht) := ⟨by unfold hOf; rw [if_pos ⟨rfl, by omega, by omega⟩]⟩
                rw [HH.out] at HT
                have q1 := HX.out.cell 1 _ rfl
                have q2 := HX.out.cell 2 _ rfl
                by_cases hks : (key.size : Int) ≤ 1025
                · rw [if_pos hks] at HT
                  have HP := Aside0.mk (putAll g hd ns key v ht _ HAW.out.sk hks (by omega) (by omega) (by have := HLn.out; omega))
                  clear hks HX HFo
                  go_wp2_with fail
                  refine HP.out.mono ?_
                  rintro e w5 ⟨ns', rfl, hq, hl⟩
                  have HA5 := Aside0.mk (HAW.out.turned hl)
                  have HE5 : Aside0 (ns'.map en = runE true (xs.take (j + 1))) := ⟨by rw [HT.out, hq, HE.out]⟩
                  clear hq hl HAW HE HP q0 q1 q2
                  go_wp2
                  go_roundw
                  case rel => exact ⟨j + 1, ns', by omega, by go_num, HA5, HE5⟩
                  case measure => simp [intOf]; omega
                · rw [if_neg hks] at HT
                  have HP := Aside0.mk (putLong g hd ns key v ht _ HAW.out.sk (by omega))
                  have HE5 : Aside0 (ns.map en = runE true (xs.take (j + 1))) := ⟨by rw [HT.out, HE.out]⟩
                  clear hks HX HFo
                  go_wp2_with fail
                  refine HP.out.mono ?_
                  rintro e w' ⟨rfl, rfl⟩
                  clear HP q0 q1 q2
                  go_wp2
                  go_roundw
                  case rel => exact ⟨j + 1, ns, by omega, by go_num, HAW, HE5⟩
                  case measure => simp [intOf]; omega
      · rw [if_neg hk] at HT
        have b1 : (k == 1) = false := by rw [beq_eq_false_iff_ne]; exact fun e => hk (Or.inl e)
        have b2 : (k == 2) = false := by rw [beq_eq_false_iff_ne]; exact fun e => hk (Or.inr e)
        clear hk
        by_cases hk3 : k = 3
        · subst hk3
          rw [if_pos rfl] at HT
          have q1 := HX.out.cell 1 _ rfl
          have HDl := Aside0.mk (deleteAll g hd ns key W HAW.out.sk (by have := HLn.out; omega))
          clear b1 b2
          go_wp2_with fail
          refine HDl.out.mono ?_
          rintro e w5 ⟨ns', rfl, hq, hl⟩
          have HA5 := Aside0.mk (HAW.out.turned hl)
          have HE5 : Aside0 (ns'.map en = runE hts (xs.take (j + 1))) := ⟨by rw [HT.out, hq, HE.out]⟩
          clear hq hl HAW HE HDl q0 q1
          go_wp2
          go_roundw
          case rel => exact ⟨j + 1, ns', by omega, by go_num, HA5, HE5⟩
          case measure => simp [intOf]; omega
        · rw [if_neg hk3] at HT
          have b3 : (k == 3) = false := by rw [beq_eq_false_iff_ne]; exact hk3
          have HE5 : Aside0 (ns.map en = runE hts (xs.take (j + 1))) := ⟨by rw [HT.out, HE.out]⟩
          clear hk3
          go_wp2
          go_roundw
          case rel => exact ⟨j + 1, ns, by omega, by go_num, HAW, HE5⟩
          case measure => simp [intOf]; omega
    · obtain rfl : j = m := by omega
      have HE2 : Aside0 (ns.map en = runE hts xs) := ⟨by rw [HE.out, Hm.out, List.take_length]⟩
      clear HE
      go_wp2
      go_ret
      exact ⟨g, hd, ns, rfl, HA.out, HE2.out⟩
end Go.Proofs.Ytnpjppnahfehnaa.Skip
/- The walk of the law SkipTurns. -/
namespace Go.Proofs.Ytnpjppnahfehnaa.Skip
set_option linter.unusedVariables false
set_option linter.unusedSimpArgs false
open Go.RowKit Go.Proofs.YtnpjppnahfehnaaW.PrintWords Go.Proofs.Ytnpjppnahfehnaa.Kit Go.MuLone
attribute [local go_sem high] PSame.eqA33

theorem kE_cells {w : World} {x : En} {cs : List Value} (h : kE.K w x cs) : cs = [.string x.k, .int .i64 x.v, .int .i64 x.h] := by
  obtain ⟨c0, c1, rfl, h0, c2, c3, rfl, h1, h2⟩ := h
  rw [show c0 = [.string x.k] from h0, show c2 = [.int .i64 x.v] from h1, show c3 = [.int .i64 x.h] from h2]
  rfl
theorem kE_at {w : World} {A : Option Addr} {n : Nat} {xs : List En} (h : kE.C w A n xs) (i : Nat) (hi : i < n) : ∃ b o x, A = some ⟨b, o, none⟩ ∧ xs[i]? = some x ∧ w.cell? ⟨b, o + i * 3, none⟩ = some (.string x.k) ∧ w.cell? ⟨b, o + i * 3 + 1, none⟩ = some (.int .i64 x.v) ∧ w.cell? ⟨b, o + i * 3 + 2, none⟩ = some (.int .i64 x.h) := by
  obtain ⟨b, o, x, cs, rfl, hx, hK, hc⟩ := C_at (s := 3) rfl (by omega) h i hi
  have := kE_cells hK
  subst this
  exact ⟨b, o, x, rfl, hx, hc 0 _ rfl, hc 1 _ rfl, hc 2 _ rfl⟩
def SortedE (l : List En) : Prop := l.Pairwise (fun a b => ltB a.k b.k = true)
theorem sortedE {ns : List Nd} {l : List En} (h : Sorted ns) (e : ns.map en = l) : SortedE l := by
  unfold SortedE
  rw [← e, List.pairwise_map]
  exact h
theorem mid_sorted {l : List En} (h : SortedE l) (rlo rhi : ByteArray) (opn : Bool) : SortedE (mid l rlo rhi opn) := List.Pairwise.filter _ h
theorem pick_all (l : List En) (rlo rhi : ByteArray) (opn back : Bool) : pick l rlo rhi opn back l.length = cond back (mid l rlo rhi opn).reverse (mid l rlo rhi opn) := by
  unfold pick
  have h : (mid l rlo rhi opn).length ≤ l.length := List.length_filter_le _ _
  rw [Int.toNat_natCast, List.take_of_length_le]
  cases back <;> simp [h]
theorem bl_succ : ∀ x y : List UInt8, Op.bytesLess x (y ++ [0]) = !Op.bytesLess y x
  | [], [] => rfl
  | [], _ :: _ => rfl
  | a :: x, [] => by
    rw [List.nil_append, bl_cons, bl_nil]
    have : decide (a < 0) = false := decide_eq_false (UInt8.not_lt_zero)
    rw [this]
    simp
    rfl
  | a :: x, b :: y => by
    rw [List.cons_append, bl_cons, bl_cons, bl_succ x y]
    by_cases h1 : a < b
    · have h2 : ¬ b < a := by rw [UInt8.lt_iff_toNat_lt] at h1 ⊢; omega
      have h3 : (b == a) = false := by rw [beq_eq_false_iff_ne]; rintro rfl; exact absurd h1 h2
      rw [decide_eq_true h1, decide_eq_false h2, h3]
      rfl
    · by_cases h2 : b < a
      · have h3 : (a == b) = false := by rw [beq_eq_false_iff_ne]; rintro rfl; exact absurd h2 h1
        rw [decide_eq_false h1, decide_eq_true h2, h3]
        rfl
      · obtain rfl : a = b := by
          rw [UInt8.lt_iff_toNat_lt] at h1 h2
          exact UInt8.toNat_inj.1 (by omega)
        rw [decide_eq_false h1]
        simp
abbrev k0 : ByteArray := ⟨#[0]⟩
theorem lt_succ (x key : ByteArray) : ltB x (key ++ k0) = !ltB key x := by
  unfold ltB
  rw [ByteArray.toList_eq, ByteArray.toList_eq, ByteArray.toList_eq]
  have : (key ++ k0).data.toList = key.data.toList ++ [0] := by simp
  rw [this]
  exact bl_succ _ _
theorem pick_fore (l : List En) (key r : ByteArray) : pick l key r true false 1 = (seekE l key false).toList := by
  unfold pick mid seekE inR
  simp only [cond_false, Bool.true_or, Bool.and_true]
  generalize l.filter (fun x => !ltB x.k key) = M
  cases M <;> rfl
theorem lt_nil (x : ByteArray) (e : ByteArray) (he : e.data.toList = []) : ltB x e = false := by
  unfold ltB
  rw [ByteArray.toList_eq e, he]
  exact bl_nil _
theorem pick_back (l : List En) (key e : ByteArray) (he : e.data.toList = []) : pick l e (key ++ k0) false true 1 = (seekE l key true).toList := by
  unfold pick mid seekE inR
  simp only [cond_true, Bool.false_or, lt_succ, lt_nil _ e he, Bool.not_false, Bool.true_and]
  generalize l.filter (fun x => !ltB key x.k) = M
  rcases List.eq_nil_or_concat M with rfl | ⟨M', y, rfl⟩
  · rfl
  · simp
theorem pickE_get (l : List En) (j : Nat) (hj : j < l.length) : l.reverse[l.length - 1 - j]? = l[j]? := by
  rw [List.getElem?_reverse (by omega)]
  congr 1
  omega

theorem cellB {w w' : World} {a : Addr} {v : Value} (hb : Below w.heap.size w w') (hc : w.cell? a = some v) : w'.cell? a = some v := by
  have : a.block < w.heap.size := by
    by_cases h : a.block < w.heap.size
    · exact h
    · simp [World.cell?, Array.getElem?_eq_none (Nat.le_of_not_lt h)] at hc
  rw [hb.cell this]
  exact hc

theorem Ol.far {w0 w w' : World} {g : Nat} {hd : Nd} {ns : List Nd} {b : Nat} {cs : List Value} (h : Ol w0 w g hd ns) (hk : Blk w b cs TE) (hB : w0.heap.size ≤ b) (ho : Only (fun i => i = b) w w') : Ol w0 w' g hd ns :=
  ⟨h.sk.only ho (fun i hi e => by
    subst e
    obtain ⟨cs', t, hb, ht⟩ := h.sk.typed hi
    have := hb.out.symm.trans hk.out
    injection this with this
    injection this with _ ht'
    subst ht'
    revert ht
    decide), h.fp, h.below.trans (ho.below (fun i e => by rw [e]; exact hB) h.below.size)⟩

set_option maxRecDepth 100000 in
set_option maxHeartbeats 8000000 in
theorem skipTurns_walk (A : Option Addr) (c : Nat) (xs : List Op) (xk rlo rhi : ByteArray) (opn bk : Bool) (most : Int) (w : World) (hC : kOp.C w A xs.length xs) (hxl : xs.length * 40 ≤ 140737488351232) (hxk : xk.size ≤ 140737488351232) :
    Calls Try.prog 3 #[.slice A xs.length c, .agg #[.string xk, .string rlo, .string rhi, .bool opn, .bool bk, .int .i64 most]] w fun e w' => e = .returned (.bool true) ∧ Below w.heap.size w w' := by
  have hz := zeroE
  have hzr := zeroRg
  obtain ⟨W, hW⟩ : ∃ W, W = w.alloc (.cells #[.string xk, .string rlo, .string rhi, .bool opn, .bool bk, .int .i64 most] TLook) := ⟨_, rfl⟩
  have hb : Below w.heap.size w W := by rw [hW]; exact (Below.refl _ _).alloc (Nat.le_refl _) _
  have HX : Aside0 (Blk W w.heap.size [.string xk, .string rlo, .string rhi, .bool opn, .bool bk, .int .i64 most] TLook) := ⟨by rw [hW]; exact Blk.newA w _ _⟩
  have HB := Aside0.mk hb
  have HM := Aside0.mk (madeCalls A c xs true W (Kd.C_below hC hb) hxl)
  have HLn : Aside0 ((runE true xs).length ≤ 3518437208780) := ⟨by have := runE_len true xs xs.length; rw [List.take_length] at this; omega⟩
  clear hC hb
  go_enter Try.func3, Try.ntmps3
  go_wp2_with fail
  rw [← hW]
  clear hW hxl
  refine HM.out.mono ?_
  rintro e w1 ⟨g, hd, ns, rfl, ha, he⟩
  have HA1 := Aside0.mk ha
  have HE := Aside0.mk he
  have HSo := Aside0.mk (sortedE ha.sk.srt he)
  have HX1 := Aside0.mk (HX.out.belowSize ha.below)
  have HNl := Aside0.mk (map_len he)
  clear ha he HM HX
  generalize runE true xs = es at *
  have HSc1 : Aside0 (∀ W, Sk W g 0 hd ns → Calls Try.prog 8 #[.pointer (some ⟨g, 0, none⟩), .agg #[.string rlo, .string rhi, .bool opn], .bool false, .int .i64 es.length] W fun e w' => ∃ v, e = .returned v ∧ MR w' W.heap.size v (mid es rlo rhi opn) ∧ Below W.heap.size W w') := ⟨fun W h => by
    have := scanCalls g hd ns rlo rhi opn false es.length W h (by rw [HNl.out]; exact HLn.out)
    rw [HE.out, pick_all, cond_false] at this
    exact this⟩
  have HSc2 : Aside0 (∀ W, Sk W g 0 hd ns → Calls Try.prog 8 #[.pointer (some ⟨g, 0, none⟩), .agg #[.string rlo, .string rhi, .bool opn], .bool true, .int .i64 es.length] W fun e w' => ∃ v, e = .returned v ∧ MR w' W.heap.size v (mid es rlo rhi opn).reverse ∧ Below W.heap.size W w') := ⟨fun W h => by
    have := scanCalls g hd ns rlo rhi opn true es.length W h (by rw [HNl.out]; exact HLn.out)
    rw [HE.out, pick_all, cond_true] at this
    exact this⟩
  have HSe1 : Aside0 (∀ W, Sk W g 0 hd ns → Calls Try.prog 10 #[.pointer (some ⟨g, 0, none⟩), .string xk, .bool false] W fun e w' => e = .returned (seekW (seekE es xk false)) ∧ Below W.heap.size W w') := ⟨fun W h => by
    have := seekAll g hd ns xk false W h
    rw [HE.out] at this
    exact this⟩
  have HSe2 : Aside0 (∀ W, Sk W g 0 hd ns → Calls Try.prog 10 #[.pointer (some ⟨g, 0, none⟩), .string xk, .bool true] W fun e w' => e = .returned (seekW (seekE es xk true)) ∧ Below W.heap.size W w') := ⟨fun W h => by
    have := seekAll g hd ns xk true W h
    rw [HE.out] at this
    exact this⟩
  have HSd1 : Aside0 (∀ W, Sk W g 0 hd ns → Calls Try.prog 8 #[.pointer (some ⟨g, 0, none⟩), .agg #[.string xk, .string ByteArray.empty, .bool true], .bool false, .int .i64 1] W fun e w' => ∃ v, e = .returned v ∧ MR w' W.heap.size v (seekE es xk false).toList ∧ Below W.heap.size W w') := ⟨fun W h => by
    have := scanCalls g hd ns xk ByteArray.empty true false 1 W h (by rw [HNl.out]; exact HLn.out)
    rw [HE.out, pick_fore] at this
    exact this⟩
  have HSd2 : Aside0 (∀ W, Sk W g 0 hd ns → Calls Try.prog 8 #[.pointer (some ⟨g, 0, none⟩), .agg #[.string ByteArray.empty, .string (xk ++ k0), .bool false], .bool true, .int .i64 1] W fun e w' => ∃ v, e = .returned v ∧ MR w' W.heap.size v (seekE es xk true).toList ∧ Below W.heap.size W w') := ⟨fun W h => by
    have := scanCalls g hd ns ByteArray.empty (xk ++ k0) false true 1 W h (by rw [HNl.out]; exact HLn.out)
    rw [HE.out, pick_back _ _ _ (by rfl)] at this
    exact this⟩
  have HLe : Aside0 (∀ W, Sk W g 0 hd ns → Calls Try.prog 9 #[.pointer (some ⟨g, 0, none⟩)] W fun e w' => e = .returned (.int .i64 es.length) ∧ W = w') := ⟨fun W h => by
    have := lenCalls g hd ns W h
    rw [HNl.out] at this
    exact this⟩
  have HMs := Aside0.mk (mid_sorted HSo.out rlo rhi opn)
  have HMl : Aside0 ((mid es rlo rhi opn).length ≤ 3518437208780) := ⟨Nat.le_trans (List.length_filter_le _ _) HLn.out⟩
  generalize mid es rlo rhi opn = M at *
  have y1 := HX1.out.cell 1 _ rfl
  have y2 := HX1.out.cell 2 _ rfl
  have y3 := HX1.out.cell 3 _ rfl
  go_upto_region 4 with (fail)
  go_cut [6] (fun v wc => ∃ (A3 : Option Addr) (c3 : Nat), v = .slice A3 M.length c3 ∧ Aside0 (Ol W wc g hd ns) ∧ Aside0 (Blk wc w.heap.size [.string xk, .string rlo, .string rhi, .bool opn, .bool bk, .int .i64 most] TLook) ∧ Aside0 (kE.C wc A3 M.length M))
  case first =>
    have hd1 : Below w1.heap.size w1 w1.drew := (Below.refl _ w1).drew
    have HSk1 := Aside0.mk (HA1.out.sk.below hd1)
    go_region_with (first
      | (go_at_call 9; refine (HLe.out _ HSk1.out).mono ?_; rintro e w2 ⟨rfl, rfl⟩)
      | (go_at_call 8; refine (HSc1.out _ HSk1.out).mono ?_; rintro e w3 ⟨v3, rfl, hr3, hb3⟩))
    all_goals
      obtain ⟨A3, c3, rfl⟩ := Kd.R_slice hr3
      have hb13 : Below w1.heap.size w1 w3 := hd1.trans (hb3.mono (Nat.le_refl _))
      have HA3 := Aside0.mk (HA1.out.belowed hb13)
      have HX3 := Aside0.mk (HX1.out.belowSize hb13)
      have HC3 := Aside0.mk (Kd.R_reads' hr3).2.2
      clear hb3 hr3 hb13 HA1 HX1 HSk1 hd1 y1 y2 y3
      go_wp2_with fail
      go_meet
      exact ⟨A3, c3, rfl, HA3, HX3, HC3⟩
  case rest =>
  clear HA1 HX1 y1 y2 y3
  obtain ⟨A3, c3, rfl, HA3, HX3, HC3⟩ := hcut
  have y1 := HX3.out.cell 1 _ rfl
  have y2 := HX3.out.cell 2 _ rfl
  have y3 := HX3.out.cell 3 _ rfl
  go_upto_region 5 with (fail)
  go_cut [7] (fun v wz => ∃ (A5 : Option Addr) (c5 : Nat), v = .slice A5 M.length c5 ∧ Aside0 (Ol W wz g hd ns) ∧ Aside0 (Blk wz w.heap.size [.string xk, .string rlo, .string rhi, .bool opn, .bool bk, .int .i64 most] TLook) ∧ Aside0 (kE.C wz A3 M.length M) ∧ Aside0 (kE.C wz A5 M.length M.reverse))
  case first =>
    have hd3 : Below wc.heap.size wc wc.drew := (Below.refl _ wc).drew
    have HSk3 := Aside0.mk (HA3.out.sk.below hd3)
    go_region_with (first
      | (go_at_call 9; refine (HLe.out _ HSk3.out).mono ?_; rintro e w4 ⟨rfl, rfl⟩)
      | (go_at_call 8; refine (HSc2.out _ HSk3.out).mono ?_; rintro e w5 ⟨v5, rfl, hr5, hb5⟩))
    all_goals
      obtain ⟨A5, c5, rfl⟩ := Kd.R_slice hr5
      have hb35 : Below wc.heap.size wc w5 := hd3.trans (hb5.mono (Nat.le_refl _))
      have HA5 := Aside0.mk (HA3.out.belowed hb35)
      have HX5 := Aside0.mk (HX3.out.belowSize hb35)
      have HC5 := Aside0.mk (Kd.C_below HC3.out hb35)
      have HD5 : Aside0 (kE.C w5 A5 M.length M.reverse) := ⟨by
        have := (Kd.R_reads' hr5).2.2
        rw [List.length_reverse] at this
        exact this⟩
      clear hb5 hr5 hb35 HA3 HX3 HC3 HSk3 hd3 y1 y2 y3
      go_wp2_with fail
      go_meet
      exact ⟨A5, c5, by rw [List.length_reverse], HA5, HX5, HC5, HD5⟩
  case rest =>
  clear HA3 HX3 HC3 y1 y2 y3
  obtain ⟨A5, c5, rfl, HA5, HX5, HC5, HD5⟩ := hcut
  clear HSc1 HSc2 HLe
  go_wp2_with fail
  go_loopw [8] (fun i wr => ∃ j : Nat, j ≤ M.length ∧ i = .int .i64 j ∧ Aside0 (Ol W wr g hd ns) ∧ Aside0 (Blk wr w.heap.size [.string xk, .string rlo, .string rhi, .bool opn, .bool bk, .int .i64 most] TLook) ∧ Aside0 (kE.C wr A3 M.length M) ∧ Aside0 (kE.C wr A5 M.length M.reverse)) (fun i _ => M.length - (intOf i).toNat)
  case atStart => exact ⟨0, Nat.zero_le _, rfl, HA5, HX5, HC5, HD5⟩
  case round =>
    clear HA5 HX5 HC5 HD5
    obtain ⟨j, hj, rfl, HA, HX, HC, HD⟩ := hrel
    by_cases hlt : j < M.length
    · obtain ⟨b1, o1, x, e1, hx, p0, p1, p2⟩ := kE_at HC.out j hlt
      obtain ⟨b2, o2, x', e2, hx', r0, r1, r2⟩ := kE_at HD.out (M.length - 1 - j) (by omega)
      rw [pickE_get M j hlt, hx] at hx'
      injection hx' with hx'
      subst hx'
      have hMl := HMl.out
      have i1 : IntKind.i64.wrap ((M.length : Int) - 1) = (M.length : Int) - 1 := IntWalk.i64_in _ (by omega)
      have i2 : IntKind.i64.wrap ((M.length : Int) - 1 - (j : Int)) = ((M.length - 1 - j : Nat) : Int) := by rw [show (M.length : Int) - 1 - (j : Int) = ((M.length - 1 - j : Nat) : Int) by omega]; exact IntWalk.i64_in _ (by omega)
      have i3 : ((M.length - 1 - j : Nat) : Int) < (M.length : Int) := by omega
      have i4 : (0 : Int) ≤ ((M.length - 1 - j : Nat) : Int) := by omega
      generalize hq : M.length - 1 - j = q at *
      clear hq
      have i5 : (j : Int) < (M.length : Int) := by omega
      subst e1 e2
      by_cases h0 : j = 0
      · have d0 : decide ((0 : Int) < (j : Int)) = false := decide_eq_false (by omega)
        have dn : decide (0 < j) = false := decide_eq_false (by omega)
        clear h0
        go_wp2_with fail
        go_quiet (fail)
        have hbq : Below wr.heap.size wr (wr.drewN nq) := pw_below_drewN (Below.refl _ wr) nq
        have HAq := Aside0.mk (HA.out.belowed hbq)
        have HXq := Aside0.mk (HX.out.belowSize hbq)
        have HCq := Aside0.mk (Kd.C_below HC.out hbq)
        have HDq := Aside0.mk (Kd.C_below HD.out hbq)
        clear hbq HA HX HC HD p0 p1 p2 r0 r1 r2 i1 i2 i3 i4 i5 d0
        go_wp2
        go_roundw
        case rel => exact ⟨j + 1, by omega, by go_num, HAq, HXq, HCq, HDq⟩
        case measure => simp [intOf]; omega
      · have d0 : decide ((0 : Int) < (j : Int)) = true := decide_eq_true (by omega)
        have dn : decide (0 < j) = true := decide_eq_true (by omega)
        obtain ⟨b3, o3, y, e3, hy, s0, _, _⟩ := kE_at HC.out (j - 1) (by omega)
        injection e3 with e3
        injection e3 with e4 e5
        subst e4 e5
        have i6 : IntKind.i64.wrap ((j : Int) - 1) = ((j - 1 : Nat) : Int) := by rw [show (j : Int) - 1 = ((j - 1 : Nat) : Int) by omega]; exact IntWalk.i64_in _ (by omega)
        have i7 : ((j - 1 : Nat) : Int) < (M.length : Int) := by omega
        have i8 : (0 : Int) ≤ ((j - 1 : Nat) : Int) := by omega
        have hyx : ltB y.k x.k = true := by
          obtain ⟨h1, e1⟩ := List.getElem?_eq_some_iff.1 hy
          obtain ⟨h2, e2⟩ := List.getElem?_eq_some_iff.1 hx
          have := List.pairwise_iff_getElem.1 HMs.out (j - 1) j h1 h2 (by omega)
          rw [e1, e2] at this
          exact this
        have k1 : Op.bytesLess x.k.toList y.k.toList = false := lt_asymm hyx
        have k2 : (x.k.toList == y.k.toList) = false := by
          rw [beq_key]
          refine decide_eq_false (fun e => ?_)
          rw [e, lt_irrefl] at hyx
          cases hyx
        generalize hq2 : j - 1 = q2 at *
        clear hq2 hyx hy hx h0
        go_wp2_with fail
        go_quiet (fail)
        have hbq : Below wr.heap.size wr (wr.drewN nq) := pw_below_drewN (Below.refl _ wr) nq
        have HAq := Aside0.mk (HA.out.belowed hbq)
        have HXq := Aside0.mk (HX.out.belowSize hbq)
        have HCq := Aside0.mk (Kd.C_below HC.out hbq)
        have HDq := Aside0.mk (Kd.C_below HD.out hbq)
        clear hbq HA HX HC HD p0 p1 p2 r0 r1 r2 i1 i2 i3 i4 i5 i6 i7 i8 d0 dn k1 k2 s0
        go_wp2
        go_roundw
        case rel => exact ⟨j + 1, by omega, by go_num, HAq, HXq, HCq, HDq⟩
        case measure => simp [intOf]; omega
    · obtain rfl : j = M.length := by omega
      clear hlt hj
      have HSk := Aside0.mk HA.out.sk
      have y0 := HX.out.cell 0 _ rfl
      go_wp2_with fail
      refine (HSe1.out _ HSk.out).mono ?_
      rintro e w4 ⟨rfl, hb4⟩
      have HA4 := Aside0.mk (HA.out.belowed hb4)
      have HX4 := Aside0.mk (HX.out.belowSize hb4)
      have HNe : Aside0 (w.heap.size ≠ w4.heap.size ∧ W.heap.size ≤ w4.heap.size) := ⟨Nat.ne_of_lt HX4.out.lt, HA4.out.below.size⟩
      clear hb4 HA HX HC HD HSk y0 HSe1
      rcases hs1 : seekE es xk false with _ | x1
      all_goals simp only [seekW, zE]
      all_goals go_upto_region 14 with (fail)
      · obtain ⟨U, hU⟩ : ∃ U, U = w4.alloc (.cells #[.string ByteArray.empty, .int .i64 0, .int .i64 0] TE) := ⟨_, rfl⟩
        have hbU : Below w4.heap.size w4 U := by rw [hU]; exact (Below.refl _ _).alloc (Nat.le_refl _) _
        have HAU := Aside0.mk (HA4.out.belowed hbU)
        have HXU := Aside0.mk (HX4.out.belowSize hbU)
        have HEU : Aside0 (Blk U w4.heap.size [.string ByteArray.empty, .int .i64 0, .int .i64 0] TE) := ⟨by rw [hU]; exact Blk.newA w4 _ _⟩
        rw [← hU]
        clear hU hbU HA4 HX4
        have y0 := HXU.out.cell 0 _ rfl
        have HSk := Aside0.mk HAU.out.sk
        go_wp2_with fail
        refine (HSd1.out _ HSk.out).mono ?_
        rintro e w5 ⟨v5, rfl, hr5, hb5⟩
        rw [hs1] at hr5
        simp only [Option.toList] at hr5
        obtain ⟨A6, c6, e6⟩ := Kd.R_slice hr5
        rw [List.length_nil] at e6
        subst e6
        have HA5 := Aside0.mk (HAU.out.belowed hb5)
        have HX5 := Aside0.mk (HXU.out.belowSize hb5)
        have HE5 := Aside0.mk (HEU.out.belowSize hb5)
        clear hr5 hb5 HAU HXU HEU y0 HSk HSd1
        have q0 := HE5.out.cell 0 _ rfl
        have q1 := HE5.out.cell 1 _ rfl
        have q2 := HE5.out.cell 2 _ rfl
        go_upto_region 15 with (fail)
        go_quiet (fail)
        have hbq : Below w5.heap.size w5 (w5.drewN nq) := pw_below_drewN (Below.refl _ w5) nq
        have HAq := Aside0.mk (HA5.out.belowed hbq)
        have HXq := Aside0.mk (HX5.out.belowSize hbq)
        have HEq := Aside0.mk (HE5.out.belowSize hbq)
        clear hbq HA5 HX5 HE5 q0 q1 q2
        go_upto_region 17 with (fail)
        have y0 := HXq.out.cell 0 _ rfl
        have HSk := Aside0.mk HAq.out.sk
        have q0 := HEq.out.cell 0 _ rfl
        have q1 := HEq.out.cell 1 _ rfl
        have q2 := HEq.out.cell 2 _ rfl
        generalize w5.drewN nq = wq at *
        go_wp2_with fail
        refine (HSe2.out _ HSk.out).mono ?_
        rintro e w6 ⟨rfl, hb6⟩
        have HA6 := Aside0.mk (HAq.out.belowed hb6)
        have HX6 := Aside0.mk (HXq.out.belowSize hb6)
        have HE6 := Aside0.mk (HEq.out.belowSize hb6)
        clear hb6 HAq HXq HEq y0 q0 q1 q2 HSk HSe2
        have q0 := HE6.out.cell 0 _ rfl
        have q1 := HE6.out.cell 1 _ rfl
        have q2 := HE6.out.cell 2 _ rfl
        have qf0 := HE6.out.free 0
        have qf1 := HE6.out.free 1
        have qf2 := HE6.out.free 2
        rcases hs2 : seekE es xk true with _ | x2
        all_goals simp only [seekW, zE]
        all_goals go_upto_region 18 with (fail)
        · obtain ⟨V, hV⟩ : ∃ V, V = ((w6.setCell ⟨w4.heap.size, 0, none⟩ (.string ByteArray.empty)).setCell ⟨w4.heap.size, 1, none⟩ (.int .i64 0)).setCell ⟨w4.heap.size, 2, none⟩ (.int .i64 0) := ⟨_, rfl⟩
          have HEV : Aside0 (Blk V w4.heap.size [.string ByteArray.empty, .int .i64 0, .int .i64 0] TE) := ⟨by rw [hV]; exact ((HE6.out.put 0 _).put 1 _).put 2 _⟩
          have HXV : Aside0 (Blk V w.heap.size [.string xk, .string rlo, .string rhi, .bool opn, .bool bk, .int .i64 most] TLook) := ⟨by rw [hV]; exact ((HX6.out.far HNe.out.1 _).far HNe.out.1 _).far HNe.out.1 _⟩
          have HAV : Aside0 (Ol W V g hd ns) := ⟨by
            rw [hV]
            exact HA6.out.far HE6.out HNe.out.2 ((((Only.refl (fun i => i = w4.heap.size) w6).setCell (p := ⟨w4.heap.size, 0, none⟩) (.inl rfl) _).setCell (p := ⟨w4.heap.size, 1, none⟩) (.inl rfl) _).setCell (p := ⟨w4.heap.size, 2, none⟩) (.inl rfl) _)⟩
          rw [← hV]
          clear hV HE6 HX6 HA6 q0 q1 q2 qf0 qf1 qf2
          have y0 := HXV.out.cell 0 _ rfl
          have HSk := Aside0.mk HAV.out.sk
          have hcat : ∀ W : World, (Op.stringOp .add xk ⟨#[0]⟩).run Try.prog W = .ok (.string (xk ++ ⟨#[0]⟩)) W := fun W => run_string_add_sum W xk _ (by have : (⟨#[0]⟩ : ByteArray).size = 1 := rfl; omega)
          go_wp2_with fail
          refine (HSd2.out _ HSk.out).mono ?_
          rintro e w7 ⟨v7, rfl, hr7, hb7⟩
          rw [hs2] at hr7
          simp only [Option.toList] at hr7
          obtain ⟨A8, c8, e8⟩ := Kd.R_slice hr7
          rw [List.length_nil] at e8
          subst e8
          have HB7 : Aside0 (Below w.heap.size w w7) := ⟨HB.out.trans ((HAV.out.belowed hb7).below.mono HB.out.size)⟩
          have HE7 := Aside0.mk (HEV.out.belowSize hb7)
          clear hr7 hb7 hcat HAV HXV HEV y0 HSk HSd2
          have q0 := HE7.out.cell 0 _ rfl
          have q1 := HE7.out.cell 1 _ rfl
          have q2 := HE7.out.cell 2 _ rfl
          go_upto_region 19 with (fail)
          refine wp_region_held_drew (S := fun _ => True) (by kernel_rfl) trivial (fun hHeld => ?_)
          refine wpAnyH_take (i := 0) (oi := { dst := some 110, op := Op.move (Operand.tmp 10), type := 4, pos := "law.go:168", after := #[], guard := none }) (v := .bool false) rfl (by kernel_rfl) (by kernel_rfl) (by kernel_rfl) (fun _ _ _ h => h) (Or.inl ⟨by rfl, fun w hSw => by go_simp⟩) (by assumption) ?_
          try simp only [Act.put, List.setIfInBounds_toArray, List.set_cons_zero, List.set_cons_succ]
          refine wpAnyH_take (i := 1) (oi := { dst := some 111, op := Op.move (Operand.tmp 11), type := 29, pos := "law.go:168", after := #[], guard := none }) (v := .slice A8 0 c8) rfl (by kernel_rfl) (by kernel_rfl) (by kernel_rfl) (fun _ _ _ h => h) (Or.inl ⟨by rfl, fun w hSw => by go_simp⟩) (by assumption) ?_
          try simp only [Act.put, List.setIfInBounds_toArray, List.set_cons_zero, List.set_cons_succ]
          refine wpAnyH_take (i := 2) (oi := { dst := some 112, op := Op.call { callee := Callee.builtin Builtin.len, args := #[Operand.tmp 111], argTypes := #[29] }, type := 3, pos := "law.go:168", after := #[{ on := 1, ground := Ground.data }], guard := none }) (v := .int .i64 0) rfl (by kernel_rfl) (by kernel_rfl) (by kernel_rfl) (fun _ _ _ h => h) (Or.inl ⟨by rfl, fun w hSw => by go_simp⟩) (by assumption) ?_
          try simp only [Act.put, List.setIfInBounds_toArray, List.set_cons_zero, List.set_cons_succ]
          refine wpAnyH_take (i := 3) (oi := { dst := some 113, op := Op.binOp BinOp.eql 3 (Operand.tmp 112) (Operand.const (Value.int IntKind.i64 1)) 3, type := 4, pos := "law.go:168", after := #[{ on := 2, ground := Ground.data }], guard := none }) (v := .bool false) rfl (by kernel_rfl) (by kernel_rfl) (by kernel_rfl) (fun _ _ _ h => h) (Or.inl ⟨by rfl, fun w hSw => by go_simp⟩) (by assumption) ?_
          try simp only [Act.put, List.setIfInBounds_toArray, List.set_cons_zero, List.set_cons_succ]
          refine wpAnyH_take (i := 4) (oi := { dst := some 114, op := Op.binOp BinOp.eql 4 (Operand.tmp 110) (Operand.tmp 113) 4, type := 4, pos := "law.go:168", after := #[{ on := 0, ground := Ground.data }, { on := 3, ground := Ground.data }], guard := none }) (v := .bool true) rfl (by kernel_rfl) (by kernel_rfl) (by kernel_rfl) (fun _ _ _ h => h) (Or.inl ⟨by rfl, fun w hSw => by go_simp⟩) (by assumption) ?_
          try simp only [Act.put, List.setIfInBounds_toArray, List.set_cons_zero, List.set_cons_succ]
          refine wpAnyH_take (i := 5) (oi := { dst := some 115, op := Op.move (Operand.tmp 114), type := 4, pos := "law.go:168", after := #[{ on := 4, ground := Ground.data }], guard := none }) (v := .bool true) rfl (by kernel_rfl) (by kernel_rfl) (by kernel_rfl) (fun _ _ _ h => h) (Or.inl ⟨by rfl, fun w hSw => by go_simp⟩) (by assumption) ?_
          try simp only [Act.put, List.setIfInBounds_toArray, List.set_cons_zero, List.set_cons_succ]
          refine wpAnyH_take (i := 6) (oi := { dst := some 116, op := Op.move (Operand.tmp 10), type := 4, pos := "law.go:168", after := #[{ on := 5, ground := Ground.guard }], guard := some (5, true) }) (v := .bool false) rfl (by kernel_rfl) (by kernel_rfl) (by kernel_rfl) (fun _ _ _ h => h) (Or.inl ⟨by rfl, fun w hSw => by go_simp⟩) (by assumption) ?_
          try simp only [Act.put, List.setIfInBounds_toArray, List.set_cons_zero, List.set_cons_succ]
          refine wpAnyH_take (i := 7) (oi := { dst := some 117, op := Op.unOp UnOp.not 4 (Operand.tmp 116), type := 4, pos := "law.go:168", after := #[{ on := 6, ground := Ground.data }, { on := 5, ground := Ground.guard }], guard := some (5, true) }) (v := .bool true) rfl (by kernel_rfl) (by kernel_rfl) (by kernel_rfl) (fun _ _ _ h => h) (Or.inl ⟨by rfl, fun w hSw => by go_simp⟩) (by assumption) ?_
          try simp only [Act.put, List.setIfInBounds_toArray, List.set_cons_zero, List.set_cons_succ]
          refine wpAnyH_take (i := 8) (oi := { dst := some 118, op := Op.move (Operand.tmp 117), type := 4, pos := "law.go:168", after := #[{ on := 7, ground := Ground.data }, { on := 5, ground := Ground.chain }, { on := 5, ground := Ground.guard }], guard := some (5, true) }) (v := .bool true) rfl (by kernel_rfl) (by kernel_rfl) (by kernel_rfl) (fun _ _ _ h => h) (Or.inl ⟨by rfl, fun w hSw => by go_simp⟩) (by assumption) ?_
          try simp only [Act.put, List.setIfInBounds_toArray, List.set_cons_zero, List.set_cons_succ]
          refine wpAnyH_take (i := 9) (oi := { dst := some 119, op := Op.load 33 (Operand.tmp 9), type := 33, pos := "law.go:168", after := #[{ on := 8, ground := Ground.guard }], guard := some (8, false) }) (v := undef) rfl (by kernel_rfl) (by kernel_rfl) (by kernel_rfl) (fun _ _ _ h => h) (Or.inr ⟨by rfl, rfl⟩) (by assumption) ?_
          try simp only [Act.put, List.setIfInBounds_toArray, List.set_cons_zero, List.set_cons_succ]
          refine wpAnyH_take (i := 10) (oi := { dst := some 120, op := Op.move (Operand.tmp 11), type := 29, pos := "law.go:168", after := #[{ on := 8, ground := Ground.guard }], guard := some (8, false) }) (v := undef) rfl (by kernel_rfl) (by kernel_rfl) (by kernel_rfl) (fun _ _ _ h => h) (Or.inr ⟨by rfl, rfl⟩) (by assumption) ?_
          try simp only [Act.put, List.setIfInBounds_toArray, List.set_cons_zero, List.set_cons_succ]
          refine wpAnyH_take (i := 11) (oi := { dst := some 121, op := Op.indexAddr 29 (Operand.tmp 120) (Operand.const (Value.int IntKind.i64 0)), type := 0, pos := "law.go:168", after := #[{ on := 10, ground := Ground.data }, { on := 8, ground := Ground.guard }], guard := some (8, false) }) (v := undef) rfl (by kernel_rfl) (by kernel_rfl) (by kernel_rfl) (fun _ _ _ h => h) (Or.inr ⟨by rfl, rfl⟩) (by assumption) ?_
          try simp only [Act.put, List.setIfInBounds_toArray, List.set_cons_zero, List.set_cons_succ]
          refine wpAnyH_take (i := 12) (oi := { dst := some 122, op := Op.load 33 (Operand.tmp 121), type := 33, pos := "law.go:168", after := #[{ on := 11, ground := Ground.data }, { on := 8, ground := Ground.guard }], guard := some (8, false) }) (v := undef) rfl (by kernel_rfl) (by kernel_rfl) (by kernel_rfl) (fun _ _ _ h => h) (Or.inr ⟨by rfl, rfl⟩) (by assumption) ?_
          try simp only [Act.put, List.setIfInBounds_toArray, List.set_cons_zero, List.set_cons_succ]
          refine wpAnyH_take (i := 13) (oi := { dst := some 123, op := Op.binOp BinOp.eql 33 (Operand.tmp 119) (Operand.tmp 122) 33, type := 4, pos := "law.go:168", after := #[{ on := 9, ground := Ground.data }, { on := 12, ground := Ground.data }, { on := 8, ground := Ground.guard }], guard := some (8, false) }) (v := undef) rfl (by kernel_rfl) (by kernel_rfl) (by kernel_rfl) (fun _ _ _ h => h) (Or.inr ⟨by rfl, rfl⟩) (by assumption) ?_
          try simp only [Act.put, List.setIfInBounds_toArray, List.set_cons_zero, List.set_cons_succ]
          refine wpAnyH_take (i := 14) (oi := { dst := some 124, op := Op.pick (Operand.tmp 118) (Operand.const (Value.bool true)) (Operand.tmp 123), type := 4, pos := "law.go:168", after := #[{ on := 8, ground := Ground.data }, { on := 13, ground := Ground.data }, { on := 5, ground := Ground.guard }], guard := some (5, true) }) (v := .bool true) rfl (by kernel_rfl) (by kernel_rfl) (by kernel_rfl) (fun _ _ _ h => h) (Or.inl ⟨by rfl, fun w hSw => by go_simp⟩) (by assumption) ?_
          try simp only [Act.put, List.setIfInBounds_toArray, List.set_cons_zero, List.set_cons_succ]
          refine wpAnyH_take (i := 15) (oi := { dst := some 125, op := Op.pick (Operand.tmp 115) (Operand.tmp 124) (Operand.const (Value.bool false)), type := 4, pos := "law.go:168", after := #[{ on := 5, ground := Ground.data }, { on := 14, ground := Ground.data }], guard := none }) (v := .bool true) rfl (by kernel_rfl) (by kernel_rfl) (by kernel_rfl) (fun _ _ _ h => h) (Or.inl ⟨by rfl, fun w hSw => by go_simp⟩) (by assumption) ?_
          try simp only [Act.put, List.setIfInBounds_toArray, List.set_cons_zero, List.set_cons_succ]
          refine wpAnyH_take (i := 16) (oi := { dst := some 126, op := Op.move (Operand.tmp 125), type := 4, pos := "law.go:168", after := #[{ on := 15, ground := Ground.data }, { on := 8, ground := Ground.chain }], guard := none }) (v := .bool true) rfl (by kernel_rfl) (by kernel_rfl) (by kernel_rfl) (fun _ _ _ h => h) (Or.inl ⟨by rfl, fun w hSw => by go_simp⟩) (by assumption) ?_
          try simp only [Act.put, List.setIfInBounds_toArray, List.set_cons_zero, List.set_cons_succ]
          refine wpAnyH_ready (rs := [17]) (by kernel_rfl) (by simp) ?_
          refine AllReadyH.cons (o := { dst := some 127, op := Op.call { callee := Callee.value (Operand.func 11), args := #[], argTypes := #[] }, type := 4, pos := "law.go:168", after := #[{ on := 16, ground := Ground.chain }, { on := 16, ground := Ground.guard }], guard := some (16, true) }) rfl (fun K hK => ?_) AllReadyH.nil
          go_simp
          go_at_call 11
          refine (awakeCalls _).mono ?_
          rintro e w9 ⟨rfl, hb9⟩
          have HB9 : Aside0 (Below w.heap.size w w9) := ⟨HB7.out.trans (((Below.refl _ w7).drew.trans (hb9.mono (Nat.le_refl _))).mono HB7.out.size)⟩
          go_wp2_with fail
          refine hK.out _ _ trivial (fun hHeld2 => ?_)
          try simp only [Act.put, List.setIfInBounds_toArray, List.set_cons_zero, List.set_cons_succ]
          refine wpAnyH_take (i := 18) (oi := { dst := some 128, op := Op.pick (Operand.tmp 126) (Operand.tmp 127) (Operand.const (Value.bool false)), type := 4, pos := "law.go:168", after := #[{ on := 16, ground := Ground.data }, { on := 17, ground := Ground.data }], guard := none }) (v := .bool true) rfl (by kernel_rfl) (by kernel_rfl) (by kernel_rfl) (fun _ _ _ h => h) (Or.inl ⟨by rfl, fun w hSw => by go_simp⟩) (by assumption) ?_
          try simp only [Act.put, List.setIfInBounds_toArray, List.set_cons_zero, List.set_cons_succ]
          refine wpAnyH_take (i := 19) (oi := { dst := some 4, op := Op.assign (Operand.tmp 128), type := 4, pos := "law.go:168", after := #[{ on := 18, ground := Ground.data }, { on := 17, ground := Ground.chain }, { on := 0, ground := Ground.phase }, { on := 1, ground := Ground.phase }, { on := 2, ground := Ground.phase }, { on := 3, ground := Ground.phase }, { on := 4, ground := Ground.phase }, { on := 5, ground := Ground.phase }, { on := 6, ground := Ground.phase }, { on := 7, ground := Ground.phase }, { on := 8, ground := Ground.phase }, { on := 9, ground := Ground.phase }, { on := 10, ground := Ground.phase }, { on := 11, ground := Ground.phase }, { on := 12, ground := Ground.phase }, { on := 13, ground := Ground.phase }, { on := 14, ground := Ground.phase }, { on := 15, ground := Ground.phase }, { on := 16, ground := Ground.phase }, { on := 17, ground := Ground.phase }, { on := 18, ground := Ground.phase }], guard := none }) (v := .bool true) rfl (by kernel_rfl) (by kernel_rfl) (by kernel_rfl) (fun _ _ _ h => h) (Or.inl ⟨by rfl, fun w hSw => by go_simp⟩) (by assumption) ?_
          try simp only [Act.put, List.setIfInBounds_toArray, List.set_cons_zero, List.set_cons_succ]
          refine wpAnyH_done (by kernel_rfl) ?_ _
          clear hb9 HB7 HE7
          go_wp2
          go_ret
          exact ⟨rfl, HB9.out⟩
        · obtain ⟨V, hV⟩ : ∃ V, V = ((w6.setCell ⟨w4.heap.size, 0, none⟩ (.string x2.k)).setCell ⟨w4.heap.size, 1, none⟩ (.int .i64 x2.v)).setCell ⟨w4.heap.size, 2, none⟩ (.int .i64 x2.h) := ⟨_, rfl⟩
          have HEV : Aside0 (Blk V w4.heap.size [.string x2.k, .int .i64 x2.v, .int .i64 x2.h] TE) := ⟨by rw [hV]; exact ((HE6.out.put 0 _).put 1 _).put 2 _⟩
          have HXV : Aside0 (Blk V w.heap.size [.string xk, .string rlo, .string rhi, .bool opn, .bool bk, .int .i64 most] TLook) := ⟨by rw [hV]; exact ((HX6.out.far HNe.out.1 _).far HNe.out.1 _).far HNe.out.1 _⟩
          have HAV : Aside0 (Ol W V g hd ns) := ⟨by
            rw [hV]
            exact HA6.out.far HE6.out HNe.out.2 ((((Only.refl (fun i => i = w4.heap.size) w6).setCell (p := ⟨w4.heap.size, 0, none⟩) (.inl rfl) _).setCell (p := ⟨w4.heap.size, 1, none⟩) (.inl rfl) _).setCell (p := ⟨w4.heap.size, 2, none⟩) (.inl rfl) _)⟩
          rw [← hV]
          clear hV HE6 HX6 HA6 q0 q1 q2 qf0 qf1 qf2
          have y0 := HXV.out.cell 0 _ rfl
          have HSk := Aside0.mk HAV.out.sk
          have hcat : ∀ W : World, (Op.stringOp .add xk ⟨#[0]⟩).run Try.prog W = .ok (.string (xk ++ ⟨#[0]⟩)) W := fun W => run_string_add_sum W xk _ (by have : (⟨#[0]⟩ : ByteArray).size = 1 := rfl; omega)
          go_wp2_with fail
          refine (HSd2.out _ HSk.out).mono ?_
          rintro e w7 ⟨v7, rfl, hr7, hb7⟩
          rw [hs2] at hr7
          simp only [Option.toList] at hr7
          obtain ⟨A8, c8, e8⟩ := Kd.R_slice hr7
          rw [List.length_singleton] at e8
          subst e8
          obtain ⟨b8, o8, x8, a8, hx8, p0, p1, p2⟩ := kE_at (Kd.R_reads' hr7).2.2 0 (by simp)
          simp only [List.getElem?_cons_zero, Option.some.injEq] at hx8
          subst hx8 a8
          rw [Nat.zero_mul, Nat.add_zero] at p0 p1 p2
          have HB7 : Aside0 (Below w.heap.size w w7) := ⟨HB.out.trans ((HAV.out.belowed hb7).below.mono HB.out.size)⟩
          have HE7 := Aside0.mk (HEV.out.belowSize hb7)
          clear hr7 hb7 hcat HAV HXV HEV y0 HSk HSd2
          have q0 := HE7.out.cell 0 _ rfl
          have q1 := HE7.out.cell 1 _ rfl
          have q2 := HE7.out.cell 2 _ rfl
          go_upto_region 19 with (fail)
          go_region_held3 (fun w' => w'.cell? ⟨w4.heap.size, 0, none⟩ = some (.string x2.k) ∧ w'.cell? ⟨w4.heap.size, 1, none⟩ = some (.int .i64 x2.v) ∧ w'.cell? ⟨w4.heap.size, 2, none⟩ = some (.int .i64 x2.h) ∧ w'.cell? ⟨b8, o8, none⟩ = some (.string x2.k) ∧ w'.cell? ⟨b8, o8 + 1, none⟩ = some (.int .i64 x2.v) ∧ w'.cell? ⟨b8, o8 + 2, none⟩ = some (.int .i64 x2.h)) (first | exact ⟨q0, q1, q2, p0, p1, p2⟩ | exact ⟨‹_›, ‹_›, ‹_›, ‹_›, ‹_›, ‹_›⟩)
            (first
              | (go_at_call 11; refine (awakeCalls _).mono ?_; rintro e w9 ⟨rfl, hb9⟩; have r0 := cellB hb9 q0; have r1 := cellB hb9 q1; have r2 := cellB hb9 q2; have r3 := cellB hb9 p0; have r4 := cellB hb9 p1; have r5 := cellB hb9 p2))
          all_goals
            have HB9 : Aside0 (Below w.heap.size w w9) := ⟨HB7.out.trans (((Below.refl _ w7).drew.trans (hb9.mono (Nat.le_refl _))).mono HB7.out.size)⟩
            clear hb9 HB7 HE7
            go_wp2
            go_ret
            exact ⟨rfl, HB9.out⟩
      · obtain ⟨U, hU⟩ : ∃ U, U = w4.alloc (.cells #[.string x1.k, .int .i64 x1.v, .int .i64 x1.h] TE) := ⟨_, rfl⟩
        have hbU : Below w4.heap.size w4 U := by rw [hU]; exact (Below.refl _ _).alloc (Nat.le_refl _) _
        have HAU := Aside0.mk (HA4.out.belowed hbU)
        have HXU := Aside0.mk (HX4.out.belowSize hbU)
        have HEU : Aside0 (Blk U w4.heap.size [.string x1.k, .int .i64 x1.v, .int .i64 x1.h] TE) := ⟨by rw [hU]; exact Blk.newA w4 _ _⟩
        rw [← hU]
        clear hU hbU HA4 HX4
        have y0 := HXU.out.cell 0 _ rfl
        have HSk := Aside0.mk HAU.out.sk
        go_wp2_with fail
        refine (HSd1.out _ HSk.out).mono ?_
        rintro e w5 ⟨v5, rfl, hr5, hb5⟩
        rw [hs1] at hr5
        simp only [Option.toList] at hr5
        obtain ⟨A6, c6, e6⟩ := Kd.R_slice hr5
        rw [List.length_singleton] at e6
        subst e6
        obtain ⟨b6, o6, x6, a6, hx6, p0, p1, p2⟩ := kE_at (Kd.R_reads' hr5).2.2 0 (by simp)
        simp only [List.getElem?_cons_zero, Option.some.injEq] at hx6
        subst hx6 a6
        rw [Nat.zero_mul, Nat.add_zero] at p0 p1 p2
        have HA5 := Aside0.mk (HAU.out.belowed hb5)
        have HX5 := Aside0.mk (HXU.out.belowSize hb5)
        have HE5 := Aside0.mk (HEU.out.belowSize hb5)
        clear hr5 hb5 HAU HXU HEU y0 HSk HSd1
        have q0 := HE5.out.cell 0 _ rfl
        have q1 := HE5.out.cell 1 _ rfl
        have q2 := HE5.out.cell 2 _ rfl
        go_upto_region 15 with (fail)
        go_quiet (fail)
        have hbq : Below w5.heap.size w5 (w5.drewN nq) := pw_below_drewN (Below.refl _ w5) nq
        have HAq := Aside0.mk (HA5.out.belowed hbq)
        have HXq := Aside0.mk (HX5.out.belowSize hbq)
        have HEq := Aside0.mk (HE5.out.belowSize hbq)
        clear hbq HA5 HX5 HE5 q0 q1 q2 p0 p1 p2
        go_upto_region 17 with (fail)
        have y0 := HXq.out.cell 0 _ rfl
        have HSk := Aside0.mk HAq.out.sk
        have q0 := HEq.out.cell 0 _ rfl
        have q1 := HEq.out.cell 1 _ rfl
        have q2 := HEq.out.cell 2 _ rfl
        generalize w5.drewN nq = wq at *
        go_wp2_with fail
        refine (HSe2.out _ HSk.out).mono ?_
        rintro e w6 ⟨rfl, hb6⟩
        have HA6 := Aside0.mk (HAq.out.belowed hb6)
        have HX6 := Aside0.mk (HXq.out.belowSize hb6)
        have HE6 := Aside0.mk (HEq.out.belowSize hb6)
        clear hb6 HAq HXq HEq y0 q0 q1 q2 HSk HSe2
        have q0 := HE6.out.cell 0 _ rfl
        have q1 := HE6.out.cell 1 _ rfl
        have q2 := HE6.out.cell 2 _ rfl
        have qf0 := HE6.out.free 0
        have qf1 := HE6.out.free 1
        have qf2 := HE6.out.free 2
        rcases hs2 : seekE es xk true with _ | x2
        all_goals simp only [seekW, zE]
        all_goals go_upto_region 18 with (fail)
        · obtain ⟨V, hV⟩ : ∃ V, V = ((w6.setCell ⟨w4.heap.size, 0, none⟩ (.string ByteArray.empty)).setCell ⟨w4.heap.size, 1, none⟩ (.int .i64 0)).setCell ⟨w4.heap.size, 2, none⟩ (.int .i64 0) := ⟨_, rfl⟩
          have HEV : Aside0 (Blk V w4.heap.size [.string ByteArray.empty, .int .i64 0, .int .i64 0] TE) := ⟨by rw [hV]; exact ((HE6.out.put 0 _).put 1 _).put 2 _⟩
          have HXV : Aside0 (Blk V w.heap.size [.string xk, .string rlo, .string rhi, .bool opn, .bool bk, .int .i64 most] TLook) := ⟨by rw [hV]; exact ((HX6.out.far HNe.out.1 _).far HNe.out.1 _).far HNe.out.1 _⟩
          have HAV : Aside0 (Ol W V g hd ns) := ⟨by
            rw [hV]
            exact HA6.out.far HE6.out HNe.out.2 ((((Only.refl (fun i => i = w4.heap.size) w6).setCell (p := ⟨w4.heap.size, 0, none⟩) (.inl rfl) _).setCell (p := ⟨w4.heap.size, 1, none⟩) (.inl rfl) _).setCell (p := ⟨w4.heap.size, 2, none⟩) (.inl rfl) _)⟩
          rw [← hV]
          clear hV HE6 HX6 HA6 q0 q1 q2 qf0 qf1 qf2
          have y0 := HXV.out.cell 0 _ rfl
          have HSk := Aside0.mk HAV.out.sk
          have hcat : ∀ W : World, (Op.stringOp .add xk ⟨#[0]⟩).run Try.prog W = .ok (.string (xk ++ ⟨#[0]⟩)) W := fun W => run_string_add_sum W xk _ (by have : (⟨#[0]⟩ : ByteArray).size = 1 := rfl; omega)
          go_wp2_with fail
          refine (HSd2.out _ HSk.out).mono ?_
          rintro e w7 ⟨v7, rfl, hr7, hb7⟩
          rw [hs2] at hr7
          simp only [Option.toList] at hr7
          obtain ⟨A8, c8, e8⟩ := Kd.R_slice hr7
          rw [List.length_nil] at e8
          subst e8
          have HB7 : Aside0 (Below w.heap.size w w7) := ⟨HB.out.trans ((HAV.out.belowed hb7).below.mono HB.out.size)⟩
          have HE7 := Aside0.mk (HEV.out.belowSize hb7)
          clear hr7 hb7 hcat HAV HXV HEV y0 HSk HSd2
          have q0 := HE7.out.cell 0 _ rfl
          have q1 := HE7.out.cell 1 _ rfl
          have q2 := HE7.out.cell 2 _ rfl
          go_upto_region 19 with (fail)
          refine wp_region_held_drew (S := fun _ => True) (by kernel_rfl) trivial (fun hHeld => ?_)
          refine wpAnyH_take (i := 0) (oi := { dst := some 110, op := Op.move (Operand.tmp 10), type := 4, pos := "law.go:168", after := #[], guard := none }) (v := .bool false) rfl (by kernel_rfl) (by kernel_rfl) (by kernel_rfl) (fun _ _ _ h => h) (Or.inl ⟨by rfl, fun w hSw => by go_simp⟩) (by assumption) ?_
          try simp only [Act.put, List.setIfInBounds_toArray, List.set_cons_zero, List.set_cons_succ]
          refine wpAnyH_take (i := 1) (oi := { dst := some 111, op := Op.move (Operand.tmp 11), type := 29, pos := "law.go:168", after := #[], guard := none }) (v := .slice A8 0 c8) rfl (by kernel_rfl) (by kernel_rfl) (by kernel_rfl) (fun _ _ _ h => h) (Or.inl ⟨by rfl, fun w hSw => by go_simp⟩) (by assumption) ?_
          try simp only [Act.put, List.setIfInBounds_toArray, List.set_cons_zero, List.set_cons_succ]
          refine wpAnyH_take (i := 2) (oi := { dst := some 112, op := Op.call { callee := Callee.builtin Builtin.len, args := #[Operand.tmp 111], argTypes := #[29] }, type := 3, pos := "law.go:168", after := #[{ on := 1, ground := Ground.data }], guard := none }) (v := .int .i64 0) rfl (by kernel_rfl) (by kernel_rfl) (by kernel_rfl) (fun _ _ _ h => h) (Or.inl ⟨by rfl, fun w hSw => by go_simp⟩) (by assumption) ?_
          try simp only [Act.put, List.setIfInBounds_toArray, List.set_cons_zero, List.set_cons_succ]
          refine wpAnyH_take (i := 3) (oi := { dst := some 113, op := Op.binOp BinOp.eql 3 (Operand.tmp 112) (Operand.const (Value.int IntKind.i64 1)) 3, type := 4, pos := "law.go:168", after := #[{ on := 2, ground := Ground.data }], guard := none }) (v := .bool false) rfl (by kernel_rfl) (by kernel_rfl) (by kernel_rfl) (fun _ _ _ h => h) (Or.inl ⟨by rfl, fun w hSw => by go_simp⟩) (by assumption) ?_
          try simp only [Act.put, List.setIfInBounds_toArray, List.set_cons_zero, List.set_cons_succ]
          refine wpAnyH_take (i := 4) (oi := { dst := some 114, op := Op.binOp BinOp.eql 4 (Operand.tmp 110) (Operand.tmp 113) 4, type := 4, pos := "law.go:168", after := #[{ on := 0, ground := Ground.data }, { on := 3, ground := Ground.data }], guard := none }) (v := .bool true) rfl (by kernel_rfl) (by kernel_rfl) (by kernel_rfl) (fun _ _ _ h => h) (Or.inl ⟨by rfl, fun w hSw => by go_simp⟩) (by assumption) ?_
          try simp only [Act.put, List.setIfInBounds_toArray, List.set_cons_zero, List.set_cons_succ]
          refine wpAnyH_take (i := 5) (oi := { dst := some 115, op := Op.move (Operand.tmp 114), type := 4, pos := "law.go:168", after := #[{ on := 4, ground := Ground.data }], guard := none }) (v := .bool true) rfl (by kernel_rfl) (by kernel_rfl) (by kernel_rfl) (fun _ _ _ h => h) (Or.inl ⟨by rfl, fun w hSw => by go_simp⟩) (by assumption) ?_
          try simp only [Act.put, List.setIfInBounds_toArray, List.set_cons_zero, List.set_cons_succ]
          refine wpAnyH_take (i := 6) (oi := { dst := some 116, op := Op.move (Operand.tmp 10), type := 4, pos := "law.go:168", after := #[{ on := 5, ground := Ground.guard }], guard := some (5, true) }) (v := .bool false) rfl (by kernel_rfl) (by kernel_rfl) (by kernel_rfl) (fun _ _ _ h => h) (Or.inl ⟨by rfl, fun w hSw => by go_simp⟩) (by assumption) ?_
          try simp only [Act.put, List.setIfInBounds_toArray, List.set_cons_zero, List.set_cons_succ]
          refine wpAnyH_take (i := 7) (oi := { dst := some 117, op := Op.unOp UnOp.not 4 (Operand.tmp 116), type := 4, pos := "law.go:168", after := #[{ on := 6, ground := Ground.data }, { on := 5, ground := Ground.guard }], guard := some (5, true) }) (v := .bool true) rfl (by kernel_rfl) (by kernel_rfl) (by kernel_rfl) (fun _ _ _ h => h) (Or.inl ⟨by rfl, fun w hSw => by go_simp⟩) (by assumption) ?_
          try simp only [Act.put, List.setIfInBounds_toArray, List.set_cons_zero, List.set_cons_succ]
          refine wpAnyH_take (i := 8) (oi := { dst := some 118, op := Op.move (Operand.tmp 117), type := 4, pos := "law.go:168", after := #[{ on := 7, ground := Ground.data }, { on := 5, ground := Ground.chain }, { on := 5, ground := Ground.guard }], guard := some (5, true) }) (v := .bool true) rfl (by kernel_rfl) (by kernel_rfl) (by kernel_rfl) (fun _ _ _ h => h) (Or.inl ⟨by rfl, fun w hSw => by go_simp⟩) (by assumption) ?_
          try simp only [Act.put, List.setIfInBounds_toArray, List.set_cons_zero, List.set_cons_succ]
          refine wpAnyH_take (i := 9) (oi := { dst := some 119, op := Op.load 33 (Operand.tmp 9), type := 33, pos := "law.go:168", after := #[{ on := 8, ground := Ground.guard }], guard := some (8, false) }) (v := undef) rfl (by kernel_rfl) (by kernel_rfl) (by kernel_rfl) (fun _ _ _ h => h) (Or.inr ⟨by rfl, rfl⟩) (by assumption) ?_
          try simp only [Act.put, List.setIfInBounds_toArray, List.set_cons_zero, List.set_cons_succ]
          refine wpAnyH_take (i := 10) (oi := { dst := some 120, op := Op.move (Operand.tmp 11), type := 29, pos := "law.go:168", after := #[{ on := 8, ground := Ground.guard }], guard := some (8, false) }) (v := undef) rfl (by kernel_rfl) (by kernel_rfl) (by kernel_rfl) (fun _ _ _ h => h) (Or.inr ⟨by rfl, rfl⟩) (by assumption) ?_
          try simp only [Act.put, List.setIfInBounds_toArray, List.set_cons_zero, List.set_cons_succ]
          refine wpAnyH_take (i := 11) (oi := { dst := some 121, op := Op.indexAddr 29 (Operand.tmp 120) (Operand.const (Value.int IntKind.i64 0)), type := 0, pos := "law.go:168", after := #[{ on := 10, ground := Ground.data }, { on := 8, ground := Ground.guard }], guard := some (8, false) }) (v := undef) rfl (by kernel_rfl) (by kernel_rfl) (by kernel_rfl) (fun _ _ _ h => h) (Or.inr ⟨by rfl, rfl⟩) (by assumption) ?_
          try simp only [Act.put, List.setIfInBounds_toArray, List.set_cons_zero, List.set_cons_succ]
          refine wpAnyH_take (i := 12) (oi := { dst := some 122, op := Op.load 33 (Operand.tmp 121), type := 33, pos := "law.go:168", after := #[{ on := 11, ground := Ground.data }, { on := 8, ground := Ground.guard }], guard := some (8, false) }) (v := undef) rfl (by kernel_rfl) (by kernel_rfl) (by kernel_rfl) (fun _ _ _ h => h) (Or.inr ⟨by rfl, rfl⟩) (by assumption) ?_
          try simp only [Act.put, List.setIfInBounds_toArray, List.set_cons_zero, List.set_cons_succ]
          refine wpAnyH_take (i := 13) (oi := { dst := some 123, op := Op.binOp BinOp.eql 33 (Operand.tmp 119) (Operand.tmp 122) 33, type := 4, pos := "law.go:168", after := #[{ on := 9, ground := Ground.data }, { on := 12, ground := Ground.data }, { on := 8, ground := Ground.guard }], guard := some (8, false) }) (v := undef) rfl (by kernel_rfl) (by kernel_rfl) (by kernel_rfl) (fun _ _ _ h => h) (Or.inr ⟨by rfl, rfl⟩) (by assumption) ?_
          try simp only [Act.put, List.setIfInBounds_toArray, List.set_cons_zero, List.set_cons_succ]
          refine wpAnyH_take (i := 14) (oi := { dst := some 124, op := Op.pick (Operand.tmp 118) (Operand.const (Value.bool true)) (Operand.tmp 123), type := 4, pos := "law.go:168", after := #[{ on := 8, ground := Ground.data }, { on := 13, ground := Ground.data }, { on := 5, ground := Ground.guard }], guard := some (5, true) }) (v := .bool true) rfl (by kernel_rfl) (by kernel_rfl) (by kernel_rfl) (fun _ _ _ h => h) (Or.inl ⟨by rfl, fun w hSw => by go_simp⟩) (by assumption) ?_
          try simp only [Act.put, List.setIfInBounds_toArray, List.set_cons_zero, List.set_cons_succ]
          refine wpAnyH_take (i := 15) (oi := { dst := some 125, op := Op.pick (Operand.tmp 115) (Operand.tmp 124) (Operand.const (Value.bool false)), type := 4, pos := "law.go:168", after := #[{ on := 5, ground := Ground.data }, { on := 14, ground := Ground.data }], guard := none }) (v := .bool true) rfl (by kernel_rfl) (by kernel_rfl) (by kernel_rfl) (fun _ _ _ h => h) (Or.inl ⟨by rfl, fun w hSw => by go_simp⟩) (by assumption) ?_
          try simp only [Act.put, List.setIfInBounds_toArray, List.set_cons_zero, List.set_cons_succ]
          refine wpAnyH_take (i := 16) (oi := { dst := some 126, op := Op.move (Operand.tmp 125), type := 4, pos := "law.go:168", after := #[{ on := 15, ground := Ground.data }, { on := 8, ground := Ground.chain }], guard := none }) (v := .bool true) rfl (by kernel_rfl) (by kernel_rfl) (by kernel_rfl) (fun _ _ _ h => h) (Or.inl ⟨by rfl, fun w hSw => by go_simp⟩) (by assumption) ?_
          try simp only [Act.put, List.setIfInBounds_toArray, List.set_cons_zero, List.set_cons_succ]
          refine wpAnyH_ready (rs := [17]) (by kernel_rfl) (by simp) ?_
          refine AllReadyH.cons (o := { dst := some 127, op := Op.call { callee := Callee.value (Operand.func 11), args := #[], argTypes := #[] }, type := 4, pos := "law.go:168", after := #[{ on := 16, ground := Ground.chain }, { on := 16, ground := Ground.guard }], guard := some (16, true) }) rfl (fun K hK => ?_) AllReadyH.nil
          go_simp
          go_at_call 11
          refine (awakeCalls _).mono ?_
          rintro e w9 ⟨rfl, hb9⟩
          have HB9 : Aside0 (Below w.heap.size w w9) := ⟨HB7.out.trans (((Below.refl _ w7).drew.trans (hb9.mono (Nat.le_refl _))).mono HB7.out.size)⟩
          go_wp2_with fail
          refine hK.out _ _ trivial (fun hHeld2 => ?_)
          try simp only [Act.put, List.setIfInBounds_toArray, List.set_cons_zero, List.set_cons_succ]
          refine wpAnyH_take (i := 18) (oi := { dst := some 128, op := Op.pick (Operand.tmp 126) (Operand.tmp 127) (Operand.const (Value.bool false)), type := 4, pos := "law.go:168", after := #[{ on := 16, ground := Ground.data }, { on := 17, ground := Ground.data }], guard := none }) (v := .bool true) rfl (by kernel_rfl) (by kernel_rfl) (by kernel_rfl) (fun _ _ _ h => h) (Or.inl ⟨by rfl, fun w hSw => by go_simp⟩) (by assumption) ?_
          try simp only [Act.put, List.setIfInBounds_toArray, List.set_cons_zero, List.set_cons_succ]
          refine wpAnyH_take (i := 19) (oi := { dst := some 4, op := Op.assign (Operand.tmp 128), type := 4, pos := "law.go:168", after := #[{ on := 18, ground := Ground.data }, { on := 17, ground := Ground.chain }, { on := 0, ground := Ground.phase }, { on := 1, ground := Ground.phase }, { on := 2, ground := Ground.phase }, { on := 3, ground := Ground.phase }, { on := 4, ground := Ground.phase }, { on := 5, ground := Ground.phase }, { on := 6, ground := Ground.phase }, { on := 7, ground := Ground.phase }, { on := 8, ground := Ground.phase }, { on := 9, ground := Ground.phase }, { on := 10, ground := Ground.phase }, { on := 11, ground := Ground.phase }, { on := 12, ground := Ground.phase }, { on := 13, ground := Ground.phase }, { on := 14, ground := Ground.phase }, { on := 15, ground := Ground.phase }, { on := 16, ground := Ground.phase }, { on := 17, ground := Ground.phase }, { on := 18, ground := Ground.phase }], guard := none }) (v := .bool true) rfl (by kernel_rfl) (by kernel_rfl) (by kernel_rfl) (fun _ _ _ h => h) (Or.inl ⟨by rfl, fun w hSw => by go_simp⟩) (by assumption) ?_
          try simp only [Act.put, List.setIfInBounds_toArray, List.set_cons_zero, List.set_cons_succ]
          refine wpAnyH_done (by kernel_rfl) ?_ _
          clear hb9 HB7 HE7
          go_wp2
          go_ret
          exact ⟨rfl, HB9.out⟩
        · obtain ⟨V, hV⟩ : ∃ V, V = ((w6.setCell ⟨w4.heap.size, 0, none⟩ (.string x2.k)).setCell ⟨w4.heap.size, 1, none⟩ (.int .i64 x2.v)).setCell ⟨w4.heap.size, 2, none⟩ (.int .i64 x2.h) := ⟨_, rfl⟩
          have HEV : Aside0 (Blk V w4.heap.size [.string x2.k, .int .i64 x2.v, .int .i64 x2.h] TE) := ⟨by rw [hV]; exact ((HE6.out.put 0 _).put 1 _).put 2 _⟩
          have HXV : Aside0 (Blk V w.heap.size [.string xk, .string rlo, .string rhi, .bool opn, .bool bk, .int .i64 most] TLook) := ⟨by rw [hV]; exact ((HX6.out.far HNe.out.1 _).far HNe.out.1 _).far HNe.out.1 _⟩
          have HAV : Aside0 (Ol W V g hd ns) := ⟨by
            rw [hV]
            exact HA6.out.far HE6.out HNe.out.2 ((((Only.refl (fun i => i = w4.heap.size) w6).setCell (p := ⟨w4.heap.size, 0, none⟩) (.inl rfl) _).setCell (p := ⟨w4.heap.size, 1, none⟩) (.inl rfl) _).setCell (p := ⟨w4.heap.size, 2, none⟩) (.inl rfl) _)⟩
          rw [← hV]
          clear hV HE6 HX6 HA6 q0 q1 q2 qf0 qf1 qf2
          have y0 := HXV.out.cell 0 _ rfl
          have HSk := Aside0.mk HAV.out.sk
          have hcat : ∀ W : World, (Op.stringOp .add xk ⟨#[0]⟩).run Try.prog W = .ok (.string (xk ++ ⟨#[0]⟩)) W := fun W => run_string_add_sum W xk _ (by have : (⟨#[0]⟩ : ByteArray).size = 1 := rfl; omega)
          go_wp2_with fail
          refine (HSd2.out _ HSk.out).mono ?_
          rintro e w7 ⟨v7, rfl, hr7, hb7⟩
          rw [hs2] at hr7
          simp only [Option.toList] at hr7
          obtain ⟨A8, c8, e8⟩ := Kd.R_slice hr7
          rw [List.length_singleton] at e8
          subst e8
          obtain ⟨b8, o8, x8, a8, hx8, p0, p1, p2⟩ := kE_at (Kd.R_reads' hr7).2.2 0 (by simp)
          simp only [List.getElem?_cons_zero, Option.some.injEq] at hx8
          subst hx8 a8
          rw [Nat.zero_mul, Nat.add_zero] at p0 p1 p2
          have HB7 : Aside0 (Below w.heap.size w w7) := ⟨HB.out.trans ((HAV.out.belowed hb7).below.mono HB.out.size)⟩
          have HE7 := Aside0.mk (HEV.out.belowSize hb7)
          clear hr7 hb7 hcat HAV HXV HEV y0 HSk HSd2
          have q0 := HE7.out.cell 0 _ rfl
          have q1 := HE7.out.cell 1 _ rfl
          have q2 := HE7.out.cell 2 _ rfl
          go_upto_region 19 with (fail)
          go_region_held3 (fun w' => w'.cell? ⟨w4.heap.size, 0, none⟩ = some (.string x2.k) ∧ w'.cell? ⟨w4.heap.size, 1, none⟩ = some (.int .i64 x2.v) ∧ w'.cell? ⟨w4.heap.size, 2, none⟩ = some (.int .i64 x2.h) ∧ w'.cell? ⟨b8, o8, none⟩ = some (.string x2.k) ∧ w'.cell? ⟨b8, o8 + 1, none⟩ = some (.int .i64 x2.v) ∧ w'.cell? ⟨b8, o8 + 2, none⟩ = some (.int .i64 x2.h)) (first | exact ⟨q0, q1, q2, p0, p1, p2⟩ | exact ⟨‹_›, ‹_›, ‹_›, ‹_›, ‹_›, ‹_›⟩)
            (first
              | (go_at_call 11; refine (awakeCalls _).mono ?_; rintro e w9 ⟨rfl, hb9⟩; have r0 := cellB hb9 q0; have r1 := cellB hb9 q1; have r2 := cellB hb9 q2; have r3 := cellB hb9 p0; have r4 := cellB hb9 p1; have r5 := cellB hb9 p2))
          all_goals
            have HB9 : Aside0 (Below w.heap.size w w9) := ⟨HB7.out.trans (((Below.refl _ w7).drew.trans (hb9.mono (Nat.le_refl _))).mono HB7.out.size)⟩
            clear hb9 HB7 HE7
            go_wp2
            go_ret
            exact ⟨rfl, HB9.out⟩
end Go.Proofs.Ytnpjppnahfehnaa.Skip
/- Layer 12's list: Levels. -/
namespace Go.Proofs.Ytnpjppnahfehnaa.Skip
set_option linter.unusedVariables false
set_option linter.unusedSimpArgs false
open Go.RowKit Go.Proofs.YtnpjppnahfehnaaW.PrintWords Go.Proofs.Ytnpjppnahfehnaa.Kit Go.MuLone

abbrev TStr : TypeId := 9
abbrev TStrs : TypeId := 40
theorem infoS : (Try.prog.info? TStr).map (fun i => (i.zero, i.size, i.bytes)) = some (some (.string ⟨#[]⟩), 1, 16) := by kernel_rfl
theorem infoSs : (Try.prog.info? TStrs).map (fun i => (i.zero, i.size, i.bytes)) = some (some (.slice none 0 0), 1, 24) := by kernel_rfl
abbrev LS (w : World) (base : Nat) (v : Value) (l : List (List ByteArray)) : Prop := Kd.S (Kd.slice TStr Kd.string) TStrs w base (fun _ => True) v l

/-- The keys on a level. -/
def lvl (i : Nat) (ns : List Nd) : List ByteArray := (ns.filter (fun x => decide (i < x.h))).map (·.k)
def lvFrom (ns : List Nd) : Nat → Nat → List (List ByteArray)
  | 0, _ => []
  | n + 1, i => if lvl i ns = [] then [] else lvl i ns :: lvFrom ns n (i + 1)
theorem lvFrom_zero (ns : List Nd) (i : Nat) : lvFrom ns 0 i = [] := rfl
theorem lvFrom_succ (ns : List Nd) (n i : Nat) : lvFrom ns (n + 1) i = if lvl i ns = [] then [] else lvl i ns :: lvFrom ns n (i + 1) := rfl
theorem skipTo (i : Nat) : ∀ l : List Nd, ∃ pre t, l = pre ++ t ∧ fst? i l (fun _ => none) = t.head?.map (·.p) ∧ lvl i l = lvl i t ∧ ∀ y ∈ t.head?, i < y.h
  | [] => ⟨[], [], rfl, rfl, rfl, fun y h => by cases h⟩
  | y :: l => by
    by_cases hy : i < y.h
    · exact ⟨[], y :: l, rfl, by rw [fst?, if_pos hy]; rfl, rfl, fun z hz => by simp at hz; rw [← hz]; exact hy⟩
    · obtain ⟨pre, t, h1, h2, h3, h4⟩ := skipTo i l
      refine ⟨y :: pre, t, by rw [h1]; rfl, by rw [fst?, if_neg hy]; exact h2, ?_, h4⟩
      rw [← h3]
      unfold lvl
      rw [List.filter_cons_of_neg (by simp [hy])]
theorem lvl_cons {i : Nat} {y : Nd} {l : List Nd} (h : i < y.h) : lvl i (y :: l) = y.k :: lvl i l := by
  unfold lvl
  rw [List.filter_cons_of_pos (by simp [h]), List.map_cons]
theorem lvl_len (i : Nat) (l : List Nd) : (lvl i l).length ≤ l.length := by
  unfold lvl
  rw [List.length_map]
  exact List.length_filter_le _ _
theorem Sk.nextLv {w : World} {g : Nat} {st : Int} {hd : Nd} {ns pre t : List Nd} {y : Nd} (h : Sk w g st hd ns) (e : ns = pre ++ y :: t) (i : Nat) (hi : i < y.h) :
    NodeB w y ∧ w.cell? ⟨y.q, i, none⟩ = some (ptr (fst? i t (fun _ => none))) ∧ IsN w (fst? i t (fun _ => none)) := by
  subst e
  have hl := h.lnk
  rw [← List.cons_append, Links.split] at hl
  obtain ⟨_, k1, k2, k3⟩ := hl
  exact ⟨k1, k2.cell i _ (by rw [List.getElem?_map, List.getElem?_range hi]; rfl), k3.isN i (IsN.nil w)⟩

set_option maxRecDepth 100000 in
set_option maxHeartbeats 8000000 in
theorem levelsCalls (g : Nat) (hd : Nd) (ns : List Nd) (w : World) (h : Sk w g 0 hd ns) (hlen : ns.length ≤ 3518437208780) :
    Calls Try.prog 12 #[.pointer (some ⟨g, 0, none⟩)] w fun e w' => ∃ v, e = .returned v ∧ LS w' w.heap.size v (lvFrom ns 16 0) ∧ Below w.heap.size w w' := by
  have HLen := Aside0.mk hlen
  have H := Aside0.mk h
  obtain ⟨F, hF⟩ : ∃ F, lvFrom ns 16 0 = F := ⟨_, rfl⟩
  rw [hF]
  have HFe := Aside0.mk hF
  clear hF
  have HI := Aside0.mk (isTrue g 0 hd ns w h)
  clear h hlen
  go_enter Try.func12, Try.ntmps12
  go_wp2_with fail
  refine HI.out.mono ?_
  rintro e w' ⟨rfl, rfl⟩
  clear HI
  go_wp2_with fail
  have HR0 : Aside0 (LS w w.heap.size (.slice none 0 0) []) := ⟨Kd.S_nil _ _ _ _ _⟩
  go_loopg [3, 10] 17 (fun n o v wz => ∃ (i : Nat) (L : List (List ByteArray)), n = 17 - i ∧ i ≤ 16 ∧ v = .int .i64 i ∧ Aside0 (LS wz w.heap.size o L) ∧ Aside0 (L.length = i) ∧ Aside0 (L ++ lvFrom ns (16 - i) i = F) ∧ Aside0 (Below w.heap.size w wz))
  case atStart => exact ⟨0, [], rfl, by omega, rfl, HR0, ⟨rfl⟩, HFe, ⟨Below.refl _ _⟩⟩
  case round =>
    clear HR0
    obtain ⟨i, L, rfl, hi, rfl, HR, HLi, HF, HB⟩ := hrel
    by_cases hlt : i < 16
    · have Hz := Aside0.mk (H.out.below HB.out)
      obtain ⟨n, hn⟩ : ∃ n, 16 - i = n + 1 := ⟨15 - i, by omega⟩
      have HF2 := HF.out
      rw [hn, lvFrom_succ] at HF2
      have HF3 := Aside0.mk HF2
      clear HF HF2
      have y3 := Hz.out.c3
      have hhd := Hz.out.at0 (lo := []) i hlt
      obtain ⟨hdn, hdl, hdc, _, hdi⟩ := hhd
      rw [show lastAt i hd [] = hd from rfl] at hdn hdl hdc
      have hn2 := hdn.cell 2 _ rfl
      have hlt2 : (i : Int) < (hd.h : Int) := by omega
      have hi16 : (i : Int) < 16 := by omega
      obtain ⟨pre0, t0, e1, e2, e3, e4⟩ := skipTo i ns
      rw [e2] at hdc hdi
      have HLd := Aside0.mk (pload hd.q i _ _ hdc hdi)
      have HE1 := Aside0.mk e1
      have HE3 := Aside0.mk e3
      have HE4 := Aside0.mk e4
      have HHi := Aside0.mk hi16
      clear hdn hdc hdi e1 e2 e3 e4
      go_wp2_with fail
      refine HLd.out.mono ?_
      rintro e w' ⟨rfl, rfl⟩
      clear HLd y3 hn2 hlt2 hdl Hz hi16
      go_wp2_with fail
      go_loopg [5, 6] t0.length (fun m k5 v6 wz => ∃ (pre t : List Nd) (K : List ByteArray), m = t.length ∧ v6 = ptr (t.head?.map (·.p)) ∧ Aside0 (ns = pre ++ t) ∧ Aside0 (∀ y ∈ t.head?, i < y.h) ∧ Aside0 (Kd.S (Kd.slice TStr Kd.string) TStrs wz w.heap.size (fun k_ => some k_ ≠ (k5 : Value).ownBlock) u3 L) ∧ Aside0 (Kd.R Kd.string TStr wz w.heap.size (fun _ => True) k5 K) ∧ Aside0 (K ++ lvl i t = lvl i ns) ∧ Aside0 (K.length ≤ pre.length) ∧ Aside0 (Below w.heap.size w wz))
      case atStart => exact ⟨pre0, t0, [], rfl, rfl, HE1, HE4, ⟨Kd.S_mono HR.out (fun _ hk => (by simp [Value.ownBlock]))⟩, ⟨Kd.R_nil _ _ _ _ _⟩, ⟨HE3.out.symm⟩, ⟨Nat.zero_le _⟩, HB⟩
      case round =>
        clear HR HE1 HE3 HE4
        have HBo := HB
        clear HB
        obtain ⟨pre, t, K, rfl, rfl, HE1, HE4, HS, HK, HKe, HKl, HB⟩ := hrel
        cases t with
        | nil =>
          rw [List.head?_nil, Option.map_none, show ptr none = .pointer none from rfl]
          have hK : K = lvl i ns := by
            have := HKe.out
            rw [show lvl i [] = [] from rfl, List.append_nil] at this
            exact this
          obtain ⟨A5, c5, e5⟩ := Kd.R_slice HK.out
          subst e5
          by_cases hn0 : lvl i ns = []
          · have hK0 : K.length = 0 := by rw [hK, hn0]; rfl
            have HV : Aside0 (LS wr w.heap.size u3 F) := ⟨by
              have := HF3.out
              rw [if_pos hn0, List.append_nil] at this
              rw [← this]
              exact Kd.S_mono HS.out (fun _ hk => trivial)⟩
            obtain rfl : K = [] := hK.trans hn0
            clear HF3 HS HK HKe HE1 HE4 HKl hK hn0 HBo hK0
            go_wp2
            go_ret
            exact ⟨_, rfl, HV.out, HB.out⟩
          · have hF4 : (L ++ [K]) ++ lvFrom ns n (i + 1) = F := by
              have := HF3.out
              rw [if_neg hn0, ← hK] at this
              rw [← this, List.append_assoc]
              rfl
            have HF4 := Aside0.mk hF4
            have hKp : 0 < K.length := by
              rcases K with _ | ⟨a, b⟩
              · exact absurd hK.symm hn0
              · simp
            have d0 : decide ((K.length : Int) = 0) = false := decide_eq_false (by omega)
            have d1 : decide (K.length = 0) = false := decide_eq_false (by omega)
            have d2 : (K.length == 0) = false := beq_eq_false_iff_ne.2 (by omega)
            have d3 : ((K.length : Int) == 0) = false := beq_eq_false_iff_ne.2 (by omega)
            have d4 : (K = []) = False := eq_false (by rintro rfl; simp at hKp)
            have d5 : (K.length = 0) = False := eq_false (by omega)
            have d6 : ((K.length : Int) = 0) = False := eq_false (by omega)
            have HLb : Aside0 (L.length < 5864062014805) := ⟨by have := HLi.out; omega⟩
            clear HF3 hF4 HKe HE1 HE4 HKl hK hn0 HBo hKp
            go_upto_region 14 with (first | ((with_reducible refine gate_builtin (b := .append) (xs := #[.tmp 42, .tmp 44]) rfl ?_); at_builtin; refine Kd.S_append (Kd.slice TStr Kd.string) (w0 := w) w.heap.size rfl (.tmp 42) (.tmp 44) 38 TStrs (.slice none 0 0) 24 rfl Try.underlying38 infoSs rfl (by decide) (by omega) u3 L K [.slice A5 K.length c5] (fun _ => True) (fun k_ => some k_ = (.slice A5 K.length c5 : Value).ownBlock) rfl rfl ?aP (fun k_ hk_ => ((Kd.R_mono (ok' := fun k_ => ((fun _ => True)) k_ ∧ some k_ ≠ (u3 : Value).ownBlock) (Kd.R_apart' (HK.out) (Kd.S_typed HS.out) (by decide)) (fun k_ hk => ⟨trivial, hk.2⟩))).1 k_ hk_.symm) ?aF ?aO ?aB ?aS ?aL ?_; (case aP => exact Kd.M_row (Kd.R_mono (Kd.R_tight rfl (Kd.R_mono (ok' := fun k_ => ((fun _ => True)) k_ ∧ some k_ ≠ (u3 : Value).ownBlock) (Kd.R_apart' (HK.out) (Kd.S_typed HS.out) (by decide)) (fun k_ hk => ⟨trivial, hk.2⟩))) (fun _ h_ => h_))); (case aB => exact HB.out); (case aF => exact (fun _ _ => trivial)); (case aO => exact (Kd.S_mono HS.out (fun k_ hk => ⟨trivial, fun e_ => hk e_⟩))); (case aS => exact (below_size HB.out)); (case aL => have := HLb.out; omega); intro v7 w7 ho hb hg hat; have HB7 := Aside0.mk hb; have HS7 := Aside0.mk ho; clear ho hb hg hat HS HK HB))
            clear d0 d1 d2 d3 d4 d5 d6
            have i1 : IntKind.i64.wrap ((i : Int) + 1) = ((i + 1 : Nat) : Int) := IntWalk.i64_in _ (by omega)
            go_wp2
            go_roundg (16 - i)
            case measure => omega
            case rel => exact ⟨i + 1, L ++ [K], by omega, by omega, by go_num, HS7, ⟨by have := HLi.out; simp; omega⟩, ⟨by rw [show 16 - (i + 1) = n by omega]; exact HF4.out⟩, HB7⟩
        | cons y t =>
          have Hz := Aside0.mk (H.out.below HB.out)
          have hyh : i < y.h := HE4.out y rfl
          obtain ⟨hyn, _, _⟩ := Hz.out.nextLv HE1.out i hyh
          have hyk := hyn.cell 0 _ rfl
          have HYh := Aside0.mk hyh
          rw [List.head?_cons, Option.map_some, show ptr (some y.p) = .pointer (some ⟨y.p, 0, none⟩) from rfl]
          have HKb : Aside0 (K.length < 8796093022208) := ⟨by
            have h1 := HKl.out
            have h2 := HLen.out
            rw [HE1.out, List.length_append] at h2
            omega⟩
          clear hyn hyh Hz
          go_upto_region 10 with (first | ((with_reducible refine gate_builtin (b := .append) (xs := #[.tmp 32, .tmp 37]) rfl ?_); at_builtin; refine Kd.R_append Kd.string (w0 := w) w.heap.size rfl (.tmp 32) (.tmp 37) TStrs TStr (.string ⟨#[]⟩) 16 rfl Try.underlying40 infoS rfl (by decide) (by omega) u5 K y.k [.string y.k] (fun _ => True) (fun _ => False) rfl rfl ?aP (fun _ hk => hk.elim) ?aF ?aO ?aB ?aS ?aL ?_; (case aP => exact rfl); (case aB => exact HB.out); (case aF => exact (fun _ _ => trivial)); (case aO => exact HK.out); (case aS => exact (below_size HB.out)); (case aL => have := HKb.out; omega); intro v6 w6 ho hb hg hat; have HS6 := Aside0.mk (Kd.S_after (ok := (fun _ => True)) (Kd.S_mono HS.out (fun _ hk => ⟨trivial, hk⟩)) hg hat); have HB6 := Aside0.mk hb; have HK6 := Aside0.mk ho; clear ho hb hg hat HS HK HB hyk))
          obtain ⟨zn, zc, zi⟩ := (H.out.below HB6.out).nextLv HE1.out i HYh.out
          obtain ⟨pre2, t2, e1, e2, e3, e4⟩ := skipTo i t
          rw [e2] at zc zi
          have z2 := zn.cell 2 _ rfl
          have hlt3 : (i : Int) < (y.h : Int) := by have := HYh.out; omega
          have HLz := Aside0.mk (pload y.q i _ _ zc zi)
          have HX1 := Aside0.mk e1
          have HX3 := Aside0.mk e3
          have HX4 := Aside0.mk e4
          clear zn zc zi e1 e2 e3 e4
          go_wp2_with fail
          refine HLz.out.mono ?_
          rintro e w' ⟨rfl, rfl⟩
          clear HLz z2 hlt3
          go_wp2
          go_roundg t2.length
          case measure => rw [HX1.out]; simp; omega
          case rel => exact ⟨pre ++ y :: pre2, t2, K ++ [y.k], rfl, rfl, ⟨by rw [HE1.out, HX1.out]; simp⟩, HX4, ⟨Kd.S_mono HS6.out (fun _ hk => hk.2)⟩, HK6, ⟨by
            rw [← HKe.out, lvl_cons HYh.out, HX3.out, List.append_assoc]
            rfl⟩, ⟨by have := HKl.out; simp; omega⟩, HB6⟩
    · obtain rfl : i = 16 := by omega
      have HV : Aside0 (LS wr w.heap.size u3 F) := ⟨by
        have := HF.out
        rw [Nat.sub_self, lvFrom_zero, List.append_nil] at this
        rw [← this]
        exact HR.out⟩
      clear HF HR
      go_wp2
      go_ret
      exact ⟨_, rfl, HV.out, HB.out⟩
end Go.Proofs.Ytnpjppnahfehnaa.Skip
/- The laws of lists behind SkipLevels. -/
namespace Go.Proofs.Ytnpjppnahfehnaa.Skip
set_option linter.unusedVariables false
set_option linter.unusedSimpArgs false
open Go.RowKit Go.Proofs.YtnpjppnahfehnaaW.PrintWords Go.Proofs.Ytnpjppnahfehnaa.Kit Go.MuLone

def kv (x : En) : ByteArray × Int := (x.k, x.v)
theorem putE_kv (key : ByteArray) (v h h' : Int) : ∀ (l l' : List En), l.map kv = l'.map kv → (putE l key v h).map kv = (putE l' key v h').map kv
  | [], [], _ => rfl
  | [], _ :: _, e => by simp at e
  | _ :: _, [], e => by simp at e
  | x :: l, y :: l', e => by
    rw [List.map_cons, List.map_cons] at e
    injection e with e1 e2
    have ek : x.k = y.k := congrArg Prod.fst e1
    have ev : x.v = y.v := congrArg Prod.snd e1
    unfold putE
    rw [ek]
    split
    · rw [List.map_cons, List.map_cons, putE_kv key v h h' l l' e2, e1]
    · split
      · rw [List.map_cons, List.map_cons, e2]; rfl
      · rw [List.map_cons, List.map_cons, List.map_cons, List.map_cons, e2, e1]; rfl
theorem filter_kv (p : ByteArray → Bool) (l : List En) : (l.filter (fun x => p x.k)).map kv = (l.map kv).filter (fun q => p q.1) := by
  rw [List.filter_map]
  rfl
theorem stepE_kv (a b : Bool) (l l' : List En) (x : Op) (e : l.map kv = l'.map kv) : (stepE a l x).map kv = (stepE b l' x).map kv := by
  unfold stepE
  split
  · split
    · exact putE_kv _ _ _ _ _ _ e
    · exact e
  · split
    · have h1 := filter_kv (fun k => decide (k ≠ x.op.key)) l
      have h2 := filter_kv (fun k => decide (k ≠ x.op.key)) l'
      exact (h1.trans (by rw [e])).trans h2.symm
    · exact e
theorem runE_kv (a b : Bool) (xs : List Op) : (runE a xs).map kv = (runE b xs).map kv := by
  have key : ∀ (xs : List Op) (l l' : List En), l.map kv = l'.map kv → (xs.foldl (stepE a) l).map kv = (xs.foldl (stepE b) l').map kv := by
    intro xs
    induction xs with
    | nil => exact fun _ _ e => e
    | cons x xs ih => exact fun l l' e => ih _ _ (stepE_kv a b l l' x e)
  exact key xs [] [] rfl
theorem mid_kv (l l' : List En) (rlo rhi : ByteArray) (opn : Bool) (e : l.map kv = l'.map kv) : (mid l rlo rhi opn).map kv = (mid l' rlo rhi opn).map kv := by
  have h1 := filter_kv (fun k => !ltB k rlo && (opn || ltB k rhi)) l
  have h2 := filter_kv (fun k => !ltB k rlo && (opn || ltB k rhi)) l'
  exact (h1.trans (by rw [e])).trans h2.symm
theorem pick_kv (l l' : List En) (rlo rhi : ByteArray) (opn back : Bool) (most : Int) (e : l.map kv = l'.map kv) : (pick l rlo rhi opn back most).map kv = (pick l' rlo rhi opn back most).map kv := by
  have h := mid_kv l l' rlo rhi opn e
  unfold pick
  rw [List.map_take, List.map_take]
  cases back
  · simp only [cond_false]; rw [h]
  · simp only [cond_true]; rw [List.map_reverse, List.map_reverse, h]
theorem kv_len {l l' : List En} (e : l.map kv = l'.map kv) : l.length = l'.length := by
  have := congrArg List.length e
  rwa [List.length_map, List.length_map] at this
theorem kv_get {l l' : List En} (e : l.map kv = l'.map kv) {j : Nat} {x y : En} (hx : l[j]? = some x) (hy : l'[j]? = some y) : x.k = y.k ∧ x.v = y.v := by
  have h : (l.map kv)[j]? = (l'.map kv)[j]? := by rw [e]
  rw [List.getElem?_map, List.getElem?_map, hx, hy] at h
  injection h with h
  exact ⟨congrArg Prod.fst h, congrArg Prod.snd h⟩

def lvlE (n : Nat) (l : List En) : List ByteArray := (l.filter (fun x => decide ((n : Int) < x.h))).map (·.k)
theorem lvl_en (n : Nat) (ns : List Nd) : lvl n ns = lvlE n (ns.map en) := by
  unfold lvl lvlE
  rw [List.filter_map, List.map_map]
  have : ((fun x : En => decide ((n : Int) < x.h)) ∘ en) = (fun x : Nd => decide (n < x.h)) := funext fun x => by
    show decide ((n : Int) < (x.h : Int)) = _
    exact decide_eq_decide.2 Int.ofNat_lt
  rw [this]
  rfl
theorem lvFrom_get (ns : List Nd) : ∀ (k i j : Nat) (K : List ByteArray), (lvFrom ns k i)[j]? = some K → K = lvl (i + j) ns ∧ K ≠ []
  | 0, i, j, K, h => by rw [lvFrom_zero] at h; simp at h
  | k + 1, i, j, K, h => by
    rw [lvFrom_succ] at h
    split at h
    · simp at h
    · rename_i hne
      cases j with
      | zero => simp at h; rw [← h]; exact ⟨rfl, hne⟩
      | succ j =>
        have := lvFrom_get ns k (i + 1) j K (by simpa using h)
        rw [show i + (j + 1) = i + 1 + j by omega]
        exact this
theorem lvFrom_len (ns : List Nd) : ∀ k i, (lvFrom ns k i).length ≤ k
  | 0, i => by rw [lvFrom_zero]; simp
  | k + 1, i => by
    rw [lvFrom_succ]
    split
    · simp
    · have := lvFrom_len ns k (i + 1); simp; omega
theorem lvl_zero (ns : List Nd) (h : ∀ x ∈ ns, 1 ≤ x.h) : (lvl 0 ns).length = ns.length := by
  unfold lvl
  rw [List.length_map, List.filter_eq_self.2]
  intro x hx
  have := h x hx
  simp
  omega
theorem lvFrom_pos (ns : List Nd) (h : ∀ x ∈ ns, 1 ≤ x.h) : decide (0 < (lvFrom ns 16 0).length) = decide (0 < ns.length) := by
  have h0 := lvl_zero ns h
  rw [show (16 : Nat) = 15 + 1 from rfl, lvFrom_succ]
  by_cases hn : lvl 0 ns = []
  · rw [if_pos hn]
    rw [hn] at h0
    rw [← h0]
    rfl
  · rw [if_neg hn]
    have : 0 < (lvl 0 ns).length := by
      rcases hq : lvl 0 ns with _ | ⟨a, b⟩
      · exact absurd hq hn
      · simp
    rw [h0] at this
    simp [this]
theorem lvlE_take (n : Nat) (l : List En) (i : Nat) (x : En) (hx : l[i]? = some x) : lvlE n l = lvlE n (l.take i) ++ lvlE n (x :: l.drop (i + 1)) ∧ lvlE n (l.take (i + 1)) = lvlE n (l.take i) ++ lvlE n [x] := by
  obtain ⟨hi, e⟩ := List.getElem?_eq_some_iff.1 hx
  constructor
  · have h0 : l = l.take i ++ x :: l.drop (i + 1) := by
      have := List.take_append_drop i l
      rw [List.drop_eq_getElem_cons hi, e] at this
      exact this.symm
    have h1 := congrArg (lvlE n) h0
    rw [h1]
    unfold lvlE
    rw [List.filter_append, List.map_append]
  · rw [List.take_succ_eq_append_getElem hi, e]
    unfold lvlE
    rw [List.filter_append, List.map_append]
theorem lvlE_hit (n : Nat) (l : List En) (i : Nat) (x : En) (hx : l[i]? = some x) (hh : (n : Int) < x.h) :
    (lvlE n l)[(lvlE n (l.take i)).length]? = some x.k ∧ (lvlE n (l.take i)).length < (lvlE n l).length ∧ (lvlE n (l.take (i + 1))).length = (lvlE n (l.take i)).length + 1 := by
  obtain ⟨h1, h2⟩ := lvlE_take n l i x hx
  have h3 : ∀ t, lvlE n (x :: t) = x.k :: lvlE n t := fun t => by
    unfold lvlE
    rw [List.filter_cons_of_pos (by simp [hh]), List.map_cons]
  rw [h3] at h1
  refine ⟨?_, ?_, ?_⟩
  · rw [h1, List.getElem?_append_right (Nat.le_refl _), Nat.sub_self]; rfl
  · rw [h1, List.length_append, List.length_cons]; omega
  · rw [h2, h3, List.length_append]; rfl
theorem lvlE_miss (n : Nat) (l : List En) (i : Nat) (x : En) (hx : l[i]? = some x) (hh : ¬ (n : Int) < x.h) : (lvlE n (l.take (i + 1))).length = (lvlE n (l.take i)).length := by
  rw [(lvlE_take n l i x hx).2, List.length_append]
  have : lvlE n [x] = [] := by
    unfold lvlE
    rw [List.filter_cons_of_neg (by simp [hh])]
    rfl
  rw [this]
  rfl
theorem mid_all (l : List En) (e r : ByteArray) (he : e.data.toList = []) : mid l e r true = l := by
  unfold mid inR
  rw [List.filter_eq_self.2]
  intro x hx
  have : ltB x.k e = false := by
    unfold ltB
    rw [ByteArray.toList_eq e, he]
    exact bl_nil _
  simp [this]
end Go.Proofs.Ytnpjppnahfehnaa.Skip
/- The document's answer for layer 12 (vellumref12): Find, Get. -/
namespace Go.Proofs.Ytnpjppnahfehnaa.Skip
set_option linter.unusedVariables false
set_option linter.unusedSimpArgs false
open Go.RowKit Go.Proofs.YtnpjppnahfehnaaW.PrintWords Go.Proofs.Ytnpjppnahfehnaa.Kit Go.MuLone

set_option maxRecDepth 100000 in
set_option maxHeartbeats 4000000 in
theorem findCalls (A : Option Addr) (c : Nat) (lo hi : List En) (key : ByteArray) (w : World) (hC : kE.C w A (lo ++ hi).length (lo ++ hi)) (hlo : ∀ x ∈ lo, ltB x.k key = true) (hhi : ∀ x ∈ hi, ltB x.k key = false) (hlen : (lo ++ hi).length ≤ 3518437208780) :
    Calls Try.prog 42 #[.slice A (lo ++ hi).length c, .string key] w fun e w' => e = .returned (.int .i64 lo.length) ∧ w = w' := by
  obtain ⟨es, hes⟩ : ∃ es, es = lo ++ hi := ⟨_, rfl⟩
  rw [← hes] at hC hlen ⊢
  have HE := Aside0.mk hes
  have HLo := Aside0.mk hlo
  have HHi := Aside0.mk hhi
  have HC := Aside0.mk hC
  have HLn := Aside0.mk hlen
  have hle : lo.length ≤ es.length := by rw [hes, List.length_append]; omega
  have HLe := Aside0.mk hle
  clear hes hlo hhi hC hlen hle
  go_enter Try.func42, Try.ntmps42
  go_wp2
  go_loopw [5] (fun v wr => ∃ i : Nat, i ≤ lo.length ∧ v = .int .i64 i ∧ w = wr) (fun v _ => lo.length - (intOf v).toNat)
  case atStart => exact ⟨0, Nat.zero_le _, rfl, rfl⟩
  case round =>
    obtain ⟨i, hi', rfl, rfl⟩ := hrel
    have hel := HLe.out
    have heb := HLn.out
    by_cases hlt : i < lo.length
    · obtain ⟨b, o, x, rfl, hx, p0, _, _⟩ := kE_at HC.out i (by omega)
      have hk : Op.bytesLess x.k.toList key.toList = true := by
        rw [HE.out, List.getElem?_append_left hlt] at hx
        exact HLo.out x (List.mem_of_getElem? hx)
      have i1 : IntKind.i64.wrap ((i : Int) + 1) = ((i + 1 : Nat) : Int) := IntWalk.i64_in _ (by omega)
      have i2 : (i : Int) < (es.length : Int) := by omega
      clear hx
      go_wp2
      go_roundw
      case rel => exact ⟨i + 1, by omega, by go_num, by first | trivial | rfl⟩
      case measure => simp [intOf]; omega
    · obtain rfl : i = lo.length := by omega
      by_cases hn : lo.length < es.length
      · obtain ⟨b, o, x, rfl, hx, p0, _, _⟩ := kE_at HC.out lo.length hn
        have hk : Op.bytesLess x.k.toList key.toList = false := by
          rw [HE.out, List.getElem?_append_right (Nat.le_refl _)] at hx
          exact HHi.out x (List.mem_of_getElem? hx)
        have i2 : (lo.length : Int) < (es.length : Int) := by omega
        clear hx
        go_wp2
        go_ret
        exact ⟨rfl, rfl⟩
      · have he : es.length = lo.length := by omega
        have i2 : ¬ (lo.length : Int) < (es.length : Int) := by omega
        go_wp2
        go_ret
        exact ⟨rfl, rfl⟩

set_option maxRecDepth 100000 in
set_option maxHeartbeats 4000000 in
theorem refGetHit (A : Option Addr) (c : Nat) (lo t : List En) (z : En) (key : ByteArray) (w : World) (hC : kE.C w A (lo ++ z :: t).length (lo ++ z :: t)) (hlo : ∀ x ∈ lo, ltB x.k key = true) (hhi : ∀ x ∈ z :: t, ltB x.k key = false) (hlen : (lo ++ z :: t).length ≤ 3518437208780) (hm : z.k = key) :
    Calls Try.prog 30 #[.slice A (lo ++ z :: t).length c, .string key] w fun e w' => e = .returned (.tuple #[.int .i64 z.v, .bool true]) ∧ w = w' := by
  have HF := Aside0.mk (findCalls A c lo (z :: t) key w hC hlo hhi hlen)
  have hl : lo.length < (lo ++ z :: t).length := by simp
  obtain ⟨b, o, x, rfl, hx, p0, p1, _⟩ := kE_at hC lo.length hl
  rw [List.getElem?_append_right (Nat.le_refl _), Nat.sub_self, List.getElem?_cons_zero] at hx
  injection hx with hx
  subst hx
  have i2 : (lo.length : Int) < ((lo ++ z :: t).length : Int) := by omega
  have k1 : (z.k.toList == key.toList) = true := by rw [beq_key]; exact decide_eq_true hm
  generalize (lo ++ z :: t).length = n at *
  clear hC hlo hhi hlen hl hm
  go_enter Try.func30, Try.ntmps30
  go_wp2_with fail
  refine HF.out.mono ?_
  rintro e w' ⟨rfl, rfl⟩
  go_wp2
  exact bodyPost_ret (v := .tuple #[.int .i64 z.v, .bool true]) (by simp [results, Try.results30, go_sem]) rfl ⟨rfl, rfl⟩
set_option maxRecDepth 100000 in
set_option maxHeartbeats 4000000 in
theorem refGetMiss (A : Option Addr) (c : Nat) (lo hi : List En) (key : ByteArray) (w : World) (hC : kE.C w A (lo ++ hi).length (lo ++ hi)) (hlo : ∀ x ∈ lo, ltB x.k key = true) (hhi : ∀ x ∈ hi, ltB x.k key = false) (hlen : (lo ++ hi).length ≤ 3518437208780) (hm : ∀ z t, hi = z :: t → z.k ≠ key) :
    Calls Try.prog 30 #[.slice A (lo ++ hi).length c, .string key] w fun e w' => e = .returned (.tuple #[.int .i64 0, .bool false]) ∧ w = w' := by
  have HF := Aside0.mk (findCalls A c lo hi key w hC hlo hhi hlen)
  cases hi with
  | nil =>
    have i2 : ¬ (lo.length : Int) < ((lo ++ []).length : Int) := by simp
    have i3 : decide ((lo.length : Int) < ((lo ++ []).length : Int)) = false := decide_eq_false i2
    generalize (lo ++ []).length = n at *
    clear hC hlo hhi hlen hm
    go_enter Try.func30, Try.ntmps30
    go_wp2_with fail
    refine HF.out.mono ?_
    rintro e w' ⟨rfl, rfl⟩
    go_wp2
    exact bodyPost_ret (v := .tuple #[.int .i64 0, .bool false]) (by simp [results, Try.results30, go_sem]) rfl ⟨rfl, rfl⟩
  | cons z t =>
    have hl : lo.length < (lo ++ z :: t).length := by simp
    obtain ⟨b, o, x, rfl, hx, p0, p1, _⟩ := kE_at hC lo.length hl
    rw [List.getElem?_append_right (Nat.le_refl _), Nat.sub_self, List.getElem?_cons_zero] at hx
    injection hx with hx
    subst hx
    have i2 : (lo.length : Int) < ((lo ++ z :: t).length : Int) := by omega
    have k1 : (z.k.toList == key.toList) = false := by rw [beq_key]; exact decide_eq_false (hm z t rfl)
    generalize (lo ++ z :: t).length = n at *
    clear hC hlo hhi hlen hl hm
    go_enter Try.func30, Try.ntmps30
    go_wp2_with fail
    refine HF.out.mono ?_
    rintro e w' ⟨rfl, rfl⟩
    go_wp2
    exact bodyPost_ret (v := .tuple #[.int .i64 0, .bool false]) (by simp [results, Try.results30, go_sem]) rfl ⟨rfl, rfl⟩
end Go.Proofs.Ytnpjppnahfehnaa.Skip
/- The document's answer for layer 12 (vellumref12): Delete, Put. -/
namespace Go.Proofs.Ytnpjppnahfehnaa.Skip
set_option linter.unusedVariables false
set_option linter.unusedSimpArgs false
open Go.RowKit Go.Proofs.YtnpjppnahfehnaaW.PrintWords Go.Proofs.Ytnpjppnahfehnaa.Kit Go.MuLone

abbrev TEs : TypeId := 29
theorem cutFrom (A : Option Addr) (n c m : Nat) (hm : m ≤ n) (hc : n ≤ c) (W : World) :
    (Instr.slice TEs (.slice A n c) (some (.int .i64 ((m : Nat) : Int))) none none).run Try.prog W = .ok (.slice (if c = m then A else A.map (·.add (m * 3))) (n - m) (c - m)) W := by
  obtain ⟨i, hi, hzz⟩ := Option.map_eq_some_iff.1 infoE
  simp only [Prod.mk.injEq] at hzz
  have hel : Try.prog.elem TEs = TE := by simp [Program.elem, Try.underlying29]
  have hu : Try.prog.underlying TEs = some (.slice (Try.prog.elem TEs)) := by rw [hel]; exact Try.underlying29
  rw [run_slice_l W TEs A n c hu .i64 (m : Int) (by omega) (by omega), hel]
  simp [sizeOf, typeInfo, hi, hzz.2.1, sliced, Result.andThen]
theorem cutTo (A : Option Addr) (n c m : Nat) (hm : m ≤ c) (W : World) :
    (Instr.slice TEs (.slice A n c) none (some (.int .i64 ((m : Nat) : Int))) none).run Try.prog W = .ok (.slice A m c) W := by
  have hel : Try.prog.elem TEs = TE := by simp [Program.elem, Try.underlying29]
  have hu : Try.prog.underlying TEs = some (.slice (Try.prog.elem TEs)) := by rw [hel]; exact Try.underlying29
  obtain ⟨i, hi, hzz⟩ := Option.map_eq_some_iff.1 infoE
  rw [run_slice_h W TEs A n c hu .i64 (m : Int) (by omega) (by omega), hel]
  cases A <;> simp [sizeOf, typeInfo, hi, sliced, Result.andThen, Addr.add]
theorem C_left {w : World} {A : Option Addr} {a b : List En} (h : kE.C w A (a ++ b).length (a ++ b)) : kE.C w A a.length a := by
  have := Kd.C_take h (m := a.length) (by simp)
  rwa [List.take_left] at this
theorem C_right {w : World} {A : Option Addr} {c : Nat} {a b : List En} (h : kE.C w A (a ++ b).length (a ++ b)) (hc : (a ++ b).length ≤ c) : kE.C w (if c = a.length then A else A.map (·.add (a.length * 3))) b.length b := by
  have := Kd.C_drop h (m := a.length) (by simp) hc
  rwa [List.drop_left] at this
theorem kE_K_M {w : World} {base : Nat} {okp : Nat → Prop} {x : En} {cs : List Value} (h : kE.K w x cs) : kE.M w base okp x cs := by
  rw [kE_cells h]
  exact kE_mkM w base okp x

set_option maxRecDepth 100000 in
set_option maxHeartbeats 4000000 in
theorem refDelHit (A : Option Addr) (c : Nat) (lo t : List En) (z : En) (key : ByteArray) (w : World) (hC : kE.C w A (lo ++ z :: t).length (lo ++ z :: t)) (hlo : ∀ x ∈ lo, ltB x.k key = true) (hhi : ∀ x ∈ z :: t, ltB x.k key = false) (hlen : (lo ++ z :: t).length ≤ 3518437208780) (hc : (lo ++ z :: t).length ≤ c) (hm : z.k = key) :
    Calls Try.prog 29 #[.slice A (lo ++ z :: t).length c, .string key] w fun e w' => ∃ v, e = .returned (.tuple #[v, .int .i64 z.v, .bool true]) ∧ MR w' w.heap.size v (lo ++ t) ∧ Below w.heap.size w w' := by
  have HF := Aside0.mk (findCalls _ c lo (z :: t) key w hC hlo hhi hlen)
  have HG := Aside0.mk (refGetHit _ c lo t z key w hC hlo hhi hlen hm)
  have HC1 := Aside0.mk (C_left hC)
  have hC2 : kE.C w A ((lo ++ [z]) ++ t).length ((lo ++ [z]) ++ t) := by rw [List.append_assoc, List.singleton_append]; exact hC
  have hr := C_right hC2 (c := c) (by rw [List.append_assoc, List.singleton_append]; exact hc)
  rw [show (lo ++ [z]).length = lo.length + 1 by simp] at hr
  have hk1 : ∀ W, _ := cutTo A (lo ++ z :: t).length c lo.length (by rw [List.length_append] at hc; omega)
  have hk2 : ∀ W, _ := cutFrom A (lo ++ z :: t).length c (lo.length + 1) (by simp) hc
  rw [show (lo ++ z :: t).length - (lo.length + 1) = t.length by simp; omega] at hk2
  generalize (if c = lo.length + 1 then A else A.map (·.add ((lo.length + 1) * 3))) = A2 at hr hk2
  rw [show ((lo.length + 1 : Nat) : Int) = (lo.length : Int) + 1 by omega] at hk2
  have HC2 := Aside0.mk hr
  have hlt : (lo ++ z :: t).length = lo.length + 1 + t.length := by simp; omega
  have i4 : IntKind.i64.wrap ((lo.length : Int) + 1) = (lo.length : Int) + 1 := IntWalk.i64_in _ (by omega)
  have HLn := Aside0.mk (show lo.length + t.length ≤ 3518437208780 by omega)
  generalize (lo ++ z :: t).length = n at *
  clear hC hlo hhi hm hC2 hr hlen hlt hc
  go_enter Try.func29, Try.ntmps29
  go_wp2_with fail
  refine HG.out.mono ?_
  rintro e w' ⟨rfl, rfl⟩
  go_wp2_with fail
  refine HF.out.mono ?_
  rintro e w' ⟨rfl, rfl⟩
  go_upto_region 6 with (fail)
  iterate 13 go_step
  refine Kd.R_append_rows kE (Rr := kE.K w) (w0 := w) w.heap.size rfl (.tmp 23) (.tmp 26) TEs TE (.agg #[.string ByteArray.empty, .int .i64 0, .int .i64 0]) 32 rfl Try.underlying29 infoE rfl kE_pos (by omega) (.slice none 0 0) [] lo A lo.length c (fun _ => True) (fun _ => False) rfl rfl ?aO ?aR ?aK (fun _ hk => hk.elim) (fun _ _ => trivial) ?aB (Nat.le_refl _) ?aL ?_
  (case aO => exact Kd.R_nil _ _ _ _ _)
  (case aR => exact HC1.out)
  (case aK => exact fun _ _ h => kE_K_M h)
  (case aB => exact Below.refl _ _)
  (case aL => have := HLn.out; simp only [List.length_nil]; omega)
  intro v1 w1 ho1 hb1 hg1 hat1
  obtain ⟨A1, c1, e1⟩ := Kd.R_slice ho1
  subst e1
  have HO1 := Aside0.mk ho1
  have HB1 := Aside0.mk hb1
  have HC3 := Aside0.mk (Kd.C_below HC2.out hb1)
  clear ho1 hb1 hg1 hat1
  go_upto_region 7 with (fail)
  iterate 16 go_step
  refine Kd.R_append_rows kE (Rr := kE.K w1) (w0 := w) w.heap.size rfl (.tmp 28) (.tmp 32) TEs TE (.agg #[.string ByteArray.empty, .int .i64 0, .int .i64 0]) 32 rfl Try.underlying29 infoE rfl kE_pos (by omega) (.slice A1 ([] ++ lo).length c1) ([] ++ lo) t A2 t.length (c - (lo.length + 1)) (fun _ => True) (fun _ => False) rfl rfl ?aO2 ?aR2 ?aK2 (fun _ hk => hk.elim) (fun _ _ => trivial) ?aB2 ?aS2 ?aL2 ?_
  (case aO2 => exact HO1.out)
  (case aR2 => exact HC3.out)
  (case aK2 => exact fun _ _ h => kE_K_M h)
  (case aB2 => exact HB1.out)
  (case aS2 => exact HB1.out.size)
  (case aL2 => have := HLn.out; simp only [List.nil_append]; omega)
  intro v2 w2 ho2 hb2 hg2 hat2
  have HO2 := Aside0.mk ho2
  have HB2 := Aside0.mk hb2
  clear ho2 hb2 hg2 hat2
  go_wp2
  exact bodyPost_ret (v := .tuple #[v2, .int .i64 z.v, .bool true]) (by simp [results, Try.results29, go_sem]) rfl ⟨_, rfl, HO2.out, HB2.out⟩

set_option maxRecDepth 100000 in
set_option maxHeartbeats 4000000 in
theorem refPutHit (A : Option Addr) (c : Nat) (lo t : List En) (z : En) (key : ByteArray) (v ht : Int) (w : World) (hC : kE.C w A (lo ++ z :: t).length (lo ++ z :: t)) (hlo : ∀ x ∈ lo, ltB x.k key = true) (hhi : ∀ x ∈ z :: t, ltB x.k key = false) (hlen : (lo ++ z :: t).length ≤ 3518437208780) (hc : (lo ++ z :: t).length ≤ c) (hm : z.k = key)
    (hk : (key.size : Int) ≤ 1025) (h1 : 1 ≤ ht) (h2 : ht ≤ 16) :
    Calls Try.prog 28 #[.slice A (lo ++ z :: t).length c, .string key, .int .i64 v, .int .i64 ht] w fun e w' => ∃ r, e = .returned (.tuple #[r, .int .i64 z.v, .bool true, .int .i64 0]) ∧ MR w' w.heap.size r (lo ++ ⟨key, v, z.h⟩ :: t) ∧ Below w.heap.size w w' := by
  have HF := Aside0.mk (findCalls _ c lo (z :: t) key w hC hlo hhi hlen)
  have HG := Aside0.mk (refGetHit _ c lo t z key w hC hlo hhi hlen hm)
  have HC1 := Aside0.mk (C_left hC)
  have hk1 : ∀ W, _ := cutTo A (lo ++ z :: t).length c lo.length (by rw [List.length_append] at hc; omega)
  have hl : lo.length < (lo ++ z :: t).length := by simp
  obtain ⟨b, o, x, rfl, hx, _, _, p2⟩ := kE_at hC lo.length hl
  rw [List.getElem?_append_right (Nat.le_refl _), Nat.sub_self, List.getElem?_cons_zero] at hx
  injection hx with hx
  subst hx
  have HP := Aside0.mk p2
  have hC2 : kE.C w (some ⟨b, o, none⟩) ((lo ++ [z]) ++ t).length ((lo ++ [z]) ++ t) := by rw [List.append_assoc, List.singleton_append]; exact hC
  have hr := C_right hC2 (c := c) (by rw [List.append_assoc, List.singleton_append]; exact hc)
  rw [show (lo ++ [z]).length = lo.length + 1 by simp] at hr
  have hk2 : ∀ W, _ := cutFrom (some ⟨b, o, none⟩) (lo ++ z :: t).length c (lo.length + 1) (by simp) hc
  rw [show (lo ++ z :: t).length - (lo.length + 1) = t.length by simp; omega] at hk2
  generalize (if c = lo.length + 1 then some ⟨b, o, none⟩ else Option.map (fun x : Addr => x.add ((lo.length + 1) * 3)) (some ⟨b, o, none⟩)) = A2 at hr hk2
  rw [show ((lo.length + 1 : Nat) : Int) = (lo.length : Int) + 1 by omega] at hk2
  have HC2 := Aside0.mk hr
  have hlt : (lo ++ z :: t).length = lo.length + 1 + t.length := by simp; omega
  have i4 : IntKind.i64.wrap ((lo.length : Int) + 1) = (lo.length : Int) + 1 := IntWalk.i64_in _ (by omega)
  have i5 : (lo.length : Int) < ((lo ++ z :: t).length : Int) := by omega
  have HLn := Aside0.mk (show lo.length + 1 + t.length ≤ 3518437208780 by omega)
  generalize (lo ++ z :: t).length = n at *
  clear hC hlo hhi hm hC2 hr hlen hlt hc hl p2
  have j1 : ¬ (1025 : Int) < (key.size : Int) := by omega
  have j2 : ¬ ht < 1 := by omega
  have j3 : ¬ 16 < ht := by omega
  have d2 : decide (ht < 1) = false := decide_eq_false j2
  have d3 : decide (16 < ht) = false := decide_eq_false j3
  clear hk h1 h2
  go_enter Try.func28, Try.ntmps28
  go_wp2_with fail
  refine HF.out.mono ?_
  rintro e w' ⟨rfl, rfl⟩
  go_wp2_with fail
  refine HG.out.mono ?_
  rintro e w' ⟨rfl, rfl⟩
  clear HF HG
  go_upto_region 8 with (fail)
  iterate 13 go_step
  refine Kd.R_append_rows kE (Rr := kE.K w) (w0 := w) w.heap.size rfl (.tmp 36) (.tmp 39) TEs TE (.agg #[.string ByteArray.empty, .int .i64 0, .int .i64 0]) 32 rfl Try.underlying29 infoE rfl kE_pos (by omega) (.slice none 0 0) ([]) lo (some ⟨b, o, none⟩) lo.length c (fun _ => True) (fun _ => False) rfl rfl ?aO1 ?aR1 ?aK1 (fun _ hk => hk.elim) (fun _ _ => trivial) ?aB1 (Nat.le_refl _) ?aL1 ?_
  (case aO1 => exact Kd.R_nil _ _ _ _ _)
  (case aR1 => exact HC1.out)
  (case aK1 => exact fun _ _ h => kE_K_M h)
  (case aB1 => exact Below.refl _ _)
  (case aL1 => have := HLn.out; simp only [List.length_nil]; omega)
  intro v1 w1 ho1 hb1 hg1 hat1
  obtain ⟨A1, c1, e1⟩ := Kd.R_slice ho1
  subst e1
  have HO1 := Aside0.mk ho1
  have HB1 := Aside0.mk hb1
  have HC3 := Aside0.mk (Kd.C_below HC2.out hb1)
  have p3 := cellB hb1 HP.out
  clear ho1 hb1 hg1 hat1
  go_upto_region 10 with (fail)
  iterate 31 go_step
  refine Kd.R_append kE (w0 := w) w.heap.size rfl (.tmp 42) (.tmp 51) TEs TE (.agg #[.string ByteArray.empty, .int .i64 0, .int .i64 0]) 32 rfl Try.underlying29 infoE rfl kE_pos (by omega) (.slice A1 ([] ++ lo).length c1) ([] ++ lo) ⟨key, v, z.h⟩ [.string key, .int .i64 v, .int .i64 z.h] (fun _ => True) (fun _ => False) rfl rfl ?aP2 (fun _ hk => hk.elim) ?aF2 ?aO2 ?aB2 ?aS2 ?aL2 ?_
  (case aP2 => exact kE_mkM _ _ _ ⟨key, v, z.h⟩)
  (case aF2 => exact fun _ _ => trivial)
  (case aO2 => exact HO1.out)
  (case aB2 => exact HB1.out)
  (case aS2 => exact HB1.out.size)
  (case aL2 => have := HLn.out; simp only [List.nil_append]; omega)
  intro v2 w2 ho2 hb2 hg2 hat2
  obtain ⟨A3, c3, e3⟩ := Kd.R_slice ho2
  rw [show (([] : List En) ++ lo ++ [(⟨key, v, z.h⟩ : En)]).length = lo.length + 1 by simp] at e3
  subst e3
  have HO2 := Aside0.mk ho2
  have HB2 := Aside0.mk hb2
  have HC4 : Aside0 (kE.C w2 A2 t.length t) := ⟨Kd.C_below HC2.out hb2⟩
  clear ho2 hb2 hg2 hat2 HO1 HB1 HC3 p3
  go_upto_region 11 with (fail)
  iterate 16 go_step
  refine Kd.R_append_rows kE (Rr := kE.K w2) (w0 := w) w.heap.size rfl (.tmp 53) (.tmp 57) TEs TE (.agg #[.string ByteArray.empty, .int .i64 0, .int .i64 0]) 32 rfl Try.underlying29 infoE rfl kE_pos (by omega) (.slice A3 (lo.length + 1) c3) ([] ++ lo ++ [(⟨key, v, z.h⟩ : En)]) t A2 t.length (c - (lo.length + 1)) (fun _ => True) (fun _ => False) rfl rfl ?aO3 ?aR3 ?aK3 (fun _ hk => hk.elim) (fun _ _ => trivial) ?aB3 HB2.out.size ?aL3 ?_
  (case aO3 => exact HO2.out)
  (case aR3 => exact HC4.out)
  (case aK3 => exact fun _ _ h => kE_K_M h)
  (case aB3 => exact HB2.out)
  (case aL3 => have := HLn.out; simp only [List.nil_append, List.length_append, List.length_singleton]; omega)
  intro v3 w3 ho3 hb3 hg3 hat3
  rw [show [] ++ lo ++ [⟨key, v, z.h⟩] ++ t = lo ++ ⟨key, v, z.h⟩ :: t by simp] at ho3
  have HO3 := Aside0.mk ho3
  have HB3 := Aside0.mk hb3
  clear ho3 hb3 hg3 hat3
  go_wp2
  exact bodyPost_ret (v := .tuple #[v3, .int .i64 z.v, .bool true, .int .i64 0]) (by simp [results, Try.results28, go_sem]) rfl ⟨_, rfl, HO3.out, HB3.out⟩

set_option maxRecDepth 100000 in
set_option maxHeartbeats 4000000 in
theorem refPutMiss (A : Option Addr) (c : Nat) (lo hi : List En) (key : ByteArray) (v ht : Int) (w : World) (hC : kE.C w A (lo ++ hi).length (lo ++ hi)) (hlo : ∀ x ∈ lo, ltB x.k key = true) (hhi : ∀ x ∈ hi, ltB x.k key = false) (hlen : (lo ++ hi).length ≤ 3518437208780) (hc : (lo ++ hi).length ≤ c) (hm : ∀ z t, hi = z :: t → z.k ≠ key)
    (hk : (key.size : Int) ≤ 1025) (h1 : 1 ≤ ht) (h2 : ht ≤ 16) :
    Calls Try.prog 28 #[.slice A (lo ++ hi).length c, .string key, .int .i64 v, .int .i64 ht] w fun e w' => ∃ r, e = .returned (.tuple #[r, .int .i64 0, .bool false, .int .i64 0]) ∧ MR w' w.heap.size r (lo ++ ⟨key, v, ht⟩ :: hi) ∧ Below w.heap.size w w' := by
  have HF := Aside0.mk (findCalls _ c lo hi key w hC hlo hhi hlen)
  have HG := Aside0.mk (refGetMiss _ c lo hi key w hC hlo hhi hlen hm)
  have HC1 := Aside0.mk (C_left hC)
  have hk1 : ∀ W, _ := cutTo A (lo ++ hi).length c lo.length (by rw [List.length_append] at hc; omega)
  have hr := C_right hC (c := c) hc
  have hk2 : ∀ W, _ := cutFrom A (lo ++ hi).length c lo.length (by simp) hc
  rw [show (lo ++ hi).length - lo.length = hi.length by simp] at hk2
  generalize (if c = lo.length then A else Option.map (fun x : Addr => x.add (lo.length * 3)) A) = A2 at hr hk2
  have HC2 := Aside0.mk hr
  have hlt : (lo ++ hi).length = lo.length + hi.length := by simp
  have HLn := Aside0.mk (show lo.length + hi.length ≤ 3518437208780 by omega)
  generalize (lo ++ hi).length = n at *
  clear hC hlo hhi hm hr hlen hlt hc
  have j1 : ¬ (1025 : Int) < (key.size : Int) := by omega
  have j2 : ¬ ht < 1 := by omega
  have j3 : ¬ 16 < ht := by omega
  have d2 : decide (ht < 1) = false := decide_eq_false j2
  have d3 : decide (16 < ht) = false := decide_eq_false j3
  clear hk h1 h2
  go_enter Try.func28, Try.ntmps28
  go_wp2_with fail
  refine HF.out.mono ?_
  rintro e w' ⟨rfl, rfl⟩
  go_wp2_with fail
  refine HG.out.mono ?_
  rintro e w' ⟨rfl, rfl⟩
  clear HF HG
  go_upto_region 8 with (fail)
  iterate 13 go_step
  refine Kd.R_append_rows kE (Rr := kE.K w) (w0 := w) w.heap.size rfl (.tmp 36) (.tmp 39) TEs TE (.agg #[.string ByteArray.empty, .int .i64 0, .int .i64 0]) 32 rfl Try.underlying29 infoE rfl kE_pos (by omega) (.slice none 0 0) ([]) lo A lo.length c (fun _ => True) (fun _ => False) rfl rfl ?aO1 ?aR1 ?aK1 (fun _ hk => hk.elim) (fun _ _ => trivial) ?aB1 (Nat.le_refl _) ?aL1 ?_
  (case aO1 => exact Kd.R_nil _ _ _ _ _)
  (case aR1 => exact HC1.out)
  (case aK1 => exact fun _ _ h => kE_K_M h)
  (case aB1 => exact Below.refl _ _)
  (case aL1 => have := HLn.out; simp only [List.length_nil]; omega)
  intro v1 w1 ho1 hb1 hg1 hat1
  obtain ⟨A1, c1, e1⟩ := Kd.R_slice ho1
  subst e1
  have HO1 := Aside0.mk ho1
  have HB1 := Aside0.mk hb1
  have HC3 := Aside0.mk (Kd.C_below HC2.out hb1)
  clear ho1 hb1 hg1 hat1
  go_upto_region 12 with (fail)
  iterate 19 go_step
  refine Kd.R_append kE (w0 := w) w.heap.size rfl (.tmp 60) (.tmp 65) TEs TE (.agg #[.string ByteArray.empty, .int .i64 0, .int .i64 0]) 32 rfl Try.underlying29 infoE rfl kE_pos (by omega) (.slice A1 ([] ++ lo).length c1) ([] ++ lo) ⟨key, v, ht⟩ [.string key, .int .i64 v, .int .i64 ht] (fun _ => True) (fun _ => False) rfl rfl ?aP2 (fun _ hk => hk.elim) ?aF2 ?aO2 ?aB2 ?aS2 ?aL2 ?_
  (case aP2 => exact kE_mkM _ _ _ ⟨key, v, ht⟩)
  (case aF2 => exact fun _ _ => trivial)
  (case aO2 => exact HO1.out)
  (case aB2 => exact HB1.out)
  (case aS2 => exact HB1.out.size)
  (case aL2 => have := HLn.out; simp only [List.nil_append]; omega)
  intro v2 w2 ho2 hb2 hg2 hat2
  obtain ⟨A3, c3, e3⟩ := Kd.R_slice ho2
  rw [show (([] : List En) ++ lo ++ [(⟨key, v, ht⟩ : En)]).length = lo.length + 1 by simp] at e3
  subst e3
  have HO2 := Aside0.mk ho2
  have HB2 := Aside0.mk hb2
  have HC4 : Aside0 (kE.C w2 A2 hi.length hi) := ⟨Kd.C_below HC2.out hb2⟩
  clear ho2 hb2 hg2 hat2 HO1 HB1 HC3
  go_upto_region 13 with (fail)
  iterate 13 go_step
  refine Kd.R_append_rows kE (Rr := kE.K w2) (w0 := w) w.heap.size rfl (.tmp 67) (.tmp 70) TEs TE (.agg #[.string ByteArray.empty, .int .i64 0, .int .i64 0]) 32 rfl Try.underlying29 infoE rfl kE_pos (by omega) (.slice A3 (lo.length + 1) c3) ([] ++ lo ++ [(⟨key, v, ht⟩ : En)]) hi A2 hi.length (c - lo.length) (fun _ => True) (fun _ => False) rfl rfl ?aO3 ?aR3 ?aK3 (fun _ hk => hk.elim) (fun _ _ => trivial) ?aB3 HB2.out.size ?aL3 ?_
  (case aO3 => exact HO2.out)
  (case aR3 => exact HC4.out)
  (case aK3 => exact fun _ _ h => kE_K_M h)
  (case aB3 => exact HB2.out)
  (case aL3 => have := HLn.out; simp only [List.nil_append, List.length_append, List.length_singleton]; omega)
  intro v3 w3 ho3 hb3 hg3 hat3
  rw [show [] ++ lo ++ [⟨key, v, ht⟩] ++ hi = lo ++ ⟨key, v, ht⟩ :: hi by simp] at ho3
  have HO3 := Aside0.mk ho3
  have HB3 := Aside0.mk hb3
  clear ho3 hb3 hg3 hat3
  go_wp2
  exact bodyPost_ret (v := .tuple #[v3, .int .i64 0, .bool false, .int .i64 0]) (by simp [results, Try.results28, go_sem]) rfl ⟨_, rfl, HO3.out, HB3.out⟩
end Go.Proofs.Ytnpjppnahfehnaa.Skip
/- The document's answer for layer 12 (vellumref12): Seek, Scan; what Put, Delete refuse. -/
namespace Go.Proofs.Ytnpjppnahfehnaa.Skip
set_option linter.unusedVariables false
set_option linter.unusedSimpArgs false
open Go.RowKit Go.Proofs.YtnpjppnahfehnaaW.PrintWords Go.Proofs.Ytnpjppnahfehnaa.Kit Go.MuLone

def seekER (lo hi : List En) (key : ByteArray) (back : Bool) : Option En :=
  cond back (match hi with | [] => lo.getLast? | z :: _ => if z.k = key then some z else lo.getLast?) hi.head?
theorem seekO_ER (lo hi : List Nd) (key : ByteArray) (back : Bool) : (seekO lo hi key back).map en = seekER (lo.map en) (hi.map en) key back := by
  unfold seekO seekER
  cases back with
  | false => simp
  | true =>
    cases hi with
    | nil => simp
    | cons z t =>
      simp only [cond_true, List.map_cons]
      by_cases h : z.k = key
      · rw [if_pos h, if_pos (show (en z).k = key from h)]; rfl
      · rw [if_neg h, if_neg (show ¬ (en z).k = key from h)]; simp
theorem seekSomeE (W : World) (g : Nat) (x : En) (h : Blk W g [.string ByteArray.empty, .int .i64 0, .int .i64 0] TE) : Blk (((W.setCell ⟨g, 0, none⟩ (.string x.k)).setCell ⟨g, 1, none⟩ (.int .i64 x.v)).setCell ⟨g, 2, none⟩ (.int .i64 x.h)) g [.string x.k, .int .i64 x.v, .int .i64 x.h] TE :=
  ((h.put 0 (.string x.k)).put 1 (.int .i64 x.v)).put 2 (.int .i64 x.h)

set_option maxRecDepth 100000 in
set_option maxHeartbeats 8000000 in
theorem refSeekCalls (A : Option Addr) (c : Nat) (lo hi : List En) (key : ByteArray) (back : Bool) (w : World) (hC : kE.C w A (lo ++ hi).length (lo ++ hi)) (hlo : ∀ x ∈ lo, ltB x.k key = true) (hhi : ∀ x ∈ hi, ltB x.k key = false) (hlen : (lo ++ hi).length ≤ 3518437208780) :
    Calls Try.prog 31 #[.slice A (lo ++ hi).length c, .string key, .bool back] w fun e w' => e = .returned (seekW (seekER lo hi key back)) ∧ Below w.heap.size w w' := by
  have hz := zeroE
  obtain ⟨W, hW⟩ : ∃ W, W = w.alloc (.cells #[.string ByteArray.empty, .int .i64 0, .int .i64 0] TE) := ⟨_, rfl⟩
  have hb : Below w.heap.size w W := by rw [hW]; exact (Below.refl _ _).alloc (Nat.le_refl _) _
  have HX : Aside0 (Blk W w.heap.size [.string ByteArray.empty, .int .i64 0, .int .i64 0] TE) := ⟨by rw [hW]; exact Blk.newA w _ _⟩
  have HB := Aside0.mk hb
  have HC := Aside0.mk (Kd.C_below hC hb)
  have HF := Aside0.mk (findCalls _ c lo hi key W HC.out hlo hhi hlen)
  have HLn := Aside0.mk hlen
  have hll : (lo ++ hi).length = lo.length + hi.length := List.length_append
  generalize (lo ++ hi).length = n at *
  have HLl := Aside0.mk hll
  clear hC hlo hhi hb hlen hll
  have hll := HLl.out
  have hLn := HLn.out
  have n0 : ¬ (lo.length : Int) < 0 := by omega
  have d0 : decide ((lo.length : Int) < 0) = false := decide_eq_false n0
  cases back with
  | false =>
    cases hi with
    | nil =>
      rw [List.length_nil, Nat.add_zero] at hll
      subst hll
      clear hLn
      go_enter Try.func31, Try.ntmps31
      go_wp2_with fail
      rw [← hW]
      clear hW
      refine HF.out.mono ?_
      rintro e w' ⟨rfl, rfl⟩
      have f0 := HX.out.free 0
      have f1 := HX.out.free 1
      have f2 := HX.out.free 2
      have x0 := HX.out.cell 0 _ rfl
      have x1 := HX.out.cell 1 _ rfl
      have x2 := HX.out.cell 2 _ rfl
      clear HF
      go_wp2
      exact bodyPost_ret (v := seekW (seekER lo [] key false)) (results_ct (p := 6) (u := 7) rfl _ _ _ TE _ (0, 0) _ rfl (seekZero _ _ HX.out).out Try.underlying33 rfl (by kernel_rfl)) rfl ⟨rfl, set3 HB.out _ (Nat.le_refl _) _ _ _⟩
    | cons z t =>
      have h0 : lo.length < n := by simp at hll; omega
      obtain ⟨b, o, x, rfl, hx, p0, p1, p2⟩ := kE_at HC.out lo.length h0
      rw [List.getElem?_append_right (Nat.le_refl _), Nat.sub_self, List.getElem?_cons_zero] at hx
      injection hx with hx
      subst hx
      have i2 : (lo.length : Int) < (n : Int) := by omega
      have d1 : decide ((n : Int) ≤ (lo.length : Int)) = false := decide_eq_false (by omega)
      have HP := Aside0.mk (And.intro p0 (And.intro p1 p2))
      clear hll hLn h0 p0 p1 p2
      go_enter Try.func31, Try.ntmps31
      go_wp2_with fail
      rw [← hW]
      clear hW
      refine HF.out.mono ?_
      rintro e w' ⟨rfl, rfl⟩
      have f0 := HX.out.free 0
      have f1 := HX.out.free 1
      have f2 := HX.out.free 2
      have x0 := HX.out.cell 0 _ rfl
      have x1 := HX.out.cell 1 _ rfl
      have x2 := HX.out.cell 2 _ rfl
      obtain ⟨p0, p1, p2⟩ := HP.out
      clear HF
      go_wp2
      exact bodyPost_ret (v := seekW (seekER lo (z :: t) key false)) (results_ct (p := 6) (u := 7) rfl _ _ _ TE _ (0, 0) _ rfl (seekSomeE _ _ z HX.out).out Try.underlying33 rfl (by kernel_rfl)) rfl ⟨rfl, set3 HB.out _ (Nat.le_refl _) _ _ _⟩
  | true =>
    cases hi with
    | nil =>
      rcases List.eq_nil_or_concat lo with hlo0 | ⟨lo', y, hlo0⟩
      · have HL0 := Aside0.mk hlo0
        have c1 : ((lo.length : Int) == (n : Int)) = true := beq_iff_eq.2 (by simp only [List.length_nil] at hll; omega)
        have c2 : ((lo.length : Int) = (n : Int)) = True := eq_true (by simp only [List.length_nil] at hll; omega)
        have c3 : (lo.length = n) = True := eq_true (by simp only [List.length_nil] at hll; omega)
        have c4 : (lo.length == n) = true := beq_iff_eq.2 (by simp only [List.length_nil] at hll; omega)
        have i1 : IntKind.i64.wrap ((lo.length : Int) - 1) = -1 := by subst hlo0; rfl
        have d1 : decide ((-1 : Int) < 0) = true := rfl
        clear hll hLn
        have HR : Aside0 (seekER lo [] key true = none) := ⟨by unfold seekER; rw [cond_true]; simp only; rw [HL0.out]; simp⟩
        clear hlo0
        rw [HR.out]
        clear HL0
        clear HLl HLn HC
        generalize lo.length = p at *
        go_enter Try.func31, Try.ntmps31
        go_wp2_with fail
        rw [← hW]
        clear hW
        refine HF.out.mono ?_
        rintro e w' ⟨rfl, rfl⟩
        have f0 := HX.out.free 0
        have f1 := HX.out.free 1
        have f2 := HX.out.free 2
        have x0 := HX.out.cell 0 _ rfl
        have x1 := HX.out.cell 1 _ rfl
        have x2 := HX.out.cell 2 _ rfl
        clear HF
        go_wp2
        exact bodyPost_ret (v := seekW (none)) (results_ct (p := 6) (u := 7) rfl _ _ _ TE _ (0, 0) _ rfl (seekZero _ _ HX.out).out Try.underlying33 rfl (by kernel_rfl)) rfl ⟨rfl, set3 HB.out _ (Nat.le_refl _) _ _ _⟩
      · rw [List.concat_eq_append] at hlo0
        have HL0 := Aside0.mk hlo0
        have hl0 : lo.length = lo'.length + 1 := by rw [hlo0, List.length_append, List.length_singleton]
        rw [hlo0] at HC
        obtain ⟨b', o', y, e', hy, q0, q1, q2⟩ := kE_at HC.out lo'.length (by omega)
        subst e'
        rw [List.append_assoc, List.getElem?_append_right (Nat.le_refl _), Nat.sub_self, List.singleton_append, List.getElem?_cons_zero] at hy
        injection hy with hy
        subst hy
        have HQ := Aside0.mk (And.intro q0 (And.intro q1 q2))
        clear q0 q1 q2
        have c1 : ((lo.length : Int) == (n : Int)) = true := beq_iff_eq.2 (by simp only [List.length_nil] at hll; omega)
        have c2 : ((lo.length : Int) = (n : Int)) = True := eq_true (by simp only [List.length_nil] at hll; omega)
        have c3 : (lo.length = n) = True := eq_true (by simp only [List.length_nil] at hll; omega)
        have c4 : (lo.length == n) = true := beq_iff_eq.2 (by simp only [List.length_nil] at hll; omega)
        have i1 : IntKind.i64.wrap ((lo.length : Int) - 1) = (lo'.length : Int) := by rw [hl0, show ((lo'.length + 1 : Nat) : Int) - 1 = (lo'.length : Int) by omega]; exact IntWalk.i64_in _ (by omega)
        have d1 : decide ((lo'.length : Int) < 0) = false := decide_eq_false (by omega)
        have d2 : decide ((n : Int) ≤ (lo'.length : Int)) = false := decide_eq_false (by omega)
        have i4 : (lo'.length : Int) < (n : Int) := by omega
        clear hl0
        clear hll hLn
        have HR : Aside0 (seekER lo [] key true = some y) := ⟨by unfold seekER; rw [cond_true]; simp only; rw [HL0.out]; simp⟩
        clear hlo0
        rw [HR.out]
        clear HL0
        clear HLl HLn HC
        generalize lo.length = p at *
        go_enter Try.func31, Try.ntmps31
        go_wp2_with fail
        rw [← hW]
        clear hW
        refine HF.out.mono ?_
        rintro e w' ⟨rfl, rfl⟩
        have f0 := HX.out.free 0
        have f1 := HX.out.free 1
        have f2 := HX.out.free 2
        have x0 := HX.out.cell 0 _ rfl
        have x1 := HX.out.cell 1 _ rfl
        have x2 := HX.out.cell 2 _ rfl
        obtain ⟨q0, q1, q2⟩ := HQ.out
        clear HF
        go_wp2
        exact bodyPost_ret (v := seekW (some y)) (results_ct (p := 6) (u := 7) rfl _ _ _ TE _ (0, 0) _ rfl (seekSomeE _ _ y HX.out).out Try.underlying33 rfl (by kernel_rfl)) rfl ⟨rfl, set3 HB.out _ (Nat.le_refl _) _ _ _⟩
    | cons z t =>
      by_cases hk : z.k = key
      · have HK := Aside0.mk hk
        obtain ⟨b, o, x, rfl, hx, p0, p1, p2⟩ := kE_at HC.out lo.length (by simp only [List.length_cons] at hll; omega)
        rw [List.getElem?_append_right (Nat.le_refl _), Nat.sub_self, List.getElem?_cons_zero] at hx
        injection hx with hx
        subst hx
        have HP := Aside0.mk (And.intro p0 (And.intro p1 p2))
        clear p0 p1 p2
        have c1 : ((lo.length : Int) == (n : Int)) = false := beq_eq_false_iff_ne.2 (by simp only [List.length_cons] at hll; omega)
        have c2 : ((lo.length : Int) = (n : Int)) = False := eq_false (by simp only [List.length_cons] at hll; omega)
        have c3 : (lo.length = n) = False := eq_false (by simp only [List.length_cons] at hll; omega)
        have c4 : (lo.length == n) = false := beq_eq_false_iff_ne.2 (by simp only [List.length_cons] at hll; omega)
        have i3 : (lo.length : Int) < (n : Int) := by simp only [List.length_cons] at hll; omega
        have k1 : (z.k.toList == key.toList) = true := by rw [beq_key]; exact decide_eq_true hk
        have k2 : (z.k.toList != key.toList) = false := by unfold bne; rw [k1]; rfl
        have d1 : decide ((n : Int) ≤ (lo.length : Int)) = false := decide_eq_false (by omega)
        clear hll hLn hk
        have HR : Aside0 (seekER lo (z :: t) key true = some z) := ⟨by unfold seekER; rw [cond_true]; simp only; rw [if_pos HK.out]⟩
        rw [HR.out]
        clear HLl HLn HC
        generalize lo.length = p at *
        go_enter Try.func31, Try.ntmps31
        go_wp2_with fail
        rw [← hW]
        clear hW
        refine HF.out.mono ?_
        rintro e w' ⟨rfl, rfl⟩
        have f0 := HX.out.free 0
        have f1 := HX.out.free 1
        have f2 := HX.out.free 2
        have x0 := HX.out.cell 0 _ rfl
        have x1 := HX.out.cell 1 _ rfl
        have x2 := HX.out.cell 2 _ rfl
        obtain ⟨p0, p1, p2⟩ := HP.out
        clear HF
        go_wp2
        exact bodyPost_ret (v := seekW (some z)) (results_ct (p := 6) (u := 7) rfl _ _ _ TE _ (0, 0) _ rfl (seekSomeE _ _ z HX.out).out Try.underlying33 rfl (by kernel_rfl)) rfl ⟨rfl, set3 HB.out _ (Nat.le_refl _) _ _ _⟩
      · have HK := Aside0.mk hk
        rcases List.eq_nil_or_concat lo with hlo0 | ⟨lo', y, hlo0⟩
        · have HL0 := Aside0.mk hlo0
          obtain ⟨b, o, x, rfl, hx, p0, p1, p2⟩ := kE_at HC.out lo.length (by simp only [List.length_cons] at hll; omega)
          rw [List.getElem?_append_right (Nat.le_refl _), Nat.sub_self, List.getElem?_cons_zero] at hx
          injection hx with hx
          subst hx
          have HP := Aside0.mk (And.intro p0 (And.intro p1 p2))
          clear p0 p1 p2
          have c1 : ((lo.length : Int) == (n : Int)) = false := beq_eq_false_iff_ne.2 (by simp only [List.length_cons] at hll; omega)
          have c2 : ((lo.length : Int) = (n : Int)) = False := eq_false (by simp only [List.length_cons] at hll; omega)
          have c3 : (lo.length = n) = False := eq_false (by simp only [List.length_cons] at hll; omega)
          have c4 : (lo.length == n) = false := beq_eq_false_iff_ne.2 (by simp only [List.length_cons] at hll; omega)
          have i3 : (lo.length : Int) < (n : Int) := by simp only [List.length_cons] at hll; omega
          have k1 : (z.k.toList == key.toList) = false := by rw [beq_key]; exact decide_eq_false hk
          have k2 : (z.k.toList != key.toList) = true := by unfold bne; rw [k1]; rfl
          have i1 : IntKind.i64.wrap ((lo.length : Int) - 1) = -1 := by subst hlo0; rfl
          have d1 : decide ((-1 : Int) < 0) = true := rfl
          clear hll hLn hk
          have HR : Aside0 (seekER lo (z :: t) key true = none) := ⟨by unfold seekER; rw [cond_true]; simp only; rw [if_neg HK.out, HL0.out]; simp⟩
          clear hlo0
          rw [HR.out]
          clear HL0
          clear HLl HLn HC
          generalize lo.length = p at *
          go_enter Try.func31, Try.ntmps31
          go_wp2_with fail
          rw [← hW]
          clear hW
          refine HF.out.mono ?_
          rintro e w' ⟨rfl, rfl⟩
          have f0 := HX.out.free 0
          have f1 := HX.out.free 1
          have f2 := HX.out.free 2
          have x0 := HX.out.cell 0 _ rfl
          have x1 := HX.out.cell 1 _ rfl
          have x2 := HX.out.cell 2 _ rfl
          obtain ⟨p0, p1, p2⟩ := HP.out
          clear HF
          go_wp2
          exact bodyPost_ret (v := seekW (none)) (results_ct (p := 6) (u := 7) rfl _ _ _ TE _ (0, 0) _ rfl (seekZero _ _ HX.out).out Try.underlying33 rfl (by kernel_rfl)) rfl ⟨rfl, set3 HB.out _ (Nat.le_refl _) _ _ _⟩
        · rw [List.concat_eq_append] at hlo0
          have HL0 := Aside0.mk hlo0
          obtain ⟨b, o, x, rfl, hx, p0, p1, p2⟩ := kE_at HC.out lo.length (by simp only [List.length_cons] at hll; omega)
          rw [List.getElem?_append_right (Nat.le_refl _), Nat.sub_self, List.getElem?_cons_zero] at hx
          injection hx with hx
          subst hx
          have HP := Aside0.mk (And.intro p0 (And.intro p1 p2))
          clear p0 p1 p2
          have hl0 : lo.length = lo'.length + 1 := by rw [hlo0, List.length_append, List.length_singleton]
          rw [hlo0] at HC
          obtain ⟨b', o', y, e', hy, q0, q1, q2⟩ := kE_at HC.out lo'.length (by omega)
          injection e' with e'
          injection e' with e1 e2
          subst e1 e2
          rw [List.append_assoc, List.getElem?_append_right (Nat.le_refl _), Nat.sub_self, List.singleton_append, List.getElem?_cons_zero] at hy
          injection hy with hy
          subst hy
          have HQ := Aside0.mk (And.intro q0 (And.intro q1 q2))
          clear q0 q1 q2
          have c1 : ((lo.length : Int) == (n : Int)) = false := beq_eq_false_iff_ne.2 (by simp only [List.length_cons] at hll; omega)
          have c2 : ((lo.length : Int) = (n : Int)) = False := eq_false (by simp only [List.length_cons] at hll; omega)
          have c3 : (lo.length = n) = False := eq_false (by simp only [List.length_cons] at hll; omega)
          have c4 : (lo.length == n) = false := beq_eq_false_iff_ne.2 (by simp only [List.length_cons] at hll; omega)
          have i3 : (lo.length : Int) < (n : Int) := by simp only [List.length_cons] at hll; omega
          have k1 : (z.k.toList == key.toList) = false := by rw [beq_key]; exact decide_eq_false hk
          have k2 : (z.k.toList != key.toList) = true := by unfold bne; rw [k1]; rfl
          have i1 : IntKind.i64.wrap ((lo.length : Int) - 1) = (lo'.length : Int) := by rw [hl0, show ((lo'.length + 1 : Nat) : Int) - 1 = (lo'.length : Int) by omega]; exact IntWalk.i64_in _ (by omega)
          have d1 : decide ((lo'.length : Int) < 0) = false := decide_eq_false (by omega)
          have d2 : decide ((n : Int) ≤ (lo'.length : Int)) = false := decide_eq_false (by omega)
          have i4 : (lo'.length : Int) < (n : Int) := by omega
          clear hl0
          clear hll hLn hk
          have HR : Aside0 (seekER lo (z :: t) key true = some y) := ⟨by unfold seekER; rw [cond_true]; simp only; rw [if_neg HK.out, HL0.out]; simp⟩
          clear hlo0
          rw [HR.out]
          clear HL0
          clear HLl HLn HC
          generalize lo.length = p at *
          go_enter Try.func31, Try.ntmps31
          go_wp2_with fail
          rw [← hW]
          clear hW
          refine HF.out.mono ?_
          rintro e w' ⟨rfl, rfl⟩
          have f0 := HX.out.free 0
          have f1 := HX.out.free 1
          have f2 := HX.out.free 2
          have x0 := HX.out.cell 0 _ rfl
          have x1 := HX.out.cell 1 _ rfl
          have x2 := HX.out.cell 2 _ rfl
          obtain ⟨p0, p1, p2⟩ := HP.out
          obtain ⟨q0, q1, q2⟩ := HQ.out
          clear HF
          go_wp2
          exact bodyPost_ret (v := seekW (some y)) (results_ct (p := 6) (u := 7) rfl _ _ _ TE _ (0, 0) _ rfl (seekSomeE _ _ y HX.out).out Try.underlying33 rfl (by kernel_rfl)) rfl ⟨rfl, set3 HB.out _ (Nat.le_refl _) _ _ _⟩
end Go.Proofs.Ytnpjppnahfehnaa.Skip
/- The document's answer for layer 12 (vellumref12): Scan; what Put, Delete refuse. -/
namespace Go.Proofs.Ytnpjppnahfehnaa.Skip
set_option linter.unusedVariables false
set_option linter.unusedSimpArgs false
open Go.RowKit Go.Proofs.YtnpjppnahfehnaaW.PrintWords Go.Proofs.Ytnpjppnahfehnaa.Kit Go.MuLone

def turnE (back : Bool) (es : List En) : List En := cond back es.reverse es
def midE (es : List En) (rlo rhi : ByteArray) (opn back : Bool) (i : Nat) : List En := ((turnE back es).take i).filter (fun x => inR rlo rhi opn x.k)
theorem turnE_len (back : Bool) (es : List En) : (turnE back es).length = es.length := by cases back <;> simp [turnE]
theorem turnE_at (back : Bool) (es : List En) (i : Nat) (h : i < es.length) : (turnE back es)[i]? = es[cond back (es.length - 1 - i) i]? := by
  cases back with
  | false => rfl
  | true => simp only [turnE, cond_true]; rw [List.getElem?_reverse h]
theorem midE_hit (es : List En) (rlo rhi : ByteArray) (opn back : Bool) (i : Nat) (x : En) (h : i < es.length) (hx : (turnE back es)[i]? = some x) (hr : inR rlo rhi opn x.k = true) : midE es rlo rhi opn back (i + 1) = midE es rlo rhi opn back i ++ [x] := by
  obtain ⟨hi, e⟩ := List.getElem?_eq_some_iff.1 hx
  unfold midE
  rw [List.take_succ_eq_append_getElem hi, List.filter_append, e, List.filter_cons_of_pos (by simpa using hr)]
  rfl
theorem midE_miss (es : List En) (rlo rhi : ByteArray) (opn back : Bool) (i : Nat) (x : En) (h : i < es.length) (hx : (turnE back es)[i]? = some x) (hr : inR rlo rhi opn x.k = false) : midE es rlo rhi opn back (i + 1) = midE es rlo rhi opn back i := by
  obtain ⟨hi, e⟩ := List.getElem?_eq_some_iff.1 hx
  unfold midE
  rw [List.take_succ_eq_append_getElem hi, List.filter_append, e, List.filter_cons_of_neg (by simp [hr]), List.filter_nil, List.append_nil]
theorem pick_turn (es : List En) (rlo rhi : ByteArray) (opn back : Bool) (most : Int) : pick es rlo rhi opn back most = ((turnE back es).filter (fun x => inR rlo rhi opn x.k)).take most.toNat := by
  unfold pick mid turnE
  cases back with
  | false => rfl
  | true => simp only [cond_true, List.filter_reverse]
/-- Behind the loop: all has been looked at, or there are enough. -/
theorem midE_end (es : List En) (rlo rhi : ByteArray) (opn back : Bool) (most : Int) (i : Nat) (hle : (midE es rlo rhi opn back i).length ≤ most.toNat) (h : i = es.length ∨ most ≤ (midE es rlo rhi opn back i).length) : midE es rlo rhi opn back i = pick es rlo rhi opn back most := by
  rw [pick_turn]
  rcases h with rfl | h
  · have : midE es rlo rhi opn back es.length = (turnE back es).filter (fun x => inR rlo rhi opn x.k) := by
      unfold midE
      rw [List.take_of_length_le (by rw [turnE_len]; exact Nat.le_refl _)]
    rw [this] at hle ⊢
    rw [List.take_of_length_le hle]
  · have e : (turnE back es).filter (fun x => inR rlo rhi opn x.k) = midE es rlo rhi opn back i ++ ((turnE back es).drop i).filter (fun x => inR rlo rhi opn x.k) := by
      unfold midE
      rw [← List.filter_append, List.take_append_drop]
    rw [e, List.take_append_of_le_length (by omega), List.take_of_length_le (by omega)]

set_option maxRecDepth 100000 in
set_option maxHeartbeats 8000000 in
theorem refScanCalls (A : Option Addr) (c : Nat) (es : List En) (rlo rhi : ByteArray) (opn back : Bool) (most : Int) (w : World) (hC : kE.C w A es.length es) (hlen : es.length ≤ 3518437208780) :
    Calls Try.prog 33 #[.slice A es.length c, .agg #[.string rlo, .string rhi, .bool opn], .bool back, .int .i64 most] w fun e w' => ∃ v, e = .returned v ∧ MR w' w.heap.size v (pick es rlo rhi opn back most) ∧ Below w.heap.size w w' := by
  have hz := zeroE
  obtain ⟨W, hW⟩ : ∃ W, W = w.alloc (.cells #[.string rlo, .string rhi, .bool opn] TRg) := ⟨_, rfl⟩
  have hb : Below w.heap.size w W := by rw [hW]; exact (Below.refl _ _).alloc (Nat.le_refl _) _
  have HX : Aside0 (Blk W w.heap.size [.string rlo, .string rhi, .bool opn] TRg) := ⟨by rw [hW]; exact Blk.newA w _ _⟩
  have HB := Aside0.mk hb
  have HC := Aside0.mk (Kd.C_below hC hb)
  have HLn := Aside0.mk hlen
  obtain ⟨n, hn⟩ : ∃ n, n = es.length := ⟨_, rfl⟩
  rw [← hn] at HC ⊢
  have HN := Aside0.mk hn
  clear hC hb hlen hn
  go_enter Try.func33, Try.ntmps33
  go_wp2_with fail
  rw [← hW]
  clear hW
  have HR0 : Aside0 (MR W W.heap.size (.slice none 0 0) (midE es rlo rhi opn back 0)) := ⟨by unfold midE; rw [List.take_zero, List.filter_nil]; exact Kd.R_nil _ _ _ _ _⟩
  go_loopw [9, 10] (fun o v wz => ∃ i : Nat, i ≤ n ∧ v = .int .i64 i ∧ Aside0 (MR wz W.heap.size o (midE es rlo rhi opn back i)) ∧ Aside0 ((midE es rlo rhi opn back i).length ≤ most.toNat) ∧ Aside0 (Below W.heap.size W wz)) (fun _ v _ => n - (intOf v).toNat)
  case atStart => exact ⟨0, Nat.zero_le _, rfl, HR0, ⟨by unfold midE; simp⟩, ⟨Below.refl _ _⟩⟩
  case round =>
    clear HR0
    obtain ⟨i, hi, rfl, HR, HM, HBz⟩ := hrel
    obtain ⟨A3, c3, e3⟩ := Kd.R_slice HR.out
    subst e3
    have HXz := Aside0.mk (HX.out.belowSize HBz.out)
    have HCz := Aside0.mk (Kd.C_below HC.out HBz.out)
    have q0 := HXz.out.cell 0 _ rfl
    have q1 := HXz.out.cell 1 _ rfl
    have q2 := HXz.out.cell 2 _ rfl
    have HBw := Aside0.mk (HB.out.trans (HBz.out.mono HB.out.size))
    have HI' : Aside0 (n = es.length) := HN
    by_cases hlt : i < n
    · have HI : Aside0 (i < es.length) := ⟨by rw [← HN.out]; exact hlt⟩
      by_cases hmo : ((midE es rlo rhi opn back i).length : Int) < most
      · have i1 : (i : Int) < (n : Int) := by omega
        have HMo := Aside0.mk hmo
        have HLL : Aside0 ((midE es rlo rhi opn back i).length ≤ 3518437208780) := ⟨by
          have h1 := HLn.out
          have h2 : (midE es rlo rhi opn back i).length ≤ es.length := by
            unfold midE
            refine Nat.le_trans (List.length_filter_le _ _) ?_
            rw [List.length_take, turnE_len]
            omega
          omega⟩
        obtain ⟨b, o, x0, rfl, hx0, p0, p1, p2⟩ := kE_at HCz.out i hlt
        have hn2 := HLn.out
        rw [← HN.out] at hn2
        have i2 : IntKind.i64.wrap ((i : Int) + 1) = ((i + 1 : Nat) : Int) := IntWalk.i64_in _ (by omega)
        cases back with
        | false =>
          have HX0 : Aside0 ((turnE false es)[i]? = some x0) := ⟨hx0⟩
          clear hx0
          go_upto_region 8 with (fail)
          clear p0 p1 p2 q0 q1 q2 hmo i1
          have hb2 : Below wr.heap.size wr (wr.alloc (.cells #[.string x0.k, .int .i64 x0.v, .int .i64 x0.h] TE)) := (Below.refl _ _).alloc (Nat.le_refl _) _
          have HE2 : Aside0 (Blk (wr.alloc (.cells #[.string x0.k, .int .i64 x0.v, .int .i64 x0.h] TE)) wr.heap.size [.string x0.k, .int .i64 x0.v, .int .i64 x0.h] TE) := ⟨Blk.newA wr _ _⟩
          generalize wr.alloc (.cells #[.string x0.k, .int .i64 x0.v, .int .i64 x0.h] TE) = W2 at *
          generalize x0 = x at *
          have HR2 := Aside0.mk (Kd.R_below HR.out hb2)
          have HB2 := Aside0.mk (HBz.out.trans (hb2.mono HBz.out.size))
          have HXc := Aside0.mk (HXz.out.belowSize hb2)
          have r0 := HXc.out.cell 0 _ rfl
          have r1 := HXc.out.cell 1 _ rfl
          have r2 := HXc.out.cell 2 _ rfl
          have y0 := HE2.out.cell 0 _ rfl
          have y1 := HE2.out.cell 1 _ rfl
          have y2 := HE2.out.cell 2 _ rfl
          clear hb2 HR HBz HXz HXc
          cases hlo : ltB x.k rlo with
          | true =>
            have hlo' : Op.bytesLess x.k.toList rlo.toList = true := hlo
            have HT := Aside0.mk (midE_miss es rlo rhi opn false i x HI.out HX0.out (by unfold inR; rw [hlo]; rfl))
            have HO6 : Aside0 (MR W2 W.heap.size (.slice A3 (midE es rlo rhi opn false i).length c3) (midE es rlo rhi opn false (i + 1))) := ⟨by rw [HT.out]; exact HR2.out⟩
            have HM6 : Aside0 ((midE es rlo rhi opn false (i + 1)).length ≤ most.toNat) := ⟨by rw [HT.out]; exact HM.out⟩
            go_wp2
            go_roundw
            case rel => exact ⟨i + 1, by omega, by go_num, HO6, HM6, HB2⟩
            case measure => simp [intOf]; omega
          | false =>
            have hlo' : Op.bytesLess x.k.toList rlo.toList = false := hlo
            cases opn with
            | true =>
              have HT := Aside0.mk (midE_hit es rlo rhi true false i x HI.out HX0.out (by unfold inR; rw [hlo]; rfl))
              generalize midE es rlo rhi true false i = L at *
              go_upto_region 9 with (fail)
              iterate 10 go_step
              refine Kd.R_append kE (w0 := W) W.heap.size rfl (.tmp 53) (.tmp 55) TEs TE (.agg #[.string ByteArray.empty, .int .i64 0, .int .i64 0]) 32 rfl Try.underlying29 infoE rfl kE_pos (by omega) (.slice A3 L.length c3) L x [.string x.k, .int .i64 x.v, .int .i64 x.h] (fun _ => True) (fun _ => False) rfl rfl ?aP (fun _ hk => hk.elim) ?aF ?aO ?aB ?aS ?aL ?_
              (case aP => exact kE_mkM _ _ _ x)
              (case aF => exact fun _ _ => trivial)
              (case aO => exact HR2.out)
              (case aB => exact HB2.out)
              (case aS => exact HB2.out.size)
              (case aL => have := HLL.out; omega)
              intro v6 w6 ho6 hb6 hg6 hat6
              have HO6 : Aside0 (MR w6 W.heap.size v6 (midE es rlo rhi true false (i + 1))) := ⟨by rw [HT.out]; exact ho6⟩
              have HB6 := Aside0.mk hb6
              have HM6 : Aside0 ((midE es rlo rhi true false (i + 1)).length ≤ most.toNat) := ⟨by rw [HT.out, List.length_append, List.length_singleton]; have := HMo.out; omega⟩
              clear ho6 hb6 hg6 hat6 HR2 HB2 y0 y1 y2 r0 r1 r2 HE2 hlo hlo'
              go_wp2
              go_roundw
              case rel => exact ⟨i + 1, by omega, by go_num, HO6, HM6, HB6⟩
              case measure => simp [intOf]; omega
            | false =>
              cases hhi : ltB x.k rhi with
              | true =>
                have hhi' : Op.bytesLess x.k.toList rhi.toList = true := hhi
                have HT := Aside0.mk (midE_hit es rlo rhi false false i x HI.out HX0.out (by unfold inR; rw [hlo, hhi]; rfl))
                generalize midE es rlo rhi false false i = L at *
                go_upto_region 9 with (fail)
                iterate 10 go_step
                refine Kd.R_append kE (w0 := W) W.heap.size rfl (.tmp 53) (.tmp 55) TEs TE (.agg #[.string ByteArray.empty, .int .i64 0, .int .i64 0]) 32 rfl Try.underlying29 infoE rfl kE_pos (by omega) (.slice A3 L.length c3) L x [.string x.k, .int .i64 x.v, .int .i64 x.h] (fun _ => True) (fun _ => False) rfl rfl ?aP (fun _ hk => hk.elim) ?aF ?aO ?aB ?aS ?aL ?_
                (case aP => exact kE_mkM _ _ _ x)
                (case aF => exact fun _ _ => trivial)
                (case aO => exact HR2.out)
                (case aB => exact HB2.out)
                (case aS => exact HB2.out.size)
                (case aL => have := HLL.out; omega)
                intro v6 w6 ho6 hb6 hg6 hat6
                have HO6 : Aside0 (MR w6 W.heap.size v6 (midE es rlo rhi false false (i + 1))) := ⟨by rw [HT.out]; exact ho6⟩
                have HB6 := Aside0.mk hb6
                have HM6 : Aside0 ((midE es rlo rhi false false (i + 1)).length ≤ most.toNat) := ⟨by rw [HT.out, List.length_append, List.length_singleton]; have := HMo.out; omega⟩
                clear ho6 hb6 hg6 hat6 HR2 HB2 y0 y1 y2 r0 r1 r2 HE2 hlo hhi hlo' hhi'
                go_wp2
                go_roundw
                case rel => exact ⟨i + 1, by omega, by go_num, HO6, HM6, HB6⟩
                case measure => simp [intOf]; omega
              | false =>
                have hhi' : Op.bytesLess x.k.toList rhi.toList = false := hhi
                have HT := Aside0.mk (midE_miss es rlo rhi false false i x HI.out HX0.out (by unfold inR; rw [hlo, hhi]; rfl))
                have HO6 : Aside0 (MR W2 W.heap.size (.slice A3 (midE es rlo rhi false false i).length c3) (midE es rlo rhi false false (i + 1))) := ⟨by rw [HT.out]; exact HR2.out⟩
                have HM6 : Aside0 ((midE es rlo rhi false false (i + 1)).length ≤ most.toNat) := ⟨by rw [HT.out]; exact HM.out⟩
                go_wp2
                go_roundw
                case rel => exact ⟨i + 1, by omega, by go_num, HO6, HM6, HB2⟩
                case measure => simp [intOf]; omega
        | true =>
          obtain ⟨b', o', x, e', hx, t0, t1, t2⟩ := kE_at HCz.out (n - 1 - i) (by omega)
          injection e' with e'
          injection e' with e1 e2
          subst e1 e2
          have HX0 : Aside0 ((turnE true es)[i]? = some x) := ⟨by rw [turnE_at true es i HI.out, cond_true, ← HN.out]; exact hx⟩
          have i3 : IntKind.i64.wrap ((n : Int) - 1) = (n : Int) - 1 := IntWalk.i64_in _ (by omega)
          have i4 : IntKind.i64.wrap ((n : Int) - 1 - (i : Int)) = ((n - 1 - i : Nat) : Int) := by rw [show (n : Int) - 1 - (i : Int) = ((n - 1 - i : Nat) : Int) by omega]; exact IntWalk.i64_in _ (by omega)
          have i5 : ((n - 1 - i : Nat) : Int) < (n : Int) := by omega
          have i6 : (0 : Int) ≤ ((n - 1 - i : Nat) : Int) := by omega
          generalize n - 1 - i = j at *
          have HT3 := Aside0.mk (And.intro t0 (And.intro t1 t2))
          clear hx hx0 t0 t1 t2
          go_upto_region 7 with (fail)
          have hb1 : Below wr.heap.size wr (wr.alloc (.cells #[.string x0.k, .int .i64 x0.v, .int .i64 x0.h] TE)) := (Below.refl _ _).alloc (Nat.le_refl _) _
          have HE1 : Aside0 (Blk (wr.alloc (.cells #[.string x0.k, .int .i64 x0.v, .int .i64 x0.h] TE)) wr.heap.size [.string x0.k, .int .i64 x0.v, .int .i64 x0.h] TE) := ⟨Blk.newA wr _ _⟩
          clear p0 p1 p2 q0 q1 q2 hmo i1
          generalize wr.alloc (.cells #[.string x0.k, .int .i64 x0.v, .int .i64 x0.h] TE) = W1 at *
          have t0 := cellB hb1 HT3.out.1
          have t1 := cellB hb1 HT3.out.2.1
          have t2 := cellB hb1 HT3.out.2.2
          have f0 := HE1.out.free 0
          have f1 := HE1.out.free 1
          have f2 := HE1.out.free 2
          have z0 := HE1.out.cell 0 _ rfl
          have z1 := HE1.out.cell 1 _ rfl
          have z2 := HE1.out.cell 2 _ rfl
          have HB1 := Aside0.mk hb1
          clear hb1
          go_upto_region 8 with (fail)
          clear f0 f1 f2 z0 z1 z2 t0 t1 t2 i3 i4 i5 i6 HT3
          have HE2 : Aside0 (Blk (((W1.setCell ⟨wr.heap.size, 0, none⟩ (.string x.k)).setCell ⟨wr.heap.size, 1, none⟩ (.int .i64 x.v)).setCell ⟨wr.heap.size, 2, none⟩ (.int .i64 x.h)) wr.heap.size [.string x.k, .int .i64 x.v, .int .i64 x.h] TE) := ⟨((HE1.out.put 0 (.string x.k)).put 1 (.int .i64 x.v)).put 2 (.int .i64 x.h)⟩
          have hb2 : Below wr.heap.size wr (((W1.setCell ⟨wr.heap.size, 0, none⟩ (.string x.k)).setCell ⟨wr.heap.size, 1, none⟩ (.int .i64 x.v)).setCell ⟨wr.heap.size, 2, none⟩ (.int .i64 x.h)) := set3 HB1.out _ (Nat.le_refl _) _ _ _
          clear HE1 HB1
          generalize (((W1.setCell ⟨wr.heap.size, 0, none⟩ (.string x.k)).setCell ⟨wr.heap.size, 1, none⟩ (.int .i64 x.v)).setCell ⟨wr.heap.size, 2, none⟩ (.int .i64 x.h)) = W2 at *
          have HR2 := Aside0.mk (Kd.R_below HR.out hb2)
          have HB2 := Aside0.mk (HBz.out.trans (hb2.mono HBz.out.size))
          have HXc := Aside0.mk (HXz.out.belowSize hb2)
          have r0 := HXc.out.cell 0 _ rfl
          have r1 := HXc.out.cell 1 _ rfl
          have r2 := HXc.out.cell 2 _ rfl
          have y0 := HE2.out.cell 0 _ rfl
          have y1 := HE2.out.cell 1 _ rfl
          have y2 := HE2.out.cell 2 _ rfl
          clear hb2 HR HBz HXz HXc
          cases hlo : ltB x.k rlo with
          | true =>
            have hlo' : Op.bytesLess x.k.toList rlo.toList = true := hlo
            have HT := Aside0.mk (midE_miss es rlo rhi opn true i x HI.out HX0.out (by unfold inR; rw [hlo]; rfl))
            have HO6 : Aside0 (MR W2 W.heap.size (.slice A3 (midE es rlo rhi opn true i).length c3) (midE es rlo rhi opn true (i + 1))) := ⟨by rw [HT.out]; exact HR2.out⟩
            have HM6 : Aside0 ((midE es rlo rhi opn true (i + 1)).length ≤ most.toNat) := ⟨by rw [HT.out]; exact HM.out⟩
            go_wp2
            go_roundw
            case rel => exact ⟨i + 1, by omega, by go_num, HO6, HM6, HB2⟩
            case measure => simp [intOf]; omega
          | false =>
            have hlo' : Op.bytesLess x.k.toList rlo.toList = false := hlo
            cases opn with
            | true =>
              have HT := Aside0.mk (midE_hit es rlo rhi true true i x HI.out HX0.out (by unfold inR; rw [hlo]; rfl))
              generalize midE es rlo rhi true true i = L at *
              go_upto_region 9 with (fail)
              iterate 10 go_step
              refine Kd.R_append kE (w0 := W) W.heap.size rfl (.tmp 53) (.tmp 55) TEs TE (.agg #[.string ByteArray.empty, .int .i64 0, .int .i64 0]) 32 rfl Try.underlying29 infoE rfl kE_pos (by omega) (.slice A3 L.length c3) L x [.string x.k, .int .i64 x.v, .int .i64 x.h] (fun _ => True) (fun _ => False) rfl rfl ?aP (fun _ hk => hk.elim) ?aF ?aO ?aB ?aS ?aL ?_
              (case aP => exact kE_mkM _ _ _ x)
              (case aF => exact fun _ _ => trivial)
              (case aO => exact HR2.out)
              (case aB => exact HB2.out)
              (case aS => exact HB2.out.size)
              (case aL => have := HLL.out; omega)
              intro v6 w6 ho6 hb6 hg6 hat6
              have HO6 : Aside0 (MR w6 W.heap.size v6 (midE es rlo rhi true true (i + 1))) := ⟨by rw [HT.out]; exact ho6⟩
              have HB6 := Aside0.mk hb6
              have HM6 : Aside0 ((midE es rlo rhi true true (i + 1)).length ≤ most.toNat) := ⟨by rw [HT.out, List.length_append, List.length_singleton]; have := HMo.out; omega⟩
              clear ho6 hb6 hg6 hat6 HR2 HB2 y0 y1 y2 r0 r1 r2 HE2 hlo hlo'
              go_wp2
              go_roundw
              case rel => exact ⟨i + 1, by omega, by go_num, HO6, HM6, HB6⟩
              case measure => simp [intOf]; omega
            | false =>
              cases hhi : ltB x.k rhi with
              | true =>
                have hhi' : Op.bytesLess x.k.toList rhi.toList = true := hhi
                have HT := Aside0.mk (midE_hit es rlo rhi false true i x HI.out HX0.out (by unfold inR; rw [hlo, hhi]; rfl))
                generalize midE es rlo rhi false true i = L at *
                go_upto_region 9 with (fail)
                iterate 10 go_step
                refine Kd.R_append kE (w0 := W) W.heap.size rfl (.tmp 53) (.tmp 55) TEs TE (.agg #[.string ByteArray.empty, .int .i64 0, .int .i64 0]) 32 rfl Try.underlying29 infoE rfl kE_pos (by omega) (.slice A3 L.length c3) L x [.string x.k, .int .i64 x.v, .int .i64 x.h] (fun _ => True) (fun _ => False) rfl rfl ?aP (fun _ hk => hk.elim) ?aF ?aO ?aB ?aS ?aL ?_
                (case aP => exact kE_mkM _ _ _ x)
                (case aF => exact fun _ _ => trivial)
                (case aO => exact HR2.out)
                (case aB => exact HB2.out)
                (case aS => exact HB2.out.size)
                (case aL => have := HLL.out; omega)
                intro v6 w6 ho6 hb6 hg6 hat6
                have HO6 : Aside0 (MR w6 W.heap.size v6 (midE es rlo rhi false true (i + 1))) := ⟨by rw [HT.out]; exact ho6⟩
                have HB6 := Aside0.mk hb6
                have HM6 : Aside0 ((midE es rlo rhi false true (i + 1)).length ≤ most.toNat) := ⟨by rw [HT.out, List.length_append, List.length_singleton]; have := HMo.out; omega⟩
                clear ho6 hb6 hg6 hat6 HR2 HB2 y0 y1 y2 r0 r1 r2 HE2 hlo hhi hlo' hhi'
                go_wp2
                go_roundw
                case rel => exact ⟨i + 1, by omega, by go_num, HO6, HM6, HB6⟩
                case measure => simp [intOf]; omega
              | false =>
                have hhi' : Op.bytesLess x.k.toList rhi.toList = false := hhi
                have HT := Aside0.mk (midE_miss es rlo rhi false true i x HI.out HX0.out (by unfold inR; rw [hlo, hhi]; rfl))
                have HO6 : Aside0 (MR W2 W.heap.size (.slice A3 (midE es rlo rhi false true i).length c3) (midE es rlo rhi false true (i + 1))) := ⟨by rw [HT.out]; exact HR2.out⟩
                have HM6 : Aside0 ((midE es rlo rhi false true (i + 1)).length ≤ most.toNat) := ⟨by rw [HT.out]; exact HM.out⟩
                go_wp2
                go_roundw
                case rel => exact ⟨i + 1, by omega, by go_num, HO6, HM6, HB2⟩
                case measure => simp [intOf]; omega
      · have HE : Aside0 (midE es rlo rhi opn back i = pick es rlo rhi opn back most) := ⟨midE_end es rlo rhi opn back most i HM.out (Or.inr (by omega))⟩
        have HV : Aside0 (MR wr w.heap.size (.slice A3 (midE es rlo rhi opn back i).length c3) (pick es rlo rhi opn back most)) := ⟨by rw [← HE.out]; exact Kd.R_lower HR.out HB.out.size⟩
        have i1 : (i : Int) < (n : Int) := by omega
        go_wp2
        go_ret
        exact ⟨_, rfl, HV.out, HBw.out⟩
    · obtain rfl : i = n := by omega
      have HE : Aside0 (midE es rlo rhi opn back i = pick es rlo rhi opn back most) := ⟨midE_end es rlo rhi opn back most i HM.out (Or.inl HN.out)⟩
      have HV : Aside0 (MR wr w.heap.size (.slice A3 (midE es rlo rhi opn back i).length c3) (pick es rlo rhi opn back most)) := ⟨by rw [← HE.out]; exact Kd.R_lower HR.out HB.out.size⟩
      clear hi
      go_wp2
      go_ret
      exact ⟨_, rfl, HV.out, HBw.out⟩
end Go.Proofs.Ytnpjppnahfehnaa.Skip
