/- Layer 12's list that New did not give; the walk of the law SkipNobody. -/
import Derived.Test.YtnpjppnahfehnaaSkipK
import Derived.Test.YtnpjppnahfehnaaSkipFG
import Derived.Test.YtnpjppnahfehnaaSkipJD
import Derived.Test.YtnpjppnahfehnaaOpen
namespace Go.Proofs.Ytnpjppnahfehnaa.Skip
set_option linter.unusedVariables false
set_option linter.unusedSimpArgs false
open Go.RowKit Go.Proofs.YtnpjppnahfehnaaW.PrintWords Go.Proofs.Ytnpjppnahfehnaa.Kit Go.MuLone

/-- Nobody's list: is says so, in every world behind one. -/
def NoL (w : World) (r : Value) : Prop := ∀ W, Below w.heap.size w W → Calls Try.prog 21 #[r] W fun e w' => e = .returned (.bool false) ∧ W = w'
theorem NoL.on {w W : World} {r : Value} (h : NoL w r) (hb : Below w.heap.size w W) : NoL W r := fun V hV => h V (hb.trans (hV.mono hb.size))
theorem noNil (w : World) : NoL w (.pointer none) := fun W _ => by
  go_enter Try.func21, Try.ntmps21
  go_wp2
  go_ret
  exact ⟨rfl, rfl⟩
theorem noZero (w : World) (g : Nat) (h : w.cell? ⟨g, 0, none⟩ = some (.bool false)) : NoL w (.pointer (some ⟨g, 0, none⟩)) := fun W hb => by
  have h0 := pw_cell_below hb h
  clear h hb
  go_enter Try.func21, Try.ntmps21
  go_wp2
  go_ret
  exact ⟨rfl, rfl⟩
theorem noPut (r : Value) (key : ByteArray) (v ht : Int) (w : World) (h : NoL w r) :
    Calls Try.prog 18 #[r, .string key, .int .i64 v, .int .i64 ht] w fun e w' => e = .returned (.tuple #[.int .i64 0, .bool false, .int .i64 1]) ∧ w = w' := by
  have HI := Aside0.mk (h w (Below.refl _ _))
  clear h
  go_enter_defers Try.func18, Try.ntmps18
  go_wp2_with fail
  refine HI.out.mono ?_
  rintro e w' ⟨rfl, rfl⟩
  go_wp2_with fail
  exact ⟨_, results_tmp3 rfl _ _ _, rfl, rfl⟩
theorem noDelete (r : Value) (key : ByteArray) (w : World) (h : NoL w r) :
    Calls Try.prog 19 #[r, .string key] w fun e w' => e = .returned (.tuple #[.int .i64 0, .bool false]) ∧ w = w' := by
  have HI := Aside0.mk (h w (Below.refl _ _))
  clear h
  go_enter_defers Try.func19, Try.ntmps19
  go_wp2_with fail
  refine HI.out.mono ?_
  rintro e w' ⟨rfl, rfl⟩
  go_wp2_with fail
  exact ⟨_, results_tmp2 rfl _ _ _, rfl, rfl⟩
theorem noGet (r : Value) (key : ByteArray) (w : World) (h : NoL w r) :
    Calls Try.prog 20 #[r, .string key] w fun e w' => e = .returned (.tuple #[.int .i64 0, .bool false]) ∧ w = w' := by
  have HI := Aside0.mk (h w (Below.refl _ _))
  clear h
  go_enter Try.func20, Try.ntmps20
  go_wp2_with fail
  refine HI.out.mono ?_
  rintro e w' ⟨rfl, rfl⟩
  go_wp2
  go_ret2
  exact ⟨rfl, rfl⟩
theorem noLen (r : Value)  (w : World) (h : NoL w r) :
    Calls Try.prog 9 #[r] w fun e w' => e = .returned (.int .i64 0) ∧ w = w' := by
  have HI := Aside0.mk (h w (Below.refl _ _))
  clear h
  go_enter Try.func9, Try.ntmps9
  go_wp2_with fail
  refine HI.out.mono ?_
  rintro e w' ⟨rfl, rfl⟩
  go_wp2
  go_ret
  exact ⟨rfl, rfl⟩
theorem noLevels (r : Value)  (w : World) (h : NoL w r) :
    Calls Try.prog 12 #[r] w fun e w' => e = .returned (.slice none 0 0) ∧ w = w' := by
  have HI := Aside0.mk (h w (Below.refl _ _))
  clear h
  go_enter Try.func12, Try.ntmps12
  go_wp2_with fail
  refine HI.out.mono ?_
  rintro e w' ⟨rfl, rfl⟩
  go_wp2
  go_ret
  exact ⟨rfl, rfl⟩
theorem noSeek (r : Value) (key : ByteArray) (back : Bool) (w : World) (h : NoL w r) :
    Calls Try.prog 10 #[r, .string key, .bool back] w fun e w' => e = .returned (.tuple #[zE, .bool false]) ∧ Below w.heap.size w w' := by
  have hz := zeroE
  obtain ⟨W, hW⟩ : ∃ W, W = w.alloc (.cells #[.string ByteArray.empty, .int .i64 0, .int .i64 0] TE) := ⟨_, rfl⟩
  have hb : Below w.heap.size w W := by rw [hW]; exact (Below.refl _ _).alloc (Nat.le_refl _) _
  have HX : Aside0 (Blk W w.heap.size [.string ByteArray.empty, .int .i64 0, .int .i64 0] TE) := ⟨by rw [hW]; exact Blk.newA w _ _⟩
  have HB := Aside0.mk hb
  have HI := Aside0.mk (h W hb)
  clear h hb
  go_enter Try.func10, Try.ntmps10
  go_wp2_with fail
  rw [← hW]
  clear hW
  refine HI.out.mono ?_
  rintro e w' ⟨rfl, rfl⟩
  have x0 := HX.out.cell 0 _ rfl
  have x1 := HX.out.cell 1 _ rfl
  have x2 := HX.out.cell 2 _ rfl
  have f0 := HX.out.free 0
  have f1 := HX.out.free 1
  have f2 := HX.out.free 2
  go_wp2
  exact bodyPost_ret (v := .tuple #[zE, .bool false]) (results_ct (p := 6) (u := 7) rfl _ _ _ TE _ (0, 0) _ rfl (seekZero _ _ HX.out).out Try.underlying33 rfl (by kernel_rfl)) rfl ⟨rfl, set3 HB.out _ (Nat.le_refl _) _ _ _⟩
abbrev TR : TypeId := 24
theorem noScan (r : Value) (lo hi : ByteArray) (op back : Bool) (most : Int) (w : World) (h : NoL w r) :
    Calls Try.prog 8 #[r, .agg #[.string lo, .string hi, .bool op], .bool back, .int .i64 most] w fun e w' => e = .returned (.slice none 0 0) ∧ Below w.heap.size w w' := by
  obtain ⟨W, hW⟩ : ∃ W, W = w.alloc (.cells #[.string lo, .string hi, .bool op] TR) := ⟨_, rfl⟩
  have hb : Below w.heap.size w W := by rw [hW]; exact (Below.refl _ _).alloc (Nat.le_refl _) _
  have HB := Aside0.mk hb
  have HI := Aside0.mk (h W hb)
  clear h hb
  go_enter Try.func8, Try.ntmps8
  go_wp2_with fail
  rw [← hW]
  clear hW
  refine HI.out.mono ?_
  rintro e w' ⟨rfl, rfl⟩
  go_wp2
  go_ret
  exact ⟨rfl, HB.out⟩

abbrev TOp : TypeId := 48
abbrev TLook : TypeId := 26
theorem zeroL (W : World) : (zeroValue TL).run Try.prog W = .ok (.agg #[.bool false, .int .i32 0, .int .u32 0, .pointer none, .int .i64 0]) W := by kernel_rfl
set_option maxRecDepth 100000 in
set_option maxHeartbeats 8000000 in
theorem nobody_walk (k v h m : Int) (key xk lo hi : ByteArray) (op bk : Bool) (w : World) :
    Calls Try.prog 6 #[.agg #[.int .i64 k, .string key, .int .i64 v, .int .i64 h], .agg #[.string xk, .string lo, .string hi, .bool op, .bool bk, .int .i64 m]] w fun e w' => e = .returned (.bool true) ∧ Below w.heap.size w w' := by
  have hz := zeroL
  have hzE := zeroE
  obtain ⟨W, hW⟩ : ∃ W, W = (w.alloc (.cells #[.int .i64 k, .string key, .int .i64 v, .int .i64 h] TOp)).alloc (.cells #[.string xk, .string lo, .string hi, .bool op, .bool bk, .int .i64 m] TLook) := ⟨_, rfl⟩
  have HB : Aside0 (Below w.heap.size w W) := ⟨by rw [hW]; exact ((Below.refl _ _).alloc (Nat.le_refl _) _).alloc (by simp) _⟩
  have HX : Aside0 (Blk W w.heap.size [.int .i64 k, .string key, .int .i64 v, .int .i64 h] TOp) := ⟨by rw [hW]; exact (Blk.newA w _ _).alloc _⟩
  have HY : Aside0 (Blk W (w.heap.size + 1) [.string xk, .string lo, .string hi, .bool op, .bool bk, .int .i64 m] TLook) := ⟨by rw [hW]; have := Blk.newA (w.alloc (.cells #[.int .i64 k, .string key, .int .i64 v, .int .i64 h] TOp)) #[.string xk, .string lo, .string hi, .bool op, .bool bk, .int .i64 m] TLook; simpa using this⟩
  go_enter Try.func6, Try.ntmps6
  go_upto_region 1 with (fail)
  rw [← hW]
  clear hW
  have HB0 : Aside0 (Below W.heap.size W W) := ⟨Below.refl _ _⟩
  go_wp2_with fail
  go_loopw [5] (fun i wr => ∃ j : Nat, j ≤ 2 ∧ i = .int .i64 j ∧ Aside0 (Below W.heap.size W wr)) (fun i _ => 2 - (intOf i).toNat)
  case atStart => exact ⟨0, Nat.zero_le _, rfl, HB0⟩
  case round =>
    clear HB0
    obtain ⟨j, hj, rfl, HB1⟩ := hrel
    by_cases h0 : j = 0
    · subst h0
      have HXn := Aside0.mk (HX.out.belowSize HB1.out)
      have HYn := Aside0.mk (HY.out.belowSize HB1.out)
      have o1 := HXn.out.cell 1 _ rfl
      have o2 := HXn.out.cell 2 _ rfl
      have o3 := HXn.out.cell 3 _ rfl
      have l0 := HYn.out.cell 0 _ rfl
      have l1 := HYn.out.cell 1 _ rfl
      have l2 := HYn.out.cell 2 _ rfl
      have l3 := HYn.out.cell 3 _ rfl
      have l4 := HYn.out.cell 4 _ rfl
      have l5 := HYn.out.cell 5 _ rfl
      have HNo := Aside0.mk (noNil wr)
      go_wp2_with fail
      refine (noPut _ key v h _ HNo.out).mono ?_
      rintro e w' ⟨rfl, rfl⟩
      go_wp2_with fail
      refine (noDelete _ key _ HNo.out).mono ?_
      rintro e w' ⟨rfl, rfl⟩
      go_wp2_with fail
      refine (noGet _ key _ HNo.out).mono ?_
      rintro e w' ⟨rfl, rfl⟩
      go_wp2_with fail
      refine (noSeek _ xk bk _ HNo.out).mono ?_
      rintro e w3 ⟨rfl, hb3⟩
      simp only [zE]
      have HNo3 := Aside0.mk (HNo.out.on hb3)
      have HB3 := Aside0.mk (HB1.out.trans (hb3.mono HB1.out.size))
      clear hb3 HXn HYn o1 o2 o3 l0 l1 l2 l3 l4 l5 HB1 HNo
      go_upto_region 11 with (fail)
      obtain ⟨U, hU⟩ : ∃ U, U = w3.alloc (.cells #[.string ByteArray.empty, .int .i64 0, .int .i64 0] TE) := ⟨_, rfl⟩
      have hbU : Below w3.heap.size w3 U := by rw [hU]; exact (Below.refl _ _).alloc (Nat.le_refl _) _
      have HBU := Aside0.mk (HB3.out.trans (hbU.mono HB3.out.size))
      have HNoU := Aside0.mk (HNo3.out.on hbU)
      rw [← hU]
      clear hU hbU HB3 HNo3
      have HXn := Aside0.mk (HX.out.belowSize HBU.out)
      have HYn := Aside0.mk (HY.out.belowSize HBU.out)
      have o1 := HXn.out.cell 1 _ rfl
      have o2 := HXn.out.cell 2 _ rfl
      have o3 := HXn.out.cell 3 _ rfl
      have l0 := HYn.out.cell 0 _ rfl
      have l1 := HYn.out.cell 1 _ rfl
      have l2 := HYn.out.cell 2 _ rfl
      have l3 := HYn.out.cell 3 _ rfl
      have l4 := HYn.out.cell 4 _ rfl
      have l5 := HYn.out.cell 5 _ rfl
      go_wp2_with fail
      refine (noScan _ lo hi op bk m _ HNoU.out).mono ?_
      rintro e w4 ⟨rfl, hb4⟩
      have HNo4 := Aside0.mk (HNoU.out.on hb4)
      have HB4 := Aside0.mk (HBU.out.trans (hb4.mono HBU.out.size))
      clear hb4 HXn HYn o1 o2 o3 l0 l1 l2 l3 l4 l5 HBU HNoU
      go_wp2_with fail
      refine (noLen _ _ HNo4.out).mono ?_
      rintro e w' ⟨rfl, rfl⟩
      go_wp2_with fail
      refine (noLevels _ _ HNo4.out).mono ?_
      rintro e w' ⟨rfl, rfl⟩
      clear HNo4
      go_wp2
      go_roundw
      case rel => exact ⟨1, by omega, by go_num, HB4⟩
      case measure => simp [intOf]
    · by_cases h1 : j = 1
      · subst h1
        clear h0
        have HXn := Aside0.mk (HX.out.belowSize HB1.out)
        have HYn := Aside0.mk (HY.out.belowSize HB1.out)
        have o1 := HXn.out.cell 1 _ rfl
        have o2 := HXn.out.cell 2 _ rfl
        have o3 := HXn.out.cell 3 _ rfl
        have l0 := HYn.out.cell 0 _ rfl
        have l1 := HYn.out.cell 1 _ rfl
        have l2 := HYn.out.cell 2 _ rfl
        have l3 := HYn.out.cell 3 _ rfl
        have l4 := HYn.out.cell 4 _ rfl
        have l5 := HYn.out.cell 5 _ rfl
        go_upto_region 7 with (fail)
        obtain ⟨V, hV⟩ : ∃ V, V = wr.alloc (.cells #[.bool false, .int .i32 0, .int .u32 0, .pointer none, .int .i64 0] TL) := ⟨_, rfl⟩
        have hbV : Below wr.heap.size wr V := by rw [hV]; exact (Below.refl _ _).alloc (Nat.le_refl _) _
        have HV : Aside0 (Blk V wr.heap.size [.bool false, .int .i32 0, .int .u32 0, .pointer none, .int .i64 0] TL) := ⟨by rw [hV]; exact Blk.newA wr _ _⟩
        have HBV := Aside0.mk (HB1.out.trans (hbV.mono HB1.out.size))
        rw [← hV]
        clear hV hbV HXn HYn o1 o2 o3 l0 l1 l2 l3 l4 l5 HB1
        have HXn := Aside0.mk (HX.out.belowSize HBV.out)
        have HYn := Aside0.mk (HY.out.belowSize HBV.out)
        have o1 := HXn.out.cell 1 _ rfl
        have o2 := HXn.out.cell 2 _ rfl
        have o3 := HXn.out.cell 3 _ rfl
        have l0 := HYn.out.cell 0 _ rfl
        have l1 := HYn.out.cell 1 _ rfl
        have l2 := HYn.out.cell 2 _ rfl
        have l3 := HYn.out.cell 3 _ rfl
        have l4 := HYn.out.cell 4 _ rfl
        have l5 := HYn.out.cell 5 _ rfl
        have HNo := Aside0.mk (noZero V wr.heap.size (HV.out.cell 0 _ rfl))
        clear HV
        generalize wr.heap.size = gz at *
        go_wp2_with fail
        refine (noPut _ key v h _ HNo.out).mono ?_
        rintro e w' ⟨rfl, rfl⟩
        go_wp2_with fail
        refine (noDelete _ key _ HNo.out).mono ?_
        rintro e w' ⟨rfl, rfl⟩
        go_wp2_with fail
        refine (noGet _ key _ HNo.out).mono ?_
        rintro e w' ⟨rfl, rfl⟩
        go_wp2_with fail
        refine (noSeek _ xk bk _ HNo.out).mono ?_
        rintro e w3 ⟨rfl, hb3⟩
        simp only [zE]
        have HNo3 := Aside0.mk (HNo.out.on hb3)
        have HB3 := Aside0.mk (HBV.out.trans (hb3.mono HBV.out.size))
        clear hb3 HXn HYn o1 o2 o3 l0 l1 l2 l3 l4 l5 HBV HNo
        go_upto_region 11 with (fail)
        obtain ⟨U, hU⟩ : ∃ U, U = w3.alloc (.cells #[.string ByteArray.empty, .int .i64 0, .int .i64 0] TE) := ⟨_, rfl⟩
        have hbU : Below w3.heap.size w3 U := by rw [hU]; exact (Below.refl _ _).alloc (Nat.le_refl _) _
        have HBU := Aside0.mk (HB3.out.trans (hbU.mono HB3.out.size))
        have HNoU := Aside0.mk (HNo3.out.on hbU)
        rw [← hU]
        clear hU hbU HB3 HNo3
        have HXn := Aside0.mk (HX.out.belowSize HBU.out)
        have HYn := Aside0.mk (HY.out.belowSize HBU.out)
        have o1 := HXn.out.cell 1 _ rfl
        have o2 := HXn.out.cell 2 _ rfl
        have o3 := HXn.out.cell 3 _ rfl
        have l0 := HYn.out.cell 0 _ rfl
        have l1 := HYn.out.cell 1 _ rfl
        have l2 := HYn.out.cell 2 _ rfl
        have l3 := HYn.out.cell 3 _ rfl
        have l4 := HYn.out.cell 4 _ rfl
        have l5 := HYn.out.cell 5 _ rfl
        go_wp2_with fail
        refine (noScan _ lo hi op bk m _ HNoU.out).mono ?_
        rintro e w4 ⟨rfl, hb4⟩
        have HNo4 := Aside0.mk (HNoU.out.on hb4)
        have HB4 := Aside0.mk (HBU.out.trans (hb4.mono HBU.out.size))
        clear hb4 HXn HYn o1 o2 o3 l0 l1 l2 l3 l4 l5 HBU HNoU
        go_wp2_with fail
        refine (noLen _ _ HNo4.out).mono ?_
        rintro e w' ⟨rfl, rfl⟩
        go_wp2_with fail
        refine (noLevels _ _ HNo4.out).mono ?_
        rintro e w' ⟨rfl, rfl⟩
        clear HNo4
        go_wp2
        go_roundw
        case rel => exact ⟨2, by omega, by go_num, HB4⟩
        case measure => simp [intOf]
      · obtain rfl : j = 2 := by omega
        clear h0 h1
        go_wp2_with fail
        refine (awakeCalls _).mono ?_
        rintro e w7 ⟨rfl, hb7⟩
        have HB7 : Aside0 (Below w.heap.size w w7) := ⟨HB.out.trans ((HB1.out.trans (hb7.mono HB1.out.size)).mono HB.out.size)⟩
        clear hb7 HB1
        go_wp2
        go_ret
        exact ⟨rfl, HB7.out⟩
end Go.Proofs.Ytnpjppnahfehnaa.Skip
