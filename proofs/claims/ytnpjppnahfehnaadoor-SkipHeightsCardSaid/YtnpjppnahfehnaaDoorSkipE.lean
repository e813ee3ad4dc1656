/- Layer 12's list: New, is, entry, Get, Len, Seek. -/
import Derived.Test.YtnpjppnahfehnaaDoorSkipD
import Derived.StillTailTactics
namespace Go.Proofs.YtnpjppnahfehnaaDoor.Skip
set_option linter.unusedVariables false
set_option linter.unusedSimpArgs false
open Go.RowKit Go.Proofs.YtnpjppnahfehnaaDoorW.PrintWords Go.Proofs.YtnpjppnahfehnaaDoor.Kit Go.MuLone

abbrev TE : TypeId := 34
def eV (x : Nd) : Value := .agg #[.string x.k, .int .i64 x.v, .int .i64 x.h]

theorem isTrue (g : Nat) (st : Int) (hd : Nd) (ns : List Nd) (w : World) (h : Sk w g st hd ns) :
    Calls Tryd.prog 12 #[.pointer (some ⟨g, 0, none⟩)] w fun e w' => e = .returned (.bool true) ∧ w = w' := by
  have h0 := h.row.cell 0 _ rfl
  clear h
  go_enter Tryd.func12, Tryd.ntmps12
  go_wp2
  go_ret
  exact ⟨rfl, rfl⟩
theorem lenCalls (g : Nat) (hd : Nd) (ns : List Nd) (w : World) (h : Sk w g 0 hd ns) :
    Calls Tryd.prog 11 #[.pointer (some ⟨g, 0, none⟩)] w fun e w' => e = .returned (.int .i64 ns.length) ∧ w = w' := by
  have HI := Aside0.mk (isTrue g 0 hd ns w h)
  have HL := Aside0.mk (i64Load g 4 _ w (h.row.cell 4 _ rfl))
  clear h
  go_enter Tryd.func11, Tryd.ntmps11
  go_wp2_with fail
  refine HI.out.mono ?_
  rintro e w' ⟨rfl, rfl⟩
  go_wp2_with fail
  refine HL.out.mono ?_
  rintro e w' ⟨rfl, rfl⟩
  go_wp2
  go_ret
  exact ⟨rfl, rfl⟩
theorem zeroE (W : World) : (zeroValue TE).run Tryd.prog W = .ok (.agg #[.string ByteArray.empty, .int .i64 0, .int .i64 0]) W := by kernel_rfl
set_option maxHeartbeats 1600000 in
theorem entryCalls (x : Nd) (w : World) (h : NodeB w x) :
    Calls Tryd.prog 18 #[.pointer (some ⟨x.p, 0, none⟩)] w fun e w' => e = .returned (eV x) ∧ Below w.heap.size w w' := by
  have hz := zeroE
  obtain ⟨W, hW⟩ : ∃ W, W = w.alloc (.cells #[.string ByteArray.empty, .int .i64 0, .int .i64 0] TE) := ⟨_, rfl⟩
  have hb : Below w.heap.size w W := by rw [hW]; exact (Below.refl _ _).alloc (Nat.le_refl _) _
  have HX : Aside0 (Blk W w.heap.size [.string ByteArray.empty, .int .i64 0, .int .i64 0] TE) := ⟨by rw [hW]; exact Blk.newA w _ _⟩
  have HB := Aside0.mk hb
  have hN : NodeB W x := h.belowSize hb
  have HL := Aside0.mk (i64Load x.p 1 _ W.drew (hN.drew.cell 1 _ rfl))
  have n0 := hN.cell 0 _ rfl
  have n1 := hN.cell 1 _ rfl
  have n2 := hN.cell 2 _ rfl
  clear h hb hN
  go_enter Tryd.func18, Tryd.ntmps18
  go_upto_region 1 with (fail)
  rw [← hW]
  clear hW
  have z0 := HX.out.cell 0 _ rfl
  have z1 := HX.out.cell 1 _ rfl
  have z2 := HX.out.cell 2 _ rfl
  have f0 := HX.out.free 0
  have f1 := HX.out.free 1
  have f2 := HX.out.free 2
  go_region_with (go_at_call 19; refine (HL.out).mono ?_; rintro e w1 ⟨rfl, rfl⟩)
  all_goals
    have HZ : Aside0 (Blk (((W.setCell ⟨w.heap.size, 0, none⟩ (.string x.k)).setCell ⟨w.heap.size, 1, none⟩ (.int .i64 x.v)).setCell ⟨w.heap.size, 2, none⟩ (.int .i64 x.h)).drew w.heap.size [.string x.k, .int .i64 x.v, .int .i64 x.h] TE) := ⟨(((HX.out.put 0 (.string x.k)).put 1 (.int .i64 x.v)).put 2 (.int .i64 x.h)).drew⟩
    have HBf := Aside0.mk (((HB.out.setCell (p := ⟨w.heap.size, 0, none⟩) (Nat.le_refl _) (.string x.k)).setCell (p := ⟨w.heap.size, 1, none⟩) (Nat.le_refl _) (.int .i64 x.v)).setCell (p := ⟨w.heap.size, 2, none⟩) (Nat.le_refl _) (.int .i64 x.h)).drew
    go_wp2
    exact bodyPost_ret (v := eV x) (results_cell_row rfl _ _ _ TE _ (0, 0) _ rfl HZ.out.out Tryd.underlying34 rfl (by kernel_rfl)) rfl ⟨rfl, HBf.out⟩
end Go.Proofs.YtnpjppnahfehnaaDoor.Skip
