/- Layer 12's list: Seek. -/
import Derived.Test.YtnpjppnahfehnaaDoorSkipE
namespace Go.Proofs.YtnpjppnahfehnaaDoor.Skip
set_option linter.unusedVariables false
set_option linter.unusedSimpArgs false
open Go.RowKit Go.Proofs.YtnpjppnahfehnaaDoorW.PrintWords Go.Proofs.YtnpjppnahfehnaaDoor.Kit Go.MuLone

theorem infoN2 : ∃ i, Tryd.prog.info? TN = some i ∧ i.size ≠ 0 := by
  have h : (Tryd.prog.info? TN).map (·.size) = some 3 := by kernel_rfl
  obtain ⟨i, hi, hs⟩ := Option.map_eq_some_iff.1 h
  exact ⟨i, hi, by omega⟩
theorem ptrSame (W : World) (p : Nat) : (binOp .eql 39 (.pointer (some ⟨p, 0, none⟩)) (.pointer (some ⟨p, 0, none⟩))).run Tryd.prog W = .ok (.bool true) W := by
  obtain ⟨i, hi, _⟩ := infoN2
  exact run_eql_ptr_same W ⟨p, 0, none⟩ Tryd.underlying39 hi
theorem ptrOther (W : World) (x y : Nd) (h : x.p ≠ y.p) (hx : NodeB W x) (hy : NodeB W y) : (binOp .eql 39 (.pointer (some ⟨x.p, 0, none⟩)) (.pointer (some ⟨y.p, 0, none⟩))).run Tryd.prog W = .ok (.bool false) W := by
  obtain ⟨i, hi, hs⟩ := infoN2
  exact run_eql_ptr_other (a := ⟨x.p, 0, none⟩) (b := ⟨y.p, 0, none⟩) W Tryd.underlying39 hi hs (fun e => h (by injection e)) hx.out hy.out
/-! Seek -/
def seekO (lo hi : List Nd) (key : ByteArray) (back : Bool) : Option Nd :=
  cond back (match hi with | [] => lo.getLast? | z :: _ => if z.k = key then some z else lo.getLast?) hi.head?
def zE : Value := .agg #[.string ByteArray.empty, .int .i64 0, .int .i64 0]
def seekV : Option Nd → Value
  | none => .tuple #[zE, .bool false]
  | some x => .tuple #[eV x, .bool true]
theorem last0 (hd : Nd) (lo : List Nd) (h : ∀ x ∈ lo, 1 ≤ x.h) : lastAt 0 hd lo = lo.getLast?.getD hd := by
  induction lo generalizing hd with
  | nil => rfl
  | cons y t ih =>
    have := h y List.mem_cons_self
    rw [lastAt, if_pos (by omega), ih y (fun x hx => h x (List.mem_cons_of_mem _ hx))]
    cases t with
    | nil => rfl
    | cons z t => rw [List.getLast?_cons_cons]; rw [List.getLast?_eq_some_getLast (by simp)]; rfl
/-- The end of Seek: what it found. -/
theorem seekZero (W : World) (g : Nat) (h : Blk W g [.string ByteArray.empty, .int .i64 0, .int .i64 0] TE) : Blk (((W.setCell ⟨g, 0, none⟩ (.string ByteArray.empty)).setCell ⟨g, 1, none⟩ (.int .i64 0)).setCell ⟨g, 2, none⟩ (.int .i64 0)) g [.string ByteArray.empty, .int .i64 0, .int .i64 0] TE :=
  ((h.put 0 (.string ByteArray.empty)).put 1 (.int .i64 0)).put 2 (.int .i64 0)
theorem seekSome (W : World) (g : Nat) (x : Nd) (h : Blk W g [.string ByteArray.empty, .int .i64 0, .int .i64 0] TE) : Blk (((W.setCell ⟨g, 0, none⟩ (.string x.k)).setCell ⟨g, 1, none⟩ (.int .i64 x.v)).setCell ⟨g, 2, none⟩ (.int .i64 x.h)) g [.string x.k, .int .i64 x.v, .int .i64 x.h] TE :=
  ((h.put 0 (.string x.k)).put 1 (.int .i64 x.v)).put 2 (.int .i64 x.h)
theorem set3 {B : Nat} {w W : World} (h : Below B w W) (g : Nat) (hg : B ≤ g) (a b c : Value) : Below B w (((W.setCell ⟨g, 0, none⟩ a).setCell ⟨g, 1, none⟩ b).setCell ⟨g, 2, none⟩ c) :=
  ((h.setCell (p := ⟨g, 0, none⟩) hg a).setCell (p := ⟨g, 1, none⟩) hg b).setCell (p := ⟨g, 2, none⟩) hg c

set_option maxRecDepth 100000 in
set_option maxHeartbeats 8000000 in
theorem seekCalls (g : Nat) (hd : Nd) (lo hi : List Nd) (key : ByteArray) (back : Bool) (w : World) (h : Sk w g 0 hd (lo ++ hi)) (hlo : ∀ x ∈ lo, ltB x.k key = true) (hhi : ∀ x ∈ hi, ltB x.k key = false) :
    Calls Tryd.prog 10 #[.pointer (some ⟨g, 0, none⟩), .string key, .bool back] w fun e w' => e = .returned (seekV (seekO lo hi key back)) ∧ Below w.heap.size w w' := by
  have hz := zeroE
  have hix := index0 hd lo
  obtain ⟨W, hW⟩ : ∃ W, W = w.alloc (.cells #[.string ByteArray.empty, .int .i64 0, .int .i64 0] TE) := ⟨_, rfl⟩
  have hb : Below w.heap.size w W := by rw [hW]; exact (Below.refl _ _).alloc (Nat.le_refl _) _
  have HX : Aside0 (Blk W w.heap.size [.string ByteArray.empty, .int .i64 0, .int .i64 0] TE) := ⟨by rw [hW]; exact Blk.newA w _ _⟩
  have HB := Aside0.mk hb
  have H := Aside0.mk (h.below hb)
  have HI := Aside0.mk (isTrue g 0 hd _ W H.out)
  have HBf := Aside0.mk (H.out.before key hlo hhi)
  have HNp := Aside0.mk h.np
  have HH := Aside0.mk (fun x (hx : x ∈ lo) => (h.hts x (List.mem_append_left _ hx)).1)
  clear h hlo hhi hb
  go_enter Tryd.func10, Tryd.ntmps10
  go_wp2_with fail
  rw [← hW]
  clear hW
  refine HI.out.mono ?_
  rintro e w' ⟨rfl, rfl⟩
  go_wp2_with fail
  refine HBf.out.mono ?_
  rintro e w1 ⟨rfl, hb1⟩
  have HB1 := Aside0.mk (HB.out.trans (hb1.mono HB.out.size))
  have H1 := Aside0.mk (H.out.below hb1)
  have HX1 := Aside0.mk (HX.out.belowSize hb1)
  clear hb1 HB H HX HI HBf
  obtain ⟨hn, hlt, hcell, _, hisn⟩ := H1.out.at0 0 (by decide)
  rw [H1.out.fst0] at hcell hisn
  have HLast := Aside0.mk (last0 hd lo HH.out)
  generalize lastAt 0 hd lo = x at *
  have HL := Aside0.mk (pload x.q 0 _ _ hcell hisn)
  have hn2 := hn.cell 2 _ rfl
  have hlt2 : (0 : Int) < (x.h : Int) := by omega
  have x0 := HX1.out.cell 0 _ rfl
  have x1 := HX1.out.cell 1 _ rfl
  have x2 := HX1.out.cell 2 _ rfl
  have f0 := HX1.out.free 0
  have f1 := HX1.out.free 1
  have f2 := HX1.out.free 2
  have HNx := Aside0.mk hn
  clear hcell hisn hn
  have hc2 := H1.out.c3
  go_wp2_with fail
  refine HL.out.mono ?_
  rintro e w' ⟨rfl, rfl⟩
  clear HL hn2 hix
  have hmem : ∀ z t, hi = z :: t → NodeB _ z := fun z t e => H1.out.lnk.node (List.mem_cons_of_mem _ (List.mem_append_right _ (by rw [e]; exact List.mem_cons_self)))
  have HMem := Aside0.mk hmem
  clear hmem
  -- an entry that is told
  have HTell : Aside0 (∀ y, NodeB w1 y → Calls Tryd.prog 18 #[.pointer (some ⟨y.p, 0, none⟩)] w1 fun e w' => e = .returned (eV y) ∧ Below w.heap.size w w' ∧ Blk w' w.heap.size [.string ByteArray.empty, .int .i64 0, .int .i64 0] TE) :=
    ⟨fun y hy => (entryCalls y w1 hy).mono fun e w' ⟨he, hb⟩ => ⟨he, HB1.out.trans (hb.mono HB1.out.size), HX1.out.belowSize hb⟩⟩
  cases back with
  | false =>
    cases hi with
    | nil =>
      simp only [List.head?_nil, Option.map_none, ptr]
      go_wp2
      exact bodyPost_ret (v := seekV (seekO lo [] key false)) (results_ct (p := 6) (u := 7) rfl _ _ _ TE _ (0, 0) _ rfl (seekZero _ _ HX1.out).out Tryd.underlying34 rfl (by kernel_rfl)) rfl ⟨rfl, set3 HB1.out _ (Nat.le_refl _) _ _ _⟩
    | cons z t =>
      have HT := Aside0.mk (HTell.out z (HMem.out z t rfl))
      clear HTell HMem
      simp only [List.head?_cons, Option.map_some, ptr]
      go_wp2_with fail
      refine HT.out.mono ?_
      rintro e w2 ⟨rfl, hb2, hx2⟩
      have HB2 := Aside0.mk hb2
      have HX2 := Aside0.mk hx2
      clear hb2 hx2 x0 x1 x2 f0 f1 f2
      have x0 := HX2.out.cell 0 _ rfl
      have x1 := HX2.out.cell 1 _ rfl
      have x2 := HX2.out.cell 2 _ rfl
      have f0 := HX2.out.free 0
      have f1 := HX2.out.free 1
      have f2 := HX2.out.free 2
      simp only [eV]
      go_wp2
      exact bodyPost_ret (v := seekV (seekO lo (z :: t) key false)) (results_ct (p := 6) (u := 7) rfl _ _ _ TE _ (0, 0) _ rfl (seekSome _ _ z HX2.out).out Tryd.underlying34 rfl (by kernel_rfl)) rfl ⟨rfl, set3 HB2.out _ (Nat.le_refl _) _ _ _⟩
  | true =>
    cases hi with
    | nil =>
      cases hlo : lo.getLast? with
      | none =>
        have HRes : Aside0 (seekO lo ([]) key true = none) := ⟨by simp [seekO, hlo]⟩
        have e : x = hd := by rw [HLast.out, hlo]; rfl
        subst e
        have hpe := ptrSame w1 x.p
        clear hlo HTell HMem HLast
        simp only [List.head?_nil, Option.map_none, ptr]
        go_wp2
        exact bodyPost_ret (v := .tuple #[zE, .bool false]) (results_ct (p := 6) (u := 7) rfl _ _ _ TE _ (0, 0) _ rfl (seekZero _ _ HX1.out).out Tryd.underlying34 rfl (by kernel_rfl)) rfl ⟨by rw [HRes.out]; rfl, set3 HB1.out _ (Nat.le_refl _) _ _ _⟩
      | some y =>
        have HRes : Aside0 (seekO lo ([]) key true = some y) := ⟨by simp [seekO, hlo]⟩
        have e : x = y := by rw [HLast.out, hlo]; rfl
        subst e
        have HT := Aside0.mk (HTell.out x HNx.out)
        have hne : ¬ x.p = hd.p := by
          have hm : x ∈ lo := List.mem_of_getLast? hlo
          have hn := HNp.out
          rw [List.map_cons, List.nodup_cons] at hn
          exact fun e => hn.1 (e ▸ List.mem_map_of_mem (List.mem_append_left _ hm))
        have hpe := ptrOther w1 x hd hne HNx.out H1.out.lnk.1
        clear hne hlo HTell HMem HLast
        simp only [List.head?_nil, Option.map_none, ptr]
        go_wp2_with fail
        refine HT.out.mono ?_
        rintro e w2 ⟨rfl, hb2, hx2⟩
        have HB2 := Aside0.mk hb2
        have HX2 := Aside0.mk hx2
        clear hb2 hx2 x0 x1 x2 f0 f1 f2
        have x0 := HX2.out.cell 0 _ rfl
        have x1 := HX2.out.cell 1 _ rfl
        have x2 := HX2.out.cell 2 _ rfl
        have f0 := HX2.out.free 0
        have f1 := HX2.out.free 1
        have f2 := HX2.out.free 2
        simp only [eV]
        go_wp2
        exact bodyPost_ret (v := .tuple #[eV x, .bool true]) (results_ct (p := 6) (u := 7) rfl _ _ _ TE _ (0, 0) _ rfl (seekSome _ _ x HX2.out).out Tryd.underlying34 rfl (by kernel_rfl)) rfl ⟨by rw [HRes.out]; rfl, set3 HB2.out _ (Nat.le_refl _) _ _ _⟩
    | cons z t =>
      have hzk := (HMem.out z t rfl).cell 0 _ rfl
      by_cases hk : z.k = key
      · have HRes : Aside0 (seekO lo (z :: t) key true = some z) := ⟨by simp [seekO, hk]⟩
        have hkb : (z.k.toList == key.toList) = true := by rw [hk]; simp
        have HT := Aside0.mk (HTell.out z (HMem.out z t rfl))
        clear HTell HMem HLast hk
        simp only [List.head?_cons, Option.map_some, ptr]
        go_wp2_with fail
        refine HT.out.mono ?_
        rintro e w2 ⟨rfl, hb2, hx2⟩
        have HB2 := Aside0.mk hb2
        have HX2 := Aside0.mk hx2
        clear hb2 hx2 x0 x1 x2 f0 f1 f2
        have x0 := HX2.out.cell 0 _ rfl
        have x1 := HX2.out.cell 1 _ rfl
        have x2 := HX2.out.cell 2 _ rfl
        have f0 := HX2.out.free 0
        have f1 := HX2.out.free 1
        have f2 := HX2.out.free 2
        simp only [eV]
        go_wp2
        exact bodyPost_ret (v := .tuple #[eV z, .bool true]) (results_ct (p := 6) (u := 7) rfl _ _ _ TE _ (0, 0) _ rfl (seekSome _ _ z HX2.out).out Tryd.underlying34 rfl (by kernel_rfl)) rfl ⟨by rw [HRes.out]; rfl, set3 HB2.out _ (Nat.le_refl _) _ _ _⟩
      · have hkb : (z.k.toList == key.toList) = false := by rw [beq_key]; exact decide_eq_false hk
        have HK := Aside0.mk hk
        clear hk
        cases hlo : lo.getLast? with
        | none =>
          have HRes : Aside0 (seekO lo (z :: t) key true = none) := ⟨by simp [seekO, hlo, HK.out]⟩
          have e : x = hd := by rw [HLast.out, hlo]; rfl
          subst e
          have hpe := ptrSame w1 x.p
          clear hlo HTell HMem HLast
          simp only [List.head?_cons, Option.map_some, ptr]
          go_wp2
          exact bodyPost_ret (v := .tuple #[zE, .bool false]) (results_ct (p := 6) (u := 7) rfl _ _ _ TE _ (0, 0) _ rfl (seekZero _ _ HX1.out).out Tryd.underlying34 rfl (by kernel_rfl)) rfl ⟨by rw [HRes.out]; rfl, set3 HB1.out _ (Nat.le_refl _) _ _ _⟩
        | some y =>
          have HRes : Aside0 (seekO lo (z :: t) key true = some y) := ⟨by simp [seekO, hlo, HK.out]⟩
          have e : x = y := by rw [HLast.out, hlo]; rfl
          subst e
          have HT := Aside0.mk (HTell.out x HNx.out)
          have hne : ¬ x.p = hd.p := by
            have hm : x ∈ lo := List.mem_of_getLast? hlo
            have hn := HNp.out
            rw [List.map_cons, List.nodup_cons] at hn
            exact fun e => hn.1 (e ▸ List.mem_map_of_mem (List.mem_append_left _ hm))
          have hpe := ptrOther w1 x hd hne HNx.out H1.out.lnk.1
          clear hne hlo HTell HMem HLast
          simp only [List.head?_cons, Option.map_some, ptr]
          go_wp2_with fail
          refine HT.out.mono ?_
          rintro e w2 ⟨rfl, hb2, hx2⟩
          have HB2 := Aside0.mk hb2
          have HX2 := Aside0.mk hx2
          clear hb2 hx2 x0 x1 x2 f0 f1 f2
          have x0 := HX2.out.cell 0 _ rfl
          have x1 := HX2.out.cell 1 _ rfl
          have x2 := HX2.out.cell 2 _ rfl
          have f0 := HX2.out.free 0
          have f1 := HX2.out.free 1
          have f2 := HX2.out.free 2
          simp only [eV]
          go_wp2
          exact bodyPost_ret (v := .tuple #[eV x, .bool true]) (results_ct (p := 6) (u := 7) rfl _ _ _ TE _ (0, 0) _ rfl (seekSome _ _ x HX2.out).out Tryd.underlying34 rfl (by kernel_rfl)) rfl ⟨by rw [HRes.out]; rfl, set3 HB2.out _ (Nat.le_refl _) _ _ _⟩
end Go.Proofs.YtnpjppnahfehnaaDoor.Skip
