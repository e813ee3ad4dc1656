/- Layer 13: holds in each other's way: the program's meets, over closures. -/
import Derived.Test.YtkgabeloofjohaaGapB
import Derived.Test.YtkgabeloofjohaaOpen
import Derived.Deep.LoopGhost
import Derived.Deep.QuietTactic
import Derived.BigQuiet
namespace Go.Proofs.Ytkgabeloofjohaa.Gap
set_option linter.unusedVariables false
set_option linter.unusedSimpArgs false
open Go.RowKit Go.Proofs.YtkgabeloofjohaaW.PrintWords Go.Proofs.Ytkgabeloofjohaa.Kit

structure Hd where
  r : Rg
  alone : Bool
def Hd.cells (x : Hd) : List Value := [.string x.r.lo, .string x.r.hi, .bool x.r.opn, .bool x.alone]
def Hd.val (x : Hd) : Value := .agg #[.string x.r.lo, .string x.r.hi, .bool x.r.opn, .bool x.alone]
def kH : Kd Hd := Kd.iso (Kd.pair (Kd.iso (Kd.pair Kd.string (Kd.pair Kd.string Kd.bool)) (fun x : Rg => (x.lo, x.hi, x.opn))) Kd.bool) (fun x => (x.r, x.alone))
theorem kH_cells {w : World} {x : Hd} {cs : List Value} (h : kH.K w x cs) : cs = x.cells := by
  obtain ⟨c0, c1, rfl, ⟨d0, d1, rfl, h0, d2, d3, rfl, h1, h2⟩, h3⟩ := h
  rw [show d0 = [.string x.r.lo] from h0, show d2 = [.string x.r.hi] from h1, show d3 = [.bool x.r.opn] from h2, show c1 = [.bool x.alone] from h3]
  rfl
theorem kH_at {w : World} {A : Option Addr} {n : Nat} {xs : List Hd} (h : kH.C w A n xs) (i : Nat) (hi : i < n) : ∃ b o x, A = some ⟨b, o, none⟩ ∧ xs[i]? = some x ∧ w.cell? ⟨b, o + i * 4, none⟩ = some (.string x.r.lo) ∧ w.cell? ⟨b, o + i * 4 + 1, none⟩ = some (.string x.r.hi) ∧ w.cell? ⟨b, o + i * 4 + 2, none⟩ = some (.bool x.r.opn) ∧ w.cell? ⟨b, o + i * 4 + 3, none⟩ = some (.bool x.alone) := by
  obtain ⟨b, o, x, cs, rfl, hx, hK, hc⟩ := C_at (s := 4) rfl (by omega) h i hi
  have := kH_cells hK
  subst this
  exact ⟨b, o, x, rfl, hx, hc 0 _ rfl, hc 1 _ rfl, hc 2 _ rfl, hc 3 _ rfl⟩
def wayH (x y : Hd) : Bool := (x.alone || y.alone) && meetB x.r y.r
def wayB (a b : List Hd) : Bool := a.any (fun x => b.any (fun y => wayH x y))

theorem hmf : ∀ (fn : Fn) (first cap : Array Value) (w : World), (Instr.makeFunc fn first cap).run Try.prog w = .ok (.func fn first cap) w := fun _ _ _ _ => rfl

set_option maxHeartbeats 2000000 in
/-- The inner closure: x is captured. -/
theorem meets11 (x y : Hd) (p : Nat) (w : World) (h : Blk w p x.cells TH) : Calls Try.prog 61 #[y.val, .pointer (some ⟨p, 0, none⟩)] w fun e w' => e = .returned (.bool (wayH x y)) ∧ Below w.heap.size w w' := by
  obtain ⟨W, hW⟩ : ∃ W, W = w.alloc (.cells y.cells.toArray TH) := ⟨_, rfl⟩
  have hb : Below w.heap.size w W := by rw [hW]; exact (Below.refl _ _).alloc (Nat.le_refl _) _
  have HY : Aside0 (Blk W w.heap.size y.cells TH) := ⟨by rw [hW]; exact Blk.newA w _ _⟩
  have HX := Aside0.mk (h.belowSize hb)
  have HB := Aside0.mk hb
  have HM := Aside0.mk (codeMeet x.r y.r W)
  have HW : Aside0 (wayH x y = ((x.alone || y.alone) && meetB x.r y.r)) := ⟨rfl⟩
  generalize wayH x y = q at *
  generalize meetB x.r y.r = m at *
  clear h hb
  obtain ⟨⟨xlo, xhi, xo⟩, xa⟩ := x
  obtain ⟨⟨ylo, yhi, yo⟩, ya⟩ := y
  simp only [Hd.cells, Hd.val, Rg.val] at *
  have x0 := HX.out.cell 0 _ rfl
  have x1 := HX.out.cell 1 _ rfl
  have x2 := HX.out.cell 2 _ rfl
  have x3 := HX.out.cell 3 _ rfl
  have y0 := HY.out.cell 0 _ rfl
  have y1 := HY.out.cell 1 _ rfl
  have y2 := HY.out.cell 2 _ rfl
  have y3 := HY.out.cell 3 _ rfl
  cases xa with
  | true =>
    have HQ : Aside0 (q = m) := ⟨by rw [HW.out]; rfl⟩
    clear HW
    go_enter Try.func61, Try.ntmps61
    go_upto_region 1 with (fail)
    rw [← hW]
    clear hW
    go_wp2_with fail
    refine HM.out.mono ?_
    rintro e w1 ⟨rfl, hb1⟩
    have HB1 := Aside0.mk (HB.out.trans (hb1.mono HB.out.size))
    clear hb1 HB HM x0 x1 x2 x3 y0 y1 y2 y3
    go_wp2
    go_ret
    exact ⟨by rw [HQ.out]; rfl, HB1.out⟩
  | false => cases ya with
    | true =>
      have HQ : Aside0 (q = m) := ⟨by rw [HW.out]; rfl⟩
      clear HW
      go_enter Try.func61, Try.ntmps61
      go_upto_region 1 with (fail)
      rw [← hW]
      clear hW
      go_wp2_with fail
      refine HM.out.mono ?_
      rintro e w1 ⟨rfl, hb1⟩
      have HB1 := Aside0.mk (HB.out.trans (hb1.mono HB.out.size))
      clear hb1 HB HM x0 x1 x2 x3 y0 y1 y2 y3
      go_wp2
      go_ret
      exact ⟨by rw [HQ.out]; rfl, HB1.out⟩
    | false =>
      have HQ : Aside0 (q = false) := ⟨by rw [HW.out]; rfl⟩
      clear HW HM
      go_enter Try.func61, Try.ntmps61
      go_upto_region 1 with (fail)
      rw [← hW]
      clear hW
      go_wp2
      go_ret
      exact ⟨by rw [HQ.out]; rfl, HB.out⟩

theorem enter11 : ∀ args w, (callFunc 61 args).run Try.prog w = .ok (.enter 61 args) w := fun args w => by
  simp [go_sem, Try.func61]
theorem enter1 : ∀ args w, (callFunc 60 args).run Try.prog w = .ok (.enter 60 args) w := fun args w => by
  simp [go_sem, Try.func60]
/-- The first place where p is true. -/
def idxOf (p : Hd → Bool) (ys : List Hd) : Int := match ys.findIdx? p with
  | some i => (i : Int)
  | none => -1
theorem idxOf_any (p : Hd → Bool) (ys : List Hd) : decide (0 ≤ idxOf p ys) = ys.any p := by
  unfold idxOf
  cases h : ys.findIdx? p with
  | none =>
    have := List.findIdx?_eq_none_iff.1 h
    have e : ys.any p = false := by rw [List.any_eq_false]; intro x hx; simp [this x hx]
    rw [e]; decide
  | some i =>
    obtain ⟨hi, hp, _⟩ := List.findIdx?_eq_some_iff_getElem.1 h
    have e : ys.any p = true := by rw [List.any_eq_true]; exact ⟨_, List.getElem_mem hi, hp⟩
    rw [e]; exact decide_eq_true (by show (0 : Int) ≤ (i : Int); omega)
set_option maxHeartbeats 2000000 in
theorem indexH (fid : Nat) (hent : ∀ args w, (callFunc fid args).run Try.prog w = .ok (.enter fid args) w) (cap : Value) (A : Option Addr) (n c : Nat) (ys : List Hd) (p : Hd → Bool) (w : World) (hC : kH.C w A n ys) (hn : n ≤ 3518437208780)
    (HF : Aside0 (∀ W y, Below w.heap.size w W → Calls Try.prog fid #[y.val, cap] W fun e w' => e = .returned (.bool (p y)) ∧ Below W.heap.size W w')) :
    Calls Try.prog 63 #[.slice A n c, .func (.func fid) #[] #[cap]] w fun e w' => e = .returned (.int .i64 (idxOf p ys)) ∧ Below w.heap.size w w' := by
  have HC := Aside0.mk hC
  have HN := Aside0.mk hn
  have HL := Aside0.mk hC.1
  clear hC hn
  go_enter Try.func63, Try.ntmps63
  go_wp2_with fail
  go_loopw [8] (fun v wr => ∃ i : Nat, i ≤ n ∧ v = .int .i64 i ∧ Aside0 (∀ j, j < i → ∀ y, ys[j]? = some y → p y = false) ∧ Aside0 (Below w.heap.size w wr)) (fun v _ => n - (intOf v).toNat)
  case atStart => exact ⟨0, Nat.zero_le _, rfl, ⟨fun j hj => absurd hj (Nat.not_lt_zero j)⟩, ⟨Below.refl _ _⟩⟩
  case round =>
    obtain ⟨i, hi, rfl, HP, HB⟩ := hrel
    have hn := HN.out
    by_cases hlt : i < n
    · obtain ⟨b, o, y, rfl, hy, p0, p1, p2, p3⟩ := kH_at (Kd.C_below HC.out HB.out) i hlt
      have i1 : (i : Int) < (n : Int) := by omega
      have HYs := Aside0.mk hy
      have HFy := Aside0.mk (HF.out wr y HB.out)
      obtain ⟨q, hq⟩ : ∃ q, q = p y := ⟨_, rfl⟩
      rw [← hq] at HFy
      have HQ := Aside0.mk hq
      clear hy hq
      simp only [Hd.val] at HFy
      go_wp2_with fail
      refine HFy.out.mono ?_
      rintro e w1 ⟨rfl, hb1⟩
      have HB1 := Aside0.mk (HB.out.trans (hb1.mono HB.out.size))
      clear hb1 HFy HB p0 p1 p2 p3
      cases q with
      | true =>
        have HR : Aside0 (idxOf p ys = (i : Int)) := ⟨by
          have : ys.findIdx? p = some i := by
            obtain ⟨hl, e⟩ := List.getElem?_eq_some_iff.1 HYs.out
            refine List.findIdx?_eq_some_iff_getElem.2 ⟨hl, by rw [e]; exact HQ.out.symm, fun j hj => ?_⟩
            have := HP.out j hj _ (List.getElem?_eq_getElem (by omega))
            simpa using this
          unfold idxOf
          rw [this]⟩
        go_wp2
        go_ret
        exact ⟨by rw [HR.out]; rfl, HB1.out⟩
      | false =>
        have HP1 : Aside0 (∀ j, j < i + 1 → ∀ y, ys[j]? = some y → p y = false) := ⟨fun j hj z hz => by
          rcases Nat.lt_or_ge j i with h | h
          · exact HP.out j h z hz
          · obtain rfl : j = i := by omega
            rw [HYs.out] at hz
            injection hz with hz
            rw [← hz]
            exact HQ.out.symm⟩
        go_wp2
        go_roundw
        case rel => exact ⟨i + 1, by omega, by go_num, HP1, HB1⟩
        case measure => simp [intOf]; omega
    · obtain rfl : i = n := by omega
      have HR : Aside0 (idxOf p ys = -1) := ⟨by
        have : ys.findIdx? p = none := List.findIdx?_eq_none_iff.2 (fun x hx => by
          obtain ⟨j, hj⟩ := List.getElem?_of_mem hx
          have hjl := (List.getElem?_eq_some_iff.1 hj).1
          exact HP.out j (by rw [← HL.out]; exact hjl) x hj)
        unfold idxOf
        rw [this]⟩
      clear hi
      go_wp2
      go_ret
      exact ⟨by rw [HR.out]; rfl, HB.out⟩
theorem containsH (fid : Nat) (hent : ∀ args w, (callFunc fid args).run Try.prog w = .ok (.enter fid args) w) (cap : Value) (A : Option Addr) (n c : Nat) (ys : List Hd) (p : Hd → Bool) (w : World) (hC : kH.C w A n ys) (hn : n ≤ 3518437208780)
    (HF : Aside0 (∀ W y, Below w.heap.size w W → Calls Try.prog fid #[y.val, cap] W fun e w' => e = .returned (.bool (p y)) ∧ Below W.heap.size W w')) :
    Calls Try.prog 59 #[.slice A n c, .func (.func fid) #[] #[cap]] w fun e w' => e = .returned (.bool (ys.any p)) ∧ Below w.heap.size w w' := by
  have HI := Aside0.mk (indexH fid hent cap A n c ys p w hC hn HF)
  have HA := Aside0.mk (idxOf_any p ys)
  generalize idxOf p ys = i at *
  generalize ys.any p = q at *
  clear hC hn HF
  go_enter Try.func59, Try.ntmps59
  go_wp2_with fail
  refine HI.out.mono ?_
  rintro e w1 ⟨rfl, hb1⟩
  have HB1 := Aside0.mk hb1
  clear hb1 HI
  go_wp2
  go_ret
  exact ⟨by rw [← HA.out]; rfl, HB1.out⟩
set_option maxHeartbeats 2000000 in
theorem meets1 (x : Hd) (pb : Nat) (B : Option Addr) (m d : Nat) (ys : List Hd) (w : World) (hb : w.cell? ⟨pb, 0, none⟩ = some (.slice B m d)) (hC : kH.C w B m ys) (hm : m ≤ 3518437208780) :
    Calls Try.prog 60 #[x.val, .pointer (some ⟨pb, 0, none⟩)] w fun e w' => e = .returned (.bool (ys.any (fun y => wayH x y))) ∧ Below w.heap.size w w' := by
  have hmk := hmf
  obtain ⟨W, hW⟩ : ∃ W, W = w.alloc (.cells x.cells.toArray TH) := ⟨_, rfl⟩
  have hb0 : Below w.heap.size w W := by rw [hW]; exact (Below.refl _ _).alloc (Nat.le_refl _) _
  have HX : Aside0 (Blk W w.heap.size x.cells TH) := ⟨by rw [hW]; exact Blk.newA w _ _⟩
  have HB := Aside0.mk hb0
  have hc : W.cell? ⟨pb, 0, none⟩ = some (.slice B m d) := pw_cell_below hb0 hb
  have HCn := Aside0.mk (containsH 61 enter11 (.pointer (some ⟨w.heap.size, 0, none⟩)) B m d ys (fun y => wayH x y) W (Kd.C_below hC hb0) hm ⟨fun V y hV => meets11 x y w.heap.size V (HX.out.belowSize hV)⟩)
  generalize ys.any (fun y => wayH x y) = q at *
  clear hb hC hm hb0
  obtain ⟨⟨xlo, xhi, xo⟩, xa⟩ := x
  simp only [Hd.cells, Hd.val] at *
  go_enter Try.func60, Try.ntmps60
  go_upto_region 1 with (fail)
  rw [← hW]
  clear hW
  go_wp2_with fail
  refine HCn.out.mono ?_
  rintro e w1 ⟨rfl, hb1⟩
  have HB1 := Aside0.mk (HB.out.trans (hb1.mono HB.out.size))
  clear hb1 HCn HB hc
  go_wp2
  go_ret
  exact ⟨rfl, HB1.out⟩
set_option maxHeartbeats 2000000 in
theorem meetsCalls (A B : Option Addr) (n m c d : Nat) (xs ys : List Hd) (w : World) (hA : kH.C w A n xs) (hB : kH.C w B m ys) (hn : n ≤ 3518437208780) (hm : m ≤ 3518437208780) :
    Calls Try.prog 51 #[.slice A n c, .slice B m d] w fun e w' => e = .returned (.bool (wayB xs ys)) ∧ Below w.heap.size w w' := by
  have hmk := hmf
  obtain ⟨W, hW⟩ : ∃ W, W = w.alloc (.cells #[.slice B m d] 32) := ⟨_, rfl⟩
  have hb0 : Below w.heap.size w W := by rw [hW]; exact (Below.refl _ _).alloc (Nat.le_refl _) _
  have HX : Aside0 (Blk W w.heap.size [.slice B m d] 32) := ⟨by rw [hW]; exact Blk.newA w _ _⟩
  have HBl := Aside0.mk hb0
  have HCn := Aside0.mk (containsH 60 enter1 (.pointer (some ⟨w.heap.size, 0, none⟩)) A n c xs (fun x => ys.any (fun y => wayH x y)) W (Kd.C_below hA hb0) hn ⟨fun V x hV => meets1 x w.heap.size B m d ys V ((HX.out.belowSize hV).cell 0 _ rfl) (Kd.C_below (Kd.C_below hB hb0) hV) hm⟩)
  have HW : Aside0 (wayB xs ys = xs.any (fun x => ys.any (fun y => wayH x y))) := ⟨rfl⟩
  generalize xs.any (fun x => ys.any (fun y => wayH x y)) = q at *
  rw [HW.out]
  clear hA hB hn hm hb0 HW
  go_enter Try.func51, Try.ntmps51
  go_upto_region 1 with (fail)
  rw [← hW]
  clear hW
  go_wp2_with fail
  refine HCn.out.mono ?_
  rintro e w1 ⟨rfl, hb1⟩
  have HB1 := Aside0.mk (HBl.out.trans (hb1.mono HBl.out.size))
  clear hb1 HCn HBl
  go_wp2
  go_ret
  exact ⟨rfl, HB1.out⟩
end Go.Proofs.Ytkgabeloofjohaa.Gap
