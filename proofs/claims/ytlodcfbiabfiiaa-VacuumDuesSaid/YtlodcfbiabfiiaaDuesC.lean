/- Layer 22's Due over a row of tables. -/
import Derived.Test.YtlodcfbiabfiiaaDuesB
import Derived.Test.YtlodcfbiabfiiaaOpen
namespace Go.Proofs.Ytlodcfbiabfiiaa.Dues
set_option linter.unusedVariables false
set_option linter.unusedSimpArgs false
open Go.RowKit Go.Proofs.YtlodcfbiabfiiaaW.PrintWords Go.Proofs.Ytlodcfbiabfiiaa.Kit

/-- due calls one of the two, each over the same question. -/
theorem dueGenPos (x : Ws) (base th : Nat) (r : Bool) (h0 : 0 ≤ x.live) (w : World)
    (HC : Aside0 (∀ W, Calls Try.prog 10 #[.int .i64 x.dead, .int .i64 (base : Int), .int .i64 x.live, .int .i64 (th : Int)] W fun e w' => e = .returned (.bool r) ∧ Drawn0 W w')) :
    Calls Try.prog 8 #[x.val, .int .i64 (base : Int), .int .i64 (th : Int)] w fun e w' => e = .returned (.bool r) ∧ Below w.heap.size w w' := by
  obtain ⟨xl, xv, xd, xr, xe⟩ := x
  simp only at h0 HC
  simp only [Ws.val]
  go_enter Try.func8, Try.ntmps8
  go_wp2_with fail
  have HB : Aside0 (Below w.heap.size w (w.alloc (.cells #[.int .i64 xl, .int .i64 xv, .int .i64 xd, .int .i64 xr, .int .i64 xe] TW))) := ⟨(Below.refl _ _).alloc (Nat.le_refl _) _⟩
  refine (HC.out _).mono ?_
  rintro e w1 ⟨rfl, ⟨n1, rfl⟩⟩
  have HB1 := Aside0.mk (pw_below_drewN HB.out n1)
  clear HB HC
  go_wp2
  go_ret
  exact ⟨rfl, HB1.out⟩
theorem dueGenNeg (x : Ws) (base th : Nat) (r : Bool) (h0 : x.live < 0) (w : World)
    (HC : Aside0 (∀ W, Calls Try.prog 11 #[x.val, .int .i64 (base : Int), .int .i64 (th : Int)] W fun e w' => e = .returned (.bool r) ∧ Below W.heap.size W w')) :
    Calls Try.prog 8 #[x.val, .int .i64 (base : Int), .int .i64 (th : Int)] w fun e w' => e = .returned (.bool r) ∧ Below w.heap.size w w' := by
  obtain ⟨xl, xv, xd, xr, xe⟩ := x
  simp only at h0
  simp only [Ws.val] at HC ⊢
  go_enter Try.func8, Try.ntmps8
  go_wp2_with fail
  have HB : Aside0 (Below w.heap.size w (w.alloc (.cells #[.int .i64 xl, .int .i64 xv, .int .i64 xd, .int .i64 xr, .int .i64 xe] TW))) := ⟨(Below.refl _ _).alloc (Nat.le_refl _) _⟩
  refine (HC.out _).mono ?_
  rintro e w1 ⟨rfl, hb1⟩
  have HB1 := Aside0.mk (HB.out.trans (hb1.mono HB.out.size))
  clear HB HC hb1
  go_wp2
  go_ret
  exact ⟨rfl, HB1.out⟩
theorem dueCalls (x : Ws) (hx : x.ok) (base th : Nat) (hb : base < 9223372036854775808) (ht : th < 9223372036854775808) (w : World) :
    Calls Try.prog 8 #[x.val, .int .i64 (base : Int), .int .i64 (th : Int)] w fun e w' => e = .returned (.bool (isDue x base th)) ∧ Below w.heap.size w w' := by
  have hl := hx.live
  have hd := hx.dead
  unfold R64 at hl hd
  by_cases h0 : 0 ≤ x.live
  · obtain ⟨l, hl'⟩ := Int.eq_ofNat_of_zero_le h0
    by_cases h1 : 0 ≤ x.dead
    · obtain ⟨d, hd'⟩ := Int.eq_ofNat_of_zero_le h1
      refine dueGenPos x base th _ h0 w ⟨fun W => ?_⟩
      have h := aboveCalls d base l th (by omega) hb (by omega) ht W
      have e : isDue x base th = decide (base * 1000 + l * th < d * 1000) := by
        unfold isDue
        rw [hl', hd', ← Int.natCast_mul]
        generalize l * th = C
        rw [Bool.eq_iff_iff]
        simp only [decide_eq_true_eq]
        omega
      rw [e, hl', hd']
      exact h
    · obtain ⟨l2, hl2⟩ : ∃ l2 : Nat, x.live = l2 := ⟨l, hl'⟩
      refine dueGenPos x base th _ h0 w ⟨fun W => ?_⟩
      have h := aboveNeg x.dead base l th (by omega) W
      have e : isDue x base th = false := by
        unfold isDue
        rw [hl', ← Int.natCast_mul]
        generalize l * th = C
        rw [decide_eq_false_iff_not]
        omega
      rw [e, hl']
      exact h
  · obtain ⟨nl, hnl⟩ : ∃ nl : Nat, x.live = -(nl : Int) := ⟨(-x.live).toNat, by omega⟩
    refine dueGenNeg x base th _ (by omega) w ⟨fun W => ?_⟩
    by_cases h1 : 0 ≤ x.dead
    · obtain ⟨d, hd'⟩ := Int.eq_ofNat_of_zero_le h1
      exact belowPos x nl d base th hnl (by omega) (by omega) hd' (by omega) hb ht W
    · obtain ⟨nd, hnd⟩ : ∃ nd : Nat, x.dead = -(nd : Int) := ⟨(-x.dead).toNat, by omega⟩
      exact belowNeg x nl nd base th hnl (by omega) (by omega) hnd (by omega) (by omega) hb ht W

abbrev S := PVacuumDues.S31
def toWs (x : S) : Ws := ⟨x.f0, x.f1, x.f2, x.f3, x.f4⟩
def due1 (l : List S) (base th : Nat) (i : Nat) : List Int := cond (isDue (toWs (PVacuumDues.rd_T31 l (i : Int))) base th) [(i : Int)] []
def dueTo (l : List S) (base th : Nat) : Nat → List Int
  | 0 => []
  | j + 1 => dueTo l base th j ++ due1 l base th j
theorem dueTo_len (l : List S) (base th j : Nat) : (dueTo l base th j).length ≤ j := by
  induction j with
  | zero => simp [dueTo]
  | succ j ih =>
    have : (due1 l base th j).length ≤ 1 := by unfold due1; cases isDue (toWs (PVacuumDues.rd_T31 l (j : Int))) base th <;> simp
    simp only [dueTo, List.length_append]
    omega
theorem infoI : (Try.prog.info? 3).map (fun i => (i.zero, i.size, i.bytes)) = some (some (.int .i64 0), 1, 8) := by kernel_rfl

set_option maxRecDepth 100000 in
set_option maxHeartbeats 4000000 in
theorem dueAll (A : Option Addr) (c : Nat) (l : List S) (base th : Nat) (hb : base < 9223372036854775808) (ht : th < 9223372036854775808) (hl : l.length ≤ 17592186044000) (hok : ∀ i : Nat, i < l.length → (toWs (PVacuumDues.rd_T31 l (i : Int))).ok) (w : World) (hC : PVacuumDues.k31.C w A l.length l) :
    Calls Try.prog 4 #[.slice A l.length c, .int .i64 (base : Int), .int .i64 (th : Int)] w fun e w' => ∃ v, e = .returned (.tuple #[v, .int .i64 0]) ∧ (Kd.int .i64).R 3 w' w.heap.size (fun _ => True) v (dueTo l base th l.length) ∧ Below w.heap.size w w' := by
  have HC := Aside0.mk hC
  have HOk := Aside0.mk hok
  have n1 : ¬ (base : Int) < 0 := by omega
  have n2 : ¬ (th : Int) < 0 := by omega
  obtain ⟨m, hm'⟩ : ∃ m, m = l.length := ⟨_, rfl⟩
  have Hm := Aside0.mk hm'
  rw [← hm'] at hl ⊢
  clear hm' hC hok
  go_enter Try.func4, Try.ntmps4
  go_wp2_with fail
  go_loopw [8, 19] (fun v i wr => ∃ j : Nat, j ≤ m ∧ i = .int .i64 j ∧ Aside0 ((Kd.int .i64).R 3 wr w.heap.size (fun _ => True) v (dueTo l base th j)) ∧ Aside0 (Below w.heap.size w wr)) (fun _ i _ => m - (intOf i).toNat)
  case atStart => exact ⟨0, Nat.zero_le _, rfl, ⟨Kd.R_nil _ _ _ _ _⟩, ⟨Below.refl _ _⟩⟩
  case round =>
    obtain ⟨j, hj, rfl, HR, HB⟩ := hrel
    by_cases hlt : j < m
    · obtain ⟨b, o, x, cs, e, hx, hK, hc⟩ := C_at (s := 5) rfl (by omega) HC.out j (by rw [← Hm.out]; exact hlt)
      subst e
      have := PVacuumDues.k31_open hK
      subst this
      have hxr : PVacuumDues.rd_T31 l (j : Int) = x := by unfold PVacuumDues.rd_T31; rw [Int.toNat_natCast, List.getD_eq_getElem?_getD, hx]; rfl
      have HOx : Aside0 ((toWs x).ok) := ⟨by rw [← hxr]; exact HOk.out j (by rw [← Hm.out]; exact hlt)⟩
      have HT : Aside0 (dueTo l base th (j + 1) = dueTo l base th j ++ cond (isDue (toWs x) base th) [(j : Int)] []) := ⟨by rw [← hxr]; rfl⟩
      have HS := Aside0.mk (dueTo_len l base th j)
      have hx0 : wr.cell? ⟨b, o + j * 5, none⟩ = some (.int .i64 x.f0) := pw_cell_below HB.out (hc 0 _ rfl)
      have hx1 := pw_cell_below HB.out (hc 1 _ rfl)
      have hx2 := pw_cell_below HB.out (hc 2 _ rfl)
      have hx3 := pw_cell_below HB.out (hc 3 _ rfl)
      have hx4 := pw_cell_below HB.out (hc 4 _ rfl)
      have HD := Aside0.mk (fun W => dueCalls (toWs x) HOx.out base th hb ht W)
      obtain ⟨xl, xv, xd, xr, xe⟩ := x
      simp only [toWs, Ws.val] at HD
      clear hx hK hc hxr HOx
      simp only [toWs] at HT
      obtain ⟨r, hr⟩ : ∃ r, r = isDue ⟨xl, xv, xd, xr, xe⟩ base th := ⟨_, rfl⟩
      rw [← hr] at HT HD
      clear hr
      go_wp2_with fail
      obtain ⟨W, hW⟩ : ∃ W, W = wr.alloc (.cells #[.int .i64 xl, .int .i64 xv, .int .i64 xd, .int .i64 xr, .int .i64 xe] TW) := ⟨_, rfl⟩
      have hb2 : Below wr.heap.size wr W := by rw [hW]; exact (Below.refl _ _).alloc (Nat.le_refl _) _
      have HB2 := Aside0.mk (HB.out.trans (hb2.mono HB.out.size))
      have HR2 := Aside0.mk (Kd.R_below HR.out hb2)
      rw [← hW]
      clear hW hb2 HB HR hx0 hx1 hx2 hx3 hx4
      refine (HD.out _).mono ?_
      rintro e w3 ⟨rfl, hb3⟩
      have HB3 := Aside0.mk (HB2.out.trans (hb3.mono HB2.out.size))
      have HR3 := Aside0.mk (Kd.R_below HR2.out hb3)
      clear hb3 HB2 HR2 HD
      cases r with
      | true =>
        simp only [cond_true] at HT
        go_wp2_with ((with_reducible refine gate_builtin (b := .append) (xs := #[.tmp 28, .tmp 30]) rfl ?_); at_builtin; refine Kd.R_append (Kd.int .i64) (w0 := w) w.heap.size rfl (.tmp 28) (.tmp 30) 23 3 (.int .i64 0) 8 rfl Try.underlying23 infoI rfl (by decide) (by omega) u8 (dueTo l base th j) (j : Int) [.int .i64 (j : Int)] (fun _ => True) (fun _ => False) rfl rfl ?aP (fun _ hk => hk.elim) ?aF ?aO ?aB ?aS ?aL ?_; (case aP => exact rfl); (case aF => exact fun _ _ => trivial); (case aO => exact HR3.out); (case aB => exact HB3.out); (case aS => exact below_size HB3.out); (case aL => have := HS.out; omega); intro v1 w1 ho hb hg hat; have HO1 := Aside0.mk ho; have HB1 := Aside0.mk hb; clear ho hb hg hat HR3 HB3)
        go_roundw
        case rel => exact ⟨j + 1, by omega, by go_num, ⟨by rw [HT.out]; exact HO1.out⟩, HB1⟩
        case measure => simp [intOf]; omega
      | false =>
        simp only [cond_false, List.append_nil] at HT
        go_wp2
        go_roundw
        case rel => exact ⟨j + 1, by omega, by go_num, ⟨by rw [HT.out]; exact HR3.out⟩, HB3⟩
        case measure => simp [intOf]; omega
    · have e : j = m := by omega
      subst e
      go_wp2
      go_ret2
      exact ⟨_, rfl, HR.out, HB.out⟩
end Go.Proofs.Ytlodcfbiabfiiaa.Dues
