/- The walk of the law ClockRises. -/
import Derived.Test.YtmbekkndjkegdaaClockE
import Derived.Test.YtmbekkndjkegdaaClockMakesW
import Derived.Deep.CutBlock
import Derived.Deep.DeepCutAuto
namespace Go.Proofs.Ytmbekkndjkegdaa.Clock
set_option linter.unusedVariables false
set_option linter.unusedSimpArgs false
open Go.RowKit Go.Proofs.YtmbekkndjkegdaaW.PrintWords Go.Proofs.Ytmbekkndjkegdaa.Kit

/-! what the law is given -/
structure Op where
  take : Bool
  pick : Int
  stamp : Int
abbrev TO : TypeId := 44
def kOp : Kd Op := Kd.iso (Kd.pair Kd.bool (Kd.pair (Kd.int .i64) (Kd.int .u64))) (fun x => (x.take, x.pick, x.stamp))
theorem kOp_cells {w : World} {x : Op} {cs : List Value} (h : kOp.K w x cs) : cs = [.bool x.take, .int .i64 x.pick, .int .u64 x.stamp] := by
  obtain ⟨c0, c1, rfl, h0, c2, c3, rfl, h1, h2⟩ := h
  rw [show c0 = [.bool x.take] from h0, show c2 = [.int .i64 x.pick] from h1, show c3 = [.int .u64 x.stamp] from h2]
  rfl
theorem kOp_at {w : World} {A : Option Addr} {n : Nat} {xs : List Op} (h : kOp.C w A n xs) (i : Nat) (hi : i < n) : ∃ b o x, A = some ⟨b, o, none⟩ ∧ xs[i]? = some x ∧ w.cell? ⟨b, o + i * 3, none⟩ = some (.bool x.take) ∧ w.cell? ⟨b, o + i * 3 + 1, none⟩ = some (.int .i64 x.pick) ∧ w.cell? ⟨b, o + i * 3 + 2, none⟩ = some (.int .u64 x.stamp) := by
  obtain ⟨b, o, x, cs, rfl, hx, hK, hc⟩ := C_at (s := 3) rfl (by omega) h i hi
  have := kOp_cells hK
  subst this
  exact ⟨b, o, x, rfl, hx, hc 0 _ rfl, hc 1 _ rfl, hc 2 _ rfl⟩
theorem kOps_opens : Opens Try.prog 41 (Kd.slice TO kOp) (fun xs => xs.length * 24 ≤ 140737488351232 ∧ ∀ x ∈ xs, True ∧ (Lit.int .i64 x.pick).wf = true ∧ (Lit.int .u64 x.stamp).wf = true) :=
  opens_slice Try.underlying41 (by kernel_rfl) 24 (by kernel_rfl)
    (opens_struct (fun x : Op => (x.take, x.pick, x.stamp)) (fun a => ⟨a.1, a.2.1, a.2.2⟩) (fun _ => rfl) Try.underlying44 3 (by kernel_rfl) _ rfl
      (opensFs_cons rfl (opens_bool Try.underlying4) (opensFs_cons (by kernel_rfl) (opens_int .i64 Try.underlying3) (opensFs_one (by kernel_rfl) (by kernel_rfl) (opens_int .u64 Try.underlying22)))))

/-! the open stamps rise -/
theorem openTo_rises (rs : List Int) (f : Int) (j : Nat) : List.Pairwise (· < ·) (openTo rs f j) := by
  induction j with
  | zero => exact List.Pairwise.nil
  | succ j ih =>
    rw [openTo, List.pairwise_append]
    refine ⟨ih, ?_, ?_⟩
    · unfold open1
      split
      · exact List.pairwise_singleton _ _
      · exact List.Pairwise.nil
    · intro a ha b hb
      have h1 := (openTo_mem rs f a j).1 ha
      unfold open1 at hb
      split at hb
      · rw [List.mem_singleton] at hb; omega
      · simp at hb
theorem rd_mem (os : List Int) (i : Int) (h0 : 0 ≤ i) (h1 : i < os.length) : rd os i ∈ os := by
  have h : i.toNat < os.length := by omega
  have : rd os i = os[i.toNat] := by simp [rd, h]
  rw [this]
  exact List.getElem_mem h
/-- What the open stamps are, one by one. -/
theorem open_at {l f : Int} {rs : List Int} (h : f ≤ l) (i : Int) (h0 : 0 ≤ i) (h1 : i < (openL rs f l).length) : f < rd (openL rs f l) i ∧ rd (openL rs f l) i ≤ l ∧ at_ rs (rd (openL rs f l) i) < rd (openL rs f l) i :=
  (openL_mem h _).1 (rd_mem _ i h0 h1)
theorem open_rises {l f : Int} {rs : List Int} (q : Nat) (h1 : q + 1 < (openL rs f l).length) : rd (openL rs f l) (q : Int) < rd (openL rs f l) ((q + 1 : Nat) : Int) := by
  have hp := List.pairwise_iff_getElem.1 (openTo_rises rs f (l - f).toNat) q (q + 1) (Nat.lt_of_succ_lt h1) h1 (Nat.lt_succ_self q)
  rw [rd_get _ q (Nat.lt_of_succ_lt h1), rd_get _ (q + 1) h1]
  exact hp
theorem open_none {l f : Int} {rs : List Int} (h : Rg l f rs) (he : (openL rs f l).length = 0) : f = l := by
  by_cases e : f < l
  · have hm := (openL_mem (rs := rs) h.fl (f + 1)).2 ⟨by omega, by omega, h.front e⟩
    rw [List.length_eq_zero_iff] at he
    rw [he] at hm
    exact absurd hm (by simp)
  · have := h.fl; omega

/-- A clock in memory, and what holds of its numbers. -/
structure Cl (w0 w : World) (p : Nat) (l f : Int) (rs : List Int) : Prop where
  clk : Clk w p l f rs
  rg : Rg l f rs
  hp : w0.heap.size ≤ p
  below : Below w0.heap.size w0 w
theorem Cl.belowed {w0 w w' : World} {p : Nat} {l f : Int} {rs : List Int} (h : Cl w0 w p l f rs) (hb : Below w.heap.size w w') : Cl w0 w' p l f rs := ⟨h.clk.below hb, h.rg, h.hp, h.below.trans (hb.mono h.below.size)⟩
theorem Cl.turned {w0 w w' : World} {p : Nat} {l f l' f' : Int} {rs rs' : List Int} (h : Cl w0 w p l f rs) (hk : Clk w' p l' f' rs') (hr : Rg l' f' rs') (ho : Only (fun i => i = p) w w') : Cl w0 w' p l' f' rs' :=
  ⟨hk, hr, h.hp, h.below.trans (ho.below (fun i e => by have := h.hp; omega) h.below.size)⟩

set_option maxRecDepth 100000 in
set_option maxHeartbeats 8000000 in
theorem clockRises_walk (l0 : Int) (A : Option Addr) (c : Nat) (xs : List Op) (w : World) (hl0 : 0 ≤ l0) (hC : kOp.C w A xs.length xs) (hxl : xs.length * 24 ≤ 140737488351232) :
    Calls Try.prog 5 #[.int .u64 l0, .slice A xs.length c] w fun e w' => e = .returned (.bool true) ∧ Below w.heap.size w w' := by
  have HC := Aside0.mk hC
  obtain ⟨m, hm'⟩ : ∃ m, m = xs.length := ⟨_, rfl⟩
  have Hm := Aside0.mk hm'
  rw [← hm'] at hxl ⊢
  clear hm' hC
  by_cases hl : l0 ≤ 4611686018427387904
  · go_enter Try.func5, Try.ntmps5
    go_wp2_with fail
    refine (newCalls l0 hl0 hl _).mono ?_
    rintro e w1 ⟨rfl, ha, hb⟩
    have HA1 : Aside0 (Cl w w1 w.heap.size l0 l0 zeros) := ⟨⟨ha, Rg.new l0 hl0 hl, Nat.le_refl _, hb⟩⟩
    clear ha hb
    go_wp2_with fail
    go_loopw [7, 8, 9] (fun a b i wr => ∃ (j : Nat) (l f : Int) (rs : List Int), j ≤ m ∧ a = .int .u64 l ∧ b = .int .u64 f ∧ i = .int .i64 j ∧ Aside0 (Cl w wr w.heap.size l f rs)) (fun _ _ i _ => m - (intOf i).toNat)
    case atStart => exact ⟨0, l0, l0, zeros, Nat.zero_le _, rfl, rfl, rfl, HA1⟩
    case round =>
      clear HA1 hl hl0
      obtain ⟨j, l, f, rs, hj, rfl, rfl, rfl, HA⟩ := hrel
      by_cases hlt : j < m
      · obtain ⟨b, o, x, e, hx, hx0, hx1, hx2⟩ := kOp_at HC.out j (by rw [← Hm.out]; exact hlt)
        subst e
        have HX0 := Aside0.mk hx0
        have HX1 := Aside0.mk hx1
        clear hx hx0 hx1 hx2
        have hf0 := HA.out.rg.f0
        have hfl := HA.out.rg.fl
        have hlM := HA.out.rg.lM
        have hgap := HA.out.rg.gap
        go_wp2_with fail
        refine (openCalls _ l f rs _ HA.out.clk).mono ?_
        rintro e w2 ⟨v2, rfl, hR2, hb2⟩
        have HO := Aside0.mk (open_at (rs := rs) (f := f) (l := l) hfl)
        have HOl := Aside0.mk (openL_len HA.out.clk)
        have HA2 := Aside0.mk (HA.out.belowed hb2)
        obtain ⟨A2, c2, rfl⟩ := Kd.R_slice hR2
        have HR2 := Aside0.mk (Kd.R_reads' hR2).2.2
        clear hR2 hb2 HA
        generalize hos : openL rs f l = os at *
        clear hos
        have hol : os.length ≤ 4096 := HOl.out
        have hx0 := pw_cell_below HA2.out.below HX0.out
        have hx1 := pw_cell_below HA2.out.below HX1.out
        go_upto_if 37 with (fail)
        go_cut [7] (fun v wc => ∃ (l' f' : Int) (rs' : List Int), v = .int .u64 l' ∧ Aside0 (f ≤ f') ∧ Aside0 (Cl w wc w.heap.size l' f' rs'))
        case first =>
          cases hxt : x.take with
          | true =>
            rw [hxt] at hx0
            clear hx1
            go_wp2_with fail
            by_cases h1 : l < 4611686018427387904
            · by_cases h2 : l - f < 4096
              · refine (takeOk _ _ _ _ _ HA2.out.clk h1 h2).mono ?_
                rintro e w3 ⟨rfl, ha3, ho3⟩
                have HA3 := Aside0.mk (HA2.out.turned ha3 (HA2.out.rg.take h1 h2) ho3)
                clear ha3 ho3 HA2 HR2 hx0
                go_wp2
                go_meet
                exact ⟨l + 1, f, rs, rfl, ⟨Int.le_refl _⟩, HA3⟩
              · refine (takeFull _ _ _ _ _ HA2.out.clk h1 (by omega)).mono ?_
                rintro e w3 ⟨rfl, rfl⟩
                go_wp2
                go_meet
                exact ⟨l, f, rs, rfl, ⟨Int.le_refl _⟩, HA2⟩
            · have e : l = 4611686018427387904 := by omega
              subst e
              refine (takeEnd _ _ _ _ HA2.out.clk).mono ?_
              rintro e w3 ⟨rfl, rfl⟩
              go_wp2
              go_meet
              exact ⟨_, f, rs, rfl, ⟨Int.le_refl _⟩, HA2⟩
          | false =>
            rw [hxt] at hx0
            by_cases h1 : 0 ≤ x.pick
            · by_cases h2 : x.pick < os.length
              · obtain ⟨ad, e, hy⟩ := Kd.at_int HR2.out x.pick h1 h2
                subst e
                have HY := Aside0.mk (HO.out x.pick h1 h2)
                generalize rd os x.pick = s at *
                go_wp2_with fail
                refine (doneOk _ _ _ s _ _ HA2.out.clk (fun t => (HA2.out.rg.le t).2) HY.out.1 HY.out.2.1 HY.out.2.2).mono ?_
                rintro e w3 ⟨rfl, f', g1, g2, g3, g4, g5, g6⟩
                have HA3 := Aside0.mk (HA2.out.turned g5 (HA2.out.rg.done s HY.out.1 HY.out.2.1 g1 g2 g4) g6)
                have HF := Aside0.mk g1
                clear g1 g2 g3 g4 g5 g6 HA2 HR2 hx0 hx1 hy
                go_wp2
                go_meet
                exact ⟨l, f', _, rfl, HF, HA3⟩
              · go_wp2
                go_meet
                exact ⟨l, f, rs, rfl, ⟨Int.le_refl _⟩, HA2⟩
            · go_wp2
              go_meet
              exact ⟨l, f, rs, rfl, ⟨Int.le_refl _⟩, HA2⟩
        case rest =>
          clear HA2 HR2 HO HOl hol hx0 hx1 hf0 hfl hlM hgap
          obtain ⟨l', f', rs', rfl, hff, HA⟩ := hcut
          have hff := hff.out
          have hf0 := HA.out.rg.f0
          have hfl := HA.out.rg.fl
          have hlM := HA.out.rg.lM
          go_wp2_with fail
          refine (openCalls _ l' f' rs' _ HA.out.clk).mono ?_
          rintro e w4 ⟨v4, rfl, hR4, hb4⟩
          have HO := Aside0.mk (open_at (rs := rs') (f := f') (l := l') hfl)
          have HS := Aside0.mk (fun q => open_rises (rs := rs') (f := f') (l := l') q)
          have HN := Aside0.mk (open_none HA.out.rg)
          have HOl := Aside0.mk (openL_len HA.out.clk)
          have HA4 := Aside0.mk (HA.out.belowed hb4)
          obtain ⟨A4, c4, rfl⟩ := Kd.R_slice hR4
          have HR4 := Aside0.mk (Kd.R_reads' hR4).2.2
          clear hR4 hb4 HA
          generalize hos : openL rs' f' l' = os4 at *
          clear hos
          have hol : os4.length ≤ 4096 := HOl.out
          go_wp2_with fail
          refine (frontierCalls _ _ _ _ _ HA4.out.clk).mono ?_
          rintro e w5 ⟨rfl, rfl⟩
          go_upto_region 21 with (fail)
          go_cut [98] (fun v wc => v = .bool false ∧ w4 = wc)
          case first =>
            by_cases hz : os4.length = 0
            · have e := HN.out hz
              have hb : ((os4.length : Int) == 0) = true := by simp [hz]
              clear hz
              subst e
              go_wp2
              go_meet
              first
                | exact ⟨rfl, rfl⟩
                | exact ⟨congrArg Value.bool (by simp; omega), rfl⟩
            · have hb : ((os4.length : Int) == 0) = false := by simp; intro h; exact hz (by rw [h]; rfl)
              clear hz
              go_wp2
              go_meet
              first
                | exact ⟨rfl, rfl⟩
                | exact ⟨congrArg Value.bool (by simp; omega), rfl⟩
          case rest =>
            clear HN
            obtain ⟨rfl, rfl⟩ := hcut
            go_wp2_with fail
            go_loopw [14] (fun i wz => ∃ q : Nat, q ≤ os4.length ∧ i = .int .i64 q ∧ Aside0 (Cl w wz w.heap.size l' f' rs') ∧ Aside0 ((Kd.int .u64).C wz A4 os4.length os4)) (fun i _ => os4.length - (intOf i).toNat)
            case atStart => exact ⟨0, Nat.zero_le _, rfl, HA4, HR4⟩
            case round =>
              clear HA4 HR4
              obtain ⟨q, hq, rfl, HAq, HRq⟩ := hrel
              by_cases hqlt : q < os4.length
              · obtain ⟨ad, e, hy⟩ := Kd.at_int HRq.out (q : Int) (by omega) (by omega)
                subst e
                have HY := HO.out (q : Int) (by omega) (by omega)
                have hy1 := HY.1
                have hy2 := HY.2.1
                clear HY
                cases q with
                | zero =>
                  simp only [Int.toNat_natCast] at hy
                  have hy0 : wr.cell? ad = wr.cell? (ad.add 0) := rfl
                  rw [← hy0] at hy
                  clear hy0
                  generalize rd os4 ((0 : Nat) : Int) = r at *
                  have d1 : decide (r ≤ f') = false := decide_eq_false (by omega)
                  have d2 : decide (l' < r) = false := decide_eq_false (by omega)
                  go_wp2_with fail
                  go_quiet (fail)
                  have HAn := Aside0.mk (HAq.out.belowed (pw_below_drewN (Below.refl _ _) nq))
                  have HRn := Aside0.mk (Kd.C_below HRq.out (pw_below_drewN (Below.refl _ _) nq))
                  clear HAq HRq hy hy1 hy2 d1 d2
                  go_wp2
                  go_roundw
                  case rel => exact ⟨1, by omega, by go_num, HAn, HRn⟩
                  case measure => simp [intOf]; omega
                | succ q1 =>
                  obtain ⟨ad2, e2, hz⟩ := Kd.at_int HRq.out (q1 : Int) (by omega) (by omega)
                  injection e2 with e2
                  subst e2
                  have hlt3 := HS.out q1 hqlt
                  simp only [Int.toNat_natCast] at hy hz
                  generalize rd os4 ((q1 + 1 : Nat) : Int) = r at *
                  generalize rd os4 (q1 : Int) = r2 at *
                  have e0 : ((q1 + 1 : Nat) : Int) = (q1 : Int) + 1 := rfl
                  rw [e0]
                  have i1 : IntKind.i64.wrap ((q1 : Int) + 1 - 1) = (q1 : Int) := by rw [Int.add_sub_cancel]; exact IntWalk.i64_in _ (by omega)
                  have i5 : ((q1 : Int) + 1).toNat = q1 + 1 := by omega
                  have i6 : (q1 : Int) + 1 < os4.length := by omega
                  have i7 : (q1 : Int) < os4.length := by omega
                  have d1 : decide (r ≤ f') = false := decide_eq_false (by omega)
                  have d2 : decide (l' < r) = false := decide_eq_false (by omega)
                  have d3 : decide (r ≤ r2) = false := decide_eq_false (by omega)
                  have i8 : (0 : Int) ≤ (q1 : Int) + 1 := by omega
                  have d4 : decide ((0 : Int) < (q1 : Int) + 1) = true := decide_eq_true (by omega)
                  have hyb : wr.cell? ⟨ad.block, ad.off + (q1 + 1), none⟩ = some (.int .u64 r) := by simpa [Addr.add] using hy
                  clear e0
                  go_wp2_with fail
                  go_quiet (fail)
                  have HAn := Aside0.mk (HAq.out.belowed (pw_below_drewN (Below.refl _ _) nq))
                  have HRn := Aside0.mk (Kd.C_below HRq.out (pw_below_drewN (Below.refl _ _) nq))
                  clear HAq HRq hy hyb hz hy1 hy2 hlt3 i1 i5 i6 i7 i8 d1 d2 d3 d4
                  go_wp2
                  go_roundw
                  case rel => exact ⟨q1 + 1 + 1, by omega, by go_num, HAn, HRn⟩
                  case measure => simp [intOf]; omega
              · go_wp2
                go_roundw
                case rel => exact ⟨j + 1, l', f', rs', by omega, rfl, rfl, by go_num, HAq⟩
                case measure => simp [intOf]; omega
      · go_wp2_with fail
        refine (awakeCalls _).mono ?_
        rintro e w7 ⟨rfl, hb7⟩
        have HB7 : Aside0 (Below w.heap.size w w7) := ⟨HA.out.below.trans (hb7.mono HA.out.below.size)⟩
        clear hb7 HA
        go_wp2
        go_ret
        exact ⟨rfl, HB7.out⟩
  · go_enter Try.func5, Try.ntmps5
    go_wp2_with fail
    refine (newArg l0 (by omega) _).mono ?_
    rintro e w1 ⟨rfl, rfl⟩
    go_wp2_with fail
    refine (awakeCalls _).mono ?_
    rintro e w7 ⟨rfl, hb7⟩
    have HB7 := Aside0.mk hb7
    clear hb7
    go_wp2
    go_ret
    exact ⟨rfl, HB7.out⟩
end Go.Proofs.Ytmbekkndjkegdaa.Clock
