/- The walk of the law SkipLevels. -/
import Derived.Test.YtnpjppnahfehnaaSkipTurnsW
import Derived.Test.YtnpjppnahfehnaaSkipS
import Derived.Deep.QuietTactic
import Derived.BigQuiet
namespace Go.Proofs.Ytnpjppnahfehnaa.Skip
set_option linter.unusedVariables false
set_option linter.unusedSimpArgs false
open Go.RowKit Go.Proofs.YtnpjppnahfehnaaW.PrintWords Go.Proofs.Ytnpjppnahfehnaa.Kit Go.MuLone

theorem kS_at {w : World} {A : Option Addr} {n : Nat} {xs : List ByteArray} (h : Kd.string.C w A n xs) (i : Nat) (hi : i < n) : ∃ b o x, A = some ⟨b, o, none⟩ ∧ xs[i]? = some x ∧ w.cell? ⟨b, o + i, none⟩ = some (.string x) := by
  obtain ⟨b, o, x, cs, rfl, hx, hK, hc⟩ := C_at (s := 1) rfl (by omega) h i hi
  have e : cs = [.string x] := hK
  subst e
  have := hc 0 _ rfl
  rw [Nat.mul_one, Nat.add_zero] at this
  exact ⟨b, o, x, rfl, hx, this⟩
theorem kL_at {w : World} {A : Option Addr} {n : Nat} {xs : List (List ByteArray)} (h : (Kd.slice TStr Kd.string).C w A n xs) (i : Nat) (hi : i < n) : ∃ b o K A0 c0, A = some ⟨b, o, none⟩ ∧ xs[i]? = some K ∧ w.cell? ⟨b, o + i, none⟩ = some (.slice A0 K.length c0) ∧ Kd.string.C w A0 K.length K := by
  obtain ⟨b, o, K, cs, rfl, hx, hK, hc⟩ := C_at (s := 1) rfl (by omega) h i hi
  obtain ⟨A0, c0, rfl, _, hC⟩ := hK
  have := hc 0 _ rfl
  rw [Nat.mul_one, Nat.add_zero] at this
  exact ⟨b, o, K, A0, c0, rfl, hx, this, hC⟩

set_option maxRecDepth 100000 in
set_option maxHeartbeats 8000000 in
theorem skipLevels_walk (A : Option Addr) (c : Nat) (xs : List Op) (xk rlo rhi : ByteArray) (opn bk : Bool) (most : Int) (w : World) (hC : kOp.C w A xs.length xs) (hxl : xs.length * 40 ≤ 140737488351232) :
    Calls Try.prog 4 #[.slice A xs.length c, .agg #[.string xk, .string rlo, .string rhi, .bool opn, .bool bk, .int .i64 most]] w fun e w' => e = .returned (.bool true) ∧ Below w.heap.size w w' := by
  have hz := zeroE
  have hzr := zeroRg
  obtain ⟨W, hW⟩ : ∃ W, W = w.alloc (.cells #[.string xk, .string rlo, .string rhi, .bool opn, .bool bk, .int .i64 most] TLook) := ⟨_, rfl⟩
  have hb : Below w.heap.size w W := by rw [hW]; exact (Below.refl _ _).alloc (Nat.le_refl _) _
  have HX : Aside0 (Blk W w.heap.size [.string xk, .string rlo, .string rhi, .bool opn, .bool bk, .int .i64 most] TLook) := ⟨by rw [hW]; exact Blk.newA w _ _⟩
  have HB := Aside0.mk hb
  have HCW := Aside0.mk (Kd.C_below hC hb)
  have HM := Aside0.mk (madeCalls A c xs true W HCW.out hxl)
  have HM2 : Aside0 (∀ V, Below W.heap.size W V → Calls Try.prog 7 #[.slice A xs.length c, .bool false] V fun e w' => ∃ (g : Nat) (hd : Nd) (ns : List Nd), e = .returned (.pointer (some ⟨g, 0, none⟩)) ∧ Ol V w' g hd ns ∧ ns.map en = runE false xs) := ⟨fun V h => madeCalls A c xs false V (Kd.C_below HCW.out h) hxl⟩
  have HLn : Aside0 ((runE true xs).length ≤ 3518437208780) := ⟨by have := runE_len true xs xs.length; rw [List.take_length] at this; omega⟩
  have HKv := Aside0.mk (runE_kv true false xs)
  clear hC hb HCW
  go_enter Try.func4, Try.ntmps4
  go_wp2_with fail
  rw [← hW]
  clear hW hxl
  refine HM.out.mono ?_
  rintro e w1 ⟨g, hd, ns, rfl, ha, he⟩
  have HA1 := Aside0.mk ha
  have HE := Aside0.mk he
  have HX1 := Aside0.mk (HX.out.belowSize ha.below)
  clear ha he HM HX
  go_wp2_with fail
  refine (HM2.out _ HA1.out.below).mono ?_
  rintro e w2 ⟨g2, hd2, ns2, rfl, ha, he⟩
  have HF2 := Aside0.mk ha
  have HE2 := Aside0.mk he
  have HA2 := Aside0.mk (HA1.out.belowed ha.below)
  have HX2 := Aside0.mk (HX1.out.belowSize ha.below)
  clear ha he HM2 HX1 HA1
  have HNl := Aside0.mk (map_len HE.out)
  have HNl2 : Aside0 (ns2.length = (runE true xs).length) := ⟨by rw [map_len HE2.out]; exact (kv_len HKv.out).symm⟩
  generalize runE true xs = es at *
  generalize runE false xs = fs at *
  have HSk2 := Aside0.mk HA2.out.sk
  have HFk2 := Aside0.mk HF2.out.sk
  have HLv := Aside0.mk (levelsCalls g hd ns w2 HSk2.out (by rw [HNl.out]; exact HLn.out))
  go_wp2_with fail
  refine HLv.out.mono ?_
  rintro e w3 ⟨v3, rfl, hr3, hb3⟩
  obtain ⟨A3, c3, rfl⟩ := Kd.S_slice hr3
  have HC3 := Aside0.mk (Kd.S_reads' hr3).2.2
  have hts : ∀ x ∈ ns, 1 ≤ x.h := fun x hx => (HSk2.out.hts x hx).1
  have hLp := lvFrom_pos ns hts
  rw [HNl.out] at hLp
  have HLg : Aside0 (∀ (j : Nat) (K : List ByteArray), (lvFrom ns 16 0)[j]? = some K → K = lvlE j es ∧ K ≠ []) := ⟨fun j K h => by
    obtain ⟨h1, h2⟩ := lvFrom_get ns 16 0 j K h
    rw [Nat.zero_add, lvl_en, HE.out] at h1
    exact ⟨h1, h2⟩⟩
  have HLn16 := Aside0.mk (lvFrom_len ns 16 0)
  have HLp := Aside0.mk hLp
  have HA3 := Aside0.mk (HA2.out.belowed hb3)
  have HF3 := Aside0.mk (HF2.out.belowed hb3)
  have HX3 := Aside0.mk (HX2.out.belowSize hb3)
  clear hr3 hb3 hts hLp HLv HSk2 HFk2 HA2 HF2 HX2
  generalize lvFrom ns 16 0 = L at *
  have HSc1 : Aside0 (∀ W, Sk W g 0 hd ns → Calls Try.prog 8 #[.pointer (some ⟨g, 0, none⟩), .agg #[.string ByteArray.empty, .string ByteArray.empty, .bool true], .bool false, .int .i64 es.length] W fun e w' => ∃ v, e = .returned v ∧ MR w' W.heap.size v es ∧ Below W.heap.size W w') := ⟨fun W h => by
    have := scanCalls g hd ns ByteArray.empty ByteArray.empty true false es.length W h (by rw [HNl.out]; exact HLn.out)
    rw [HE.out, pick_all, cond_false, mid_all _ _ _ rfl] at this
    exact this⟩
  have HLe : Aside0 (∀ W, Sk W g 0 hd ns → Calls Try.prog 9 #[.pointer (some ⟨g, 0, none⟩)] W fun e w' => e = .returned (.int .i64 es.length) ∧ W = w') := ⟨fun W h => by
    have := lenCalls g hd ns W h
    rw [HNl.out] at this
    exact this⟩
  have HLf : Aside0 (∀ W, Sk W g2 0 hd2 ns2 → Calls Try.prog 9 #[.pointer (some ⟨g2, 0, none⟩)] W fun e w' => e = .returned (.int .i64 es.length) ∧ W = w') := ⟨fun W h => by
    have := lenCalls g2 hd2 ns2 W h
    rw [HNl2.out] at this
    exact this⟩
  have HSk3 := Aside0.mk HA3.out.sk
  go_wp2_with fail
  refine (HLe.out _ HSk3.out).mono ?_
  rintro e w4 ⟨rfl, rfl⟩
  go_wp2_with fail
  refine (HSc1.out _ HSk3.out).mono ?_
  rintro e w4 ⟨v4, rfl, hr4, hb4⟩
  obtain ⟨A4, c4, rfl⟩ := Kd.R_slice hr4
  have HA4 := Aside0.mk (HA3.out.belowed hb4)
  have HF4 := Aside0.mk (HF3.out.belowed hb4)
  have HX4 := Aside0.mk (HX3.out.belowSize hb4)
  have HC4 := Aside0.mk (Kd.C_below HC3.out hb4)
  have HD4 := Aside0.mk (Kd.R_reads' hr4).2.2
  clear hr4 hb4 HA3 HF3 HX3 HC3 HSk3 HSc1
  have HSk4 := Aside0.mk HA4.out.sk
  have HFk4 := Aside0.mk HF4.out.sk
  go_wp2_with fail
  refine (HLe.out _ HSk4.out).mono ?_
  rintro e w' ⟨rfl, rfl⟩
  go_wp2_with fail
  refine (HLf.out _ HFk4.out).mono ?_
  rintro e w' ⟨rfl, rfl⟩
  go_wp2_with fail
  refine (HLe.out _ HSk4.out).mono ?_
  rintro e w' ⟨rfl, rfl⟩
  clear HLe HLf HSk4 HFk4
  have HLq := HLp.out
  go_upto_region 9 with (fail)
  clear HLq HLp
  have HP4 : Aside0 (Ol W w4 g hd ns ∧ Ol w1 w4 g2 hd2 ns2 ∧ Blk w4 w.heap.size [.string xk, .string rlo, .string rhi, .bool opn, .bool bk, .int .i64 most] TLook ∧ (Kd.slice TStr Kd.string).C w4 A3 L.length L ∧ kE.C w4 A4 es.length es) := ⟨HA4.out, HF4.out, HX4.out, HC4.out, HD4.out⟩
  clear HA4 HF4 HX4 HC4 HD4
  go_wp2_with fail
  go_loopw [9] (fun v wr => ∃ n : Nat, n ≤ L.length ∧ v = .int .i64 n ∧ Aside0 (Ol W wr g hd ns ∧ Ol w1 wr g2 hd2 ns2 ∧ Blk wr w.heap.size [.string xk, .string rlo, .string rhi, .bool opn, .bool bk, .int .i64 most] TLook ∧ (Kd.slice TStr Kd.string).C wr A3 L.length L ∧ kE.C wr A4 es.length es)) (fun v _ => L.length - (intOf v).toNat)
  case atStart => exact ⟨0, Nat.zero_le _, rfl, HP4⟩
  case round =>
    clear HP4
    obtain ⟨n, hn, rfl, HP⟩ := hrel
    by_cases hlt : n < L.length
    · have hlt2 : (n : Int) < (L.length : Int) := by omega
      go_upto_region 13 with (fail)
      obtain ⟨b3, o3, K, _, _, a30, hK, _, _⟩ := kL_at HP.out.2.2.2.1 n hlt
      subst a30
      obtain ⟨hKe, hKn⟩ := HLg.out n K hK
      have HK := Aside0.mk hK
      have HKe := Aside0.mk hKe
      have HKn := Aside0.mk hKn
      have HLt := Aside0.mk hlt
      clear hK hKe hKn hlt2 hlt
      go_wp2_with fail
      go_loopw [10, 11] (fun v10 v11 wr => ∃ i : Nat, i ≤ es.length ∧ v11 = .int .i64 i ∧ v10 = .int .i64 (lvlE n (es.take i)).length ∧ Aside0 (Ol W wr g hd ns ∧ Ol w1 wr g2 hd2 ns2 ∧ Blk wr w.heap.size [.string xk, .string rlo, .string rhi, .bool opn, .bool bk, .int .i64 most] TLook ∧ (Kd.slice TStr Kd.string).C wr (some ⟨b3, o3, none⟩) L.length L ∧ kE.C wr A4 es.length es)) (fun _ v _ => es.length - (intOf v).toNat)
      case atStart => exact ⟨0, Nat.zero_le _, rfl, rfl, HP⟩
      case round =>
        clear HP
        obtain ⟨i, hi, rfl, rfl, HP⟩ := hrel
        by_cases hil : i < es.length
        · have hil2 : (i : Int) < (es.length : Int) := by omega
          obtain ⟨b4, o4, x, a4, hx, x0, x1, x2⟩ := kE_at HP.out.2.2.2.2 i hil
          subst a4
          have hes := HLn.out
          have htk : (lvlE n (es.take i)).length ≤ i := by
            unfold lvlE
            rw [List.length_map]
            refine Nat.le_trans (List.length_filter_le _ _) ?_
            rw [List.length_take]; omega
          have i1 : IntKind.i64.wrap ((i : Int) + 1) = ((i + 1 : Nat) : Int) := IntWalk.i64_in _ (by omega)
          by_cases hh : (n : Int) < x.h
          · obtain ⟨t1, t2, t3⟩ := lvlE_hit n es i x hx hh
            have d0 : decide ((n : Int) < x.h) = true := decide_eq_true hh
            generalize (lvlE n (es.take i)).length = q at *
            have HT3 := Aside0.mk t3
            rw [← HKe.out] at t1 t2
            clear t3 hx
            obtain ⟨b6, o6, K', A5, c5, a3, hK', p0, hKc⟩ := kL_at HP.out.2.2.2.1 n HLt.out
            rw [HK.out] at hK'
            injection hK' with hK'
            injection a3 with a3
            injection a3 with a31 a32
            subst hK' a31 a32
            obtain ⟨b5, o5, y, a5, hy, r0⟩ := kS_at hKc q t2
            rw [t1] at hy
            injection hy with hy
            subst hy a5
            have q1 : IntKind.i64.wrap ((q : Int) + 1) = ((q + 1 : Nat) : Int) := IntWalk.i64_in _ (by omega)
            have q2 : (q : Int) < (K.length : Int) := by omega
            have q3 : decide ((K.length : Int) ≤ (q : Int)) = false := decide_eq_false (by omega)
            have q4 : decide (K.length ≤ q) = false := decide_eq_false (by omega)
            have n2 : (n : Int) < (L.length : Int) := by have := HLt.out; omega
            clear t1 t2 hKc
            go_upto_region 17 with (fail)
            go_quiet (fail)
            have hbq : Below wr.heap.size wr (wr.drewN nq) := pw_below_drewN (Below.refl _ wr) nq
            have HPq : Aside0 (Ol W (wr.drewN nq) g hd ns ∧ Ol w1 (wr.drewN nq) g2 hd2 ns2 ∧ Blk (wr.drewN nq) w.heap.size [.string xk, .string rlo, .string rhi, .bool opn, .bool bk, .int .i64 most] TLook ∧ (Kd.slice TStr Kd.string).C (wr.drewN nq) (some ⟨b3, o3, none⟩) L.length L ∧ kE.C (wr.drewN nq) (some ⟨b4, o4, none⟩) es.length es) := ⟨HP.out.1.belowed hbq, HP.out.2.1.belowed hbq, HP.out.2.2.1.belowSize hbq, Kd.C_below HP.out.2.2.2.1 hbq, Kd.C_below HP.out.2.2.2.2 hbq⟩
            clear HP hbq p0 r0 x0 x1 x2 hh d0 q2 q3 q4 n2
            go_wp2
            go_roundw
            case rel => exact ⟨i + 1, by omega, by go_num, by rw [HT3.out]; go_num, HPq⟩
            case measure => simp [intOf]; omega
          · have t3 := lvlE_miss n es i x hx hh
            have d0 : decide ((n : Int) < x.h) = false := decide_eq_false hh
            have HT3 := Aside0.mk t3
            clear t3 hx hh htk
            go_wp2
            go_roundw
            case rel => exact ⟨i + 1, by omega, by go_num, by rw [HT3.out], HP⟩
            case measure => simp [intOf]; omega
        · obtain rfl : i = es.length := by omega
          clear hil hi
          rw [List.take_length, ← HKe.out]
          obtain ⟨b6, o6, K', A5, c5, a3, hK', p0, hKc⟩ := kL_at HP.out.2.2.2.1 n HLt.out
          rw [HK.out] at hK'
          injection hK' with hK'
          injection a3 with a3
          injection a3 with a31 a32
          subst hK' a31 a32
          have hKp : 0 < K.length := by
            rcases hq : K with _ | ⟨a, b⟩
            · exact absurd hq HKn.out
            · simp
          have n2 : (n : Int) < (L.length : Int) := by have := HLt.out; omega
          have d1 : decide (K.length = 0) = false := decide_eq_false (by omega)
          have d2 : (K.length == 0) = false := beq_eq_false_iff_ne.2 (by omega)
          have d3 : ((K.length : Int) == 0) = false := beq_eq_false_iff_ne.2 (by omega)
          have d5 : (K.length = 0) = False := eq_false (by omega)
          have d6 : ((K.length : Int) = 0) = False := eq_false (by omega)
          have d7 : decide ((K.length : Int) = 0) = false := decide_eq_false (by omega)
          have d4 : (K = []) = False := eq_false HKn.out
          have hl16 := HLn16.out
          have hl2 := HLt.out
          have n1 : IntKind.i64.wrap ((n : Int) + 1) = ((n + 1 : Nat) : Int) := IntWalk.i64_in _ (by omega)
          clear hKc hKp
          go_upto_region 11 with (fail)
          clear p0 n2 d1 d2 d3 d4 d5 d6 d7
          go_wp2
          go_roundw
          case rel => exact ⟨n + 1, by omega, by go_num, HP⟩
          case measure => simp [intOf]; omega
    · obtain rfl : n = L.length := by omega
      have z1 := HP.out.2.2.1.cell 1 _ rfl
      have z2 := HP.out.2.2.1.cell 2 _ rfl
      have z3 := HP.out.2.2.1.cell 3 _ rfl
      have z4 := HP.out.2.2.1.cell 4 _ rfl
      have z5 := HP.out.2.2.1.cell 5 _ rfl
      have HS5 := Aside0.mk (scanCalls g hd ns rlo rhi opn bk most wr HP.out.1.sk (by rw [HNl.out]; exact HLn.out))
      rw [HE.out] at HS5
      clear hlt hn
      go_wp2_with fail
      refine HS5.out.mono ?_
      rintro e w5 ⟨v5, rfl, hr5, hb5⟩
      have HF5 := Aside0.mk (HP.out.2.1.belowed hb5)
      have HX5 := Aside0.mk (HP.out.2.2.1.belowSize hb5)
      have HB5 : Aside0 (Below w.heap.size w w5) := ⟨HB.out.trans ((HP.out.1.belowed hb5).below.mono HB.out.size)⟩
      have hlp : (pick es rlo rhi opn bk most).length ≤ es.length := by
        unfold pick
        rw [List.length_take]
        refine Nat.le_trans (Nat.min_le_right _ _) ?_
        cases bk
        · exact List.length_filter_le _ _
        · simp only [cond_true, List.length_reverse]; exact List.length_filter_le _ _
      have HPl := Aside0.mk (Nat.le_trans hlp HLn.out)
      have HKq := Aside0.mk (pick_kv es fs rlo rhi opn bk most HKv.out)
      clear hb5 hlp z1 z2 z3 z4 z5 HS5 HP
      have z1 := HX5.out.cell 1 _ rfl
      have z2 := HX5.out.cell 2 _ rfl
      have z3 := HX5.out.cell 3 _ rfl
      have z4 := HX5.out.cell 4 _ rfl
      have z5 := HX5.out.cell 5 _ rfl
      have HS6 := Aside0.mk (scanCalls g2 hd2 ns2 rlo rhi opn bk most w5 HF5.out.sk (by rw [HNl2.out]; exact HLn.out))
      rw [HE2.out] at HS6
      generalize pick es rlo rhi opn bk most = ps at *
      generalize pick fs rlo rhi opn bk most = qs at *
      obtain ⟨A5, c5, e5⟩ := Kd.R_slice hr5
      subst e5
      have HC5 := Aside0.mk (Kd.R_reads' hr5).2.2
      clear hr5
      go_wp2_with fail
      refine HS6.out.mono ?_
      rintro e w6 ⟨v6, rfl, hr6, hb6⟩
      obtain ⟨A6, c6, e6⟩ := Kd.R_slice hr6
      subst e6
      have HC6 := Aside0.mk (Kd.R_reads' hr6).2.2
      have HD6 := Aside0.mk (Kd.C_below HC5.out hb6)
      have HB6 : Aside0 (Below w.heap.size w w6) := ⟨HB5.out.trans (hb6.mono HB5.out.size)⟩
      have hl := kv_len HKq.out
      rw [← hl] at HC6 ⊢
      clear hr6 hb6 hl z1 z2 z3 z4 z5 HX5 HF5 HB5 HC5 HS6
      go_wp2_with fail
      go_loopw [14] (fun v wr => ∃ j : Nat, j ≤ ps.length ∧ v = .int .i64 j ∧ Aside0 (Below w.heap.size w wr ∧ kE.C wr A5 ps.length ps ∧ kE.C wr A6 ps.length qs)) (fun v _ => ps.length - (intOf v).toNat)
      case atStart => exact ⟨0, Nat.zero_le _, rfl, ⟨HB6.out, HD6.out, HC6.out⟩⟩
      case round =>
        clear HB6 HD6 HC6
        obtain ⟨j, hj, rfl, HP⟩ := hrel
        by_cases hlt : j < ps.length
        · obtain ⟨b1, o1, x, e1, hx, p0, p1, p2⟩ := kE_at HP.out.2.1 j hlt
          obtain ⟨b2, o2, y, e2, hy, r0, r1, r2⟩ := kE_at HP.out.2.2 j hlt
          subst e1 e2
          obtain ⟨k1, k2⟩ := kv_get HKq.out hx hy
          rw [← k1] at r0
          rw [← k2] at r1
          have j2 : (j : Int) < (ps.length : Int) := by omega
          have hPl := HPl.out
          have j1 : IntKind.i64.wrap ((j : Int) + 1) = ((j + 1 : Nat) : Int) := IntWalk.i64_in _ (by omega)
          clear k1 k2 hx hy
          go_upto_region 29 with (fail)
          go_quiet (fail)
          have hbq : Below wr.heap.size wr (wr.drewN nq) := pw_below_drewN (Below.refl _ wr) nq
          have HPq := Aside0.mk (And.intro (HP.out.1.trans (hbq.mono HP.out.1.size)) (And.intro (Kd.C_below HP.out.2.1 hbq) (Kd.C_below HP.out.2.2 hbq)))
          clear hbq HP p0 p1 p2 r0 r1 r2 j2
          go_wp2
          go_roundw
          case rel => exact ⟨j + 1, by omega, by go_num, HPq⟩
          case measure => simp [intOf]; omega
        · obtain rfl : j = ps.length := by omega
          clear hlt hj
          go_wp2_with fail
          refine (awakeCalls _).mono ?_
          rintro e w9 ⟨rfl, hb9⟩
          have HB9 : Aside0 (Below w.heap.size w w9) := ⟨HP.out.1.trans (hb9.mono HP.out.1.size)⟩
          clear hb9 HP
          go_wp2
          go_ret
          exact ⟨rfl, HB9.out⟩
end Go.Proofs.Ytnpjppnahfehnaa.Skip
