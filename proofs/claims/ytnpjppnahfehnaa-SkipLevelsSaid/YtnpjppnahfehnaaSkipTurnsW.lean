/- The walk of the law SkipTurns. -/
import Derived.Test.YtnpjppnahfehnaaSkipQ
import Derived.Test.YtnpjppnahfehnaaPSamex1
import Derived.Deep.QuietTactic
import Derived.BigQuiet
import Derived.Deep.CutBlock
import Derived.Deep.RegionHeld3
import Derived.Deep.DeepCutAuto
namespace Go.Proofs.Ytnpjppnahfehnaa.Skip
set_option linter.unusedVariables false
set_option linter.unusedSimpArgs false
open Go.RowKit Go.Proofs.YtnpjppnahfehnaaW.PrintWords Go.Proofs.Ytnpjppnahfehnaa.Kit Go.MuLone
attribute [local go_sem high] PSame.eqA33

theorem kE_cells {w : World} {x : En} {cs : List Value} (h : kE.K w x cs) : cs = [.string x.k, .int .i64 x.v, .int .i64 x.h] := by
  obtain ⟨c0, c1, rfl, h0, c2, c3, rfl, h1, h2⟩ := h
  rw [show c0 = [.string x.k] from h0, show c2 = [.int .i64 x.v] from h1, show c3 = [.int .i64 x.h] from h2]
  rfl
theorem kE_at {w : World} {A : Option Addr} {n : Nat} {xs : List En} (h : kE.C w A n xs) (i : Nat) (hi : i < n) : ∃ b o x, A = some ⟨b, o, none⟩ ∧ xs[i]? = some x ∧ w.cell? ⟨b, o + i * 3, none⟩ = some (.string x.k) ∧ w.cell? ⟨b, o + i * 3 + 1, none⟩ = some (.int .i64 x.v) ∧ w.cell? ⟨b, o + i * 3 + 2, none⟩ = some (.int .i64 x.h) := by
  obtain ⟨b, o, x, cs, rfl, hx, hK, hc⟩ := C_at (s := 3) rfl (by omega) h i hi
  have := kE_cells hK
  subst this
  exact ⟨b, o, x, rfl, hx, hc 0 _ rfl, hc 1 _ rfl, hc 2 _ rfl⟩
def SortedE (l : List En) : Prop := l.Pairwise (fun a b => ltB a.k b.k = true)
theorem sortedE {ns : List Nd} {l : List En} (h : Sorted ns) (e : ns.map en = l) : SortedE l := by
  unfold SortedE
  rw [← e, List.pairwise_map]
  exact h
theorem mid_sorted {l : List En} (h : SortedE l) (rlo rhi : ByteArray) (opn : Bool) : SortedE (mid l rlo rhi opn) := List.Pairwise.filter _ h
theorem pick_all (l : List En) (rlo rhi : ByteArray) (opn back : Bool) : pick l rlo rhi opn back l.length = cond back (mid l rlo rhi opn).reverse (mid l rlo rhi opn) := by
  unfold pick
  have h : (mid l rlo rhi opn).length ≤ l.length := List.length_filter_le _ _
  rw [Int.toNat_natCast, List.take_of_length_le]
  cases back <;> simp [h]
theorem bl_succ : ∀ x y : List UInt8, Op.bytesLess x (y ++ [0]) = !Op.bytesLess y x
  | [], [] => rfl
  | [], _ :: _ => rfl
  | a :: x, [] => by
    rw [List.nil_append, bl_cons, bl_nil]
    have : decide (a < 0) = false := decide_eq_false (UInt8.not_lt_zero)
    rw [this]
    simp
    rfl
  | a :: x, b :: y => by
    rw [List.cons_append, bl_cons, bl_cons, bl_succ x y]
    by_cases h1 : a < b
    · have h2 : ¬ b < a := by rw [UInt8.lt_iff_toNat_lt] at h1 ⊢; omega
      have h3 : (b == a) = false := by rw [beq_eq_false_iff_ne]; rintro rfl; exact absurd h1 h2
      rw [decide_eq_true h1, decide_eq_false h2, h3]
      rfl
    · by_cases h2 : b < a
      · have h3 : (a == b) = false := by rw [beq_eq_false_iff_ne]; rintro rfl; exact absurd h2 h1
        rw [decide_eq_false h1, decide_eq_true h2, h3]
        rfl
      · obtain rfl : a = b := by
          rw [UInt8.lt_iff_toNat_lt] at h1 h2
          exact UInt8.toNat_inj.1 (by omega)
        rw [decide_eq_false h1]
        simp
abbrev k0 : ByteArray := ⟨#[0]⟩
theorem lt_succ (x key : ByteArray) : ltB x (key ++ k0) = !ltB key x := by
  unfold ltB
  rw [ByteArray.toList_eq, ByteArray.toList_eq, ByteArray.toList_eq]
  have : (key ++ k0).data.toList = key.data.toList ++ [0] := by simp
  rw [this]
  exact bl_succ _ _
theorem pick_fore (l : List En) (key r : ByteArray) : pick l key r true false 1 = (seekE l key false).toList := by
  unfold pick mid seekE inR
  simp only [cond_false, Bool.true_or, Bool.and_true]
  generalize l.filter (fun x => !ltB x.k key) = M
  cases M <;> rfl
theorem lt_nil (x : ByteArray) (e : ByteArray) (he : e.data.toList = []) : ltB x e = false := by
  unfold ltB
  rw [ByteArray.toList_eq e, he]
  exact bl_nil _
theorem pick_back (l : List En) (key e : ByteArray) (he : e.data.toList = []) : pick l e (key ++ k0) false true 1 = (seekE l key true).toList := by
  unfold pick mid seekE inR
  simp only [cond_true, Bool.false_or, lt_succ, lt_nil _ e he, Bool.not_false, Bool.true_and]
  generalize l.filter (fun x => !ltB key x.k) = M
  rcases List.eq_nil_or_concat M with rfl | ⟨M', y, rfl⟩
  · rfl
  · simp
theorem pickE_get (l : List En) (j : Nat) (hj : j < l.length) : l.reverse[l.length - 1 - j]? = l[j]? := by
  rw [List.getElem?_reverse (by omega)]
  congr 1
  omega

theorem cellB {w w' : World} {a : Addr} {v : Value} (hb : Below w.heap.size w w') (hc : w.cell? a = some v) : w'.cell? a = some v := by
  have : a.block < w.heap.size := by
    by_cases h : a.block < w.heap.size
    · exact h
    · simp [World.cell?, Array.getElem?_eq_none (Nat.le_of_not_lt h)] at hc
  rw [hb.cell this]
  exact hc

theorem Ol.far {w0 w w' : World} {g : Nat} {hd : Nd} {ns : List Nd} {b : Nat} {cs : List Value} (h : Ol w0 w g hd ns) (hk : Blk w b cs TE) (hB : w0.heap.size ≤ b) (ho : Only (fun i => i = b) w w') : Ol w0 w' g hd ns :=
  ⟨h.sk.only ho (fun i hi e => by
    subst e
    obtain ⟨cs', t, hb, ht⟩ := h.sk.typed hi
    have := hb.out.symm.trans hk.out
    injection this with this
    injection this with _ ht'
    subst ht'
    revert ht
    decide), h.fp, h.below.trans (ho.below (fun i e => by rw [e]; exact hB) h.below.size)⟩

set_option maxRecDepth 100000 in
set_option maxHeartbeats 8000000 in
theorem skipTurns_walk (A : Option Addr) (c : Nat) (xs : List Op) (xk rlo rhi : ByteArray) (opn bk : Bool) (most : Int) (w : World) (hC : kOp.C w A xs.length xs) (hxl : xs.length * 40 ≤ 140737488351232) (hxk : xk.size ≤ 140737488351232) :
    Calls Try.prog 3 #[.slice A xs.length c, .agg #[.string xk, .string rlo, .string rhi, .bool opn, .bool bk, .int .i64 most]] w fun e w' => e = .returned (.bool true) ∧ Below w.heap.size w w' := by
  have hz := zeroE
  have hzr := zeroRg
  obtain ⟨W, hW⟩ : ∃ W, W = w.alloc (.cells #[.string xk, .string rlo, .string rhi, .bool opn, .bool bk, .int .i64 most] TLook) := ⟨_, rfl⟩
  have hb : Below w.heap.size w W := by rw [hW]; exact (Below.refl _ _).alloc (Nat.le_refl _) _
  have HX : Aside0 (Blk W w.heap.size [.string xk, .string rlo, .string rhi, .bool opn, .bool bk, .int .i64 most] TLook) := ⟨by rw [hW]; exact Blk.newA w _ _⟩
  have HB := Aside0.mk hb
  have HM := Aside0.mk (madeCalls A c xs true W (Kd.C_below hC hb) hxl)
  have HLn : Aside0 ((runE true xs).length ≤ 3518437208780) := ⟨by have := runE_len true xs xs.length; rw [List.take_length] at this; omega⟩
  clear hC hb
  go_enter Try.func3, Try.ntmps3
  go_wp2_with fail
  rw [← hW]
  clear hW hxl
  refine HM.out.mono ?_
  rintro e w1 ⟨g, hd, ns, rfl, ha, he⟩
  have HA1 := Aside0.mk ha
  have HE := Aside0.mk he
  have HSo := Aside0.mk (sortedE ha.sk.srt he)
  have HX1 := Aside0.mk (HX.out.belowSize ha.below)
  have HNl := Aside0.mk (map_len he)
  clear ha he HM HX
  generalize runE true xs = es at *
  have HSc1 : Aside0 (∀ W, Sk W g 0 hd ns → Calls Try.prog 8 #[.pointer (some ⟨g, 0, none⟩), .agg #[.string rlo, .string rhi, .bool opn], .bool false, .int .i64 es.length] W fun e w' => ∃ v, e = .returned v ∧ MR w' W.heap.size v (mid es rlo rhi opn) ∧ Below W.heap.size W w') := ⟨fun W h => by
    have := scanCalls g hd ns rlo rhi opn false es.length W h (by rw [HNl.out]; exact HLn.out)
    rw [HE.out, pick_all, cond_false] at this
    exact this⟩
  have HSc2 : Aside0 (∀ W, Sk W g 0 hd ns → Calls Try.prog 8 #[.pointer (some ⟨g, 0, none⟩), .agg #[.string rlo, .string rhi, .bool opn], .bool true, .int .i64 es.length] W fun e w' => ∃ v, e = .returned v ∧ MR w' W.heap.size v (mid es rlo rhi opn).reverse ∧ Below W.heap.size W w') := ⟨fun W h => by
    have := scanCalls g hd ns rlo rhi opn true es.length W h (by rw [HNl.out]; exact HLn.out)
    rw [HE.out, pick_all, cond_true] at this
    exact this⟩
  have HSe1 : Aside0 (∀ W, Sk W g 0 hd ns → Calls Try.prog 10 #[.pointer (some ⟨g, 0, none⟩), .string xk, .bool false] W fun e w' => e = .returned (seekW (seekE es xk false)) ∧ Below W.heap.size W w') := ⟨fun W h => by
    have := seekAll g hd ns xk false W h
    rw [HE.out] at this
    exact this⟩
  have HSe2 : Aside0 (∀ W, Sk W g 0 hd ns → Calls Try.prog 10 #[.pointer (some ⟨g, 0, none⟩), .string xk, .bool true] W fun e w' => e = .returned (seekW (seekE es xk true)) ∧ Below W.heap.size W w') := ⟨fun W h => by
    have := seekAll g hd ns xk true W h
    rw [HE.out] at this
    exact this⟩
  have HSd1 : Aside0 (∀ W, Sk W g 0 hd ns → Calls Try.prog 8 #[.pointer (some ⟨g, 0, none⟩), .agg #[.string xk, .string ByteArray.empty, .bool true], .bool false, .int .i64 1] W fun e w' => ∃ v, e = .returned v ∧ MR w' W.heap.size v (seekE es xk false).toList ∧ Below W.heap.size W w') := ⟨fun W h => by
    have := scanCalls g hd ns xk ByteArray.empty true false 1 W h (by rw [HNl.out]; exact HLn.out)
    rw [HE.out, pick_fore] at this
    exact this⟩
  have HSd2 : Aside0 (∀ W, Sk W g 0 hd ns → Calls Try.prog 8 #[.pointer (some ⟨g, 0, none⟩), .agg #[.string ByteArray.empty, .string (xk ++ k0), .bool false], .bool true, .int .i64 1] W fun e w' => ∃ v, e = .returned v ∧ MR w' W.heap.size v (seekE es xk true).toList ∧ Below W.heap.size W w') := ⟨fun W h => by
    have := scanCalls g hd ns ByteArray.empty (xk ++ k0) false true 1 W h (by rw [HNl.out]; exact HLn.out)
    rw [HE.out, pick_back _ _ _ (by rfl)] at this
    exact this⟩
  have HLe : Aside0 (∀ W, Sk W g 0 hd ns → Calls Try.prog 9 #[.pointer (some ⟨g, 0, none⟩)] W fun e w' => e = .returned (.int .i64 es.length) ∧ W = w') := ⟨fun W h => by
    have := lenCalls g hd ns W h
    rw [HNl.out] at this
    exact this⟩
  have HMs := Aside0.mk (mid_sorted HSo.out rlo rhi opn)
  have HMl : Aside0 ((mid es rlo rhi opn).length ≤ 3518437208780) := ⟨Nat.le_trans (List.length_filter_le _ _) HLn.out⟩
  generalize mid es rlo rhi opn = M at *
  have y1 := HX1.out.cell 1 _ rfl
  have y2 := HX1.out.cell 2 _ rfl
  have y3 := HX1.out.cell 3 _ rfl
  go_upto_region 4 with (fail)
  go_cut [6] (fun v wc => ∃ (A3 : Option Addr) (c3 : Nat), v = .slice A3 M.length c3 ∧ Aside0 (Ol W wc g hd ns) ∧ Aside0 (Blk wc w.heap.size [.string xk, .string rlo, .string rhi, .bool opn, .bool bk, .int .i64 most] TLook) ∧ Aside0 (kE.C wc A3 M.length M))
  case first =>
    have hd1 : Below w1.heap.size w1 w1.drew := (Below.refl _ w1).drew
    have HSk1 := Aside0.mk (HA1.out.sk.below hd1)
    go_region_with (first
      | (go_at_call 9; refine (HLe.out _ HSk1.out).mono ?_; rintro e w2 ⟨rfl, rfl⟩)
      | (go_at_call 8; refine (HSc1.out _ HSk1.out).mono ?_; rintro e w3 ⟨v3, rfl, hr3, hb3⟩))
    all_goals
      obtain ⟨A3, c3, rfl⟩ := Kd.R_slice hr3
      have hb13 : Below w1.heap.size w1 w3 := hd1.trans (hb3.mono (Nat.le_refl _))
      have HA3 := Aside0.mk (HA1.out.belowed hb13)
      have HX3 := Aside0.mk (HX1.out.belowSize hb13)
      have HC3 := Aside0.mk (Kd.R_reads' hr3).2.2
      clear hb3 hr3 hb13 HA1 HX1 HSk1 hd1 y1 y2 y3
      go_wp2_with fail
      go_meet
      exact ⟨A3, c3, rfl, HA3, HX3, HC3⟩
  case rest =>
  clear HA1 HX1 y1 y2 y3
  obtain ⟨A3, c3, rfl, HA3, HX3, HC3⟩ := hcut
  have y1 := HX3.out.cell 1 _ rfl
  have y2 := HX3.out.cell 2 _ rfl
  have y3 := HX3.out.cell 3 _ rfl
  go_upto_region 5 with (fail)
  go_cut [7] (fun v wz => ∃ (A5 : Option Addr) (c5 : Nat), v = .slice A5 M.length c5 ∧ Aside0 (Ol W wz g hd ns) ∧ Aside0 (Blk wz w.heap.size [.string xk, .string rlo, .string rhi, .bool opn, .bool bk, .int .i64 most] TLook) ∧ Aside0 (kE.C wz A3 M.length M) ∧ Aside0 (kE.C wz A5 M.length M.reverse))
  case first =>
    have hd3 : Below wc.heap.size wc wc.drew := (Below.refl _ wc).drew
    have HSk3 := Aside0.mk (HA3.out.sk.below hd3)
    go_region_with (first
      | (go_at_call 9; refine (HLe.out _ HSk3.out).mono ?_; rintro e w4 ⟨rfl, rfl⟩)
      | (go_at_call 8; refine (HSc2.out _ HSk3.out).mono ?_; rintro e w5 ⟨v5, rfl, hr5, hb5⟩))
    all_goals
      obtain ⟨A5, c5, rfl⟩ := Kd.R_slice hr5
      have hb35 : Below wc.heap.size wc w5 := hd3.trans (hb5.mono (Nat.le_refl _))
      have HA5 := Aside0.mk (HA3.out.belowed hb35)
      have HX5 := Aside0.mk (HX3.out.belowSize hb35)
      have HC5 := Aside0.mk (Kd.C_below HC3.out hb35)
      have HD5 : Aside0 (kE.C w5 A5 M.length M.reverse) := ⟨by
        have := (Kd.R_reads' hr5).2.2
        rw [List.length_reverse] at this
        exact this⟩
      clear hb5 hr5 hb35 HA3 HX3 HC3 HSk3 hd3 y1 y2 y3
      go_wp2_with fail
      go_meet
      exact ⟨A5, c5, by rw [List.length_reverse], HA5, HX5, HC5, HD5⟩
  case rest =>
  clear HA3 HX3 HC3 y1 y2 y3
  obtain ⟨A5, c5, rfl, HA5, HX5, HC5, HD5⟩ := hcut
  clear HSc1 HSc2 HLe
  go_wp2_with fail
  go_loopw [8] (fun i wr => ∃ j : Nat, j ≤ M.length ∧ i = .int .i64 j ∧ Aside0 (Ol W wr g hd ns) ∧ Aside0 (Blk wr w.heap.size [.string xk, .string rlo, .string rhi, .bool opn, .bool bk, .int .i64 most] TLook) ∧ Aside0 (kE.C wr A3 M.length M) ∧ Aside0 (kE.C wr A5 M.length M.reverse)) (fun i _ => M.length - (intOf i).toNat)
  case atStart => exact ⟨0, Nat.zero_le _, rfl, HA5, HX5, HC5, HD5⟩
  case round =>
    clear HA5 HX5 HC5 HD5
    obtain ⟨j, hj, rfl, HA, HX, HC, HD⟩ := hrel
    by_cases hlt : j < M.length
    · obtain ⟨b1, o1, x, e1, hx, p0, p1, p2⟩ := kE_at HC.out j hlt
      obtain ⟨b2, o2, x', e2, hx', r0, r1, r2⟩ := kE_at HD.out (M.length - 1 - j) (by omega)
      rw [pickE_get M j hlt, hx] at hx'
      injection hx' with hx'
      subst hx'
      have hMl := HMl.out
      have i1 : IntKind.i64.wrap ((M.length : Int) - 1) = (M.length : Int) - 1 := IntWalk.i64_in _ (by omega)
      have i2 : IntKind.i64.wrap ((M.length : Int) - 1 - (j : Int)) = ((M.length - 1 - j : Nat) : Int) := by rw [show (M.length : Int) - 1 - (j : Int) = ((M.length - 1 - j : Nat) : Int) by omega]; exact IntWalk.i64_in _ (by omega)
      have i3 : ((M.length - 1 - j : Nat) : Int) < (M.length : Int) := by omega
      have i4 : (0 : Int) ≤ ((M.length - 1 - j : Nat) : Int) := by omega
      generalize hq : M.length - 1 - j = q at *
      clear hq
      have i5 : (j : Int) < (M.length : Int) := by omega
      subst e1 e2
      by_cases h0 : j = 0
      · have d0 : decide ((0 : Int) < (j : Int)) = false := decide_eq_false (by omega)
        have dn : decide (0 < j) = false := decide_eq_false (by omega)
        clear h0
        go_wp2_with fail
        go_quiet (fail)
        have hbq : Below wr.heap.size wr (wr.drewN nq) := pw_below_drewN (Below.refl _ wr) nq
        have HAq := Aside0.mk (HA.out.belowed hbq)
        have HXq := Aside0.mk (HX.out.belowSize hbq)
        have HCq := Aside0.mk (Kd.C_below HC.out hbq)
        have HDq := Aside0.mk (Kd.C_below HD.out hbq)
        clear hbq HA HX HC HD p0 p1 p2 r0 r1 r2 i1 i2 i3 i4 i5 d0
        go_wp2
        go_roundw
        case rel => exact ⟨j + 1, by omega, by go_num, HAq, HXq, HCq, HDq⟩
        case measure => simp [intOf]; omega
      · have d0 : decide ((0 : Int) < (j : Int)) = true := decide_eq_true (by omega)
        have dn : decide (0 < j) = true := decide_eq_true (by omega)
        obtain ⟨b3, o3, y, e3, hy, s0, _, _⟩ := kE_at HC.out (j - 1) (by omega)
        injection e3 with e3
        injection e3 with e4 e5
        subst e4 e5
        have i6 : IntKind.i64.wrap ((j : Int) - 1) = ((j - 1 : Nat) : Int) := by rw [show (j : Int) - 1 = ((j - 1 : Nat) : Int) by omega]; exact IntWalk.i64_in _ (by omega)
        have i7 : ((j - 1 : Nat) : Int) < (M.length : Int) := by omega
        have i8 : (0 : Int) ≤ ((j - 1 : Nat) : Int) := by omega
        have hyx : ltB y.k x.k = true := by
          obtain ⟨h1, e1⟩ := List.getElem?_eq_some_iff.1 hy
          obtain ⟨h2, e2⟩ := List.getElem?_eq_some_iff.1 hx
          have := List.pairwise_iff_getElem.1 HMs.out (j - 1) j h1 h2 (by omega)
          rw [e1, e2] at this
          exact this
        have k1 : Op.bytesLess x.k.toList y.k.toList = false := lt_asymm hyx
        have k2 : (x.k.toList == y.k.toList) = false := by
          rw [beq_key]
          refine decide_eq_false (fun e => ?_)
          rw [e, lt_irrefl] at hyx
          cases hyx
        generalize hq2 : j - 1 = q2 at *
        clear hq2 hyx hy hx h0
        go_wp2_with fail
        go_quiet (fail)
        have hbq : Below wr.heap.size wr (wr.drewN nq) := pw_below_drewN (Below.refl _ wr) nq
        have HAq := Aside0.mk (HA.out.belowed hbq)
        have HXq := Aside0.mk (HX.out.belowSize hbq)
        have HCq := Aside0.mk (Kd.C_below HC.out hbq)
        have HDq := Aside0.mk (Kd.C_below HD.out hbq)
        clear hbq HA HX HC HD p0 p1 p2 r0 r1 r2 i1 i2 i3 i4 i5 i6 i7 i8 d0 dn k1 k2 s0
        go_wp2
        go_roundw
        case rel => exact ⟨j + 1, by omega, by go_num, HAq, HXq, HCq, HDq⟩
        case measure => simp [intOf]; omega
    · obtain rfl : j = M.length := by omega
      clear hlt hj
      have HSk := Aside0.mk HA.out.sk
      have y0 := HX.out.cell 0 _ rfl
      go_wp2_with fail
      refine (HSe1.out _ HSk.out).mono ?_
      rintro e w4 ⟨rfl, hb4⟩
      have HA4 := Aside0.mk (HA.out.belowed hb4)
      have HX4 := Aside0.mk (HX.out.belowSize hb4)
      have HNe : Aside0 (w.heap.size ≠ w4.heap.size ∧ W.heap.size ≤ w4.heap.size) := ⟨Nat.ne_of_lt HX4.out.lt, HA4.out.below.size⟩
      clear hb4 HA HX HC HD HSk y0 HSe1
      rcases hs1 : seekE es xk false with _ | x1
      all_goals simp only [seekW, zE]
      all_goals go_upto_region 14 with (fail)
      · obtain ⟨U, hU⟩ : ∃ U, U = w4.alloc (.cells #[.string ByteArray.empty, .int .i64 0, .int .i64 0] TE) := ⟨_, rfl⟩
        have hbU : Below w4.heap.size w4 U := by rw [hU]; exact (Below.refl _ _).alloc (Nat.le_refl _) _
        have HAU := Aside0.mk (HA4.out.belowed hbU)
        have HXU := Aside0.mk (HX4.out.belowSize hbU)
        have HEU : Aside0 (Blk U w4.heap.size [.string ByteArray.empty, .int .i64 0, .int .i64 0] TE) := ⟨by rw [hU]; exact Blk.newA w4 _ _⟩
        rw [← hU]
        clear hU hbU HA4 HX4
        have y0 := HXU.out.cell 0 _ rfl
        have HSk := Aside0.mk HAU.out.sk
        go_wp2_with fail
        refine (HSd1.out _ HSk.out).mono ?_
        rintro e w5 ⟨v5, rfl, hr5, hb5⟩
        rw [hs1] at hr5
        simp only [Option.toList] at hr5
        obtain ⟨A6, c6, e6⟩ := Kd.R_slice hr5
        rw [List.length_nil] at e6
        subst e6
        have HA5 := Aside0.mk (HAU.out.belowed hb5)
        have HX5 := Aside0.mk (HXU.out.belowSize hb5)
        have HE5 := Aside0.mk (HEU.out.belowSize hb5)
        clear hr5 hb5 HAU HXU HEU y0 HSk HSd1
        have q0 := HE5.out.cell 0 _ rfl
        have q1 := HE5.out.cell 1 _ rfl
        have q2 := HE5.out.cell 2 _ rfl
        go_upto_region 15 with (fail)
        go_quiet (fail)
        have hbq : Below w5.heap.size w5 (w5.drewN nq) := pw_below_drewN (Below.refl _ w5) nq
        have HAq := Aside0.mk (HA5.out.belowed hbq)
        have HXq := Aside0.mk (HX5.out.belowSize hbq)
        have HEq := Aside0.mk (HE5.out.belowSize hbq)
        clear hbq HA5 HX5 HE5 q0 q1 q2
        go_upto_region 17 with (fail)
        have y0 := HXq.out.cell 0 _ rfl
        have HSk := Aside0.mk HAq.out.sk
        have q0 := HEq.out.cell 0 _ rfl
        have q1 := HEq.out.cell 1 _ rfl
        have q2 := HEq.out.cell 2 _ rfl
        generalize w5.drewN nq = wq at *
        go_wp2_with fail
        refine (HSe2.out _ HSk.out).mono ?_
        rintro e w6 ⟨rfl, hb6⟩
        have HA6 := Aside0.mk (HAq.out.belowed hb6)
        have HX6 := Aside0.mk (HXq.out.belowSize hb6)
        have HE6 := Aside0.mk (HEq.out.belowSize hb6)
        clear hb6 HAq HXq HEq y0 q0 q1 q2 HSk HSe2
        have q0 := HE6.out.cell 0 _ rfl
        have q1 := HE6.out.cell 1 _ rfl
        have q2 := HE6.out.cell 2 _ rfl
        have qf0 := HE6.out.free 0
        have qf1 := HE6.out.free 1
        have qf2 := HE6.out.free 2
        rcases hs2 : seekE es xk true with _ | x2
        all_goals simp only [seekW, zE]
        all_goals go_upto_region 18 with (fail)
        · obtain ⟨V, hV⟩ : ∃ V, V = ((w6.setCell ⟨w4.heap.size, 0, none⟩ (.string ByteArray.empty)).setCell ⟨w4.heap.size, 1, none⟩ (.int .i64 0)).setCell ⟨w4.heap.size, 2, none⟩ (.int .i64 0) := ⟨_, rfl⟩
          have HEV : Aside0 (Blk V w4.heap.size [.string ByteArray.empty, .int .i64 0, .int .i64 0] TE) := ⟨by rw [hV]; exact ((HE6.out.put 0 _).put 1 _).put 2 _⟩
          have HXV : Aside0 (Blk V w.heap.size [.string xk, .string rlo, .string rhi, .bool opn, .bool bk, .int .i64 most] TLook) := ⟨by rw [hV]; exact ((HX6.out.far HNe.out.1 _).far HNe.out.1 _).far HNe.out.1 _⟩
          have HAV : Aside0 (Ol W V g hd ns) := ⟨by
            rw [hV]
            exact HA6.out.far HE6.out HNe.out.2 ((((Only.refl (fun i => i = w4.heap.size) w6).setCell (p := ⟨w4.heap.size, 0, none⟩) (.inl rfl) _).setCell (p := ⟨w4.heap.size, 1, none⟩) (.inl rfl) _).setCell (p := ⟨w4.heap.size, 2, none⟩) (.inl rfl) _)⟩
          rw [← hV]
          clear hV HE6 HX6 HA6 q0 q1 q2 qf0 qf1 qf2
          have y0 := HXV.out.cell 0 _ rfl
          have HSk := Aside0.mk HAV.out.sk
          have hcat : ∀ W : World, (Op.stringOp .add xk ⟨#[0]⟩).run Try.prog W = .ok (.string (xk ++ ⟨#[0]⟩)) W := fun W => run_string_add_sum W xk _ (by have : (⟨#[0]⟩ : ByteArray).size = 1 := rfl; omega)
          go_wp2_with fail
          refine (HSd2.out _ HSk.out).mono ?_
          rintro e w7 ⟨v7, rfl, hr7, hb7⟩
          rw [hs2] at hr7
          simp only [Option.toList] at hr7
          obtain ⟨A8, c8, e8⟩ := Kd.R_slice hr7
          rw [List.length_nil] at e8
          subst e8
          have HB7 : Aside0 (Below w.heap.size w w7) := ⟨HB.out.trans ((HAV.out.belowed hb7).below.mono HB.out.size)⟩
          have HE7 := Aside0.mk (HEV.out.belowSize hb7)
          clear hr7 hb7 hcat HAV HXV HEV y0 HSk HSd2
          have q0 := HE7.out.cell 0 _ rfl
          have q1 := HE7.out.cell 1 _ rfl
          have q2 := HE7.out.cell 2 _ rfl
          go_upto_region 19 with (fail)
          refine wp_region_held_drew (S := fun _ => True) (by kernel_rfl) trivial (fun hHeld => ?_)
          refine wpAnyH_take (i := 0) (oi := { dst := some 110, op := Op.move (Operand.tmp 10), type := 4, pos := "law.go:168", after := #[], guard := none }) (v := .bool false) rfl (by kernel_rfl) (by kernel_rfl) (by kernel_rfl) (fun _ _ _ h => h) (Or.inl ⟨by rfl, fun w hSw => by go_simp⟩) (by assumption) ?_
          try simp only [Act.put, List.setIfInBounds_toArray, List.set_cons_zero, List.set_cons_succ]
          refine wpAnyH_take (i := 1) (oi := { dst := some 111, op := Op.move (Operand.tmp 11), type := 29, pos := "law.go:168", after := #[], guard := none }) (v := .slice A8 0 c8) rfl (by kernel_rfl) (by kernel_rfl) (by kernel_rfl) (fun _ _ _ h => h) (Or.inl ⟨by rfl, fun w hSw => by go_simp⟩) (by assumption) ?_
          try simp only [Act.put, List.setIfInBounds_toArray, List.set_cons_zero, List.set_cons_succ]
          refine wpAnyH_take (i := 2) (oi := { dst := some 112, op := Op.call { callee := Callee.builtin Builtin.len, args := #[Operand.tmp 111], argTypes := #[29] }, type := 3, pos := "law.go:168", after := #[{ on := 1, ground := Ground.data }], guard := none }) (v := .int .i64 0) rfl (by kernel_rfl) (by kernel_rfl) (by kernel_rfl) (fun _ _ _ h => h) (Or.inl ⟨by rfl, fun w hSw => by go_simp⟩) (by assumption) ?_
          try simp only [Act.put, List.setIfInBounds_toArray, List.set_cons_zero, List.set_cons_succ]
          refine wpAnyH_take (i := 3) (oi := { dst := some 113, op := Op.binOp BinOp.eql 3 (Operand.tmp 112) (Operand.const (Value.int IntKind.i64 1)) 3, type := 4, pos := "law.go:168", after := #[{ on := 2, ground := Ground.data }], guard := none }) (v := .bool false) rfl (by kernel_rfl) (by kernel_rfl) (by kernel_rfl) (fun _ _ _ h => h) (Or.inl ⟨by rfl, fun w hSw => by go_simp⟩) (by assumption) ?_
          try simp only [Act.put, List.setIfInBounds_toArray, List.set_cons_zero, List.set_cons_succ]
          refine wpAnyH_take (i := 4) (oi := { dst := some 114, op := Op.binOp BinOp.eql 4 (Operand.tmp 110) (Operand.tmp 113) 4, type := 4, pos := "law.go:168", after := #[{ on := 0, ground := Ground.data }, { on := 3, ground := Ground.data }], guard := none }) (v := .bool true) rfl (by kernel_rfl) (by kernel_rfl) (by kernel_rfl) (fun _ _ _ h => h) (Or.inl ⟨by rfl, fun w hSw => by go_simp⟩) (by assumption) ?_
          try simp only [Act.put, List.setIfInBounds_toArray, List.set_cons_zero, List.set_cons_succ]
          refine wpAnyH_take (i := 5) (oi := { dst := some 115, op := Op.move (Operand.tmp 114), type := 4, pos := "law.go:168", after := #[{ on := 4, ground := Ground.data }], guard := none }) (v := .bool true) rfl (by kernel_rfl) (by kernel_rfl) (by kernel_rfl) (fun _ _ _ h => h) (Or.inl ⟨by rfl, fun w hSw => by go_simp⟩) (by assumption) ?_
          try simp only [Act.put, List.setIfInBounds_toArray, List.set_cons_zero, List.set_cons_succ]
          refine wpAnyH_take (i := 6) (oi := { dst := some 116, op := Op.move (Operand.tmp 10), type := 4, pos := "law.go:168", after := #[{ on := 5, ground := Ground.guard }], guard := some (5, true) }) (v := .bool false) rfl (by kernel_rfl) (by kernel_rfl) (by kernel_rfl) (fun _ _ _ h => h) (Or.inl ⟨by rfl, fun w hSw => by go_simp⟩) (by assumption) ?_
          try simp only [Act.put, List.setIfInBounds_toArray, List.set_cons_zero, List.set_cons_succ]
          refine wpAnyH_take (i := 7) (oi := { dst := some 117, op := Op.unOp UnOp.not 4 (Operand.tmp 116), type := 4, pos := "law.go:168", after := #[{ on := 6, ground := Ground.data }, { on := 5, ground := Ground.guard }], guard := some (5, true) }) (v := .bool true) rfl (by kernel_rfl) (by kernel_rfl) (by kernel_rfl) (fun _ _ _ h => h) (Or.inl ⟨by rfl, fun w hSw => by go_simp⟩) (by assumption) ?_
          try simp only [Act.put, List.setIfInBounds_toArray, List.set_cons_zero, List.set_cons_succ]
          refine wpAnyH_take (i := 8) (oi := { dst := some 118, op := Op.move (Operand.tmp 117), type := 4, pos := "law.go:168", after := #[{ on := 7, ground := Ground.data }, { on := 5, ground := Ground.chain }, { on := 5, ground := Ground.guard }], guard := some (5, true) }) (v := .bool true) rfl (by kernel_rfl) (by kernel_rfl) (by kernel_rfl) (fun _ _ _ h => h) (Or.inl ⟨by rfl, fun w hSw => by go_simp⟩) (by assumption) ?_
          try simp only [Act.put, List.setIfInBounds_toArray, List.set_cons_zero, List.set_cons_succ]
          refine wpAnyH_take (i := 9) (oi := { dst := some 119, op := Op.load 33 (Operand.tmp 9), type := 33, pos := "law.go:168", after := #[{ on := 8, ground := Ground.guard }], guard := some (8, false) }) (v := undef) rfl (by kernel_rfl) (by kernel_rfl) (by kernel_rfl) (fun _ _ _ h => h) (Or.inr ⟨by rfl, rfl⟩) (by assumption) ?_
          try simp only [Act.put, List.setIfInBounds_toArray, List.set_cons_zero, List.set_cons_succ]
          refine wpAnyH_take (i := 10) (oi := { dst := some 120, op := Op.move (Operand.tmp 11), type := 29, pos := "law.go:168", after := #[{ on := 8, ground := Ground.guard }], guard := some (8, false) }) (v := undef) rfl (by kernel_rfl) (by kernel_rfl) (by kernel_rfl) (fun _ _ _ h => h) (Or.inr ⟨by rfl, rfl⟩) (by assumption) ?_
          try simp only [Act.put, List.setIfInBounds_toArray, List.set_cons_zero, List.set_cons_succ]
          refine wpAnyH_take (i := 11) (oi := { dst := some 121, op := Op.indexAddr 29 (Operand.tmp 120) (Operand.const (Value.int IntKind.i64 0)), type := 0, pos := "law.go:168", after := #[{ on := 10, ground := Ground.data }, { on := 8, ground := Ground.guard }], guard := some (8, false) }) (v := undef) rfl (by kernel_rfl) (by kernel_rfl) (by kernel_rfl) (fun _ _ _ h => h) (Or.inr ⟨by rfl, rfl⟩) (by assumption) ?_
          try simp only [Act.put, List.setIfInBounds_toArray, List.set_cons_zero, List.set_cons_succ]
          refine wpAnyH_take (i := 12) (oi := { dst := some 122, op := Op.load 33 (Operand.tmp 121), type := 33, pos := "law.go:168", after := #[{ on := 11, ground := Ground.data }, { on := 8, ground := Ground.guard }], guard := some (8, false) }) (v := undef) rfl (by kernel_rfl) (by kernel_rfl) (by kernel_rfl) (fun _ _ _ h => h) (Or.inr ⟨by rfl, rfl⟩) (by assumption) ?_
          try simp only [Act.put, List.setIfInBounds_toArray, List.set_cons_zero, List.set_cons_succ]
          refine wpAnyH_take (i := 13) (oi := { dst := some 123, op := Op.binOp BinOp.eql 33 (Operand.tmp 119) (Operand.tmp 122) 33, type := 4, pos := "law.go:168", after := #[{ on := 9, ground := Ground.data }, { on := 12, ground := Ground.data }, { on := 8, ground := Ground.guard }], guard := some (8, false) }) (v := undef) rfl (by kernel_rfl) (by kernel_rfl) (by kernel_rfl) (fun _ _ _ h => h) (Or.inr ⟨by rfl, rfl⟩) (by assumption) ?_
          try simp only [Act.put, List.setIfInBounds_toArray, List.set_cons_zero, List.set_cons_succ]
          refine wpAnyH_take (i := 14) (oi := { dst := some 124, op := Op.pick (Operand.tmp 118) (Operand.const (Value.bool true)) (Operand.tmp 123), type := 4, pos := "law.go:168", after := #[{ on := 8, ground := Ground.data }, { on := 13, ground := Ground.data }, { on := 5, ground := Ground.guard }], guard := some (5, true) }) (v := .bool true) rfl (by kernel_rfl) (by kernel_rfl) (by kernel_rfl) (fun _ _ _ h => h) (Or.inl ⟨by rfl, fun w hSw => by go_simp⟩) (by assumption) ?_
          try simp only [Act.put, List.setIfInBounds_toArray, List.set_cons_zero, List.set_cons_succ]
          refine wpAnyH_take (i := 15) (oi := { dst := some 125, op := Op.pick (Operand.tmp 115) (Operand.tmp 124) (Operand.const (Value.bool false)), type := 4, pos := "law.go:168", after := #[{ on := 5, ground := Ground.data }, { on := 14, ground := Ground.data }], guard := none }) (v := .bool true) rfl (by kernel_rfl) (by kernel_rfl) (by kernel_rfl) (fun _ _ _ h => h) (Or.inl ⟨by rfl, fun w hSw => by go_simp⟩) (by assumption) ?_
          try simp only [Act.put, List.setIfInBounds_toArray, List.set_cons_zero, List.set_cons_succ]
          refine wpAnyH_take (i := 16) (oi := { dst := some 126, op := Op.move (Operand.tmp 125), type := 4, pos := "law.go:168", after := #[{ on := 15, ground := Ground.data }, { on := 8, ground := Ground.chain }], guard := none }) (v := .bool true) rfl (by kernel_rfl) (by kernel_rfl) (by kernel_rfl) (fun _ _ _ h => h) (Or.inl ⟨by rfl, fun w hSw => by go_simp⟩) (by assumption) ?_
          try simp only [Act.put, List.setIfInBounds_toArray, List.set_cons_zero, List.set_cons_succ]
          refine wpAnyH_ready (rs := [17]) (by kernel_rfl) (by simp) ?_
          refine AllReadyH.cons (o := { dst := some 127, op := Op.call { callee := Callee.value (Operand.func 11), args := #[], argTypes := #[] }, type := 4, pos := "law.go:168", after := #[{ on := 16, ground := Ground.chain }, { on := 16, ground := Ground.guard }], guard := some (16, true) }) rfl (fun K hK => ?_) AllReadyH.nil
          go_simp
          go_at_call 11
          refine (awakeCalls _).mono ?_
          rintro e w9 ⟨rfl, hb9⟩
          have HB9 : Aside0 (Below w.heap.size w w9) := ⟨HB7.out.trans (((Below.refl _ w7).drew.trans (hb9.mono (Nat.le_refl _))).mono HB7.out.size)⟩
          go_wp2_with fail
          refine hK.out _ _ trivial (fun hHeld2 => ?_)
          try simp only [Act.put, List.setIfInBounds_toArray, List.set_cons_zero, List.set_cons_succ]
          refine wpAnyH_take (i := 18) (oi := { dst := some 128, op := Op.pick (Operand.tmp 126) (Operand.tmp 127) (Operand.const (Value.bool false)), type := 4, pos := "law.go:168", after := #[{ on := 16, ground := Ground.data }, { on := 17, ground := Ground.data }], guard := none }) (v := .bool true) rfl (by kernel_rfl) (by kernel_rfl) (by kernel_rfl) (fun _ _ _ h => h) (Or.inl ⟨by rfl, fun w hSw => by go_simp⟩) (by assumption) ?_
          try simp only [Act.put, List.setIfInBounds_toArray, List.set_cons_zero, List.set_cons_succ]
          refine wpAnyH_take (i := 19) (oi := { dst := some 4, op := Op.assign (Operand.tmp 128), type := 4, pos := "law.go:168", after := #[{ on := 18, ground := Ground.data }, { on := 17, ground := Ground.chain }, { on := 0, ground := Ground.phase }, { on := 1, ground := Ground.phase }, { on := 2, ground := Ground.phase }, { on := 3, ground := Ground.phase }, { on := 4, ground := Ground.phase }, { on := 5, ground := Ground.phase }, { on := 6, ground := Ground.phase }, { on := 7, ground := Ground.phase }, { on := 8, ground := Ground.phase }, { on := 9, ground := Ground.phase }, { on := 10, ground := Ground.phase }, { on := 11, ground := Ground.phase }, { on := 12, ground := Ground.phase }, { on := 13, ground := Ground.phase }, { on := 14, ground := Ground.phase }, { on := 15, ground := Ground.phase }, { on := 16, ground := Ground.phase }, { on := 17, ground := Ground.phase }, { on := 18, ground := Ground.phase }], guard := none }) (v := .bool true) rfl (by kernel_rfl) (by kernel_rfl) (by kernel_rfl) (fun _ _ _ h => h) (Or.inl ⟨by rfl, fun w hSw => by go_simp⟩) (by assumption) ?_
          try simp only [Act.put, List.setIfInBounds_toArray, List.set_cons_zero, List.set_cons_succ]
          refine wpAnyH_done (by kernel_rfl) ?_ _
          clear hb9 HB7 HE7
          go_wp2
          go_ret
          exact ⟨rfl, HB9.out⟩
        · obtain ⟨V, hV⟩ : ∃ V, V = ((w6.setCell ⟨w4.heap.size, 0, none⟩ (.string x2.k)).setCell ⟨w4.heap.size, 1, none⟩ (.int .i64 x2.v)).setCell ⟨w4.heap.size, 2, none⟩ (.int .i64 x2.h) := ⟨_, rfl⟩
          have HEV : Aside0 (Blk V w4.heap.size [.string x2.k, .int .i64 x2.v, .int .i64 x2.h] TE) := ⟨by rw [hV]; exact ((HE6.out.put 0 _).put 1 _).put 2 _⟩
          have HXV : Aside0 (Blk V w.heap.size [.string xk, .string rlo, .string rhi, .bool opn, .bool bk, .int .i64 most] TLook) := ⟨by rw [hV]; exact ((HX6.out.far HNe.out.1 _).far HNe.out.1 _).far HNe.out.1 _⟩
          have HAV : Aside0 (Ol W V g hd ns) := ⟨by
            rw [hV]
            exact HA6.out.far HE6.out HNe.out.2 ((((Only.refl (fun i => i = w4.heap.size) w6).setCell (p := ⟨w4.heap.size, 0, none⟩) (.inl rfl) _).setCell (p := ⟨w4.heap.size, 1, none⟩) (.inl rfl) _).setCell (p := ⟨w4.heap.size, 2, none⟩) (.inl rfl) _)⟩
          rw [← hV]
          clear hV HE6 HX6 HA6 q0 q1 q2 qf0 qf1 qf2
          have y0 := HXV.out.cell 0 _ rfl
          have HSk := Aside0.mk HAV.out.sk
          have hcat : ∀ W : World, (Op.stringOp .add xk ⟨#[0]⟩).run Try.prog W = .ok (.string (xk ++ ⟨#[0]⟩)) W := fun W => run_string_add_sum W xk _ (by have : (⟨#[0]⟩ : ByteArray).size = 1 := rfl; omega)
          go_wp2_with fail
          refine (HSd2.out _ HSk.out).mono ?_
          rintro e w7 ⟨v7, rfl, hr7, hb7⟩
          rw [hs2] at hr7
          simp only [Option.toList] at hr7
          obtain ⟨A8, c8, e8⟩ := Kd.R_slice hr7
          rw [List.length_singleton] at e8
          subst e8
          obtain ⟨b8, o8, x8, a8, hx8, p0, p1, p2⟩ := kE_at (Kd.R_reads' hr7).2.2 0 (by simp)
          simp only [List.getElem?_cons_zero, Option.some.injEq] at hx8
          subst hx8 a8
          rw [Nat.zero_mul, Nat.add_zero] at p0 p1 p2
          have HB7 : Aside0 (Below w.heap.size w w7) := ⟨HB.out.trans ((HAV.out.belowed hb7).below.mono HB.out.size)⟩
          have HE7 := Aside0.mk (HEV.out.belowSize hb7)
          clear hr7 hb7 hcat HAV HXV HEV y0 HSk HSd2
          have q0 := HE7.out.cell 0 _ rfl
          have q1 := HE7.out.cell 1 _ rfl
          have q2 := HE7.out.cell 2 _ rfl
          go_upto_region 19 with (fail)
          go_region_held3 (fun w' => w'.cell? ⟨w4.heap.size, 0, none⟩ = some (.string x2.k) ∧ w'.cell? ⟨w4.heap.size, 1, none⟩ = some (.int .i64 x2.v) ∧ w'.cell? ⟨w4.heap.size, 2, none⟩ = some (.int .i64 x2.h) ∧ w'.cell? ⟨b8, o8, none⟩ = some (.string x2.k) ∧ w'.cell? ⟨b8, o8 + 1, none⟩ = some (.int .i64 x2.v) ∧ w'.cell? ⟨b8, o8 + 2, none⟩ = some (.int .i64 x2.h)) (first | exact ⟨q0, q1, q2, p0, p1, p2⟩ | exact ⟨‹_›, ‹_›, ‹_›, ‹_›, ‹_›, ‹_›⟩)
            (first
              | (go_at_call 11; refine (awakeCalls _).mono ?_; rintro e w9 ⟨rfl, hb9⟩; have r0 := cellB hb9 q0; have r1 := cellB hb9 q1; have r2 := cellB hb9 q2; have r3 := cellB hb9 p0; have r4 := cellB hb9 p1; have r5 := cellB hb9 p2))
          all_goals
            have HB9 : Aside0 (Below w.heap.size w w9) := ⟨HB7.out.trans (((Below.refl _ w7).drew.trans (hb9.mono (Nat.le_refl _))).mono HB7.out.size)⟩
            clear hb9 HB7 HE7
            go_wp2
            go_ret
            exact ⟨rfl, HB9.out⟩
      · obtain ⟨U, hU⟩ : ∃ U, U = w4.alloc (.cells #[.string x1.k, .int .i64 x1.v, .int .i64 x1.h] TE) := ⟨_, rfl⟩
        have hbU : Below w4.heap.size w4 U := by rw [hU]; exact (Below.refl _ _).alloc (Nat.le_refl _) _
        have HAU := Aside0.mk (HA4.out.belowed hbU)
        have HXU := Aside0.mk (HX4.out.belowSize hbU)
        have HEU : Aside0 (Blk U w4.heap.size [.string x1.k, .int .i64 x1.v, .int .i64 x1.h] TE) := ⟨by rw [hU]; exact Blk.newA w4 _ _⟩
        rw [← hU]
        clear hU hbU HA4 HX4
        have y0 := HXU.out.cell 0 _ rfl
        have HSk := Aside0.mk HAU.out.sk
        go_wp2_with fail
        refine (HSd1.out _ HSk.out).mono ?_
        rintro e w5 ⟨v5, rfl, hr5, hb5⟩
        rw [hs1] at hr5
        simp only [Option.toList] at hr5
        obtain ⟨A6, c6, e6⟩ := Kd.R_slice hr5
        rw [List.length_singleton] at e6
        subst e6
        obtain ⟨b6, o6, x6, a6, hx6, p0, p1, p2⟩ := kE_at (Kd.R_reads' hr5).2.2 0 (by simp)
        simp only [List.getElem?_cons_zero, Option.some.injEq] at hx6
        subst hx6 a6
        rw [Nat.zero_mul, Nat.add_zero] at p0 p1 p2
        have HA5 := Aside0.mk (HAU.out.belowed hb5)
        have HX5 := Aside0.mk (HXU.out.belowSize hb5)
        have HE5 := Aside0.mk (HEU.out.belowSize hb5)
        clear hr5 hb5 HAU HXU HEU y0 HSk HSd1
        have q0 := HE5.out.cell 0 _ rfl
        have q1 := HE5.out.cell 1 _ rfl
        have q2 := HE5.out.cell 2 _ rfl
        go_upto_region 15 with (fail)
        go_quiet (fail)
        have hbq : Below w5.heap.size w5 (w5.drewN nq) := pw_below_drewN (Below.refl _ w5) nq
        have HAq := Aside0.mk (HA5.out.belowed hbq)
        have HXq := Aside0.mk (HX5.out.belowSize hbq)
        have HEq := Aside0.mk (HE5.out.belowSize hbq)
        clear hbq HA5 HX5 HE5 q0 q1 q2 p0 p1 p2
        go_upto_region 17 with (fail)
        have y0 := HXq.out.cell 0 _ rfl
        have HSk := Aside0.mk HAq.out.sk
        have q0 := HEq.out.cell 0 _ rfl
        have q1 := HEq.out.cell 1 _ rfl
        have q2 := HEq.out.cell 2 _ rfl
        generalize w5.drewN nq = wq at *
        go_wp2_with fail
        refine (HSe2.out _ HSk.out).mono ?_
        rintro e w6 ⟨rfl, hb6⟩
        have HA6 := Aside0.mk (HAq.out.belowed hb6)
        have HX6 := Aside0.mk (HXq.out.belowSize hb6)
        have HE6 := Aside0.mk (HEq.out.belowSize hb6)
        clear hb6 HAq HXq HEq y0 q0 q1 q2 HSk HSe2
        have q0 := HE6.out.cell 0 _ rfl
        have q1 := HE6.out.cell 1 _ rfl
        have q2 := HE6.out.cell 2 _ rfl
        have qf0 := HE6.out.free 0
        have qf1 := HE6.out.free 1
        have qf2 := HE6.out.free 2
        rcases hs2 : seekE es xk true with _ | x2
        all_goals simp only [seekW, zE]
        all_goals go_upto_region 18 with (fail)
        · obtain ⟨V, hV⟩ : ∃ V, V = ((w6.setCell ⟨w4.heap.size, 0, none⟩ (.string ByteArray.empty)).setCell ⟨w4.heap.size, 1, none⟩ (.int .i64 0)).setCell ⟨w4.heap.size, 2, none⟩ (.int .i64 0) := ⟨_, rfl⟩
          have HEV : Aside0 (Blk V w4.heap.size [.string ByteArray.empty, .int .i64 0, .int .i64 0] TE) := ⟨by rw [hV]; exact ((HE6.out.put 0 _).put 1 _).put 2 _⟩
          have HXV : Aside0 (Blk V w.heap.size [.string xk, .string rlo, .string rhi, .bool opn, .bool bk, .int .i64 most] TLook) := ⟨by rw [hV]; exact ((HX6.out.far HNe.out.1 _).far HNe.out.1 _).far HNe.out.1 _⟩
          have HAV : Aside0 (Ol W V g hd ns) := ⟨by
            rw [hV]
            exact HA6.out.far HE6.out HNe.out.2 ((((Only.refl (fun i => i = w4.heap.size) w6).setCell (p := ⟨w4.heap.size, 0, none⟩) (.inl rfl) _).setCell (p := ⟨w4.heap.size, 1, none⟩) (.inl rfl) _).setCell (p := ⟨w4.heap.size, 2, none⟩) (.inl rfl) _)⟩
          rw [← hV]
          clear hV HE6 HX6 HA6 q0 q1 q2 qf0 qf1 qf2
          have y0 := HXV.out.cell 0 _ rfl
          have HSk := Aside0.mk HAV.out.sk
          have hcat : ∀ W : World, (Op.stringOp .add xk ⟨#[0]⟩).run Try.prog W = .ok (.string (xk ++ ⟨#[0]⟩)) W := fun W => run_string_add_sum W xk _ (by have : (⟨#[0]⟩ : ByteArray).size = 1 := rfl; omega)
          go_wp2_with fail
          refine (HSd2.out _ HSk.out).mono ?_
          rintro e w7 ⟨v7, rfl, hr7, hb7⟩
          rw [hs2] at hr7
          simp only [Option.toList] at hr7
          obtain ⟨A8, c8, e8⟩ := Kd.R_slice hr7
          rw [List.length_nil] at e8
          subst e8
          have HB7 : Aside0 (Below w.heap.size w w7) := ⟨HB.out.trans ((HAV.out.belowed hb7).below.mono HB.out.size)⟩
          have HE7 := Aside0.mk (HEV.out.belowSize hb7)
          clear hr7 hb7 hcat HAV HXV HEV y0 HSk HSd2
          have q0 := HE7.out.cell 0 _ rfl
          have q1 := HE7.out.cell 1 _ rfl
          have q2 := HE7.out.cell 2 _ rfl
          go_upto_region 19 with (fail)
          refine wp_region_held_drew (S := fun _ => True) (by kernel_rfl) trivial (fun hHeld => ?_)
          refine wpAnyH_take (i := 0) (oi := { dst := some 110, op := Op.move (Operand.tmp 10), type := 4, pos := "law.go:168", after := #[], guard := none }) (v := .bool false) rfl (by kernel_rfl) (by kernel_rfl) (by kernel_rfl) (fun _ _ _ h => h) (Or.inl ⟨by rfl, fun w hSw => by go_simp⟩) (by assumption) ?_
          try simp only [Act.put, List.setIfInBounds_toArray, List.set_cons_zero, List.set_cons_succ]
          refine wpAnyH_take (i := 1) (oi := { dst := some 111, op := Op.move (Operand.tmp 11), type := 29, pos := "law.go:168", after := #[], guard := none }) (v := .slice A8 0 c8) rfl (by kernel_rfl) (by kernel_rfl) (by kernel_rfl) (fun _ _ _ h => h) (Or.inl ⟨by rfl, fun w hSw => by go_simp⟩) (by assumption) ?_
          try simp only [Act.put, List.setIfInBounds_toArray, List.set_cons_zero, List.set_cons_succ]
          refine wpAnyH_take (i := 2) (oi := { dst := some 112, op := Op.call { callee := Callee.builtin Builtin.len, args := #[Operand.tmp 111], argTypes := #[29] }, type := 3, pos := "law.go:168", after := #[{ on := 1, ground := Ground.data }], guard := none }) (v := .int .i64 0) rfl (by kernel_rfl) (by kernel_rfl) (by kernel_rfl) (fun _ _ _ h => h) (Or.inl ⟨by rfl, fun w hSw => by go_simp⟩) (by assumption) ?_
          try simp only [Act.put, List.setIfInBounds_toArray, List.set_cons_zero, List.set_cons_succ]
          refine wpAnyH_take (i := 3) (oi := { dst := some 113, op := Op.binOp BinOp.eql 3 (Operand.tmp 112) (Operand.const (Value.int IntKind.i64 1)) 3, type := 4, pos := "law.go:168", after := #[{ on := 2, ground := Ground.data }], guard := none }) (v := .bool false) rfl (by kernel_rfl) (by kernel_rfl) (by kernel_rfl) (fun _ _ _ h => h) (Or.inl ⟨by rfl, fun w hSw => by go_simp⟩) (by assumption) ?_
          try simp only [Act.put, List.setIfInBounds_toArray, List.set_cons_zero, List.set_cons_succ]
          refine wpAnyH_take (i := 4) (oi := { dst := some 114, op := Op.binOp BinOp.eql 4 (Operand.tmp 110) (Operand.tmp 113) 4, type := 4, pos := "law.go:168", after := #[{ on := 0, ground := Ground.data }, { on := 3, ground := Ground.data }], guard := none }) (v := .bool true) rfl (by kernel_rfl) (by kernel_rfl) (by kernel_rfl) (fun _ _ _ h => h) (Or.inl ⟨by rfl, fun w hSw => by go_simp⟩) (by assumption) ?_
          try simp only [Act.put, List.setIfInBounds_toArray, List.set_cons_zero, List.set_cons_succ]
          refine wpAnyH_take (i := 5) (oi := { dst := some 115, op := Op.move (Operand.tmp 114), type := 4, pos := "law.go:168", after := #[{ on := 4, ground := Ground.data }], guard := none }) (v := .bool true) rfl (by kernel_rfl) (by kernel_rfl) (by kernel_rfl) (fun _ _ _ h => h) (Or.inl ⟨by rfl, fun w hSw => by go_simp⟩) (by assumption) ?_
          try simp only [Act.put, List.setIfInBounds_toArray, List.set_cons_zero, List.set_cons_succ]
          refine wpAnyH_take (i := 6) (oi := { dst := some 116, op := Op.move (Operand.tmp 10), type := 4, pos := "law.go:168", after := #[{ on := 5, ground := Ground.guard }], guard := some (5, true) }) (v := .bool false) rfl (by kernel_rfl) (by kernel_rfl) (by kernel_rfl) (fun _ _ _ h => h) (Or.inl ⟨by rfl, fun w hSw => by go_simp⟩) (by assumption) ?_
          try simp only [Act.put, List.setIfInBounds_toArray, List.set_cons_zero, List.set_cons_succ]
          refine wpAnyH_take (i := 7) (oi := { dst := some 117, op := Op.unOp UnOp.not 4 (Operand.tmp 116), type := 4, pos := "law.go:168", after := #[{ on := 6, ground := Ground.data }, { on := 5, ground := Ground.guard }], guard := some (5, true) }) (v := .bool true) rfl (by kernel_rfl) (by kernel_rfl) (by kernel_rfl) (fun _ _ _ h => h) (Or.inl ⟨by rfl, fun w hSw => by go_simp⟩) (by assumption) ?_
          try simp only [Act.put, List.setIfInBounds_toArray, List.set_cons_zero, List.set_cons_succ]
          refine wpAnyH_take (i := 8) (oi := { dst := some 118, op := Op.move (Operand.tmp 117), type := 4, pos := "law.go:168", after := #[{ on := 7, ground := Ground.data }, { on := 5, ground := Ground.chain }, { on := 5, ground := Ground.guard }], guard := some (5, true) }) (v := .bool true) rfl (by kernel_rfl) (by kernel_rfl) (by kernel_rfl) (fun _ _ _ h => h) (Or.inl ⟨by rfl, fun w hSw => by go_simp⟩) (by assumption) ?_
          try simp only [Act.put, List.setIfInBounds_toArray, List.set_cons_zero, List.set_cons_succ]
          refine wpAnyH_take (i := 9) (oi := { dst := some 119, op := Op.load 33 (Operand.tmp 9), type := 33, pos := "law.go:168", after := #[{ on := 8, ground := Ground.guard }], guard := some (8, false) }) (v := undef) rfl (by kernel_rfl) (by kernel_rfl) (by kernel_rfl) (fun _ _ _ h => h) (Or.inr ⟨by rfl, rfl⟩) (by assumption) ?_
          try simp only [Act.put, List.setIfInBounds_toArray, List.set_cons_zero, List.set_cons_succ]
          refine wpAnyH_take (i := 10) (oi := { dst := some 120, op := Op.move (Operand.tmp 11), type := 29, pos := "law.go:168", after := #[{ on := 8, ground := Ground.guard }], guard := some (8, false) }) (v := undef) rfl (by kernel_rfl) (by kernel_rfl) (by kernel_rfl) (fun _ _ _ h => h) (Or.inr ⟨by rfl, rfl⟩) (by assumption) ?_
          try simp only [Act.put, List.setIfInBounds_toArray, List.set_cons_zero, List.set_cons_succ]
          refine wpAnyH_take (i := 11) (oi := { dst := some 121, op := Op.indexAddr 29 (Operand.tmp 120) (Operand.const (Value.int IntKind.i64 0)), type := 0, pos := "law.go:168", after := #[{ on := 10, ground := Ground.data }, { on := 8, ground := Ground.guard }], guard := some (8, false) }) (v := undef) rfl (by kernel_rfl) (by kernel_rfl) (by kernel_rfl) (fun _ _ _ h => h) (Or.inr ⟨by rfl, rfl⟩) (by assumption) ?_
          try simp only [Act.put, List.setIfInBounds_toArray, List.set_cons_zero, List.set_cons_succ]
          refine wpAnyH_take (i := 12) (oi := { dst := some 122, op := Op.load 33 (Operand.tmp 121), type := 33, pos := "law.go:168", after := #[{ on := 11, ground := Ground.data }, { on := 8, ground := Ground.guard }], guard := some (8, false) }) (v := undef) rfl (by kernel_rfl) (by kernel_rfl) (by kernel_rfl) (fun _ _ _ h => h) (Or.inr ⟨by rfl, rfl⟩) (by assumption) ?_
          try simp only [Act.put, List.setIfInBounds_toArray, List.set_cons_zero, List.set_cons_succ]
          refine wpAnyH_take (i := 13) (oi := { dst := some 123, op := Op.binOp BinOp.eql 33 (Operand.tmp 119) (Operand.tmp 122) 33, type := 4, pos := "law.go:168", after := #[{ on := 9, ground := Ground.data }, { on := 12, ground := Ground.data }, { on := 8, ground := Ground.guard }], guard := some (8, false) }) (v := undef) rfl (by kernel_rfl) (by kernel_rfl) (by kernel_rfl) (fun _ _ _ h => h) (Or.inr ⟨by rfl, rfl⟩) (by assumption) ?_
          try simp only [Act.put, List.setIfInBounds_toArray, List.set_cons_zero, List.set_cons_succ]
          refine wpAnyH_take (i := 14) (oi := { dst := some 124, op := Op.pick (Operand.tmp 118) (Operand.const (Value.bool true)) (Operand.tmp 123), type := 4, pos := "law.go:168", after := #[{ on := 8, ground := Ground.data }, { on := 13, ground := Ground.data }, { on := 5, ground := Ground.guard }], guard := some (5, true) }) (v := .bool true) rfl (by kernel_rfl) (by kernel_rfl) (by kernel_rfl) (fun _ _ _ h => h) (Or.inl ⟨by rfl, fun w hSw => by go_simp⟩) (by assumption) ?_
          try simp only [Act.put, List.setIfInBounds_toArray, List.set_cons_zero, List.set_cons_succ]
          refine wpAnyH_take (i := 15) (oi := { dst := some 125, op := Op.pick (Operand.tmp 115) (Operand.tmp 124) (Operand.const (Value.bool false)), type := 4, pos := "law.go:168", after := #[{ on := 5, ground := Ground.data }, { on := 14, ground := Ground.data }], guard := none }) (v := .bool true) rfl (by kernel_rfl) (by kernel_rfl) (by kernel_rfl) (fun _ _ _ h => h) (Or.inl ⟨by rfl, fun w hSw => by go_simp⟩) (by assumption) ?_
          try simp only [Act.put, List.setIfInBounds_toArray, List.set_cons_zero, List.set_cons_succ]
          refine wpAnyH_take (i := 16) (oi := { dst := some 126, op := Op.move (Operand.tmp 125), type := 4, pos := "law.go:168", after := #[{ on := 15, ground := Ground.data }, { on := 8, ground := Ground.chain }], guard := none }) (v := .bool true) rfl (by kernel_rfl) (by kernel_rfl) (by kernel_rfl) (fun _ _ _ h => h) (Or.inl ⟨by rfl, fun w hSw => by go_simp⟩) (by assumption) ?_
          try simp only [Act.put, List.setIfInBounds_toArray, List.set_cons_zero, List.set_cons_succ]
          refine wpAnyH_ready (rs := [17]) (by kernel_rfl) (by simp) ?_
          refine AllReadyH.cons (o := { dst := some 127, op := Op.call { callee := Callee.value (Operand.func 11), args := #[], argTypes := #[] }, type := 4, pos := "law.go:168", after := #[{ on := 16, ground := Ground.chain }, { on := 16, ground := Ground.guard }], guard := some (16, true) }) rfl (fun K hK => ?_) AllReadyH.nil
          go_simp
          go_at_call 11
          refine (awakeCalls _).mono ?_
          rintro e w9 ⟨rfl, hb9⟩
          have HB9 : Aside0 (Below w.heap.size w w9) := ⟨HB7.out.trans (((Below.refl _ w7).drew.trans (hb9.mono (Nat.le_refl _))).mono HB7.out.size)⟩
          go_wp2_with fail
          refine hK.out _ _ trivial (fun hHeld2 => ?_)
          try simp only [Act.put, List.setIfInBounds_toArray, List.set_cons_zero, List.set_cons_succ]
          refine wpAnyH_take (i := 18) (oi := { dst := some 128, op := Op.pick (Operand.tmp 126) (Operand.tmp 127) (Operand.const (Value.bool false)), type := 4, pos := "law.go:168", after := #[{ on := 16, ground := Ground.data }, { on := 17, ground := Ground.data }], guard := none }) (v := .bool true) rfl (by kernel_rfl) (by kernel_rfl) (by kernel_rfl) (fun _ _ _ h => h) (Or.inl ⟨by rfl, fun w hSw => by go_simp⟩) (by assumption) ?_
          try simp only [Act.put, List.setIfInBounds_toArray, List.set_cons_zero, List.set_cons_succ]
          refine wpAnyH_take (i := 19) (oi := { dst := some 4, op := Op.assign (Operand.tmp 128), type := 4, pos := "law.go:168", after := #[{ on := 18, ground := Ground.data }, { on := 17, ground := Ground.chain }, { on := 0, ground := Ground.phase }, { on := 1, ground := Ground.phase }, { on := 2, ground := Ground.phase }, { on := 3, ground := Ground.phase }, { on := 4, ground := Ground.phase }, { on := 5, ground := Ground.phase }, { on := 6, ground := Ground.phase }, { on := 7, ground := Ground.phase }, { on := 8, ground := Ground.phase }, { on := 9, ground := Ground.phase }, { on := 10, ground := Ground.phase }, { on := 11, ground := Ground.phase }, { on := 12, ground := Ground.phase }, { on := 13, ground := Ground.phase }, { on := 14, ground := Ground.phase }, { on := 15, ground := Ground.phase }, { on := 16, ground := Ground.phase }, { on := 17, ground := Ground.phase }, { on := 18, ground := Ground.phase }], guard := none }) (v := .bool true) rfl (by kernel_rfl) (by kernel_rfl) (by kernel_rfl) (fun _ _ _ h => h) (Or.inl ⟨by rfl, fun w hSw => by go_simp⟩) (by assumption) ?_
          try simp only [Act.put, List.setIfInBounds_toArray, List.set_cons_zero, List.set_cons_succ]
          refine wpAnyH_done (by kernel_rfl) ?_ _
          clear hb9 HB7 HE7
          go_wp2
          go_ret
          exact ⟨rfl, HB9.out⟩
        · obtain ⟨V, hV⟩ : ∃ V, V = ((w6.setCell ⟨w4.heap.size, 0, none⟩ (.string x2.k)).setCell ⟨w4.heap.size, 1, none⟩ (.int .i64 x2.v)).setCell ⟨w4.heap.size, 2, none⟩ (.int .i64 x2.h) := ⟨_, rfl⟩
          have HEV : Aside0 (Blk V w4.heap.size [.string x2.k, .int .i64 x2.v, .int .i64 x2.h] TE) := ⟨by rw [hV]; exact ((HE6.out.put 0 _).put 1 _).put 2 _⟩
          have HXV : Aside0 (Blk V w.heap.size [.string xk, .string rlo, .string rhi, .bool opn, .bool bk, .int .i64 most] TLook) := ⟨by rw [hV]; exact ((HX6.out.far HNe.out.1 _).far HNe.out.1 _).far HNe.out.1 _⟩
          have HAV : Aside0 (Ol W V g hd ns) := ⟨by
            rw [hV]
            exact HA6.out.far HE6.out HNe.out.2 ((((Only.refl (fun i => i = w4.heap.size) w6).setCell (p := ⟨w4.heap.size, 0, none⟩) (.inl rfl) _).setCell (p := ⟨w4.heap.size, 1, none⟩) (.inl rfl) _).setCell (p := ⟨w4.heap.size, 2, none⟩) (.inl rfl) _)⟩
          rw [← hV]
          clear hV HE6 HX6 HA6 q0 q1 q2 qf0 qf1 qf2
          have y0 := HXV.out.cell 0 _ rfl
          have HSk := Aside0.mk HAV.out.sk
          have hcat : ∀ W : World, (Op.stringOp .add xk ⟨#[0]⟩).run Try.prog W = .ok (.string (xk ++ ⟨#[0]⟩)) W := fun W => run_string_add_sum W xk _ (by have : (⟨#[0]⟩ : ByteArray).size = 1 := rfl; omega)
          go_wp2_with fail
          refine (HSd2.out _ HSk.out).mono ?_
          rintro e w7 ⟨v7, rfl, hr7, hb7⟩
          rw [hs2] at hr7
          simp only [Option.toList] at hr7
          obtain ⟨A8, c8, e8⟩ := Kd.R_slice hr7
          rw [List.length_singleton] at e8
          subst e8
          obtain ⟨b8, o8, x8, a8, hx8, p0, p1, p2⟩ := kE_at (Kd.R_reads' hr7).2.2 0 (by simp)
          simp only [List.getElem?_cons_zero, Option.some.injEq] at hx8
          subst hx8 a8
          rw [Nat.zero_mul, Nat.add_zero] at p0 p1 p2
          have HB7 : Aside0 (Below w.heap.size w w7) := ⟨HB.out.trans ((HAV.out.belowed hb7).below.mono HB.out.size)⟩
          have HE7 := Aside0.mk (HEV.out.belowSize hb7)
          clear hr7 hb7 hcat HAV HXV HEV y0 HSk HSd2
          have q0 := HE7.out.cell 0 _ rfl
          have q1 := HE7.out.cell 1 _ rfl
          have q2 := HE7.out.cell 2 _ rfl
          go_upto_region 19 with (fail)
          go_region_held3 (fun w' => w'.cell? ⟨w4.heap.size, 0, none⟩ = some (.string x2.k) ∧ w'.cell? ⟨w4.heap.size, 1, none⟩ = some (.int .i64 x2.v) ∧ w'.cell? ⟨w4.heap.size, 2, none⟩ = some (.int .i64 x2.h) ∧ w'.cell? ⟨b8, o8, none⟩ = some (.string x2.k) ∧ w'.cell? ⟨b8, o8 + 1, none⟩ = some (.int .i64 x2.v) ∧ w'.cell? ⟨b8, o8 + 2, none⟩ = some (.int .i64 x2.h)) (first | exact ⟨q0, q1, q2, p0, p1, p2⟩ | exact ⟨‹_›, ‹_›, ‹_›, ‹_›, ‹_›, ‹_›⟩)
            (first
              | (go_at_call 11; refine (awakeCalls _).mono ?_; rintro e w9 ⟨rfl, hb9⟩; have r0 := cellB hb9 q0; have r1 := cellB hb9 q1; have r2 := cellB hb9 q2; have r3 := cellB hb9 p0; have r4 := cellB hb9 p1; have r5 := cellB hb9 p2))
          all_goals
            have HB9 : Aside0 (Below w.heap.size w w9) := ⟨HB7.out.trans (((Below.refl _ w7).drew.trans (hb9.mono (Nat.le_refl _))).mono HB7.out.size)⟩
            clear hb9 HB7 HE7
            go_wp2
            go_ret
            exact ⟨rfl, HB9.out⟩
end Go.Proofs.Ytnpjppnahfehnaa.Skip
