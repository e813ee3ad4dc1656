/- Layer 22's due: the program's own functions over products of 128 bits. -/
import Derived.Test.YtlodcfbiabfiiaaKit
import Derived.Test.YtlodcfbiabfiiaaDuesA
import Derived.Laws.Externs
namespace Go.Proofs.Ytlodcfbiabfiiaa.Dues
set_option linter.unusedVariables false
set_option linter.unusedSimpArgs false
open Go.RowKit Go.Proofs.YtlodcfbiabfiiaaW.PrintWords Go.Proofs.Ytlodcfbiabfiiaa.Kit

theorem addRun (p q k : Nat) (hk : k ≤ 1) (w : World) : (callFunc 16 #[.int .u64 (p : Int), .int .u64 (q : Int), .int .u64 (k : Int)]).run Try.prog w =
    .ok (.value (.tuple #[.int .u64 (((p + q + k) % 18446744073709551616 : Nat) : Int), .int .u64 (((p + q + k) / 18446744073709551616 : Nat) : Int)])) w := by
  have he : Extern.find Try.f16 = some add64Entry := by kernel_rfl
  rw [run_callFunc_extern (P := Try.prog) Try.func16 (by kernel_rfl) (by kernel_rfl) (by kernel_rfl) he, run_add64 _ _ _ (by omega) (by omega) (by omega) (by omega)]
  have e1 : ((p : Int) + q + k) % 18446744073709551616 = (((p + q + k) % 18446744073709551616 : Nat) : Int) := by omega
  have e2 : ((p : Int) + q + k) / 18446744073709551616 = (((p + q + k) / 18446744073709551616 : Nat) : Int) := by omega
  rw [e1, e2]
  rfl
theorem addRun0 (p q : Nat) (w : World) : (callFunc 16 #[.int .u64 (p : Int), .int .u64 (q : Int), .int .u64 0]).run Try.prog w =
    .ok (.value (.tuple #[.int .u64 (((p + q + 0) % 18446744073709551616 : Nat) : Int), .int .u64 (((p + q + 0) / 18446744073709551616 : Nat) : Int)])) w := addRun p q 0 (by omega) w
theorem mulCalls (x y : Nat) (hx : x < 18446744073709551616) (hy : y < 18446744073709551616) (w : World) : Calls Try.prog 15 #[.int .u64 (x : Int), .int .u64 (y : Int)] w fun e w' =>
    e = .returned (.tuple #[.int .u64 ((x * y / 18446744073709551616 : Nat) : Int), .int .u64 ((x * y % 18446744073709551616 : Nat) : Int)]) ∧ Drawn0 w w' := PVacuumDues.bits_Mul64.calls _ _ _ _ w (mul_f x y hx hy)
/-- Two products' halves, added. -/
theorem sum_lo (P Q : Nat) : (P % 18446744073709551616 + Q % 18446744073709551616 + 0) % 18446744073709551616 = (P + Q) % 18446744073709551616 := by omega
theorem sum_hi (P Q : Nat) (h : P + Q < 18446744073709551616 * 18446744073709551616) : (P / 18446744073709551616 + Q / 18446744073709551616 + (P % 18446744073709551616 + Q % 18446744073709551616 + 0) / 18446744073709551616) % 18446744073709551616 = (P + Q) / 18446744073709551616 := by omega
theorem carry_le (P Q : Nat) : (P % 18446744073709551616 + Q % 18446744073709551616 + 0) / 18446744073709551616 ≤ 1 := by omega

set_option maxRecDepth 100000 in
set_option maxHeartbeats 4000000 in
theorem aboveCalls (a b c n : Nat) (ha : a < 9223372036854775808) (hb : b < 9223372036854775808) (hc : c < 9223372036854775808) (hn : n < 9223372036854775808) (w : World) :
    Calls Try.prog 10 #[.int .i64 (a : Int), .int .i64 (b : Int), .int .i64 (c : Int), .int .i64 (n : Int)] w fun e w' => e = .returned (.bool (decide (b * 1000 + c * n < a * 1000))) ∧ Drawn0 w w' := by
  have hcn : c * n ≤ 9223372036854775807 * 9223372036854775807 := Nat.mul_le_mul (by omega) (by omega)
  have HM1 := Aside0.mk (fun w => mulCalls a 1000 (by omega) (by decide) w)
  have HM2 := Aside0.mk (fun w => mulCalls b 1000 (by omega) (by decide) w)
  have HM3 := Aside0.mk (fun w => mulCalls c n (by omega) (by omega) w)
  generalize hC : c * n = C at *
  clear hC
  have hB : b * 1000 < 9223372036854775808000 := by omega
  have hA : a * 1000 < 9223372036854775808000 := by omega
  generalize hBg : b * 1000 = B at *
  generalize hAg : a * 1000 = A at *
  clear hBg hAg
  have ha1 := fun w => addRun0 (B % 18446744073709551616) (C % 18446744073709551616) w
  have ha2 := fun w => addRun (B / 18446744073709551616) (C / 18446744073709551616) _ (carry_le B C) w
  rw [sum_lo] at ha1
  rw [sum_hi B C (by omega)] at ha2
  generalize (B % 18446744073709551616 + C % 18446744073709551616 + 0) / 18446744073709551616 = cy at *
  generalize hq : B + C = Q at *
  generalize (B / 18446744073709551616 + C / 18446744073709551616 + cy) / 18446744073709551616 = junk at *
  have u1 : IntKind.u64.wrap (a : Int) = a := IntWalk.u64_in _ (by omega)
  have u2 : IntKind.u64.wrap (b : Int) = b := IntWalk.u64_in _ (by omega)
  have u3 : IntKind.u64.wrap (c : Int) = c := IntWalk.u64_in _ (by omega)
  have u4 : IntKind.u64.wrap (n : Int) = n := IntWalk.u64_in _ (by omega)
  clear hq hcn
  generalize B / 18446744073709551616 = b1 at *
  generalize B % 18446744073709551616 = b2 at *
  generalize C / 18446744073709551616 = c1 at *
  generalize C % 18446744073709551616 = c2 at *
  have HD : Aside0 (decide (Q < A) = (decide (((Q / 18446744073709551616 : Nat) : Int) < ((A / 18446744073709551616 : Nat) : Int)) || (((A / 18446744073709551616 : Nat) : Int) == ((Q / 18446744073709551616 : Nat) : Int) && decide (((Q % 18446744073709551616 : Nat) : Int) < ((A % 18446744073709551616 : Nat) : Int))))) := ⟨by
    rw [Bool.eq_iff_iff]
    simp only [decide_eq_true_eq, Bool.or_eq_true, Bool.and_eq_true, beq_iff_eq]
    omega⟩
  rw [HD.out]
  clear HD
  generalize Q / 18446744073709551616 = q1 at *
  generalize Q % 18446744073709551616 = q2 at *
  generalize A / 18446744073709551616 = a1 at *
  generalize A % 18446744073709551616 = a2 at *
  go_enter Try.func10, Try.ntmps10
  go_wp2_with fail
  refine (HM1.out _).mono ?_
  rintro e w1 ⟨rfl, ⟨n1, rfl⟩⟩
  go_wp2_with fail
  refine (HM2.out _).mono ?_
  rintro e w1 ⟨rfl, ⟨n2, rfl⟩⟩
  go_wp2_with fail
  refine (HM3.out _).mono ?_
  rintro e w1 ⟨rfl, ⟨n3, rfl⟩⟩
  clear HM1 HM2 HM3
  go_wp2
  all_goals
    go_ret
    refine ⟨congrArg (fun b => Ending.returned (Value.bool b)) ?_, ⟨_, rfl⟩⟩
    rw [Bool.eq_iff_iff]
    simp only [decide_eq_true_eq, Bool.or_eq_true, Bool.and_eq_true, beq_iff_eq, true_iff, false_iff, Bool.false_eq_true]
    omega

abbrev TW : TypeId := 31
/-- What a table holds, as it is read. -/
structure Ws where
  live : Int
  vers : Int
  dead : Int
  rows : Int
  ents : Int
/-- A number of 64 bits with its sign. -/
def R64 (x : Int) : Prop := -9223372036854775808 ≤ x ∧ x ≤ 9223372036854775807
structure Ws.ok (x : Ws) : Prop where
  live : R64 x.live
  dead : R64 x.dead
/-- Is a table due? -/
def isDue (x : Ws) (base th : Nat) : Bool := decide (1000 * (base : Int) + x.live * th < 1000 * x.dead)
def Ws.val (x : Ws) : Value := .agg #[.int .i64 x.live, .int .i64 x.vers, .int .i64 x.dead, .int .i64 x.rows, .int .i64 x.ents]
theorem aboveNeg (a : Int) (b c n : Nat) (ha : a < 0) (w : World) :
    Calls Try.prog 10 #[.int .i64 a, .int .i64 (b : Int), .int .i64 (c : Int), .int .i64 (n : Int)] w fun e w' => e = .returned (.bool false) ∧ Drawn0 w w' := by
  have h1 : ¬ (c : Int) < 0 := by omega
  have h2 : ¬ (b : Int) < 0 := by omega
  go_enter Try.func10, Try.ntmps10
  go_wp2
  go_ret
  exact ⟨by simp, Drawn0.refl _⟩

set_option maxRecDepth 100000 in
set_option maxHeartbeats 4000000 in
theorem belowPos (x : Ws) (nl nd base th : Nat) (hnl : x.live = -(nl : Int)) (hl : nl ≤ 9223372036854775808) (hl0 : 1 ≤ nl) (hnd : x.dead = (nd : Int)) (hd : nd ≤ 9223372036854775808)  (hb : base < 9223372036854775808) (ht : th < 9223372036854775808) (w : World) :
    Calls Try.prog 11 #[x.val, .int .i64 (base : Int), .int .i64 (th : Int)] w fun e w' => e = .returned (.bool (isDue x base th)) ∧ Below w.heap.size w w' := by
  have hcn : nl * th ≤ 9223372036854775808 * 9223372036854775807 := Nat.mul_le_mul (by omega) (by omega)
  have HM1 := Aside0.mk (fun w => mulCalls base 1000 (by omega) (by decide) w)
  have HM2 := Aside0.mk (fun w => mulCalls nl th (by omega) (by omega) w)
  have HM3 := Aside0.mk (fun w => mulCalls nd 1000 (by omega) (by decide) w)
  have hlt : x.live * (th : Int) = -((nl * th : Nat) : Int) := by rw [hnl, Int.neg_mul, Int.natCast_mul]
  have HD0 : Aside0 (isDue x base th = decide (base * 1000 < nd * 1000 + nl * th)) := ⟨by
    unfold isDue
    rw [hlt]
    generalize nl * th = C
    rw [Bool.eq_iff_iff]
    simp only [decide_eq_true_eq]
    omega⟩
  clear hlt
  obtain ⟨xl, xv, xd, xr, xe⟩ := x
  simp only at hnl hnd
  simp only [Ws.val]
  generalize hC : nl * th = C at *
  clear hC
  have hB : base * 1000 < 9223372036854775808000 := by omega
  have hA : nd * 1000 ≤ 9223372036854775808000 := by omega
  generalize hBg : base * 1000 = B at *
  generalize hAg : nd * 1000 = A at *
  clear hBg hAg
  have ha1 := fun w => addRun0 (A % 18446744073709551616) (C % 18446744073709551616) w
  have ha2 := fun w => addRun (A / 18446744073709551616) (C / 18446744073709551616) _ (carry_le A C) w
  rw [sum_lo] at ha1
  rw [sum_hi A C (by omega)] at ha2
  generalize (A % 18446744073709551616 + C % 18446744073709551616 + 0) / 18446744073709551616 = cy at *
  generalize hq : A + C = Q at *
  generalize (A / 18446744073709551616 + C / 18446744073709551616 + cy) / 18446744073709551616 = junk at *
  have u1 : IntKind.u64.wrap (base : Int) = base := IntWalk.u64_in _ (by omega)
  have u2 : IntKind.u64.wrap (th : Int) = th := IntWalk.u64_in _ (by omega)
  have u3 : IntKind.u64.wrap (-IntKind.u64.wrap xl) = (nl : Int) := by rw [hnl, IntKind.wrap_u64, IntKind.wrap_u64]; omega
  have u4 : IntKind.u64.wrap xd = (nd : Int) := by rw [hnd]; exact IntWalk.u64_in _ (by omega)
  have u5 : ¬ xd < 0 := by omega
  have u6 : 0 ≤ xd := by omega
  have hlneg : xl < 0 := by omega
  clear hq hcn hnl hnd
  have HD : Aside0 (decide (B < Q) = (decide (((B / 18446744073709551616 : Nat) : Int) < ((Q / 18446744073709551616 : Nat) : Int)) || (((Q / 18446744073709551616 : Nat) : Int) == ((B / 18446744073709551616 : Nat) : Int) && decide (((B % 18446744073709551616 : Nat) : Int) < ((Q % 18446744073709551616 : Nat) : Int))))) := ⟨by
    rw [Bool.eq_iff_iff]
    simp only [decide_eq_true_eq, Bool.or_eq_true, Bool.and_eq_true, beq_iff_eq]
    omega⟩
  rw [HD0.out, HD.out]
  clear HD HD0
  generalize A / 18446744073709551616 = a1_ at *
  generalize A % 18446744073709551616 = a2_ at *
  generalize B / 18446744073709551616 = b1_ at *
  generalize B % 18446744073709551616 = b2_ at *
  generalize C / 18446744073709551616 = c1_ at *
  generalize C % 18446744073709551616 = c2_ at *
  generalize Q / 18446744073709551616 = q1_ at *
  generalize Q % 18446744073709551616 = q2_ at *
  go_enter Try.func11, Try.ntmps11
  go_wp2_with fail
  obtain ⟨W, hW⟩ : ∃ W, W = w.alloc (.cells #[.int .i64 xl, .int .i64 xv, .int .i64 xd, .int .i64 xr, .int .i64 xe] TW) := ⟨_, rfl⟩
  have HB0 : Aside0 (Below w.heap.size w W) := ⟨by rw [hW]; exact (Below.refl _ _).alloc (Nat.le_refl _) _⟩
  have HX : Aside0 (Blk W w.heap.size [.int .i64 xl, .int .i64 xv, .int .i64 xd, .int .i64 xr, .int .i64 xe] TW) := ⟨by rw [hW]; exact Blk.newA w _ _⟩
  rw [← hW]
  clear hW
  refine (HM1.out _).mono ?_
  rintro e w1 ⟨rfl, ⟨n1, rfl⟩⟩
  have HB1 := Aside0.mk (pw_below_drewN HB0.out n1)
  have HX1 := Aside0.mk (HX.out.drewN n1)
  generalize W.drewN n1 = W1 at *
  clear HB0 HX
  have x0 := HX1.out.cell 0 _ rfl
  have x2 := HX1.out.cell 2 _ rfl
  go_wp2_with fail
  refine (HM2.out _).mono ?_
  rintro e w1 ⟨rfl, ⟨n2, rfl⟩⟩
  have HB2 := Aside0.mk (pw_below_drewN HB1.out n2)
  have HX2 := Aside0.mk (HX1.out.drewN n2)
  generalize W1.drewN n2 = W2 at *
  clear HB1 HX1 x0 x2
  have x2 := HX2.out.cell 2 _ rfl
  go_wp2_with fail
  refine (HM3.out _).mono ?_
  rintro e w1 ⟨rfl, ⟨n3, rfl⟩⟩
  have HB3 := Aside0.mk (pw_below_drewN HB2.out n3)
  clear HM1 HM2 HM3 HB2 HX2 x2
  go_wp2
  all_goals
    go_ret
    refine ⟨congrArg (fun b => Ending.returned (Value.bool b)) ?_, HB3.out⟩
    rw [Bool.eq_iff_iff]
    simp only [decide_eq_true_eq, Bool.or_eq_true, Bool.and_eq_true, beq_iff_eq, true_iff, false_iff, Bool.false_eq_true]
    omega

set_option maxRecDepth 100000 in
set_option maxHeartbeats 4000000 in
theorem belowNeg (x : Ws) (nl nd base th : Nat) (hnl : x.live = -(nl : Int)) (hl : nl ≤ 9223372036854775808) (hl0 : 1 ≤ nl) (hnd : x.dead = -(nd : Int)) (hd : nd ≤ 9223372036854775808) (hd0 : 1 ≤ nd) (hb : base < 9223372036854775808) (ht : th < 9223372036854775808) (w : World) :
    Calls Try.prog 11 #[x.val, .int .i64 (base : Int), .int .i64 (th : Int)] w fun e w' => e = .returned (.bool (isDue x base th)) ∧ Below w.heap.size w w' := by
  have hcn : nl * th ≤ 9223372036854775808 * 9223372036854775807 := Nat.mul_le_mul (by omega) (by omega)
  have HM1 := Aside0.mk (fun w => mulCalls base 1000 (by omega) (by decide) w)
  have HM2 := Aside0.mk (fun w => mulCalls nl th (by omega) (by omega) w)
  have HM3 := Aside0.mk (fun w => mulCalls nd 1000 (by omega) (by decide) w)
  have hlt : x.live * (th : Int) = -((nl * th : Nat) : Int) := by rw [hnl, Int.neg_mul, Int.natCast_mul]
  have HD0 : Aside0 (isDue x base th = decide (nd * 1000 + base * 1000 < nl * th)) := ⟨by
    unfold isDue
    rw [hlt]
    generalize nl * th = C
    rw [Bool.eq_iff_iff]
    simp only [decide_eq_true_eq]
    omega⟩
  clear hlt
  obtain ⟨xl, xv, xd, xr, xe⟩ := x
  simp only at hnl hnd
  simp only [Ws.val]
  generalize hC : nl * th = C at *
  clear hC
  have hB : base * 1000 < 9223372036854775808000 := by omega
  have hA : nd * 1000 ≤ 9223372036854775808000 := by omega
  generalize hBg : base * 1000 = B at *
  generalize hAg : nd * 1000 = A at *
  clear hBg hAg
  have ha1 := fun w => addRun0 (A % 18446744073709551616) (B % 18446744073709551616) w
  have ha2 := fun w => addRun (A / 18446744073709551616) (B / 18446744073709551616) _ (carry_le A B) w
  rw [sum_lo] at ha1
  rw [sum_hi A B (by omega)] at ha2
  generalize (A % 18446744073709551616 + B % 18446744073709551616 + 0) / 18446744073709551616 = cy at *
  generalize hq : A + B = Q at *
  generalize (A / 18446744073709551616 + B / 18446744073709551616 + cy) / 18446744073709551616 = junk at *
  have u1 : IntKind.u64.wrap (base : Int) = base := IntWalk.u64_in _ (by omega)
  have u2 : IntKind.u64.wrap (th : Int) = th := IntWalk.u64_in _ (by omega)
  have u3 : IntKind.u64.wrap (-IntKind.u64.wrap xl) = (nl : Int) := by rw [hnl, IntKind.wrap_u64, IntKind.wrap_u64]; omega
  have u4 : IntKind.u64.wrap (-IntKind.u64.wrap xd) = (nd : Int) := by rw [hnd, IntKind.wrap_u64, IntKind.wrap_u64]; omega
  have u5 : xd < 0 := by omega
  have u6 : ¬ 0 ≤ xd := by omega
  have hlneg : xl < 0 := by omega
  clear hq hcn hnl hnd
  have HD : Aside0 (decide (Q < C) = (decide (((Q / 18446744073709551616 : Nat) : Int) < ((C / 18446744073709551616 : Nat) : Int)) || (((C / 18446744073709551616 : Nat) : Int) == ((Q / 18446744073709551616 : Nat) : Int) && decide (((Q % 18446744073709551616 : Nat) : Int) < ((C % 18446744073709551616 : Nat) : Int))))) := ⟨by
    rw [Bool.eq_iff_iff]
    simp only [decide_eq_true_eq, Bool.or_eq_true, Bool.and_eq_true, beq_iff_eq]
    omega⟩
  rw [HD0.out, HD.out]
  clear HD HD0
  generalize A / 18446744073709551616 = a1_ at *
  generalize A % 18446744073709551616 = a2_ at *
  generalize B / 18446744073709551616 = b1_ at *
  generalize B % 18446744073709551616 = b2_ at *
  generalize C / 18446744073709551616 = c1_ at *
  generalize C % 18446744073709551616 = c2_ at *
  generalize Q / 18446744073709551616 = q1_ at *
  generalize Q % 18446744073709551616 = q2_ at *
  go_enter Try.func11, Try.ntmps11
  go_wp2_with fail
  obtain ⟨W, hW⟩ : ∃ W, W = w.alloc (.cells #[.int .i64 xl, .int .i64 xv, .int .i64 xd, .int .i64 xr, .int .i64 xe] TW) := ⟨_, rfl⟩
  have HB0 : Aside0 (Below w.heap.size w W) := ⟨by rw [hW]; exact (Below.refl _ _).alloc (Nat.le_refl _) _⟩
  have HX : Aside0 (Blk W w.heap.size [.int .i64 xl, .int .i64 xv, .int .i64 xd, .int .i64 xr, .int .i64 xe] TW) := ⟨by rw [hW]; exact Blk.newA w _ _⟩
  rw [← hW]
  clear hW
  refine (HM1.out _).mono ?_
  rintro e w1 ⟨rfl, ⟨n1, rfl⟩⟩
  have HB1 := Aside0.mk (pw_below_drewN HB0.out n1)
  have HX1 := Aside0.mk (HX.out.drewN n1)
  generalize W.drewN n1 = W1 at *
  clear HB0 HX
  have x0 := HX1.out.cell 0 _ rfl
  have x2 := HX1.out.cell 2 _ rfl
  go_wp2_with fail
  refine (HM2.out _).mono ?_
  rintro e w1 ⟨rfl, ⟨n2, rfl⟩⟩
  have HB2 := Aside0.mk (pw_below_drewN HB1.out n2)
  have HX2 := Aside0.mk (HX1.out.drewN n2)
  generalize W1.drewN n2 = W2 at *
  clear HB1 HX1 x0 x2
  have x2 := HX2.out.cell 2 _ rfl
  go_wp2_with fail
  refine (HM3.out _).mono ?_
  rintro e w1 ⟨rfl, ⟨n3, rfl⟩⟩
  have HB3 := Aside0.mk (pw_below_drewN HB2.out n3)
  clear HM1 HM2 HM3 HB2 HX2 x2
  go_wp2
  all_goals
    go_ret
    refine ⟨congrArg (fun b => Ending.returned (Value.bool b)) ?_, HB3.out⟩
    rw [Bool.eq_iff_iff]
    simp only [decide_eq_true_eq, Bool.or_eq_true, Bool.and_eq_true, beq_iff_eq, true_iff, false_iff, Bool.false_eq_true]
    omega
end Go.Proofs.Ytlodcfbiabfiiaa.Dues
