/- Layer 22: a database that nobody made: what each of vacuum's functions tells of it; the law's own awake. -/
import Derived.Test.YtpjdbmhcpcmakaaGreatDoorKit
import Derived.Test.YtpjdbmhcpcmakaaGreatDoorOpen
import Derived.Test.YtpjdbmhcpcmakaaGreatDoorPabovex1
import Derived.Laws.Externs
import Derived.Laws.Bits64b
import Derived.IntWalk
namespace Go.Proofs.YtpjdbmhcpcmakaaGreatDoor.Vac
set_option linter.unusedVariables false
set_option linter.unusedSimpArgs false
open Go.RowKit Go.Proofs.YtpjdbmhcpcmakaaGreatDoorW.PrintWords Go.Proofs.YtpjdbmhcpcmakaaGreatDoor.Kit

theorem mulLit (x r : Int) (h : Pabove.bits_Mul64.f x 1000 = some (0, r)) (w : World) : Calls Tryz.prog 124 #[.int .u64 x, .int .u64 1000] w fun e w' => e = .returned (.tuple #[.int .u64 0, .int .u64 r]) ∧ Drawn0 w w' :=
  Pabove.bits_Mul64.calls x 1000 0 r w h
theorem addRun (p q k : Nat) (hk : k ≤ 1) (w : World) : (callFunc 125 #[.int .u64 (p : Int), .int .u64 (q : Int), .int .u64 (k : Int)]).run Tryz.prog w =
    .ok (.value (.tuple #[.int .u64 (((p + q + k) % 18446744073709551616 : Nat) : Int), .int .u64 (((p + q + k) / 18446744073709551616 : Nat) : Int)])) w := by
  have he : Extern.find Tryz.f125 = some add64Entry := by kernel_rfl
  rw [run_callFunc_extern (P := Tryz.prog) Tryz.func125 (by kernel_rfl) (by kernel_rfl) (by kernel_rfl) he, run_add64 _ _ _ (by omega) (by omega) (by omega) (by omega)]
  have e1 : ((p : Int) + q + k) % 18446744073709551616 = (((p + q + k) % 18446744073709551616 : Nat) : Int) := by omega
  have e2 : ((p : Int) + q + k) / 18446744073709551616 = (((p + q + k) / 18446744073709551616 : Nat) : Int) := by omega
  rw [e1, e2]
  rfl
theorem add0 (w : World) : (callFunc 125 #[.int .u64 0, .int .u64 5000, .int .u64 0]).run Tryz.prog w = .ok (.value (.tuple #[.int .u64 5000, .int .u64 0])) w := addRun 0 5000 0 (by omega) w
theorem add1 (w : World) : (callFunc 125 #[.int .u64 0, .int .u64 0, .int .u64 0]).run Tryz.prog w = .ok (.value (.tuple #[.int .u64 0, .int .u64 0])) w := addRun 0 0 0 (by omega) w
abbrev TW : TypeId := 64
theorem zeroW (W : World) : (zeroValue TW).run Tryz.prog W = .ok (.agg #[.int .i64 0, .int .i64 0, .int .i64 0, .int .i64 0, .int .i64 0]) W := by kernel_rfl

set_option maxRecDepth 100000 in
set_option maxHeartbeats 4000000 in
theorem aboveLit (a r : Int) (b : Bool) (h : a = 0 ∧ r = 0 ∧ b = false ∨ a = 6 ∧ r = 6000 ∧ b = true) (w : World) :
    Calls Tryz.prog 70 #[.int .i64 a, .int .i64 0, .int .i64 5, .int .i64 1000] w fun e w' => e = .returned (.bool b) ∧ Drawn0 w w' := by
  have HM0 := Aside0.mk (fun w => mulLit 0 0 (by decide +kernel) w)
  have HM5 := Aside0.mk (fun w => mulLit 5 5000 (by decide +kernel) w)
  have ha0 := add0
  have ha1 := add1
  rcases h with ⟨rfl, rfl, rfl⟩ | ⟨rfl, rfl, rfl⟩
  · go_enter Tryz.func70, Tryz.ntmps70
    go_wp2_with fail
    refine (HM0.out _).mono ?_
    rintro e w1 ⟨rfl, ⟨n1, rfl⟩⟩
    go_wp2_with fail
    refine (HM0.out _).mono ?_
    rintro e w1 ⟨rfl, ⟨n2, rfl⟩⟩
    go_wp2_with fail
    refine (HM5.out _).mono ?_
    rintro e w1 ⟨rfl, ⟨n3, rfl⟩⟩
    clear HM0 HM5
    go_wp2
    go_ret
    exact ⟨rfl, ⟨_, rfl⟩⟩
  · have HM6 := Aside0.mk (fun w => mulLit 6 6000 (by decide +kernel) w)
    go_enter Tryz.func70, Tryz.ntmps70
    go_wp2_with fail
    refine (HM6.out _).mono ?_
    rintro e w1 ⟨rfl, ⟨n1, rfl⟩⟩
    go_wp2_with fail
    refine (HM0.out _).mono ?_
    rintro e w1 ⟨rfl, ⟨n2, rfl⟩⟩
    go_wp2_with fail
    refine (HM5.out _).mono ?_
    rintro e w1 ⟨rfl, ⟨n3, rfl⟩⟩
    clear HM0 HM5 HM6
    go_wp2
    go_ret
    exact ⟨rfl, ⟨_, rfl⟩⟩
theorem dueLit (a r : Int) (b : Bool) (h : a = 0 ∧ r = 0 ∧ b = false ∨ a = 6 ∧ r = 6000 ∧ b = true) (w : World) :
    Calls Tryz.prog 39 #[.agg #[.int .i64 5, .int .i64 0, .int .i64 a, .int .i64 0, .int .i64 0], .int .i64 0, .int .i64 1000] w fun e w' => e = .returned (.bool b) ∧ Below w.heap.size w w' := by
  have HC := Aside0.mk (aboveLit a r b h)
  clear h
  go_enter Tryz.func39, Tryz.ntmps39
  go_wp2_with fail
  have HB : Aside0 (Below w.heap.size w (w.alloc (.cells #[.int .i64 5, .int .i64 0, .int .i64 a, .int .i64 0, .int .i64 0] TW))) := ⟨(Below.refl _ _).alloc (Nat.le_refl _) _⟩
  refine (HC.out _).mono ?_
  rintro e w1 ⟨rfl, ⟨n1, rfl⟩⟩
  have HB1 := Aside0.mk (pw_below_drewN HB.out n1)
  clear HB HC
  go_wp2
  go_ret
  exact ⟨rfl, HB1.out⟩

/-- What Due has collected behind j of the two. -/
def got (j : Nat) : List Int := if j = 2 then [1] else []
def deadAt (j : Nat) : Int := if j = 0 then 0 else 6
theorem infoI : (Tryz.prog.info? 3).map (fun i => (i.zero, i.size, i.bytes)) = some (some (.int .i64 0), 1, 8) := by kernel_rfl
set_option maxRecDepth 100000 in
set_option maxHeartbeats 4000000 in
theorem dueTwo (b : Nat) (w : World) (h : Blk w b [.int .i64 5, .int .i64 0, .int .i64 0, .int .i64 0, .int .i64 0, .int .i64 5, .int .i64 0, .int .i64 6, .int .i64 0, .int .i64 0] TW) :
    Calls Tryz.prog 19 #[.slice (some ⟨b, 0, none⟩) 2 2, .int .i64 0, .int .i64 1000] w fun e w' => ∃ v, e = .returned (.tuple #[v, .int .i64 0]) ∧ (Kd.int .i64).R 3 w' w.heap.size (fun _ => True) v [1] ∧ Below w.heap.size w w' := by
  have HX := Aside0.mk h
  clear h
  go_enter Tryz.func19, Tryz.ntmps19
  go_wp2_with fail
  go_loopw [8, 19] (fun v i wr => ∃ j : Nat, j ≤ 2 ∧ i = .int .i64 j ∧ Aside0 ((Kd.int .i64).R 3 wr w.heap.size (fun _ => True) v (got j)) ∧ Aside0 (Below w.heap.size w wr)) (fun _ i _ => 2 - (intOf i).toNat)
  case atStart => exact ⟨0, Nat.zero_le _, rfl, ⟨Kd.R_nil _ _ _ _ _⟩, ⟨Below.refl _ _⟩⟩
  case round =>
    obtain ⟨j, hj, rfl, HR, HB⟩ := hrel
    have HXr := Aside0.mk (HX.out.belowSize HB.out)
    have hcases : j = 0 ∨ j = 1 ∨ j = 2 := by omega
    rcases hcases with rfl | rfl | rfl
    · have x0 := HXr.out.cell 0 _ rfl
      have x1 := HXr.out.cell 1 _ rfl
      have x2 := HXr.out.cell 2 _ rfl
      have x3 := HXr.out.cell 3 _ rfl
      have x4 := HXr.out.cell 4 _ rfl
      have HD := Aside0.mk (fun W => dueLit 0 0 false (Or.inl ⟨rfl, rfl, rfl⟩) W)
      go_wp2_with fail
      have hb2 : Below wr.heap.size wr (wr.alloc (.cells #[.int .i64 5, .int .i64 0, .int .i64 0, .int .i64 0, .int .i64 0] TW)) := (Below.refl _ _).alloc (Nat.le_refl _) _
      have HB2 := Aside0.mk (HB.out.trans (hb2.mono HB.out.size))
      have HR2 := Aside0.mk (Kd.R_below HR.out hb2)
      generalize wr.alloc (.cells #[.int .i64 5, .int .i64 0, .int .i64 0, .int .i64 0, .int .i64 0] TW) = W at *
      clear hb2 HB HR x0 x1 x2 x3 x4 HXr
      refine (HD.out _).mono ?_
      rintro e w3 ⟨rfl, hb3⟩
      have HB3 := Aside0.mk (HB2.out.trans (hb3.mono HB2.out.size))
      have HR3 : Aside0 ((Kd.int .i64).R 3 w3 w.heap.size (fun _ => True) u8 (got 1)) := ⟨Kd.R_below HR2.out hb3⟩
      clear hb3 HB2 HR2 HD
      go_wp2
      go_roundw
      case rel => exact ⟨1, by omega, by go_num, HR3, HB3⟩
      case measure => simp [intOf]
    · have x0 := HXr.out.cell 5 _ rfl
      have x1 := HXr.out.cell 6 _ rfl
      have x2 := HXr.out.cell 7 _ rfl
      have x3 := HXr.out.cell 8 _ rfl
      have x4 := HXr.out.cell 9 _ rfl
      have HD := Aside0.mk (fun W => dueLit 6 6000 true (Or.inr ⟨rfl, rfl, rfl⟩) W)
      go_wp2_with fail
      have hb2 : Below wr.heap.size wr (wr.alloc (.cells #[.int .i64 5, .int .i64 0, .int .i64 6, .int .i64 0, .int .i64 0] TW)) := (Below.refl _ _).alloc (Nat.le_refl _) _
      have HB2 := Aside0.mk (HB.out.trans (hb2.mono HB.out.size))
      have HR2 := Aside0.mk (Kd.R_below HR.out hb2)
      generalize wr.alloc (.cells #[.int .i64 5, .int .i64 0, .int .i64 6, .int .i64 0, .int .i64 0] TW) = W at *
      clear hb2 HB HR x0 x1 x2 x3 x4 HXr
      refine (HD.out _).mono ?_
      rintro e w3 ⟨rfl, hb3⟩
      have HB3 := Aside0.mk (HB2.out.trans (hb3.mono HB2.out.size))
      have HR3 : Aside0 ((Kd.int .i64).R 3 w3 w.heap.size (fun _ => True) u8 ([] : List Int)) := ⟨Kd.R_below HR2.out hb3⟩
      clear hb3 HB2 HR2 HD
      go_wp2_with ((with_reducible refine gate_builtin (b := .append) (xs := #[.tmp 28, .tmp 30]) rfl ?_); at_builtin; refine Kd.R_append (Kd.int .i64) (w0 := w) w.heap.size rfl (.tmp 28) (.tmp 30) 43 3 (.int .i64 0) 8 rfl Tryz.underlying43 infoI rfl (by decide) (by omega) u8 ([] : List Int) (1 : Int) [.int .i64 (1 : Int)] (fun _ => True) (fun _ => False) rfl rfl ?aP (fun _ hk => hk.elim) ?aF ?aO ?aB ?aS ?aL ?_; (case aP => exact rfl); (case aF => exact fun _ _ => trivial); (case aO => exact HR3.out); (case aB => exact HB3.out); (case aS => exact below_size HB3.out); (case aL => simp); intro v1 w1 ho hb hg hat; have HO1 := Aside0.mk ho; have HB1 := Aside0.mk hb; clear ho hb hg hat HR3 HB3)
      go_roundw
      case rel => exact ⟨2, by omega, by go_num, HO1, HB1⟩
      case measure => simp [intOf]
    · have HR2 : Aside0 ((Kd.int .i64).R 3 wr w.heap.size (fun _ => True) u8 [1]) := ⟨HR.out⟩
      clear HR
      go_wp2
      go_ret2
      exact ⟨_, rfl, HR2.out, HB.out⟩

set_option maxRecDepth 100000 in
set_option maxHeartbeats 1600000 in
theorem awakeCalls (w : World) : Calls Tryz.prog 9 #[] w fun e w' => e = .returned (.bool true) ∧ Below w.heap.size w w' := by
  have hz := zeroW
  go_enter Tryz.func9, Tryz.ntmps9
  go_wp2_with fail
  obtain ⟨W, hW⟩ : ∃ W, W = w.alloc (.cells #[.int .i64 5, .int .i64 0, .int .i64 0, .int .i64 0, .int .i64 0, .int .i64 5, .int .i64 0, .int .i64 6, .int .i64 0, .int .i64 0] TW) := ⟨_, rfl⟩
  have HB : Aside0 (Below w.heap.size w W) := ⟨by rw [hW]; exact (Below.refl _ _).alloc (Nat.le_refl _) _⟩
  have HC : Aside0 (Blk W w.heap.size [.int .i64 5, .int .i64 0, .int .i64 0, .int .i64 0, .int .i64 0, .int .i64 5, .int .i64 0, .int .i64 6, .int .i64 0, .int .i64 0] TW) := ⟨by rw [hW]; exact Blk.newA w _ _⟩
  rw [← hW]
  clear hW hz
  refine (dueTwo w.heap.size W HC.out).mono ?_
  rintro e w2 ⟨v, rfl, hR, hb⟩
  obtain ⟨g, cap, rfl, hg1, hg2, cells, hg3⟩ := Kd.R_form hR (by decide)
  have hy := (Kd.R_celln 0 hR 0 (by decide) (by decide)).1
  have HB2 := Aside0.mk (HB.out.trans (hb.mono HB.out.size))
  have hy2 : w2.cell? ⟨g, 0, none⟩ = some (.int .i64 1) := hy
  clear hR hb hg1 hg2 hg3 HB HC hy
  go_wp2
  go_ret
  exact ⟨rfl, HB2.out⟩
end Go.Proofs.YtpjdbmhcpcmakaaGreatDoor.Vac
