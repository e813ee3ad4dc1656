/- Layer 13: the document's Way (printed by wip/tools/gapd.py). -/
import Derived.Test.YtkgabeloofjohaaGapC
import Derived.Deep.QuietTactic
import Derived.BigQuiet
import Derived.Deep.RegionHeld3
namespace Go.Proofs.Ytkgabeloofjohaa.Gap
set_option linter.unusedVariables false
set_option linter.unusedSimpArgs false
open Go.RowKit Go.Proofs.YtkgabeloofjohaaW.PrintWords Go.Proofs.Ytkgabeloofjohaa.Kit

set_option maxRecDepth 100000 in
set_option maxHeartbeats 4000000 in
theorem refWay (A B : Option Addr) (c d : Nat) (xs ys : List Hd) (w : World) (hA : kH.C w A xs.length xs) (hB : kH.C w B ys.length ys) (hn : xs.length ≤ 3518437208780) (hm : ys.length ≤ 3518437208780) :
    Calls Try.prog 9 #[.slice A xs.length c, .slice B ys.length d] w fun e w' => e = .returned (.bool (wayB xs ys)) ∧ Below w.heap.size w w' := by
  have HA := Aside0.mk hA
  have HC := Aside0.mk hB
  have HN := Aside0.mk hn
  have HMl := Aside0.mk hm
  clear hA hB hn hm
  obtain ⟨wb, hwb⟩ : ∃ b, b = wayB xs ys := ⟨_, rfl⟩
  have HWB := Aside0.mk hwb
  rw [← hwb]
  clear hwb
  go_enter Try.func9, Try.ntmps9
  go_wp2_with fail
  go_loopw [5] (fun v wr => ∃ i : Nat, i ≤ xs.length ∧ v = .int .i64 i ∧ Aside0 (∀ j, j < i → ∀ x, xs[j]? = some x → ys.any (fun y => wayH x y) = false) ∧ Aside0 (Below w.heap.size w wr)) (fun v _ => xs.length - (intOf v).toNat)
  case atStart => exact ⟨0, Nat.zero_le _, rfl, ⟨fun j hj => absurd hj (Nat.not_lt_zero j)⟩, ⟨Below.refl _ _⟩⟩
  case round =>
    obtain ⟨i, hi, rfl, HP, HB0⟩ := hrel
    have hn := HN.out
    by_cases hlt : i < xs.length
    · obtain ⟨x, hx⟩ : ∃ x, xs[i]? = some x := ⟨_, List.getElem?_eq_getElem hlt⟩
      have HXs := Aside0.mk hx
      have i1 : (i : Int) < (xs.length : Int) := by omega
      clear hx
      go_wp2_with fail
      go_loopw [6] (fun v wr => ∃ k : Nat, k ≤ ys.length ∧ v = .int .i64 k ∧ Aside0 (∀ j, j < k → ∀ y, ys[j]? = some y → wayH x y = false) ∧ Aside0 (Below w.heap.size w wr)) (fun v _ => ys.length - (intOf v).toNat)
      case atStart => exact ⟨0, Nat.zero_le _, rfl, ⟨fun j hj => absurd hj (Nat.not_lt_zero j)⟩, HB0⟩
      case round =>
        clear HB0
        obtain ⟨k, hk, rfl, HK, HB⟩ := hrel
        have hm := HMl.out
        by_cases hlk : k < ys.length
        · obtain ⟨bx, ox, x1, rfl, hx1, p0, p1, p2, p3⟩ := kH_at (Kd.C_below HA.out HB.out) i hlt
          rw [HXs.out] at hx1
          injection hx1 with hx1
          subst hx1
          obtain ⟨byy, oy, y, rfl, hy, q0, q1, q2, q3⟩ := kH_at (Kd.C_below HC.out HB.out) k hlk
          have HYs := Aside0.mk hy
          have HM := Aside0.mk (refMeet x.r y.r)
          have k1 : (k : Int) < (ys.length : Int) := by omega
          have HT : Aside0 (wayH x y = true → wb = true) := ⟨fun e => by
            rw [HWB.out]
            unfold wayB
            rw [List.any_eq_true]
            refine ⟨x, List.mem_of_getElem? HXs.out, ?_⟩
            rw [List.any_eq_true]
            exact ⟨y, List.mem_of_getElem? HYs.out, e⟩⟩
          have HK1 : Aside0 (wayH x y = false → ∀ j, j < k + 1 → ∀ y, ys[j]? = some y → wayH x y = false) := ⟨fun e j hj z hz => by
            rcases Nat.lt_or_ge j k with h | h
            · exact HK.out j h z hz
            · obtain rfl : j = k := by omega
              rw [HYs.out] at hz
              injection hz with hz
              rw [← hz]
              exact e⟩
          have HW : Aside0 (wayH x y = ((x.alone || y.alone) && meetB x.r y.r)) := ⟨rfl⟩
          generalize wayH x y = q at HT HK1 HW
          generalize meetB x.r y.r = mm at HM HW
          clear hy HK
          obtain ⟨⟨xlo, xhi, xo⟩, xa⟩ := x
          obtain ⟨⟨ylo, yhi, yo⟩, ya⟩ := y
          simp only [Rg.val] at *
          cases xa with
          | true =>
            have HQ : Aside0 (q = mm) := ⟨by rw [HW.out]; rfl⟩
            clear HW
            go_upto_region 7 with (fail)
            refine wp_region_held_drew (S := fun W' => Below wr.heap.size wr W') (by kernel_rfl) ((Below.refl _ wr).drew) (fun hHeld => ?_)
            refine wpAnyH_take (i := 0) (oi := { dst := some 19, op := Op.move (Operand.tmp 0), type := 32, pos := "ref.go:31", after := #[], guard := none }) (v := .slice (some ⟨bx, ox, none⟩) xs.length c) rfl (by kernel_rfl) (by kernel_rfl) (by kernel_rfl) (fun _ _ _ h => h) (Or.inl ⟨by rfl, fun W' hS' => by go_simp⟩) (by assumption) ?_
            try simp only [Act.put, List.setIfInBounds_toArray, List.set_cons_zero, List.set_cons_succ]
            refine wpAnyH_take (i := 1) (oi := { dst := some 20, op := Op.move (Operand.tmp 5), type := 3, pos := "ref.go:31", after := #[], guard := none }) (v := .int .i64 i) rfl (by kernel_rfl) (by kernel_rfl) (by kernel_rfl) (fun _ _ _ h => h) (Or.inl ⟨by rfl, fun W' hS' => by go_simp⟩) (by assumption) ?_
            try simp only [Act.put, List.setIfInBounds_toArray, List.set_cons_zero, List.set_cons_succ]
            refine wpAnyH_take (i := 2) (oi := { dst := some 21, op := Op.indexAddr 32 (Operand.tmp 19) (Operand.tmp 20), type := 0, pos := "ref.go:31", after := #[{ on := 0, ground := Ground.data }, { on := 1, ground := Ground.data }], guard := none }) (v := .pointer (some ⟨bx, ox + i * 4, none⟩)) rfl (by kernel_rfl) (by kernel_rfl) (by kernel_rfl) (fun _ _ _ h => h) (Or.inl ⟨by rfl, fun W' hS' => by go_simp⟩) (by assumption) ?_
            try simp only [Act.put, List.setIfInBounds_toArray, List.set_cons_zero, List.set_cons_succ]
            refine wpAnyH_take (i := 3) (oi := { dst := some 22, op := Op.fieldAddr 52 (Operand.tmp 21) 1, type := 0, pos := "ref.go:31", after := #[{ on := 2, ground := Ground.data }], guard := none }) (v := .pointer (some ⟨bx, ox + i * 4 + 3, none⟩)) rfl (by kernel_rfl) (by kernel_rfl) (by kernel_rfl) (fun _ _ _ h => h) (Or.inl ⟨by rfl, fun W' hS' => by go_simp⟩) (by assumption) ?_
            try simp only [Act.put, List.setIfInBounds_toArray, List.set_cons_zero, List.set_cons_succ]
            refine wpAnyH_take (i := 4) (oi := { dst := some 23, op := Op.load 4 (Operand.tmp 22), type := 4, pos := "ref.go:31", after := #[{ on := 3, ground := Ground.data }], guard := none }) (v := .bool true) rfl (by kernel_rfl) (by kernel_rfl) (by kernel_rfl) (fun _ _ _ h => h) (Or.inl ⟨by rfl, fun W' hS' => by have r0 := pw_cell_below hS' p3; go_simp⟩) (by assumption) ?_
            try simp only [Act.put, List.setIfInBounds_toArray, List.set_cons_zero, List.set_cons_succ]
            refine wpAnyH_take (i := 5) (oi := { dst := some 24, op := Op.move (Operand.tmp 23), type := 4, pos := "ref.go:31", after := #[{ on := 4, ground := Ground.data }], guard := none }) (v := .bool true) rfl (by kernel_rfl) (by kernel_rfl) (by kernel_rfl) (fun _ _ _ h => h) (Or.inl ⟨by rfl, fun W' hS' => by go_simp⟩) (by assumption) ?_
            try simp only [Act.put, List.setIfInBounds_toArray, List.set_cons_zero, List.set_cons_succ]
            refine wpAnyH_take (i := 6) (oi := { dst := some 25, op := Op.move (Operand.tmp 1), type := 32, pos := "ref.go:31", after := #[{ on := 5, ground := Ground.guard }], guard := some (5, false) }) (v := undef) rfl (by kernel_rfl) (by kernel_rfl) (by kernel_rfl) (fun _ _ _ h => h) (Or.inr ⟨by rfl, rfl⟩) (by assumption) ?_
            try simp only [Act.put, List.setIfInBounds_toArray, List.set_cons_zero, List.set_cons_succ]
            refine wpAnyH_take (i := 7) (oi := { dst := some 26, op := Op.move (Operand.tmp 6), type := 3, pos := "ref.go:31", after := #[{ on := 5, ground := Ground.guard }], guard := some (5, false) }) (v := undef) rfl (by kernel_rfl) (by kernel_rfl) (by kernel_rfl) (fun _ _ _ h => h) (Or.inr ⟨by rfl, rfl⟩) (by assumption) ?_
            try simp only [Act.put, List.setIfInBounds_toArray, List.set_cons_zero, List.set_cons_succ]
            refine wpAnyH_take (i := 8) (oi := { dst := some 27, op := Op.indexAddr 32 (Operand.tmp 25) (Operand.tmp 26), type := 0, pos := "ref.go:31", after := #[{ on := 6, ground := Ground.data }, { on := 7, ground := Ground.data }, { on := 5, ground := Ground.guard }], guard := some (5, false) }) (v := undef) rfl (by kernel_rfl) (by kernel_rfl) (by kernel_rfl) (fun _ _ _ h => h) (Or.inr ⟨by rfl, rfl⟩) (by assumption) ?_
            try simp only [Act.put, List.setIfInBounds_toArray, List.set_cons_zero, List.set_cons_succ]
            refine wpAnyH_take (i := 9) (oi := { dst := some 28, op := Op.fieldAddr 52 (Operand.tmp 27) 1, type := 0, pos := "ref.go:31", after := #[{ on := 8, ground := Ground.data }, { on := 5, ground := Ground.guard }], guard := some (5, false) }) (v := undef) rfl (by kernel_rfl) (by kernel_rfl) (by kernel_rfl) (fun _ _ _ h => h) (Or.inr ⟨by rfl, rfl⟩) (by assumption) ?_
            try simp only [Act.put, List.setIfInBounds_toArray, List.set_cons_zero, List.set_cons_succ]
            refine wpAnyH_take (i := 10) (oi := { dst := some 29, op := Op.load 4 (Operand.tmp 28), type := 4, pos := "ref.go:31", after := #[{ on := 9, ground := Ground.data }, { on := 5, ground := Ground.guard }], guard := some (5, false) }) (v := undef) rfl (by kernel_rfl) (by kernel_rfl) (by kernel_rfl) (fun _ _ _ h => h) (Or.inr ⟨by rfl, rfl⟩) (by assumption) ?_
            try simp only [Act.put, List.setIfInBounds_toArray, List.set_cons_zero, List.set_cons_succ]
            refine wpAnyH_take (i := 11) (oi := { dst := some 30, op := Op.pick (Operand.tmp 24) (Operand.const (Value.bool true)) (Operand.tmp 29), type := 4, pos := "ref.go:31", after := #[{ on := 5, ground := Ground.data }, { on := 10, ground := Ground.data }], guard := none }) (v := .bool true) rfl (by kernel_rfl) (by kernel_rfl) (by kernel_rfl) (fun _ _ _ h => h) (Or.inl ⟨by rfl, fun W' hS' => by go_simp⟩) (by assumption) ?_
            try simp only [Act.put, List.setIfInBounds_toArray, List.set_cons_zero, List.set_cons_succ]
            refine wpAnyH_take (i := 12) (oi := { dst := some 31, op := Op.move (Operand.tmp 30), type := 4, pos := "ref.go:31", after := #[{ on := 11, ground := Ground.data }, { on := 5, ground := Ground.chain }], guard := none }) (v := .bool true) rfl (by kernel_rfl) (by kernel_rfl) (by kernel_rfl) (fun _ _ _ h => h) (Or.inl ⟨by rfl, fun W' hS' => by go_simp⟩) (by assumption) ?_
            try simp only [Act.put, List.setIfInBounds_toArray, List.set_cons_zero, List.set_cons_succ]
            refine wpAnyH_take (i := 13) (oi := { dst := some 32, op := Op.move (Operand.tmp 0), type := 32, pos := "ref.go:31", after := #[{ on := 12, ground := Ground.guard }], guard := some (12, true) }) (v := .slice (some ⟨bx, ox, none⟩) xs.length c) rfl (by kernel_rfl) (by kernel_rfl) (by kernel_rfl) (fun _ _ _ h => h) (Or.inl ⟨by rfl, fun W' hS' => by go_simp⟩) (by assumption) ?_
            try simp only [Act.put, List.setIfInBounds_toArray, List.set_cons_zero, List.set_cons_succ]
            refine wpAnyH_take (i := 14) (oi := { dst := some 33, op := Op.move (Operand.tmp 5), type := 3, pos := "ref.go:31", after := #[{ on := 12, ground := Ground.guard }], guard := some (12, true) }) (v := .int .i64 i) rfl (by kernel_rfl) (by kernel_rfl) (by kernel_rfl) (fun _ _ _ h => h) (Or.inl ⟨by rfl, fun W' hS' => by go_simp⟩) (by assumption) ?_
            try simp only [Act.put, List.setIfInBounds_toArray, List.set_cons_zero, List.set_cons_succ]
            refine wpAnyH_take (i := 15) (oi := { dst := some 34, op := Op.indexAddr 32 (Operand.tmp 32) (Operand.tmp 33), type := 0, pos := "ref.go:31", after := #[{ on := 13, ground := Ground.data }, { on := 14, ground := Ground.data }, { on := 12, ground := Ground.guard }], guard := some (12, true) }) (v := .pointer (some ⟨bx, ox + i * 4, none⟩)) rfl (by kernel_rfl) (by kernel_rfl) (by kernel_rfl) (fun _ _ _ h => h) (Or.inl ⟨by rfl, fun W' hS' => by go_simp⟩) (by assumption) ?_
            try simp only [Act.put, List.setIfInBounds_toArray, List.set_cons_zero, List.set_cons_succ]
            refine wpAnyH_take (i := 16) (oi := { dst := some 35, op := Op.fieldAddr 52 (Operand.tmp 34) 0, type := 0, pos := "ref.go:31", after := #[{ on := 15, ground := Ground.data }, { on := 12, ground := Ground.guard }], guard := some (12, true) }) (v := .pointer (some ⟨bx, ox + i * 4, none⟩)) rfl (by kernel_rfl) (by kernel_rfl) (by kernel_rfl) (fun _ _ _ h => h) (Or.inl ⟨by rfl, fun W' hS' => by go_simp⟩) (by assumption) ?_
            try simp only [Act.put, List.setIfInBounds_toArray, List.set_cons_zero, List.set_cons_succ]
            refine wpAnyH_take (i := 17) (oi := { dst := some 36, op := Op.load 50 (Operand.tmp 35), type := 50, pos := "ref.go:31", after := #[{ on := 16, ground := Ground.data }, { on := 12, ground := Ground.guard }], guard := some (12, true) }) (v := .agg #[.string xlo, .string xhi, .bool xo]) rfl (by kernel_rfl) (by kernel_rfl) (by kernel_rfl) (fun _ _ _ h => h) (Or.inl ⟨by rfl, fun W' hS' => by have r0 := pw_cell_below hS' p0; have r1 := pw_cell_below hS' p1; have r2 := pw_cell_below hS' p2; go_simp⟩) (by assumption) ?_
            try simp only [Act.put, List.setIfInBounds_toArray, List.set_cons_zero, List.set_cons_succ]
            refine wpAnyH_take (i := 18) (oi := { dst := some 37, op := Op.move (Operand.tmp 1), type := 32, pos := "ref.go:31", after := #[{ on := 12, ground := Ground.guard }], guard := some (12, true) }) (v := .slice (some ⟨byy, oy, none⟩) ys.length d) rfl (by kernel_rfl) (by kernel_rfl) (by kernel_rfl) (fun _ _ _ h => h) (Or.inl ⟨by rfl, fun W' hS' => by go_simp⟩) (by assumption) ?_
            try simp only [Act.put, List.setIfInBounds_toArray, List.set_cons_zero, List.set_cons_succ]
            refine wpAnyH_take (i := 19) (oi := { dst := some 38, op := Op.move (Operand.tmp 6), type := 3, pos := "ref.go:31", after := #[{ on := 12, ground := Ground.guard }], guard := some (12, true) }) (v := .int .i64 k) rfl (by kernel_rfl) (by kernel_rfl) (by kernel_rfl) (fun _ _ _ h => h) (Or.inl ⟨by rfl, fun W' hS' => by go_simp⟩) (by assumption) ?_
            try simp only [Act.put, List.setIfInBounds_toArray, List.set_cons_zero, List.set_cons_succ]
            refine wpAnyH_take (i := 20) (oi := { dst := some 39, op := Op.indexAddr 32 (Operand.tmp 37) (Operand.tmp 38), type := 0, pos := "ref.go:31", after := #[{ on := 18, ground := Ground.data }, { on := 19, ground := Ground.data }, { on := 12, ground := Ground.guard }], guard := some (12, true) }) (v := .pointer (some ⟨byy, oy + k * 4, none⟩)) rfl (by kernel_rfl) (by kernel_rfl) (by kernel_rfl) (fun _ _ _ h => h) (Or.inl ⟨by rfl, fun W' hS' => by go_simp⟩) (by assumption) ?_
            try simp only [Act.put, List.setIfInBounds_toArray, List.set_cons_zero, List.set_cons_succ]
            refine wpAnyH_take (i := 21) (oi := { dst := some 40, op := Op.fieldAddr 52 (Operand.tmp 39) 0, type := 0, pos := "ref.go:31", after := #[{ on := 20, ground := Ground.data }, { on := 12, ground := Ground.guard }], guard := some (12, true) }) (v := .pointer (some ⟨byy, oy + k * 4, none⟩)) rfl (by kernel_rfl) (by kernel_rfl) (by kernel_rfl) (fun _ _ _ h => h) (Or.inl ⟨by rfl, fun W' hS' => by go_simp⟩) (by assumption) ?_
            try simp only [Act.put, List.setIfInBounds_toArray, List.set_cons_zero, List.set_cons_succ]
            refine wpAnyH_take (i := 22) (oi := { dst := some 41, op := Op.load 50 (Operand.tmp 40), type := 50, pos := "ref.go:31", after := #[{ on := 21, ground := Ground.data }, { on := 12, ground := Ground.guard }], guard := some (12, true) }) (v := .agg #[.string ylo, .string yhi, .bool yo]) rfl (by kernel_rfl) (by kernel_rfl) (by kernel_rfl) (fun _ _ _ h => h) (Or.inl ⟨by rfl, fun W' hS' => by have r0 := pw_cell_below hS' q0; have r1 := pw_cell_below hS' q1; have r2 := pw_cell_below hS' q2; go_simp⟩) (by assumption) ?_
            try simp only [Act.put, List.setIfInBounds_toArray, List.set_cons_zero, List.set_cons_succ]
            refine wpAnyH_ready (rs := [23]) (by kernel_rfl) (by simp) ?_
            refine AllReadyH.cons (o := { dst := some 42, op := Op.call { callee := Callee.value (Operand.func 23), args := #[Operand.tmp 36, Operand.tmp 41], argTypes := #[50, 50] }, type := 4, pos := "ref.go:31", after := #[{ on := 17, ground := Ground.data }, { on := 22, ground := Ground.data }, { on := 12, ground := Ground.chain }, { on := 12, ground := Ground.guard }], guard := some (12, true) }) rfl (fun K hK => ?_) AllReadyH.nil
            go_simp
            go_at_call 23
            refine (HM.out _).mono ?_
            rintro e w9 ⟨rfl, hb9⟩
            have HB9 : Aside0 (Below w.heap.size w w9) := ⟨HB.out.trans ((hHeld.trans (hb9.mono hHeld.size)).mono HB.out.size)⟩
            have hk9 : Below wr.heap.size wr w9 := hHeld.trans (hb9.mono hHeld.size)
            go_wp2_with fail
            refine hK.out _ _ hk9 (fun hHeld2 => ?_)
            try simp only [Act.put, List.setIfInBounds_toArray, List.set_cons_zero, List.set_cons_succ]
            refine wpAnyH_take (i := 24) (oi := { dst := some 43, op := Op.pick (Operand.tmp 31) (Operand.tmp 42) (Operand.const (Value.bool false)), type := 4, pos := "ref.go:31", after := #[{ on := 12, ground := Ground.data }, { on := 23, ground := Ground.data }], guard := none }) (v := .bool mm) rfl (by kernel_rfl) (by kernel_rfl) (by kernel_rfl) (fun _ _ _ h => h) (Or.inl ⟨by rfl, fun W' hS' => by go_simp⟩) (by assumption) ?_
            try simp only [Act.put, List.setIfInBounds_toArray, List.set_cons_zero, List.set_cons_succ]
            refine wpAnyH_done (by kernel_rfl) ?_ _
            clear hK hb9 hk9 hHeld hHeld2 HB HM p0 p1 p2 p3 q0 q1 q2 q3
            cases mm with
            | true =>
              go_wp2
              go_ret
              exact ⟨by rw [HT.out HQ.out]; rfl, HB9.out⟩
            | false =>
              have HK2 := Aside0.mk (HK1.out HQ.out)
              clear HT HK1 HQ
              go_wp2
              go_roundw
              case rel => exact ⟨k + 1, by omega, by go_num, HK2, HB9⟩
              case measure => simp [intOf]; omega
          | false => cases ya with
            | true =>
              have HQ : Aside0 (q = mm) := ⟨by rw [HW.out]; rfl⟩
              clear HW
              go_upto_region 7 with (fail)
              refine wp_region_held_drew (S := fun W' => Below wr.heap.size wr W') (by kernel_rfl) ((Below.refl _ wr).drew) (fun hHeld => ?_)
              refine wpAnyH_take (i := 0) (oi := { dst := some 19, op := Op.move (Operand.tmp 0), type := 32, pos := "ref.go:31", after := #[], guard := none }) (v := .slice (some ⟨bx, ox, none⟩) xs.length c) rfl (by kernel_rfl) (by kernel_rfl) (by kernel_rfl) (fun _ _ _ h => h) (Or.inl ⟨by rfl, fun W' hS' => by go_simp⟩) (by assumption) ?_
              try simp only [Act.put, List.setIfInBounds_toArray, List.set_cons_zero, List.set_cons_succ]
              refine wpAnyH_take (i := 1) (oi := { dst := some 20, op := Op.move (Operand.tmp 5), type := 3, pos := "ref.go:31", after := #[], guard := none }) (v := .int .i64 i) rfl (by kernel_rfl) (by kernel_rfl) (by kernel_rfl) (fun _ _ _ h => h) (Or.inl ⟨by rfl, fun W' hS' => by go_simp⟩) (by assumption) ?_
              try simp only [Act.put, List.setIfInBounds_toArray, List.set_cons_zero, List.set_cons_succ]
              refine wpAnyH_take (i := 2) (oi := { dst := some 21, op := Op.indexAddr 32 (Operand.tmp 19) (Operand.tmp 20), type := 0, pos := "ref.go:31", after := #[{ on := 0, ground := Ground.data }, { on := 1, ground := Ground.data }], guard := none }) (v := .pointer (some ⟨bx, ox + i * 4, none⟩)) rfl (by kernel_rfl) (by kernel_rfl) (by kernel_rfl) (fun _ _ _ h => h) (Or.inl ⟨by rfl, fun W' hS' => by go_simp⟩) (by assumption) ?_
              try simp only [Act.put, List.setIfInBounds_toArray, List.set_cons_zero, List.set_cons_succ]
              refine wpAnyH_take (i := 3) (oi := { dst := some 22, op := Op.fieldAddr 52 (Operand.tmp 21) 1, type := 0, pos := "ref.go:31", after := #[{ on := 2, ground := Ground.data }], guard := none }) (v := .pointer (some ⟨bx, ox + i * 4 + 3, none⟩)) rfl (by kernel_rfl) (by kernel_rfl) (by kernel_rfl) (fun _ _ _ h => h) (Or.inl ⟨by rfl, fun W' hS' => by go_simp⟩) (by assumption) ?_
              try simp only [Act.put, List.setIfInBounds_toArray, List.set_cons_zero, List.set_cons_succ]
              refine wpAnyH_take (i := 4) (oi := { dst := some 23, op := Op.load 4 (Operand.tmp 22), type := 4, pos := "ref.go:31", after := #[{ on := 3, ground := Ground.data }], guard := none }) (v := .bool false) rfl (by kernel_rfl) (by kernel_rfl) (by kernel_rfl) (fun _ _ _ h => h) (Or.inl ⟨by rfl, fun W' hS' => by have r0 := pw_cell_below hS' p3; go_simp⟩) (by assumption) ?_
              try simp only [Act.put, List.setIfInBounds_toArray, List.set_cons_zero, List.set_cons_succ]
              refine wpAnyH_take (i := 5) (oi := { dst := some 24, op := Op.move (Operand.tmp 23), type := 4, pos := "ref.go:31", after := #[{ on := 4, ground := Ground.data }], guard := none }) (v := .bool false) rfl (by kernel_rfl) (by kernel_rfl) (by kernel_rfl) (fun _ _ _ h => h) (Or.inl ⟨by rfl, fun W' hS' => by go_simp⟩) (by assumption) ?_
              try simp only [Act.put, List.setIfInBounds_toArray, List.set_cons_zero, List.set_cons_succ]
              refine wpAnyH_take (i := 6) (oi := { dst := some 25, op := Op.move (Operand.tmp 1), type := 32, pos := "ref.go:31", after := #[{ on := 5, ground := Ground.guard }], guard := some (5, false) }) (v := .slice (some ⟨byy, oy, none⟩) ys.length d) rfl (by kernel_rfl) (by kernel_rfl) (by kernel_rfl) (fun _ _ _ h => h) (Or.inl ⟨by rfl, fun W' hS' => by go_simp⟩) (by assumption) ?_
              try simp only [Act.put, List.setIfInBounds_toArray, List.set_cons_zero, List.set_cons_succ]
              refine wpAnyH_take (i := 7) (oi := { dst := some 26, op := Op.move (Operand.tmp 6), type := 3, pos := "ref.go:31", after := #[{ on := 5, ground := Ground.guard }], guard := some (5, false) }) (v := .int .i64 k) rfl (by kernel_rfl) (by kernel_rfl) (by kernel_rfl) (fun _ _ _ h => h) (Or.inl ⟨by rfl, fun W' hS' => by go_simp⟩) (by assumption) ?_
              try simp only [Act.put, List.setIfInBounds_toArray, List.set_cons_zero, List.set_cons_succ]
              refine wpAnyH_take (i := 8) (oi := { dst := some 27, op := Op.indexAddr 32 (Operand.tmp 25) (Operand.tmp 26), type := 0, pos := "ref.go:31", after := #[{ on := 6, ground := Ground.data }, { on := 7, ground := Ground.data }, { on := 5, ground := Ground.guard }], guard := some (5, false) }) (v := .pointer (some ⟨byy, oy + k * 4, none⟩)) rfl (by kernel_rfl) (by kernel_rfl) (by kernel_rfl) (fun _ _ _ h => h) (Or.inl ⟨by rfl, fun W' hS' => by go_simp⟩) (by assumption) ?_
              try simp only [Act.put, List.setIfInBounds_toArray, List.set_cons_zero, List.set_cons_succ]
              refine wpAnyH_take (i := 9) (oi := { dst := some 28, op := Op.fieldAddr 52 (Operand.tmp 27) 1, type := 0, pos := "ref.go:31", after := #[{ on := 8, ground := Ground.data }, { on := 5, ground := Ground.guard }], guard := some (5, false) }) (v := .pointer (some ⟨byy, oy + k * 4 + 3, none⟩)) rfl (by kernel_rfl) (by kernel_rfl) (by kernel_rfl) (fun _ _ _ h => h) (Or.inl ⟨by rfl, fun W' hS' => by go_simp⟩) (by assumption) ?_
              try simp only [Act.put, List.setIfInBounds_toArray, List.set_cons_zero, List.set_cons_succ]
              refine wpAnyH_take (i := 10) (oi := { dst := some 29, op := Op.load 4 (Operand.tmp 28), type := 4, pos := "ref.go:31", after := #[{ on := 9, ground := Ground.data }, { on := 5, ground := Ground.guard }], guard := some (5, false) }) (v := .bool true) rfl (by kernel_rfl) (by kernel_rfl) (by kernel_rfl) (fun _ _ _ h => h) (Or.inl ⟨by rfl, fun W' hS' => by have r0 := pw_cell_below hS' q3; go_simp⟩) (by assumption) ?_
              try simp only [Act.put, List.setIfInBounds_toArray, List.set_cons_zero, List.set_cons_succ]
              refine wpAnyH_take (i := 11) (oi := { dst := some 30, op := Op.pick (Operand.tmp 24) (Operand.const (Value.bool true)) (Operand.tmp 29), type := 4, pos := "ref.go:31", after := #[{ on := 5, ground := Ground.data }, { on := 10, ground := Ground.data }], guard := none }) (v := .bool true) rfl (by kernel_rfl) (by kernel_rfl) (by kernel_rfl) (fun _ _ _ h => h) (Or.inl ⟨by rfl, fun W' hS' => by go_simp⟩) (by assumption) ?_
              try simp only [Act.put, List.setIfInBounds_toArray, List.set_cons_zero, List.set_cons_succ]
              refine wpAnyH_take (i := 12) (oi := { dst := some 31, op := Op.move (Operand.tmp 30), type := 4, pos := "ref.go:31", after := #[{ on := 11, ground := Ground.data }, { on := 5, ground := Ground.chain }], guard := none }) (v := .bool true) rfl (by kernel_rfl) (by kernel_rfl) (by kernel_rfl) (fun _ _ _ h => h) (Or.inl ⟨by rfl, fun W' hS' => by go_simp⟩) (by assumption) ?_
              try simp only [Act.put, List.setIfInBounds_toArray, List.set_cons_zero, List.set_cons_succ]
              refine wpAnyH_take (i := 13) (oi := { dst := some 32, op := Op.move (Operand.tmp 0), type := 32, pos := "ref.go:31", after := #[{ on := 12, ground := Ground.guard }], guard := some (12, true) }) (v := .slice (some ⟨bx, ox, none⟩) xs.length c) rfl (by kernel_rfl) (by kernel_rfl) (by kernel_rfl) (fun _ _ _ h => h) (Or.inl ⟨by rfl, fun W' hS' => by go_simp⟩) (by assumption) ?_
              try simp only [Act.put, List.setIfInBounds_toArray, List.set_cons_zero, List.set_cons_succ]
              refine wpAnyH_take (i := 14) (oi := { dst := some 33, op := Op.move (Operand.tmp 5), type := 3, pos := "ref.go:31", after := #[{ on := 12, ground := Ground.guard }], guard := some (12, true) }) (v := .int .i64 i) rfl (by kernel_rfl) (by kernel_rfl) (by kernel_rfl) (fun _ _ _ h => h) (Or.inl ⟨by rfl, fun W' hS' => by go_simp⟩) (by assumption) ?_
              try simp only [Act.put, List.setIfInBounds_toArray, List.set_cons_zero, List.set_cons_succ]
              refine wpAnyH_take (i := 15) (oi := { dst := some 34, op := Op.indexAddr 32 (Operand.tmp 32) (Operand.tmp 33), type := 0, pos := "ref.go:31", after := #[{ on := 13, ground := Ground.data }, { on := 14, ground := Ground.data }, { on := 12, ground := Ground.guard }], guard := some (12, true) }) (v := .pointer (some ⟨bx, ox + i * 4, none⟩)) rfl (by kernel_rfl) (by kernel_rfl) (by kernel_rfl) (fun _ _ _ h => h) (Or.inl ⟨by rfl, fun W' hS' => by go_simp⟩) (by assumption) ?_
              try simp only [Act.put, List.setIfInBounds_toArray, List.set_cons_zero, List.set_cons_succ]
              refine wpAnyH_take (i := 16) (oi := { dst := some 35, op := Op.fieldAddr 52 (Operand.tmp 34) 0, type := 0, pos := "ref.go:31", after := #[{ on := 15, ground := Ground.data }, { on := 12, ground := Ground.guard }], guard := some (12, true) }) (v := .pointer (some ⟨bx, ox + i * 4, none⟩)) rfl (by kernel_rfl) (by kernel_rfl) (by kernel_rfl) (fun _ _ _ h => h) (Or.inl ⟨by rfl, fun W' hS' => by go_simp⟩) (by assumption) ?_
              try simp only [Act.put, List.setIfInBounds_toArray, List.set_cons_zero, List.set_cons_succ]
              refine wpAnyH_take (i := 17) (oi := { dst := some 36, op := Op.load 50 (Operand.tmp 35), type := 50, pos := "ref.go:31", after := #[{ on := 16, ground := Ground.data }, { on := 12, ground := Ground.guard }], guard := some (12, true) }) (v := .agg #[.string xlo, .string xhi, .bool xo]) rfl (by kernel_rfl) (by kernel_rfl) (by kernel_rfl) (fun _ _ _ h => h) (Or.inl ⟨by rfl, fun W' hS' => by have r0 := pw_cell_below hS' p0; have r1 := pw_cell_below hS' p1; have r2 := pw_cell_below hS' p2; go_simp⟩) (by assumption) ?_
              try simp only [Act.put, List.setIfInBounds_toArray, List.set_cons_zero, List.set_cons_succ]
              refine wpAnyH_take (i := 18) (oi := { dst := some 37, op := Op.move (Operand.tmp 1), type := 32, pos := "ref.go:31", after := #[{ on := 12, ground := Ground.guard }], guard := some (12, true) }) (v := .slice (some ⟨byy, oy, none⟩) ys.length d) rfl (by kernel_rfl) (by kernel_rfl) (by kernel_rfl) (fun _ _ _ h => h) (Or.inl ⟨by rfl, fun W' hS' => by go_simp⟩) (by assumption) ?_
              try simp only [Act.put, List.setIfInBounds_toArray, List.set_cons_zero, List.set_cons_succ]
              refine wpAnyH_take (i := 19) (oi := { dst := some 38, op := Op.move (Operand.tmp 6), type := 3, pos := "ref.go:31", after := #[{ on := 12, ground := Ground.guard }], guard := some (12, true) }) (v := .int .i64 k) rfl (by kernel_rfl) (by kernel_rfl) (by kernel_rfl) (fun _ _ _ h => h) (Or.inl ⟨by rfl, fun W' hS' => by go_simp⟩) (by assumption) ?_
              try simp only [Act.put, List.setIfInBounds_toArray, List.set_cons_zero, List.set_cons_succ]
              refine wpAnyH_take (i := 20) (oi := { dst := some 39, op := Op.indexAddr 32 (Operand.tmp 37) (Operand.tmp 38), type := 0, pos := "ref.go:31", after := #[{ on := 18, ground := Ground.data }, { on := 19, ground := Ground.data }, { on := 12, ground := Ground.guard }], guard := some (12, true) }) (v := .pointer (some ⟨byy, oy + k * 4, none⟩)) rfl (by kernel_rfl) (by kernel_rfl) (by kernel_rfl) (fun _ _ _ h => h) (Or.inl ⟨by rfl, fun W' hS' => by go_simp⟩) (by assumption) ?_
              try simp only [Act.put, List.setIfInBounds_toArray, List.set_cons_zero, List.set_cons_succ]
              refine wpAnyH_take (i := 21) (oi := { dst := some 40, op := Op.fieldAddr 52 (Operand.tmp 39) 0, type := 0, pos := "ref.go:31", after := #[{ on := 20, ground := Ground.data }, { on := 12, ground := Ground.guard }], guard := some (12, true) }) (v := .pointer (some ⟨byy, oy + k * 4, none⟩)) rfl (by kernel_rfl) (by kernel_rfl) (by kernel_rfl) (fun _ _ _ h => h) (Or.inl ⟨by rfl, fun W' hS' => by go_simp⟩) (by assumption) ?_
              try simp only [Act.put, List.setIfInBounds_toArray, List.set_cons_zero, List.set_cons_succ]
              refine wpAnyH_take (i := 22) (oi := { dst := some 41, op := Op.load 50 (Operand.tmp 40), type := 50, pos := "ref.go:31", after := #[{ on := 21, ground := Ground.data }, { on := 12, ground := Ground.guard }], guard := some (12, true) }) (v := .agg #[.string ylo, .string yhi, .bool yo]) rfl (by kernel_rfl) (by kernel_rfl) (by kernel_rfl) (fun _ _ _ h => h) (Or.inl ⟨by rfl, fun W' hS' => by have r0 := pw_cell_below hS' q0; have r1 := pw_cell_below hS' q1; have r2 := pw_cell_below hS' q2; go_simp⟩) (by assumption) ?_
              try simp only [Act.put, List.setIfInBounds_toArray, List.set_cons_zero, List.set_cons_succ]
              refine wpAnyH_ready (rs := [23]) (by kernel_rfl) (by simp) ?_
              refine AllReadyH.cons (o := { dst := some 42, op := Op.call { callee := Callee.value (Operand.func 23), args := #[Operand.tmp 36, Operand.tmp 41], argTypes := #[50, 50] }, type := 4, pos := "ref.go:31", after := #[{ on := 17, ground := Ground.data }, { on := 22, ground := Ground.data }, { on := 12, ground := Ground.chain }, { on := 12, ground := Ground.guard }], guard := some (12, true) }) rfl (fun K hK => ?_) AllReadyH.nil
              go_simp
              go_at_call 23
              refine (HM.out _).mono ?_
              rintro e w9 ⟨rfl, hb9⟩
              have HB9 : Aside0 (Below w.heap.size w w9) := ⟨HB.out.trans ((hHeld.trans (hb9.mono hHeld.size)).mono HB.out.size)⟩
              have hk9 : Below wr.heap.size wr w9 := hHeld.trans (hb9.mono hHeld.size)
              go_wp2_with fail
              refine hK.out _ _ hk9 (fun hHeld2 => ?_)
              try simp only [Act.put, List.setIfInBounds_toArray, List.set_cons_zero, List.set_cons_succ]
              refine wpAnyH_take (i := 24) (oi := { dst := some 43, op := Op.pick (Operand.tmp 31) (Operand.tmp 42) (Operand.const (Value.bool false)), type := 4, pos := "ref.go:31", after := #[{ on := 12, ground := Ground.data }, { on := 23, ground := Ground.data }], guard := none }) (v := .bool mm) rfl (by kernel_rfl) (by kernel_rfl) (by kernel_rfl) (fun _ _ _ h => h) (Or.inl ⟨by rfl, fun W' hS' => by go_simp⟩) (by assumption) ?_
              try simp only [Act.put, List.setIfInBounds_toArray, List.set_cons_zero, List.set_cons_succ]
              refine wpAnyH_done (by kernel_rfl) ?_ _
              clear hK hb9 hk9 hHeld hHeld2 HB HM p0 p1 p2 p3 q0 q1 q2 q3
              cases mm with
              | true =>
                go_wp2
                go_ret
                exact ⟨by rw [HT.out HQ.out]; rfl, HB9.out⟩
              | false =>
                have HK2 := Aside0.mk (HK1.out HQ.out)
                clear HT HK1 HQ
                go_wp2
                go_roundw
                case rel => exact ⟨k + 1, by omega, by go_num, HK2, HB9⟩
                case measure => simp [intOf]; omega
            | false =>
              have HQ : Aside0 (q = false) := ⟨by rw [HW.out]; rfl⟩
              have HK2 := Aside0.mk (HK1.out HQ.out)
              clear HW HM HT HK1 HQ
              go_upto_region 7 with (fail)
              go_quiet (fail)
              have HBq : Aside0 (Below w.heap.size w (wr.drewN nq)) := ⟨pw_below_drewN HB.out nq⟩
              clear HB p0 p1 p2 p3 q0 q1 q2 q3
              go_wp2
              go_roundw
              case rel => exact ⟨k + 1, by omega, by go_num, HK2, HBq⟩
              case measure => simp [intOf]; omega
        · obtain rfl : k = ys.length := by omega
          have HP1 : Aside0 (∀ j, j < i + 1 → ∀ z, xs[j]? = some z → ys.any (fun y => wayH z y) = false) := ⟨fun j hj z hz => by
            rcases Nat.lt_or_ge j i with h | h
            · exact HP.out j h z hz
            · obtain rfl : j = i := by omega
              rw [HXs.out] at hz
              injection hz with hz
              rw [← hz, List.any_eq_false]
              intro y hy
              obtain ⟨l, hl⟩ := List.getElem?_of_mem hy
              have := HK.out l (List.getElem?_eq_some_iff.1 hl).1 y hl
              rw [this]
              exact Bool.false_ne_true⟩
          clear HP HK HXs hk
          go_wp2
          go_roundw
          case rel => exact ⟨i + 1, by omega, by go_num, HP1, HB⟩
          case measure => simp [intOf]; omega
    · obtain rfl : i = xs.length := by omega
      have HR : Aside0 (wb = false) := ⟨by
        rw [HWB.out]
        unfold wayB
        rw [List.any_eq_false]
        intro x hx
        obtain ⟨l, hl⟩ := List.getElem?_of_mem hx
        have := HP.out l (List.getElem?_eq_some_iff.1 hl).1 x hl
        rw [this]
        exact Bool.false_ne_true⟩
      clear HP hi
      go_wp2
      go_ret
      exact ⟨by rw [HR.out]; rfl, HB0.out⟩
end Go.Proofs.Ytkgabeloofjohaa.Gap
