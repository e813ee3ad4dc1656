/- Layer 12: a key's own height, as the program has it; the law's walk. -/
import Derived.Test.YtnpjppnahfehnaaDoorHgtA
import Derived.Test.YtnpjppnahfehnaaDoorSkipK
import Derived.Laws.Bits64
namespace Go.Proofs.YtnpjppnahfehnaaDoor.Skip
set_option linter.unusedVariables false
set_option linter.unusedSimpArgs false
open Go.RowKit Go.Proofs.YtnpjppnahfehnaaDoorW.PrintWords Go.Proofs.YtnpjppnahfehnaaDoor.Kit Go.MuLone

/-- The table in its variable. -/
def TabAt (w : World) : Prop := ∀ j, j < 64 → w.cell? ⟨0, j, none⟩ = some (.int .u8 (Lib.deBruijn64tab.getD j 0))
theorem TabAt.below {w w' : World} (h : TabAt w) (hb : Below w.heap.size w w') : TabAt w' := fun j hj => by
  have h1 := h j hj
  have : 0 < w.heap.size := by
    by_cases hx : 0 < w.heap.size
    · exact hx
    · simp [World.cell?, Array.getElem?_eq_none (Nat.le_of_not_lt hx)] at h1
  rw [hb.cell (p := ⟨0, j, none⟩) this]
  exact h1

set_option maxRecDepth 100000 in
set_option maxHeartbeats 4000000 in
theorem tzCore (x k idx : Nat) (w : World) (hx0 : ((x : Int) == 0) = false)
    (key : IntKind.u64.wrap (bits BinOp.and IntKind.u64 (x : Int) (IntKind.u64.wrap (-(x : Int))) * 285870213051353865) / 288230376151711744 = (idx : Int))
    (hi : idx < 64) (hk : k < 64) (hcell : w.cell? ⟨0, idx, none⟩ = some (.int .u8 k)) :
    Calls Tryd.prog 7 #[.int .u64 x] w fun e w' => e = .returned (.int .i64 k) ∧ w = w' := by
  go_enter Tryd.func7, Tryd.ntmps7
  go_wp2_with (simp only [key])
  go_ret
  exact ⟨rfl, rfl⟩
theorem tzZero (w : World) : Calls Tryd.prog 7 #[.int .u64 0] w fun e w' => e = .returned (.int .i64 64) ∧ w = w' := by
  go_enter Tryd.func7, Tryd.ntmps7
  go_wp2
  go_ret
  exact ⟨rfl, rfl⟩
theorem tzKey (x a : Nat) (hx : x < 18446744073709551616) (hx0 : x ≠ 0) (hlow : x &&& (18446744073709551616 - x) = a) :
    IntKind.u64.wrap (bits BinOp.and IntKind.u64 (x : Int) (IntKind.u64.wrap (-(x : Int))) * 285870213051353865) / 288230376151711744 = ((a * 285870213051353865 % 18446744073709551616 / 288230376151711744 : Nat) : Int) := by
  have e1 : IntKind.u64.wrap (-(x : Int)) = ((18446744073709551616 - x : Nat) : Int) := by rw [IntKind.wrap_u64]; omega
  rw [e1, bits_and_u64_nat x _ hx (by omega), hlow, IntKind.wrap_u64]
  omega
theorem tzCalls (x : Nat) (hx : x < 18446744073709551616) (w : World) (hT : TabAt w) :
    Calls Tryd.prog 7 #[.int .u64 x] w fun e w' => e = .returned (.int .i64 (Lib.ctz 64 x)) ∧ w = w' := by
  by_cases hx0 : x = 0
  · subst hx0
    exact tzZero w
  · obtain ⟨hlow, hk⟩ := Lib.lowest_bit 64 x hx0 hx
    obtain ⟨hi, htab⟩ := Lib.deBruijn64_at _ hk
    have hcell := hT _ hi
    rw [htab] at hcell
    exact tzCore x _ _ w (by simp; omega) (tzKey x _ hx hx0 hlow) hi hk hcell

theorem wrapHalf' (c : Nat) (h : c ≤ 64) : wrap64 (1 + wrap64 ((c : Int) / 2)) = 1 + ((c / 2 : Nat) : Int) := by
  have : wrap64 ((c : Int) / 2) = (c : Int) / 2 := by unfold wrap64; omega
  rw [this]
  unfold wrap64
  omega
set_option maxRecDepth 100000 in
set_option maxHeartbeats 4000000 in
theorem heightCalls (key : ByteArray) (hs : key.size ≤ 140737488351232) (w : World) (hT : TabAt w) :
    Calls Tryd.prog 4 #[.string key] w fun e w' => e = .returned (.int .i64 (hgt (hN key))) ∧ w = w' := by
  have HS := Aside0.mk hs
  have HTz := Aside0.mk (tzCalls (hN key) (hN_in key) w hT)
  have HE := Aside0.mk (hN_eq key)
  have HLe := Aside0.mk (ctz_le (hN key) (hN_in key))
  clear hs hT
  go_enter Tryd.func4, Tryd.ntmps4
  go_wp2
  go_loop [3, 7] (fun h v => ∃ i : Nat, i ≤ key.size ∧ v = .int .i64 i ∧ h = .int .u64 (hI key i)) (fun _ v => key.size - (intOf v).toNat)
  case atStart => exact ⟨0, Nat.zero_le _, rfl, rfl⟩
  case round =>
    obtain ⟨i, hi, rfl, rfl⟩ := hrel
    have hs := HS.out
    by_cases hlt : i < key.size
    · have HI : Aside0 (IntKind.u64.wrap (bits BinOp.xor IntKind.u64 (hI key i) (IntKind.u64.wrap ↑key[i].toNat) * 1099511628211) = hI key (i + 1)) := ⟨by
        have : bt key (i : Int) = (key[i].toNat : Int) := by simp [bt, hlt]
        rw [← this]; rfl⟩
      go_wp2
      go_round
      case rel => exact ⟨i + 1, by omega, by go_num, by rw [HI.out]⟩
      case measure => simp [intOf]; omega
    · obtain rfl : i = key.size := by omega
      rw [HE.out]
      clear hi
      have hle := HLe.out
      have HG : Aside0 (hgt (hN key) = if 1 + ((Lib.ctz 64 (hN key) / 2 : Nat) : Int) > 16 then 16 else 1 + ((Lib.ctz 64 (hN key) / 2 : Nat) : Int)) := ⟨rfl⟩
      generalize Lib.ctz 64 (hN key) = c at *
      go_wp2_with fail
      refine HTz.out.mono ?_
      rintro e w' ⟨rfl, rfl⟩
      clear HLe HTz
      have HW : Aside0 (wrap64 (1 + wrap64 ((c : Int) / 2)) = 1 + ((c / 2 : Nat) : Int)) := ⟨wrapHalf' c hle⟩
      clear hle
      go_wp2
      all_goals
        go_ret
        have hg := HG.out
        have hw := HW.out
        rw [hg]
        first
          | (rename_i h; rw [hw] at h; rw [if_neg (by omega)]; exact ⟨by rw [hw]; rfl, rfl⟩)
          | (rename_i h; rw [hw] at h; rw [if_pos (by omega)]; exact ⟨rfl, rfl⟩)

set_option maxRecDepth 100000 in
set_option maxHeartbeats 4000000 in
theorem skipHeights_walk (key : ByteArray) (hs : key.size ≤ 140737488351232) (w : World) (hT : TabAt w) :
    Calls Tryd.prog 3 #[.string key] w fun e w' => e = .returned (.bool true) ∧ Below w.heap.size w w' := by
  have H1 := Aside0.mk (heightCalls key hs w hT)
  have H2 := Aside0.mk (refHeightCalls key hs w)
  clear hs hT
  go_enter Tryd.func3, Tryd.ntmps3
  go_wp2_with fail
  refine H1.out.mono ?_
  rintro e w' ⟨rfl, rfl⟩
  go_wp2_with fail
  refine H2.out.mono ?_
  rintro e w1 ⟨rfl, hd⟩
  have HB := Aside0.mk hd.below
  clear hd H1 H2
  generalize hgt (hN key) = h at *
  go_wp2_with fail
  refine (awakeCalls w1).mono ?_
  rintro e w9 ⟨rfl, hb9⟩
  have HB9 : Aside0 (Below w.heap.size w w9) := ⟨HB.out.trans (hb9.mono HB.out.size)⟩
  clear hb9 HB
  go_wp2
  go_ret
  exact ⟨rfl, HB9.out⟩
end Go.Proofs.YtnpjppnahfehnaaDoor.Skip
