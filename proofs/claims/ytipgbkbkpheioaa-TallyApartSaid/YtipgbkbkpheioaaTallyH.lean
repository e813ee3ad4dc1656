/- Layer 5's histogram: what NewHistogram, Count and Counts do to memory. -/
import Derived.Test.YtipgbkbkpheioaaTallyC
import Derived.Test.YtipgbkbkpheioaaTallyL
import Derived.StillTailTactics
namespace Go.Proofs.Ytipgbkbkpheioaa.Tally
set_option linter.unusedVariables false
set_option linter.unusedSimpArgs false
open Go.RowKit Go.Proofs.YtipgbkbkpheioaaW.PrintWords Go.Proofs.Ytipgbkbkpheioaa.Kit

theorem u64Add (b o : Nat) (v d : Int) (w : World) (h : w.cell? ⟨b, o, none⟩ = some (.int .u64 v)) (z : w.frozen? ⟨b, o, none⟩ = false) :
    Calls Try.prog 26 #[.pointer (some ⟨b, o, none⟩), .int .u64 d] w fun e w' => e = .returned (.int .u64 (IntKind.u64.wrap (v + d))) ∧ w.setCell ⟨b, o, none⟩ (.int .u64 (IntKind.u64.wrap (v + d))) = w' := by
  have hs : (Op.intArith .add .u64 v d).run Try.prog w = .ok (.int .u64 (IntKind.u64.wrap (v + d))) w := by simp [Op.intArith]
  have ha := run_call_add (P := Try.prog) Try.func31 (by kernel_rfl) (by kernel_rfl) (by kernel_rfl) .u64 (by kernel_rfl) h z hs
  clear hs
  generalize IntKind.u64.wrap (v + d) = s at *
  go_enter Try.func26, Try.ntmps26
  go_wp2
  go_ret
  exact ⟨rfl, rfl⟩

theorem u64Load (b o : Nat) (v : Int) (w : World) (h : w.cell? ⟨b, o, none⟩ = some (.int .u64 v)) :
    Calls Try.prog 27 #[.pointer (some ⟨b, o, none⟩)] w fun e w' => e = .returned (.int .u64 v) ∧ w = w' := by
  have ha := run_call_load (P := Try.prog) Try.func32 (by kernel_rfl) (by kernel_rfl) (by kernel_rfl) .u64 (by kernel_rfl) h
  go_enter Try.func27, Try.ntmps27
  go_wp2
  go_ret
  exact ⟨rfl, rfl⟩

theorem buildHist (W : World) : (zeroValue 66).run Try.prog W = .ok (.agg (nums .u64 (List.replicate 65 0)).toArray) W := by kernel_rfl

theorem newHist (w : World) : Calls Try.prog 15 #[] w fun e w' => e = .returned (.pointer (some ⟨w.heap.size, 0, none⟩)) ∧ Blk w' w.heap.size (nums .u64 (List.replicate 65 0)) 66 ∧ Below w.heap.size w w' := by
  have hb := buildHist
  generalize nums .u64 (List.replicate 65 0) = zs at *
  go_enter Try.func15, Try.ntmps15
  go_wp2
  go_ret
  exact ⟨rfl, Blk.new w _ _, (Below.refl _ _).alloc (Nat.le_refl _) _⟩

/-- A histogram: its sizes in block p. -/
structure Hist (w : World) (p : Nat) (xs : List Int) : Prop where
  row : Blk w p (nums .u64 xs) 66
  len : xs.length = 65
theorem Hist.below {w w' : World} {p : Nat} {xs : List Int} (h : Hist w p xs) (hb : Below w.heap.size w w') : Hist w' p xs := ⟨h.row.belowSize hb, h.len⟩
theorem Hist.drew {w : World} {p : Nat} {xs : List Int} (h : Hist w p xs) : Hist w.drew p xs := ⟨h.row.drew, h.len⟩
theorem Hist.drewN {w : World} {p : Nat} {xs : List Int} (h : Hist w p xs) (n : Nat) : Hist (w.drewN n) p xs := ⟨h.row.drewN n, h.len⟩
def counted (xs : List Int) (n : Int) : List Int := xs.set (bl n.toNat) (IntKind.u64.wrap (rd xs (bl n.toNat) + 1))
theorem Hist.counted {w : World} {p : Nat} {xs : List Int} (h : Hist w p xs) (n : Int) : Hist (w.setCell ⟨p, bl n.toNat, none⟩ (.int .u64 (IntKind.u64.wrap (rd xs (bl n.toNat) + 1)))) p (counted xs n) where
  row := by
    have := h.row.put (bl n.toNat) (.int .u64 (IntKind.u64.wrap (rd xs (bl n.toNat) + 1)))
    rwa [nums_set] at this
  len := by simpa [Tally.counted] using h.len

set_option maxHeartbeats 800000 in
theorem countCalls (p : Nat) (xs : List Int) (n : Int) (w : World) (h : Hist w p xs) (h0 : 0 ≤ n) (h1 : n < 18446744073709551616) :
    Calls Try.prog 16 #[.pointer (some ⟨p, 0, none⟩), .int .u64 n] w fun e w' => e = .returned (.tuple #[]) ∧ Hist w' p (counted xs n) ∧ Only (fun i => i = p) w w' := by
  have HL := Aside0.mk (len64Calls n h0 h1)
  have hb := bl_le n.toNat (by omega)
  have H := Aside0.mk h.drew
  clear h1 h
  generalize hs : bl n.toNat = s at *
  have Hs := Aside0.mk hs
  clear hs
  have hi : (s : Int) < 65 := by omega
  go_enter Try.func16, Try.ntmps16
  go_wp2_with fail
  refine wp_region_still_tail 6 (by kernel_rfl) (by kernel_rfl) ?_
  simp only [List.take_succ_cons, List.take_zero, List.drop_succ_cons, List.drop_zero]
  repeat (first | still_step | still_call (HL.out _))
  refine wpStill_nil ?_
  change wpList _ _ _ _ _ w.drew
  have hc := H.out.row.cell s _ (nums_get .u64 xs s (by rw [H.out.len]; omega))
  have hf := H.out.row.free s
  go_wp2_with fail
  refine (u64Add _ _ _ _ _ hc hf).mono ?_
  rintro e w3 ⟨rfl, hw3⟩
  have H3 : Aside0 (Hist w3 p (counted xs n)) := ⟨by rw [← hw3, ← Hs.out]; exact H.out.counted n⟩
  have HO : Aside0 (Only (fun i => i = p) w w3) := ⟨by rw [← hw3]; exact Only.setCell (S := fun i => i = p) (Only.refl _ w).drew (p := ⟨p, s, none⟩) (Or.inl rfl) _⟩
  clear hw3 hc hf
  go_wp2
  go_end0
  exact ⟨rfl, H3.out, HO.out⟩

/-- The first j of a list, noughts behind them. -/
def partly (xs : List Int) (j : Nat) : List Int := xs.take j ++ List.replicate (xs.length - j) 0
theorem partly_len (xs : List Int) (j : Nat) (h : j ≤ xs.length) : (partly xs j).length = xs.length := by simp [partly]; omega
theorem partly_all (xs : List Int) : partly xs xs.length = xs := by simp [partly]
theorem partly_set (xs : List Int) (j : Nat) (h : j < xs.length) : (partly xs j).set j (rd xs j) = partly xs (j + 1) := by
  unfold partly
  rw [List.set_append_right _ _ (by simp; omega)]
  have e : xs.length - j = (xs.length - (j + 1)) + 1 := by omega
  rw [e, List.replicate_succ, take_rd xs j h]
  simp only [List.length_take, Nat.min_eq_left (Nat.le_of_lt h), Nat.sub_self, List.set_cons_zero, List.append_assoc, List.singleton_append]

theorem info43 : (Try.prog.info? 43).map (fun i => (i.zero.map (·.cells), i.size, i.bytes)) = some (some #[.int .u64 0], 1, 8) := by kernel_rfl
set_option maxHeartbeats 800000 in
theorem countsCalls (p : Nat) (xs : List Int) (w : World) (h : Hist w p xs) :
    Calls Try.prog 17 #[.pointer (some ⟨p, 0, none⟩)] w fun e w' => ∃ v, e = .returned v ∧ Kd.R (Kd.int .u64) 43 w' w.heap.size (fun _ => True) v xs ∧ Below w.heap.size w w' := by
  have hm : ∀ W, (Instr.makeSlice 39 (.int .i64 65) (.int .i64 65)).run Try.prog W = .ok (.slice (some ⟨W.heap.size, 0, none⟩) 65 65) (W.alloc (.cells (List.replicate 65 (Value.int .u64 0)).toArray 43)) := fun W => make_one (P := Try.prog) 39 43 (.int .u64 0) 8 (by kernel_rfl) info43 .i64 .i64 65 (by omega) (by omega) W
  generalize hz : (List.replicate 65 (Value.int .u64 0)).toArray = zs at *
  have HZ : Aside0 (zs = (nums .u64 (partly xs 0)).toArray) := ⟨by rw [← hz]; simp [partly, nums, h.len]⟩
  have H := Aside0.mk h
  have hl := h.len
  have HL := Aside0.mk hl
  have hp := h.row.lt
  clear h hl hz
  go_enter Try.func17, Try.ntmps17
  go_wp2
  have HB0 : Aside0 (Blk (w.alloc (.cells zs 43)) w.heap.size (nums .u64 (partly xs 0)) 43) := ⟨by rw [HZ.out]; exact Blk.new w (nums .u64 (partly xs 0)) 43⟩
  clear hm
  go_loopw [8] (fun i wr => ∃ j : Nat, j ≤ 65 ∧ i = .int .i64 j ∧ Aside0 (Blk wr w.heap.size (nums .u64 (partly xs j)) 43) ∧ Aside0 (Below w.heap.size w wr)) (fun i _ => 65 - (intOf i).toNat)
  case atStart => exact ⟨0, by omega, rfl, HB0, ⟨(Below.refl _ _).alloc (Nat.le_refl _) _⟩⟩
  case round =>
    obtain ⟨j, hj, rfl, HBk, HB⟩ := hrel
    by_cases hlt : j < 65
    · have hx := (H.out.row.belowSize HB.out).cell j _ (nums_get .u64 xs j (by rw [HL.out]; exact hlt))
      have hy := HBk.out.cell j _ (nums_get .u64 (partly xs j) j (by rw [partly_len xs j (by rw [HL.out]; exact hj), HL.out]; exact hlt))
      have hf := HBk.out.free j
      have HS : Aside0 (Blk (wr.setCell ⟨w.heap.size, j, none⟩ (.int .u64 (rd xs j))) w.heap.size (nums .u64 (partly xs (j + 1))) 43) := ⟨by
        have := HBk.out.put j (.int .u64 (rd xs j))
        rwa [nums_set, partly_set xs j (by rw [HL.out]; exact hlt)] at this⟩
      have HB2 : Aside0 (Below w.heap.size w (wr.setCell ⟨w.heap.size, j, none⟩ (.int .u64 (rd xs j)))) := ⟨HB.out.setCell (Nat.le_refl _) _⟩
      generalize rd xs j = x at *
      clear HBk HB
      go_wp2_with (go_at_call 27; refine (u64Load _ _ _ _ hx).mono ?_; rintro e w' ⟨rfl, rfl⟩)
      go_roundw
      case rel => exact ⟨j + 1, by omega, by go_num, HS, HB2⟩
      case measure => simp [intOf]; omega
    · obtain rfl : j = 65 := by omega
      have HR := Aside0.mk (HBk.out.R w.heap.size (Nat.le_refl _) (by rw [partly_len xs 65 (by rw [HL.out]; omega), HL.out]; omega))
      have HE : Aside0 (partly xs 65 = xs) := ⟨by have := partly_all xs; rwa [HL.out] at this⟩
      rw [HE.out, HL.out] at HR
      clear HBk hlt hj
      go_wp2
      go_ret
      exact ⟨_, rfl, HR.out, HB.out⟩
end Go.Proofs.Ytipgbkbkpheioaa.Tally
