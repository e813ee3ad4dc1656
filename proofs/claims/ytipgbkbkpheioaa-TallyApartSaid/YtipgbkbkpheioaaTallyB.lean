/- Layer 5's counter: what New, Add, Shards and Sum do to memory. -/
import Derived.Test.YtipgbkbkpheioaaTallyA
import Derived.Test.YtipgbkbkpheioaaKit
namespace Go.Proofs.Ytipgbkbkpheioaa.Tally
set_option linter.unusedVariables false
set_option linter.unusedSimpArgs false
open Go.RowKit Go.Proofs.YtipgbkbkpheioaaW.PrintWords Go.Proofs.Ytipgbkbkpheioaa.Kit

/-- A counter: its struct in block p, its shards in block g. -/
structure Ctr (w : World) (p g : Nat) (xs : List Int) : Prop where
  head : Blk w p [.slice (some ⟨g, 0, none⟩) xs.length xs.length] 54
  row : Blk w g (nums .i64 xs) 59
  ne : p ≠ g
  one : 1 ≤ xs.length
  few : xs.length ≤ 64

theorem infoA : (Try.prog.info? 59).map (fun i => (i.zero.map (·.cells), i.size, i.bytes)) = some (some #[.int .i64 0], 1, 8) := by kernel_rfl
theorem newSmall (n : Int) (h1 : n < 1) (w : World) : Calls Try.prog 6 #[.int .i64 n] w fun e w' => e = .returned (.tuple #[.pointer none, .int .i64 1]) ∧ w = w' := by
  go_enter Try.func6, Try.ntmps6
  go_wp2
  go_ret2
  exact ⟨rfl, rfl⟩
theorem newBig (n : Int) (h0 : 1 ≤ n) (h1 : 64 < n) (w : World) : Calls Try.prog 6 #[.int .i64 n] w fun e w' => e = .returned (.tuple #[.pointer none, .int .i64 1]) ∧ w = w' := by
  go_enter Try.func6, Try.ntmps6
  go_wp2
  go_ret2
  exact ⟨rfl, rfl⟩
theorem newOk (n : Nat) (h1 : 1 ≤ n) (h2 : n ≤ 64) (w : World) : Calls Try.prog 6 #[.int .i64 n] w fun e w' => e = .returned (.tuple #[.pointer (some ⟨w.heap.size + 1, 0, none⟩), .int .i64 0]) ∧ Ctr w' (w.heap.size + 1) w.heap.size (List.replicate n 0) ∧ Below w.heap.size w w' := by
  have a1 : 1 ≤ (n : Int) := by omega
  have a2 : (n : Int) ≤ 64 := by omega
  have hm := fun W => make_one (P := Try.prog) 52 59 (.int .i64 0) 8 (by kernel_rfl) infoA .i64 .i64 n (by omega) (by omega) W
  go_enter Try.func6, Try.ntmps6
  go_wp2
  go_ret2
  refine ⟨rfl, ⟨?_, ?_, by omega, by simpa using h1, by simpa using h2⟩, ?_⟩
  · have := Blk.newA (w.alloc (.cells (Array.replicate n (.int .i64 0)) 59)) #[.slice (some ⟨w.heap.size, 0, none⟩) n n] 54
    simpa using this
  · have := (Blk.newA w (Array.replicate n (.int .i64 0)) 59).alloc (.cells #[.slice (some ⟨w.heap.size, 0, none⟩) n n] 54)
    simpa [nums] using this
  · exact ((Below.refl _ _).alloc (Nat.le_refl _) _).alloc (by simp) _

/-- The shard that a number means. -/
def shardOf (k : Int) (n : Nat) : Nat := (k % (n : Int)).toNat
theorem shard_lt (k : Int) (n : Nat) (h : 1 ≤ n) : shardOf k n < n := by
  have h1 := Int.emod_lt_of_pos k (show (0 : Int) < n by omega)
  have h2 := Int.emod_nonneg k (show (n : Int) ≠ 0 by omega)
  unfold shardOf
  omega
def added (xs : List Int) (k d : Int) : List Int := xs.set (shardOf k xs.length) (wrap64 (rd xs (shardOf k xs.length) + d))

theorem nums_get (k : IntKind) (xs : List Int) (i : Nat) (h : i < xs.length) : (nums k xs)[i]? = some (.int k (rd xs i)) := by
  simp [nums, rd, h]
theorem nums_set (k : IntKind) (xs : List Int) (i : Nat) (v : Int) : (nums k xs).set i (.int k v) = nums k (xs.set i v) := by
  simp [nums, List.map_set]

theorem Ctr.added {w : World} {p g : Nat} {xs : List Int} (h : Ctr w p g xs) (k d : Int) : Ctr (w.setCell ⟨g, shardOf k xs.length, none⟩ (.int .i64 (wrap64 (rd xs (shardOf k xs.length) + d)))) p g (added xs k d) where
  head := by
    have := h.head.far (a := ⟨g, shardOf k xs.length, none⟩) h.ne (.int .i64 (wrap64 (rd xs (shardOf k xs.length) + d)))
    simpa [Tally.added] using this
  row := by
    have := h.row.put (shardOf k xs.length) (.int .i64 (wrap64 (rd xs (shardOf k xs.length) + d)))
    rwa [nums_set] at this
  ne := h.ne
  one := by simpa [Tally.added] using h.one
  few := by simpa [Tally.added] using h.few

theorem mod_neg (k : Int) (n : Nat) (h : 1 ≤ n) : (k.tmod n < 0 → k.tmod n + n = (shardOf k n : Nat)) ∧ (¬ k.tmod n < 0 → k.tmod n = (shardOf k n : Nat)) := by
  have h1 := Int.emod_lt_of_pos k (show (0 : Int) < n by omega)
  have h2 := Int.emod_nonneg k (show (n : Int) ≠ 0 by omega)
  have e := Int.tmod_eq_emod (a := k) (b := n)
  unfold shardOf
  rw [Int.toNat_of_nonneg h2]
  by_cases h0 : 0 ≤ k ∨ (n : Int) ∣ k
  · rw [if_pos h0] at e
    exact ⟨fun hn => by omega, fun hn => by omega⟩
  · rw [if_neg h0] at e
    simp only [Int.natAbs_natCast] at e
    exact ⟨fun hn => by omega, fun hn => by omega⟩

set_option maxHeartbeats 400000 in
theorem addCalls (p g : Nat) (xs : List Int) (k d : Int) (w : World) (h : Ctr w p g xs) :
    Calls Try.prog 9 #[.pointer (some ⟨p, 0, none⟩), .int .i64 k, .int .i64 d] w fun e w' => e = .returned (.tuple #[]) ∧ w.setCell ⟨g, shardOf k xs.length, none⟩ (.int .i64 (wrap64 (rd xs (shardOf k xs.length) + d))) = w' := by
  have hc := h.head.cell 0 _ rfl
  have hk := shard_lt k xs.length h.one
  have hr := h.row.cell (shardOf k xs.length) _ (nums_get .i64 xs _ hk)
  have hf := h.row.free (shardOf k xs.length)
  have H1 := h.one
  have H2 := h.few
  have hb : ((xs.length : Int) == 0) = false := by rw [beq_eq_false_iff_ne]; omega
  obtain ⟨m1, m2⟩ := mod_neg k xs.length h.one
  generalize hn : xs.length = n at *
  generalize hs : shardOf k n = s at *
  generalize hv : rd xs s = v at *
  clear hv hs hn h
  have t1 : -(n : Int) ≤ k.tmod n := by
    rcases Int.lt_or_le (k.tmod n) 0 with hh | hh
    · have := m1 hh; omega
    · omega
  have t2 : k.tmod n < n := by
    rcases Int.lt_or_le (k.tmod n) 0 with hh | hh
    · omega
    · have := m2 (by omega); omega
  by_cases hneg : k.tmod n < 0
  · have M := m1 hneg
    clear m1 m2
    go_enter Try.func9, Try.ntmps9
    go_wp2_with (go_at_call 22; refine (i64Add _ _ _ _ _ hr hf).mono ?_; rintro e w' ⟨rfl, rfl⟩)
    go_end0
    exact ⟨rfl, rfl⟩
  · have M := m2 hneg
    clear m1 m2
    go_enter Try.func9, Try.ntmps9
    go_wp2_with (go_at_call 22; refine (i64Add _ _ _ _ _ hr hf).mono ?_; rintro e w' ⟨rfl, rfl⟩)
    go_end0
    exact ⟨rfl, rfl⟩
end Go.Proofs.Ytipgbkbkpheioaa.Tally
