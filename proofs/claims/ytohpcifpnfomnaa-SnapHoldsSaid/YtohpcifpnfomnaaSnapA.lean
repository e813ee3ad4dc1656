/- Layer 10's readers: cells, New, Floor, and the atomics below. -/
import Derived.Test.YtohpcifpnfomnaaKit
import Derived.Test.YtohpcifpnfomnaaLocks
import Derived.Conc.MuLone
import Derived.Laws.LoneSync
import Derived.IntWalk
namespace Go.Proofs.Ytohpcifpnfomnaa.Snap
set_option linter.unusedVariables false
set_option linter.unusedSimpArgs false
open Go.RowKit Go.Proofs.YtohpcifpnfomnaaW.PrintWords Go.Proofs.Ytohpcifpnfomnaa.Kit Go.MuLone

abbrev TS : TypeId := 64
/-- The cells: made, the lock's state and semaphore, the floor, the slots. -/
def sk (m : Bool) (st fl : Int) (rs : List Int) : List Value := .bool m :: .int .i32 st :: .int .u32 0 :: .int .u64 fl :: nums .u64 rs

theorem u64Load (b o : Nat) (v : Int) (w : World) (h : w.cell? ⟨b, o, none⟩ = some (.int .u64 v)) :
    Calls Try.prog 23 #[.pointer (some ⟨b, o, none⟩)] w fun e w' => e = .returned (.int .u64 v) ∧ w = w' := by
  have ha := run_call_load (P := Try.prog) Try.func36 (by kernel_rfl) (by kernel_rfl) (by kernel_rfl) .u64 (by kernel_rfl) h
  go_enter Try.func23, Try.ntmps23
  go_wp2
  go_ret
  exact ⟨rfl, rfl⟩
theorem u64Store (b o : Nat) (v u : Int) (w : World) (h : w.cell? ⟨b, o, none⟩ = some (.int .u64 u)) (z : w.frozen? ⟨b, o, none⟩ = false) :
    Calls Try.prog 17 #[.pointer (some ⟨b, o, none⟩), .int .u64 v] w fun e w' => e = .returned (.tuple #[]) ∧ w.setCell ⟨b, o, none⟩ (.int .u64 v) = w' := by
  have ha := run_call_store (P := Try.prog) (k := .u64) (y := v) Try.func31 (by kernel_rfl) (by kernel_rfl) (by kernel_rfl) (by kernel_rfl) h z
  go_enter Try.func17, Try.ntmps17
  go_wp2
  go_end0
  exact ⟨rfl, rfl⟩
theorem u64Cas (b o : Nat) (u v : Int) (w : World) (h : w.cell? ⟨b, o, none⟩ = some (.int .u64 u)) (z : w.frozen? ⟨b, o, none⟩ = false) :
    Calls Try.prog 34 #[.pointer (some ⟨b, o, none⟩), .int .u64 u, .int .u64 v] w fun e w' => e = .returned (.bool true) ∧ w.setCell ⟨b, o, none⟩ (.int .u64 v) = w' := by
  have ha := run_call_cas_hit (P := Try.prog) Try.func46 (by kernel_rfl) (by kernel_rfl) (by kernel_rfl) .u64 (by kernel_rfl) (y := v) h z
  go_enter Try.func34, Try.ntmps34
  go_wp2
  go_ret
  exact ⟨rfl, rfl⟩

theorem u64CasMiss (b o : Nat) (x u v : Int) (hne : ¬ x = u) (w : World) (h : w.cell? ⟨b, o, none⟩ = some (.int .u64 x)) (z : w.frozen? ⟨b, o, none⟩ = false) :
    Calls Try.prog 34 #[.pointer (some ⟨b, o, none⟩), .int .u64 u, .int .u64 v] w fun e w' => e = .returned (.bool false) ∧ w = w' := by
  have ha := run_call_cas_miss (P := Try.prog) Try.func46 (by kernel_rfl) (by kernel_rfl) (by kernel_rfl) .u64 (by kernel_rfl) (y := v) h z hne
  clear hne
  go_enter Try.func34, Try.ntmps34
  go_wp2
  go_ret
  exact ⟨rfl, rfl⟩
theorem nums_get (k : IntKind) (xs : List Int) (i : Nat) (h : i < xs.length) : (nums k xs)[i]? = some (.int k (rd xs i)) := by
  simp [nums, rd, h]
theorem nums_set (k : IntKind) (xs : List Int) (i : Nat) (v : Int) : (nums k xs).set i (.int k v) = nums k (xs.set i v) := by
  simp [nums, List.map_set]
def zeros : List Int := List.replicate 256 0
theorem zeros_len : zeros.length = 256 := List.length_replicate
theorem zeroS (W : World) : (zeroValue TS).run Try.prog W = .ok (.agg (sk false 0 0 zeros).toArray) W := by kernel_rfl
/-- Readers in block p, the lock free (st = 0) or held (st = 1). -/
structure Sn (w : World) (p : Nat) (st fl : Int) (rs : List Int) : Prop where
  row : Blk w p (sk true st fl rs) TS
  len : rs.length = 256
  f0 : 0 ≤ fl
  fM : fl ≤ 4611686018427387904
  r0 : ∀ i : Nat, i < 256 → 0 ≤ rd rs (i : Int) ∧ rd rs (i : Int) ≤ 4611686018427387905
theorem Sn.below {w w' : World} {p : Nat} {st fl : Int} {rs : List Int} (h : Sn w p st fl rs) (hb : Below w.heap.size w w') : Sn w' p st fl rs := ⟨h.row.belowSize hb, h.len, h.f0, h.fM, h.r0⟩
theorem Sn.only {S : Nat → Prop} {w w' : World} {p : Nat} {st fl : Int} {rs : List Int} (h : Sn w p st fl rs) (ho : Only S w w') (hp : ¬ S p) : Sn w' p st fl rs := ⟨ho.blk h.row hp, h.len, h.f0, h.fM, h.r0⟩
theorem Sn.c0 {w : World} {p : Nat} {st fl : Int} {rs : List Int} (h : Sn w p st fl rs) : w.cell? ⟨p, 0, none⟩ = some (.bool true) := h.row.cell 0 _ rfl
theorem Sn.c1 {w : World} {p : Nat} {st fl : Int} {rs : List Int} (h : Sn w p st fl rs) : w.cell? ⟨p, 1, none⟩ = some (.int .i32 st) := h.row.cell 1 _ rfl
theorem Sn.c3 {w : World} {p : Nat} {st fl : Int} {rs : List Int} (h : Sn w p st fl rs) : w.cell? ⟨p, 3, none⟩ = some (.int .u64 fl) := h.row.cell 3 _ rfl
theorem Sn.cr {w : World} {p : Nat} {st fl : Int} {rs : List Int} (h : Sn w p st fl rs) (i : Nat) (hi : i < 256) : w.cell? ⟨p, 4 + i, none⟩ = some (.int .u64 (rd rs i)) := by
  have h0 := nums_get .u64 rs i (by rw [h.len]; exact hi)
  exact h.row.cell (4 + i) (.int .u64 (rd rs i)) (by
    rw [show 4 + i = i + 1 + 1 + 1 + 1 by omega]
    exact h0)
theorem isCalls (p : Nat) (st fl : Int) (rs : List Int) (w : World) (h : Sn w p st fl rs) :
    Calls Try.prog 18 #[.pointer (some ⟨p, 0, none⟩)] w fun e w' => e = .returned (.bool true) ∧ w = w' := by
  have h0 := h.c0
  clear h
  go_enter Try.func18, Try.ntmps18
  go_wp2
  go_ret
  exact ⟨rfl, rfl⟩
theorem floorCalls (p : Nat) (st fl : Int) (rs : List Int) (w : World) (h : Sn w p st fl rs) :
    Calls Try.prog 12 #[.pointer (some ⟨p, 0, none⟩)] w fun e w' => e = .returned (.int .u64 fl) ∧ w = w' := by
  have HI := Aside0.mk (isCalls p st fl rs w h)
  have HL := Aside0.mk (u64Load p 3 fl w h.c3)
  clear h
  go_enter Try.func12, Try.ntmps12
  go_wp2_with fail
  refine HI.out.mono ?_
  rintro e w' ⟨rfl, rfl⟩
  go_wp2_with fail
  refine HL.out.mono ?_
  rintro e w' ⟨rfl, rfl⟩
  go_wp2
  go_ret
  exact ⟨rfl, rfl⟩
end Go.Proofs.Ytohpcifpnfomnaa.Snap
