/- The walk of the law SnapFull. -/
import Derived.Test.YtohpcifpnfomnaaSnapMakesW
namespace Go.Proofs.Ytohpcifpnfomnaa.Snap
set_option linter.unusedVariables false
set_option linter.unusedSimpArgs false
open Go.RowKit Go.Proofs.YtohpcifpnfomnaaW.PrintWords Go.Proofs.Ytohpcifpnfomnaa.Kit Go.MuLone

/-- The slots behind i Enters of one stamp. -/
def fill (s : Int) (i : Nat) : List Int := List.replicate i (s + 1) ++ List.replicate (256 - i) 0
theorem fill_len (s : Int) (i : Nat) (h : i ≤ 256) : (fill s i).length = 256 := by unfold fill; simp; omega
theorem fill_rd (s : Int) (i j : Nat) (hi : i ≤ 256) (hj : j < 256) : rd (fill s i) (j : Int) = if j < i then s + 1 else 0 := by
  have hl := fill_len s i hi
  rw [rd_get _ j (by omega)]
  unfold fill
  rw [List.getElem_append]
  split
  · rename_i h
    rw [List.length_replicate] at h
    rw [if_pos h, List.getElem_replicate]
  · rename_i h
    rw [List.length_replicate] at h
    rw [if_neg h, List.getElem_replicate]
theorem fill_zero (s : Int) : fill s 0 = zeros := List.nil_append _
theorem ext_rd {a b : List Int} (h : a.length = b.length) (k : ∀ j : Nat, j < a.length → rd a (j : Int) = rd b (j : Int)) : a = b := by
  apply List.ext_getElem h
  intro j h1 h2
  have := k j h1
  rw [rd_get a j h1, rd_get b j h2] at this
  exact this
theorem rd_set (rs : List Int) (q j : Nat) (v : Int) (hq : q < rs.length) (hj : j < rs.length) : rd (rs.set q v) (j : Int) = if q = j then v else rd rs (j : Int) := by
  rw [rd_get _ j (by rw [List.length_set]; exact hj), rd_get rs j hj, List.getElem_set]
theorem fill_set (s : Int) (i : Nat) (hi : i < 256) : (fill s i).set i (s + 1) = fill s (i + 1) := by
  have hl := fill_len s i (by omega)
  apply ext_rd (by rw [List.length_set, hl, fill_len s (i + 1) (by omega)])
  intro j hj
  rw [List.length_set, hl] at hj
  rw [rd_set _ _ _ _ (by omega) (by omega), fill_rd s i j (by omega) hj, fill_rd s (i + 1) j (by omega) hj]
  by_cases e : i = j
  · rw [if_pos e, if_pos (by omega)]
  · rw [if_neg e]
    by_cases e2 : j < i
    · rw [if_pos e2, if_pos (by omega)]
    · rw [if_neg e2, if_neg (by omega)]

set_option maxRecDepth 100000 in
set_option maxHeartbeats 8000000 in
theorem full_walk (s0 s : Int) (q : Nat) (h0 : 0 ≤ s0) (hs : (4611686018427387904 < s0 ∧ 4611686018427387904 = s) ∨ (s0 ≤ 4611686018427387904 ∧ s0 = s)) (hq : q < 256) (w : World) :
    Calls Try.prog 3 #[.int .u64 s0, .int .u8 q] w fun e w' => e = .returned (.bool true) ∧ Below w.heap.size w w' := by
  have hs0 : 0 ≤ s := by omega
  have hs1 : s ≤ 4611686018427387904 := by omega
  have HN := Aside0.mk (newCalls 0 (by decide) (by decide) w)
  have HEn : Aside0 (∀ i : Nat, i < 256 → ∀ W, Sn W w.heap.size 0 0 (fill s i) → Calls Try.prog 8 #[.pointer (some ⟨w.heap.size, 0, none⟩), .int .u64 s] W fun e w' => e = .returned (.tuple #[.int .i64 i, .int .i64 0]) ∧ Sn w' w.heap.size 0 0 (fill s (i + 1)) ∧ Only (fun k => k = w.heap.size) W w') :=
    ⟨fun i hi W hW => enterGen w.heap.size 0 s i 0 _ _ W hW ⟨fun W hW => by
      rw [← fill_set s i hi]
      exact enterHit w.heap.size 1 0 s _ i W hW hs0 hs1 hi (by rw [fill_rd s i i (by omega) hi, if_neg (by omega)]) (fun j hj => by rw [fill_rd s i j (by omega) (by omega), if_pos hj]; omega)⟩⟩
  have HFu : Aside0 (∀ W, Sn W w.heap.size 0 0 (fill s 256) → Calls Try.prog 8 #[.pointer (some ⟨w.heap.size, 0, none⟩), .int .u64 s] W fun e w' => e = .returned (.tuple #[.int .i64 0, .int .i64 2]) ∧ Sn w' w.heap.size 0 0 (fill s 256) ∧ Only (fun k => k = w.heap.size) W w') :=
    ⟨fun W hW => enterGen w.heap.size 0 s 0 2 _ _ W hW ⟨fun W hW => (enterFull w.heap.size 1 0 s _ W hW hs0 hs1 (fun j hj => by rw [fill_rd s 256 j (by omega) hj, if_pos hj]; omega)).mono fun e w' ⟨he, hw⟩ => ⟨he, hw ▸ hW, hw ▸ Only.refl _ _⟩⟩⟩
  have hlf := fill_len s 256 (by omega)
  have HL1 : Aside0 (∀ W, Sn W w.heap.size 0 0 (fill s 256) → Calls Try.prog 9 #[.pointer (some ⟨w.heap.size, 0, none⟩), .int .i64 q] W fun e w' => e = .returned (.int .i64 0) ∧ Sn w' w.heap.size 0 0 ((fill s 256).set q 0) ∧ Only (fun k => k = w.heap.size) W w') :=
    ⟨fun W hW => leaveGen w.heap.size 0 q 0 _ _ W hW ⟨fun W hW => by
      have := leaveIn w.heap.size 1 0 _ q W hW hq
      rw [fill_rd s 256 q (by omega) hq, if_pos hq, if_neg (by omega)] at this
      exact this⟩⟩
  have hr2 : ((fill s 256).set q 0).set q 0 = (fill s 256).set q 0 := List.set_set ..
  have HL2 : Aside0 (∀ W, Sn W w.heap.size 0 0 ((fill s 256).set q 0) → Calls Try.prog 9 #[.pointer (some ⟨w.heap.size, 0, none⟩), .int .i64 q] W fun e w' => e = .returned (.int .i64 100) ∧ Sn w' w.heap.size 0 0 ((fill s 256).set q 0) ∧ Only (fun k => k = w.heap.size) W w') :=
    ⟨fun W hW => leaveGen w.heap.size 0 q 100 _ _ W hW ⟨fun W hW => by
      have := leaveIn w.heap.size 1 0 _ q W hW hq
      rw [rd_set _ _ _ _ (by omega) (by omega), if_pos rfl, if_pos rfl, hr2] at this
      exact this⟩⟩
  have HE2 : Aside0 (∀ W, Sn W w.heap.size 0 0 ((fill s 256).set q 0) → Calls Try.prog 8 #[.pointer (some ⟨w.heap.size, 0, none⟩), .int .u64 s] W fun e w' => e = .returned (.tuple #[.int .i64 q, .int .i64 0]) ∧ Sn w' w.heap.size 0 0 (((fill s 256).set q 0).set q (s + 1)) ∧ Only (fun k => k = w.heap.size) W w') :=
    ⟨fun W hW => enterGen w.heap.size 0 s q 0 _ _ W hW ⟨fun W hW => enterHit w.heap.size 1 0 s _ q W hW hs0 hs1 hq (by rw [rd_set _ _ _ _ (by omega) (by omega), if_pos rfl]) (fun j hj => by rw [rd_set _ _ _ _ (by omega) (by omega), if_neg (by omega), fill_rd s 256 j (by omega) (by omega), if_pos (by omega)]; omega)⟩⟩
  have HLen : Aside0 ((rds (((fill s 256).set q 0).set q (s + 1))).length = 256) := ⟨by
    have := (rdsFrom_full (((fill s 256).set q 0).set q (s + 1)) 0 (fun j hj => by
      rw [List.length_set, List.length_set, hlf] at hj
      rw [rd_set _ _ _ _ (by rw [List.length_set]; omega) (by rw [List.length_set]; omega)]
      split
      · omega
      · rename_i e
        rw [rd_set _ _ _ _ (by omega) (by omega), if_neg e, fill_rd s 256 j (by omega) (by omega), if_pos (by omega)]
        omega)).1
    rw [List.length_set, List.length_set, hlf] at this
    exact this⟩
  have HZ := Aside0.mk (fill_zero s)
  clear hlf hr2
  generalize ((fill s 256).set q 0).set q (s + 1) = rs3 at *
  generalize (fill s 256).set q 0 = rs2 at *
  generalize zeros = rs0 at *
  generalize hF : fill s = F at *
  clear hF
  go_enter Try.func3, Try.ntmps3
  go_upto_if 15 with (fail)
  go_cut [0] (fun v wc => v = .int .u64 s ∧ w = wc)
  case first =>
    rcases hs with ⟨h, rfl⟩ | ⟨h, rfl⟩
    · go_wp2
      go_meet
      exact ⟨rfl, rfl⟩
    · go_wp2
      go_meet
      exact ⟨rfl, rfl⟩
  case rest =>
  clear hs
  obtain ⟨rfl, rfl⟩ := hcut
  go_wp2_with fail
  refine HN.out.mono ?_
  rintro e w1 ⟨rfl, ha, hb⟩
  have HA1 : Aside0 (Cl w w1 w.heap.size 0 (F 0)) := ⟨⟨by rw [HZ.out]; exact ha, Nat.le_refl _, hb⟩⟩
  clear ha hb HN HZ
  go_wp2_with fail
  go_loopw [7] (fun a wr => ∃ j : Nat, j ≤ 256 ∧ a = .int .i64 j ∧ Aside0 (Cl w wr w.heap.size 0 (F j))) (fun a _ => 256 - (intOf a).toNat)
  case atStart => exact ⟨0, by omega, rfl, HA1⟩
  case round =>
    clear HA1
    obtain ⟨j, hj, rfl, HA⟩ := hrel
    by_cases hlt : j < 256
    · go_wp2_with fail
      refine (HEn.out j hlt _ HA.out.sn).mono ?_
      rintro e w2 ⟨rfl, ha, ho⟩
      have HA2 := Aside0.mk (HA.out.turned ha ho)
      clear ha ho HA
      go_wp2
      go_roundw
      case rel => exact ⟨j + 1, by omega, by go_num, HA2⟩
      case measure => simp [intOf]; omega
    · obtain rfl : j = 256 := by omega
      go_wp2_with fail
      refine (HFu.out _ HA.out.sn).mono ?_
      rintro e w2 ⟨rfl, ha, ho⟩
      have HA2 := Aside0.mk (HA.out.turned ha ho)
      clear ha ho HA HFu HEn
      go_wp2_with fail
      refine (HL1.out _ HA2.out.sn).mono ?_
      rintro e w3 ⟨rfl, ha, ho⟩
      have HA3 := Aside0.mk (HA2.out.turned ha ho)
      clear ha ho HA2 HL1
      go_wp2_with fail
      refine (HL2.out _ HA3.out.sn).mono ?_
      rintro e w4 ⟨rfl, ha, ho⟩
      have HA4 := Aside0.mk (HA3.out.turned ha ho)
      clear ha ho HA3 HL2
      go_wp2_with fail
      refine (HE2.out _ HA4.out.sn).mono ?_
      rintro e w5 ⟨rfl, ha, ho⟩
      have HA5 := Aside0.mk (HA4.out.turned ha ho)
      clear ha ho HA4 HE2
      go_wp2_with fail
      refine (readersCalls _ _ _ _ HA5.out.sn).mono ?_
      rintro e w6 ⟨v6, rfl, hR6, h6, ho6⟩
      obtain ⟨A6, c6, rfl⟩ := Kd.R_slice hR6
      rw [HLen.out]
      have HB6 := Aside0.mk (HA5.out.turned h6 ho6).below
      clear hR6 h6 ho6 HA5 HLen
      go_wp2
      go_ret
      exact ⟨rfl, HB6.out⟩
theorem snapFull_walk (s0 : Int) (x : Int) (w : World) (h0 : 0 ≤ s0) (hx : 0 ≤ x ∧ x < 256) :
    Calls Try.prog 3 #[.int .u64 s0, .int .u8 x] w fun e w' => e = .returned (.bool true) ∧ Below w.heap.size w w' := by
  obtain ⟨q, rfl⟩ : ∃ q : Nat, x = q := ⟨x.toNat, by omega⟩
  by_cases h : 4611686018427387904 < s0
  · exact full_walk s0 4611686018427387904 q h0 (Or.inl ⟨h, rfl⟩) (by omega) w
  · exact full_walk s0 s0 q h0 (Or.inr ⟨by omega, rfl⟩) (by omega) w
theorem u8_range {x : Int} (h : (Lit.int .u8 x).wf = true) : 0 ≤ x ∧ x < 256 := by
  simp [Lit.wf, IntKind.min, IntKind.max, IntKind.signed, IntKind.bits] at h
  omega
end Go.Proofs.Ytohpcifpnfomnaa.Snap
