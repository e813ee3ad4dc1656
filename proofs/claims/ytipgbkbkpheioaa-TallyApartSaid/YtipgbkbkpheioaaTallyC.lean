/- Layer 5's counter: Shards and Sum. -/
import Derived.Test.YtipgbkbkpheioaaTallyB
namespace Go.Proofs.Ytipgbkbkpheioaa.Tally
set_option linter.unusedVariables false
set_option linter.unusedSimpArgs false
open Go.RowKit Go.Proofs.YtipgbkbkpheioaaW.PrintWords Go.Proofs.Ytipgbkbkpheioaa.Kit

theorem info64 : (Try.prog.info? 2).map (fun i => (i.zero, i.size, i.bytes)) = some (some (.int .i64 0), 1, 8) := by kernel_rfl
theorem take_rd (xs : List Int) (j : Nat) (h : j < xs.length) : xs.take (j + 1) = xs.take j ++ [rd xs j] := by
  rw [List.take_succ_eq_append_getElem h]
  simp [rd, h]

set_option maxHeartbeats 800000 in
theorem shardsCalls (p g : Nat) (xs : List Int) (w : World) (h : Ctr w p g xs) :
    Calls Try.prog 14 #[.pointer (some ⟨p, 0, none⟩)] w fun e w' => ∃ v, e = .returned v ∧ Kd.R (Kd.int .i64) 2 w' w.heap.size (fun _ => True) v xs ∧ Below w.heap.size w w' := by
  have hc := h.head.cell 0 _ rfl
  have H1 := h.one
  have H2 := h.few
  have Hc := Aside0.mk h
  clear h
  obtain ⟨n, hn⟩ : ∃ n, n = xs.length := ⟨_, rfl⟩
  have Hn := Aside0.mk hn
  rw [← hn] at hc H1 H2
  clear hn
  go_enter Try.func14, Try.ntmps14
  go_wp2
  go_loopw [3, 12] (fun v i wr => ∃ j : Nat, j ≤ n ∧ i = .int .i64 j ∧ Aside0 (Kd.R (Kd.int .i64) 2 wr w.heap.size (fun _ => True) v (xs.take j)) ∧ Aside0 (Below w.heap.size w wr)) (fun _ i _ => n - (intOf i).toNat)
  case atStart => exact ⟨0, Nat.zero_le _, rfl, ⟨Kd.R_nil _ _ _ _ _⟩, ⟨Below.refl _ _⟩⟩
  case round =>
    obtain ⟨j, hj, rfl, HO, HB⟩ := hrel
    have hcw := (Hc.out.head.belowSize HB.out).cell 0 _ rfl
    rw [← Hn.out] at hcw
    by_cases hlt : j < n
    · have hrw := (Hc.out.row.belowSize HB.out).cell j _ (nums_get .i64 xs j (by rw [← Hn.out]; exact hlt))
      have HT := Aside0.mk (take_rd xs j (by rw [← Hn.out]; exact hlt))
      have HL : Aside0 ((xs.take j).length = j) := ⟨by rw [List.length_take, ← Hn.out]; omega⟩
      clear hc
      go_wp2_with (first | (go_at_call 24; refine (i64Load _ _ _ _ hrw).mono ?_; rintro e w' ⟨rfl, rfl⟩) | ((with_reducible refine gate_builtin (b := .append) (xs := #[.tmp 15, .tmp 23]) rfl ?_); at_builtin; refine Kd.R_append (Kd.int .i64) (w0 := w) w.heap.size rfl (.tmp 15) (.tmp 23) 29 2 (.int .i64 0) 8 rfl Try.underlying29 info64 rfl (by decide) (by omega) u3 (xs.take j) (rd xs j) [.int .i64 (rd xs j)] (fun _ => True) (fun _ => False) rfl rfl ?aP (fun _ hk => hk.elim) ?aF ?aO ?aB ?aS ?aL ?_; (case aP => exact rfl); (case aF => exact fun _ _ => trivial); (case aO => exact HO.out); (case aB => exact HB.out); (case aS => exact below_size HB.out); (case aL => have := HL.out; omega); intro v1 w1 ho hb hg hat; have HO1 := Aside0.mk ho; have HB1 := Aside0.mk hb; clear ho hb hg hat HO HB))
      go_roundw
      case rel => exact ⟨j + 1, by omega, by go_num, ⟨by rw [HT.out]; exact HO1.out⟩, HB1⟩
      case measure => simp [intOf]; omega
    · have HE : Aside0 (xs.take j = xs) := ⟨by rw [List.take_of_length_le]; rw [← Hn.out]; omega⟩
      go_wp2
      go_ret
      exact ⟨_, rfl, by rw [← HE.out]; exact HO.out, HB.out⟩

def sumW (xs : List Int) : Int := xs.foldl (fun n s => wrap64 (n + s)) 0
theorem sumW_take (xs : List Int) (j : Nat) (h : j < xs.length) : sumW (xs.take (j + 1)) = wrap64 (sumW (xs.take j) + rd xs j) := by
  rw [take_rd xs j h, sumW, List.foldl_append]
  rfl

set_option maxHeartbeats 800000 in
theorem sumCalls (p g : Nat) (xs : List Int) (w : World) (h : Ctr w p g xs) :
    Calls Try.prog 11 #[.pointer (some ⟨p, 0, none⟩)] w fun e w' => e = .returned (.int .i64 (sumW xs)) ∧ Below w.heap.size w w' := by
  have Hc := Aside0.mk h
  clear h
  go_enter Try.func11, Try.ntmps11
  go_wp2_with fail
  refine (shardsCalls p g xs _ Hc.out).mono ?_
  rintro e w1 ⟨v, rfl, hR, hB⟩
  obtain ⟨A, c, rfl, hl, hC⟩ := Kd.R_reads hR
  have HC := Aside0.mk hC
  have HB := Aside0.mk hB
  have H2 := Hc.out.few
  clear hR hl hC hB
  obtain ⟨n, hn⟩ : ∃ n, n = xs.length := ⟨_, rfl⟩
  have Hn := Aside0.mk hn
  rw [← hn] at H2 ⊢
  clear hn
  go_wp2
  go_loop [3, 9] (fun s i => ∃ j : Nat, j ≤ n ∧ i = .int .i64 j ∧ s = .int .i64 (sumW (xs.take j))) (fun _ i => n - (intOf i).toNat)
  case atStart => exact ⟨0, Nat.zero_le _, rfl, rfl⟩
  case round =>
    obtain ⟨j, hj, rfl, rfl⟩ := hrel
    by_cases hlt : j < n
    · obtain ⟨ad, e, hx⟩ := Kd.at_int HC.out (j : Int) (by omega) (by rw [← Hn.out]; omega)
      subst e
      simp only [Int.toNat_natCast] at hx
      have HT := Aside0.mk (sumW_take xs j (by rw [← Hn.out]; exact hlt))
      generalize sumW (xs.take j) = s0 at *
      go_wp2
      go_round
      case rel => exact ⟨j + 1, by omega, by go_num, by rw [HT.out]⟩
      case measure => simp [intOf]; omega
    · have HE : Aside0 (xs.take j = xs) := ⟨by rw [List.take_of_length_le]; rw [← Hn.out]; omega⟩
      go_wp2
      go_ret
      exact ⟨by first | rfl | (rw [HE.out]; rfl), HB.out⟩
end Go.Proofs.Ytipgbkbkpheioaa.Tally
