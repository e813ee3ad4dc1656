/- The walks of layer 5's awake and of the law TallyAdds. -/
import Derived.Test.YtipgbkbkpheioaaTallyP
import Derived.Test.YtipgbkbkpheioaaTallyK
import Derived.Test.YtipgbkbkpheioaaOpen
import Derived.StillTailTactics
namespace Go.Proofs.Ytipgbkbkpheioaa.Tally
set_option linter.unusedVariables false
set_option linter.unusedSimpArgs false
open Go.RowKit Go.Proofs.YtipgbkbkpheioaaW.PrintWords Go.Proofs.Ytipgbkbkpheioaa.Kit Go.Proofs.Ytipgbkbkpheioaa.PTallyAdds

/-- An addition, as the law is given it. -/
structure Ad where
  shard : Int
  n : Int
def kAd : Kd Ad := Kd.iso (Kd.pair (Kd.int .i64) (Kd.int .i64)) (fun x => (x.shard, x.n))
theorem kAd_cells {w : World} {x : Ad} {cs : List Value} (h : kAd.K w x cs) : cs = [.int .i64 x.shard, .int .i64 x.n] := by
  obtain ⟨c0, c1, rfl, h0, h1⟩ := h
  rw [show c0 = [.int .i64 x.shard] from h0, show c1 = [.int .i64 x.n] from h1]
  rfl
theorem kAd_at {w : World} {A : Option Addr} {n : Nat} {xs : List Ad} (h : kAd.C w A n xs) (i : Nat) (hi : i < n) : ∃ b o, A = some ⟨b, o, none⟩ ∧ ∃ x : Ad, w.cell? ⟨b, o + i * 2, none⟩ = some (.int .i64 x.shard) ∧ w.cell? ⟨b, o + i * 2 + 1, none⟩ = some (.int .i64 x.n) := by
  obtain ⟨b, o, x, cs, rfl, _, hK, hc⟩ := C_at (s := 2) rfl (by omega) h i hi
  have := kAd_cells hK
  subst this
  exact ⟨b, o, rfl, x, hc 0 _ rfl, hc 1 _ rfl⟩

theorem Ctr.alloc {w : World} {p g : Nat} {xs : List Int} (h : Ctr w p g xs) (o : Obj) : Ctr (w.alloc o) p g xs := ⟨h.head.alloc o, h.row.alloc o, h.ne, h.one, h.few⟩
theorem Ctr.drew {w : World} {p g : Nat} {xs : List Int} (h : Ctr w p g xs) : Ctr w.drew p g xs := ⟨h.head.drew, h.row.drew, h.ne, h.one, h.few⟩
theorem Ctr.drewN {w : World} {p g : Nat} {xs : List Int} (h : Ctr w p g xs) (n : Nat) : Ctr (w.drewN n) p g xs := ⟨h.head.drewN n, h.row.drewN n, h.ne, h.one, h.few⟩
theorem Ctr.below {w w' : World} {p g : Nat} {xs : List Int} (h : Ctr w p g xs) (hb : Below w.heap.size w w') : Ctr w' p g xs := ⟨h.head.belowSize hb, h.row.belowSize hb, h.ne, h.one, h.few⟩
theorem madeNums (n : Nat) : (List.replicate n (Value.int .i64 0)) = nums .i64 (List.replicate n 0) := by simp [nums]

set_option maxHeartbeats 2000000 in
theorem adds_loop (n : Nat) (h1 : 1 ≤ n) (h2 : n ≤ 64) (A : Option Addr) (c : Nat) (l : List Ad) (w : World) (hC : kAd.C w A l.length l) (hl : l.length * 16 ≤ 140737488351232) :
    Calls Try.prog 3 #[.int .i64 n, .slice A l.length c] w fun e w' => e = .returned (.bool true) ∧ Below w.heap.size w w' := by
  have HC := Aside0.mk hC
  clear hC
  have hm := fun W => make_one (P := Try.prog) 29 2 (.int .i64 0) 8 (by kernel_rfl) (by kernel_rfl) .i64 .i64 n (by omega) (by omega) W
  have HR : vellumref05_New.f n = some 0 := by unfold vellumref05_New.f; rw [if_neg (by omega), if_neg (by omega)]
  have HR := Aside0.mk HR
  obtain ⟨m, hm'⟩ : ∃ m, m = l.length := ⟨_, rfl⟩
  have Hm := Aside0.mk hm'
  rw [← hm'] at hl ⊢
  clear hm'
  go_enter Try.func3, Try.ntmps3
  go_wp2_with fail
  refine (newOk n h1 h2 _).mono ?_
  rintro e w1 ⟨rfl, hc, hb⟩
  have Hc := Aside0.mk hc
  have Hb := Aside0.mk hb
  clear hc hb
  go_wp2_with fail
  refine (vellumref05_New.calls n 0 _ HR.out).mono ?_
  rintro e w2 ⟨rfl, ⟨nd, rfl⟩⟩
  have Hc1 : Aside0 (Ctr (w1.drewN nd) (w.heap.size + 1) w.heap.size (List.replicate n 0)) := ⟨⟨Hc.out.head.drewN nd, Hc.out.row.drewN nd, Hc.out.ne, Hc.out.one, Hc.out.few⟩⟩
  have Hb1 : Aside0 (Below w.heap.size w (w1.drewN nd)) := ⟨pw_below_drewN Hb.out nd⟩
  generalize w1.drewN nd = w2 at *
  clear Hc Hb
  go_wp2_with fail
  have hs2 : w.heap.size + 2 ≤ w2.heap.size := Hc1.out.head.lt
  have Hc2 := Aside0.mk (Hc1.out.alloc (.cells (Array.replicate n (.int .i64 0)) 2))
  have Hw2 := Aside0.mk (R_made .i64 2 w2 (w.heap.size + 2) n hs2 (by omega))
  have Hb2 := Aside0.mk (Hb1.out.alloc Hb1.out.size (.cells (Array.replicate n (.int .i64 0)) 2))
  clear hs2
  go_loopw [7, 8] (fun v i wr => ∃ (j : Nat) (xs : List Int), j ≤ m ∧ i = .int .i64 j ∧ Aside0 (xs.length = n) ∧ Aside0 (Ctr wr (w.heap.size + 1) w.heap.size xs) ∧ Aside0 (Kd.R (Kd.int .i64) 2 wr (w.heap.size + 2) (fun _ => True) v xs) ∧ Aside0 (Below w.heap.size w wr)) (fun _ i _ => m - (intOf i).toNat)
  case atStart => exact ⟨0, List.replicate n 0, Nat.zero_le _, rfl, ⟨by simp⟩, Hc2, Hw2, Hb2⟩
  case round =>
    obtain ⟨j, xs, hj, rfl, HN, HCt, HW, HB⟩ := hrel
    obtain ⟨A7, c7, rfl⟩ := Kd.R_slice HW.out
    by_cases hlt : j < m
    · obtain ⟨b, o, e, x, hx0, hx1⟩ := kAd_at HC.out j (by rw [← Hm.out]; exact hlt)
      subst e
      have HX0 := Aside0.mk hx0
      have HX1 := Aside0.mk hx1
      have hx0 := pw_cell_below HB.out HX0.out
      have hx1 := pw_cell_below HB.out HX1.out
      go_wp2_with fail
      go_still_tail 11, (by kernel_rfl)
      change wpList _ _ _ _ _ wr.drew
      replace HCt : Aside0 (Ctr wr.drew (w.heap.size + 1) w.heap.size xs) := ⟨⟨HCt.out.head.drew, HCt.out.row.drew, HCt.out.ne, HCt.out.one, HCt.out.few⟩⟩
      replace HB : Aside0 (Below w.heap.size w wr.drew) := ⟨HB.out.drew⟩
      replace HW : Aside0 (Kd.R (Kd.int .i64) 2 wr.drew (w.heap.size + 2) (fun _ => True) (.slice A7 xs.length c7) xs) := ⟨Kd.R_below HW.out ((Below.refl _ _).drew)⟩
      generalize wr.drew = wd at *
      go_wp2_with fail
      refine (addCalls _ _ _ _ _ _ HCt.out).mono ?_
      rintro e w3 ⟨rfl, hw3⟩
      have ho3 : Only (fun i => i = w.heap.size) wd w3 := by
        rw [← hw3]
        exact Only.setCell (S := fun i => i = w.heap.size) (Only.refl _ wd) (p := ⟨w.heap.size, shardOf x.shard xs.length, none⟩) (Or.inl rfl) _
      have HCt3 : Aside0 (Ctr w3 (w.heap.size + 1) w.heap.size (added xs x.shard x.n)) := ⟨hw3 ▸ HCt.out.added x.shard x.n⟩
      have HW3 := Aside0.mk (ho3.R HW.out (fun i hi _ e => by omega))
      have HB3 : Aside0 (Below w.heap.size w w3) := ⟨HB.out.trans (ho3.below (fun i e => by omega) HB.out.size)⟩
      clear ho3 hw3 HCt HW HB hx0 hx1
      have hx0 := pw_cell_below HB3.out HX0.out
      have hx1 := pw_cell_below HB3.out HX1.out
      go_wp2_with fail
      go_still_tail 11, (by kernel_rfl)
      change wpList _ _ _ _ _ w3.drew
      replace HCt3 := Aside0.mk HCt3.out.drew
      replace HB3 := Aside0.mk HB3.out.drew
      replace HW3 := Aside0.mk (Kd.R_below HW3.out ((Below.refl _ _).drew))
      generalize w3.drew = w4 at *
      have HRd := Aside0.mk (Kd.R_reads' HW3.out)
      have HRa := Aside0.mk (ref_add xs x.shard x.n (by rw [HN.out]; exact h1) (by rw [HN.out]; exact h2))
      go_wp2_with fail
      refine (vellumref05_Add.calls 65 _ c7 xs x.shard x.n _ _ HRd.out.2.2 HRd.out.2.1 HRa.out).mono ?_
      rintro e w5 ⟨v5, rfl, hR5, hb5⟩
      have HCt5 := Aside0.mk (HCt3.out.below hb5)
      have HB5 : Aside0 (Below w.heap.size w w5) := ⟨HB3.out.trans (hb5.mono HB3.out.size)⟩
      have HW5 : Aside0 (Kd.R (Kd.int .i64) 2 w5 (w.heap.size + 2) (fun _ => True) v5 (added xs x.shard x.n)) := ⟨Kd.R_lower hR5 HCt3.out.head.lt⟩
      have HN5 : Aside0 ((added xs x.shard x.n).length = n) := ⟨by simpa [added] using HN.out⟩
      clear hR5 hb5 HCt3 HB3 HW3 hx0 hx1 HRd HRa HN
      generalize added xs x.shard x.n = ys at *
      obtain ⟨A5, c5, rfl⟩ := Kd.R_slice HW5.out
      go_wp2_with fail
      refine (sumCalls _ _ _ _ HCt5.out).mono ?_
      rintro e w6 ⟨rfl, hb6⟩
      have HCt6 := Aside0.mk (HCt5.out.below hb6)
      have HB6 : Aside0 (Below w.heap.size w w6) := ⟨HB5.out.trans (hb6.mono HB5.out.size)⟩
      have HW6 := Aside0.mk (Kd.R_below HW5.out hb6)
      have HRd := Aside0.mk (Kd.R_reads' HW6.out)
      have HRs := Aside0.mk (ref_sum ys (by rw [HN5.out]; exact h2))
      clear hb6 HCt5 HB5 HW5
      go_wp2_with fail
      refine (vellumref05_Sum.calls 65 _ c5 ys _ _ HRd.out.2.2 HRd.out.2.1 HRs.out).mono ?_
      rintro e w7 ⟨rfl, ⟨nd, rfl⟩⟩
      have HCt7 := Aside0.mk (HCt6.out.drewN nd)
      have HB7 := Aside0.mk (pw_below_drewN HB6.out nd)
      have HW7 := Aside0.mk (Kd.R_drewN HW6.out nd)
      generalize w6.drewN nd = w7 at *
      clear HCt6 HB6 HW6 HRd HRs
      go_wp2
      go_roundw
      case rel => exact ⟨j + 1, ys, by omega, by go_num, HN5, HCt7, HW7, HB7⟩
      case measure => simp [intOf]; omega
    · go_wp2_with fail
      refine (shardsCalls _ _ _ _ HCt.out).mono ?_
      rintro e w3 ⟨v3, rfl, hR3, hb3⟩
      obtain ⟨A3, c3, rfl⟩ := Kd.R_slice hR3
      have HR3 := Aside0.mk (Kd.R_reads' hR3)
      have HR7 := Aside0.mk (Kd.R_reads' (Kd.R_below HW.out hb3))
      have HB3 : Aside0 (Below w.heap.size w w3) := ⟨HB.out.trans (hb3.mono HB.out.size)⟩
      have HSm := Aside0.mk (same_self xs (by rw [HN.out]; exact h2))
      clear hR3 hb3 HCt HW HB
      go_wp2_with fail
      refine (vellumlaw05_same.calls 65 _ c3 xs _ c7 xs true _ HR3.out.2.2 HR3.out.2.1 HR7.out.2.2 HR7.out.2.1 HSm.out).mono ?_
      rintro e w4 ⟨rfl, ⟨nd, rfl⟩⟩
      have HB4 := Aside0.mk (pw_below_drewN HB3.out nd)
      generalize w3.drewN nd = w4 at *
      clear HR3 HR7 HB3 HSm
      go_wp2_with fail
      refine (awakeCalls _).mono ?_
      rintro e w5 ⟨rfl, hb5⟩
      have HB5 : Aside0 (Below w.heap.size w w5) := ⟨HB4.out.trans (hb5.mono HB4.out.size)⟩
      clear hb5 HB4
      go_wp2
      go_ret
      exact ⟨rfl, HB5.out⟩
theorem adds_none (n : Int) (h : n < 1 ∨ 64 < n) (v : Value) (w : World) : Calls Try.prog 3 #[.int .i64 n, v] w fun e w' => e = .returned (.bool true) ∧ Below w.heap.size w w' := by
  have HR : vellumref05_New.f n = some 1 := by
    unfold vellumref05_New.f
    rcases h with h | h
    · rw [if_pos h]
    · by_cases h1 : n < 1
      · rw [if_pos h1]
      · rw [if_neg h1, if_pos h]
  have HR := Aside0.mk HR
  have HN : Aside0 (∀ w : World, Calls Try.prog 6 #[.int .i64 n] w fun e w' => e = .returned (.tuple #[.pointer none, .int .i64 1]) ∧ w = w') := ⟨fun w => by
    by_cases h1 : n < 1
    · exact newSmall n h1 w
    · exact newBig n (by omega) (by omega) w⟩
  clear h
  go_enter Try.func3, Try.ntmps3
  go_wp2_with fail
  refine (HN.out _).mono ?_
  rintro e w1 ⟨rfl, rfl⟩
  go_wp2_with fail
  refine (vellumref05_New.calls n 1 _ HR.out).mono ?_
  rintro e w2 ⟨rfl, ⟨nd, rfl⟩⟩
  have HB := Aside0.mk (pw_below_drewN (Below.refl w.heap.size w) nd)
  generalize w.drewN nd = w2 at *
  go_wp2_with fail
  refine (awakeCalls _).mono ?_
  rintro e w5 ⟨rfl, hb5⟩
  have HB5 : Aside0 (Below w.heap.size w w5) := ⟨HB.out.trans (hb5.mono HB.out.size)⟩
  clear hb5 HB
  go_wp2
  go_ret
  exact ⟨rfl, HB5.out⟩

/-- TallyAdds, of whatever arguments. -/
theorem tallyAdds_walk (n : Int) (A : Option Addr) (c : Nat) (l : List Ad) (w : World) (hC : kAd.C w A l.length l) (hl : l.length * 16 ≤ 140737488351232) :
    Calls Try.prog 3 #[.int .i64 n, .slice A l.length c] w fun e w' => e = .returned (.bool true) ∧ Below w.heap.size w w' := by
  by_cases h : n < 1 ∨ 64 < n
  · exact adds_none n h _ w
  · obtain ⟨m, rfl⟩ := Int.eq_ofNat_of_zero_le (show 0 ≤ n by omega)
    exact adds_loop m (by omega) (by omega) A c l w hC hl

theorem kAd_opens : Opens Try.prog 32 kAd (fun s => (Lit.int .i64 s.shard).wf = true ∧ (Lit.int .i64 s.n).wf = true) :=
  opens_struct (fun x : Ad => (x.shard, x.n)) (fun a => ⟨a.1, a.2⟩) (fun _ => rfl) Try.underlying32 2 (by kernel_rfl) _ rfl
    (opensFs_cons rfl (opens_int .i64 Try.underlying3) (opensFs_one (by kernel_rfl) (by kernel_rfl) (opens_int .i64 Try.underlying2)))
theorem kAds_opens : Opens Try.prog 22 (Kd.slice 32 kAd) (fun xs => xs.length * 16 ≤ 140737488351232 ∧ ∀ x ∈ xs, (Lit.int .i64 x.shard).wf = true ∧ (Lit.int .i64 x.n).wf = true) :=
  opens_slice Try.underlying22 (by kernel_rfl) 16 (by kernel_rfl) kAd_opens
end Go.Proofs.Ytipgbkbkpheioaa.Tally
