/- Layer 13, the reference: Give; Take where it is refused (printed by wip/tools/gaps.py). -/
import Derived.Test.YtkgabeloofjohaaGapR
namespace Go.Proofs.Ytkgabeloofjohaa.Gap
set_option linter.unusedVariables false
set_option linter.unusedSimpArgs false
open Go.RowKit Go.Proofs.YtkgabeloofjohaaW.PrintWords Go.Proofs.YtkgabeloofjohaaW.PrintLast Go.Proofs.Ytkgabeloofjohaa.Kit

theorem give_eq {xs : List RT} {at_ i : Nat} {x : RT} (h : xs[i]? = some x) : (xs.take (i + 1)).eraseIdx at_ = if i = at_ then (xs.take i).eraseIdx at_ else (xs.take i).eraseIdx at_ ++ [x] := by
  have hl := (List.getElem?_eq_some_iff.1 h).1
  have hlen : (xs.take i).length = i := by rw [List.length_take]; omega
  rw [List.take_add_one, h, Option.toList_some]
  by_cases h1 : i = at_
  · rw [if_pos h1, List.eraseIdx_append_of_length_le (by omega), hlen, List.eraseIdx_of_length_le (by omega : (xs.take i).length ≤ at_)]
    simp [h1]
  · rw [if_neg h1]
    by_cases h2 : at_ < i
    · rw [List.eraseIdx_append_of_lt_length (by omega)]
    · rw [List.eraseIdx_append_of_length_le (by omega), hlen, List.eraseIdx_of_length_le (by omega : (xs.take i).length ≤ at_)]
      congr 1
      obtain ⟨q, hq⟩ : ∃ q, at_ - i = q + 1 := ⟨at_ - i - 1, by omega⟩
      rw [hq]
      rfl
theorem give_len (xs : List RT) (at_ i : Nat) : ((xs.take i).eraseIdx at_).length ≤ i := by
  have := List.length_eraseIdx_le (xs.take i) at_
  rw [List.length_take] at this
  omega

set_option maxRecDepth 100000 in
theorem refTakeFull (A : Option Addr) (n c : Nat) (last : Int) (B : Option Addr) (k d : Nat) (w : World) (hf : 256 < k ∨ 256 ≤ n) (hn : n ≤ 256) :
    Calls Try.prog 17 #[.agg #[.slice A n c, .int .u64 last], .slice B k d] w fun e w' => e = .returned (.tuple #[.agg #[.slice A n c, .int .u64 last], .int .u64 0, .int .i64 2]) ∧ Below w.heap.size w w' := by
  have hu := Try.underlying28
  have hz := zeroTR
  by_cases h1 : 256 < k
  · have i1 : (256 : Int) < (k : Int) := by omega
    clear hf h1
    go_enter Try.func17, Try.ntmps17
    go_upto_region 2 with (fail)
    obtain ⟨W3, hW3⟩ : ∃ W3, W3 = (w.alloc (.cells #[.slice A n c, .int .u64 last] TR)).alloc (.cells #[.slice none 0 0, .int .u64 0] TR) := ⟨_, rfl⟩
    have HB3 : Aside0 (Below w.heap.size w W3) := ⟨by rw [hW3]; exact ((Below.refl _ _).alloc (Nat.le_refl _) _).alloc (by rw [World.size_alloc]; omega) _⟩
    have HZ0 : Aside0 (Blk W3 w.heap.size [.slice A n c, .int .u64 last] TR) := ⟨by rw [hW3]; exact (Blk.newA w _ _).alloc _⟩
    have HZ1 : Aside0 (Blk W3 (w.heap.size + 1) [.slice none 0 0, .int .u64 0] TR) := ⟨by
      rw [hW3]
      have := Blk.newA (w.alloc (.cells #[.slice A n c, .int .u64 last] TR)) #[.slice none 0 0, .int .u64 0] TR
      rw [World.size_alloc] at this
      exact this⟩
    rw [← hW3]
    clear hW3
    generalize hzz : w.heap.size = z at *
    have g0 := HZ0.out.cell 0 _ rfl
    have g1 := HZ0.out.cell 1 _ rfl
    have h10 := HZ1.out.cell 0 _ rfl
    have h11 := HZ1.out.cell 1 _ rfl
    have h10' := (HZ1.out.put 0 (.slice A n c)).cell 1 _ rfl
    have f10 := HZ1.out.free 0
    have f11 := HZ1.out.free 1
    have f11' := (HZ1.out.put 0 (.slice A n c)).free 1
    have HZ1e := Aside0.mk ((HZ1.out.put 0 (.slice A n c)).put 1 (.int .u64 last))
    go_wp2
    refine bodyPost_ret (results_row3 rfl _ _ _ TR _ (0, 0) _ rfl HZ1e.out.out Try.underlying28 rfl (szTR _ rfl)) rfl ⟨rfl, ?_⟩
    try rw [hzz]
    exact HB3.out.trans ((belowS _ (by omega)).trans (belowS _ (by omega)))
  · have i1 : ¬ (256 : Int) < (k : Int) := by omega
    have e1 : n = 256 := by omega
    subst e1
    clear hf h1 hn
    go_enter Try.func17, Try.ntmps17
    go_upto_region 2 with (fail)
    obtain ⟨W3, hW3⟩ : ∃ W3, W3 = (w.alloc (.cells #[.slice A 256 c, .int .u64 last] TR)).alloc (.cells #[.slice none 0 0, .int .u64 0] TR) := ⟨_, rfl⟩
    have HB3 : Aside0 (Below w.heap.size w W3) := ⟨by rw [hW3]; exact ((Below.refl _ _).alloc (Nat.le_refl _) _).alloc (by rw [World.size_alloc]; omega) _⟩
    have HZ0 : Aside0 (Blk W3 w.heap.size [.slice A 256 c, .int .u64 last] TR) := ⟨by rw [hW3]; exact (Blk.newA w _ _).alloc _⟩
    have HZ1 : Aside0 (Blk W3 (w.heap.size + 1) [.slice none 0 0, .int .u64 0] TR) := ⟨by
      rw [hW3]
      have := Blk.newA (w.alloc (.cells #[.slice A 256 c, .int .u64 last] TR)) #[.slice none 0 0, .int .u64 0] TR
      rw [World.size_alloc] at this
      exact this⟩
    rw [← hW3]
    clear hW3
    generalize hzz : w.heap.size = z at *
    have g0 := HZ0.out.cell 0 _ rfl
    have g1 := HZ0.out.cell 1 _ rfl
    have h10 := HZ1.out.cell 0 _ rfl
    have h11 := HZ1.out.cell 1 _ rfl
    have h10' := (HZ1.out.put 0 (.slice A 256 c)).cell 1 _ rfl
    have f10 := HZ1.out.free 0
    have f11 := HZ1.out.free 1
    have f11' := (HZ1.out.put 0 (.slice A 256 c)).free 1
    have HZ1e := Aside0.mk ((HZ1.out.put 0 (.slice A 256 c)).put 1 (.int .u64 last))
    go_wp2
    refine bodyPost_ret (results_row3 rfl _ _ _ TR _ (0, 0) _ rfl HZ1e.out.out Try.underlying28 rfl (szTR _ rfl)) rfl ⟨rfl, ?_⟩
    try rw [hzz]
    exact HB3.out.trans ((belowS _ (by omega)).trans (belowS _ (by omega)))

set_option maxRecDepth 100000 in
set_option maxHeartbeats 4000000 in
theorem refGiveNone (A : Option Addr) (n c : Nat) (xs : List RT) (last t : Int) (w : World) (hC : kT.C w A n xs) (hn : n ≤ 256) (hf : rfind xs t = -1) :
    Calls Try.prog 19 #[.agg #[.slice A n c, .int .u64 last], .int .u64 t] w fun e w' => e = .returned (.tuple #[.agg #[.slice A n c, .int .u64 last], .int .i64 130]) ∧ Below w.heap.size w w' := by
  have hu := Try.underlying28
  have hz := zeroTR
  obtain ⟨W3, hW3⟩ : ∃ W3, W3 = (w.alloc (.cells #[.slice A n c, .int .u64 last] TR)).alloc (.cells #[.slice none 0 0, .int .u64 0] TR) := ⟨_, rfl⟩
  have HB3 : Aside0 (Below w.heap.size w W3) := ⟨by rw [hW3]; exact ((Below.refl _ _).alloc (Nat.le_refl _) _).alloc (by rw [World.size_alloc]; omega) _⟩
  have HZ0 : Aside0 (Blk W3 w.heap.size [.slice A n c, .int .u64 last] TR) := ⟨by rw [hW3]; exact (Blk.newA w _ _).alloc _⟩
  have HZ1 : Aside0 (Blk W3 (w.heap.size + 1) [.slice none 0 0, .int .u64 0] TR) := ⟨by
    rw [hW3]
    have := Blk.newA (w.alloc (.cells #[.slice A n c, .int .u64 last] TR)) #[.slice none 0 0, .int .u64 0] TR
    rw [World.size_alloc] at this
    exact this⟩
  have HF := Aside0.mk (refFind A n c xs last t W3 (Kd.C_below hC HB3.out) hn)
  rw [hf] at HF
  clear hC hf
  go_enter Try.func19, Try.ntmps19
  go_upto_region 1 with (fail)
  rw [← hW3]
  clear hW3
  generalize hzz : w.heap.size = z at *
  have g0 := HZ0.out.cell 0 _ rfl
  have g1 := HZ0.out.cell 1 _ rfl
  go_wp2_with fail
  refine HF.out.mono ?_
  rintro e w4 ⟨rfl, hb4⟩
  have HB4 := Aside0.mk (HB3.out.trans (hb4.mono (by have := HB3.out.size; omega)))
  have HZ0' := Aside0.mk (HZ0.out.belowSize hb4)
  have HZ1' := Aside0.mk (HZ1.out.belowSize hb4)
  clear g0 g1 hb4 HF
  have g0 := HZ0'.out.cell 0 _ rfl
  have g1 := HZ0'.out.cell 1 _ rfl
  have h10 := HZ1'.out.cell 0 _ rfl
  have h11 := HZ1'.out.cell 1 _ rfl
  have h10' := (HZ1'.out.put 0 (.slice A n c)).cell 1 _ rfl
  have f10 := HZ1'.out.free 0
  have f11 := HZ1'.out.free 1
  have f11' := (HZ1'.out.put 0 (.slice A n c)).free 1
  have HZ1e := Aside0.mk ((HZ1'.out.put 0 (.slice A n c)).put 1 (.int .u64 last))
  go_wp2
  refine bodyPost_ret (results_row2 rfl _ _ _ TR _ (0, 0) _ rfl HZ1e.out.out Try.underlying28 rfl (szTR _ rfl)) rfl ⟨rfl, ?_⟩
  rw [hzz]
  exact HB4.out.trans ((belowS _ (by omega)).trans (belowS _ (by omega)))

set_option maxRecDepth 100000 in
set_option maxHeartbeats 4000000 in
theorem refGiveOk (okm : Nat → Prop) (A : Option Addr) (n c at_ : Nat) (xs : List RT) (last t : Int) (w : World) (hR : kT.R TK w 0 okm (.slice A n c) xs) (hn : n ≤ 256) (hf : rfind xs t = (at_ : Int)) (hat : at_ < n) :
    Calls Try.prog 19 #[.agg #[.slice A n c, .int .u64 last], .int .u64 t] w fun e w' => ∃ v', e = .returned (.tuple #[.agg #[v', .int .u64 last], .int .i64 0]) ∧ kT.R TK w' 0 (fun i => (okm i ∧ i < w.heap.size) ∨ w.heap.size ≤ i) v' (xs.eraseIdx at_) ∧ Below w.heap.size w w' := by
  have hu := Try.underlying28
  have huK := Try.underlying39
  have hz := zeroTR
  have HN := Aside0.mk hn
  obtain ⟨A', c', e, hcap, hC⟩ := Kd.R_reads hR
  injection e with e1 e2 e3
  subst e1 e3
  rw [← e2] at hC
  have HLn : Aside0 (xs.length = n) := ⟨e2.symm⟩
  clear e2 hcap
  have HM : Aside0 (∀ W', Below w.heap.size w W' → kT.R TK W' 0 (fun k => okm k ∧ k < w.heap.size) (.slice A n c) xs) := ⟨fun W' h => Kd.R_below (Kd.R_mono (Kd.R_bound hR) (fun k hk => ⟨hk.1, hk.2.2.1⟩)) h⟩
  obtain ⟨W1, hW1⟩ : ∃ W1, W1 = (w.alloc (.cells #[.slice A n c, .int .u64 last] TR)).alloc (.cells #[.slice none 0 0, .int .u64 0] TR) := ⟨_, rfl⟩
  have HB1 : Aside0 (Below w.heap.size w W1) := ⟨by rw [hW1]; exact ((Below.refl _ _).alloc (Nat.le_refl _) _).alloc (by rw [World.size_alloc]; omega) _⟩
  have HZ01 : Aside0 (Blk W1 w.heap.size [.slice A n c, .int .u64 last] TR) := ⟨by rw [hW1]; exact (Blk.newA w _ _).alloc _⟩
  have HZ11 : Aside0 (Blk W1 (w.heap.size + 1) [.slice none 0 0, .int .u64 0] TR) := ⟨by
    rw [hW1]
    have := Blk.newA (w.alloc (.cells #[.slice A n c, .int .u64 last] TR)) #[.slice none 0 0, .int .u64 0] TR
    rw [World.size_alloc] at this
    exact this⟩
  have HF := Aside0.mk (refFind A n c xs last t W1 (Kd.C_below hC HB1.out) hn)
  rw [hf] at HF
  clear hC hf hR
  have i0 : (0 : Int) ≤ (at_ : Int) := by omega
  have hd0 : decide ((at_ : Int) < 0) = false := decide_eq_false (by omega)
  go_enter Try.func19, Try.ntmps19
  go_upto_region 1 with (fail)
  rw [← hW1]
  clear hW1
  have g0 := HZ01.out.cell 0 _ rfl
  have g1 := HZ01.out.cell 1 _ rfl
  go_wp2_with fail
  refine HF.out.mono ?_
  rintro e w4 ⟨rfl, hb4⟩
  have HB4 := Aside0.mk (HB1.out.trans (hb4.mono HB1.out.size))
  have HZ04 := Aside0.mk (HZ01.out.belowSize hb4)
  have HZ14 := Aside0.mk (HZ11.out.belowSize hb4)
  clear g0 g1 hb4 HF HZ01 HZ11 HB1
  have g0 := HZ04.out.cell 0 _ rfl
  have g1 := HZ04.out.cell 1 _ rfl
  go_upto_region 5 with (fail)
  obtain ⟨y, hy⟩ : ∃ y, w4.heap.size = y + 1 + 1 := ⟨w4.heap.size - 2, by have := HZ14.out.lt; omega⟩
  have HZY : Aside0 (w.heap.size ≤ y) := ⟨by have := HZ14.out.lt; omega⟩
  obtain ⟨W3, hW3⟩ : ∃ W3, W3 = w4.alloc (.cells #[.slice none 0 0, .int .u64 last] TR) := ⟨_, rfl⟩
  have HBl0 : Aside0 (Bld W3 y (fun k => okm k ∧ k < w.heap.size) (.slice none 0 0) last []) := ⟨by
    refine ⟨?_, Kd.R_nil _ _ _ _ _, fun k hk => by simp [Value.ownBlock] at hk, by rw [hW3, World.size_alloc]; omega⟩
    have := Blk.newA w4 #[.slice none 0 0, .int .u64 last] TR
    rw [hy] at this
    rw [hW3]
    exact this⟩
  have HB3 : Aside0 (Below w.heap.size w W3) := ⟨by rw [hW3]; exact HB4.out.alloc HB4.out.size _⟩
  have HZ0 : Aside0 (Blk W3 w.heap.size [.slice A n c, .int .u64 last] TR) := ⟨by rw [hW3]; exact HZ04.out.alloc _⟩
  have HZ1 : Aside0 (Blk W3 (w.heap.size + 1) [.slice none 0 0, .int .u64 0] TR) := ⟨by rw [hW3]; exact HZ14.out.alloc _⟩
  rw [hy]
  rw [← hW3]
  clear hW3 HZ04 HZ14 HB4 hy g0 g1
  clear w4
  generalize hzz : w.heap.size = z at *
  go_wp2_with fail
  go_loopw [8] (fun u wr => ∃ (i : Nat) (v : Value), i ≤ n ∧ u = .int .i64 i ∧ Aside0 (Bld wr y (fun k => okm k ∧ k < z) v last ((xs.take i).eraseIdx at_)) ∧ Aside0 (Below (y + 2) W3 wr)) (fun u _ => n - (intOf u).toNat)
  case atStart => exact ⟨0, .slice none 0 0, Nat.zero_le _, rfl, HBl0, ⟨⟨rfl, rfl, rfl, Nat.le_refl _, fun _ _ => rfl⟩⟩⟩
  case round =>
    obtain ⟨i, v, hi, rfl, HBl, HB⟩ := hrel
    by_cases hlt : i < n
    · obtain ⟨A1, c1, rfl⟩ := Kd.R_slice HBl.out.row
      have HZr : Aside0 (Below z w wr) := ⟨HB3.out.trans (HB.out.mono (by have := HZY.out; omega))⟩
      have HZ0r := Aside0.mk (HZ0.out.below HB.out (by have := HZY.out; omega))
      have hm := HM.out wr HZr.out
      obtain ⟨b, x, B1, l1, d1, rfl, hx, c0, c1', hxR⟩ := kT_el hm i (by rw [HLn.out]; exact hlt)
      have HLt : Aside0 (b < z) := ⟨(hm.1 b rfl).2⟩
      have i3 : (i : Int) < (n : Int) := by omega
      have g0 := HZ0r.out.cell 0 _ rfl
      have HEq := Aside0.mk (give_eq (at_ := at_) hx)
      by_cases hne : i = at_
      · have HSame : Aside0 ((xs.take (i + 1)).eraseIdx at_ = (xs.take i).eraseIdx at_) := ⟨by rw [HEq.out, if_pos hne]⟩
        have hb1 : ((i : Int) != (at_ : Int)) = false := by simp [hne]
        have hb2 : ((i : Int) == (at_ : Int)) = true := by simp [hne]
        clear hne c0 c1' hm hx hxR HEq
        go_wp2
        go_roundw
        case rel => exact ⟨i + 1, _, by omega, by go_num, ⟨by rw [HSame.out]; exact HBl.out⟩, HB⟩
        case measure => simp [intOf]; omega
      have HTk : Aside0 ((xs.take (i + 1)).eraseIdx at_ = (xs.take i).eraseIdx at_ ++ [x]) := ⟨by rw [HEq.out, if_neg hne]⟩
      have hb1 : ((i : Int) != (at_ : Int)) = true := by simp; omega
      have hb2 : ((i : Int) == (at_ : Int)) = false := by simp; omega
      have HNew : Aside0 (((xs.take i).eraseIdx at_ ++ [x]).length = ((xs.take i).eraseIdx at_).length + 1) := ⟨by rw [List.length_append]; rfl⟩
      have HXM : Aside0 (kT.M wr.drew 0 (fun k => okm k ∧ k < z) x [.int .u64 x.t, .slice B1 l1 d1]) := ⟨kT_mkM x (Kd.R_below hxR (Below.refl _ wr).drew)⟩
      have HBl' := Aside0.mk (HBl.out.below (Below.refl _ wr).drew)
      have g2 := HBl.out.blk.cell 0 _ rfl
      clear hx hm hxR HZr HZ0r HEq hne
      generalize ((xs.take i).eraseIdx at_).length = L1 at *
      obtain ⟨xt, hxt⟩ : ∃ t, t = x.t := ⟨_, rfl⟩
      rw [← hxt] at c0 HXM
      clear hxt
      clear HBl
      have HBl := HBl'
      clear HBl'
      go_upto_region 9 with (fail)
      refine start_ (n := 11) (S := fun w' => w'.cell? ⟨y + 1 + 1, 0, none⟩ = some (.slice A1 L1 c1) ∧ w'.cell? ⟨z, 0, none⟩ = some (.slice (some ⟨b, 0, none⟩) n c) ∧ w'.cell? ⟨b, i * 2, none⟩ = some (.int .u64 xt) ∧ w'.cell? ⟨b, i * 2 + 1, none⟩ = some (.slice B1 l1 d1)) (ds := [10]) #[false, false, false, false, false, false, false, false, false, false, false] (by kernel_rfl) rfl rfl ⟨g2, g0, c0, c1'⟩ (fun hHeld => ?_)
      refine pure_ (i := 0) (N := some 28) (v := ?_) (a' := ?_) #[true, false, false, false, false, false, false, false, false, false, false] rfl rfl (by kernel_rfl) (fun _ _ _ h => h) (Or.inl ⟨by rfl, ?_⟩) ?_ ?_
      rotate_left
      · intro w'
        go_simp
        with_reducible rfl
      rotate_left
      · simp only [Act.put, List.setIfInBounds_toArray, List.set_cons_zero, List.set_cons_succ, i64_w, i32_w]
        rfl
      refine pure_ (i := 2) (N := some 30) (v := ?_) (a' := ?_) #[true, false, true, false, false, false, false, false, false, false, false] rfl rfl (by kernel_rfl) (fun _ _ _ h => h) (Or.inl ⟨by rfl, ?_⟩) ?_ ?_
      rotate_left
      · intro w'
        go_simp
        with_reducible rfl
      rotate_left
      · simp only [Act.put, List.setIfInBounds_toArray, List.set_cons_zero, List.set_cons_succ, i64_w, i32_w]
        rfl
      refine pure_ (i := 4) (N := some 32) (v := ?_) (a' := ?_) #[true, false, true, false, true, false, false, false, false, false, false] rfl rfl (by kernel_rfl) (fun _ _ _ h => h) (Or.inl ⟨by rfl, ?_⟩) ?_ ?_
      rotate_left
      · intro w'
        go_simp
        with_reducible rfl
      rotate_left
      · simp only [Act.put, List.setIfInBounds_toArray, List.set_cons_zero, List.set_cons_succ, i64_w, i32_w]
        rfl
      refine take_ (i := 1) (N := some 29) (v := ?_) (a' := ?_) #[true, true, true, false, true, false, false, false, false, false, false] rfl rfl (by kernel_rfl) (fun _ _ _ h => h) (Or.inl ⟨by rfl, ?_⟩) hHeld ?_ ?_
      rotate_left
      · rintro w' ⟨s0, s1, s2, s3⟩
        go_simp
        with_reducible rfl
      rotate_left
      · simp only [Act.put, List.setIfInBounds_toArray, List.set_cons_zero, List.set_cons_succ, i64_w, i32_w]
        rfl
      refine take_ (i := 3) (N := some 31) (v := ?_) (a' := ?_) #[true, true, true, true, true, false, false, false, false, false, false] rfl rfl (by kernel_rfl) (fun _ _ _ h => h) (Or.inl ⟨by rfl, ?_⟩) hHeld ?_ ?_
      rotate_left
      · rintro w' ⟨s0, s1, s2, s3⟩
        go_simp
        with_reducible rfl
      rotate_left
      · simp only [Act.put, List.setIfInBounds_toArray, List.set_cons_zero, List.set_cons_succ, i64_w, i32_w]
        rfl
      refine pure_ (i := 5) (N := some 33) (v := ?_) (a' := ?_) #[true, true, true, true, true, true, false, false, false, false, false] rfl rfl (by kernel_rfl) (fun _ _ _ h => h) (Or.inl ⟨by rfl, ?_⟩) ?_ ?_
      rotate_left
      · intro w'
        go_simp
        with_reducible rfl
      rotate_left
      · simp only [Act.put, List.setIfInBounds_toArray, List.set_cons_zero, List.set_cons_succ, i64_w, i32_w]
        rfl
      refine take_ (i := 6) (N := some 34) (v := ?_) (a' := ?_) #[true, true, true, true, true, true, true, false, false, false, false] rfl rfl (by kernel_rfl) (fun _ _ _ h => h) (Or.inl ⟨by rfl, ?_⟩) hHeld ?_ ?_
      rotate_left
      · rintro w' ⟨s0, s1, s2, s3⟩
        go_simp
        with_reducible rfl
      rotate_left
      · simp only [Act.put, List.setIfInBounds_toArray, List.set_cons_zero, List.set_cons_succ, i64_w, i32_w]
        rfl
      refine one_ (i := 7) (N := some 35) #[true, true, true, true, true, true, true, true, false, false, false] rfl rfl (by kernel_rfl) (by decide) (fun K hK => ?_)
      refine value_ (w1 := ?_) (v := ?_) (by rfl) rfl ?_ ?_
      rotate_left 2
      · go_simp
        constructor
        · rfl
        · rfl
      refine hK.out _ _ ⟨cellA g2 _, cellA g0 _, cellA c0 _, cellA c1' _⟩ (fun hHeld => ?_)
      clear hK K
      refine norm_ (a' := ?_) ?_ ?_
      rotate_left
      · show Act.put _ (some 35) _ = _
        simp only [Act.put, List.setIfInBounds_toArray, List.set_cons_zero, List.set_cons_succ, i64_w, i32_w]
        rfl
      refine one_ (i := 8) (N := some 36) #[true, true, true, true, true, true, true, true, true, false, false] rfl rfl (by kernel_rfl) (by decide) (fun K hK => ?_)
      rw [show (wr.alloc (.cells #[.int .u64 xt, .slice B1 l1 d1] TK)).drew = wr.drew.alloc (.cells #[.int .u64 xt, .slice B1 l1 d1] TK) from rfl]
      refine Kd.R_append_step kT (w0 := wr.drew) 0 (by rfl) (.tmp 29) (.tmp 35) TKs TK (.agg #[.int .u64 0, .slice none 0 0]) 32 rfl Try.underlying25 infoT rfl (by decide) (by omega) (.slice A1 L1 c1) ((xs.take i).eraseIdx at_) x [.int .u64 xt, .slice B1 l1 d1] (okN (fun k => okm k ∧ k < z) y) (fun k => okm k ∧ k < z) rfl rfl ?a2P ?a2K ?a2F ?a2O ?a2B ?a2S ?a2L ?_
      (case a2P => exact HXM.out)
      (case a2K => exact fun k hk => ⟨Or.inl ⟨hk, by have := HZY.out; have := hk.2; omega⟩, fun e => by have := HZY.out; have := hk.2; have := HBl.out.own k e.symm; omega⟩)
      (case a2F => exact fun k hk => Or.inr (Nat.le_trans HBl.out.size hk))
      (case a2O => exact HBl.out.row)
      (case a2B => exact Below.refl _ _)
      (case a2S => exact Nat.zero_le _)
      (case a2L => have := give_len xs at_ i; have := HN.out; omega)
      intro v1 w2 ho hb hg hat
      obtain ⟨A5, c5, rfl⟩ := Kd.R_slice ho
      rw [HNew.out] at ho hat ⊢
      have hput := HBl.out.put ho hg hat
      have g22 := hput.2.2.cell 0 _ rfl
      have f22 := hput.2.2.free 0
      have HPut := Aside0.mk hput
      refine hK.out _ _ ⟨cellG hg g2 (fun e => by have := HZY.out; have := HBl.out.own _ e.symm; omega), cellG hg g0 (fun e => by have := HZY.out; have := HBl.out.own _ e.symm; omega), cellG hg c0 (fun e => by have := HZY.out; have := HBl.out.own _ e.symm; have := HLt.out; omega), cellG hg c1' (fun e => by have := HZY.out; have := HBl.out.own _ e.symm; have := HLt.out; omega)⟩ (fun hHeld => ?_)
      clear hK K
      refine norm_ (a' := ?_) ?_ ?_
      rotate_left
      · show Act.put _ (some 36) _ = _
        simp only [Act.put, List.setIfInBounds_toArray, List.set_cons_zero, List.set_cons_succ, i64_w, i32_w]
        rfl
      refine pure_ (i := 9) (N := some 37) (v := ?_) (a' := ?_) #[true, true, true, true, true, true, true, true, true, true, false] rfl rfl (by kernel_rfl) (fun _ _ _ h => h) (Or.inl ⟨by rfl, ?_⟩) ?_ ?_
      rotate_left
      · intro w'
        go_simp
        with_reducible rfl
      rotate_left
      · simp only [Act.put, List.setIfInBounds_toArray, List.set_cons_zero, List.set_cons_succ, i64_w, i32_w]
        rfl
      refine last_ (i := 10) (N := none) #[true, true, true, true, true, true, true, true, true, true, true] rfl rfl (by kernel_rfl) (by decide) (fun K hK => ?_)
      refine skip_ (w1 := ?_) (by rfl) rfl ?_ ?_
      rotate_left
      · go_simp
        rfl
      refine hK.out _ _ ?_
      clear hK K
      refine done_ (by kernel_rfl) ?_
      clear g2 g0 c0 c1' g22 f22 hb hg hat ho hput
      go_wp2
      go_roundw
      case rel => exact ⟨i + 1, _, by omega, by go_num, ⟨by rw [HTk.out]; exact HPut.out.1⟩, ⟨HB.out.trans ((Below.refl _ wr).drew.trans HPut.out.2.1)⟩⟩
      case measure => simp [intOf]; omega
    · obtain rfl : i = n := by omega
      clear hi
      have HTk : Aside0 (xs.take i = xs) := ⟨List.take_of_length_le (by rw [HLn.out]; exact Nat.le_refl _)⟩
      rw [HTk.out] at HBl
      obtain ⟨A1, c1, rfl⟩ := Kd.R_slice HBl.out.row
      generalize (xs.eraseIdx at_).length = L1 at *
      have HZ0r := Aside0.mk (HZ0.out.below HB.out (by have := HZY.out; omega))
      have HZ1r := Aside0.mk (HZ1.out.below HB.out (by have := HZY.out; omega))
      have g0 := HZ0r.out.cell 0 _ rfl
      have q0 := HBl.out.blk.cell 0 _ rfl
      have q1 := HBl.out.blk.cell 1 _ rfl
      have h10 := HZ1r.out.cell 0 _ rfl
      have h11 := HZ1r.out.cell 1 _ rfl
      have h10' := (HZ1r.out.put 0 (.slice A1 L1 c1)).cell 1 _ rfl
      have f10 := HZ1r.out.free 0
      have f11 := HZ1r.out.free 1
      have f11' := (HZ1r.out.put 0 (.slice A1 L1 c1)).free 1
      have HZ1e := Aside0.mk ((HZ1r.out.put 0 (.slice A1 L1 c1)).put 1 (.int .u64 last))
      go_wp2
      refine bodyPost_ret (results_row2 rfl _ _ _ TR _ (0, 0) _ rfl HZ1e.out.out Try.underlying28 rfl (szTR _ rfl)) rfl ⟨_, rfl, ?_, ?_⟩
      · rw [hzz]
        have hzy := HZY.out
        refine Kd.R_mono (Kd.R_far (Kd.R_far HBl.out.row (fun k hk => ?_) _) (fun k hk => ?_) _) (fun k hk => ?_)
        · show k ≠ z + 1
          rcases hk with hk | hk
          · have := hk.1.2
            omega
          · omega
        · show k ≠ z + 1
          rcases hk with hk | hk
          · have := hk.1.2
            omega
          · omega
        · rcases hk with hk | hk
          · exact Or.inl hk.1
          · exact Or.inr (by omega)
      · rw [hzz]
        have hzy := HZY.out
        exact HB3.out.trans ((HB.out.mono (by omega)).trans ((belowS _ (by omega)).trans (belowS _ (by omega))))
end Go.Proofs.Ytkgabeloofjohaa.Gap
