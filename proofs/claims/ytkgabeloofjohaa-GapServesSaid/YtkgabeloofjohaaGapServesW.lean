/- The walk of the law GapServes (printed by wip/tools/gapsv.py). -/
import Derived.Test.YtkgabeloofjohaaGapServesA
namespace Go.Proofs.Ytkgabeloofjohaa.Gap
set_option linter.unusedVariables false
set_option linter.unusedSimpArgs false
open Go.RowKit Go.Proofs.YtkgabeloofjohaaW.PrintWords Go.Proofs.YtkgabeloofjohaaW.PrintLast Go.Proofs.Ytkgabeloofjohaa.Kit

def lenV : Option Value → Nat
  | some (.slice _ n _) => n
  | _ => 0
/-- Amid the last loop: those that are there are served, one behind the other. -/
structure Fi (w0 w : World) (g : Nat) (v : Value) (ts : List Tk) (last : Int) : Prop where
  ga : Ga w g 0 v ts last
  gr : GrInv ts
  far : ∀ i, use g v ts i → w0.heap.size ≤ i
  below : Below w0.heap.size w0 w
theorem Fi.prog {w0 w w' : World} {g : Nat} {v : Value} {ts : List Tk} {last : Int} (h : Fi w0 w g v ts last) (hg : Ga w' g 0 v ts last) (ho : Only (use g v ts) w w') : Fi w0 w' g v ts last := ⟨hg, h.gr, h.far, h.below.trans (ho.below h.far h.below.size)⟩
theorem Fi.len {w0 w : World} {g : Nat} {v : Value} {ts : List Tk} {last : Int} (h : Fi w0 w g v ts last) : lenV (w.cell? ⟨g, 3, none⟩) = ts.length := by
  rw [h.ga.cell3]
  obtain ⟨A, c, rfl, _⟩ := h.ga.slice
  rfl

theorem rise_find {ts : List Tk} {i : Nat} {k : Tk} (hr : ts.Pairwise (fun a b => a.t < b.t)) (hk : ts[i]? = some k) : findT ts k.t = some k := by
  obtain ⟨hl, e⟩ := List.getElem?_eq_some_iff.1 hk
  unfold findT
  rw [List.find?_eq_some_iff_getElem]
  refine ⟨by simp, i, hl, e, fun j hj => ?_⟩
  have := List.pairwise_iff_getElem.1 hr j i (by omega) hl hj
  rw [e] at this
  simp
  omega
theorem Fi.give {w0 w w' : World} {g : Nat} {v v' : Value} {ts : List Tk} {last : Int} {m : Nat} (h : Fi w0 w g v ts last) (hg : Ga w' g 0 v' (regrant (ts.eraseIdx m)) last) (ho : Only (use g v ts) w w') (hu : ∀ i, use g v' (ts.eraseIdx m) i → use g v ts i) : Fi w0 w' g v' (regrant (ts.eraseIdx m)) last :=
  ⟨hg, grInv_give h.gr, fun i hi => h.far i (hu i (use_regrant _ _ _ _ hi)), h.below.trans (ho.below h.far h.below.size)⟩

set_option maxRecDepth 100000 in
set_option maxHeartbeats 8000000 in
theorem gapServes_walk (L : Option Addr) (d : Nat) (xs : List Ac) (w : World) (hC : kA.C w L xs.length xs) (hxl : xs.length * 40 ≤ 140737488351232) (hok : ∀ x ∈ xs, okAc x) :
    Calls Try.prog 3 #[.slice L xs.length d] w fun e w' => e = .returned (.bool true) ∧ Below w.heap.size w w' := by
  have hu := Try.underlying28
  have huA := Try.underlying34
  have hz := zeroTR
  have HC : Aside0 (∀ W', Below w.heap.size w W' → kA.C W' L xs.length xs) := ⟨fun W' h => Kd.C_below hC h⟩
  have HOk := Aside0.mk hok
  obtain ⟨m, hm'⟩ : ∃ m, m = xs.length := ⟨_, rfl⟩
  have Hm := Aside0.mk hm'
  rw [← hm'] at hxl HC ⊢
  have HMl := Aside0.mk (show m ≤ 3518437208780 by omega)
  clear hm' hC hok hxl
  go_enter Try.func3, Try.ntmps3
  go_wp2_with fail
  refine (newCalls w).mono ?_
  rintro e w1 ⟨rfl, hg1, hb1, hu1⟩
  have HG1 := Aside0.mk hg1
  have HB1 := Aside0.mk hb1
  have HU1 := Aside0.mk hu1
  clear hg1 hb1 hu1
  go_upto_region 2 with (fail)
  have HPl0 : Aside0 (Pl (fun _ => True) w (w1.alloc (.cells #[.slice none 0 0, .int .u64 0] TR)) w1.heap.size w.heap.size (.slice none 0 0) [] 0 none 0) := ⟨by
    have hb := (Below.refl _ w1).alloc (Nat.le_refl _) (.cells #[.slice none 0 0, .int .u64 0] TR)
    refine Pl.new (HG1.out.below hb) (Blk.newA w1 _ _) (fun i hi => ⟨HU1.out i hi, ?_⟩) HB1.out.size (HB1.out.trans (hb.mono HB1.out.size))
    have := HG1.out.lt hi
    omega⟩
  clear HG1 HU1 HB1
  generalize w1.alloc (.cells #[.slice none 0 0, .int .u64 0] TR) = w2 at *
  generalize w1.heap.size = zb at *
  go_upto_region 5 with (fail)
  have HSh0 := Aside0.mk HPl0.out.fresh
  clear HPl0
  generalize w2.alloc (.cells #[] TU) = w3 at *
  generalize w2.heap.size = q2 at *
  go_wp2_with fail
  go_loopw [5, 6] (fun v5 v6 wr => ∃ (i : Nat) (v : Value) (ts : List Tk) (last : Int) (A : Option Addr) (c : Nat) (had : List Int), i ≤ m ∧ v6 = .int .i64 i ∧ last ≤ (i : Int) ∧ Aside0 (Sh w wr zb w.heap.size v ts last A c v5 had ∧ Had ts had)) (fun _ v6 _ => m - (intOf v6).toNat)
  case atStart => exact ⟨0, .slice none 0 0, [], 0, none, 0, [], Nat.zero_le _, rfl, Int.le_refl _, ⟨HSh0.out, fun t ht => by simp at ht⟩⟩
  case round =>
    clear HSh0
    obtain ⟨i, v, ts, last, A, c, had, hi, rfl, hle, HSh⟩ := hrel
    have HLe := Aside0.mk hle
    clear hle
    have hml := HMl.out
    by_cases hlt : i < m
    · have hxs : i < xs.length := by rw [← Hm.out]; exact hlt
      obtain ⟨b, o, x, B, dd, rfl, hx, c0, c1', c2, hcx⟩ := kA_at (HC.out wr HSh.out.1.pl.below) i hlt
      have i1 : (i : Int) < (m : Int) := by omega
      have HDo : Aside0 (Calls Try.prog 7 #[ptrV w.heap.size, .agg #[.slice A ts.length c, .int .u64 last], .agg #[.int .i64 x.kd, .slice B x.l.length dd, .int .i64 x.n]] wr.drew (DoesP (fun _ => True) w.heap.size v ts last wr.drew)) := ⟨by
        have hb := (Below.refl wr.heap.size wr).drew
        have hok := HOk.out x (List.mem_of_getElem? hx)
        have h48 := hok.2.1.1
        have hl := HLe.out
        exact doesCalls w.heap.size v ts last A c x.kd x.n B x.l.length dd x.l wr.drew (HSh.out.1.pl.st.below hb) (Kd.C_below hcx hb) (by omega) (by omega) (fun _ _ => trivial)⟩
      have g0 := HSh.out.1.pl.box.cell 0 _ rfl
      have g1 := HSh.out.1.pl.box.cell 1 _ rfl
      clear hx hxs hcx
      obtain ⟨xk, xl, xn⟩ := x
      simp only [] at c0 c1' c2 HDo
      generalize xl.length = nl at *
      generalize hln : ts.length = ln at *
      go_upto_region 8 with (fail)
      refine start_ (n := 11) (S := fun w' => w'.cell? ⟨zb, 0, none⟩ = some (.slice A ln c) ∧ w'.cell? ⟨zb, 1, none⟩ = some (.int .u64 last) ∧ w'.cell? ⟨b, o + i * 3, none⟩ = some (.int .i64 xk) ∧ w'.cell? ⟨b, o + i * 3 + 1, none⟩ = some (.slice B nl dd) ∧ w'.cell? ⟨b, o + i * 3 + 2, none⟩ = some (.int .i64 xn)) (ds := [6, 10]) #[false, false, false, false, false, false, false, false, false, false, false] (by kernel_rfl) rfl rfl ⟨g0, g1, c0, c1', c2⟩ (fun hHeld => ?_)
      refine pure_ (i := 0) (N := some 28) (v := ?_) (a' := ?_) #[true, false, false, false, false, false, false, false, false, false, false] rfl rfl (by kernel_rfl) (fun _ _ _ h => h) (Or.inl ⟨by rfl, ?_⟩) ?_ ?_
      rotate_left
      · intro w'
        go_simp
        with_reducible rfl
      rotate_left
      · simp only [Act.put, List.setIfInBounds_toArray, List.set_cons_zero, List.set_cons_succ, i64_w, i32_w]
        rfl
      refine pure_ (i := 2) (N := some 30) (v := ?_) (a' := ?_) #[true, false, true, false, false, false, false, false, false, false, false] rfl rfl (by kernel_rfl) (fun _ _ _ h => h) (Or.inl ⟨by rfl, ?_⟩) ?_ ?_
      rotate_left
      · intro w'
        go_simp
        with_reducible rfl
      rotate_left
      · simp only [Act.put, List.setIfInBounds_toArray, List.set_cons_zero, List.set_cons_succ, i64_w, i32_w]
        rfl
      refine pure_ (i := 3) (N := some 31) (v := ?_) (a' := ?_) #[true, false, true, true, false, false, false, false, false, false, false] rfl rfl (by kernel_rfl) (fun _ _ _ h => h) (Or.inl ⟨by rfl, ?_⟩) ?_ ?_
      rotate_left
      · intro w'
        go_simp
        with_reducible rfl
      rotate_left
      · simp only [Act.put, List.setIfInBounds_toArray, List.set_cons_zero, List.set_cons_succ, i64_w, i32_w]
        rfl
      refine pure_ (i := 4) (N := some 32) (v := ?_) (a' := ?_) #[true, false, true, true, true, false, false, false, false, false, false] rfl rfl (by kernel_rfl) (fun _ _ _ h => h) (Or.inl ⟨by rfl, ?_⟩) ?_ ?_
      rotate_left
      · intro w'
        go_simp
        with_reducible rfl
      rotate_left
      · simp only [Act.put, List.setIfInBounds_toArray, List.set_cons_zero, List.set_cons_succ, i64_w, i32_w]
        rfl
      refine take_ (i := 1) (N := some 29) (v := ?_) (a' := ?_) #[true, true, true, true, true, false, false, false, false, false, false] rfl rfl (by kernel_rfl) (fun _ _ _ h => h) (Or.inl ⟨by rfl, ?_⟩) hHeld ?_ ?_
      rotate_left
      · rintro w' ⟨s0, s1, s2, s3, s4⟩
        go_simp
        with_reducible rfl
      rotate_left
      · simp only [Act.put, List.setIfInBounds_toArray, List.set_cons_zero, List.set_cons_succ, i64_w, i32_w]
        rfl
      refine take_ (i := 5) (N := some 33) (v := ?_) (a' := ?_) #[true, true, true, true, true, true, false, false, false, false, false] rfl rfl (by kernel_rfl) (fun _ _ _ h => h) (Or.inl ⟨by rfl, ?_⟩) hHeld ?_ ?_
      rotate_left
      · rintro w' ⟨s0, s1, s2, s3, s4⟩
        go_simp
        with_reducible rfl
      rotate_left
      · simp only [Act.put, List.setIfInBounds_toArray, List.set_cons_zero, List.set_cons_succ, i64_w, i32_w]
        rfl
      refine last_ (i := 6) (N := some 34) #[true, true, true, true, true, true, true, false, false, false, false] rfl rfl (by kernel_rfl) (by decide) (fun K hK => ?_)
      refine goes_ Try.func7 (by kernel_rfl) rfl #[ptrV w.heap.size, .agg #[.slice A ln c, .int .u64 last], .agg #[.int .i64 xk, .slice B nl dd, .int .i64 xn]] (by rfl) rfl rfl (by simp only [List.map_toArray, List.map_cons, List.map_nil]; rfl) ?_
      with_reducible refine (HDo.out).mono ?_
      rintro e w4 ⟨v', ts', last', A', c', rfl, hst, ho, hu5, hl1, hl2, hsp⟩
      have hp5 := HSh.out.1.acts hst ((Only.drew (Only.refl _ wr)).trans ho) hu5
      have h0 := hp5.2.cell 0 _ rfl
      have h1 := hp5.2.cell 1 _ rfl
      have h1' := (hp5.2.put 0 (.slice A' ts'.length c')).cell 1 _ rfl
      have f0 := hp5.2.free 0
      have f1 := hp5.2.free 1
      have f1' := (hp5.2.put 0 (.slice A' ts'.length c')).free 1
      refine ⟨_, rfl, ?_⟩
      refine hK.out _ _ ?_
      clear hK K
      refine norm_ (a' := ?_) ?_ ?_
      rotate_left
      · show Act.put _ (some 34) _ = _
        simp only [Act.put, List.setIfInBounds_toArray, List.set_cons_zero, List.set_cons_succ, i64_w, i32_w]
        rfl
      refine pure_ (i := 7) (N := some 27) (v := ?_) (a' := ?_) #[true, true, true, true, true, true, true, true, false, false, false] rfl rfl (by kernel_rfl) (fun _ _ _ h => h) (Or.inl ⟨by rfl, ?_⟩) ?_ ?_
      rotate_left
      · intro w'
        go_simp
        with_reducible rfl
      rotate_left
      · simp only [Act.put, List.setIfInBounds_toArray, List.set_cons_zero, List.set_cons_succ, i64_w, i32_w]
        rfl
      refine pure_ (i := 8) (N := some 35) (v := ?_) (a' := ?_) #[true, true, true, true, true, true, true, true, true, false, false] rfl rfl (by kernel_rfl) (fun _ _ _ h => h) (Or.inl ⟨by rfl, ?_⟩) ?_ ?_
      rotate_left
      · intro w'
        go_simp
        with_reducible rfl
      rotate_left
      · simp only [Act.put, List.setIfInBounds_toArray, List.set_cons_zero, List.set_cons_succ, i64_w, i32_w]
        rfl
      refine pure_ (i := 9) (N := some 36) (v := ?_) (a' := ?_) #[true, true, true, true, true, true, true, true, true, true, false] rfl rfl (by kernel_rfl) (fun _ _ _ h => h) (Or.inl ⟨by rfl, ?_⟩) ?_ ?_
      rotate_left
      · intro w'
        go_simp
        with_reducible rfl
      rotate_left
      · simp only [Act.put, List.setIfInBounds_toArray, List.set_cons_zero, List.set_cons_succ, i64_w, i32_w]
        rfl
      refine last_ (i := 10) (N := none) #[true, true, true, true, true, true, true, true, true, true, true] rfl rfl (by kernel_rfl) (by decide) (fun K hK => ?_)
      refine skip_ (w1 := ?_) (by rfl) rfl ?_ ?_
      rotate_left
      · go_simp
        rfl
      refine hK.out _ _ ?_
      clear hK K
      refine done_ (by kernel_rfl) ?_
      have HSh5 := Aside0.mk hp5.1
      have HNot : Aside0 (∀ k' ∈ ts', k'.gr = false → ∀ t ∈ had, t ≠ k'.t) := ⟨fun k' hk hg => had_not HSh.out.2 hsp HSh.out.1.pl.st.ga.rise hk hg⟩
      have HLe5 : Aside0 (last' ≤ (i : Int) + 1) := ⟨by have := HLe.out; omega⟩
      clear g0 g1 c0 c1' c2 h0 h1 h1' f0 f1 f1' hst ho hu5 hp5 HDo HSh hl1 hl2 hsp HLe hln
      generalize (w4.setCell ⟨zb, 0, none⟩ (.slice A' ts'.length c')).setCell ⟨zb, 1, none⟩ (.int .u64 last') = w5 at *
      have i2 : IntKind.i64.wrap ((i : Int) + 1) = ((i + 1 : Nat) : Int) := IntWalk.i64_in _ (by omega)
      obtain ⟨A5, c5, rfl⟩ := Kd.R_slice HSh5.out.hd
      go_upto_region 10 with (fail)
      have HSv0 := Aside0.mk HSh5.out.fresh
      clear HSh5
      generalize w5.alloc (.cells #[] TU) = w6 at *
      generalize w5.heap.size = q5 at *
      have HSm := Aside0.mk HSv0.out.sh.pl.st.ga.small
      go_wp2_with fail
      go_loopw [8, 7] (fun v8 v7 wr => ∃ (k : Nat) (now : List Int), k ≤ ts'.length ∧ v8 = .int .i64 k ∧ Aside0 (Sv w wr zb w.heap.size v' ts' last' A' c' (.slice A5 had.length c5) had v7 now ∧ Had ts' now ∧ now.length ≤ k)) (fun v8 _ _ => ts'.length - (intOf v8).toNat)
      case atStart => exact ⟨0, [], Nat.zero_le _, rfl, ⟨HSv0.out, fun t ht => by simp at ht, Nat.le_refl _⟩⟩
      case round =>
        clear HSv0
        obtain ⟨q, now, hq, rfl, HSv⟩ := hrel
        have hsm := HSm.out
        by_cases hqlt : q < ts'.length
        · obtain ⟨kk, hkk⟩ : ∃ kk, ts'[q]? = some kk := ⟨_, List.getElem?_eq_getElem hqlt⟩
          obtain ⟨b', o', rfl⟩ := HSv.out.1.sh.pl.st.form (by omega)
          have i3 : (q : Int) < (ts'.length : Int) := by omega
          have g0 := HSv.out.1.sh.pl.box.cell 0 _ rfl
          obtain ⟨t0, _⟩ := HSv.out.1.sh.pl.st.row_at hkk
          have HHa : Aside0 (Calls Try.prog 8 #[ptrV w.heap.size, .int .u64 kk.t] wr fun e w' => e = .returned (.tuple #[.bool kk.gr, .int .i64 0]) ∧ Ga w' w.heap.size 0 v' ts' last' ∧ Only (use w.heap.size v' ts') wr w') := ⟨by
            have := hasCalls w.heap.size v' ts' last' kk.t wr HSv.out.1.sh.pl.st.ga
            rw [hasV_at HSv.out.1.sh.pl.st hkk] at this
            exact this⟩
          have HKk := Aside0.mk hkk
          clear hkk
          obtain ⟨kt, hkt⟩ : ∃ t, t = kk.t := ⟨_, rfl⟩
          obtain ⟨kg, hkg⟩ : ∃ t, t = kk.gr := ⟨_, rfl⟩
          rw [← hkt] at t0 HHa
          rw [← hkg] at HHa
          have HKt := Aside0.mk hkt
          have HKg := Aside0.mk hkg
          clear hkt hkg
          go_wp2_with fail
          refine HHa.out.mono ?_
          rintro e w7 ⟨rfl, hg7, ho7⟩
          have HSv7 := Aside0.mk (HSv.out.1.prog hg7 ho7)
          have HNow := Aside0.mk HSv.out.2
          clear hg7 ho7 HHa HSv g0 t0
          cases kg with
          | false =>
            have hq0 : q ≠ 0 := by
              rintro rfl
              have := first_gr HKk.out HSv7.out.sh.pl.st.ga.rise HSv7.out.sh.pl.st.gr
              rw [← HKg.out] at this
              cases this
            have hq1 : ((q : Int) == 0) = false := by simp; omega
            have HHl : Aside0 (had.length ≤ 9223372036854775807) := ⟨R_len HSv7.out.sh.hd⟩
            go_wp2_with fail
            go_loopw [11] (fun v11 wr => ∃ hh : Nat, hh ≤ had.length ∧ v11 = .int .i64 hh ∧ Aside0 (Sv w wr zb w.heap.size v' ts' last' (some ⟨b', o', none⟩) c' (.slice A5 had.length c5) had u7 now)) (fun v11 _ => had.length - (intOf v11).toNat)
            case atStart => exact ⟨0, Nat.zero_le _, rfl, HSv7⟩
            case round =>
              clear HSv7
              obtain ⟨hh, hhle, rfl, HSw⟩ := hrel
              have hhl := HHl.out
              by_cases hhlt : hh < had.length
              · obtain ⟨A5', c5', e5, _, hC5⟩ := Kd.R_reads HSw.out.sh.hd
                injection e5 with e51 e52 e53
                subst e51 e53
                obtain ⟨b5, o5, tt, rfl, htt, c5h⟩ := kI_at hC5 hh hhlt
                have i4 : (hh : Int) < (had.length : Int) := by omega
                have hne : (tt == kt) = false := by
                  have := HNot.out kk (List.mem_of_getElem? HKk.out) HKg.out.symm tt (List.mem_of_getElem? htt)
                  rw [HKt.out]
                  simpa using this
                have g0 := HSw.out.sh.pl.box.cell 0 _ rfl
                obtain ⟨t0, _⟩ := HSw.out.sh.pl.st.row_at HKk.out
                rw [← HKt.out] at t0
                have HSw2 := Aside0.mk (HSw.out.belowed ((Below.refl _ wr).drew))
                clear hC5 htt HSw e52
                go_upto_region 20 with (fail)
                refine start_ (n := 11) (S := fun w' => w'.cell? ⟨zb, 0, none⟩ = some (.slice (some ⟨b', o', none⟩) ts'.length c') ∧ w'.cell? ⟨b5, o5 + hh, none⟩ = some (.int .u64 tt) ∧ w'.cell? ⟨b', o' + q * 2, none⟩ = some (.int .u64 kt)) (ds := []) #[false, false, false, false, false, false, false, false, false, false, false] (by kernel_rfl) rfl rfl ⟨g0, c5h, t0⟩ (fun hHeld => ?_)
                refine pure_ (i := 0) (N := some 66) (v := ?_) (a' := ?_) #[true, false, false, false, false, false, false, false, false, false, false] rfl rfl (by kernel_rfl) (fun _ _ _ h => h) (Or.inl ⟨by rfl, ?_⟩) ?_ ?_
                rotate_left
                · intro w'
                  go_simp
                  with_reducible rfl
                rotate_left
                · simp only [Act.put, List.setIfInBounds_toArray, List.set_cons_zero, List.set_cons_succ, i64_w, i32_w]
                  rfl
                refine pure_ (i := 1) (N := some 67) (v := ?_) (a' := ?_) #[true, true, false, false, false, false, false, false, false, false, false] rfl rfl (by kernel_rfl) (fun _ _ _ h => h) (Or.inl ⟨by rfl, ?_⟩) ?_ ?_
                rotate_left
                · intro w'
                  go_simp
                  with_reducible rfl
                rotate_left
                · simp only [Act.put, List.setIfInBounds_toArray, List.set_cons_zero, List.set_cons_succ, i64_w, i32_w]
                  rfl
                refine pure_ (i := 2) (N := some 68) (v := ?_) (a' := ?_) #[true, true, true, false, false, false, false, false, false, false, false] rfl rfl (by kernel_rfl) (fun _ _ _ h => h) (Or.inl ⟨by rfl, ?_⟩) ?_ ?_
                rotate_left
                · intro w'
                  go_simp
                  with_reducible rfl
                rotate_left
                · simp only [Act.put, List.setIfInBounds_toArray, List.set_cons_zero, List.set_cons_succ, i64_w, i32_w]
                  rfl
                refine pure_ (i := 4) (N := some 70) (v := ?_) (a' := ?_) #[true, true, true, false, true, false, false, false, false, false, false] rfl rfl (by kernel_rfl) (fun _ _ _ h => h) (Or.inl ⟨by rfl, ?_⟩) ?_ ?_
                rotate_left
                · intro w'
                  go_simp
                  with_reducible rfl
                rotate_left
                · simp only [Act.put, List.setIfInBounds_toArray, List.set_cons_zero, List.set_cons_succ, i64_w, i32_w]
                  rfl
                refine pure_ (i := 6) (N := some 72) (v := ?_) (a' := ?_) #[true, true, true, false, true, false, true, false, false, false, false] rfl rfl (by kernel_rfl) (fun _ _ _ h => h) (Or.inl ⟨by rfl, ?_⟩) ?_ ?_
                rotate_left
                · intro w'
                  go_simp
                  with_reducible rfl
                rotate_left
                · simp only [Act.put, List.setIfInBounds_toArray, List.set_cons_zero, List.set_cons_succ, i64_w, i32_w]
                  rfl
                refine take_ (i := 3) (N := some 69) (v := ?_) (a' := ?_) #[true, true, true, true, true, false, true, false, false, false, false] rfl rfl (by kernel_rfl) (fun _ _ _ h => h) (Or.inl ⟨by rfl, ?_⟩) hHeld ?_ ?_
                rotate_left
                · rintro w' ⟨s0, s1, s2⟩
                  go_simp
                  with_reducible rfl
                rotate_left
                · simp only [Act.put, List.setIfInBounds_toArray, List.set_cons_zero, List.set_cons_succ, i64_w, i32_w]
                  rfl
                refine take_ (i := 5) (N := some 71) (v := ?_) (a' := ?_) #[true, true, true, true, true, true, true, false, false, false, false] rfl rfl (by kernel_rfl) (fun _ _ _ h => h) (Or.inl ⟨by rfl, ?_⟩) hHeld ?_ ?_
                rotate_left
                · rintro w' ⟨s0, s1, s2⟩
                  go_simp
                  with_reducible rfl
                rotate_left
                · simp only [Act.put, List.setIfInBounds_toArray, List.set_cons_zero, List.set_cons_succ, i64_w, i32_w]
                  rfl
                refine pure_ (i := 7) (N := some 73) (v := ?_) (a' := ?_) #[true, true, true, true, true, true, true, true, false, false, false] rfl rfl (by kernel_rfl) (fun _ _ _ h => h) (Or.inl ⟨by rfl, ?_⟩) ?_ ?_
                rotate_left
                · intro w'
                  go_simp
                  with_reducible rfl
                rotate_left
                · simp only [Act.put, List.setIfInBounds_toArray, List.set_cons_zero, List.set_cons_succ, i64_w, i32_w]
                  rfl
                refine pure_ (i := 8) (N := some 74) (v := ?_) (a' := ?_) #[true, true, true, true, true, true, true, true, true, false, false] rfl rfl (by kernel_rfl) (fun _ _ _ h => h) (Or.inl ⟨by rfl, ?_⟩) ?_ ?_
                rotate_left
                · intro w'
                  go_simp
                  with_reducible rfl
                rotate_left
                · simp only [Act.put, List.setIfInBounds_toArray, List.set_cons_zero, List.set_cons_succ, i64_w, i32_w]
                  rfl
                refine take_ (i := 9) (N := some 75) (v := ?_) (a' := ?_) #[true, true, true, true, true, true, true, true, true, true, false] rfl rfl (by kernel_rfl) (fun _ _ _ h => h) (Or.inl ⟨by rfl, ?_⟩) hHeld ?_ ?_
                rotate_left
                · rintro w' ⟨s0, s1, s2⟩
                  go_simp
                  with_reducible rfl
                rotate_left
                · simp only [Act.put, List.setIfInBounds_toArray, List.set_cons_zero, List.set_cons_succ, i64_w, i32_w]
                  rfl
                refine pure_ (i := 10) (N := some 76) (v := ?_) (a' := ?_) #[true, true, true, true, true, true, true, true, true, true, true] rfl rfl (by kernel_rfl) (fun _ _ _ h => h) (Or.inl ⟨by rfl, ?_⟩) ?_ ?_
                rotate_left
                · intro w'
                  go_simp
                  with_reducible rfl
                rotate_left
                · simp only [Act.put, List.setIfInBounds_toArray, List.set_cons_zero, List.set_cons_succ, i64_w, i32_w]
                  rfl
                refine done_ (by kernel_rfl) ?_
                clear g0 t0 c5h
                go_wp2
                go_roundw
                case rel => exact ⟨hh + 1, by omega, by go_num, HSw2⟩
                case measure => simp [intOf]; omega
              · obtain rfl : hh = had.length := by omega
                clear hhle
                go_wp2
                go_roundw
                case rel => exact ⟨q + 1, now, by omega, by go_num, ⟨HSw.out, HNow.out.1, by have := HNow.out.2; omega⟩⟩
                case measure => simp [intOf]; omega
          | true =>
            go_wp2_with fail
            go_loopw [12] (fun v12 wr => ∃ hh : Nat, hh ≤ q ∧ v12 = .int .i64 hh ∧ Aside0 (Sv w wr zb w.heap.size v' ts' last' (some ⟨b', o', none⟩) c' (.slice A5 had.length c5) had u7 now)) (fun v12 _ => q - (intOf v12).toNat)
            case atStart => exact ⟨0, Nat.zero_le _, rfl, HSv7⟩
            case round =>
              clear HSv7
              obtain ⟨hh, hhle, rfl, HSw⟩ := hrel
              by_cases hhlt : hh < q
              · obtain ⟨jj, hjj⟩ : ∃ jj, ts'[hh]? = some jj := ⟨_, List.getElem?_eq_getElem (by omega)⟩
                have i4 : (hh : Int) < (q : Int) := by omega
                have i5 : (hh : Int) < (ts'.length : Int) := by omega
                have g0 := HSw.out.sh.pl.box.cell 0 _ rfl
                obtain ⟨t0, _⟩ := HSw.out.sh.pl.st.row_at hjj
                have HHa : Aside0 (Calls Try.prog 8 #[ptrV w.heap.size, .int .u64 jj.t] wr fun e w' => e = .returned (.tuple #[.bool jj.gr, .int .i64 0]) ∧ Ga w' w.heap.size 0 v' ts' last' ∧ Only (use w.heap.size v' ts') wr w') := ⟨by
                  have := hasCalls w.heap.size v' ts' last' jj.t wr HSw.out.sh.pl.st.ga
                  rw [hasV_at HSw.out.sh.pl.st hjj] at this
                  exact this⟩
                have HJj := Aside0.mk hjj
                clear hjj
                generalize jj.t = jt at *
                generalize jj.gr = jg at *
                go_wp2_with fail
                refine HHa.out.mono ?_
                rintro e w8 ⟨rfl, hg8, ho8⟩
                have HSv8 := Aside0.mk (HSw.out.prog hg8 ho8)
                clear hg8 ho8 HHa HSw g0 t0
                cases jg with
                | false =>
                  have HSw2 := Aside0.mk (HSv8.out.belowed ((Below.refl _ w8).drew))
                  go_upto_region 26 with (fail)
                  refine start_ (n := 16) (S := fun w' => True) (ds := []) #[false, false, false, false, false, false, false, false, false, false, false, false, false, false, false, false] (by kernel_rfl) rfl rfl trivial (fun hHeld => ?_)
                  refine pure_ (i := 0) (N := some 93) (v := ?_) (a' := ?_) #[true, false, false, false, false, false, false, false, false, false, false, false, false, false, false, false] rfl rfl (by kernel_rfl) (fun _ _ _ h => h) (Or.inl ⟨by rfl, ?_⟩) ?_ ?_
                  rotate_left
                  · intro w'
                    go_simp
                    with_reducible rfl
                  rotate_left
                  · simp only [Act.put, List.setIfInBounds_toArray, List.set_cons_zero, List.set_cons_succ, i64_w, i32_w]
                    rfl
                  refine pure_ (i := 1) (N := some 94) (v := ?_) (a' := ?_) #[true, true, false, false, false, false, false, false, false, false, false, false, false, false, false, false] rfl rfl (by kernel_rfl) (fun _ _ _ h => h) (Or.inl ⟨by rfl, ?_⟩) ?_ ?_
                  rotate_left
                  · intro w'
                    go_simp
                    with_reducible rfl
                  rotate_left
                  · simp only [Act.put, List.setIfInBounds_toArray, List.set_cons_zero, List.set_cons_succ, i64_w, i32_w]
                    rfl
                  refine pure_ (i := 2) (N := some 95) (v := undef) (a' := ?_) #[true, true, true, false, false, false, false, false, false, false, false, false, false, false, false, false] rfl rfl (by kernel_rfl) (fun _ _ _ h => h) (Or.inr ⟨by rfl, rfl⟩) ?_ ?_
                  rotate_left
                  · simp only [Act.put, List.setIfInBounds_toArray, List.set_cons_zero, List.set_cons_succ, i64_w, i32_w]
                    rfl
                  refine pure_ (i := 3) (N := some 96) (v := undef) (a' := ?_) #[true, true, true, true, false, false, false, false, false, false, false, false, false, false, false, false] rfl rfl (by kernel_rfl) (fun _ _ _ h => h) (Or.inr ⟨by rfl, rfl⟩) ?_ ?_
                  rotate_left
                  · simp only [Act.put, List.setIfInBounds_toArray, List.set_cons_zero, List.set_cons_succ, i64_w, i32_w]
                    rfl
                  refine pure_ (i := 4) (N := some 97) (v := undef) (a' := ?_) #[true, true, true, true, true, false, false, false, false, false, false, false, false, false, false, false] rfl rfl (by kernel_rfl) (fun _ _ _ h => h) (Or.inr ⟨by rfl, rfl⟩) ?_ ?_
                  rotate_left
                  · simp only [Act.put, List.setIfInBounds_toArray, List.set_cons_zero, List.set_cons_succ, i64_w, i32_w]
                    rfl
                  refine pure_ (i := 5) (N := some 98) (v := undef) (a' := ?_) #[true, true, true, true, true, true, false, false, false, false, false, false, false, false, false, false] rfl rfl (by kernel_rfl) (fun _ _ _ h => h) (Or.inr ⟨by rfl, rfl⟩) ?_ ?_
                  rotate_left
                  · simp only [Act.put, List.setIfInBounds_toArray, List.set_cons_zero, List.set_cons_succ, i64_w, i32_w]
                    rfl
                  refine pure_ (i := 6) (N := some 99) (v := undef) (a' := ?_) #[true, true, true, true, true, true, true, false, false, false, false, false, false, false, false, false] rfl rfl (by kernel_rfl) (fun _ _ _ h => h) (Or.inr ⟨by rfl, rfl⟩) ?_ ?_
                  rotate_left
                  · simp only [Act.put, List.setIfInBounds_toArray, List.set_cons_zero, List.set_cons_succ, i64_w, i32_w]
                    rfl
                  refine pure_ (i := 7) (N := some 100) (v := undef) (a' := ?_) #[true, true, true, true, true, true, true, true, false, false, false, false, false, false, false, false] rfl rfl (by kernel_rfl) (fun _ _ _ h => h) (Or.inr ⟨by rfl, rfl⟩) ?_ ?_
                  rotate_left
                  · simp only [Act.put, List.setIfInBounds_toArray, List.set_cons_zero, List.set_cons_succ, i64_w, i32_w]
                    rfl
                  refine pure_ (i := 8) (N := some 101) (v := undef) (a' := ?_) #[true, true, true, true, true, true, true, true, true, false, false, false, false, false, false, false] rfl rfl (by kernel_rfl) (fun _ _ _ h => h) (Or.inr ⟨by rfl, rfl⟩) ?_ ?_
                  rotate_left
                  · simp only [Act.put, List.setIfInBounds_toArray, List.set_cons_zero, List.set_cons_succ, i64_w, i32_w]
                    rfl
                  refine pure_ (i := 9) (N := some 102) (v := undef) (a' := ?_) #[true, true, true, true, true, true, true, true, true, true, false, false, false, false, false, false] rfl rfl (by kernel_rfl) (fun _ _ _ h => h) (Or.inr ⟨by rfl, rfl⟩) ?_ ?_
                  rotate_left
                  · simp only [Act.put, List.setIfInBounds_toArray, List.set_cons_zero, List.set_cons_succ, i64_w, i32_w]
                    rfl
                  refine pure_ (i := 10) (N := some 103) (v := undef) (a' := ?_) #[true, true, true, true, true, true, true, true, true, true, true, false, false, false, false, false] rfl rfl (by kernel_rfl) (fun _ _ _ h => h) (Or.inr ⟨by rfl, rfl⟩) ?_ ?_
                  rotate_left
                  · simp only [Act.put, List.setIfInBounds_toArray, List.set_cons_zero, List.set_cons_succ, i64_w, i32_w]
                    rfl
                  refine pure_ (i := 11) (N := some 104) (v := undef) (a' := ?_) #[true, true, true, true, true, true, true, true, true, true, true, true, false, false, false, false] rfl rfl (by kernel_rfl) (fun _ _ _ h => h) (Or.inr ⟨by rfl, rfl⟩) ?_ ?_
                  rotate_left
                  · simp only [Act.put, List.setIfInBounds_toArray, List.set_cons_zero, List.set_cons_succ, i64_w, i32_w]
                    rfl
                  refine pure_ (i := 12) (N := some 105) (v := undef) (a' := ?_) #[true, true, true, true, true, true, true, true, true, true, true, true, true, false, false, false] rfl rfl (by kernel_rfl) (fun _ _ _ h => h) (Or.inr ⟨by rfl, rfl⟩) ?_ ?_
                  rotate_left
                  · simp only [Act.put, List.setIfInBounds_toArray, List.set_cons_zero, List.set_cons_succ, i64_w, i32_w]
                    rfl
                  refine pure_ (i := 13) (N := some 106) (v := undef) (a' := ?_) #[true, true, true, true, true, true, true, true, true, true, true, true, true, true, false, false] rfl rfl (by kernel_rfl) (fun _ _ _ h => h) (Or.inr ⟨by rfl, rfl⟩) ?_ ?_
                  rotate_left
                  · simp only [Act.put, List.setIfInBounds_toArray, List.set_cons_zero, List.set_cons_succ, i64_w, i32_w]
                    rfl
                  refine pure_ (i := 14) (N := some 107) (v := undef) (a' := ?_) #[true, true, true, true, true, true, true, true, true, true, true, true, true, true, true, false] rfl rfl (by kernel_rfl) (fun _ _ _ h => h) (Or.inr ⟨by rfl, rfl⟩) ?_ ?_
                  rotate_left
                  · simp only [Act.put, List.setIfInBounds_toArray, List.set_cons_zero, List.set_cons_succ, i64_w, i32_w]
                    rfl
                  refine pure_ (i := 15) (N := some 108) (v := ?_) (a' := ?_) #[true, true, true, true, true, true, true, true, true, true, true, true, true, true, true, true] rfl rfl (by kernel_rfl) (fun _ _ _ h => h) (Or.inl ⟨by rfl, ?_⟩) ?_ ?_
                  rotate_left
                  · intro w'
                    go_simp
                    with_reducible rfl
                  rotate_left
                  · simp only [Act.put, List.setIfInBounds_toArray, List.set_cons_zero, List.set_cons_succ, i64_w, i32_w]
                    rfl
                  refine done_ (by kernel_rfl) ?_
                  go_wp2
                  go_roundw
                  case rel => exact ⟨hh + 1, by omega, by go_num, HSw2⟩
                  case measure => simp [intOf]; omega
                | true =>
                  have g0 := HSv8.out.sh.pl.box.cell 0 _ rfl
                  obtain ⟨_, Bj, dj, cj, hCj⟩ := HSv8.out.sh.pl.st.row_at HJj.out
                  obtain ⟨_, Bk, dk, ck, hCk⟩ := HSv8.out.sh.pl.st.row_at HKk.out
                  have HWy : Aside0 (Calls Try.prog 9 #[.slice Bj jj.hs.length dj, .slice Bk kk.hs.length dk] w8.drew fun e w' => e = .returned (.bool false) ∧ Below w8.heap.size w8 w') := ⟨by
                    have hb := (Below.refl w8.heap.size w8).drew
                    have h1 := (HSv8.out.sh.pl.st.ga.tk jj (List.mem_of_getElem? HJj.out)).len
                    have h2 := (HSv8.out.sh.pl.st.ga.tk kk (List.mem_of_getElem? HKk.out)).len
                    have := refWay Bj Bk dj dk jj.hs kk.hs w8.drew (Kd.C_below hCj hb) (Kd.C_below hCk hb) (by omega) (by omega)
                    rw [no_way HJj.out HKk.out hhlt HSv8.out.sh.pl.st.ga.rise HSv8.out.sh.pl.st.gr HKg.out.symm] at this
                    exact this.mono fun e w' ⟨he, h⟩ => ⟨he, hb.trans h⟩⟩
                  clear hCj hCk
                  generalize jj.hs.length = lj at *
                  generalize kk.hs.length = lk at *
                  go_upto_region 26 with (fail)
                  refine start_ (n := 16) (S := fun w' => w'.cell? ⟨zb, 0, none⟩ = some (.slice (some ⟨b', o', none⟩) ts'.length c') ∧ w'.cell? ⟨b', o' + hh * 2 + 1, none⟩ = some (.slice Bj lj dj) ∧ w'.cell? ⟨b', o' + q * 2 + 1, none⟩ = some (.slice Bk lk dk)) (ds := []) #[false, false, false, false, false, false, false, false, false, false, false, false, false, false, false, false] (by kernel_rfl) rfl rfl ⟨g0, cj, ck⟩ (fun hHeld => ?_)
                  refine pure_ (i := 0) (N := some 93) (v := ?_) (a' := ?_) #[true, false, false, false, false, false, false, false, false, false, false, false, false, false, false, false] rfl rfl (by kernel_rfl) (fun _ _ _ h => h) (Or.inl ⟨by rfl, ?_⟩) ?_ ?_
                  rotate_left
                  · intro w'
                    go_simp
                    with_reducible rfl
                  rotate_left
                  · simp only [Act.put, List.setIfInBounds_toArray, List.set_cons_zero, List.set_cons_succ, i64_w, i32_w]
                    rfl
                  refine pure_ (i := 1) (N := some 94) (v := ?_) (a' := ?_) #[true, true, false, false, false, false, false, false, false, false, false, false, false, false, false, false] rfl rfl (by kernel_rfl) (fun _ _ _ h => h) (Or.inl ⟨by rfl, ?_⟩) ?_ ?_
                  rotate_left
                  · intro w'
                    go_simp
                    with_reducible rfl
                  rotate_left
                  · simp only [Act.put, List.setIfInBounds_toArray, List.set_cons_zero, List.set_cons_succ, i64_w, i32_w]
                    rfl
                  refine pure_ (i := 2) (N := some 95) (v := ?_) (a' := ?_) #[true, true, true, false, false, false, false, false, false, false, false, false, false, false, false, false] rfl rfl (by kernel_rfl) (fun _ _ _ h => h) (Or.inl ⟨by rfl, ?_⟩) ?_ ?_
                  rotate_left
                  · intro w'
                    go_simp
                    with_reducible rfl
                  rotate_left
                  · simp only [Act.put, List.setIfInBounds_toArray, List.set_cons_zero, List.set_cons_succ, i64_w, i32_w]
                    rfl
                  refine pure_ (i := 4) (N := some 97) (v := ?_) (a' := ?_) #[true, true, true, false, true, false, false, false, false, false, false, false, false, false, false, false] rfl rfl (by kernel_rfl) (fun _ _ _ h => h) (Or.inl ⟨by rfl, ?_⟩) ?_ ?_
                  rotate_left
                  · intro w'
                    go_simp
                    with_reducible rfl
                  rotate_left
                  · simp only [Act.put, List.setIfInBounds_toArray, List.set_cons_zero, List.set_cons_succ, i64_w, i32_w]
                    rfl
                  refine pure_ (i := 8) (N := some 101) (v := ?_) (a' := ?_) #[true, true, true, false, true, false, false, false, true, false, false, false, false, false, false, false] rfl rfl (by kernel_rfl) (fun _ _ _ h => h) (Or.inl ⟨by rfl, ?_⟩) ?_ ?_
                  rotate_left
                  · intro w'
                    go_simp
                    with_reducible rfl
                  rotate_left
                  · simp only [Act.put, List.setIfInBounds_toArray, List.set_cons_zero, List.set_cons_succ, i64_w, i32_w]
                    rfl
                  refine pure_ (i := 10) (N := some 103) (v := ?_) (a' := ?_) #[true, true, true, false, true, false, false, false, true, false, true, false, false, false, false, false] rfl rfl (by kernel_rfl) (fun _ _ _ h => h) (Or.inl ⟨by rfl, ?_⟩) ?_ ?_
                  rotate_left
                  · intro w'
                    go_simp
                    with_reducible rfl
                  rotate_left
                  · simp only [Act.put, List.setIfInBounds_toArray, List.set_cons_zero, List.set_cons_succ, i64_w, i32_w]
                    rfl
                  refine take_ (i := 3) (N := some 96) (v := ?_) (a' := ?_) #[true, true, true, true, true, false, false, false, true, false, true, false, false, false, false, false] rfl rfl (by kernel_rfl) (fun _ _ _ h => h) (Or.inl ⟨by rfl, ?_⟩) hHeld ?_ ?_
                  rotate_left
                  · rintro w' ⟨s0, s1, s2⟩
                    go_simp
                    with_reducible rfl
                  rotate_left
                  · simp only [Act.put, List.setIfInBounds_toArray, List.set_cons_zero, List.set_cons_succ, i64_w, i32_w]
                    rfl
                  refine pure_ (i := 5) (N := some 98) (v := ?_) (a' := ?_) #[true, true, true, true, true, true, false, false, true, false, true, false, false, false, false, false] rfl rfl (by kernel_rfl) (fun _ _ _ h => h) (Or.inl ⟨by rfl, ?_⟩) ?_ ?_
                  rotate_left
                  · intro w'
                    go_simp
                    with_reducible rfl
                  rotate_left
                  · simp only [Act.put, List.setIfInBounds_toArray, List.set_cons_zero, List.set_cons_succ, i64_w, i32_w]
                    rfl
                  refine pure_ (i := 6) (N := some 99) (v := ?_) (a' := ?_) #[true, true, true, true, true, true, true, false, true, false, true, false, false, false, false, false] rfl rfl (by kernel_rfl) (fun _ _ _ h => h) (Or.inl ⟨by rfl, ?_⟩) ?_ ?_
                  rotate_left
                  · intro w'
                    go_simp
                    with_reducible rfl
                  rotate_left
                  · simp only [Act.put, List.setIfInBounds_toArray, List.set_cons_zero, List.set_cons_succ, i64_w, i32_w]
                    rfl
                  refine take_ (i := 7) (N := some 100) (v := ?_) (a' := ?_) #[true, true, true, true, true, true, true, true, true, false, true, false, false, false, false, false] rfl rfl (by kernel_rfl) (fun _ _ _ h => h) (Or.inl ⟨by rfl, ?_⟩) hHeld ?_ ?_
                  rotate_left
                  · rintro w' ⟨s0, s1, s2⟩
                    go_simp
                    with_reducible rfl
                  rotate_left
                  · simp only [Act.put, List.setIfInBounds_toArray, List.set_cons_zero, List.set_cons_succ, i64_w, i32_w]
                    rfl
                  refine take_ (i := 9) (N := some 102) (v := ?_) (a' := ?_) #[true, true, true, true, true, true, true, true, true, true, true, false, false, false, false, false] rfl rfl (by kernel_rfl) (fun _ _ _ h => h) (Or.inl ⟨by rfl, ?_⟩) hHeld ?_ ?_
                  rotate_left
                  · rintro w' ⟨s0, s1, s2⟩
                    go_simp
                    with_reducible rfl
                  rotate_left
                  · simp only [Act.put, List.setIfInBounds_toArray, List.set_cons_zero, List.set_cons_succ, i64_w, i32_w]
                    rfl
                  refine pure_ (i := 11) (N := some 104) (v := ?_) (a' := ?_) #[true, true, true, true, true, true, true, true, true, true, true, true, false, false, false, false] rfl rfl (by kernel_rfl) (fun _ _ _ h => h) (Or.inl ⟨by rfl, ?_⟩) ?_ ?_
                  rotate_left
                  · intro w'
                    go_simp
                    with_reducible rfl
                  rotate_left
                  · simp only [Act.put, List.setIfInBounds_toArray, List.set_cons_zero, List.set_cons_succ, i64_w, i32_w]
                    rfl
                  refine pure_ (i := 12) (N := some 105) (v := ?_) (a' := ?_) #[true, true, true, true, true, true, true, true, true, true, true, true, true, false, false, false] rfl rfl (by kernel_rfl) (fun _ _ _ h => h) (Or.inl ⟨by rfl, ?_⟩) ?_ ?_
                  rotate_left
                  · intro w'
                    go_simp
                    with_reducible rfl
                  rotate_left
                  · simp only [Act.put, List.setIfInBounds_toArray, List.set_cons_zero, List.set_cons_succ, i64_w, i32_w]
                    rfl
                  refine take_ (i := 13) (N := some 106) (v := ?_) (a' := ?_) #[true, true, true, true, true, true, true, true, true, true, true, true, true, true, false, false] rfl rfl (by kernel_rfl) (fun _ _ _ h => h) (Or.inl ⟨by rfl, ?_⟩) hHeld ?_ ?_
                  rotate_left
                  · rintro w' ⟨s0, s1, s2⟩
                    go_simp
                    with_reducible rfl
                  rotate_left
                  · simp only [Act.put, List.setIfInBounds_toArray, List.set_cons_zero, List.set_cons_succ, i64_w, i32_w]
                    rfl
                  refine one_ (i := 14) (N := some 107) #[true, true, true, true, true, true, true, true, true, true, true, true, true, true, true, false] rfl rfl (by kernel_rfl) (by decide) (fun K hK => ?_)
                  refine goes_ Try.func9 (by kernel_rfl) rfl #[.slice Bj lj dj, .slice Bk lk dk] (by rfl) rfl rfl (by simp only [List.map_toArray, List.map_cons, List.map_nil]; rfl) ?_
                  with_reducible refine (HWy.out).mono ?_
                  rintro e w9 ⟨rfl, hb9⟩
                  refine ⟨_, rfl, ?_⟩
                  refine hK.out _ _ ⟨pw_cell_below hb9 g0, pw_cell_below hb9 cj, pw_cell_below hb9 ck⟩ (fun hHeld => ?_)
                  clear hK K
                  refine norm_ (a' := ?_) ?_ ?_
                  rotate_left
                  · show Act.put _ (some 107) _ = _
                    simp only [Act.put, List.setIfInBounds_toArray, List.set_cons_zero, List.set_cons_succ, i64_w, i32_w]
                    rfl
                  refine pure_ (i := 15) (N := some 108) (v := ?_) (a' := ?_) #[true, true, true, true, true, true, true, true, true, true, true, true, true, true, true, true] rfl rfl (by kernel_rfl) (fun _ _ _ h => h) (Or.inl ⟨by rfl, ?_⟩) ?_ ?_
                  rotate_left
                  · intro w'
                    go_simp
                    with_reducible rfl
                  rotate_left
                  · simp only [Act.put, List.setIfInBounds_toArray, List.set_cons_zero, List.set_cons_succ, i64_w, i32_w]
                    rfl
                  refine done_ (by kernel_rfl) ?_
                  have HSw2 := Aside0.mk (HSv8.out.belowed hb9)
                  clear g0 cj ck hb9 HWy
                  go_wp2
                  go_roundw
                  case rel => exact ⟨hh + 1, by omega, by go_num, HSw2⟩
                  case measure => simp [intOf]; omega
              · obtain rfl : hh = q := by omega
                clear hhle
                have g0 := HSw.out.sh.pl.box.cell 0 _ rfl
                obtain ⟨t0, _⟩ := HSw.out.sh.pl.st.row_at HKk.out
                rw [← HKt.out] at t0
                have hnl := HNow.out.2
                go_wp2_with ((with_reducible refine gate_builtin (b := .append) (xs := #[.tmp 109, .tmp 116]) rfl ?_); at_builtin; refine Kd.R_append (Kd.int .u64) (w0 := w) w.heap.size rfl (.tmp 109) (.tmp 116) TUs TU (.int .u64 0) 8 rfl Try.underlying29 (by kernel_rfl) rfl (by decide) (by omega) u7 now kt [.int .u64 kt] (fun i => ¬ UU w.heap.size v' ts' zb i ∧ ¬ (Value.slice A5 had.length c5).ownBlock = some i) (fun _ => False) rfl rfl ?aP (fun _ hk => hk.elim) ?aF ?aO ?aB ?aS ?aL ?_; (case aP => rfl); (case aF => exact fun k hk => ⟨fun hu => by have := HSw.out.sh.pl.UUlt hu; omega, fun e => by obtain ⟨inner, ho, _⟩ := HSw.out.sh.hd.2; have := own_lt ho _ e; omega⟩); (case aO => exact HSw.out.nw); (case aB => exact HSw.out.sh.pl.below); (case aS => exact HSw.out.sh.pl.below.size); (case aL => omega); intro v9 w9 ho hb hg hat; have HSv9 := Aside0.mk (HSw.out.grown ho hg); clear ho hb hg hat HSw g0 t0)
                go_roundw
                case rel => exact ⟨hh + 1, now ++ [kt], by omega, by go_num, ⟨HSv9.out, fun t ht => by
                  rw [List.mem_append, List.mem_singleton] at ht
                  rcases ht with ht | rfl
                  · exact HNow.out.1 t ht
                  · exact ⟨kk, List.mem_of_getElem? HKk.out, HKt.out.symm, HKg.out.symm⟩, by rw [List.length_append]; simp; omega⟩⟩
                case measure => simp [intOf]; omega
        · obtain rfl : q = ts'.length := by omega
          clear hq
          have g0 := HSv.out.1.sh.pl.box.cell 0 _ rfl
          go_wp2
          go_roundw
          case rel => exact ⟨i + 1, v', ts', last', A', c', now, by omega, by go_num, by have := HLe5.out; omega, ⟨HSv.out.1.over, HSv.out.2.1⟩⟩
          case measure => simp [intOf]; omega
    · obtain rfl : i = m := by omega
      clear hi
      have HFi0 : Aside0 (Fi w wr w.heap.size v ts last) := ⟨⟨HSh.out.1.pl.st.ga, HSh.out.1.pl.st.gr, fun j hj => (HSh.out.1.pl.far j hj).1, HSh.out.1.pl.below⟩⟩
      clear HSh
      go_wp2_with fail
      go_loopw [15] (fun v15 wr => ∃ (v : Value) (ts : List Tk), Aside0 (Fi w wr w.heap.size v ts last)) (fun _ wr => lenV (wr.cell? ⟨w.heap.size, 3, none⟩))
      case atStart => exact ⟨v, ts, HFi0⟩
      case round =>
        clear HFi0
        obtain ⟨v, ts, HFi⟩ := hrel
        have HLv := Aside0.mk HFi.out.len
        go_wp2_with fail
        refine (TicketsCalls w.heap.size v ts last wr HFi.out.ga).mono ?_
        rintro e w2 ⟨v2, rfl, hr2, hg2, ho2⟩
        have HFi2 := Aside0.mk (HFi.out.prog hg2 ho2)
        obtain ⟨A2, c2, rfl⟩ := Kd.R_slice hr2
        rw [tickets_len]
        clear hr2 hg2 ho2 HFi
        by_cases hn : 0 < ts.length
        · obtain ⟨k, hk⟩ : ∃ k, ts[0]? = some k := ⟨_, List.getElem?_eq_getElem hn⟩
          have i7 : (0 : Int) < (ts.length : Int) := by omega
          have HFd := Aside0.mk (rise_find HFi2.out.ga.rise hk)
          have HGr := Aside0.mk (first_gr hk HFi2.out.ga.rise HFi2.out.gr)
          have HK := Aside0.mk hk
          have HNt : Aside0 ((tickets ts)[0]? = some k.t) := ⟨by unfold tickets; rw [List.getElem?_map, hk]; rfl⟩
          clear hk
          go_wp2_with fail
          refine (TicketsCalls w.heap.size v ts last w2 HFi2.out.ga).mono ?_
          rintro e w3 ⟨v3, rfl, hr3, hg3, ho3⟩
          have HFi3 := Aside0.mk (HFi2.out.prog hg3 ho3)
          obtain ⟨b3, o3, c3, rfl, t3⟩ : ∃ b o c, v3 = .slice (some ⟨b, o, none⟩) ts.length c ∧ w3.cell? ⟨b, o, none⟩ = some (.int .u64 k.t) := by
            obtain ⟨A', c', e, _, hC⟩ := Kd.R_reads hr3
            rw [tickets_len] at e hC
            obtain ⟨b, o, x, rfl, hx, hc⟩ := kI_at hC 0 hn
            rw [HNt.out] at hx
            injection hx with hx
            exact ⟨b, o, c', e, by rw [hx]; exact hc⟩
          clear hr3 hg3 ho3 HFi2
          generalize hkt : k.t = kt at *
          clear hkt
          go_wp2_with fail
          refine (waitOk w.heap.size v ts last kt k w3 HFi3.out.ga HFd.out HGr.out).mono ?_
          rintro e w4 ⟨rfl, hg4, ho4⟩
          have HFi4 := Aside0.mk (HFi3.out.prog hg4 ho4)
          clear hg4 ho4 HFi3 t3
          go_wp2_with fail
          refine (giveOk w.heap.size v ts last kt 0 k w4 HFi4.out.ga HFd.out HK.out).mono ?_
          rintro e w5 ⟨v5', rfl, hg5, ho5, hu5⟩
          have HFi5 := Aside0.mk (HFi4.out.give hg5 ho5 hu5)
          clear hg5 ho5 hu5 HFi4
          go_wp2
          go_roundw
          case rel => exact ⟨v5', _, HFi5⟩
          case measure =>
            rw [HFi5.out.len, HLv.out]
            simp [regrant, List.length_eraseIdx]
            omega
        · have i7 : ¬ (0 : Int) < (ts.length : Int) := by omega
          go_wp2_with fail
          refine (awakeCalls w2).mono ?_
          rintro e w9 ⟨rfl, hb9⟩
          have HB9 : Aside0 (Below w.heap.size w w9) := ⟨HFi2.out.below.trans (hb9.mono HFi2.out.below.size)⟩
          clear hb9 HFi2
          go_wp2
          go_ret
          exact ⟨rfl, HB9.out⟩
end Go.Proofs.Ytkgabeloofjohaa.Gap

