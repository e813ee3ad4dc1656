/- Layer 13, the law's helpers: does, where it gives back (printed by wip/tools/gapy.py). -/
import Derived.Test.YtkgabeloofjohaaGapX
namespace Go.Proofs.Ytkgabeloofjohaa.Gap
set_option linter.unusedVariables false
set_option linter.unusedSimpArgs false
open Go.RowKit Go.Proofs.YtkgabeloofjohaaW.PrintWords Go.Proofs.YtkgabeloofjohaaW.PrintLast Go.Proofs.Ytkgabeloofjohaa.Kit

theorem len_erase (ts : List Tk) (m : Nat) : ((ts.map toRT).eraseIdx m).length = (regrant (ts.eraseIdx m)).length := by
  rw [← rt_erase, List.length_map]
  simp [regrant]

set_option maxRecDepth 100000 in
set_option maxHeartbeats 4000000 in
theorem doesGiveIn {Fr : Nat → Prop} (g : Nat) (v : Value) (ts : List Tk) (last : Int) (A : Option Addr) (c : Nat) (kd N : Int) (B : Option Addr) (k d : Nat) (hs : List Hd) (w : World) (h : St Fr w g v ts last A c) (hC : kH.C w B k hs) (hFr : ∀ i, w.heap.size ≤ i → Fr i) (hkd : kd ≠ 0) (hN : 0 ≤ N) (hN2 : N < (ts.length : Int)) :
    Calls Try.prog 7 #[ptrV g, .agg #[.slice A ts.length c, .int .u64 last], .agg #[.int .i64 kd, .slice B k d, .int .i64 N]] w (DoesP Fr g v ts last w) := by
  have hu := Try.underlying28
  have huA := Try.underlying34
  have hz := zeroTR
  have HSm := Aside0.mk h.ga.small
  have HL0 := Aside0.mk h.last0
  have HFr := Aside0.mk hFr
  clear hFr
  have hk0 : (kd == 0) = false := by simp [hkd]
  have HD0 := Aside0.mk (Dz.start (kd := kd) (N := N) (d := d) h hC)
  have hmi : N.toNat < ts.length := by omega
  obtain ⟨kk, hkk⟩ : ∃ kk, ts[N.toNat]? = some kk := ⟨_, List.getElem?_eq_getElem hmi⟩
  have HFd := Aside0.mk (h.at hkk).1
  have HIx := Aside0.mk (h.at hkk).2
  have HMm := Aside0.mk hkk
  have HMl := Aside0.mk hmi
  have HNt : Aside0 ((tickets ts)[N.toNat]? = some kk.t) := ⟨by unfold tickets; rw [List.getElem?_map, hkk]; rfl⟩
  clear hkk hmi
  clear h hC
  unfold DoesP
  go_enter Try.func7, Try.ntmps7
  go_upto_region 1 with (fail)
  generalize ((w.alloc (.cells #[.slice A ts.length c, .int .u64 last] TR)).alloc (.cells #[.int .i64 kd, .slice B k d, .int .i64 N] TA)).alloc (.cells #[.slice none 0 0, .int .u64 0] TR) = W at *
  generalize hzz : w.heap.size = z at *
  have a0 := HD0.out.b1.cell 0 _ rfl
  have g0 := HD0.out.b0.cell 0 _ rfl
  have g1 := HD0.out.b0.cell 1 _ rfl
  go_upto_region 5 with (fail)
  go_wp2_with fail
  have HRt := refTickets A ts.length c (ts.map toRT) last W HD0.out.st.C HSm.out
  rw [rt_tickets] at HRt
  refine HRt.mono ?_
  rintro e w1 ⟨v5, rfl, hr5, hb1⟩
  have HD1 := Aside0.mk (HD0.out.below hb1)
  obtain ⟨A5, c5, rfl⟩ := Kd.R_slice hr5
  rw [tickets_len] at hr5 ⊢
  clear a0 g0 g1 hb1 HD0 HRt
  have a2 := HD1.out.b1.cell 2 _ rfl
  obtain ⟨b, o, rfl, t7⟩ : ∃ b o, A5 = some ⟨b, o, none⟩ ∧ w1.cell? ⟨b, o + N.toNat, none⟩ = some (.int .u64 kk.t) := by
    obtain ⟨A', c', e, _, hC⟩ := Kd.R_reads hr5
    injection e with e1 e2 e3
    subst e1
    obtain ⟨b, o, x, e, hx, hc⟩ := kI_at hC N.toNat (by rw [tickets_len]; exact HMl.out)
    rw [HNt.out] at hx
    injection hx with hx
    exact ⟨b, o, e, by rw [hx]; exact hc⟩
  clear hr5
  generalize kk.t = nv at *
  go_upto_region 9 with (fail)
  clear t7
  generalize N.toNat = m at *
  have g0 := HD1.out.b0.cell 0 _ rfl
  have g1 := HD1.out.b0.cell 1 _ rfl
  have HG := Aside0.mk (refGiveOk (fun i => ¬ use g v ts i ∧ Fr i) A ts.length c m (ts.map toRT) last nv w1 HD1.out.st.row HSm.out (by rw [rt_find]; exact HIx.out) HMl.out)
  go_wp2_with fail
  refine HG.out.mono ?_
  rintro e w2 ⟨v1, rfl, hr1, hb2⟩
  have HD2 := Aside0.mk (HD1.out.below hb2)
  have hr1' : kT.R TK w2 0 (fun i => ¬ use g v ts i ∧ Fr i) v1 ((ts.map toRT).eraseIdx m) := Kd.R_mono hr1 (fun i hi => by
    rcases hi with hi | hi
    · exact hi.1
    · refine ⟨fun hu => ?_, HFr.out i (by have := HD1.out.b0.lt; omega)⟩
      have := HD1.out.far i hu
      have := HD1.out.b0.lt
      omega)
  obtain ⟨A1, c1, rfl⟩ := Kd.R_slice hr1'
  rw [len_erase] at hr1' ⊢
  have HR2 := Aside0.mk hr1'
  clear hr1 hr1' hb2 HG g0 g1 a2
  go_upto_region 10 with (fail)
  have hb3 : Below w2.heap.size w2 (w2.alloc (.cells #[.slice A1 (regrant (ts.eraseIdx m)).length c1, .int .u64 last] TR)) := (Below.refl _ _).alloc (Nat.le_refl _) _
  have HD3 := Aside0.mk (HD2.out.below hb3)
  have HR3 := Aside0.mk (Kd.R_below HR2.out hb3)
  have HB8 := Aside0.mk (Blk.newA w2 #[.slice A1 (regrant (ts.eraseIdx m)).length c1, .int .u64 last] TR)
  have HZ8 : Aside0 (z + 3 ≤ w2.heap.size) := ⟨by have := HD2.out.b2.lt; omega⟩
  clear hb3 HD2 HR2 HD1
  generalize w2.alloc (.cells #[.slice A1 (regrant (ts.eraseIdx m)).length c1, .int .u64 last] TR) = w3 at *
  generalize w2.heap.size = q at *
  have HGv : Aside0 (Calls Try.prog 12 #[ptrV g, .int .u64 nv] w3.drew fun e w' => ∃ v', e = .returned (.int .i64 0) ∧ Ga w' g 0 v' (regrant (ts.eraseIdx m)) last ∧ Only (use g v ts) w3 w' ∧ ∀ i, use g v' (ts.eraseIdx m) i → use g v ts i) := ⟨(giveOk g v ts last nv m kk w3.drew (HD3.out.st.ga.below ((Below.refl _ w3).drew)) HFd.out HMm.out).mono fun e w' ⟨v', he, hg, ho, hu⟩ => ⟨v', he, hg, (Only.drew (Only.refl _ w3)).trans ho, hu⟩⟩
  have HStp : Aside0 (Stp ts (regrant (ts.eraseIdx m))) := ⟨Stp.give ts m⟩
  have HNew : Aside0 (∀ v' w4, Ga w4 g 0 v' (regrant (ts.eraseIdx m)) last → Only (use g v ts) w3 w4 → (∀ i, use g v' (ts.eraseIdx m) i → use g v ts i) → St Fr w4 g v' (regrant (ts.eraseIdx m)) last A1 c1 ∧ ∀ i, use g v' (regrant (ts.eraseIdx m)) i → use g v ts i) := ⟨fun v' w4 hg ho hu => by
    have hus : ∀ i, use g v' (regrant (ts.eraseIdx m)) i → use g v ts i := fun i hi => hu i (use_regrant _ _ _ _ hi)
    refine ⟨⟨hg, ?_, grInv_give HD3.out.st.gr, fun x hx => ?_, HL0.out⟩, hus⟩
    · rw [rt_regrant, rt_erase]
      exact R_afterF HR3.out ho (fun i hi => Or.inl (hus i hi))
    · obtain ⟨y, hy, rfl⟩ := List.mem_map.1 hx
      exact HD3.out.st.pos y (List.mem_of_mem_eraseIdx hy)⟩
  generalize hts' : regrant (ts.eraseIdx m) = ts' at *
  clear hts'
  generalize hln : ts'.length = ln at *
  have HLn := Aside0.mk hln
  clear hln
  have HFar := Aside0.mk HD3.out.far
  have HB6 := Aside0.mk HD3.out.b2
  have HO3 := Aside0.mk HD3.out.only
  clear HD3 HR3
  have q0 := HB8.out.cell 0 _ rfl
  have q1 := HB8.out.cell 1 _ rfl
  refine start_ (n := 8) (S := fun w' => w'.cell? ⟨q, 0, none⟩ = some (.slice A1 ln c1) ∧ w'.cell? ⟨q, 1, none⟩ = some (.int .u64 last)) (ds := []) #[false, false, false, false, false, false, false, false] (by kernel_rfl) rfl rfl ⟨q0, q1⟩ (fun hHeld => ?_)
  refine pure_ (i := 1) (N := some 72) (v := ?_) (a' := ?_) #[false, true, false, false, false, false, false, false] rfl rfl (by kernel_rfl) (fun _ _ _ h => h) (Or.inl ⟨by rfl, ?_⟩) ?_ ?_
  rotate_left
  · intro w'
    go_simp
    with_reducible rfl
  rotate_left
  · simp only [Act.put, List.setIfInBounds_toArray, List.set_cons_zero, List.set_cons_succ, i64_w, i32_w]
    rfl
  refine pure_ (i := 2) (N := some 73) (v := ?_) (a' := ?_) #[false, true, true, false, false, false, false, false] rfl rfl (by kernel_rfl) (fun _ _ _ h => h) (Or.inl ⟨by rfl, ?_⟩) ?_ ?_
  rotate_left
  · intro w'
    go_simp
    with_reducible rfl
  rotate_left
  · simp only [Act.put, List.setIfInBounds_toArray, List.set_cons_zero, List.set_cons_succ, i64_w, i32_w]
    rfl
  refine pure_ (i := 4) (N := some 75) (v := ?_) (a' := ?_) #[false, true, true, false, true, false, false, false] rfl rfl (by kernel_rfl) (fun _ _ _ h => h) (Or.inl ⟨by rfl, ?_⟩) ?_ ?_
  rotate_left
  · intro w'
    go_simp
    with_reducible rfl
  rotate_left
  · simp only [Act.put, List.setIfInBounds_toArray, List.set_cons_zero, List.set_cons_succ, i64_w, i32_w]
    rfl
  refine take_ (i := 0) (N := some 71) (v := ?_) (a' := ?_) #[true, true, true, false, true, false, false, false] rfl rfl (by kernel_rfl) (fun _ _ _ h => h) (Or.inl ⟨by rfl, ?_⟩) hHeld ?_ ?_
  rotate_left
  · rintro w' ⟨s0, s1⟩
    go_simp
    with_reducible rfl
  rotate_left
  · simp only [Act.put, List.setIfInBounds_toArray, List.set_cons_zero, List.set_cons_succ, i64_w, i32_w]
    rfl
  refine one_ (i := 3) (N := some 74) #[true, true, true, true, true, false, false, false] rfl rfl (by kernel_rfl) (by decide) (fun K hK => ?_)
  refine goes_ Try.func12 (by kernel_rfl) rfl #[ptrV g, .int .u64 nv] (by rfl) rfl rfl (by simp only [List.map_toArray, List.map_cons, List.map_nil]; rfl) ?_
  with_reducible refine (HGv.out).mono ?_
  rintro e w4 ⟨v', rfl, hg4, ho4, hu4⟩
  have HSt := Aside0.mk (HNew.out v' w4 hg4 ho4 hu4)
  have HB84 := blkFar ho4 HB8.out HFar.out (by have := HZ8.out; omega)
  have HB64 := Aside0.mk (blkFar ho4 HB6.out HFar.out (by omega))
  have HO4 := Aside0.mk (HO3.out.trans ho4)
  have h10 := HB64.out.cell 0 _ rfl
  have h11 := HB64.out.cell 1 _ rfl
  have h10' := (HB64.out.put 0 (.slice A1 ln c1)).cell 1 _ rfl
  have f10 := HB64.out.free 0
  have f11 := HB64.out.free 1
  have f11' := (HB64.out.put 0 (.slice A1 ln c1)).free 1
  refine ⟨_, rfl, ?_⟩
  refine hK.out _ _ ⟨HB84.cell 0 _ rfl, HB84.cell 1 _ rfl⟩ (fun hHeld => ?_)
  clear hK K
  refine norm_ (a' := ?_) ?_ ?_
  rotate_left
  · show Act.put _ (some 74) _ = _
    simp only [Act.put, List.setIfInBounds_toArray, List.set_cons_zero, List.set_cons_succ, i64_w, i32_w]
    rfl
  refine pure_ (i := 5) (N := some 76) (v := ?_) (a' := ?_) #[true, true, true, true, true, true, false, false] rfl rfl (by kernel_rfl) (fun _ _ _ h => h) (Or.inl ⟨by rfl, ?_⟩) ?_ ?_
  rotate_left
  · intro w'
    go_simp
    with_reducible rfl
  rotate_left
  · simp only [Act.put, List.setIfInBounds_toArray, List.set_cons_zero, List.set_cons_succ, i64_w, i32_w]
    rfl
  refine one_ (i := 6) (N := none) #[true, true, true, true, true, true, true, false] rfl rfl (by kernel_rfl) (by decide) (fun K hK => ?_)
  refine skip_ (w1 := ?_) (by rfl) rfl ?_ ?_
  rotate_left
  · go_simp
    rfl
  refine hK.out _ _ ⟨cellF (cellF (HB84.cell 0 _ rfl) _ (by show q ≠ z + 1 + 1; have := HZ8.out; omega)) _ (by show q ≠ z + 1 + 1; have := HZ8.out; omega), cellF (cellF (HB84.cell 1 _ rfl) _ (by show q ≠ z + 1 + 1; have := HZ8.out; omega)) _ (by show q ≠ z + 1 + 1; have := HZ8.out; omega)⟩ (fun hHeld => ?_)
  clear hK K
  refine pure_ (i := 7) (N := some 7) (v := ?_) (a' := ?_) #[true, true, true, true, true, true, true, true] rfl rfl (by kernel_rfl) (fun _ _ _ h => h) (Or.inl ⟨by rfl, ?_⟩) ?_ ?_
  rotate_left
  · intro w'
    go_simp
    with_reducible rfl
  rotate_left
  · simp only [Act.put, List.setIfInBounds_toArray, List.set_cons_zero, List.set_cons_succ, i64_w, i32_w]
    rfl
  refine done_ (by kernel_rfl) ?_
  have HB6e := Aside0.mk ((HB64.out.put 0 (.slice A1 ln c1)).put 1 (.int .u64 last))
  clear q0 q1 h10 h11 h10' f10 f11 f11' hg4 hu4
  go_wp2
  refine bodyPost_ret (results_row2 rfl _ _ _ TR _ (0, 0) _ rfl HB6e.out.out Try.underlying28 rfl (szTR _ rfl)) rfl ⟨v', ts', last, A1, c1, by rw [HLn.out]; rfl, ?_, ?_, fun i hi => Or.inl (HSt.out.2 i hi), Int.le_refl _, by omega, HStp.out⟩
  · exact HSt.out.1.putBox (z := z + 1 + 1) (fun hu => by have := HFar.out _ (HSt.out.2 _ hu); omega) HB64.out _ _
  · exact (HO4.out.setCell (p := ⟨z + 1 + 1, 0, none⟩) (Or.inr (by show w.heap.size ≤ z + 1 + 1; omega)) _).setCell (p := ⟨z + 1 + 1, 1, none⟩) (Or.inr (by show w.heap.size ≤ z + 1 + 1; omega)) _

set_option maxRecDepth 100000 in
set_option maxHeartbeats 4000000 in
theorem doesGiveLowF {Fr : Nat → Prop} (g : Nat) (v : Value) (ts : List Tk) (last : Int) (A : Option Addr) (c : Nat) (kd N : Int) (B : Option Addr) (k d : Nat) (hs : List Hd) (w : World) (h : St Fr w g v ts last A c) (hC : kH.C w B k hs) (hFr : ∀ i, w.heap.size ≤ i → Fr i) (hkd : kd ≠ 0) (hN : N < 0) (m : Nat) (kk : Tk) (hfd : findT ts (IntKind.u64.wrap N) = some kk) (hix : idxT ts (IntKind.u64.wrap N) = (m : Int)) (hmm : ts[m]? = some kk) (hml : m < ts.length) :
    Calls Try.prog 7 #[ptrV g, .agg #[.slice A ts.length c, .int .u64 last], .agg #[.int .i64 kd, .slice B k d, .int .i64 N]] w (DoesP Fr g v ts last w) := by
  have hu := Try.underlying28
  have huA := Try.underlying34
  have hz := zeroTR
  have HSm := Aside0.mk h.ga.small
  have HL0 := Aside0.mk h.last0
  have HFr := Aside0.mk hFr
  clear hFr
  have hk0 : (kd == 0) = false := by simp [hkd]
  have HD0 := Aside0.mk (Dz.start (kd := kd) (N := N) (d := d) h hC)
  have HFd := Aside0.mk hfd
  have HIx := Aside0.mk hix
  have HMm := Aside0.mk hmm
  have HMl := Aside0.mk hml
  clear hfd hix hmm hml
  have n0 : ¬ (0 : Int) ≤ N := by omega
  clear hN
  clear h hC
  unfold DoesP
  go_enter Try.func7, Try.ntmps7
  go_upto_region 1 with (fail)
  generalize ((w.alloc (.cells #[.slice A ts.length c, .int .u64 last] TR)).alloc (.cells #[.int .i64 kd, .slice B k d, .int .i64 N] TA)).alloc (.cells #[.slice none 0 0, .int .u64 0] TR) = W at *
  generalize hzz : w.heap.size = z at *
  have a0 := HD0.out.b1.cell 0 _ rfl
  have g0 := HD0.out.b0.cell 0 _ rfl
  have g1 := HD0.out.b0.cell 1 _ rfl
  go_upto_region 5 with (fail)
  go_wp2_with fail
  have HRt := refTickets A ts.length c (ts.map toRT) last W HD0.out.st.C HSm.out
  rw [rt_tickets] at HRt
  refine HRt.mono ?_
  rintro e w1 ⟨v5, rfl, hr5, hb1⟩
  have HD1 := Aside0.mk (HD0.out.below hb1)
  obtain ⟨A5, c5, rfl⟩ := Kd.R_slice hr5
  rw [tickets_len] at hr5 ⊢
  clear a0 g0 g1 hb1 HD0 HRt
  have a2 := HD1.out.b1.cell 2 _ rfl
  clear hr5
  go_upto_region 9 with (fail)
  generalize hnv : IntKind.u64.wrap N = nv at *
  clear hnv
  have g0 := HD1.out.b0.cell 0 _ rfl
  have g1 := HD1.out.b0.cell 1 _ rfl
  have HG := Aside0.mk (refGiveOk (fun i => ¬ use g v ts i ∧ Fr i) A ts.length c m (ts.map toRT) last nv w1 HD1.out.st.row HSm.out (by rw [rt_find]; exact HIx.out) HMl.out)
  go_wp2_with fail
  refine HG.out.mono ?_
  rintro e w2 ⟨v1, rfl, hr1, hb2⟩
  have HD2 := Aside0.mk (HD1.out.below hb2)
  have hr1' : kT.R TK w2 0 (fun i => ¬ use g v ts i ∧ Fr i) v1 ((ts.map toRT).eraseIdx m) := Kd.R_mono hr1 (fun i hi => by
    rcases hi with hi | hi
    · exact hi.1
    · refine ⟨fun hu => ?_, HFr.out i (by have := HD1.out.b0.lt; omega)⟩
      have := HD1.out.far i hu
      have := HD1.out.b0.lt
      omega)
  obtain ⟨A1, c1, rfl⟩ := Kd.R_slice hr1'
  rw [len_erase] at hr1' ⊢
  have HR2 := Aside0.mk hr1'
  clear hr1 hr1' hb2 HG g0 g1 a2
  go_upto_region 10 with (fail)
  have hb3 : Below w2.heap.size w2 (w2.alloc (.cells #[.slice A1 (regrant (ts.eraseIdx m)).length c1, .int .u64 last] TR)) := (Below.refl _ _).alloc (Nat.le_refl _) _
  have HD3 := Aside0.mk (HD2.out.below hb3)
  have HR3 := Aside0.mk (Kd.R_below HR2.out hb3)
  have HB8 := Aside0.mk (Blk.newA w2 #[.slice A1 (regrant (ts.eraseIdx m)).length c1, .int .u64 last] TR)
  have HZ8 : Aside0 (z + 3 ≤ w2.heap.size) := ⟨by have := HD2.out.b2.lt; omega⟩
  clear hb3 HD2 HR2 HD1
  generalize w2.alloc (.cells #[.slice A1 (regrant (ts.eraseIdx m)).length c1, .int .u64 last] TR) = w3 at *
  generalize w2.heap.size = q at *
  have HGv : Aside0 (Calls Try.prog 12 #[ptrV g, .int .u64 nv] w3.drew fun e w' => ∃ v', e = .returned (.int .i64 0) ∧ Ga w' g 0 v' (regrant (ts.eraseIdx m)) last ∧ Only (use g v ts) w3 w' ∧ ∀ i, use g v' (ts.eraseIdx m) i → use g v ts i) := ⟨(giveOk g v ts last nv m kk w3.drew (HD3.out.st.ga.below ((Below.refl _ w3).drew)) HFd.out HMm.out).mono fun e w' ⟨v', he, hg, ho, hu⟩ => ⟨v', he, hg, (Only.drew (Only.refl _ w3)).trans ho, hu⟩⟩
  have HStp : Aside0 (Stp ts (regrant (ts.eraseIdx m))) := ⟨Stp.give ts m⟩
  have HNew : Aside0 (∀ v' w4, Ga w4 g 0 v' (regrant (ts.eraseIdx m)) last → Only (use g v ts) w3 w4 → (∀ i, use g v' (ts.eraseIdx m) i → use g v ts i) → St Fr w4 g v' (regrant (ts.eraseIdx m)) last A1 c1 ∧ ∀ i, use g v' (regrant (ts.eraseIdx m)) i → use g v ts i) := ⟨fun v' w4 hg ho hu => by
    have hus : ∀ i, use g v' (regrant (ts.eraseIdx m)) i → use g v ts i := fun i hi => hu i (use_regrant _ _ _ _ hi)
    refine ⟨⟨hg, ?_, grInv_give HD3.out.st.gr, fun x hx => ?_, HL0.out⟩, hus⟩
    · rw [rt_regrant, rt_erase]
      exact R_afterF HR3.out ho (fun i hi => Or.inl (hus i hi))
    · obtain ⟨y, hy, rfl⟩ := List.mem_map.1 hx
      exact HD3.out.st.pos y (List.mem_of_mem_eraseIdx hy)⟩
  generalize hts' : regrant (ts.eraseIdx m) = ts' at *
  clear hts'
  generalize hln : ts'.length = ln at *
  have HLn := Aside0.mk hln
  clear hln
  have HFar := Aside0.mk HD3.out.far
  have HB6 := Aside0.mk HD3.out.b2
  have HO3 := Aside0.mk HD3.out.only
  clear HD3 HR3
  have q0 := HB8.out.cell 0 _ rfl
  have q1 := HB8.out.cell 1 _ rfl
  refine start_ (n := 8) (S := fun w' => w'.cell? ⟨q, 0, none⟩ = some (.slice A1 ln c1) ∧ w'.cell? ⟨q, 1, none⟩ = some (.int .u64 last)) (ds := []) #[false, false, false, false, false, false, false, false] (by kernel_rfl) rfl rfl ⟨q0, q1⟩ (fun hHeld => ?_)
  refine pure_ (i := 1) (N := some 72) (v := ?_) (a' := ?_) #[false, true, false, false, false, false, false, false] rfl rfl (by kernel_rfl) (fun _ _ _ h => h) (Or.inl ⟨by rfl, ?_⟩) ?_ ?_
  rotate_left
  · intro w'
    go_simp
    with_reducible rfl
  rotate_left
  · simp only [Act.put, List.setIfInBounds_toArray, List.set_cons_zero, List.set_cons_succ, i64_w, i32_w]
    rfl
  refine pure_ (i := 2) (N := some 73) (v := ?_) (a' := ?_) #[false, true, true, false, false, false, false, false] rfl rfl (by kernel_rfl) (fun _ _ _ h => h) (Or.inl ⟨by rfl, ?_⟩) ?_ ?_
  rotate_left
  · intro w'
    go_simp
    with_reducible rfl
  rotate_left
  · simp only [Act.put, List.setIfInBounds_toArray, List.set_cons_zero, List.set_cons_succ, i64_w, i32_w]
    rfl
  refine pure_ (i := 4) (N := some 75) (v := ?_) (a' := ?_) #[false, true, true, false, true, false, false, false] rfl rfl (by kernel_rfl) (fun _ _ _ h => h) (Or.inl ⟨by rfl, ?_⟩) ?_ ?_
  rotate_left
  · intro w'
    go_simp
    with_reducible rfl
  rotate_left
  · simp only [Act.put, List.setIfInBounds_toArray, List.set_cons_zero, List.set_cons_succ, i64_w, i32_w]
    rfl
  refine take_ (i := 0) (N := some 71) (v := ?_) (a' := ?_) #[true, true, true, false, true, false, false, false] rfl rfl (by kernel_rfl) (fun _ _ _ h => h) (Or.inl ⟨by rfl, ?_⟩) hHeld ?_ ?_
  rotate_left
  · rintro w' ⟨s0, s1⟩
    go_simp
    with_reducible rfl
  rotate_left
  · simp only [Act.put, List.setIfInBounds_toArray, List.set_cons_zero, List.set_cons_succ, i64_w, i32_w]
    rfl
  refine one_ (i := 3) (N := some 74) #[true, true, true, true, true, false, false, false] rfl rfl (by kernel_rfl) (by decide) (fun K hK => ?_)
  refine goes_ Try.func12 (by kernel_rfl) rfl #[ptrV g, .int .u64 nv] (by rfl) rfl rfl (by simp only [List.map_toArray, List.map_cons, List.map_nil]; rfl) ?_
  with_reducible refine (HGv.out).mono ?_
  rintro e w4 ⟨v', rfl, hg4, ho4, hu4⟩
  have HSt := Aside0.mk (HNew.out v' w4 hg4 ho4 hu4)
  have HB84 := blkFar ho4 HB8.out HFar.out (by have := HZ8.out; omega)
  have HB64 := Aside0.mk (blkFar ho4 HB6.out HFar.out (by omega))
  have HO4 := Aside0.mk (HO3.out.trans ho4)
  have h10 := HB64.out.cell 0 _ rfl
  have h11 := HB64.out.cell 1 _ rfl
  have h10' := (HB64.out.put 0 (.slice A1 ln c1)).cell 1 _ rfl
  have f10 := HB64.out.free 0
  have f11 := HB64.out.free 1
  have f11' := (HB64.out.put 0 (.slice A1 ln c1)).free 1
  refine ⟨_, rfl, ?_⟩
  refine hK.out _ _ ⟨HB84.cell 0 _ rfl, HB84.cell 1 _ rfl⟩ (fun hHeld => ?_)
  clear hK K
  refine norm_ (a' := ?_) ?_ ?_
  rotate_left
  · show Act.put _ (some 74) _ = _
    simp only [Act.put, List.setIfInBounds_toArray, List.set_cons_zero, List.set_cons_succ, i64_w, i32_w]
    rfl
  refine pure_ (i := 5) (N := some 76) (v := ?_) (a' := ?_) #[true, true, true, true, true, true, false, false] rfl rfl (by kernel_rfl) (fun _ _ _ h => h) (Or.inl ⟨by rfl, ?_⟩) ?_ ?_
  rotate_left
  · intro w'
    go_simp
    with_reducible rfl
  rotate_left
  · simp only [Act.put, List.setIfInBounds_toArray, List.set_cons_zero, List.set_cons_succ, i64_w, i32_w]
    rfl
  refine one_ (i := 6) (N := none) #[true, true, true, true, true, true, true, false] rfl rfl (by kernel_rfl) (by decide) (fun K hK => ?_)
  refine skip_ (w1 := ?_) (by rfl) rfl ?_ ?_
  rotate_left
  · go_simp
    rfl
  refine hK.out _ _ ⟨cellF (cellF (HB84.cell 0 _ rfl) _ (by show q ≠ z + 1 + 1; have := HZ8.out; omega)) _ (by show q ≠ z + 1 + 1; have := HZ8.out; omega), cellF (cellF (HB84.cell 1 _ rfl) _ (by show q ≠ z + 1 + 1; have := HZ8.out; omega)) _ (by show q ≠ z + 1 + 1; have := HZ8.out; omega)⟩ (fun hHeld => ?_)
  clear hK K
  refine pure_ (i := 7) (N := some 7) (v := ?_) (a' := ?_) #[true, true, true, true, true, true, true, true] rfl rfl (by kernel_rfl) (fun _ _ _ h => h) (Or.inl ⟨by rfl, ?_⟩) ?_ ?_
  rotate_left
  · intro w'
    go_simp
    with_reducible rfl
  rotate_left
  · simp only [Act.put, List.setIfInBounds_toArray, List.set_cons_zero, List.set_cons_succ, i64_w, i32_w]
    rfl
  refine done_ (by kernel_rfl) ?_
  have HB6e := Aside0.mk ((HB64.out.put 0 (.slice A1 ln c1)).put 1 (.int .u64 last))
  clear q0 q1 h10 h11 h10' f10 f11 f11' hg4 hu4
  go_wp2
  refine bodyPost_ret (results_row2 rfl _ _ _ TR _ (0, 0) _ rfl HB6e.out.out Try.underlying28 rfl (szTR _ rfl)) rfl ⟨v', ts', last, A1, c1, by rw [HLn.out]; rfl, ?_, ?_, fun i hi => Or.inl (HSt.out.2 i hi), Int.le_refl _, by omega, HStp.out⟩
  · exact HSt.out.1.putBox (z := z + 1 + 1) (fun hu => by have := HFar.out _ (HSt.out.2 _ hu); omega) HB64.out _ _
  · exact (HO4.out.setCell (p := ⟨z + 1 + 1, 0, none⟩) (Or.inr (by show w.heap.size ≤ z + 1 + 1; omega)) _).setCell (p := ⟨z + 1 + 1, 1, none⟩) (Or.inr (by show w.heap.size ≤ z + 1 + 1; omega)) _

set_option maxRecDepth 100000 in
set_option maxHeartbeats 4000000 in
theorem doesGiveLowN {Fr : Nat → Prop} (g : Nat) (v : Value) (ts : List Tk) (last : Int) (A : Option Addr) (c : Nat) (kd N : Int) (B : Option Addr) (k d : Nat) (hs : List Hd) (w : World) (h : St Fr w g v ts last A c) (hC : kH.C w B k hs) (hFr : ∀ i, w.heap.size ≤ i → Fr i) (hkd : kd ≠ 0) (hN : N < 0) (hfd : findT ts (IntKind.u64.wrap N) = none) (hix : idxT ts (IntKind.u64.wrap N) = -1) :
    Calls Try.prog 7 #[ptrV g, .agg #[.slice A ts.length c, .int .u64 last], .agg #[.int .i64 kd, .slice B k d, .int .i64 N]] w (DoesP Fr g v ts last w) := by
  have hu := Try.underlying28
  have huA := Try.underlying34
  have hz := zeroTR
  have HSm := Aside0.mk h.ga.small
  have HL0 := Aside0.mk h.last0
  have HFr := Aside0.mk hFr
  clear hFr
  have hk0 : (kd == 0) = false := by simp [hkd]
  have HD0 := Aside0.mk (Dz.start (kd := kd) (N := N) (d := d) h hC)
  have HFd := Aside0.mk hfd
  have HIx := Aside0.mk hix
  clear hfd hix
  have n0 : ¬ (0 : Int) ≤ N := by omega
  clear hN
  clear h hC
  unfold DoesP
  go_enter Try.func7, Try.ntmps7
  go_upto_region 1 with (fail)
  generalize ((w.alloc (.cells #[.slice A ts.length c, .int .u64 last] TR)).alloc (.cells #[.int .i64 kd, .slice B k d, .int .i64 N] TA)).alloc (.cells #[.slice none 0 0, .int .u64 0] TR) = W at *
  generalize hzz : w.heap.size = z at *
  have a0 := HD0.out.b1.cell 0 _ rfl
  have g0 := HD0.out.b0.cell 0 _ rfl
  have g1 := HD0.out.b0.cell 1 _ rfl
  go_upto_region 5 with (fail)
  go_wp2_with fail
  have HRt := refTickets A ts.length c (ts.map toRT) last W HD0.out.st.C HSm.out
  rw [rt_tickets] at HRt
  refine HRt.mono ?_
  rintro e w1 ⟨v5, rfl, hr5, hb1⟩
  have HD1 := Aside0.mk (HD0.out.below hb1)
  obtain ⟨A5, c5, rfl⟩ := Kd.R_slice hr5
  rw [tickets_len] at hr5 ⊢
  clear a0 g0 g1 hb1 HD0 HRt
  have a2 := HD1.out.b1.cell 2 _ rfl
  clear hr5
  go_upto_region 9 with (fail)
  generalize hnv : IntKind.u64.wrap N = nv at *
  clear hnv
  have g0 := HD1.out.b0.cell 0 _ rfl
  have g1 := HD1.out.b0.cell 1 _ rfl
  have HG := Aside0.mk (refGiveNone A ts.length c (ts.map toRT) last nv w1 HD1.out.st.C HSm.out (by rw [rt_find]; exact HIx.out))
  go_wp2_with fail
  refine HG.out.mono ?_
  rintro e w2 ⟨rfl, hb2⟩
  have HD2 := Aside0.mk (HD1.out.below hb2)
  clear hb2 HG g0 g1 a2
  go_upto_region 10 with (fail)
  have hb3 : Below w2.heap.size w2 (w2.alloc (.cells #[.slice A ts.length c, .int .u64 last] TR)) := (Below.refl _ _).alloc (Nat.le_refl _) _
  have HD3 := Aside0.mk (HD2.out.below hb3)
  have HB8 := Aside0.mk (Blk.newA w2 #[.slice A ts.length c, .int .u64 last] TR)
  have HZ8 : Aside0 (z + 3 ≤ w2.heap.size) := ⟨by have := HD2.out.b2.lt; omega⟩
  clear hb3 HD2 HD1
  generalize w2.alloc (.cells #[.slice A ts.length c, .int .u64 last] TR) = w3 at *
  generalize w2.heap.size = q at *
  have HGv : Aside0 (Calls Try.prog 12 #[ptrV g, .int .u64 nv] w3.drew fun e w' => e = .returned (.int .i64 130) ∧ Ga w' g 0 v ts last ∧ Only (use g v ts) w3 w') := ⟨(giveNone g v ts last nv w3.drew (HD3.out.st.ga.below ((Below.refl _ w3).drew)) HFd.out).mono fun e w' ⟨he, hg, ho⟩ => ⟨he, hg, (Only.drew (Only.refl _ w3)).trans ho⟩⟩
  have HFar := Aside0.mk HD3.out.far
  have HB6 := Aside0.mk HD3.out.b2
  have HO3 := Aside0.mk HD3.out.only
  have HNew : Aside0 (∀ w4, Ga w4 g 0 v ts last → Only (use g v ts) w3 w4 → St Fr w4 g v ts last A c) := ⟨fun w4 hg ho => HD3.out.st.prog hg ho⟩
  clear HD3
  generalize hln : ts.length = ln at *
  have HLn := Aside0.mk hln
  clear hln
  have q0 := HB8.out.cell 0 _ rfl
  have q1 := HB8.out.cell 1 _ rfl
  refine start_ (n := 8) (S := fun w' => w'.cell? ⟨q, 0, none⟩ = some (.slice A ln c) ∧ w'.cell? ⟨q, 1, none⟩ = some (.int .u64 last)) (ds := []) #[false, false, false, false, false, false, false, false] (by kernel_rfl) rfl rfl ⟨q0, q1⟩ (fun hHeld => ?_)
  refine pure_ (i := 1) (N := some 72) (v := ?_) (a' := ?_) #[false, true, false, false, false, false, false, false] rfl rfl (by kernel_rfl) (fun _ _ _ h => h) (Or.inl ⟨by rfl, ?_⟩) ?_ ?_
  rotate_left
  · intro w'
    go_simp
    with_reducible rfl
  rotate_left
  · simp only [Act.put, List.setIfInBounds_toArray, List.set_cons_zero, List.set_cons_succ, i64_w, i32_w]
    rfl
  refine pure_ (i := 2) (N := some 73) (v := ?_) (a' := ?_) #[false, true, true, false, false, false, false, false] rfl rfl (by kernel_rfl) (fun _ _ _ h => h) (Or.inl ⟨by rfl, ?_⟩) ?_ ?_
  rotate_left
  · intro w'
    go_simp
    with_reducible rfl
  rotate_left
  · simp only [Act.put, List.setIfInBounds_toArray, List.set_cons_zero, List.set_cons_succ, i64_w, i32_w]
    rfl
  refine pure_ (i := 4) (N := some 75) (v := ?_) (a' := ?_) #[false, true, true, false, true, false, false, false] rfl rfl (by kernel_rfl) (fun _ _ _ h => h) (Or.inl ⟨by rfl, ?_⟩) ?_ ?_
  rotate_left
  · intro w'
    go_simp
    with_reducible rfl
  rotate_left
  · simp only [Act.put, List.setIfInBounds_toArray, List.set_cons_zero, List.set_cons_succ, i64_w, i32_w]
    rfl
  refine take_ (i := 0) (N := some 71) (v := ?_) (a' := ?_) #[true, true, true, false, true, false, false, false] rfl rfl (by kernel_rfl) (fun _ _ _ h => h) (Or.inl ⟨by rfl, ?_⟩) hHeld ?_ ?_
  rotate_left
  · rintro w' ⟨s0, s1⟩
    go_simp
    with_reducible rfl
  rotate_left
  · simp only [Act.put, List.setIfInBounds_toArray, List.set_cons_zero, List.set_cons_succ, i64_w, i32_w]
    rfl
  refine one_ (i := 3) (N := some 74) #[true, true, true, true, true, false, false, false] rfl rfl (by kernel_rfl) (by decide) (fun K hK => ?_)
  refine goes_ Try.func12 (by kernel_rfl) rfl #[ptrV g, .int .u64 nv] (by rfl) rfl rfl (by simp only [List.map_toArray, List.map_cons, List.map_nil]; rfl) ?_
  with_reducible refine (HGv.out).mono ?_
  rintro e w4 ⟨rfl, hg4, ho4⟩
  have HSt := Aside0.mk (HNew.out w4 hg4 ho4)
  have HB84 := blkFar ho4 HB8.out HFar.out (by have := HZ8.out; omega)
  have HB64 := Aside0.mk (blkFar ho4 HB6.out HFar.out (by omega))
  have HO4 := Aside0.mk (HO3.out.trans ho4)
  have h10 := HB64.out.cell 0 _ rfl
  have h11 := HB64.out.cell 1 _ rfl
  have h10' := (HB64.out.put 0 (.slice A ln c)).cell 1 _ rfl
  have f10 := HB64.out.free 0
  have f11 := HB64.out.free 1
  have f11' := (HB64.out.put 0 (.slice A ln c)).free 1
  refine ⟨_, rfl, ?_⟩
  refine hK.out _ _ ⟨HB84.cell 0 _ rfl, HB84.cell 1 _ rfl⟩ (fun hHeld => ?_)
  clear hK K
  refine norm_ (a' := ?_) ?_ ?_
  rotate_left
  · show Act.put _ (some 74) _ = _
    simp only [Act.put, List.setIfInBounds_toArray, List.set_cons_zero, List.set_cons_succ, i64_w, i32_w]
    rfl
  refine pure_ (i := 5) (N := some 76) (v := ?_) (a' := ?_) #[true, true, true, true, true, true, false, false] rfl rfl (by kernel_rfl) (fun _ _ _ h => h) (Or.inl ⟨by rfl, ?_⟩) ?_ ?_
  rotate_left
  · intro w'
    go_simp
    with_reducible rfl
  rotate_left
  · simp only [Act.put, List.setIfInBounds_toArray, List.set_cons_zero, List.set_cons_succ, i64_w, i32_w]
    rfl
  refine one_ (i := 6) (N := none) #[true, true, true, true, true, true, true, false] rfl rfl (by kernel_rfl) (by decide) (fun K hK => ?_)
  refine skip_ (w1 := ?_) (by rfl) rfl ?_ ?_
  rotate_left
  · go_simp
    rfl
  refine hK.out _ _ ⟨cellF (cellF (HB84.cell 0 _ rfl) _ (by show q ≠ z + 1 + 1; have := HZ8.out; omega)) _ (by show q ≠ z + 1 + 1; have := HZ8.out; omega), cellF (cellF (HB84.cell 1 _ rfl) _ (by show q ≠ z + 1 + 1; have := HZ8.out; omega)) _ (by show q ≠ z + 1 + 1; have := HZ8.out; omega)⟩ (fun hHeld => ?_)
  clear hK K
  refine pure_ (i := 7) (N := some 7) (v := ?_) (a' := ?_) #[true, true, true, true, true, true, true, true] rfl rfl (by kernel_rfl) (fun _ _ _ h => h) (Or.inl ⟨by rfl, ?_⟩) ?_ ?_
  rotate_left
  · intro w'
    go_simp
    with_reducible rfl
  rotate_left
  · simp only [Act.put, List.setIfInBounds_toArray, List.set_cons_zero, List.set_cons_succ, i64_w, i32_w]
    rfl
  refine done_ (by kernel_rfl) ?_
  have HB6e := Aside0.mk ((HB64.out.put 0 (.slice A ln c)).put 1 (.int .u64 last))
  clear q0 q1 h10 h11 h10' f10 f11 f11' hg4
  go_wp2
  refine bodyPost_ret (results_row2 rfl _ _ _ TR _ (0, 0) _ rfl HB6e.out.out Try.underlying28 rfl (szTR _ rfl)) rfl ⟨v, ts, last, A, c, by rw [HLn.out]; rfl, ?_, ?_, fun i hi => Or.inl hi, Int.le_refl _, by omega, Stp.refl _⟩
  · exact HSt.out.putBox (z := z + 1 + 1) (fun hu => by have := HFar.out _ hu; omega) HB64.out _ _
  · exact (HO4.out.setCell (p := ⟨z + 1 + 1, 0, none⟩) (Or.inr (by show w.heap.size ≤ z + 1 + 1; omega)) _).setCell (p := ⟨z + 1 + 1, 1, none⟩) (Or.inr (by show w.heap.size ≤ z + 1 + 1; omega)) _

set_option maxRecDepth 100000 in
set_option maxHeartbeats 4000000 in
theorem doesGiveHighF {Fr : Nat → Prop} (g : Nat) (v : Value) (ts : List Tk) (last : Int) (A : Option Addr) (c : Nat) (kd N : Int) (B : Option Addr) (k d : Nat) (hs : List Hd) (w : World) (h : St Fr w g v ts last A c) (hC : kH.C w B k hs) (hFr : ∀ i, w.heap.size ≤ i → Fr i) (hkd : kd ≠ 0) (hN : 0 ≤ N) (hN2 : (ts.length : Int) ≤ N) (m : Nat) (kk : Tk) (hfd : findT ts (IntKind.u64.wrap N) = some kk) (hix : idxT ts (IntKind.u64.wrap N) = (m : Int)) (hmm : ts[m]? = some kk) (hml : m < ts.length) :
    Calls Try.prog 7 #[ptrV g, .agg #[.slice A ts.length c, .int .u64 last], .agg #[.int .i64 kd, .slice B k d, .int .i64 N]] w (DoesP Fr g v ts last w) := by
  have hu := Try.underlying28
  have huA := Try.underlying34
  have hz := zeroTR
  have HSm := Aside0.mk h.ga.small
  have HL0 := Aside0.mk h.last0
  have HFr := Aside0.mk hFr
  clear hFr
  have hk0 : (kd == 0) = false := by simp [hkd]
  have HD0 := Aside0.mk (Dz.start (kd := kd) (N := N) (d := d) h hC)
  have HFd := Aside0.mk hfd
  have HIx := Aside0.mk hix
  have HMm := Aside0.mk hmm
  have HMl := Aside0.mk hml
  clear hfd hix hmm hml
  have n1 : ¬ N < (ts.length : Int) := by omega
  clear hN2
  clear h hC
  unfold DoesP
  go_enter Try.func7, Try.ntmps7
  go_upto_region 1 with (fail)
  generalize ((w.alloc (.cells #[.slice A ts.length c, .int .u64 last] TR)).alloc (.cells #[.int .i64 kd, .slice B k d, .int .i64 N] TA)).alloc (.cells #[.slice none 0 0, .int .u64 0] TR) = W at *
  generalize hzz : w.heap.size = z at *
  have a0 := HD0.out.b1.cell 0 _ rfl
  have g0 := HD0.out.b0.cell 0 _ rfl
  have g1 := HD0.out.b0.cell 1 _ rfl
  go_upto_region 5 with (fail)
  go_wp2_with fail
  have HRt := refTickets A ts.length c (ts.map toRT) last W HD0.out.st.C HSm.out
  rw [rt_tickets] at HRt
  refine HRt.mono ?_
  rintro e w1 ⟨v5, rfl, hr5, hb1⟩
  have HD1 := Aside0.mk (HD0.out.below hb1)
  obtain ⟨A5, c5, rfl⟩ := Kd.R_slice hr5
  rw [tickets_len] at hr5 ⊢
  clear a0 g0 g1 hb1 HD0 HRt
  have a2 := HD1.out.b1.cell 2 _ rfl
  clear hr5
  go_upto_region 9 with (fail)
  generalize hnv : IntKind.u64.wrap N = nv at *
  clear hnv
  have g0 := HD1.out.b0.cell 0 _ rfl
  have g1 := HD1.out.b0.cell 1 _ rfl
  have HG := Aside0.mk (refGiveOk (fun i => ¬ use g v ts i ∧ Fr i) A ts.length c m (ts.map toRT) last nv w1 HD1.out.st.row HSm.out (by rw [rt_find]; exact HIx.out) HMl.out)
  go_wp2_with fail
  refine HG.out.mono ?_
  rintro e w2 ⟨v1, rfl, hr1, hb2⟩
  have HD2 := Aside0.mk (HD1.out.below hb2)
  have hr1' : kT.R TK w2 0 (fun i => ¬ use g v ts i ∧ Fr i) v1 ((ts.map toRT).eraseIdx m) := Kd.R_mono hr1 (fun i hi => by
    rcases hi with hi | hi
    · exact hi.1
    · refine ⟨fun hu => ?_, HFr.out i (by have := HD1.out.b0.lt; omega)⟩
      have := HD1.out.far i hu
      have := HD1.out.b0.lt
      omega)
  obtain ⟨A1, c1, rfl⟩ := Kd.R_slice hr1'
  rw [len_erase] at hr1' ⊢
  have HR2 := Aside0.mk hr1'
  clear hr1 hr1' hb2 HG g0 g1 a2
  go_upto_region 10 with (fail)
  have hb3 : Below w2.heap.size w2 (w2.alloc (.cells #[.slice A1 (regrant (ts.eraseIdx m)).length c1, .int .u64 last] TR)) := (Below.refl _ _).alloc (Nat.le_refl _) _
  have HD3 := Aside0.mk (HD2.out.below hb3)
  have HR3 := Aside0.mk (Kd.R_below HR2.out hb3)
  have HB8 := Aside0.mk (Blk.newA w2 #[.slice A1 (regrant (ts.eraseIdx m)).length c1, .int .u64 last] TR)
  have HZ8 : Aside0 (z + 3 ≤ w2.heap.size) := ⟨by have := HD2.out.b2.lt; omega⟩
  clear hb3 HD2 HR2 HD1
  generalize w2.alloc (.cells #[.slice A1 (regrant (ts.eraseIdx m)).length c1, .int .u64 last] TR) = w3 at *
  generalize w2.heap.size = q at *
  have HGv : Aside0 (Calls Try.prog 12 #[ptrV g, .int .u64 nv] w3.drew fun e w' => ∃ v', e = .returned (.int .i64 0) ∧ Ga w' g 0 v' (regrant (ts.eraseIdx m)) last ∧ Only (use g v ts) w3 w' ∧ ∀ i, use g v' (ts.eraseIdx m) i → use g v ts i) := ⟨(giveOk g v ts last nv m kk w3.drew (HD3.out.st.ga.below ((Below.refl _ w3).drew)) HFd.out HMm.out).mono fun e w' ⟨v', he, hg, ho, hu⟩ => ⟨v', he, hg, (Only.drew (Only.refl _ w3)).trans ho, hu⟩⟩
  have HStp : Aside0 (Stp ts (regrant (ts.eraseIdx m))) := ⟨Stp.give ts m⟩
  have HNew : Aside0 (∀ v' w4, Ga w4 g 0 v' (regrant (ts.eraseIdx m)) last → Only (use g v ts) w3 w4 → (∀ i, use g v' (ts.eraseIdx m) i → use g v ts i) → St Fr w4 g v' (regrant (ts.eraseIdx m)) last A1 c1 ∧ ∀ i, use g v' (regrant (ts.eraseIdx m)) i → use g v ts i) := ⟨fun v' w4 hg ho hu => by
    have hus : ∀ i, use g v' (regrant (ts.eraseIdx m)) i → use g v ts i := fun i hi => hu i (use_regrant _ _ _ _ hi)
    refine ⟨⟨hg, ?_, grInv_give HD3.out.st.gr, fun x hx => ?_, HL0.out⟩, hus⟩
    · rw [rt_regrant, rt_erase]
      exact R_afterF HR3.out ho (fun i hi => Or.inl (hus i hi))
    · obtain ⟨y, hy, rfl⟩ := List.mem_map.1 hx
      exact HD3.out.st.pos y (List.mem_of_mem_eraseIdx hy)⟩
  generalize hts' : regrant (ts.eraseIdx m) = ts' at *
  clear hts'
  generalize hln : ts'.length = ln at *
  have HLn := Aside0.mk hln
  clear hln
  have HFar := Aside0.mk HD3.out.far
  have HB6 := Aside0.mk HD3.out.b2
  have HO3 := Aside0.mk HD3.out.only
  clear HD3 HR3
  have q0 := HB8.out.cell 0 _ rfl
  have q1 := HB8.out.cell 1 _ rfl
  refine start_ (n := 8) (S := fun w' => w'.cell? ⟨q, 0, none⟩ = some (.slice A1 ln c1) ∧ w'.cell? ⟨q, 1, none⟩ = some (.int .u64 last)) (ds := []) #[false, false, false, false, false, false, false, false] (by kernel_rfl) rfl rfl ⟨q0, q1⟩ (fun hHeld => ?_)
  refine pure_ (i := 1) (N := some 72) (v := ?_) (a' := ?_) #[false, true, false, false, false, false, false, false] rfl rfl (by kernel_rfl) (fun _ _ _ h => h) (Or.inl ⟨by rfl, ?_⟩) ?_ ?_
  rotate_left
  · intro w'
    go_simp
    with_reducible rfl
  rotate_left
  · simp only [Act.put, List.setIfInBounds_toArray, List.set_cons_zero, List.set_cons_succ, i64_w, i32_w]
    rfl
  refine pure_ (i := 2) (N := some 73) (v := ?_) (a' := ?_) #[false, true, true, false, false, false, false, false] rfl rfl (by kernel_rfl) (fun _ _ _ h => h) (Or.inl ⟨by rfl, ?_⟩) ?_ ?_
  rotate_left
  · intro w'
    go_simp
    with_reducible rfl
  rotate_left
  · simp only [Act.put, List.setIfInBounds_toArray, List.set_cons_zero, List.set_cons_succ, i64_w, i32_w]
    rfl
  refine pure_ (i := 4) (N := some 75) (v := ?_) (a' := ?_) #[false, true, true, false, true, false, false, false] rfl rfl (by kernel_rfl) (fun _ _ _ h => h) (Or.inl ⟨by rfl, ?_⟩) ?_ ?_
  rotate_left
  · intro w'
    go_simp
    with_reducible rfl
  rotate_left
  · simp only [Act.put, List.setIfInBounds_toArray, List.set_cons_zero, List.set_cons_succ, i64_w, i32_w]
    rfl
  refine take_ (i := 0) (N := some 71) (v := ?_) (a' := ?_) #[true, true, true, false, true, false, false, false] rfl rfl (by kernel_rfl) (fun _ _ _ h => h) (Or.inl ⟨by rfl, ?_⟩) hHeld ?_ ?_
  rotate_left
  · rintro w' ⟨s0, s1⟩
    go_simp
    with_reducible rfl
  rotate_left
  · simp only [Act.put, List.setIfInBounds_toArray, List.set_cons_zero, List.set_cons_succ, i64_w, i32_w]
    rfl
  refine one_ (i := 3) (N := some 74) #[true, true, true, true, true, false, false, false] rfl rfl (by kernel_rfl) (by decide) (fun K hK => ?_)
  refine goes_ Try.func12 (by kernel_rfl) rfl #[ptrV g, .int .u64 nv] (by rfl) rfl rfl (by simp only [List.map_toArray, List.map_cons, List.map_nil]; rfl) ?_
  with_reducible refine (HGv.out).mono ?_
  rintro e w4 ⟨v', rfl, hg4, ho4, hu4⟩
  have HSt := Aside0.mk (HNew.out v' w4 hg4 ho4 hu4)
  have HB84 := blkFar ho4 HB8.out HFar.out (by have := HZ8.out; omega)
  have HB64 := Aside0.mk (blkFar ho4 HB6.out HFar.out (by omega))
  have HO4 := Aside0.mk (HO3.out.trans ho4)
  have h10 := HB64.out.cell 0 _ rfl
  have h11 := HB64.out.cell 1 _ rfl
  have h10' := (HB64.out.put 0 (.slice A1 ln c1)).cell 1 _ rfl
  have f10 := HB64.out.free 0
  have f11 := HB64.out.free 1
  have f11' := (HB64.out.put 0 (.slice A1 ln c1)).free 1
  refine ⟨_, rfl, ?_⟩
  refine hK.out _ _ ⟨HB84.cell 0 _ rfl, HB84.cell 1 _ rfl⟩ (fun hHeld => ?_)
  clear hK K
  refine norm_ (a' := ?_) ?_ ?_
  rotate_left
  · show Act.put _ (some 74) _ = _
    simp only [Act.put, List.setIfInBounds_toArray, List.set_cons_zero, List.set_cons_succ, i64_w, i32_w]
    rfl
  refine pure_ (i := 5) (N := some 76) (v := ?_) (a' := ?_) #[true, true, true, true, true, true, false, false] rfl rfl (by kernel_rfl) (fun _ _ _ h => h) (Or.inl ⟨by rfl, ?_⟩) ?_ ?_
  rotate_left
  · intro w'
    go_simp
    with_reducible rfl
  rotate_left
  · simp only [Act.put, List.setIfInBounds_toArray, List.set_cons_zero, List.set_cons_succ, i64_w, i32_w]
    rfl
  refine one_ (i := 6) (N := none) #[true, true, true, true, true, true, true, false] rfl rfl (by kernel_rfl) (by decide) (fun K hK => ?_)
  refine skip_ (w1 := ?_) (by rfl) rfl ?_ ?_
  rotate_left
  · go_simp
    rfl
  refine hK.out _ _ ⟨cellF (cellF (HB84.cell 0 _ rfl) _ (by show q ≠ z + 1 + 1; have := HZ8.out; omega)) _ (by show q ≠ z + 1 + 1; have := HZ8.out; omega), cellF (cellF (HB84.cell 1 _ rfl) _ (by show q ≠ z + 1 + 1; have := HZ8.out; omega)) _ (by show q ≠ z + 1 + 1; have := HZ8.out; omega)⟩ (fun hHeld => ?_)
  clear hK K
  refine pure_ (i := 7) (N := some 7) (v := ?_) (a' := ?_) #[true, true, true, true, true, true, true, true] rfl rfl (by kernel_rfl) (fun _ _ _ h => h) (Or.inl ⟨by rfl, ?_⟩) ?_ ?_
  rotate_left
  · intro w'
    go_simp
    with_reducible rfl
  rotate_left
  · simp only [Act.put, List.setIfInBounds_toArray, List.set_cons_zero, List.set_cons_succ, i64_w, i32_w]
    rfl
  refine done_ (by kernel_rfl) ?_
  have HB6e := Aside0.mk ((HB64.out.put 0 (.slice A1 ln c1)).put 1 (.int .u64 last))
  clear q0 q1 h10 h11 h10' f10 f11 f11' hg4 hu4
  go_wp2
  refine bodyPost_ret (results_row2 rfl _ _ _ TR _ (0, 0) _ rfl HB6e.out.out Try.underlying28 rfl (szTR _ rfl)) rfl ⟨v', ts', last, A1, c1, by rw [HLn.out]; rfl, ?_, ?_, fun i hi => Or.inl (HSt.out.2 i hi), Int.le_refl _, by omega, HStp.out⟩
  · exact HSt.out.1.putBox (z := z + 1 + 1) (fun hu => by have := HFar.out _ (HSt.out.2 _ hu); omega) HB64.out _ _
  · exact (HO4.out.setCell (p := ⟨z + 1 + 1, 0, none⟩) (Or.inr (by show w.heap.size ≤ z + 1 + 1; omega)) _).setCell (p := ⟨z + 1 + 1, 1, none⟩) (Or.inr (by show w.heap.size ≤ z + 1 + 1; omega)) _

set_option maxRecDepth 100000 in
set_option maxHeartbeats 4000000 in
theorem doesGiveHighN {Fr : Nat → Prop} (g : Nat) (v : Value) (ts : List Tk) (last : Int) (A : Option Addr) (c : Nat) (kd N : Int) (B : Option Addr) (k d : Nat) (hs : List Hd) (w : World) (h : St Fr w g v ts last A c) (hC : kH.C w B k hs) (hFr : ∀ i, w.heap.size ≤ i → Fr i) (hkd : kd ≠ 0) (hN : 0 ≤ N) (hN2 : (ts.length : Int) ≤ N) (hfd : findT ts (IntKind.u64.wrap N) = none) (hix : idxT ts (IntKind.u64.wrap N) = -1) :
    Calls Try.prog 7 #[ptrV g, .agg #[.slice A ts.length c, .int .u64 last], .agg #[.int .i64 kd, .slice B k d, .int .i64 N]] w (DoesP Fr g v ts last w) := by
  have hu := Try.underlying28
  have huA := Try.underlying34
  have hz := zeroTR
  have HSm := Aside0.mk h.ga.small
  have HL0 := Aside0.mk h.last0
  have HFr := Aside0.mk hFr
  clear hFr
  have hk0 : (kd == 0) = false := by simp [hkd]
  have HD0 := Aside0.mk (Dz.start (kd := kd) (N := N) (d := d) h hC)
  have HFd := Aside0.mk hfd
  have HIx := Aside0.mk hix
  clear hfd hix
  have n1 : ¬ N < (ts.length : Int) := by omega
  clear hN2
  clear h hC
  unfold DoesP
  go_enter Try.func7, Try.ntmps7
  go_upto_region 1 with (fail)
  generalize ((w.alloc (.cells #[.slice A ts.length c, .int .u64 last] TR)).alloc (.cells #[.int .i64 kd, .slice B k d, .int .i64 N] TA)).alloc (.cells #[.slice none 0 0, .int .u64 0] TR) = W at *
  generalize hzz : w.heap.size = z at *
  have a0 := HD0.out.b1.cell 0 _ rfl
  have g0 := HD0.out.b0.cell 0 _ rfl
  have g1 := HD0.out.b0.cell 1 _ rfl
  go_upto_region 5 with (fail)
  go_wp2_with fail
  have HRt := refTickets A ts.length c (ts.map toRT) last W HD0.out.st.C HSm.out
  rw [rt_tickets] at HRt
  refine HRt.mono ?_
  rintro e w1 ⟨v5, rfl, hr5, hb1⟩
  have HD1 := Aside0.mk (HD0.out.below hb1)
  obtain ⟨A5, c5, rfl⟩ := Kd.R_slice hr5
  rw [tickets_len] at hr5 ⊢
  clear a0 g0 g1 hb1 HD0 HRt
  have a2 := HD1.out.b1.cell 2 _ rfl
  clear hr5
  go_upto_region 9 with (fail)
  generalize hnv : IntKind.u64.wrap N = nv at *
  clear hnv
  have g0 := HD1.out.b0.cell 0 _ rfl
  have g1 := HD1.out.b0.cell 1 _ rfl
  have HG := Aside0.mk (refGiveNone A ts.length c (ts.map toRT) last nv w1 HD1.out.st.C HSm.out (by rw [rt_find]; exact HIx.out))
  go_wp2_with fail
  refine HG.out.mono ?_
  rintro e w2 ⟨rfl, hb2⟩
  have HD2 := Aside0.mk (HD1.out.below hb2)
  clear hb2 HG g0 g1 a2
  go_upto_region 10 with (fail)
  have hb3 : Below w2.heap.size w2 (w2.alloc (.cells #[.slice A ts.length c, .int .u64 last] TR)) := (Below.refl _ _).alloc (Nat.le_refl _) _
  have HD3 := Aside0.mk (HD2.out.below hb3)
  have HB8 := Aside0.mk (Blk.newA w2 #[.slice A ts.length c, .int .u64 last] TR)
  have HZ8 : Aside0 (z + 3 ≤ w2.heap.size) := ⟨by have := HD2.out.b2.lt; omega⟩
  clear hb3 HD2 HD1
  generalize w2.alloc (.cells #[.slice A ts.length c, .int .u64 last] TR) = w3 at *
  generalize w2.heap.size = q at *
  have HGv : Aside0 (Calls Try.prog 12 #[ptrV g, .int .u64 nv] w3.drew fun e w' => e = .returned (.int .i64 130) ∧ Ga w' g 0 v ts last ∧ Only (use g v ts) w3 w') := ⟨(giveNone g v ts last nv w3.drew (HD3.out.st.ga.below ((Below.refl _ w3).drew)) HFd.out).mono fun e w' ⟨he, hg, ho⟩ => ⟨he, hg, (Only.drew (Only.refl _ w3)).trans ho⟩⟩
  have HFar := Aside0.mk HD3.out.far
  have HB6 := Aside0.mk HD3.out.b2
  have HO3 := Aside0.mk HD3.out.only
  have HNew : Aside0 (∀ w4, Ga w4 g 0 v ts last → Only (use g v ts) w3 w4 → St Fr w4 g v ts last A c) := ⟨fun w4 hg ho => HD3.out.st.prog hg ho⟩
  clear HD3
  generalize hln : ts.length = ln at *
  have HLn := Aside0.mk hln
  clear hln
  have q0 := HB8.out.cell 0 _ rfl
  have q1 := HB8.out.cell 1 _ rfl
  refine start_ (n := 8) (S := fun w' => w'.cell? ⟨q, 0, none⟩ = some (.slice A ln c) ∧ w'.cell? ⟨q, 1, none⟩ = some (.int .u64 last)) (ds := []) #[false, false, false, false, false, false, false, false] (by kernel_rfl) rfl rfl ⟨q0, q1⟩ (fun hHeld => ?_)
  refine pure_ (i := 1) (N := some 72) (v := ?_) (a' := ?_) #[false, true, false, false, false, false, false, false] rfl rfl (by kernel_rfl) (fun _ _ _ h => h) (Or.inl ⟨by rfl, ?_⟩) ?_ ?_
  rotate_left
  · intro w'
    go_simp
    with_reducible rfl
  rotate_left
  · simp only [Act.put, List.setIfInBounds_toArray, List.set_cons_zero, List.set_cons_succ, i64_w, i32_w]
    rfl
  refine pure_ (i := 2) (N := some 73) (v := ?_) (a' := ?_) #[false, true, true, false, false, false, false, false] rfl rfl (by kernel_rfl) (fun _ _ _ h => h) (Or.inl ⟨by rfl, ?_⟩) ?_ ?_
  rotate_left
  · intro w'
    go_simp
    with_reducible rfl
  rotate_left
  · simp only [Act.put, List.setIfInBounds_toArray, List.set_cons_zero, List.set_cons_succ, i64_w, i32_w]
    rfl
  refine pure_ (i := 4) (N := some 75) (v := ?_) (a' := ?_) #[false, true, true, false, true, false, false, false] rfl rfl (by kernel_rfl) (fun _ _ _ h => h) (Or.inl ⟨by rfl, ?_⟩) ?_ ?_
  rotate_left
  · intro w'
    go_simp
    with_reducible rfl
  rotate_left
  · simp only [Act.put, List.setIfInBounds_toArray, List.set_cons_zero, List.set_cons_succ, i64_w, i32_w]
    rfl
  refine take_ (i := 0) (N := some 71) (v := ?_) (a' := ?_) #[true, true, true, false, true, false, false, false] rfl rfl (by kernel_rfl) (fun _ _ _ h => h) (Or.inl ⟨by rfl, ?_⟩) hHeld ?_ ?_
  rotate_left
  · rintro w' ⟨s0, s1⟩
    go_simp
    with_reducible rfl
  rotate_left
  · simp only [Act.put, List.setIfInBounds_toArray, List.set_cons_zero, List.set_cons_succ, i64_w, i32_w]
    rfl
  refine one_ (i := 3) (N := some 74) #[true, true, true, true, true, false, false, false] rfl rfl (by kernel_rfl) (by decide) (fun K hK => ?_)
  refine goes_ Try.func12 (by kernel_rfl) rfl #[ptrV g, .int .u64 nv] (by rfl) rfl rfl (by simp only [List.map_toArray, List.map_cons, List.map_nil]; rfl) ?_
  with_reducible refine (HGv.out).mono ?_
  rintro e w4 ⟨rfl, hg4, ho4⟩
  have HSt := Aside0.mk (HNew.out w4 hg4 ho4)
  have HB84 := blkFar ho4 HB8.out HFar.out (by have := HZ8.out; omega)
  have HB64 := Aside0.mk (blkFar ho4 HB6.out HFar.out (by omega))
  have HO4 := Aside0.mk (HO3.out.trans ho4)
  have h10 := HB64.out.cell 0 _ rfl
  have h11 := HB64.out.cell 1 _ rfl
  have h10' := (HB64.out.put 0 (.slice A ln c)).cell 1 _ rfl
  have f10 := HB64.out.free 0
  have f11 := HB64.out.free 1
  have f11' := (HB64.out.put 0 (.slice A ln c)).free 1
  refine ⟨_, rfl, ?_⟩
  refine hK.out _ _ ⟨HB84.cell 0 _ rfl, HB84.cell 1 _ rfl⟩ (fun hHeld => ?_)
  clear hK K
  refine norm_ (a' := ?_) ?_ ?_
  rotate_left
  · show Act.put _ (some 74) _ = _
    simp only [Act.put, List.setIfInBounds_toArray, List.set_cons_zero, List.set_cons_succ, i64_w, i32_w]
    rfl
  refine pure_ (i := 5) (N := some 76) (v := ?_) (a' := ?_) #[true, true, true, true, true, true, false, false] rfl rfl (by kernel_rfl) (fun _ _ _ h => h) (Or.inl ⟨by rfl, ?_⟩) ?_ ?_
  rotate_left
  · intro w'
    go_simp
    with_reducible rfl
  rotate_left
  · simp only [Act.put, List.setIfInBounds_toArray, List.set_cons_zero, List.set_cons_succ, i64_w, i32_w]
    rfl
  refine one_ (i := 6) (N := none) #[true, true, true, true, true, true, true, false] rfl rfl (by kernel_rfl) (by decide) (fun K hK => ?_)
  refine skip_ (w1 := ?_) (by rfl) rfl ?_ ?_
  rotate_left
  · go_simp
    rfl
  refine hK.out _ _ ⟨cellF (cellF (HB84.cell 0 _ rfl) _ (by show q ≠ z + 1 + 1; have := HZ8.out; omega)) _ (by show q ≠ z + 1 + 1; have := HZ8.out; omega), cellF (cellF (HB84.cell 1 _ rfl) _ (by show q ≠ z + 1 + 1; have := HZ8.out; omega)) _ (by show q ≠ z + 1 + 1; have := HZ8.out; omega)⟩ (fun hHeld => ?_)
  clear hK K
  refine pure_ (i := 7) (N := some 7) (v := ?_) (a' := ?_) #[true, true, true, true, true, true, true, true] rfl rfl (by kernel_rfl) (fun _ _ _ h => h) (Or.inl ⟨by rfl, ?_⟩) ?_ ?_
  rotate_left
  · intro w'
    go_simp
    with_reducible rfl
  rotate_left
  · simp only [Act.put, List.setIfInBounds_toArray, List.set_cons_zero, List.set_cons_succ, i64_w, i32_w]
    rfl
  refine done_ (by kernel_rfl) ?_
  have HB6e := Aside0.mk ((HB64.out.put 0 (.slice A ln c)).put 1 (.int .u64 last))
  clear q0 q1 h10 h11 h10' f10 f11 f11' hg4
  go_wp2
  refine bodyPost_ret (results_row2 rfl _ _ _ TR _ (0, 0) _ rfl HB6e.out.out Try.underlying28 rfl (szTR _ rfl)) rfl ⟨v, ts, last, A, c, by rw [HLn.out]; rfl, ?_, ?_, fun i hi => Or.inl hi, Int.le_refl _, by omega, Stp.refl _⟩
  · exact HSt.out.putBox (z := z + 1 + 1) (fun hu => by have := HFar.out _ hu; omega) HB64.out _ _
  · exact (HO4.out.setCell (p := ⟨z + 1 + 1, 0, none⟩) (Or.inr (by show w.heap.size ≤ z + 1 + 1; omega)) _).setCell (p := ⟨z + 1 + 1, 1, none⟩) (Or.inr (by show w.heap.size ≤ z + 1 + 1; omega)) _

theorem doesCalls {Fr : Nat → Prop} (g : Nat) (v : Value) (ts : List Tk) (last : Int) (A : Option Addr) (c : Nat) (kd N : Int) (B : Option Addr) (k d : Nat) (hs : List Hd) (w : World) (h : St Fr w g v ts last A c) (hC : kH.C w B k hs) (hk : k ≤ 2932031007317) (hl : last < 9223372036854775807) (hFr : ∀ i, w.heap.size ≤ i → Fr i) :
    Calls Try.prog 7 #[ptrV g, .agg #[.slice A ts.length c, .int .u64 last], .agg #[.int .i64 kd, .slice B k d, .int .i64 N]] w (DoesP Fr g v ts last w) := by
  by_cases h0 : kd = 0
  · subst h0
    by_cases hf : 256 < k ∨ 256 ≤ ts.length
    · exact doesFull g v ts last A c N B k d hs w h hC hk hf
    · exact doesOk g v ts last A c N B k d hs w h hC (by omega) (by omega) hl hFr
  · by_cases h1 : 0 ≤ N
    · by_cases h2 : N < ts.length
      · exact doesGiveIn g v ts last A c kd N B k d hs w h hC hFr h0 h1 h2
      · rcases findT_idx ts (IntKind.u64.wrap N) with ⟨e1, e2⟩ | ⟨m, kk, e1, e2, e3, e4⟩
        · exact doesGiveHighN g v ts last A c kd N B k d hs w h hC hFr h0 h1 (by omega) e2 e1
        · exact doesGiveHighF g v ts last A c kd N B k d hs w h hC hFr h0 h1 (by omega) m kk e4 e1 e2 e3
    · rcases findT_idx ts (IntKind.u64.wrap N) with ⟨e1, e2⟩ | ⟨m, kk, e1, e2, e3, e4⟩
      · exact doesGiveLowN g v ts last A c kd N B k d hs w h hC hFr h0 (by omega) e2 e1
      · exact doesGiveLowF g v ts last A c kd N B k d hs w h hC hFr h0 (by omega) m kk e4 e1 e2 e3
end Go.Proofs.Ytkgabeloofjohaa.Gap
