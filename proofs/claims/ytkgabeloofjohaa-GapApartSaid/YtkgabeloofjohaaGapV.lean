/- Layer 13, the law's helpers: is. -/
import Derived.Test.YtkgabeloofjohaaGapU
import Derived.Test.YtkgabeloofjohaaPsamex1
import Derived.Deep.RegionHeld3
namespace Go.Proofs.Ytkgabeloofjohaa.Gap
set_option linter.unusedVariables false
set_option linter.unusedSimpArgs false
open Go.RowKit Go.Proofs.YtkgabeloofjohaaW.PrintWords Go.Proofs.Ytkgabeloofjohaa.Kit

theorem wrap64_small {i : Int} (h0 : 0 ≤ i) (h1 : i < 9223372036854775807) : wrap64 (i + 1) = i + 1 := by
  unfold wrap64
  omega
theorem same_l0 (xs : List Int) (hn : xs.length ≤ 1000000) : ∀ (d : Nat) (i : Nat), d + i = xs.length → Psame.vellumlaw13_same.l0 (d + 1) xs xs (i : Int) = some true := by
  intro d
  induction d with
  | zero =>
    intro i hi
    simp only [Psame.vellumlaw13_same.l0]
    rw [if_neg (by omega)]
  | succ d ih =>
    intro i hi
    rw [Psame.vellumlaw13_same.l0]
    rw [if_pos (by omega), if_pos (by omega), if_pos (by omega), if_pos rfl, wrap64_small (by omega) (by omega)]
    exact ih (i + 1) (by omega)
theorem same_self (xs : List Int) (hn : xs.length ≤ 1000000) : Psame.vellumlaw13_same.f (xs.length + 1) xs xs = some true := by
  unfold Psame.vellumlaw13_same.f
  rw [if_pos rfl]
  exact same_l0 xs hn xs.length 0 (by omega)
theorem sameCalls {xs : List Int} {A B : Option Addr} {c d : Nat} {w : World} (hn : xs.length ≤ 1000000) (hA : (Kd.int .u64).C w A xs.length xs) (hc : xs.length ≤ c) (hB : (Kd.int .u64).C w B xs.length xs) (hd : xs.length ≤ d) :
    Calls Try.prog 28 #[.slice A xs.length c, .slice B xs.length d] w fun e w' => e = .returned (.bool true) ∧ Below w.heap.size w w' :=
  (Psame.vellumlaw13_same.calls _ A c xs B d xs true w hA hc hB hd (same_self xs hn)).mono fun e w' ⟨he, hd⟩ => ⟨he, by
    obtain ⟨n, rfl⟩ := hd.out
    exact pw_below_drewN (Below.refl _ _) n⟩
theorem kI_at {w : World} {A : Option Addr} {n : Nat} {xs : List Int} (h : (Kd.int .u64).C w A n xs) (i : Nat) (hi : i < n) : ∃ b o x, A = some ⟨b, o, none⟩ ∧ xs[i]? = some x ∧ w.cell? ⟨b, o + i, none⟩ = some (.int .u64 x) := by
  obtain ⟨b, o, x, cs, rfl, hx, hK, hc⟩ := C_at (s := 1) rfl (by omega) h i hi
  have : cs = [.int .u64 x] := hK
  subst this
  exact ⟨b, o, x, rfl, hx, by simpa using hc 0 _ rfl⟩
/-- Amid 'is': the two side by side, the reference's tickets in a row of the call's own. -/
structure IsI (Fr : Nat → Prop) (w wr : World) (z g : Nat) (v : Value) (ts : List Tk) (last : Int) (A : Option Addr) (c : Nat) (v5 : Value) : Prop where
  st : St Fr wr g v ts last A c
  only : Only (use g v ts) w wr
  box : Blk wr z [.slice A ts.length c, .int .u64 last] TR
  lst : (Kd.int .u64).R TU wr (z + 1) (fun _ => True) v5 (tickets ts)
  far : ∀ i, use g v ts i → i < z
theorem IsI.below {Fr : Nat → Prop} {w wr w' : World} {z g : Nat} {v : Value} {ts : List Tk} {last : Int} {A : Option Addr} {c : Nat} {v5 : Value} (h : IsI Fr w wr z g v ts last A c v5) (hb : Below wr.heap.size wr w') : IsI Fr w w' z g v ts last A c v5 :=
  ⟨h.st.below hb, h.only.trans (Only.ofBelow hb), h.box.belowSize hb, Kd.R_below h.lst hb, h.far⟩
theorem IsI.prog {Fr : Nat → Prop} {w wr w' : World} {z g : Nat} {v : Value} {ts : List Tk} {last : Int} {A : Option Addr} {c : Nat} {v5 : Value} (h : IsI Fr w wr z g v ts last A c v5) (hg : Ga w' g 0 v ts last) (ho : Only (use g v ts) wr w') : IsI Fr w w' z g v ts last A c v5 :=
  ⟨h.st.prog hg ho, h.only.trans ho, ho.blk h.box (fun hu => by have := h.far _ hu; omega), R_keep ho h.lst (fun i hi hu => by have := h.far _ hu; omega), h.far⟩
theorem IsI.form {Fr : Nat → Prop} {w wr : World} {z g : Nat} {v : Value} {ts : List Tk} {last : Int} {A A5 : Option Addr} {c c5 i : Nat} (h : IsI Fr w wr z g v ts last A c (.slice A5 ts.length c5)) (hi : i < ts.length) : ∃ b o, A5 = some ⟨b, o, none⟩ := by
  obtain ⟨A', c', e, _, hC⟩ := Kd.R_reads h.lst
  injection e with e1 e2 e3
  subst e1
  obtain ⟨b, o, x, e, _⟩ := kI_at hC i (by simp [tickets]; omega)
  exact ⟨b, o, e⟩
theorem IsI.tk {Fr : Nat → Prop} {w wr : World} {z g : Nat} {v : Value} {ts : List Tk} {last : Int} {A : Option Addr} {c c5 i b o : Nat} {k : Tk} (h : IsI Fr w wr z g v ts last A c (.slice (some ⟨b, o, none⟩) ts.length c5)) (hk : ts[i]? = some k) : wr.cell? ⟨b, o + i, none⟩ = some (.int .u64 k.t) := by
  obtain ⟨A', c', e, _, hC⟩ := Kd.R_reads h.lst
  injection e with e1 e2 e3
  subst e1
  have hi := (List.getElem?_eq_some_iff.1 hk).1
  obtain ⟨b', o', x, e, hx, hc⟩ := kI_at hC i (by simp [tickets]; omega)
  injection e with e
  injection e with e1 e2 _
  subst e1 e2
  have : (tickets ts)[i]? = some k.t := by unfold tickets; rw [List.getElem?_map, hk]; rfl
  rw [this] at hx
  injection hx with hx
  rw [hx]
  exact hc
theorem tickets_len (ts : List Tk) : (tickets ts).length = ts.length := by simp [tickets]

set_option maxRecDepth 100000 in
set_option maxHeartbeats 8000000 in
theorem isCalls {Fr : Nat → Prop} (g : Nat) (v : Value) (ts : List Tk) (last : Int) (A : Option Addr) (c : Nat) (w : World) (h : St Fr w g v ts last A c) (hl : last < 9223372036854775807) :
    Calls Try.prog 14 #[ptrV g, .agg #[.slice A ts.length c, .int .u64 last]] w fun e w' => e = .returned (.bool true) ∧ St Fr w' g v ts last A c ∧ Only (use g v ts) w w' := by
  have hu := Try.underlying28
  have HWr := Aside0.mk (wrapL h.last0 hl)
  have HFar : Aside0 (∀ i, use g v ts i → i < w.heap.size) := ⟨fun i hi => h.ga.lt hi⟩
  have HSm := Aside0.mk h.ga.small
  have HNone := Aside0.mk h.noneL
  have HNone0 := Aside0.mk h.none0
  obtain ⟨W, hW⟩ : ∃ W, W = w.alloc (.cells #[.slice A ts.length c, .int .u64 last] TR) := ⟨_, rfl⟩
  have hb : Below w.heap.size w W := by rw [hW]; exact (Below.refl _ _).alloc (Nat.le_refl _) _
  have HSt := Aside0.mk (h.below hb)
  have HBx : Aside0 (Blk W w.heap.size [.slice A ts.length c, .int .u64 last] TR) := ⟨by rw [hW]; exact Blk.newA w _ _⟩
  have HO : Aside0 (Only (use g v ts) w W) := ⟨Only.ofBelow hb⟩
  have HZ1 : Aside0 (W.heap.size = w.heap.size + 1) := ⟨by rw [hW]; simp⟩
  have HRt := Aside0.mk (refTickets A ts.length c (ts.map toRT) last W HSt.out.C HSm.out)
  rw [rt_tickets] at HRt
  clear h hb hl
  go_enter Try.func14, Try.ntmps14
  go_upto_region 1 with (fail)
  rw [← hW]
  clear hW
  generalize w.heap.size = z at HFar HBx HZ1 ⊢
  have g0 := HBx.out.cell 0 _ rfl
  have g1 := HBx.out.cell 1 _ rfl
  go_wp2_with fail
  refine HRt.out.mono ?_
  rintro e w1 ⟨v5, rfl, hr5, hb1⟩
  rw [HZ1.out] at hr5
  obtain ⟨A5, c5, rfl⟩ := Kd.R_slice hr5
  rw [tickets_len] at hr5 ⊢
  have HI1 : Aside0 (IsI Fr w w1 z g v ts last A c (.slice A5 ts.length c5)) := ⟨⟨HSt.out.below hb1, HO.out.trans (Only.ofBelow hb1), HBx.out.belowSize hb1, hr5, HFar.out⟩⟩
  clear hr5 hb1 HRt HSt HBx HO HZ1 HFar g0 g1
  go_wp2_with fail
  refine (TicketsCalls g v ts last w1 HI1.out.st.ga).mono ?_
  rintro e w2 ⟨v2, rfl, hr2, hg2, ho2⟩
  have HI2 := Aside0.mk (HI1.out.prog hg2 ho2)
  obtain ⟨A2, c2, rfl⟩ := Kd.R_slice hr2
  have HS2 : Aside0 (Calls Try.prog 28 #[.slice A2 ts.length c2, .slice A5 ts.length c5] w2 fun e w' => e = .returned (.bool true) ∧ Below w2.heap.size w2 w') := ⟨by
    obtain ⟨A', c', e1, hc1, hC1⟩ := Kd.R_reads hr2
    obtain ⟨A'', c'', e2, hc2, hC2⟩ := Kd.R_reads HI2.out.lst
    injection e1 with e11 e12 e13
    injection e2 with e21 e22 e23
    subst e11 e13 e21 e23
    have := sameCalls (by rw [tickets_len]; have := HSm.out; omega) hC1 hc1 hC2 hc2
    rw [tickets_len] at this
    exact this⟩
  rw [tickets_len]
  clear hr2 hg2 ho2 HI1
  go_wp2_with fail
  refine HS2.out.mono ?_
  rintro e w3 ⟨rfl, hb3⟩
  have HI3 := Aside0.mk (HI2.out.below hb3)
  clear hb3 HS2 HI2
  go_wp2_with fail
  go_loopw [6] (fun u wr => ∃ i : Nat, i ≤ ts.length ∧ u = .int .i64 i ∧ Aside0 (IsI Fr w wr z g v ts last A c (.slice A5 ts.length c5))) (fun u _ => ts.length - (intOf u).toNat)
  case atStart => exact ⟨0, Nat.zero_le _, rfl, HI3⟩
  case round =>
    clear HI3
    obtain ⟨i, hi, rfl, HI⟩ := hrel
    by_cases hlt : i < ts.length
    · obtain ⟨k, hk⟩ : ∃ k, ts[i]? = some k := ⟨_, List.getElem?_eq_getElem hlt⟩
      obtain ⟨b, o, rfl⟩ := HI.out.form hlt
      rcases hLL : aheadK ts k with _ | ⟨l0, L'⟩
      · have HLL := Aside0.mk hLL
        clear hLL
        have hs := HSm.out
        obtain ⟨nl, hnl⟩ : ∃ n, n = ([] : List Int).length := ⟨_, rfl⟩
        have HNl := Aside0.mk hnl
        clear hnl
        have i1 : (i : Int) < (ts.length : Int) := by omega
        have g0 := HI.out.box.cell 0 _ rfl
        have g1 := HI.out.box.cell 1 _ rfl
        have t7 := HI.out.tk hk
        have HSz : Aside0 (z + 1 ≤ wr.heap.size) := ⟨HI.out.box.lt⟩
        have HRa : Aside0 (Calls Try.prog 29 #[.agg #[.slice A ts.length c, .int .u64 last], .int .u64 k.t] wr.drew fun e w' => ∃ v1, e = .returned (.tuple #[v1, .int .i64 0]) ∧ (Kd.int .u64).R TU w' wr.heap.size (fun _ => True) v1 [] ∧ Below wr.heap.size wr w') := ⟨by
          have hst := HI.out.st.below ((Below.refl _ wr).drew)
          have := refAheadOk A ts.length c i (ts.map toRT) (toRT k) last k.t wr.drew hst.C HSm.out (fun y hy => by
            obtain ⟨x, hx, rfl⟩ := List.mem_map.1 hy
            exact (hst.ga.tk x hx).len) (by rw [rt_find]; exact (hst.at hk).2) (by rw [List.getElem?_map, hk]; rfl)
          rw [rt_ahead hk hst.ga.rise, HLL.out] at this
          exact this.mono fun e w' ⟨v1, he, hr, hb⟩ => ⟨v1, he, hr, (Below.refl _ wr).drew.trans hb⟩⟩
        have HFd : Aside0 (findT ts k.t = some k) := ⟨(HI.out.st.at hk).1⟩
        have HAe : Aside0 (aheadE ts k.t = ([], 0)) := ⟨by unfold aheadE; rw [HFd.out]; show (aheadK ts k, (0 : Int)) = _; rw [HLL.out]⟩
        have HGr : Aside0 (k.gr = true) := ⟨by rw [HI.out.st.gr k (List.mem_of_getElem? hk), HLL.out]; rfl⟩
        have HHa : Aside0 (hasV ts k.t = .tuple #[.bool true, .int .i64 0]) := ⟨by unfold hasV; rw [HFd.out]; show Value.tuple #[.bool k.gr, .int .i64 0] = _; rw [HGr.out]⟩
        have HLe : Aside0 (([] : List Int).length ≤ 1000000) := ⟨by
          have := HSm.out
          have h2 : (aheadK ts k).length ≤ ts.length := by unfold aheadK; rw [List.length_map]; exact List.length_filter_le _ _
          rw [HLL.out] at h2
          omega⟩
        have HKt := Aside0.mk hk
        have HMe := Aside0.mk (List.mem_of_getElem? hk)
        clear hk
        generalize hkt : k.t = kt at *
        have HKtE := Aside0.mk hkt
        clear hkt
        go_upto_region 7 with (fail)
        go_region_held3 (fun w' => w'.cell? ⟨z, 0, none⟩ = some (.slice A ts.length c) ∧ w'.cell? ⟨z, 1, none⟩ = some (.int .u64 last) ∧ w'.cell? ⟨b, o + i, none⟩ = some (.int .u64 kt)) (first | exact ⟨‹_›, ‹_›, ‹_›⟩)
          (first
            | (go_at_call 29; refine HRa.out.mono ?_; rintro e w4 ⟨v4, rfl, hr4, hb4⟩; obtain ⟨A4, c4, rfl⟩ := Kd.R_slice hr4; rw [← HNl.out] at hr4 ⊢; have s0 := pw_cell_below hb4 g0; have s1 := pw_cell_below hb4 g1; have s2 := pw_cell_below hb4 t7))
        have HI4 := Aside0.mk (HI.out.below hb4)
        have HR4 := Aside0.mk hr4
        clear hr4 hb4 HRa g0 g1 t7 s0 s1 s2 HI
        have t8 := HI4.out.tk HKt.out
        rw [HKtE.out] at t8
        go_wp2_with fail
        refine (AheadCalls g v ts last kt w4 HI4.out.st.ga).mono ?_
        rw [HAe.out]
        rintro e w5 ⟨v5, rfl, hr5, hg5, ho5⟩
        have HI5 := Aside0.mk (HI4.out.prog hg5 ho5)
        obtain ⟨A6, c6, rfl⟩ := Kd.R_slice hr5
        rw [← HNl.out] at hr5 ⊢
        have HR45 := Aside0.mk (R_keep ho5 HR4.out (fun j hj hu => by have := HI4.out.far j hu; have := HSz.out; omega))
        have HR5 := Aside0.mk hr5
        have HSz4 : Aside0 (z + 1 ≤ w4.heap.size) := ⟨HI4.out.box.lt⟩
        clear hr5 hg5 ho5 HI4 HR4 t8
        have t9 := HI5.out.tk HKt.out
        rw [HKtE.out] at t9
        go_wp2_with fail
        refine (hasCalls g v ts last kt w5 HI5.out.st.ga).mono ?_
        rw [HHa.out]
        rintro e w6 ⟨rfl, hg6, ho6⟩
        have HI6 := Aside0.mk (HI5.out.prog hg6 ho6)
        have HR46 := R_keep ho6 HR45.out (fun j hj hu => by have := HI5.out.far j hu; have := HSz.out; omega)
        have HR56 := R_keep ho6 HR5.out (fun j hj hu => by have := HI5.out.far j hu; have := HSz4.out; omega)
        have HS6 : Aside0 (Calls Try.prog 28 #[.slice A6 nl c6, .slice A4 nl c4] w6 fun e w' => e = .returned (.bool true) ∧ Below w6.heap.size w6 w') := ⟨by
          obtain ⟨A', c', e1, hc1, hC1⟩ := Kd.R_reads HR56
          obtain ⟨A'', c'', e2, hc2, hC2⟩ := Kd.R_reads HR46
          injection e1 with e11 e12 e13
          injection e2 with e21 e22 e23
          subst e11 e13 e21 e23
          rw [HNl.out]
          exact sameCalls HLe.out hC1 hc1 hC2 hc2⟩
        clear hg6 ho6 HI5 HR45 HR5 HR46 HR56 t9 HLL HAe HHa HLe
        have h0 : nl = 0 := HNl.out
        clear HNl
        subst h0
        go_wp2_with fail
        refine HS6.out.mono ?_
        rintro e w7 ⟨rfl, hb7⟩
        have HI7 := Aside0.mk (HI6.out.below hb7)
        clear hb7 HS6 HI6
        have t10 := HI7.out.tk HKt.out
        rw [HKtE.out] at t10
        go_wp2_with fail
        refine (waitOk g v ts last kt k w7 HI7.out.st.ga HFd.out HGr.out).mono ?_
        rintro e w8 ⟨rfl, hg8, ho8⟩
        have HI8 := Aside0.mk (HI7.out.prog hg8 ho8)
        clear hg8 ho8 HI7 t10
        go_wp2
        go_roundw
        case rel => exact ⟨i + 1, by omega, by go_num, HI8⟩
        case measure => simp [intOf]; omega
      · have HLL := Aside0.mk hLL
        clear hLL
        have hs := HSm.out
        obtain ⟨nl, hnl⟩ : ∃ n, n = (l0 :: L').length := ⟨_, rfl⟩
        have HNl := Aside0.mk hnl
        clear hnl
        have i1 : (i : Int) < (ts.length : Int) := by omega
        have g0 := HI.out.box.cell 0 _ rfl
        have g1 := HI.out.box.cell 1 _ rfl
        have t7 := HI.out.tk hk
        have HSz : Aside0 (z + 1 ≤ wr.heap.size) := ⟨HI.out.box.lt⟩
        have HRa : Aside0 (Calls Try.prog 29 #[.agg #[.slice A ts.length c, .int .u64 last], .int .u64 k.t] wr.drew fun e w' => ∃ v1, e = .returned (.tuple #[v1, .int .i64 0]) ∧ (Kd.int .u64).R TU w' wr.heap.size (fun _ => True) v1 (l0 :: L') ∧ Below wr.heap.size wr w') := ⟨by
          have hst := HI.out.st.below ((Below.refl _ wr).drew)
          have := refAheadOk A ts.length c i (ts.map toRT) (toRT k) last k.t wr.drew hst.C HSm.out (fun y hy => by
            obtain ⟨x, hx, rfl⟩ := List.mem_map.1 hy
            exact (hst.ga.tk x hx).len) (by rw [rt_find]; exact (hst.at hk).2) (by rw [List.getElem?_map, hk]; rfl)
          rw [rt_ahead hk hst.ga.rise, HLL.out] at this
          exact this.mono fun e w' ⟨v1, he, hr, hb⟩ => ⟨v1, he, hr, (Below.refl _ wr).drew.trans hb⟩⟩
        have HFd : Aside0 (findT ts k.t = some k) := ⟨(HI.out.st.at hk).1⟩
        have HAe : Aside0 (aheadE ts k.t = (l0 :: L', 0)) := ⟨by unfold aheadE; rw [HFd.out]; show (aheadK ts k, (0 : Int)) = _; rw [HLL.out]⟩
        have HGr : Aside0 (k.gr = false) := ⟨by rw [HI.out.st.gr k (List.mem_of_getElem? hk), HLL.out]; rfl⟩
        have HHa : Aside0 (hasV ts k.t = .tuple #[.bool false, .int .i64 0]) := ⟨by unfold hasV; rw [HFd.out]; show Value.tuple #[.bool k.gr, .int .i64 0] = _; rw [HGr.out]⟩
        have HLe : Aside0 ((l0 :: L').length ≤ 1000000) := ⟨by
          have := HSm.out
          have h2 : (aheadK ts k).length ≤ ts.length := by unfold aheadK; rw [List.length_map]; exact List.length_filter_le _ _
          rw [HLL.out] at h2
          omega⟩
        have HKt := Aside0.mk hk
        have HMe := Aside0.mk (List.mem_of_getElem? hk)
        clear hk
        generalize hkt : k.t = kt at *
        have HKtE := Aside0.mk hkt
        clear hkt
        go_upto_region 7 with (fail)
        go_region_held3 (fun w' => w'.cell? ⟨z, 0, none⟩ = some (.slice A ts.length c) ∧ w'.cell? ⟨z, 1, none⟩ = some (.int .u64 last) ∧ w'.cell? ⟨b, o + i, none⟩ = some (.int .u64 kt)) (first | exact ⟨‹_›, ‹_›, ‹_›⟩)
          (first
            | (go_at_call 29; refine HRa.out.mono ?_; rintro e w4 ⟨v4, rfl, hr4, hb4⟩; obtain ⟨A4, c4, rfl⟩ := Kd.R_slice hr4; rw [← HNl.out] at hr4 ⊢; have s0 := pw_cell_below hb4 g0; have s1 := pw_cell_below hb4 g1; have s2 := pw_cell_below hb4 t7))
        have HI4 := Aside0.mk (HI.out.below hb4)
        have HR4 := Aside0.mk hr4
        clear hr4 hb4 HRa g0 g1 t7 s0 s1 s2 HI
        have t8 := HI4.out.tk HKt.out
        rw [HKtE.out] at t8
        go_wp2_with fail
        refine (AheadCalls g v ts last kt w4 HI4.out.st.ga).mono ?_
        rw [HAe.out]
        rintro e w5 ⟨v5, rfl, hr5, hg5, ho5⟩
        have HI5 := Aside0.mk (HI4.out.prog hg5 ho5)
        obtain ⟨A6, c6, rfl⟩ := Kd.R_slice hr5
        rw [← HNl.out] at hr5 ⊢
        have HR45 := Aside0.mk (R_keep ho5 HR4.out (fun j hj hu => by have := HI4.out.far j hu; have := HSz.out; omega))
        have HR5 := Aside0.mk hr5
        have HSz4 : Aside0 (z + 1 ≤ w4.heap.size) := ⟨HI4.out.box.lt⟩
        clear hr5 hg5 ho5 HI4 HR4 t8
        have t9 := HI5.out.tk HKt.out
        rw [HKtE.out] at t9
        go_wp2_with fail
        refine (hasCalls g v ts last kt w5 HI5.out.st.ga).mono ?_
        rw [HHa.out]
        rintro e w6 ⟨rfl, hg6, ho6⟩
        have HI6 := Aside0.mk (HI5.out.prog hg6 ho6)
        have HR46 := R_keep ho6 HR45.out (fun j hj hu => by have := HI5.out.far j hu; have := HSz.out; omega)
        have HR56 := R_keep ho6 HR5.out (fun j hj hu => by have := HI5.out.far j hu; have := HSz4.out; omega)
        have HS6 : Aside0 (Calls Try.prog 28 #[.slice A6 nl c6, .slice A4 nl c4] w6 fun e w' => e = .returned (.bool true) ∧ Below w6.heap.size w6 w') := ⟨by
          obtain ⟨A', c', e1, hc1, hC1⟩ := Kd.R_reads HR56
          obtain ⟨A'', c'', e2, hc2, hC2⟩ := Kd.R_reads HR46
          injection e1 with e11 e12 e13
          injection e2 with e21 e22 e23
          subst e11 e13 e21 e23
          rw [HNl.out]
          exact sameCalls HLe.out hC1 hc1 hC2 hc2⟩
        clear hg6 ho6 HI5 HR45 HR5 HR46 HR56 t9 HLL HAe HHa HLe
        have hl0 : (nl : Int) ≠ 0 := by rw [HNl.out]; simp; omega
        clear HNl
        go_wp2_with fail
        refine HS6.out.mono ?_
        rintro e w7 ⟨rfl, hb7⟩
        have HI7 := Aside0.mk (HI6.out.below hb7)
        clear hb7 HS6 HI6
        go_wp2
        go_roundw
        case rel => exact ⟨i + 1, by omega, by go_num, HI7⟩
        case measure => simp [intOf]; omega
    · obtain rfl : i = ts.length := by omega
      clear hi
      have g1 := HI.out.box.cell 1 _ rfl
      have hwr := HWr.out
      go_wp2_with fail
      refine (AheadCalls g v ts last (last + 1) wr HI.out.st.ga).mono ?_
      rw [show aheadE ts (last + 1) = ([], 130) by unfold aheadE; rw [HNone.out]]
      rintro e w5 ⟨v5, rfl, hr5, hg5, ho5⟩
      have HI5 := Aside0.mk (HI.out.prog hg5 ho5)
      obtain ⟨A6, c6, rfl⟩ := Kd.R_slice hr5
      clear hr5 hg5 ho5 HI g1
      go_wp2_with fail
      refine (hasCalls g v ts last 0 w5 HI5.out.st.ga).mono ?_
      rw [show hasV ts 0 = .tuple #[.bool false, .int .i64 130] by unfold hasV; rw [HNone0.out]]
      rintro e w6 ⟨rfl, hg6, ho6⟩
      have HI6 := Aside0.mk (HI5.out.prog hg6 ho6)
      clear hg6 ho6 HI5
      have g1 := HI6.out.box.cell 1 _ rfl
      go_wp2_with fail
      refine (waitNone g v ts last (last + 1) w6 HI6.out.st.ga HNone.out).mono ?_
      rintro e w7 ⟨rfl, hg7, ho7⟩
      have HI7 := Aside0.mk (HI6.out.prog hg7 ho7)
      clear hg7 ho7 HI6 g1 hwr
      go_wp2
      go_ret
      exact ⟨rfl, HI7.out.st, HI7.out.only⟩
end Go.Proofs.Ytkgabeloofjohaa.Gap
