/- Layer 13, the law's helpers: does (printed by wip/tools/gapx.py). -/
import Derived.Test.YtkgabeloofjohaaGapV
namespace Go.Proofs.Ytkgabeloofjohaa.Gap
set_option linter.unusedVariables false
set_option linter.unusedSimpArgs false
open Go.RowKit Go.Proofs.YtkgabeloofjohaaW.PrintWords Go.Proofs.YtkgabeloofjohaaW.PrintLast Go.Proofs.Ytkgabeloofjohaa.Kit

abbrev TA : TypeId := 34
/-- What an act makes of the takers. -/
def Stp (ts ts' : List Tk) : Prop := ∀ k' ∈ ts', (∃ k ∈ ts, k.t = k'.t ∧ (k.gr = true → k'.gr = true)) ∨ ∀ k ∈ ts, k.t < k'.t
theorem Stp.refl (ts : List Tk) : Stp ts ts := fun k hk => Or.inl ⟨k, hk, rfl, id⟩
theorem gr1_le (us : List Tk) (k : Tk) : k.gr = true → (gr1 us k).gr = true := fun h => by simp [gr1, h]
theorem Stp.take {ts : List Tk} {k : Tk} (h : ∀ x ∈ ts, x.t < k.t) : Stp ts (regrant (ts ++ [k])) := fun x hx => by
  obtain ⟨y, hy, rfl⟩ := List.mem_map.1 hx
  rw [List.mem_append, List.mem_singleton] at hy
  rcases hy with hy | rfl
  · exact Or.inl ⟨y, hy, rfl, gr1_le _ y⟩
  · exact Or.inr h
theorem Stp.give (ts : List Tk) (m : Nat) : Stp ts (regrant (ts.eraseIdx m)) := fun x hx => by
  obtain ⟨y, hy, rfl⟩ := List.mem_map.1 hx
  exact Or.inl ⟨y, List.mem_of_mem_eraseIdx hy, rfl, gr1_le _ y⟩
def DoesP (Fr : Nat → Prop) (g : Nat) (v : Value) (ts : List Tk) (last : Int) (w : World) (e : Ending) (w' : World) : Prop :=
  ∃ v' ts' last' A' c', e = .returned (.tuple #[.agg #[.slice A' ts'.length c', .int .u64 last'], .bool true]) ∧ St Fr w' g v' ts' last' A' c' ∧ Only (use g v ts) w w' ∧ (∀ i, use g v' ts' i → use g v ts i ∨ w.heap.size ≤ i) ∧ last ≤ last' ∧ last' ≤ last + 1 ∧ Stp ts ts'
/-- Amid 'does': the act and the state in their boxes. -/
structure Dz (Fr : Nat → Prop) (w wr : World) (z g : Nat) (v : Value) (ts : List Tk) (last : Int) (A : Option Addr) (c : Nat) (kd N : Int) (B : Option Addr) (k d : Nat) (hs : List Hd) : Prop where
  st : St Fr wr g v ts last A c
  only : Only (use g v ts) w wr
  b0 : Blk wr z [.slice A ts.length c, .int .u64 last] TR
  b1 : Blk wr (z + 1) [.int .i64 kd, .slice B k d, .int .i64 N] TA
  b2 : Blk wr (z + 1 + 1) [.slice none 0 0, .int .u64 0] TR
  hC : kH.C wr B k hs
  far : ∀ i, use g v ts i → i < z
theorem Dz.below {Fr : Nat → Prop} {w wr w' : World} {z g : Nat} {v : Value} {ts : List Tk} {last : Int} {A : Option Addr} {c : Nat} {kd N : Int} {B : Option Addr} {k d : Nat} {hs : List Hd} (h : Dz Fr w wr z g v ts last A c kd N B k d hs) (hb : Below wr.heap.size wr w') : Dz Fr w w' z g v ts last A c kd N B k d hs :=
  ⟨h.st.below hb, h.only.trans (Only.ofBelow hb), h.b0.belowSize hb, h.b1.belowSize hb, h.b2.belowSize hb, Kd.C_below h.hC hb, h.far⟩
theorem Dz.start {Fr : Nat → Prop} {w : World} {g : Nat} {v : Value} {ts : List Tk} {last : Int} {A : Option Addr} {c : Nat} {kd N : Int} {B : Option Addr} {k d : Nat} {hs : List Hd} (h : St Fr w g v ts last A c) (hC : kH.C w B k hs) :
    Dz Fr w (((w.alloc (.cells #[.slice A ts.length c, .int .u64 last] TR)).alloc (.cells #[.int .i64 kd, .slice B k d, .int .i64 N] TA)).alloc (.cells #[.slice none 0 0, .int .u64 0] TR)) w.heap.size g v ts last A c kd N B k d hs := by
  have hb : Below w.heap.size w (((w.alloc (.cells #[.slice A ts.length c, .int .u64 last] TR)).alloc (.cells #[.int .i64 kd, .slice B k d, .int .i64 N] TA)).alloc (.cells #[.slice none 0 0, .int .u64 0] TR)) := (((Below.refl _ _).alloc (Nat.le_refl _) _).alloc (by rw [World.size_alloc]; omega) _).alloc (by rw [World.size_alloc, World.size_alloc]; omega) _
  have h1 := (Blk.newA (w.alloc (.cells #[.slice A ts.length c, .int .u64 last] TR)) #[.int .i64 kd, .slice B k d, .int .i64 N] TA).alloc (.cells #[.slice none 0 0, .int .u64 0] TR)
  have h2 := Blk.newA ((w.alloc (.cells #[.slice A ts.length c, .int .u64 last] TR)).alloc (.cells #[.int .i64 kd, .slice B k d, .int .i64 N] TA)) #[.slice none 0 0, .int .u64 0] TR
  rw [World.size_alloc] at h1
  rw [World.size_alloc, World.size_alloc] at h2
  exact ⟨h.below hb, Only.ofBelow hb, ((Blk.newA w _ _).alloc _).alloc _, h1, h2, Kd.C_below hC hb, fun i hi => h.ga.lt hi⟩
/-- The program's calls: another state of the object, the boxes as they were. -/
theorem blkFar {g z : Nat} {v : Value} {ts : List Tk} {wr w' : World} {b : Nat} {cs : List Value} {t : TypeId} (ho : Only (use g v ts) wr w') (hb : Blk wr b cs t) (hf : ∀ i, use g v ts i → i < z) (hz : z ≤ b) : Blk w' b cs t := ho.blk hb (fun hu => by have := hf b hu; omega)
/-- A store into a box of the reference's type does not reach the two. -/
theorem St.putBox {Fr : Nat → Prop} {W : World} {g : Nat} {v : Value} {ts : List Tk} {last : Int} {A : Option Addr} {c z : Nat} {cs : List Value} (h : St Fr W g v ts last A c) (hn : ¬ use g v ts z) (hb : Blk W z cs TR) (u1 u2 : Value) : St Fr ((W.setCell ⟨z, 0, none⟩ u1).setCell ⟨z, 1, none⟩ u2) g v ts last A c := by
  have ho : Only (fun i => i = z) W ((W.setCell ⟨z, 0, none⟩ u1).setCell ⟨z, 1, none⟩ u2) := onlyG (onlyG (Only.refl _ W))
  refine ⟨h.ga.only ho (fun i hi e => hn (by rw [← e]; exact hi)), ?_, h.gr, h.pos, h.last0⟩
  exact ho.Rt hb (by decide) h.row

set_option maxRecDepth 100000 in
set_option maxHeartbeats 4000000 in
theorem doesFull {Fr : Nat → Prop} (g : Nat) (v : Value) (ts : List Tk) (last : Int) (A : Option Addr) (c : Nat) (N : Int) (B : Option Addr) (k d : Nat) (hs : List Hd) (w : World) (h : St Fr w g v ts last A c) (hC : kH.C w B k hs) (hk : k ≤ 2932031007317) (hf : 256 < k ∨ 256 ≤ ts.length) :
    Calls Try.prog 7 #[ptrV g, .agg #[.slice A ts.length c, .int .u64 last], .agg #[.int .i64 0, .slice B k d, .int .i64 N]] w (DoesP Fr g v ts last w) := by
  have hu := Try.underlying28
  have huA := Try.underlying34
  have hz := zeroTR
  have HSm := Aside0.mk h.ga.small
  have HF := Aside0.mk hf
  have HK := Aside0.mk hk
  have HD0 := Aside0.mk (Dz.start (kd := 0) (N := N) (d := d) h hC)
  clear h hC hk hf
  unfold DoesP
  go_enter Try.func7, Try.ntmps7
  go_upto_region 1 with (fail)
  generalize ((w.alloc (.cells #[.slice A ts.length c, .int .u64 last] TR)).alloc (.cells #[.int .i64 0, .slice B k d, .int .i64 N] TA)).alloc (.cells #[.slice none 0 0, .int .u64 0] TR) = W at *
  generalize hzz : w.heap.size = z at *
  have a0 := HD0.out.b1.cell 0 _ rfl
  have a1 := HD0.out.b1.cell 1 _ rfl
  have g0 := HD0.out.b0.cell 0 _ rfl
  have g1 := HD0.out.b0.cell 1 _ rfl
  go_wp2_with fail
  refine (refTakeFull A ts.length c last B k d W HF.out HSm.out).mono ?_
  rintro e w1 ⟨rfl, hb1⟩
  have HD1 := Aside0.mk (HD0.out.below hb1)
  clear a0 a1 g0 g1 hb1 HD0
  go_upto_region 3 with (fail)
  have hb2 : Below w1.heap.size w1 (w1.alloc (.cells #[.slice A ts.length c, .int .u64 last] TR)) := (Below.refl _ _).alloc (Nat.le_refl _) _
  have HD2 := Aside0.mk (HD1.out.below hb2)
  have HB8 := Aside0.mk (Blk.newA w1 #[.slice A ts.length c, .int .u64 last] TR)
  have HZ8 : Aside0 (z + 3 ≤ w1.heap.size) := ⟨by have := HD1.out.b2.lt; omega⟩
  clear hb2 HD1
  generalize w1.alloc (.cells #[.slice A ts.length c, .int .u64 last] TR) = w2 at *
  generalize w1.heap.size = q at *
  have a1 := HD2.out.b1.cell 1 _ rfl
  go_wp2_with fail
  refine (lawHolds B k d hs w2 HD2.out.hC HK.out).mono ?_
  rintro e w3 ⟨v3, rfl, hr3, hb3⟩
  obtain ⟨A3, c3, rfl⟩ := Kd.R_slice hr3
  rw [HD2.out.hC.1]
  have HD3 := Aside0.mk (HD2.out.below hb3)
  have HB83 := Aside0.mk (HB8.out.belowSize hb3)
  clear a1 hr3 hb3 HD2 HB8
  go_wp2_with fail
  refine (takeFull g v A3 k c3 ts last w3 HD3.out.st.ga HF.out HK.out).mono ?_
  rintro e w4 ⟨rfl, hg4, ho4⟩
  have HSt := Aside0.mk (HD3.out.st.prog hg4 ho4)
  have HO := Aside0.mk (HD3.out.only.trans ho4)
  have HB84 := Aside0.mk (blkFar ho4 HB83.out HD3.out.far (by have := HZ8.out; omega))
  have HB6 := Aside0.mk (blkFar ho4 HD3.out.b2 HD3.out.far (by omega))
  have HFar := Aside0.mk HD3.out.far
  clear hg4 ho4 HD3 HB83
  have q0 := HB84.out.cell 0 _ rfl
  have q1 := HB84.out.cell 1 _ rfl
  have h10 := HB6.out.cell 0 _ rfl
  have h11 := HB6.out.cell 1 _ rfl
  have h10' := (HB6.out.put 0 (.slice A ts.length c)).cell 1 _ rfl
  have f10 := HB6.out.free 0
  have f11 := HB6.out.free 1
  have f11' := (HB6.out.put 0 (.slice A ts.length c)).free 1
  have HB6e := Aside0.mk ((HB6.out.put 0 (.slice A ts.length c)).put 1 (.int .u64 last))
  go_wp2
  refine bodyPost_ret (results_row2 rfl _ _ _ TR _ (0, 0) _ rfl HB6e.out.out Try.underlying28 rfl (szTR _ rfl)) rfl ⟨v, ts, last, A, c, rfl, ?_, ?_, fun i hi => Or.inl hi, Int.le_refl _, by omega, Stp.refl _⟩
  · exact HSt.out.putBox (z := z + 1 + 1) (fun hu => by have := HFar.out _ hu; omega) HB6.out _ _
  · exact (HO.out.setCell (p := ⟨z + 1 + 1, 0, none⟩) (Or.inr (by show w.heap.size ≤ z + 1 + 1; omega)) _).setCell (p := ⟨z + 1 + 1, 1, none⟩) (Or.inr (by show w.heap.size ≤ z + 1 + 1; omega)) _

set_option maxRecDepth 100000 in
set_option maxHeartbeats 4000000 in
theorem doesOk {Fr : Nat → Prop} (g : Nat) (v : Value) (ts : List Tk) (last : Int) (A : Option Addr) (c : Nat) (N : Int) (B : Option Addr) (k d : Nat) (hs : List Hd) (w : World) (h : St Fr w g v ts last A c) (hC : kH.C w B k hs) (hk : k ≤ 256) (hf : ts.length < 256) (hl : last < 9223372036854775807) (hFr : ∀ i, w.heap.size ≤ i → Fr i) :
    Calls Try.prog 7 #[ptrV g, .agg #[.slice A ts.length c, .int .u64 last], .agg #[.int .i64 0, .slice B k d, .int .i64 N]] w (DoesP Fr g v ts last w) := by
  have hu := Try.underlying28
  have huA := Try.underlying34
  have hz := zeroTR
  have HSm := Aside0.mk hf
  have HK := Aside0.mk hk
  have HL := Aside0.mk hl
  have HFr := Aside0.mk hFr
  clear hFr
  have HL0 := Aside0.mk h.last0
  have HWr := Aside0.mk (wrapL h.last0 hl)
  have HD0 := Aside0.mk (Dz.start (kd := 0) (N := N) (d := d) h hC)
  clear h hC hk hf hl
  unfold DoesP
  go_enter Try.func7, Try.ntmps7
  go_upto_region 1 with (fail)
  generalize ((w.alloc (.cells #[.slice A ts.length c, .int .u64 last] TR)).alloc (.cells #[.int .i64 0, .slice B k d, .int .i64 N] TA)).alloc (.cells #[.slice none 0 0, .int .u64 0] TR) = W at *
  generalize hzz : w.heap.size = z at *
  have a0 := HD0.out.b1.cell 0 _ rfl
  have a1 := HD0.out.b1.cell 1 _ rfl
  have g0 := HD0.out.b0.cell 0 _ rfl
  have g1 := HD0.out.b0.cell 1 _ rfl
  go_wp2_with fail
  refine (refTakeOk (fun i => ¬ use g v ts i ∧ Fr i) A ts.length c (ts.map toRT) last B k d hs W HD0.out.st.row HD0.out.hC HK.out HSm.out HWr.out).mono ?_
  rintro e w1 ⟨v1, rfl, hr1, hb1⟩
  have HD1 := Aside0.mk (HD0.out.below hb1)
  have hr1' : kT.R TK w1 0 (fun i => ¬ use g v ts i ∧ Fr i) v1 (ts.map toRT ++ [⟨last + 1, hs⟩]) := Kd.R_mono hr1 (fun i hi => by
    rcases hi with hi | hi
    · exact hi.1
    · refine ⟨fun hu => ?_, HFr.out i (by have := HD0.out.b0.lt; omega)⟩
      have := HD0.out.far i hu
      have := HD0.out.b0.lt
      omega)
  obtain ⟨A1, c1, rfl⟩ := Kd.R_slice hr1'
  rw [show (ts.map toRT ++ [(⟨last + 1, hs⟩ : RT)]).length = ts.length + 1 by simp] at hr1' ⊢
  have HR1 := Aside0.mk hr1'
  clear a0 a1 g0 g1 hb1 HD0 hr1 hr1'
  go_upto_region 3 with (fail)
  have hb2 : Below w1.heap.size w1 (w1.alloc (.cells #[.slice A1 (ts.length + 1) c1, .int .u64 (last + 1)] TR)) := (Below.refl _ _).alloc (Nat.le_refl _) _
  have HD2 := Aside0.mk (HD1.out.below hb2)
  have HR2 := Aside0.mk (Kd.R_below HR1.out hb2)
  have HB8 := Aside0.mk (Blk.newA w1 #[.slice A1 (ts.length + 1) c1, .int .u64 (last + 1)] TR)
  have HZ8 : Aside0 (z + 3 ≤ w1.heap.size) := ⟨by have := HD1.out.b2.lt; omega⟩
  clear hb2 HD1 HR1
  generalize w1.alloc (.cells #[.slice A1 (ts.length + 1) c1, .int .u64 (last + 1)] TR) = w2 at *
  generalize w1.heap.size = q at *
  have a1 := HD2.out.b1.cell 1 _ rfl
  go_wp2_with fail
  refine (lawHolds B k d hs w2 HD2.out.hC (by have := HK.out; omega)).mono ?_
  rintro e w3 ⟨v3, rfl, hr3, hb3⟩
  obtain ⟨A3, c3, e3, hC3, hA3⟩ := tk_of_R hr3
  subst e3
  have hkl := HD2.out.hC.1
  rw [hkl] at hC3 ⊢
  have HD3 := Aside0.mk (HD2.out.below hb3)
  have HB83 := Aside0.mk (HB8.out.belowSize hb3)
  have HR3 := Aside0.mk (Kd.R_below HR2.out hb3)
  have HTk := Aside0.mk (takeOk g v A3 k c3 hs ts last w3 HD3.out.st.ga hC3 (fun a ha => (hA3 a ha).1) HK.out HSm.out HL0.out HL.out)
  clear a1 hr3 hb3 HD2 HB8 HR2 hC3 hA3 hkl
  go_wp2_with fail
  refine HTk.out.mono ?_
  rintro e w4 ⟨v', kk, rfl, hg4, ht4, hh4, hgr4, ho4, hu4⟩
  have hus : ∀ i, use g v' (regrant (ts ++ [kk])) i → use g v ts i ∨ w3.heap.size ≤ i := fun i hi => hu4 i (use_regrant _ _ _ _ hi)
  have HSt : Aside0 (St Fr w4 g v' (regrant (ts ++ [kk])) (last + 1) A1 c1) := ⟨by
    have hmap : (regrant (ts ++ [kk])).map toRT = ts.map toRT ++ [⟨last + 1, hs⟩] := by
      rw [rt_regrant, List.map_append]
      show _ ++ [(⟨kk.t, kk.hs⟩ : RT)] = _
      rw [ht4, hh4]
    have hln : (regrant (ts ++ [kk])).length = ts.length + 1 := by simp [regrant]
    have hlt : ∀ x ∈ ts, x.t < kk.t := fun x hx => by have := HD3.out.st.ga.le x hx; omega
    refine ⟨hg4, ?_, grInv_take HD3.out.st.gr hgr4 (fun x hx => Int.le_of_lt (hlt x hx)), fun x hx => ?_, by have := HL0.out; omega⟩
    · rw [hln, hmap]
      exact R_afterF HR3.out ho4 hus
    · obtain ⟨y, hy, rfl⟩ := List.mem_map.1 hx
      show 1 ≤ y.t
      rw [List.mem_append, List.mem_singleton] at hy
      rcases hy with hy | rfl
      · exact HD3.out.st.pos y hy
      · have := HL0.out
        omega⟩
  have HStp : Aside0 (Stp ts (regrant (ts ++ [kk])) ∧ (regrant (ts ++ [kk])).length = ts.length + 1) := ⟨Stp.take (fun x hx => by have := HD3.out.st.ga.le x hx; omega), by simp [regrant]⟩
  have HUs : Aside0 (∀ i, use g v' (regrant (ts ++ [kk])) i → use g v ts i ∨ z ≤ i) := ⟨fun i hi => by
    rcases hus i hi with h | h
    · exact Or.inl h
    · have := HD3.out.b0.lt
      exact Or.inr (by omega)⟩
  have HO := Aside0.mk (HD3.out.only.trans ho4)
  have HB84 := Aside0.mk (blkFar ho4 HB83.out HD3.out.far (by have := HZ8.out; omega))
  have HB6 := Aside0.mk (blkFar ho4 HD3.out.b2 HD3.out.far (by omega))
  have HFar : Aside0 (∀ i, use g v' (regrant (ts ++ [kk])) i → i < z ∨ w3.heap.size ≤ i) := ⟨fun i hi => by
    rcases hus i hi with h | h
    · exact Or.inl (HD3.out.far i h)
    · exact Or.inr h⟩
  have HZ3 : Aside0 (z + 3 ≤ w3.heap.size) := ⟨by have := HD3.out.b2.lt; omega⟩
  clear hg4 ho4 HD3 HB83 hus hu4 ht4 hh4 hgr4 HTk HR3
  generalize regrant (ts ++ [kk]) = ts' at *
  have q0 := HB84.out.cell 0 _ rfl
  have q1 := HB84.out.cell 1 _ rfl
  have h10 := HB6.out.cell 0 _ rfl
  have h11 := HB6.out.cell 1 _ rfl
  have h10' := (HB6.out.put 0 (.slice A1 (ts.length + 1) c1)).cell 1 _ rfl
  have f10 := HB6.out.free 0
  have f11 := HB6.out.free 1
  have f11' := (HB6.out.put 0 (.slice A1 (ts.length + 1) c1)).free 1
  have HB6e := Aside0.mk ((HB6.out.put 0 (.slice A1 (ts.length + 1) c1)).put 1 (.int .u64 (last + 1)))
  go_wp2
  refine bodyPost_ret (results_row2 rfl _ _ _ TR _ (0, 0) _ rfl HB6e.out.out Try.underlying28 rfl (szTR _ rfl)) rfl ⟨v', ts', last + 1, A1, c1, by rw [HStp.out.2]; rfl, ?_, ?_, fun i hi => by rw [hzz]; exact HUs.out i hi, by omega, Int.le_refl _, HStp.out.1⟩
  · exact HSt.out.putBox (z := z + 1 + 1) (fun hu => by have := HFar.out _ hu; have := HZ3.out; omega) HB6.out _ _
  · exact (HO.out.setCell (p := ⟨z + 1 + 1, 0, none⟩) (Or.inr (by show w.heap.size ≤ z + 1 + 1; omega)) _).setCell (p := ⟨z + 1 + 1, 1, none⟩) (Or.inr (by show w.heap.size ≤ z + 1 + 1; omega)) _
end Go.Proofs.Ytkgabeloofjohaa.Gap
