/- The law's own helpers over layer 7: is, does, awake. -/
import Derived.Test.YtkljhdmbhaffeaaCellC
import Derived.Test.YtkljhdmbhaffeaaCellR
import Derived.Deep.RegionHeld3
namespace Go.Proofs.Ytkljhdmbhaffeaa.Cell
set_option linter.unusedVariables false
set_option linter.unusedSimpArgs false
open Go.RowKit Go.Proofs.YtkljhdmbhaffeaaW.PrintWords Go.Proofs.Ytkljhdmbhaffeaa.Kit

theorem refLoad (vs : List Int) (n : Int) (h : vs = [] → n = 0) : PCellPlays.vellumref07_Load.f vs n = some (newest vs, n) := by
  unfold PCellPlays.vellumref07_Load.f
  cases vs with
  | nil => rw [h rfl]; rfl
  | cons v vs =>
    rw [if_neg (by simp; omega), if_pos (by simp)]
    rfl

set_option maxRecDepth 100000 in
set_option maxHeartbeats 4000000 in
theorem isCalls (p : Nat) (vs : List Int) (n : Int) (A : Option Addr) (c : Nat) (w : World) (h : At encI TC TN w p vs n) (hC : (Kd.int .i64).C w A vs.length vs) (hc : vs.length ≤ c) (hl : vs.length ≤ 17592186044000) :
    Calls Try.prog 7 #[.pointer (some ⟨p, 0, none⟩), .agg #[.slice A vs.length c, .int .u64 n]] w fun e w' => e = .returned (.bool true) ∧ Below w.heap.size w w' := by
  have hn0 : vs = [] → n = 0 := by
    obtain ⟨q, _, hq⟩ := h.out
    exact fun e => (hq.zero e).2
  have HLd := Aside0.mk (refLoad vs n hn0)
  have H := Aside0.mk h
  have HC := Aside0.mk hC
  have HcL := Aside0.mk hc
  have HL := Aside0.mk hl
  have HS := Aside0.mk (same_is vs hl)
  obtain ⟨W, hW⟩ : ∃ W, W = w.alloc (.cells #[.slice A vs.length c, .int .u64 n] TM) := ⟨_, rfl⟩
  have HB0 : Aside0 (Below w.heap.size w W) := ⟨by rw [hW]; exact (Below.refl _ _).alloc (Nat.le_refl _) _⟩
  have HX : Aside0 (Blk W w.heap.size [.slice A vs.length c, .int .u64 n] TM) := ⟨by rw [hW]; exact Blk.newA w _ _⟩
  clear h hC hc hl hn0
  go_enter Try.func7, Try.ntmps7
  go_wp2_with fail
  rw [← hW]
  clear hW
  refine (loadCalls p vs n W (H.out.below HB0.out)).mono ?_
  rintro e w1 ⟨rfl, ⟨nd, rfl⟩⟩
  have HB1 : Aside0 (Below w.heap.size w (W.drewN nd)) := ⟨pw_below_drewN HB0.out nd⟩
  have HX1 := Aside0.mk (HX.out.drewN nd)
  generalize W.drewN nd = w1 at *
  clear HB0 HX
  have x0 := HX1.out.cell 0 _ rfl
  have x1 := HX1.out.cell 1 _ rfl
  go_wp2_with fail
  refine (PCellPlays.vellumref07_Load.calls A c vs n (newest vs) n w1 (Kd.C_below HC.out HB1.out) HcL.out HLd.out).mono ?_
  rintro e w2 ⟨rfl, hb2⟩
  have HB2 : Aside0 (Below w.heap.size w w2) := ⟨HB1.out.trans (hb2.mono HB1.out.size)⟩
  have HX2 := Aside0.mk (HX1.out.belowSize hb2)
  have HA2 := Aside0.mk (H.out.below HB2.out)
  clear HB1 HX1 x0 x1 hb2
  have x0 := HX2.out.cell 0 _ rfl
  go_wp2_with fail
  go_region_held3 (fun w' => w'.cell? ⟨w.heap.size, 0, none⟩ = some (.slice A vs.length c)) (first | assumption | (simp; assumption))
    (first
      | (go_at_call 10; refine (allCalls p vs n _ (HA2.out.below ((Below.refl _ _).drew)) HL.out).mono ?_; rintro e w3 ⟨v3, rfl, hR3, hb3⟩; have x3 := (HX2.out.belowSize ((Below.refl _ _).drew.trans hb3)).cell 0 _ rfl; obtain ⟨A3, c3, rfl⟩ := Kd.R_slice hR3; have HR3 := Aside0.mk (Kd.R_reads' hR3); have HB3 := Aside0.mk (HB2.out.trans (((Below.refl _ _).drew.trans hb3).mono HB2.out.size)); clear hR3 hb3)
      | (go_at_call 11; refine (PCellPlays.vellumref07_Same.calls _ _ c3 vs A c vs true _ HR3.out.2.2 HR3.out.2.1 (Kd.C_below HC.out HB3.out) HcL.out HS.out).mono ?_; rintro e w4 ⟨rfl, ⟨nd4, rfl⟩⟩))
  have HB4 := Aside0.mk (pw_below_drewN HB3.out nd4)
  go_wp2
  go_ret
  exact ⟨rfl, HB4.out⟩
/-- A call, as the law is given it. -/
structure Act where
  kind : Int
  off : Int
  n : Int
abbrev TA : TypeId := 33
theorem zeroA (W : World) : (zeroValue TA).run Try.prog W = .ok (.agg #[.int .i64 0, .int .i64 0, .int .i64 0]) W := by kernel_rfl
/-- The number that a call names. -/
def numOf (n : Int) (a : Act) : Int := IntKind.u64.wrap (n + IntKind.u64.wrap a.off)

/-- What is kept of the reference's place: its values are a row of the call's own. -/
abbrev MK (K : Nat → Prop) (w : World) (base : Nat) (s : Value) (vs : List Int) : Prop := (Kd.int .i64).R 2 w base K s vs
abbrev MR (w : World) (base : Nat) (s : Value) (vs : List Int) : Prop := MK (fun _ => True) w base s vs

set_option maxRecDepth 100000 in
set_option maxHeartbeats 4000000 in
theorem doesGenKeep (p : Nat) (vs vs' : List Int) (n n' k : Int) (ok : Bool) (a : Act) (hk : a.kind = 1) (hn : numOf n a = k) (K : Nat → Prop) (base : Nat) (A : Option Addr) (c : Nat) (w : World)
    (HRef : Aside0 (∀ W, w.heap.size ≤ W.heap.size → MK K W base (.slice A vs.length c) vs → Calls Try.prog 17 #[.agg #[.slice A vs.length c, .int .u64 n], .int .u64 k, .int .i64 a.n] W fun e w' => ∃ s, e = .returned (.tuple #[.agg #[s, .int .u64 n'], .bool ok]) ∧ MK K w' base s vs' ∧ Below W.heap.size W w'))
    (HPrg : Aside0 (∀ W, At encI TC TN W p vs n → Calls Try.prog 18 #[.pointer (some ⟨p, 0, none⟩), .int .u64 k, .int .i64 a.n] W fun e w' => e = .returned (.bool ok) ∧ At encI TC TN w' p vs' n' ∧ Only (fun i => i = p) W w'))
    (h : At encI TC TN w p vs n) (hR : MK K w base (.slice A vs.length c) vs) (hb : base ≤ w.heap.size) :
    Calls Try.prog 8 #[.pointer (some ⟨p, 0, none⟩), .agg #[.slice A vs.length c, .int .u64 n], .agg #[.int .i64 a.kind, .int .i64 a.off, .int .i64 a.n]] w fun e w' =>
      ∃ s, e = .returned (.tuple #[.agg #[s, .int .u64 n'], .bool true]) ∧ At encI TC TN w' p vs' n' ∧ MK K w' base s vs' ∧ Only (fun i => i = p) w w' := by
  have H := Aside0.mk h
  have HR := Aside0.mk hR
  have HBs := Aside0.mk hb
  have hz := zeroM
  obtain ⟨ak, ao, an⟩ := a
  simp only at hk HRef HPrg ⊢
  subst hk
  have hnn : IntKind.u64.wrap (n + IntKind.u64.wrap ao) = k := hn
  clear h hR hb hn
  go_enter Try.func8, Try.ntmps8
  go_wp2_with fail
  obtain ⟨W, hW⟩ : ∃ W, W = ((w.alloc (.cells #[.slice A vs.length c, .int .u64 n] TM)).alloc (.cells #[.int .i64 1, .int .i64 ao, .int .i64 an] TA)).alloc (.cells #[.slice none 0 0, .int .u64 0] TM) := ⟨_, rfl⟩
  have HB0 : Aside0 (Below w.heap.size w W) := ⟨by rw [hW]; exact (((Below.refl _ _).alloc (Nat.le_refl _) _).alloc (by simp) _).alloc (by simp; omega) _⟩
  have HX : Aside0 (Blk W w.heap.size [.slice A vs.length c, .int .u64 n] TM) := ⟨by rw [hW]; exact ((Blk.newA w _ _).alloc _).alloc _⟩
  have HY : Aside0 (Blk W (w.heap.size + 1) [.int .i64 1, .int .i64 ao, .int .i64 an] TA) := ⟨by rw [hW]; have := (Blk.newA (w.alloc (.cells #[.slice A vs.length c, .int .u64 n] TM)) #[.int .i64 1, .int .i64 ao, .int .i64 an] TA).alloc (.cells #[.slice none 0 0, .int .u64 0] TM); simpa using this⟩
  have HZ : Aside0 (Blk W (w.heap.size + 1 + 1) [.slice none 0 0, .int .u64 0] TM) := ⟨by rw [hW]; have := Blk.newA ((w.alloc (.cells #[.slice A vs.length c, .int .u64 n] TM)).alloc (.cells #[.int .i64 1, .int .i64 ao, .int .i64 an] TA)) #[.slice none 0 0, .int .u64 0] TM; simpa using this⟩
  rw [← hW]
  clear hW
  have HRW := Aside0.mk (Kd.R_below HR.out HB0.out)
  have HAW := Aside0.mk (H.out.below HB0.out)
  refine (HRef.out W HB0.out.size HRW.out).mono ?_
  rintro e w2 ⟨s, rfl, hR2, hb2⟩
  have HB2 : Aside0 (Below w.heap.size w w2) := ⟨HB0.out.trans (hb2.mono HB0.out.size)⟩
  have HX2 := Aside0.mk (HX.out.belowSize hb2)
  have HY2 := Aside0.mk (HY.out.belowSize hb2)
  have HZ2 := Aside0.mk (HZ.out.belowSize hb2)
  have HA2 := Aside0.mk (HAW.out.below hb2)
  have HR2 : Aside0 (MK K w2 base s vs') := ⟨hR2⟩
  obtain ⟨A2, c2, rfl⟩ := Kd.R_slice HR2.out
  obtain ⟨L2, HR2, HL2⟩ : ∃ L, Aside0 (MK K w2 base (.slice A2 L c2) vs') ∧ Aside0 (vs'.length = L) := ⟨_, HR2, ⟨rfl⟩⟩
  rw [HL2.out]
  clear hR2 hb2 HB0 HX HY HZ HRW HAW
  have y2 := HY2.out.cell 2 _ rfl
  go_upto_region 4 with (fail)
  obtain ⟨W3, hW3⟩ : ∃ W3, W3 = w2.alloc (.cells #[.slice A2 L2 c2, .int .u64 n'] TM) := ⟨_, rfl⟩
  have hb3 : Below w2.heap.size w2 W3 := by rw [hW3]; exact (Below.refl _ _).alloc (Nat.le_refl _) _
  have HB3 : Aside0 (Below w.heap.size w W3) := ⟨HB2.out.trans (hb3.mono HB2.out.size)⟩
  have HY3 := Aside0.mk (HY2.out.belowSize hb3)
  have HZ3 := Aside0.mk (HZ2.out.belowSize hb3)
  have HA3 := Aside0.mk (HA2.out.below hb3)
  have HR3 := Aside0.mk (Kd.R_below HR2.out hb3)
  have HO3 : Aside0 (Blk W3 w2.heap.size [.slice A2 L2 c2, .int .u64 n'] TM) := ⟨by rw [hW3]; exact Blk.newA w2 _ _⟩
  have hpl : p < w.heap.size := by obtain ⟨q, hq, _⟩ := H.out.out; exact hq.lt
  have h2l : w.heap.size + 1 + 1 < w2.heap.size := HZ2.out.lt
  rw [← hW3]
  clear hW3 hb3 HX2 HY2 HZ2 HA2 HR2 HB2 y2
  have o0 := HO3.out.cell 0 _ rfl
  have o1 := HO3.out.cell 1 _ rfl
  have y2 := HY3.out.cell 2 _ rfl
  generalize w2.heap.size = g9 at *
  have hne1 : g9 ≠ w.heap.size + 1 + 1 := by omega
  have hne2 : w.heap.size + 1 + 1 ≠ g9 := by omega
  go_region_held3 (fun w' => w'.cell? ⟨g9, 0, none⟩ = some (.slice A2 L2 c2) ∧ w'.cell? ⟨g9, 1, none⟩ = some (.int .u64 n') ∧ w'.cell? ⟨w.heap.size + 1, 2, none⟩ = some (.int .i64 an)) (first | exact ⟨‹_›, ‹_›, ‹_›⟩ | (simp; exact ⟨‹_›, ‹_›, ‹_›⟩) | go_keep)
    (first
      | (go_at_call 18; refine (HPrg.out _ (HA3.out.below ((Below.refl _ _).drew))).mono ?_; rintro e w4 ⟨rfl, hA4, ho4⟩; have HO4 := Aside0.mk (ho4.blk HO3.out.drew (fun (e : g9 = p) => absurd e (by omega))); have HY4 := Aside0.mk (ho4.blk HY3.out.drew (fun (e : w.heap.size + 1 = p) => absurd e (by omega))); have HZ4 := Aside0.mk (ho4.blk HZ3.out.drew (fun (e : w.heap.size + 1 + 1 = p) => absurd e (by omega))); have p0 := HO4.out.cell 0 _ rfl; have p1 := HO4.out.cell 1 _ rfl; have p2 := HY4.out.cell 2 _ rfl; have q0 := HZ4.out.cell 0 _ rfl; have q1 := HZ4.out.cell 1 _ rfl; have qf0 := HZ4.out.free 0; have qf1 := HZ4.out.free 1))
  obtain ⟨qp, hqp, _⟩ := HA3.out.out
  have HRs := Aside0.mk (ho4.Rt hqp.drew (by decide) (Kd.R_below HR3.out ((Below.refl _ _).drew)))
  clear hqp
  have HRf := Aside0.mk (Kd.R_set (Kd.R_set HRs.out HZ4.out.out (by decide) 0 (.slice A2 L2 c2)) (HZ4.out.put 0 (.slice A2 L2 c2)).out (by decide) 1 (.int .u64 n'))
  have HZf := Aside0.mk ((HZ4.out.put 0 (.slice A2 L2 c2)).put 1 (.int .u64 n'))
  have hOz : Only (fun i => i = w.heap.size + 1 + 1) w4 ((w4.setCell ⟨w.heap.size + 1 + 1, 0, none⟩ (.slice A2 L2 c2)).setCell ⟨w.heap.size + 1 + 1, 1, none⟩ (.int .u64 n')) :=
    Only.setCell (S := fun i => i = w.heap.size + 1 + 1) (Only.setCell (S := fun i => i = w.heap.size + 1 + 1) (Only.refl _ w4) (p := ⟨w.heap.size + 1 + 1, 0, none⟩) (Or.inl rfl) _) (p := ⟨w.heap.size + 1 + 1, 1, none⟩) (Or.inl rfl) _
  have HAf := Aside0.mk (hA4.only hOz (fun (e : p = w.heap.size + 1 + 1) => absurd e (by omega)) (Off.one HZ4.out (by decide)))
  have HOf : Aside0 (Only (fun i => i = p) w ((w4.setCell ⟨w.heap.size + 1 + 1, 0, none⟩ (.slice A2 L2 c2)).setCell ⟨w.heap.size + 1 + 1, 1, none⟩ (.int .u64 n'))) :=
    ⟨((Only.ofBelow HB3.out).drew.trans ho4).then hOz (fun i (e : i = w.heap.size + 1 + 1) hi => absurd hi (by omega))⟩
  go_wp2
  have z0 := HZf.out.cell 0 _ rfl
  have z1 := HZf.out.cell 1 _ rfl
  generalize (w4.setCell ⟨w.heap.size + 1 + 1, 0, none⟩ (.slice A2 L2 c2)).setCell ⟨w.heap.size + 1 + 1, 1, none⟩ (.int .u64 n') = wf at *
  clear p0 p1 p2 q0 q1 qf0 qf1 o0 o1 y2
  exact bodyPost_ret (v := .tuple #[.agg #[.slice A2 L2 c2, .int .u64 n'], .bool true]) (by simp [results, Try.results8, go_sem, z0, z1]) rfl ⟨_, rfl, HAf.out, HRf.out, HOf.out⟩

set_option maxRecDepth 100000 in
set_option maxHeartbeats 4000000 in
theorem doesGenPush (p : Nat) (vs vs' : List Int) (n n' k : Int) (ok : Bool) (a : Act) (hk : ¬ a.kind = 1) (hn : numOf n a = k) (K : Nat → Prop) (base : Nat) (A : Option Addr) (c : Nat) (w : World)
    (HRef : Aside0 (∀ W, w.heap.size ≤ W.heap.size → MK K W base (.slice A vs.length c) vs → Calls Try.prog 19 #[.agg #[.slice A vs.length c, .int .u64 n], .int .u64 k, .int .i64 a.n] W fun e w' => ∃ s, e = .returned (.tuple #[.agg #[s, .int .u64 n'], .bool ok]) ∧ MK K w' base s vs' ∧ Below W.heap.size W w'))
    (HPrg : Aside0 (∀ W, At encI TC TN W p vs n → Calls Try.prog 20 #[.pointer (some ⟨p, 0, none⟩), .int .u64 k, .int .i64 a.n] W fun e w' => e = .returned (.bool ok) ∧ At encI TC TN w' p vs' n' ∧ Only (fun i => i = p) W w'))
    (h : At encI TC TN w p vs n) (hR : MK K w base (.slice A vs.length c) vs) (hb : base ≤ w.heap.size) :
    Calls Try.prog 8 #[.pointer (some ⟨p, 0, none⟩), .agg #[.slice A vs.length c, .int .u64 n], .agg #[.int .i64 a.kind, .int .i64 a.off, .int .i64 a.n]] w fun e w' =>
      ∃ s, e = .returned (.tuple #[.agg #[s, .int .u64 n'], .bool true]) ∧ At encI TC TN w' p vs' n' ∧ MK K w' base s vs' ∧ Only (fun i => i = p) w w' := by
  have H := Aside0.mk h
  have HR := Aside0.mk hR
  have HBs := Aside0.mk hb
  have hz := zeroM
  obtain ⟨ak, ao, an⟩ := a
  simp only at hk HRef HPrg ⊢
  have hkb : (ak == 1) = false := by rw [beq_eq_false_iff_ne]; exact hk
  have hnn : IntKind.u64.wrap (n + IntKind.u64.wrap ao) = k := hn
  clear h hR hb hn
  go_enter Try.func8, Try.ntmps8
  go_wp2_with fail
  obtain ⟨W, hW⟩ : ∃ W, W = ((w.alloc (.cells #[.slice A vs.length c, .int .u64 n] TM)).alloc (.cells #[.int .i64 ak, .int .i64 ao, .int .i64 an] TA)).alloc (.cells #[.slice none 0 0, .int .u64 0] TM) := ⟨_, rfl⟩
  have HB0 : Aside0 (Below w.heap.size w W) := ⟨by rw [hW]; exact (((Below.refl _ _).alloc (Nat.le_refl _) _).alloc (by simp) _).alloc (by simp; omega) _⟩
  have HX : Aside0 (Blk W w.heap.size [.slice A vs.length c, .int .u64 n] TM) := ⟨by rw [hW]; exact ((Blk.newA w _ _).alloc _).alloc _⟩
  have HY : Aside0 (Blk W (w.heap.size + 1) [.int .i64 ak, .int .i64 ao, .int .i64 an] TA) := ⟨by rw [hW]; have := (Blk.newA (w.alloc (.cells #[.slice A vs.length c, .int .u64 n] TM)) #[.int .i64 ak, .int .i64 ao, .int .i64 an] TA).alloc (.cells #[.slice none 0 0, .int .u64 0] TM); simpa using this⟩
  have HZ : Aside0 (Blk W (w.heap.size + 1 + 1) [.slice none 0 0, .int .u64 0] TM) := ⟨by rw [hW]; have := Blk.newA ((w.alloc (.cells #[.slice A vs.length c, .int .u64 n] TM)).alloc (.cells #[.int .i64 ak, .int .i64 ao, .int .i64 an] TA)) #[.slice none 0 0, .int .u64 0] TM; simpa using this⟩
  rw [← hW]
  clear hW
  have HRW := Aside0.mk (Kd.R_below HR.out HB0.out)
  have HAW := Aside0.mk (H.out.below HB0.out)
  refine (HRef.out W HB0.out.size HRW.out).mono ?_
  rintro e w2 ⟨s, rfl, hR2, hb2⟩
  have HB2 : Aside0 (Below w.heap.size w w2) := ⟨HB0.out.trans (hb2.mono HB0.out.size)⟩
  have HX2 := Aside0.mk (HX.out.belowSize hb2)
  have HY2 := Aside0.mk (HY.out.belowSize hb2)
  have HZ2 := Aside0.mk (HZ.out.belowSize hb2)
  have HA2 := Aside0.mk (HAW.out.below hb2)
  have HR2 : Aside0 (MK K w2 base s vs') := ⟨hR2⟩
  obtain ⟨A2, c2, rfl⟩ := Kd.R_slice HR2.out
  obtain ⟨L2, HR2, HL2⟩ : ∃ L, Aside0 (MK K w2 base (.slice A2 L c2) vs') ∧ Aside0 (vs'.length = L) := ⟨_, HR2, ⟨rfl⟩⟩
  rw [HL2.out]
  clear hR2 hb2 HB0 HX HY HZ HRW HAW
  have y2 := HY2.out.cell 2 _ rfl
  go_upto_region 6 with (fail)
  obtain ⟨W3, hW3⟩ : ∃ W3, W3 = w2.alloc (.cells #[.slice A2 L2 c2, .int .u64 n'] TM) := ⟨_, rfl⟩
  have hb3 : Below w2.heap.size w2 W3 := by rw [hW3]; exact (Below.refl _ _).alloc (Nat.le_refl _) _
  have HB3 : Aside0 (Below w.heap.size w W3) := ⟨HB2.out.trans (hb3.mono HB2.out.size)⟩
  have HY3 := Aside0.mk (HY2.out.belowSize hb3)
  have HZ3 := Aside0.mk (HZ2.out.belowSize hb3)
  have HA3 := Aside0.mk (HA2.out.below hb3)
  have HR3 := Aside0.mk (Kd.R_below HR2.out hb3)
  have HO3 : Aside0 (Blk W3 w2.heap.size [.slice A2 L2 c2, .int .u64 n'] TM) := ⟨by rw [hW3]; exact Blk.newA w2 _ _⟩
  have hpl : p < w.heap.size := by obtain ⟨q, hq, _⟩ := H.out.out; exact hq.lt
  have h2l : w.heap.size + 1 + 1 < w2.heap.size := HZ2.out.lt
  rw [← hW3]
  clear hW3 hb3 HX2 HY2 HZ2 HA2 HR2 HB2 y2
  have o0 := HO3.out.cell 0 _ rfl
  have o1 := HO3.out.cell 1 _ rfl
  have y2 := HY3.out.cell 2 _ rfl
  generalize w2.heap.size = g9 at *
  have hne1 : g9 ≠ w.heap.size + 1 + 1 := by omega
  have hne2 : w.heap.size + 1 + 1 ≠ g9 := by omega
  go_region_held3 (fun w' => w'.cell? ⟨g9, 0, none⟩ = some (.slice A2 L2 c2) ∧ w'.cell? ⟨g9, 1, none⟩ = some (.int .u64 n') ∧ w'.cell? ⟨w.heap.size + 1, 2, none⟩ = some (.int .i64 an)) (first | exact ⟨‹_›, ‹_›, ‹_›⟩ | (simp; exact ⟨‹_›, ‹_›, ‹_›⟩) | go_keep)
    (first
      | (go_at_call 20; refine (HPrg.out _ (HA3.out.below ((Below.refl _ _).drew))).mono ?_; rintro e w4 ⟨rfl, hA4, ho4⟩; have HO4 := Aside0.mk (ho4.blk HO3.out.drew (fun (e : g9 = p) => absurd e (by omega))); have HY4 := Aside0.mk (ho4.blk HY3.out.drew (fun (e : w.heap.size + 1 = p) => absurd e (by omega))); have HZ4 := Aside0.mk (ho4.blk HZ3.out.drew (fun (e : w.heap.size + 1 + 1 = p) => absurd e (by omega))); have p0 := HO4.out.cell 0 _ rfl; have p1 := HO4.out.cell 1 _ rfl; have p2 := HY4.out.cell 2 _ rfl; have q0 := HZ4.out.cell 0 _ rfl; have q1 := HZ4.out.cell 1 _ rfl; have qf0 := HZ4.out.free 0; have qf1 := HZ4.out.free 1))
  obtain ⟨qp, hqp, _⟩ := HA3.out.out
  have HRs := Aside0.mk (ho4.Rt hqp.drew (by decide) (Kd.R_below HR3.out ((Below.refl _ _).drew)))
  clear hqp
  have HRf := Aside0.mk (Kd.R_set (Kd.R_set HRs.out HZ4.out.out (by decide) 0 (.slice A2 L2 c2)) (HZ4.out.put 0 (.slice A2 L2 c2)).out (by decide) 1 (.int .u64 n'))
  have HZf := Aside0.mk ((HZ4.out.put 0 (.slice A2 L2 c2)).put 1 (.int .u64 n'))
  have hOz : Only (fun i => i = w.heap.size + 1 + 1) w4 ((w4.setCell ⟨w.heap.size + 1 + 1, 0, none⟩ (.slice A2 L2 c2)).setCell ⟨w.heap.size + 1 + 1, 1, none⟩ (.int .u64 n')) :=
    Only.setCell (S := fun i => i = w.heap.size + 1 + 1) (Only.setCell (S := fun i => i = w.heap.size + 1 + 1) (Only.refl _ w4) (p := ⟨w.heap.size + 1 + 1, 0, none⟩) (Or.inl rfl) _) (p := ⟨w.heap.size + 1 + 1, 1, none⟩) (Or.inl rfl) _
  have HAf := Aside0.mk (hA4.only hOz (fun (e : p = w.heap.size + 1 + 1) => absurd e (by omega)) (Off.one HZ4.out (by decide)))
  have HOf : Aside0 (Only (fun i => i = p) w ((w4.setCell ⟨w.heap.size + 1 + 1, 0, none⟩ (.slice A2 L2 c2)).setCell ⟨w.heap.size + 1 + 1, 1, none⟩ (.int .u64 n'))) :=
    ⟨((Only.ofBelow HB3.out).drew.trans ho4).then hOz (fun i (e : i = w.heap.size + 1 + 1) hi => absurd hi (by omega))⟩
  go_wp2
  have z0 := HZf.out.cell 0 _ rfl
  have z1 := HZf.out.cell 1 _ rfl
  generalize (w4.setCell ⟨w.heap.size + 1 + 1, 0, none⟩ (.slice A2 L2 c2)).setCell ⟨w.heap.size + 1 + 1, 1, none⟩ (.int .u64 n') = wf at *
  clear p0 p1 p2 q0 q1 qf0 qf1 o0 o1 y2
  exact bodyPost_ret (v := .tuple #[.agg #[.slice A2 L2 c2, .int .u64 n'], .bool true]) (by simp [results, Try.results8, go_sem, z0, z1]) rfl ⟨_, rfl, HAf.out, HRf.out, HOf.out⟩

/-- What a call leaves of a place: its values, the newest one's number. -/
def stepV (vs : List Int) (n : Int) (a : Act) : List Int × Int :=
  if numOf n a = n then (if a.kind = 1 then (vs.take (if a.n < 1 then 1 else a.n.toNat), n) else (a.n :: vs, IntKind.u64.wrap (n + 1))) else (vs, n)
theorem stepV_len (vs : List Int) (n : Int) (a : Act) : (stepV vs n a).1.length ≤ vs.length + 1 := by
  unfold stepV
  split
  · split
    · simp only [List.length_take]; omega
    · simp
  · simp

theorem doesCalls (p : Nat) (vs : List Int) (n : Int) (a : Act) (K : Nat → Prop) (base : Nat) (A : Option Addr) (c : Nat) (w : World) (h : At encI TC TN w p vs n) (hR : MK K w base (.slice A vs.length c) vs) (hb : base ≤ w.heap.size) (hl : vs.length ≤ 17592186044000) (hK : ∀ i, w.heap.size ≤ i → K i) :
    Calls Try.prog 8 #[.pointer (some ⟨p, 0, none⟩), .agg #[.slice A vs.length c, .int .u64 n], .agg #[.int .i64 a.kind, .int .i64 a.off, .int .i64 a.n]] w fun e w' =>
      ∃ s, e = .returned (.tuple #[.agg #[s, .int .u64 (stepV vs n a).2], .bool true]) ∧ At encI TC TN w' p (stepV vs n a).1 (stepV vs n a).2 ∧ MK K w' base s (stepV vs n a).1 ∧ Only (fun i => i = p) w w' := by
  have hrd : ∀ W, MK K W base (.slice A vs.length c) vs → (Kd.int .i64).C W A vs.length vs ∧ vs.length ≤ c := fun W hW => ⟨(Kd.R_reads' hW).2.2, (Kd.R_reads' hW).2.1⟩
  by_cases hk : a.kind = 1
  · by_cases hn : numOf n a = n
    · have hM : (a.n < 1 ∧ (if a.n < 1 then 1 else a.n.toNat) = 1) ∨ (1 ≤ a.n ∧ a.n = ((if a.n < 1 then 1 else a.n.toNat : Nat) : Int)) := by
        by_cases h1 : a.n < 1
        · left; exact ⟨h1, by rw [if_pos h1]⟩
        · right; refine ⟨by omega, ?_⟩; rw [if_neg h1]; omega
      have hs : stepV vs n a = (vs.take (if a.n < 1 then 1 else a.n.toNat), n) := by unfold stepV; rw [if_pos hn, if_pos hk]
      rw [hs]
      refine doesGenKeep p vs _ n n n true a hk hn K base A c w ⟨fun W hbW hW => ?_⟩ ⟨fun W hW => keepAny p vs n a.n _ hM hl W hW⟩ h hR hb
      exact (refKeepHit A c vs n a.n _ hM W (hrd W hW).1 (hrd W hW).2 hl).mono fun e w' ⟨s, he, hr, hbl⟩ => ⟨s, he, Kd.R_lower (Kd.R_mono (Kd.R_bound hr) (fun i hi => hK i (Nat.le_trans hbW hi.2.1))) (Nat.le_trans hb hbW), hbl⟩
    · have hs : stepV vs n a = (vs, n) := by unfold stepV; rw [if_neg hn]
      rw [hs]
      refine doesGenKeep p vs vs n n (numOf n a) false a hk rfl K base A c w ⟨fun W hbW hW => ?_⟩ ⟨fun W hW => ?_⟩ h hR hb
      · exact (refKeepMiss _ n _ a.n hn A vs.length c rfl W).mono fun e w' ⟨he, hbl⟩ => ⟨_, he, Kd.R_below hW hbl, hbl⟩
      · exact (keepMiss p vs n _ a.n hn W hW).mono fun e w' ⟨he, hd⟩ => ⟨he, hW.below hd.below, Only.ofBelow hd.below⟩
  · by_cases hn : numOf n a = n
    · have hs : stepV vs n a = (a.n :: vs, IntKind.u64.wrap (n + 1)) := by unfold stepV; rw [if_pos hn, if_neg hk]
      rw [hs]
      refine doesGenPush p vs _ n _ n true a hk hn K base A c w ⟨fun W hbW hW => ?_⟩ ⟨fun W hW => pushHit p vs n a.n W hW⟩ h hR hb
      exact (refPushHit A c vs n a.n W (hrd W hW).1 (hrd W hW).2 hl).mono fun e w' ⟨s, he, hr, hbl⟩ => ⟨s, he, Kd.R_lower (Kd.R_mono (Kd.R_bound hr) (fun i hi => hK i (Nat.le_trans hbW hi.2.1))) (Nat.le_trans hb hbW), hbl⟩
    · have hs : stepV vs n a = (vs, n) := by unfold stepV; rw [if_neg hn]
      rw [hs]
      refine doesGenPush p vs vs n n (numOf n a) false a hk rfl K base A c w ⟨fun W hbW hW => ?_⟩ ⟨fun W hW => ?_⟩ h hR hb
      · exact (refPushMiss _ n _ a.n hn A vs.length c rfl W).mono fun e w' ⟨he, hbl⟩ => ⟨_, he, Kd.R_below hW hbl, hbl⟩
      · exact (pushMiss p vs n _ a.n hn W hW).mono fun e w' ⟨he, hd⟩ => ⟨he, hW.below hd.below, Only.ofBelow hd.below⟩
end Go.Proofs.Ytkljhdmbhaffeaa.Cell

