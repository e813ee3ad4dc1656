/- The walk of the law SnapHolds. -/
import Derived.Test.YtohpcifpnfomnaaSnapPlaysW
import Derived.Test.YtohpcifpnfomnaaSnapFullW
import Derived.Deep.QuietTactic
import Derived.BigQuiet
namespace Go.Proofs.Ytohpcifpnfomnaa.Snap
set_option linter.unusedVariables false
set_option linter.unusedSimpArgs false
open Go.RowKit Go.Proofs.YtohpcifpnfomnaaW.PrintWords Go.Proofs.Ytohpcifpnfomnaa.Kit Go.MuLone

/-- Whoever is there holds the floor. -/
def Good (fl : Int) (rs : List Int) : Prop := ∀ i : Nat, i < 256 → rd rs (i : Int) = 0 ∨ fl + 1 ≤ rd rs (i : Int)
theorem Good.set {fl : Int} {rs : List Int} (h : Good fl rs) (hl : rs.length = 256) (q : Nat) (hq : q < 256) (v : Int) (hv : v = 0 ∨ fl + 1 ≤ v) : Good fl (rs.set q v) := by
  intro i hi
  rw [rd_set rs q i v (by omega) (by omega)]
  split
  · exact hv
  · exact h i hi
theorem enterHold (p : Nat) (fl s : Int) (rs : List Int) (hs : 0 ≤ s) (hl : rs.length = 256) (hg : Good fl rs) :
    ∃ (r en : Int) (rs' : List Int), Good fl rs' ∧
      ∀ w, Sn w p 0 fl rs → Calls Try.prog 8 #[.pointer (some ⟨p, 0, none⟩), .int .u64 s] w fun e w' => e = .returned (.tuple #[.int .i64 r, .int .i64 en]) ∧ Sn w' p 0 fl rs' ∧ Only (fun i => i = p) w w' := by
  by_cases h1 : 4611686018427387904 < s
  · exact ⟨0, 1, rs, hg, fun w h => enterGen p fl s 0 1 rs rs w h ⟨fun W hW => (enterArg p s W h1).mono fun e w' ⟨he, hw⟩ => ⟨he, hw ▸ hW, hw ▸ Only.refl _ _⟩⟩⟩
  · by_cases h2 : s < fl
    · exact ⟨0, 101, rs, hg, fun w h => enterGen p fl s 0 101 rs rs w h ⟨fun W hW => (enterLow p 1 fl s rs W hW h2).mono fun e w' ⟨he, hw⟩ => ⟨he, hw ▸ hW, hw ▸ Only.refl _ _⟩⟩⟩
    · rcases firstFree rs 256 with hf | ⟨q, hq, hz, hf⟩
      · exact ⟨0, 2, rs, hg, fun w h => enterGen p fl s 0 2 rs rs w h ⟨fun W hW => (enterFull p 1 fl s rs W hW (by omega) (by omega) hf).mono fun e w' ⟨he, hw⟩ => ⟨he, hw ▸ hW, hw ▸ Only.refl _ _⟩⟩⟩
      · exact ⟨q, 0, rs.set q (s + 1), hg.set hl q hq _ (Or.inr (by omega)), fun w h => enterGen p fl s q 0 rs _ w h ⟨fun W hW => enterHit p 1 fl s rs q W hW (by omega) (by omega) hq hz hf⟩⟩
theorem leaveHold (p : Nat) (fl s : Int) (rs : List Int) (hl : rs.length = 256) (hg : Good fl rs) :
    ∃ (en : Int) (rs' : List Int), Good fl rs' ∧
      ∀ w, Sn w p 0 fl rs → Calls Try.prog 9 #[.pointer (some ⟨p, 0, none⟩), .int .i64 s] w fun e w' => e = .returned (.int .i64 en) ∧ Sn w' p 0 fl rs' ∧ Only (fun i => i = p) w w' := by
  by_cases h : s < 0 ∨ 256 ≤ s
  · exact ⟨100, rs, hg, fun w hw => leaveGen p fl s 100 rs rs w hw ⟨fun W hW => (leaveOut p s W h).mono fun e w' ⟨he, hw⟩ => ⟨he, hw ▸ hW, hw ▸ Only.refl _ _⟩⟩⟩
  · obtain ⟨q, rfl⟩ : ∃ q : Nat, s = q := ⟨s.toNat, by omega⟩
    have hq : q < 256 := by omega
    exact ⟨_, rs.set q 0, hg.set hl q hq _ (Or.inl rfl), fun w hw => leaveGen p fl q _ rs _ w hw ⟨fun W hW => leaveIn p 1 fl rs q W hW hq⟩⟩
theorem least_le (rs : List Int) (j : Nat) : ∀ i : Nat, i < j → 0 < rd rs (i : Int) → (leastTo rs j).2 = true ∧ (leastTo rs j).1 ≤ rd rs (i : Int) - 1 := by
  induction j with
  | zero => intro i h; omega
  | succ j ih =>
    intro i hi hp
    rw [leastTo]
    by_cases e : i = j
    · subst e
      unfold leastStep
      by_cases c : 0 < rd rs (i : Int) ∧ ((leastTo rs i).2 = false ∨ rd rs (i : Int) - 1 < (leastTo rs i).1)
      · rw [if_pos c]; exact ⟨rfl, Int.le_refl _⟩
      · rw [if_neg c]
        cases h2 : (leastTo rs i).2 with
        | false => exact absurd ⟨hp, Or.inl h2⟩ c
        | true => exact ⟨rfl, by
            by_cases h3 : rd rs (i : Int) - 1 < (leastTo rs i).1
            · exact absurd ⟨hp, Or.inr h3⟩ c
            · omega⟩
    · obtain ⟨h1, h2⟩ := ih i (by omega) hp
      unfold leastStep
      by_cases c : 0 < rd rs (j : Int) ∧ ((leastTo rs j).2 = false ∨ rd rs (j : Int) - 1 < (leastTo rs j).1)
      · rw [if_pos c]
        refine ⟨rfl, ?_⟩
        rcases c.2 with h3 | h3
        · rw [h1] at h3; exact absurd h3 (by decide)
        · simp only; omega
      · rw [if_neg c]; exact ⟨h1, h2⟩
theorem Good.raise {fl : Int} {rs : List Int} (h : Good fl rs) (hr : ∀ i : Nat, i < 256 → 0 ≤ rd rs (i : Int)) (x : Int) : fl ≤ upTo fl (capL (leastTo rs 256) x) ∧ Good (upTo fl (capL (leastTo rs 256) x)) rs := by
  refine ⟨by unfold upTo; split <;> omega, fun i hi => ?_⟩
  by_cases e : rd rs (i : Int) = 0
  · exact Or.inl e
  · have hp := hr i hi
    obtain ⟨h1, h2⟩ := least_le rs 256 i hi (by omega)
    have h3 := h i hi
    have h4 : capL (leastTo rs 256) x ≤ rd rs (i : Int) - 1 := by
      unfold capL
      rw [h1, cond_true]
      split <;> omega
    refine Or.inr ?_
    unfold upTo
    split <;> omega
/-- Each of those that are there: its slot, its stamp. -/
theorem rdsFrom_holds (l : List Int) (fl : Int) : ∀ i, (∀ j : Nat, j < l.length → rd l (j : Int) = 0 ∨ fl + 1 ≤ rd l (j : Int)) → ∀ x ∈ rdsFrom i l, fl ≤ x.f1 := by
  induction l with
  | nil => intro i _ x hx; simp [rdsFrom] at hx
  | cons v t ih =>
    intro i h x hx
    rw [rdsFrom, List.mem_append] at hx
    rcases hx with hx | hx
    · have h0 := h 0 (by simp)
      unfold one at hx
      split at hx
      · rw [List.mem_singleton] at hx
        subst hx
        simp [rd] at h0
        simp only
        omega
      · simp at hx
    · refine ih (i + 1) (fun j hj => ?_) x hx
      have := h (j + 1) (by rw [List.length_cons]; omega)
      simpa [rd] using this
theorem rdsFrom_rises (l : List Int) : ∀ i, List.Pairwise (fun a b : RS => a.f0 < b.f0) (rdsFrom i l) := by
  induction l with
  | nil => intro i; exact List.Pairwise.nil
  | cons v t ih =>
    intro i
    rw [rdsFrom, List.pairwise_append]
    refine ⟨?_, ih (i + 1), fun a ha b hb => ?_⟩
    · unfold one
      split
      · exact List.pairwise_singleton _ _
      · exact List.Pairwise.nil
    · have hb' := rdsFrom_mem t (i + 1) b hb
      unfold one at ha
      split at ha
      · rw [List.mem_singleton] at ha
        subst ha
        simp only
        omega
      · simp at ha
theorem holds_at {fl : Int} {rs : List Int} (h : Good fl rs) (hl : rs.length = 256) (q : Nat) (hq : q < (rds rs).length) : fl ≤ (rdR (rds rs) (q : Int)).f1 := by
  rw [rdR_get _ q hq]
  exact rdsFrom_holds rs fl 0 (fun j hj => h j (by omega)) _ (List.getElem_mem hq)
theorem rises_at {rs : List Int} (q : Nat) (hq : q + 1 < (rds rs).length) : (rdR (rds rs) (q : Int)).f0 < (rdR (rds rs) ((q + 1 : Nat) : Int)).f0 := by
  rw [rdR_get _ q (by omega), rdR_get _ (q + 1) hq]
  exact List.pairwise_iff_getElem.1 (rdsFrom_rises rs 0) q (q + 1) _ _ (Nat.lt_succ_self q)
theorem rk_at {w : World} {A : Option Addr} {n : Nat} {xs : List RS} (h : rk.C w A n xs) (i : Nat) (hi : i < n) : ∃ b o, A = some ⟨b, o, none⟩ ∧ w.cell? ⟨b, o + i * 2, none⟩ = some (.int .i64 (rdR xs (i : Int)).f0) ∧ w.cell? ⟨b, o + i * 2 + 1, none⟩ = some (.int .u64 (rdR xs (i : Int)).f1) := by
  obtain ⟨b, o, x, cs, rfl, hx, hK, hc⟩ := C_at (s := 2) rfl (by omega) h i hi
  have e := PSnapPlays.k39_open hK
  subst e
  have : rdR xs (i : Int) = x := by rw [rdR_nat, List.getD_eq_getElem?_getD, hx]; rfl
  rw [this]
  exact ⟨b, o, rfl, hc 0 _ rfl, hc 1 _ rfl⟩
theorem Good.zeros : Good 0 zeros := fun i hi => Or.inl (zeros_rd _)

set_option maxRecDepth 100000 in
set_option maxHeartbeats 8000000 in
theorem snapHolds_walk (A : Option Addr) (c : Nat) (xs : List Op) (w : World) (hC : kOp.C w A xs.length xs) (hxl : xs.length * 24 ≤ 140737488351232) (hst : ∀ x ∈ xs, 0 ≤ x.stamp) :
    Calls Try.prog 4 #[.slice A xs.length c] w fun e w' => e = .returned (.bool true) ∧ Below w.heap.size w w' := by
  have HC := Aside0.mk hC
  have HSt := Aside0.mk hst
  obtain ⟨m, hm'⟩ : ∃ m, m = xs.length := ⟨_, rfl⟩
  have Hm := Aside0.mk hm'
  rw [← hm'] at hxl ⊢
  clear hm' hC hst
  have HN := Aside0.mk (newCalls 0 (by decide) (by decide) w)
  have HG0 := Aside0.mk Good.zeros
  generalize zeros = rs0 at *
  go_enter Try.func4, Try.ntmps4
  go_wp2_with fail
  refine HN.out.mono ?_
  rintro e w1 ⟨rfl, ha, hb⟩
  have HA1 : Aside0 (Cl w w1 w.heap.size 0 rs0) := ⟨⟨ha, Nat.le_refl _, hb⟩⟩
  clear ha hb HN
  go_wp2_with fail
  go_loopw [5, 6] (fun f i wr => ∃ (j : Nat) (fl : Int) (rs : List Int), j ≤ m ∧ f = .int .u64 fl ∧ i = .int .i64 j ∧ Aside0 (Good fl rs) ∧ Aside0 (Cl w wr w.heap.size fl rs)) (fun _ i _ => m - (intOf i).toNat)
  case atStart => exact ⟨0, 0, rs0, Nat.zero_le _, rfl, rfl, HG0, HA1⟩
  case round =>
    clear HA1 HG0
    obtain ⟨j, fl, rs, hj, rfl, rfl, HG, HA⟩ := hrel
    by_cases hlt : j < m
    · obtain ⟨b, o, x, e, hx, hx0, hx1, hx2⟩ := kOp_at HC.out j (by rw [← Hm.out]; exact hlt)
      subst e
      have hst := HSt.out x (List.mem_of_getElem? hx)
      have hx0 := pw_cell_below HA.out.below hx0
      have hx1 := pw_cell_below HA.out.below hx1
      have hx2 := pw_cell_below HA.out.below hx2
      clear hx
      obtain ⟨k, st, ii⟩ := x
      simp only at hx0 hx1 hx2 hst
      go_upto_block 2 with (fail)
      go_cut [] (fun wc => ∃ (fl' : Int) (rs' : List Int), Aside0 (fl ≤ fl') ∧ Aside0 (Good fl' rs') ∧ Aside0 (Cl w wc w.heap.size fl' rs'))
      case first =>
        have hl := HA.out.sn.len
        have hr : ∀ i : Nat, i < 256 → 0 ≤ rd rs (i : Int) := fun i hi => (HA.out.sn.r0 i hi).1
        by_cases h1 : k = 1
        · subst h1
          obtain ⟨r, en, rs', hg', hc'⟩ := enterHold w.heap.size fl st rs hst hl HG.out
          have HG' := Aside0.mk hg'
          have HC' := Aside0.mk hc'
          clear hg' hc' hr hl hx2
          go_wp2_with fail
          refine (HC'.out _ HA.out.sn).mono ?_
          rintro e w2 ⟨rfl, ha, ho⟩
          have HA2 := Aside0.mk (HA.out.turned ha ho)
          clear ha ho HA hx0 hx1
          go_wp2
          go_meet
          exact ⟨fl, rs', ⟨Int.le_refl _⟩, HG', HA2⟩
        · by_cases h2 : k = 2
          · subst h2
            obtain ⟨en, rs', hg', hc'⟩ := leaveHold w.heap.size fl ii rs hl HG.out
            have HG' := Aside0.mk hg'
            have HC' := Aside0.mk hc'
            clear hg' hc' hr hl hx1 h1
            go_wp2_with fail
            refine (HC'.out _ HA.out.sn).mono ?_
            rintro e w2 ⟨rfl, ha, ho⟩
            have HA2 := Aside0.mk (HA.out.turned ha ho)
            clear ha ho HA hx0 hx2
            go_wp2
            go_meet
            exact ⟨fl, rs', ⟨Int.le_refl _⟩, HG', HA2⟩
          · by_cases h3 : k = 3
            · subst h3
              have HG' := Aside0.mk (HG.out.raise hr (capM st))
              have HC' := Aside0.mk (lraiseCalls w.heap.size fl st rs _ HA.out.sn hst)
              clear hr hl hx2 h1 h2
              generalize upTo fl (capL (leastTo rs 256) (capM st)) = fl' at *
              go_wp2_with fail
              refine (HC'.out).mono ?_
              rintro e w2 ⟨rfl, ha, ho⟩
              have HA2 := Aside0.mk (HA.out.turned ha ho)
              clear ha ho HA hx0 hx1 HC'
              go_wp2
              go_meet
              exact ⟨fl', rs, ⟨HG'.out.1⟩, ⟨HG'.out.2⟩, HA2⟩
            · have b1 : (k == 1) = false := by rw [beq_eq_false_iff_ne]; exact h1
              have b2 : (k == 2) = false := by rw [beq_eq_false_iff_ne]; exact h2
              have b3 : (k == 3) = false := by rw [beq_eq_false_iff_ne]; exact h3
              clear h1 h2 h3 hr hl hx1 hx2
              go_wp2
              go_meet
              exact ⟨fl, rs, ⟨Int.le_refl _⟩, HG, HA⟩
      case rest =>
        clear hx0 hx1 hx2 HA HG
        obtain ⟨fl', rs', HF, HG, HA⟩ := hcut
        go_wp2_with fail
        refine (floorCalls _ _ _ _ _ HA.out.sn).mono ?_
        rintro e w3 ⟨rfl, rfl⟩
        go_wp2_with fail
        refine (readersCalls _ _ _ _ HA.out.sn).mono ?_
        rintro e w4 ⟨v4, rfl, hR4, h4, ho4⟩
        have HL := Aside0.mk (rds_len rs')
        have HLn := Aside0.mk HA.out.sn.len
        have HA4 := Aside0.mk (HA.out.turned h4 ho4)
        obtain ⟨A4, c4, rfl⟩ := Kd.R_slice hR4
        have HR4 := Aside0.mk (Kd.R_reads' hR4).2.2
        have HH : Aside0 (∀ q : Nat, q < (rds rs').length → fl' ≤ (rdR (rds rs') (q : Int)).f1) := ⟨fun q hq => holds_at HG.out HLn.out q hq⟩
        have HS : Aside0 (∀ q : Nat, q + 1 < (rds rs').length → (rdR (rds rs') (q : Int)).f0 < (rdR (rds rs') ((q + 1 : Nat) : Int)).f0) := ⟨fun q hq => rises_at q hq⟩
        rw [HLn.out] at HL
        clear h4 ho4 hR4 HA HLn
        have hff := HF.out
        have d0 : decide (fl' < fl) = false := decide_eq_false (by omega)
        clear hff
        generalize hos : rds rs' = os at *
        clear hos
        have hol : os.length ≤ 256 := HL.out
        go_wp2_with fail
        go_loopw [9] (fun i wz => ∃ q : Nat, q ≤ os.length ∧ i = .int .i64 q ∧ Aside0 (Cl w wz w.heap.size fl' rs') ∧ Aside0 (rk.C wz A4 os.length os)) (fun i _ => os.length - (intOf i).toNat)
        case atStart => exact ⟨0, Nat.zero_le _, rfl, HA4, HR4⟩
        case round =>
          clear HA4 HR4 d0
          obtain ⟨q, hq, rfl, HAq, HRq⟩ := hrel
          by_cases hqlt : q < os.length
          · obtain ⟨b2, o2, e, hy, hz⟩ := rk_at HRq.out q hqlt
            have hh := HH.out q hqlt
            cases q with
            | zero =>
              subst e
              generalize rdR os ((0 : Nat) : Int) = r at *
              simp only [Nat.zero_mul, Nat.add_zero] at hy hz
              have d1 : decide (r.f1 < fl') = false := decide_eq_false (by omega)
              go_wp2_with fail
              go_quiet (fail)
              have HAn := Aside0.mk (HAq.out.belowed (pw_below_drewN (Below.refl _ _) nq))
              have HRn := Aside0.mk (Kd.C_below HRq.out (pw_below_drewN (Below.refl _ _) nq))
              clear HAq HRq hy hz hh d1
              go_wp2
              go_roundw
              case rel => exact ⟨1, by omega, by go_num, HAn, HRn⟩
              case measure => simp [intOf]; omega
            | succ q1 =>
              obtain ⟨b3, o3, e3, hy3, hz3⟩ := rk_at HRq.out q1 (by omega)
              have hs3 := HS.out q1 hqlt
              subst e
              injection e3 with e3
              injection e3 with e4 e5
              subst e4 e5
              generalize rdR os ((q1 + 1 : Nat) : Int) = r at *
              generalize rdR os (q1 : Int) = r2 at *
              have e0 : ((q1 + 1 : Nat) : Int) = (q1 : Int) + 1 := rfl
              rw [e0]
              have i1 : IntKind.i64.wrap ((q1 : Int) + 1 - 1) = (q1 : Int) := by rw [Int.add_sub_cancel]; exact IntWalk.i64_in _ (by omega)
              have i5 : ((q1 : Int) + 1).toNat = q1 + 1 := by omega
              have i6 : (q1 : Int) + 1 < os.length := by omega
              have i7 : (q1 : Int) < os.length := by omega
              have d1 : decide (r.f1 < fl') = false := decide_eq_false (by omega)
              have d3 : decide (r.f0 ≤ r2.f0) = false := decide_eq_false (by omega)
              have i8 : (0 : Int) ≤ (q1 : Int) + 1 := by omega
              have d4 : decide ((0 : Int) < (q1 : Int) + 1) = true := decide_eq_true (by omega)
              clear e0 hz3
              go_wp2_with fail
              go_quiet (fail)
              have HAn := Aside0.mk (HAq.out.belowed (pw_below_drewN (Below.refl _ _) nq))
              have HRn := Aside0.mk (Kd.C_below HRq.out (pw_below_drewN (Below.refl _ _) nq))
              clear HAq HRq hy hz hy3 hh hs3 i1 i5 i6 i7 i8 d1 d3 d4
              go_wp2
              go_roundw
              case rel => exact ⟨q1 + 1 + 1, by omega, by go_num, HAn, HRn⟩
              case measure => simp [intOf]; omega
          · go_wp2
            go_roundw
            case rel => exact ⟨j + 1, fl', rs', by omega, rfl, by go_num, HG, HAq⟩
            case measure => simp [intOf]; omega
    · go_wp2_with fail
      refine (awakeCalls _).mono ?_
      rintro e w7 ⟨rfl, hb7⟩
      have HB7 : Aside0 (Below w.heap.size w w7) := ⟨HA.out.below.trans (hb7.mono HA.out.below.size)⟩
      clear hb7 HA
      go_wp2
      go_ret
      exact ⟨rfl, HB7.out⟩
end Go.Proofs.Ytohpcifpnfomnaa.Snap
