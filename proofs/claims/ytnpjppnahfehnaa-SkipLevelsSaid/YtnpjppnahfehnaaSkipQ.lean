/- Layer 12's laws' own made: a list behind some calls. -/
import Derived.Test.YtnpjppnahfehnaaSkipP
import Derived.Test.YtnpjppnahfehnaaSkipOp
import Derived.Deep.CutBlock
import Derived.Deep.DeepCutAuto
namespace Go.Proofs.Ytnpjppnahfehnaa.Skip
set_option linter.unusedVariables false
set_option linter.unusedSimpArgs false
open Go.RowKit Go.Proofs.YtnpjppnahfehnaaW.PrintWords Go.Proofs.Ytnpjppnahfehnaa.Kit Go.MuLone

def hOf (hts : Bool) (h : Int) : Int := if hts = true ∧ 1 ≤ h ∧ h ≤ 16 then h else 1
theorem hOf_in (hts : Bool) (h : Int) : 1 ≤ hOf hts h ∧ hOf hts h ≤ 16 := by unfold hOf; split <;> omega
def stepE (hts : Bool) (l : List En) (x : Op) : List En :=
  if x.op.kind = 1 ∨ x.op.kind = 2 then (if (x.op.key.size : Int) ≤ 1025 then putE l x.op.key x.op.value (hOf hts x.height) else l) else if x.op.kind = 3 then delE l x.op.key else l
def runE (hts : Bool) (xs : List Op) : List En := xs.foldl (stepE hts) []
theorem stepE_len (hts : Bool) (l : List En) (x : Op) : (stepE hts l x).length ≤ l.length + 1 := by
  unfold stepE
  split
  · split
    · exact putE_len _ _ _ _
    · omega
  · split
    · have := delE_len l x.op.key; omega
    · omega
theorem runE_take (hts : Bool) (xs : List Op) (j : Nat) (x : Op) (h : xs[j]? = some x) : runE hts (xs.take (j + 1)) = stepE hts (runE hts (xs.take j)) x := by
  obtain ⟨hj, e⟩ := List.getElem?_eq_some_iff.1 h
  unfold runE
  rw [List.take_succ_eq_append_getElem hj, List.foldl_append, e]
  rfl
theorem runE_len (hts : Bool) (xs : List Op) (j : Nat) : (runE hts (xs.take j)).length ≤ j := by
  induction j with
  | zero => simp [runE]
  | succ j ih =>
    cases h : xs[j]? with
    | none =>
      have e : xs.take (j + 1) = xs.take j := by
        rw [List.getElem?_eq_none_iff] at h
        rw [List.take_of_length_le (by omega), List.take_of_length_le h]
      rw [e]; omega
    | some x =>
      rw [runE_take hts xs j x h]
      have := stepE_len hts (runE hts (xs.take j)) x
      omega
theorem map_len {ns : List Nd} {l : List En} (h : ns.map en = l) : ns.length = l.length := by rw [← h, List.length_map]

set_option maxRecDepth 100000 in
set_option maxHeartbeats 8000000 in
theorem madeCalls (A : Option Addr) (c : Nat) (xs : List Op) (hts : Bool) (w : World) (hC : kOp.C w A xs.length xs) (hxl : xs.length * 40 ≤ 140737488351232) :
    Calls Try.prog 7 #[.slice A xs.length c, .bool hts] w fun e w' => ∃ (g : Nat) (hd : Nd) (ns : List Nd), e = .returned (.pointer (some ⟨g, 0, none⟩)) ∧ Ol w w' g hd ns ∧ ns.map en = runE hts xs := by
  have HC := Aside0.mk hC
  obtain ⟨m, hm'⟩ : ∃ m, m = xs.length := ⟨_, rfl⟩
  have Hm := Aside0.mk hm'
  rw [← hm'] at hxl ⊢
  clear hm' hC
  go_enter Try.func7, Try.ntmps7
  go_wp2_with fail
  refine (newCalls w).mono ?_
  rintro e w1 ⟨g, hd, rfl, ha⟩
  have HA0 := Aside0.mk (Ol.new w w1 g hd ha)
  clear ha
  go_wp2_with fail
  go_loopw [6] (fun i wr => ∃ (j : Nat) (ns : List Nd), j ≤ m ∧ i = .int .i64 j ∧ Aside0 (Ol w wr g hd ns) ∧ Aside0 (ns.map en = runE hts (xs.take j))) (fun i _ => m - (intOf i).toNat)
  case atStart => exact ⟨0, [], Nat.zero_le _, rfl, HA0, ⟨rfl⟩⟩
  case round =>
    clear HA0
    obtain ⟨j, ns, hj, rfl, HA, HE⟩ := hrel
    by_cases hlt : j < m
    · obtain ⟨b, o, x, e, hx, hx0, hx1, hx2, hx3⟩ := kOp_at HC.out j (by rw [← Hm.out]; exact hlt)
      subst e
      have hx0 := pw_cell_below HA.out.below hx0
      have hx1 := pw_cell_below HA.out.below hx1
      have hx2 := pw_cell_below HA.out.below hx2
      have hx3 := pw_cell_below HA.out.below hx3
      have HT := Aside0.mk (runE_take hts xs j x hx)
      have HLn := Aside0.mk (by have := runE_len hts xs j; rw [← HE.out, List.length_map] at this; exact this)
      obtain ⟨⟨k, key, v⟩, ht⟩ := x
      simp only at hx0 hx1 hx2 hx3
      clear hx
      rw [show stepE hts (runE hts (xs.take j)) ⟨⟨k, key, v⟩, ht⟩ = (if k = 1 ∨ k = 2 then (if (key.size : Int) ≤ 1025 then putE (runE hts (xs.take j)) key v (hOf hts ht) else runE hts (xs.take j)) else if k = 3 then delE (runE hts (xs.take j)) key else runE hts (xs.take j)) from rfl] at HT
      go_upto_region 6 with (fail)
      obtain ⟨W, hW⟩ : ∃ W, W = wr.alloc (.cells #[.int .i64 k, .string key, .int .i64 v, .int .i64 ht] TOp) := ⟨_, rfl⟩
      have hbW : Below wr.heap.size wr W := by rw [hW]; exact (Below.refl _ _).alloc (Nat.le_refl _) _
      have HX : Aside0 (Blk W wr.heap.size [.int .i64 k, .string key, .int .i64 v, .int .i64 ht] TOp) := ⟨by rw [hW]; exact Blk.newA wr _ _⟩
      have HAW := Aside0.mk (HA.out.belowed hbW)
      have HWs : Aside0 (w.heap.size ≤ wr.heap.size) := ⟨HA.out.below.size⟩
      have HFo : Aside0 (∀ i, Fp g hd ns i → i ≠ wr.heap.size) := ⟨fun i hi e => by have := HA.out.sk.lt hi; omega⟩
      rw [← hW]
      clear hW hbW HA hx0 hx1 hx2 hx3
      generalize wr.heap.size = ob at *
      have q0 := HX.out.cell 0 _ rfl
      by_cases hk : k = 1 ∨ k = 2
      · rw [if_pos hk] at HT
        rcases hk with rfl | rfl
        · have q3 := HX.out.cell 3 _ rfl
          cases hts with
          | false =>
            have HH : Aside0 (hOf false ht = 1) := ⟨by unfold hOf; rw [if_neg (fun h => by cases h.1)]⟩
            have HXn : Aside0 (Blk (W.setCell ⟨ob, 3, none⟩ (.int .i64 1)) ob [.int .i64 1, .string key, .int .i64 v, .int .i64 1] TOp) := ⟨HX.out.put 3 _⟩
            have hon : Only (fun i => i = ob) W (W.setCell ⟨ob, 3, none⟩ (.int .i64 1)) := Only.setCell (S := fun i => i = ob) (Only.refl _ W) (p := ⟨ob, 3, none⟩) (Or.inl rfl) _
            have HAn : Aside0 (Ol w (W.setCell ⟨ob, 3, none⟩ (.int .i64 1)) g hd ns) := ⟨⟨HAW.out.sk.only hon (fun i hi e => HFo.out i hi e), HAW.out.fp, HAW.out.below.trans (hon.below (fun i e => by have := HWs.out; omega) HAW.out.below.size)⟩⟩
            have f3 := HX.out.free 3
            clear hon
            rw [HH.out] at HT
            have q1 := HX.out.cell 1 _ rfl
            have q2 := HX.out.cell 2 _ rfl
            by_cases hks : (key.size : Int) ≤ 1025
            · rw [if_pos hks] at HT
              have HP := Aside0.mk (putAll g hd ns key v 1 _ HAn.out.sk hks (by omega) (by omega) (by have := HLn.out; omega))
              clear hks HX HFo
              go_wp2_with fail
              refine HP.out.mono ?_
              rintro e w5 ⟨ns', rfl, hq, hl⟩
              have HA5 := Aside0.mk (HAn.out.turned hl)
              have HE5 : Aside0 (ns'.map en = runE false (xs.take (j + 1))) := ⟨by rw [HT.out, hq, HE.out]⟩
              clear hq hl HAW HE HP q0 q1 q2
              go_wp2
              go_roundw
              case rel => exact ⟨j + 1, ns', by omega, by go_num, HA5, HE5⟩
              case measure => simp [intOf]; omega
            · rw [if_neg hks] at HT
              have HP := Aside0.mk (putLong g hd ns key v 1 _ HAn.out.sk (by omega))
              have HE5 : Aside0 (ns.map en = runE false (xs.take (j + 1))) := ⟨by rw [HT.out, HE.out]⟩
              clear hks HX HFo
              go_wp2_with fail
              refine HP.out.mono ?_
              rintro e w' ⟨rfl, rfl⟩
              clear HP q0 q1 q2
              go_wp2
              go_roundw
              case rel => exact ⟨j + 1, ns, by omega, by go_num, HAn, HE5⟩
              case measure => simp [intOf]; omega
          | true =>
            by_cases h1 : ht < 1
            · have HH : Aside0 (hOf true ht = 1) := ⟨by unfold hOf; rw [if_neg (fun h => by omega)]⟩
              have HXn : Aside0 (Blk (W.setCell ⟨ob, 3, none⟩ (.int .i64 1)) ob [.int .i64 1, .string key, .int .i64 v, .int .i64 1] TOp) := ⟨HX.out.put 3 _⟩
              have hon : Only (fun i => i = ob) W (W.setCell ⟨ob, 3, none⟩ (.int .i64 1)) := Only.setCell (S := fun i => i = ob) (Only.refl _ W) (p := ⟨ob, 3, none⟩) (Or.inl rfl) _
              have HAn : Aside0 (Ol w (W.setCell ⟨ob, 3, none⟩ (.int .i64 1)) g hd ns) := ⟨⟨HAW.out.sk.only hon (fun i hi e => HFo.out i hi e), HAW.out.fp, HAW.out.below.trans (hon.below (fun i e => by have := HWs.out; omega) HAW.out.below.size)⟩⟩
              have f3 := HX.out.free 3
              clear hon
              rw [HH.out] at HT
              have q1 := HX.out.cell 1 _ rfl
              have q2 := HX.out.cell 2 _ rfl
              by_cases hks : (key.size : Int) ≤ 1025
              · rw [if_pos hks] at HT
                have HP := Aside0.mk (putAll g hd ns key v 1 _ HAn.out.sk hks (by omega) (by omega) (by have := HLn.out; omega))
                clear hks HX HFo
                go_wp2_with fail
                refine HP.out.mono ?_
                rintro e w5 ⟨ns', rfl, hq, hl⟩
                have HA5 := Aside0.mk (HAn.out.turned hl)
                have HE5 : Aside0 (ns'.map en = runE true (xs.take (j + 1))) := ⟨by rw [HT.out, hq, HE.out]⟩
                clear hq hl HAW HE HP q0 q1 q2
                go_wp2
                go_roundw
                case rel => exact ⟨j + 1, ns', by omega, by go_num, HA5, HE5⟩
                case measure => simp [intOf]; omega
              · rw [if_neg hks] at HT
                have HP := Aside0.mk (putLong g hd ns key v 1 _ HAn.out.sk (by omega))
                have HE5 : Aside0 (ns.map en = runE true (xs.take (j + 1))) := ⟨by rw [HT.out, HE.out]⟩
                clear hks HX HFo
                go_wp2_with fail
                refine HP.out.mono ?_
                rintro e w' ⟨rfl, rfl⟩
                clear HP q0 q1 q2
                go_wp2
                go_roundw
                case rel => exact ⟨j + 1, ns, by omega, by go_num, HAn, HE5⟩
                case measure => simp [intOf]; omega
            · by_cases h2 : 16 < ht
              · have HH : Aside0 (hOf true ht = 1) := ⟨by unfold hOf; rw [if_neg (fun h => by omega)]⟩
                have HXn : Aside0 (Blk (W.setCell ⟨ob, 3, none⟩ (.int .i64 1)) ob [.int .i64 1, .string key, .int .i64 v, .int .i64 1] TOp) := ⟨HX.out.put 3 _⟩
                have hon : Only (fun i => i = ob) W (W.setCell ⟨ob, 3, none⟩ (.int .i64 1)) := Only.setCell (S := fun i => i = ob) (Only.refl _ W) (p := ⟨ob, 3, none⟩) (Or.inl rfl) _
                have HAn : Aside0 (Ol w (W.setCell ⟨ob, 3, none⟩ (.int .i64 1)) g hd ns) := ⟨⟨HAW.out.sk.only hon (fun i hi e => HFo.out i hi e), HAW.out.fp, HAW.out.below.trans (hon.below (fun i e => by have := HWs.out; omega) HAW.out.below.size)⟩⟩
                have f3 := HX.out.free 3
                clear hon
                rw [HH.out] at HT
                have q1 := HX.out.cell 1 _ rfl
                have q2 := HX.out.cell 2 _ rfl
                by_cases hks : (key.size : Int) ≤ 1025
                · rw [if_pos hks] at HT
                  have HP := Aside0.mk (putAll g hd ns key v 1 _ HAn.out.sk hks (by omega) (by omega) (by have := HLn.out; omega))
                  clear hks HX HFo
                  go_wp2_with fail
                  refine HP.out.mono ?_
                  rintro e w5 ⟨ns', rfl, hq, hl⟩
                  have HA5 := Aside0.mk (HAn.out.turned hl)
                  have HE5 : Aside0 (ns'.map en = runE true (xs.take (j + 1))) := ⟨by rw [HT.out, hq, HE.out]⟩
                  clear hq hl HAW HE HP q0 q1 q2
                  go_wp2
                  go_roundw
                  case rel => exact ⟨j + 1, ns', by omega, by go_num, HA5, HE5⟩
                  case measure => simp [intOf]; omega
                · rw [if_neg hks] at HT
                  have HP := Aside0.mk (putLong g hd ns key v 1 _ HAn.out.sk (by omega))
                  have HE5 : Aside0 (ns.map en = runE true (xs.take (j + 1))) := ⟨by rw [HT.out, HE.out]⟩
                  clear hks HX HFo
                  go_wp2_with fail
                  refine HP.out.mono ?_
                  rintro e w' ⟨rfl, rfl⟩
                  clear HP q0 q1 q2
                  go_wp2
                  go_roundw
                  case rel => exact ⟨j + 1, ns, by omega, by go_num, HAn, HE5⟩
                  case measure => simp [intOf]; omega
              · have HH : Aside0 (hOf true ht = ht) := ⟨by unfold hOf; rw [if_pos ⟨rfl, by omega, by omega⟩]⟩
                rw [HH.out] at HT
                have q1 := HX.out.cell 1 _ rfl
                have q2 := HX.out.cell 2 _ rfl
                by_cases hks : (key.size : Int) ≤ 1025
                · rw [if_pos hks] at HT
                  have HP := Aside0.mk (putAll g hd ns key v ht _ HAW.out.sk hks (by omega) (by omega) (by have := HLn.out; omega))
                  clear hks HX HFo
                  go_wp2_with fail
                  refine HP.out.mono ?_
                  rintro e w5 ⟨ns', rfl, hq, hl⟩
                  have HA5 := Aside0.mk (HAW.out.turned hl)
                  have HE5 : Aside0 (ns'.map en = runE true (xs.take (j + 1))) := ⟨by rw [HT.out, hq, HE.out]⟩
                  clear hq hl HAW HE HP q0 q1 q2
                  go_wp2
                  go_roundw
                  case rel => exact ⟨j + 1, ns', by omega, by go_num, HA5, HE5⟩
                  case measure => simp [intOf]; omega
                · rw [if_neg hks] at HT
                  have HP := Aside0.mk (putLong g hd ns key v ht _ HAW.out.sk (by omega))
                  have HE5 : Aside0 (ns.map en = runE true (xs.take (j + 1))) := ⟨by rw [HT.out, HE.out]⟩
                  clear hks HX HFo
                  go_wp2_with fail
                  refine HP.out.mono ?_
                  rintro e w' ⟨rfl, rfl⟩
                  clear HP q0 q1 q2
                  go_wp2
                  go_roundw
                  case rel => exact ⟨j + 1, ns, by omega, by go_num, HAW, HE5⟩
                  case measure => simp [intOf]; omega
        · have q3 := HX.out.cell 3 _ rfl
          cases hts with
          | false =>
            have HH : Aside0 (hOf false ht = 1) := ⟨by unfold hOf; rw [if_neg (fun h => by cases h.1)]⟩
            have HXn : Aside0 (Blk (W.setCell ⟨ob, 3, none⟩ (.int .i64 1)) ob [.int .i64 2, .string key, .int .i64 v, .int .i64 1] TOp) := ⟨HX.out.put 3 _⟩
            have hon : Only (fun i => i = ob) W (W.setCell ⟨ob, 3, none⟩ (.int .i64 1)) := Only.setCell (S := fun i => i = ob) (Only.refl _ W) (p := ⟨ob, 3, none⟩) (Or.inl rfl) _
            have HAn : Aside0 (Ol w (W.setCell ⟨ob, 3, none⟩ (.int .i64 1)) g hd ns) := ⟨⟨HAW.out.sk.only hon (fun i hi e => HFo.out i hi e), HAW.out.fp, HAW.out.below.trans (hon.below (fun i e => by have := HWs.out; omega) HAW.out.below.size)⟩⟩
            have f3 := HX.out.free 3
            clear hon
            rw [HH.out] at HT
            have q1 := HX.out.cell 1 _ rfl
            have q2 := HX.out.cell 2 _ rfl
            by_cases hks : (key.size : Int) ≤ 1025
            · rw [if_pos hks] at HT
              have HP := Aside0.mk (putAll g hd ns key v 1 _ HAn.out.sk hks (by omega) (by omega) (by have := HLn.out; omega))
              clear hks HX HFo
              go_wp2_with fail
              refine HP.out.mono ?_
              rintro e w5 ⟨ns', rfl, hq, hl⟩
              have HA5 := Aside0.mk (HAn.out.turned hl)
              have HE5 : Aside0 (ns'.map en = runE false (xs.take (j + 1))) := ⟨by rw [HT.out, hq, HE.out]⟩
              clear hq hl HAW HE HP q0 q1 q2
              go_wp2
              go_roundw
              case rel => exact ⟨j + 1, ns', by omega, by go_num, HA5, HE5⟩
              case measure => simp [intOf]; omega
            · rw [if_neg hks] at HT
              have HP := Aside0.mk (putLong g hd ns key v 1 _ HAn.out.sk (by omega))
              have HE5 : Aside0 (ns.map en = runE false (xs.take (j + 1))) := ⟨by rw [HT.out, HE.out]⟩
              clear hks HX HFo
              go_wp2_with fail
              refine HP.out.mono ?_
              rintro e w' ⟨rfl, rfl⟩
              clear HP q0 q1 q2
              go_wp2
              go_roundw
              case rel => exact ⟨j + 1, ns, by omega, by go_num, HAn, HE5⟩
              case measure => simp [intOf]; omega
          | true =>
            by_cases h1 : ht < 1
            · have HH : Aside0 (hOf true ht = 1) := ⟨by unfold hOf; rw [if_neg (fun h => by omega)]⟩
              have HXn : Aside0 (Blk (W.setCell ⟨ob, 3, none⟩ (.int .i64 1)) ob [.int .i64 2, .string key, .int .i64 v, .int .i64 1] TOp) := ⟨HX.out.put 3 _⟩
              have hon : Only (fun i => i = ob) W (W.setCell ⟨ob, 3, none⟩ (.int .i64 1)) := Only.setCell (S := fun i => i = ob) (Only.refl _ W) (p := ⟨ob, 3, none⟩) (Or.inl rfl) _
              have HAn : Aside0 (Ol w (W.setCell ⟨ob, 3, none⟩ (.int .i64 1)) g hd ns) := ⟨⟨HAW.out.sk.only hon (fun i hi e => HFo.out i hi e), HAW.out.fp, HAW.out.below.trans (hon.below (fun i e => by have := HWs.out; omega) HAW.out.below.size)⟩⟩
              have f3 := HX.out.free 3
              clear hon
              rw [HH.out] at HT
              have q1 := HX.out.cell 1 _ rfl
              have q2 := HX.out.cell 2 _ rfl
              by_cases hks : (key.size : Int) ≤ 1025
              · rw [if_pos hks] at HT
                have HP := Aside0.mk (putAll g hd ns key v 1 _ HAn.out.sk hks (by omega) (by omega) (by have := HLn.out; omega))
                clear hks HX HFo
                go_wp2_with fail
                refine HP.out.mono ?_
                rintro e w5 ⟨ns', rfl, hq, hl⟩
                have HA5 := Aside0.mk (HAn.out.turned hl)
                have HE5 : Aside0 (ns'.map en = runE true (xs.take (j + 1))) := ⟨by rw [HT.out, hq, HE.out]⟩
                clear hq hl HAW HE HP q0 q1 q2
                go_wp2
                go_roundw
                case rel => exact ⟨j + 1, ns', by omega, by go_num, HA5, HE5⟩
                case measure => simp [intOf]; omega
              · rw [if_neg hks] at HT
                have HP := Aside0.mk (putLong g hd ns key v 1 _ HAn.out.sk (by omega))
                have HE5 : Aside0 (ns.map en = runE true (xs.take (j + 1))) := ⟨by rw [HT.out, HE.out]⟩
                clear hks HX HFo
                go_wp2_with fail
                refine HP.out.mono ?_
                rintro e w' ⟨rfl, rfl⟩
                clear HP q0 q1 q2
                go_wp2
                go_roundw
                case rel => exact ⟨j + 1, ns, by omega, by go_num, HAn, HE5⟩
                case measure => simp [intOf]; omega
            · by_cases h2 : 16 < ht
              · have HH : Aside0 (hOf true ht = 1) := ⟨by unfold hOf; rw [if_neg (fun h => by omega)]⟩
                have HXn : Aside0 (Blk (W.setCell ⟨ob, 3, none⟩ (.int .i64 1)) ob [.int .i64 2, .string key, .int .i64 v, .int .i64 1] TOp) := ⟨HX.out.put 3 _⟩
                have hon : Only (fun i => i = ob) W (W.setCell ⟨ob, 3, none⟩ (.int .i64 1)) := Only.setCell (S := fun i => i = ob) (Only.refl _ W) (p := ⟨ob, 3, none⟩) (Or.inl rfl) _
                have HAn : Aside0 (Ol w (W.setCell ⟨ob, 3, none⟩ (.int .i64 1)) g hd ns) := ⟨⟨HAW.out.sk.only hon (fun i hi e => HFo.out i hi e), HAW.out.fp, HAW.out.below.trans (hon.below (fun i e => by have := HWs.out; omega) HAW.out.below.size)⟩⟩
                have f3 := HX.out.free 3
                clear hon
                rw [HH.out] at HT
                have q1 := HX.out.cell 1 _ rfl
                have q2 := HX.out.cell 2 _ rfl
                by_cases hks : (key.size : Int) ≤ 1025
                · rw [if_pos hks] at HT
                  have HP := Aside0.mk (putAll g hd ns key v 1 _ HAn.out.sk hks (by omega) (by omega) (by have := HLn.out; omega))
                  clear hks HX HFo
                  go_wp2_with fail
                  refine HP.out.mono ?_
                  rintro e w5 ⟨ns', rfl, hq, hl⟩
                  have HA5 := Aside0.mk (HAn.out.turned hl)
                  have HE5 : Aside0 (ns'.map en = runE true (xs.take (j + 1))) := ⟨by rw [HT.out, hq, HE.out]⟩
                  clear hq hl HAW HE HP q0 q1 q2
                  go_wp2
                  go_roundw
                  case rel => exact ⟨j + 1, ns', by omega, by go_num, HA5, HE5⟩
                  case measure => simp [intOf]; omega
                · rw [if_neg hks] at HT
                  have HP := Aside0.mk (putLong g hd ns key v 1 _ HAn.out.sk (by omega))
                  have HE5 : Aside0 (ns.map en = runE true (xs.take (j + 1))) := ⟨by rw [HT.out, HE.out]⟩
                  clear hks HX HFo
                  go_wp2_with fail
                  refine HP.out.mono ?_
                  rintro e w' ⟨rfl, rfl⟩
                  clear HP q0 q1 q2
                  go_wp2
                  go_roundw
                  case rel => exact ⟨j + 1, ns, by omega, by go_num, HAn, HE5⟩
                  case measure => simp [intOf]; omega
              · have HH : Aside0 (hOf true ht = ht) := ⟨by unfold hOf; rw [if_pos ⟨rfl, by omega, by omega⟩]⟩
                rw [HH.out] at HT
                have q1 := HX.out.cell 1 _ rfl
                have q2 := HX.out.cell 2 _ rfl
                by_cases hks : (key.size : Int) ≤ 1025
                · rw [if_pos hks] at HT
                  have HP := Aside0.mk (putAll g hd ns key v ht _ HAW.out.sk hks (by omega) (by omega) (by have := HLn.out; omega))
                  clear hks HX HFo
                  go_wp2_with fail
                  refine HP.out.mono ?_
                  rintro e w5 ⟨ns', rfl, hq, hl⟩
                  have HA5 := Aside0.mk (HAW.out.turned hl)
                  have HE5 : Aside0 (ns'.map en = runE true (xs.take (j + 1))) := ⟨by rw [HT.out, hq, HE.out]⟩
                  clear hq hl HAW HE HP q0 q1 q2
                  go_wp2
                  go_roundw
                  case rel => exact ⟨j + 1, ns', by omega, by go_num, HA5, HE5⟩
                  case measure => simp [intOf]; omega
                · rw [if_neg hks] at HT
                  have HP := Aside0.mk (putLong g hd ns key v ht _ HAW.out.sk (by omega))
                  have HE5 : Aside0 (ns.map en = runE true (xs.take (j + 1))) := ⟨by rw [HT.out, HE.out]⟩
                  clear hks HX HFo
                  go_wp2_with fail
                  refine HP.out.mono ?_
                  rintro e w' ⟨rfl, rfl⟩
                  clear HP q0 q1 q2
                  go_wp2
                  go_roundw
                  case rel => exact ⟨j + 1, ns, by omega, by go_num, HAW, HE5⟩
                  case measure => simp [intOf]; omega
      · rw [if_neg hk] at HT
        have b1 : (k == 1) = false := by rw [beq_eq_false_iff_ne]; exact fun e => hk (Or.inl e)
        have b2 : (k == 2) = false := by rw [beq_eq_false_iff_ne]; exact fun e => hk (Or.inr e)
        clear hk
        by_cases hk3 : k = 3
        · subst hk3
          rw [if_pos rfl] at HT
          have q1 := HX.out.cell 1 _ rfl
          have HDl := Aside0.mk (deleteAll g hd ns key W HAW.out.sk (by have := HLn.out; omega))
          clear b1 b2
          go_wp2_with fail
          refine HDl.out.mono ?_
          rintro e w5 ⟨ns', rfl, hq, hl⟩
          have HA5 := Aside0.mk (HAW.out.turned hl)
          have HE5 : Aside0 (ns'.map en = runE hts (xs.take (j + 1))) := ⟨by rw [HT.out, hq, HE.out]⟩
          clear hq hl HAW HE HDl q0 q1
          go_wp2
          go_roundw
          case rel => exact ⟨j + 1, ns', by omega, by go_num, HA5, HE5⟩
          case measure => simp [intOf]; omega
        · rw [if_neg hk3] at HT
          have b3 : (k == 3) = false := by rw [beq_eq_false_iff_ne]; exact hk3
          have HE5 : Aside0 (ns.map en = runE hts (xs.take (j + 1))) := ⟨by rw [HT.out, HE.out]⟩
          clear hk3
          go_wp2
          go_roundw
          case rel => exact ⟨j + 1, ns, by omega, by go_num, HAW, HE5⟩
          case measure => simp [intOf]; omega
    · obtain rfl : j = m := by omega
      have HE2 : Aside0 (ns.map en = runE hts xs) := ⟨by rw [HE.out, Hm.out, List.take_length]⟩
      clear HE
      go_wp2
      go_ret
      exact ⟨g, hd, ns, rfl, HA.out, HE2.out⟩
end Go.Proofs.Ytnpjppnahfehnaa.Skip
