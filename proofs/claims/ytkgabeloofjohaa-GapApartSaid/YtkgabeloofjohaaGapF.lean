/- Layer 13: find, ahead. -/
import Derived.Test.YtkgabeloofjohaaGapE
import Derived.Deep.RegionHeld3
namespace Go.Proofs.Ytkgabeloofjohaa.Gap
set_option linter.unusedVariables false
set_option linter.unusedSimpArgs false
open Go.RowKit Go.Proofs.YtkgabeloofjohaaW.PrintWords Go.Proofs.Ytkgabeloofjohaa.Kit

theorem enterFind1 : ∀ args w, (callFunc 38 args).run Try.prog w = .ok (.enter 38 args) w := fun args w => by
  simp [go_sem, Try.func38]
theorem map_at {α β : Type} (f : α → β) {xs : List α} {i : Nat} {y : β} (h : (xs.map f)[i]? = some y) : ∃ x, xs[i]? = some x ∧ f x = y := by
  rw [List.getElem?_map] at h
  cases hx : xs[i]? with
  | none => rw [hx] at h; cases h
  | some x => rw [hx] at h; injection h with h; exact ⟨x, rfl, h⟩

set_option maxHeartbeats 2000000 in
theorem indexT (g : Nat) (st : Int) (A : Option Addr) (c p : Nat) (ts : List Tk) (last n : Int) (w : World) (h : Ga w g st (.slice A ts.length c) ts last) (hp : w.cell? ⟨p, 0, none⟩ = some (.int .u64 n)) :
    Calls Try.prog 37 #[.slice A ts.length c, .func (.func 38) #[] #[ptrV p]] w fun e w' => e = .returned (.int .i64 (idxT ts n)) ∧ Below w.heap.size w w' := by
  have hent := enterFind1
  obtain ⟨A', c', e', hC⟩ := h.slice
  injection e' with e1 e2 e3
  subst e1 e3
  have HC := Aside0.mk hC
  have HT := Aside0.mk h.tk
  have HP0 := Aside0.mk hp
  have HS := Aside0.mk h.small
  clear h hC hp
  obtain ⟨q, hq⟩ : ∃ q, q = idxT ts n := ⟨_, rfl⟩
  rw [← hq]
  have HQ := Aside0.mk hq
  clear hq
  go_enter Try.func37, Try.ntmps37
  go_wp2_with fail
  go_loopw [8] (fun v wr => ∃ i : Nat, i ≤ ts.length ∧ v = .int .i64 i ∧ Aside0 (∀ j, j < i → ∀ y, ts[j]? = some y → decide (y.t = n) = false) ∧ Aside0 (Below w.heap.size w wr)) (fun v _ => ts.length - (intOf v).toNat)
  case atStart => exact ⟨0, Nat.zero_le _, rfl, ⟨fun j hj => absurd hj (Nat.not_lt_zero j)⟩, ⟨Below.refl _ _⟩⟩
  case round =>
    obtain ⟨i, hi, rfl, HP, HB⟩ := hrel
    have hs := HS.out
    by_cases hlt : i < ts.length
    · obtain ⟨b, o, x, rfl, hx, c0⟩ := kP_at (Kd.C_below HC.out HB.out) i hlt
      obtain ⟨k, hk, rfl⟩ := map_at _ hx
      have HK := Aside0.mk hk
      have i1 : (i : Int) < (ts.length : Int) := by omega
      have HF := Aside0.mk (find1 k.id p k.t n wr (pw_cell_below HB.out ((HT.out k (List.mem_of_getElem? hk)).blk.cell 0 _ rfl)) (pw_cell_below HB.out HP0.out))
      obtain ⟨r, hr⟩ : ∃ r, r = decide (k.t = n) := ⟨_, rfl⟩
      rw [← hr] at HF
      have HR := Aside0.mk hr
      clear hk hx hr
      generalize k.id = kid at *
      go_wp2_with fail
      refine HF.out.mono ?_
      rintro e w1 ⟨rfl, hb1⟩
      have HB1 := Aside0.mk (HB.out.trans (hb1.mono HB.out.size))
      clear hb1 HF HB c0
      cases r with
      | true =>
        have HI : Aside0 (q = (i : Int)) := ⟨by
          have : ts.findIdx? (fun k => decide (k.t = n)) = some i := by
            obtain ⟨hl, e⟩ := List.getElem?_eq_some_iff.1 HK.out
            refine List.findIdx?_eq_some_iff_getElem.2 ⟨hl, by rw [e]; exact HR.out.symm, fun j hj => ?_⟩
            have := HP.out j hj _ (List.getElem?_eq_getElem (by omega))
            simpa using this
          rw [HQ.out]
          unfold idxT
          rw [this]⟩
        go_wp2
        go_ret
        exact ⟨by rw [HI.out]; rfl, HB1.out⟩
      | false =>
        have HP1 : Aside0 (∀ j, j < i + 1 → ∀ y, ts[j]? = some y → decide (y.t = n) = false) := ⟨fun j hj z hz => by
          rcases Nat.lt_or_ge j i with h | h
          · exact HP.out j h z hz
          · obtain rfl : j = i := by omega
            rw [HK.out] at hz
            injection hz with hz
            rw [← hz]
            exact HR.out.symm⟩
        go_wp2
        go_roundw
        case rel => exact ⟨i + 1, by omega, by go_num, HP1, HB1⟩
        case measure => simp [intOf]; omega
    · obtain rfl : i = ts.length := by omega
      have HI : Aside0 (q = -1) := ⟨by
        have : ts.findIdx? (fun k => decide (k.t = n)) = none := List.findIdx?_eq_none_iff.2 (fun x hx => by
          obtain ⟨j, hj⟩ := List.getElem?_of_mem hx
          exact HP.out j (List.getElem?_eq_some_iff.1 hj).1 x hj)
        rw [HQ.out]
        unfold idxT
        rw [this]⟩
      clear hi
      go_wp2
      go_ret
      exact ⟨by rw [HI.out]; rfl, HB.out⟩

theorem findT_idx (ts : List Tk) (n : Int) : (idxT ts n = -1 ∧ findT ts n = none) ∨ ∃ (i : Nat) (k : Tk), idxT ts n = (i : Int) ∧ ts[i]? = some k ∧ i < ts.length ∧ findT ts n = some k := by
  unfold idxT findT
  cases h : ts.findIdx? (fun k => decide (k.t = n)) with
  | none =>
    refine Or.inl ⟨rfl, ?_⟩
    rw [List.find?_eq_none]
    intro x hx
    have := List.findIdx?_eq_none_iff.1 h x hx
    simpa using this
  | some i =>
    obtain ⟨hi, hp, hlt⟩ := List.findIdx?_eq_some_iff_getElem.1 h
    refine Or.inr ⟨i, ts[i], rfl, List.getElem?_eq_getElem hi, hi, ?_⟩
    rw [List.find?_eq_some_iff_getElem]
    exact ⟨hp, i, hi, rfl, fun j hj => by simpa using hlt j hj⟩

set_option maxHeartbeats 2000000 in
theorem findCalls (g : Nat) (st : Int) (v : Value) (ts : List Tk) (last n : Int) (w : World) (h : Ga w g st v ts last) :
    Calls Try.prog 22 #[ptrV g, .int .u64 n] w fun e w' => e = .returned (tkV (findT ts n)) ∧ Below w.heap.size w w' := by
  have hmk := hmf
  obtain ⟨A, c, rfl, hC⟩ := h.slice
  obtain ⟨W, hW⟩ : ∃ W, W = w.alloc (.cells #[.int .u64 n] 26) := ⟨_, rfl⟩
  have hb : Below w.heap.size w W := by rw [hW]; exact (Below.refl _ _).alloc (Nat.le_refl _) _
  have hc : W.cell? ⟨w.heap.size, 0, none⟩ = some (.int .u64 n) := by
    have : Blk W w.heap.size [.int .u64 n] 26 := by rw [hW]; exact Blk.newA w _ _
    exact this.cell 0 _ rfl
  have HGW := Aside0.mk (h.below hb)
  have c3 := HGW.out.cell3
  have HI := Aside0.mk (indexT g st A c w.heap.size ts last n W HGW.out hc)
  have HB := Aside0.mk hb
  have HS := Aside0.mk h.small
  clear h hC hc hb
  rcases findT_idx ts n with ⟨e1, e2⟩ | ⟨i, k, e1, e2, e3, e4⟩
  · rw [e1] at HI
    rw [e2]
    clear e1 e2 HGW
    simp only [tkV]
    go_enter Try.func22, Try.ntmps22
    go_upto_region 1 with (fail)
    rw [← hW]
    clear hW
    go_wp2_with fail
    refine HI.out.mono ?_
    rintro e w1 ⟨rfl, hb1⟩
    have HB1 := Aside0.mk (HB.out.trans (hb1.mono HB.out.size))
    clear hb1 HI HB c3
    go_wp2
    go_ret
    exact ⟨rfl, HB1.out⟩
  · rw [e1] at HI
    rw [e4]
    have HK := Aside0.mk e2
    have i1 : (i : Int) < (ts.length : Int) := by omega
    clear e1 e2 e4
    simp only [tkV]
    go_enter Try.func22, Try.ntmps22
    go_upto_region 1 with (fail)
    rw [← hW]
    clear hW
    go_wp2_with fail
    refine HI.out.mono ?_
    rintro e w1 ⟨rfl, hb1⟩
    have HB1 := Aside0.mk (HB.out.trans (hb1.mono HB.out.size))
    have HG1 := Aside0.mk (HGW.out.below hb1)
    clear hb1 HI HB c3 HGW
    have c3 := HG1.out.cell3
    obtain ⟨A', c', ee, hC⟩ := HG1.out.slice
    injection ee with ee1 ee2 ee3
    subst ee1 ee3
    obtain ⟨b, o, x, rfl, hx, p0⟩ := kP_at hC i e3
    obtain ⟨k', hk', rfl⟩ := map_at _ hx
    rw [HK.out] at hk'
    injection hk' with hk'
    subst hk'
    clear hx hC HG1 HK
    have hs := HS.out
    go_wp2
    go_ret
    exact ⟨rfl, HB1.out⟩
end Go.Proofs.Ytkgabeloofjohaa.Gap
