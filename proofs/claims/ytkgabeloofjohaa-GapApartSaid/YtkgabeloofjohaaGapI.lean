/- Layer 13: grant's walk. -/
import Derived.Test.YtkgabeloofjohaaGapH
import Derived.Conc.EventLaws
namespace Go.Proofs.Ytkgabeloofjohaa.Gap
set_option linter.unusedVariables false
set_option linter.unusedSimpArgs false
open Go.RowKit Go.Proofs.YtkgabeloofjohaaW.PrintWords Go.Proofs.Ytkgabeloofjohaa.Kit

theorem run_shut {w : World} {c : Nat} (h : w.heap[c]? = some (.chan 0 #[] false 0 0 false)) : ∀ ats ty, (Builtin.close_ ats ty #[.chan (some c)]).run Try.prog w = .ok (.tuple #[]) (shut w c) :=
  fun ats ty => run_close_open ats ty h

set_option maxRecDepth 100000 in
set_option maxHeartbeats 4000000 in
theorem grantCalls (g : Nat) (st : Int) (v : Value) (ts : List Tk) (last : Int) (w : World) (h : Ga w g st v ts last) :
    Calls Try.prog 27 #[ptrV g] w fun e w' => e = .returned (.tuple #[]) ∧ Ga w' g st v (regrant ts) last ∧ Only (use g v ts) w w' := by
  obtain ⟨A, c, rfl, hC⟩ := h.slice
  have HG := Aside0.mk h
  have HS := Aside0.mk h.small
  have c3 := h.cell3
  clear h hC
  go_enter Try.func27, Try.ntmps27
  go_wp2_with fail
  go_loopw [9] (fun u wr => ∃ i : Nat, i ≤ ts.length ∧ u = .int .i64 i ∧ Aside0 (Ga wr g st (.slice A ts.length c) (gmix ts i) last) ∧ Aside0 (Only (use g (.slice A ts.length c) ts) w wr)) (fun u _ => ts.length - (intOf u).toNat)
  case atStart => exact ⟨0, Nat.zero_le _, rfl, ⟨by rw [gmix_zero]; exact HG.out⟩, ⟨Only.refl _ _⟩⟩
  case round =>
    clear c3
    obtain ⟨i, hi, rfl, HI, HO⟩ := hrel
    have hs := HS.out
    by_cases hlt : i < ts.length
    · obtain ⟨k, hk⟩ : ∃ k, ts[i]? = some k := ⟨_, List.getElem?_eq_getElem hlt⟩
      have HM := Aside0.mk (gmix_at hk)
      have HM1 := Aside0.mk (gmix_succ hk)
      have i1 : (i : Int) < (ts.length : Int) := by omega
      obtain ⟨A', c', ee, hC⟩ := HI.out.slice
      have hml : (gmix ts i).length = ts.length := by simp [gmix]; omega
      rw [hml] at ee hC
      injection ee with e1 e2 e3
      subst e1 e3
      obtain ⟨b, o, x, rfl, hx, c0⟩ := kP_at hC i hlt
      have hxk : x = k.id := by
        rw [HM.out, List.map_append, List.map_cons, List.getElem?_append_right (by simp; omega)] at hx
        have : i - (List.map (fun x => x.id) ((ts.take i).map (gr1 ts))).length = 0 := by simp; omega
        rw [this] at hx
        injection hx with hx
        exact hx.symm
      subst hxk
      have hkt : TkIs wr k := HI.out.tk k (by rw [HM.out]; simp)
      have HKT := Aside0.mk hkt
      have k2 := hkt.blk.cell 2 _ rfl
      have HU : Aside0 (use g (.slice (some ⟨b, o, none⟩) ts.length c) ts k.id ∧ use g (.slice (some ⟨b, o, none⟩) ts.length c) ts k.ch) := ⟨Or.inr (Or.inr ⟨k, List.mem_of_getElem? hk, Or.inl rfl⟩), Or.inr (Or.inr ⟨k, List.mem_of_getElem? hk, Or.inr (Or.inl rfl)⟩)⟩
      clear hx hC hkt hk hml
      cases hgr : k.gr with
      | true =>
        have HE : Aside0 (gr1 ts k = k) := ⟨by unfold gr1; rw [hgr]; obtain ⟨a1, a2, a3, a4, a5, a6, a7⟩ := k; simp at hgr; subst hgr; rfl⟩
        rw [hgr] at k2
        go_wp2
        go_roundw
        case rel => exact ⟨i + 1, by omega, by go_num, ⟨by rw [HM1.out, HE.out, ← HM.out]; exact HI.out⟩, HO⟩
        case measure => simp [intOf]; omega
      | false =>
        have HA := Aside0.mk (aheadCalls g st _ (gmix ts i) last k wr HI.out HKT.out)
        rw [aheadK_mix] at HA
        rw [hgr] at k2
        have HE : Aside0 (gr1 ts k = { k with gr := (aheadK ts k).isEmpty }) := ⟨by unfold gr1; rw [hgr]; rfl⟩
        have HKe : Aside0 ({ k with gr := false } = k) := ⟨by obtain ⟨a1, a2, a3, a4, a5, a6, a7⟩ := k; simp at hgr; subst hgr; rfl⟩
        generalize aheadK ts k = L at *
        go_wp2_with fail
        refine HA.out.mono ?_
        rintro e w1 ⟨v1, rfl, hr, hb1⟩
        obtain ⟨A1, c1, rfl⟩ := Kd.R_slice hr
        have HI1 := Aside0.mk (HI.out.below hb1)
        have HO1 := Aside0.mk (HO.out.trans (Only.ofBelow hb1))
        have HK1 : Aside0 (TkIs w1 k) := ⟨HI1.out.tk k (by rw [HM.out]; simp)⟩
        clear hr hb1 HA HI HO HKT k2 c0
        rcases L with _ | ⟨l0, L⟩
        · have HGr := Aside0.mk (by have := HI1.out; rw [HM.out] at this; exact this.granted)
          have HE1 : Aside0 (gr1 ts k = { k with gr := true }) := ⟨HE.out⟩
          have f2 := HK1.out.blk.free 2
          have k2 := HK1.out.blk.cell 2 _ rfl
          have k3 := HK1.out.blk.cell 3 _ rfl
          have k3' : (w1.setCell ⟨k.id, 2, none⟩ (.bool true)).cell? ⟨k.id, 3, none⟩ = some (.chan (some k.ch)) := (HK1.out.blk.put 2 (.bool true)).cell 3 _ rfl
          have hcl := run_shut (w := w1.setCell ⟨k.id, 2, none⟩ (.bool true)) (c := k.ch) (by
            have := HK1.out.ch
            rw [hgr] at this
            rw [Below.heap_setCell w1 _ _ k.ch (ne_heap HK1.out.blk.out HK1.out.ch cells_chan).symm]
            exact this)
          have HO2 : Aside0 (Only (use g (.slice (some ⟨b, o, none⟩) ts.length c) ts) w (shut (w1.setCell ⟨k.id, 2, none⟩ (.bool true)) k.ch)) := ⟨HO1.out.trans (HGr.out.2.mono (by rintro i (rfl | rfl); exact HU.out.1; exact HU.out.2))⟩
          generalize hsh : shut (w1.setCell ⟨k.id, 2, none⟩ (.bool true)) k.ch = w2 at *
          clear hsh
          generalize k.id = kid at *
          generalize k.ch = kch at *
          go_wp2
          go_roundw
          case rel => exact ⟨i + 1, by omega, by go_num, ⟨by rw [HM1.out, HE1.out]; exact HGr.out.1⟩, HO2⟩
          case measure => simp [intOf]; omega
        · have HE1 : Aside0 (gr1 ts k = k) := ⟨HE.out.trans HKe.out⟩
          have hl : ((l0 :: L).length : Int) ≠ 0 := by simp; omega
          generalize (l0 :: L).length = n at *
          go_wp2
          go_roundw
          case rel => exact ⟨i + 1, by omega, by go_num, ⟨by rw [HM1.out, HE1.out, ← HM.out]; exact HI1.out⟩, HO1⟩
          case measure => simp [intOf]; omega
    · obtain rfl : i = ts.length := by omega
      clear hi
      have HG2 : Aside0 (Ga wr g st (.slice A ts.length c) (regrant ts) last) := ⟨by rw [← gmix_all]; exact HI.out⟩
      go_wp2
      go_end0
      exact ⟨rfl, HG2.out, HO.out⟩
end Go.Proofs.Ytkgabeloofjohaa.Gap
