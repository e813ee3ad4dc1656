/- Layer 6's clock: what advance and Done do. -/
import Derived.Test.YtmbekkndjkegdaaClockB
namespace Go.Proofs.Ytmbekkndjkegdaa.Clock
set_option linter.unusedVariables false
set_option linter.unusedSimpArgs false
open Go.RowKit Go.Proofs.YtmbekkndjkegdaaW.PrintWords Go.Proofs.Ytmbekkndjkegdaa.Kit

theorem Clk.at_ {w : World} {p : Nat} {l f : Int} {rs : List Int} (h : Clk w p l f rs) (s : Int) : w.cell? ⟨p, 3 + s.toNat % 4096, none⟩ = some (.int .u64 (at_ rs s)) := h.cr _ (Nat.mod_lt _ (by decide))

set_option maxRecDepth 100000 in
set_option maxHeartbeats 1600000 in
theorem advanceCalls (p : Nat) (l f : Int) (rs : List Int) (w : World) (h : Clk w p l f rs) (hle : ∀ s, at_ rs s ≤ l) :
    Calls Try.prog 24 #[.pointer (some ⟨p, 0, none⟩)] w fun e w' => e = .returned (.tuple #[]) ∧ ∃ f', f ≤ f' ∧ f' ≤ l ∧ (∀ s, f < s → s ≤ f' → at_ rs s = s) ∧ at_ rs (f' + 1) ≠ f' + 1 ∧ Clk w' p l f' rs ∧ Only (fun i => i = p) w w' := by
  have H := Aside0.mk h
  have HLe := Aside0.mk hle
  clear h hle
  go_enter Try.func24, Try.ntmps24
  go_wp2_with fail
  go_loopg [2] (l - f).toNat (fun k v wr => ∃ f', Aside0 (f ≤ f') ∧ Aside0 (f' ≤ l) ∧ Aside0 ((l - f').toNat = k) ∧ Aside0 (∀ s, f < s → s ≤ f' → at_ rs s = s) ∧ Aside0 (Clk wr p l f' rs) ∧ Aside0 (Only (fun i => i = p) w wr))
  case atStart => exact ⟨f, ⟨Int.le_refl _⟩, ⟨H.out.fl⟩, ⟨rfl⟩, ⟨fun s h1 h2 => by omega⟩, H, ⟨Only.refl _ _⟩⟩
  case round =>
    obtain ⟨f', H1, H2, HK, HD, HW, HO⟩ := hrel
    have hf0 := HW.out.f0
    have hfM : f' ≤ 4611686018427387904 := Int.le_trans H2.out HW.out.lM
    have HF := Aside0.mk (u64Load p 2 _ wr HW.out.c2)
    have HP := Aside0.mk (placeCalls p l f' (f' + 1) rs wr HW.out (by omega))
    have HL := Aside0.mk (u64Load p (3 + (f' + 1).toNat % 4096) _ wr (HW.out.at_ (f' + 1)))
    have HC := Aside0.mk (u64Cas p 2 f' (f' + 1) wr HW.out.c2 (HW.out.row.free 2))
    have HA := Aside0.mk (HLe.out (f' + 1))
    go_wp2_with fail
    refine HF.out.mono ?_
    rintro e w' ⟨rfl, rfl⟩
    go_wp2_with fail
    refine HP.out.mono ?_
    rintro e w' ⟨rfl, rfl⟩
    go_wp2_with fail
    refine HL.out.mono ?_
    rintro e w' ⟨rfl, rfl⟩
    by_cases hr : at_ rs (f' + 1) = f' + 1
    · have HE := Aside0.mk hr
      rw [hr]
      clear hr
      go_wp2_with fail
      refine HC.out.mono ?_
      rintro e w' ⟨rfl, hw'⟩
      have hl1 : f' + 1 ≤ l := by have := HA.out; rw [HE.out] at this; exact this
      have HW' : Aside0 (Clk w' p l (f' + 1) rs) := ⟨⟨by rw [← hw']; exact HW.out.row.put 2 (.int .u64 (f' + 1)), HW.out.len, by omega, hl1, HW.out.lM, by have := HW.out.gap; omega⟩⟩
      have HO' : Aside0 (Only (fun i => i = p) w w') := ⟨by rw [← hw']; exact Only.setCell (S := fun i => i = p) HO.out (p := ⟨p, 2, none⟩) (Or.inl rfl) _⟩
      have HD' : Aside0 (∀ s, f < s → s ≤ f' + 1 → at_ rs s = s) := ⟨fun s h1 h2 => by
        by_cases e : s = f' + 1
        · rw [e]; exact HE.out
        · exact HD.out s h1 (by omega)⟩
      clear hw' HW HO HD HF HP HL HC HA
      go_wp2
      cases gk with
      | zero => exact absurd HK.out (by omega)
      | succ k1 =>
        go_roundg k1
        case measure => omega
        case rel => exact ⟨f' + 1, ⟨by have := H1.out; omega⟩, ⟨hl1⟩, ⟨by have := HK.out; omega⟩, HD', HW', HO'⟩
    · have HE := Aside0.mk hr
      have hb : (at_ rs (f' + 1) == f' + 1) = false := by rw [beq_eq_false_iff_ne]; exact hr
      clear hr
      generalize hr0 : at_ rs (f' + 1) = r at *
      have HG := Aside0.mk hr0
      clear hr0
      go_wp2
      (try simp only [Exit.inBlock, Exit.then])
      refine bodyPost_ret (results_none rfl _ _ _) rfl ?_
      exact ⟨rfl, f', H1.out, H2.out, HD.out, by rw [HG.out]; exact HE.out, HW.out, HO.out⟩

/-- The ring behind Done. -/
def mark (rs : List Int) (s : Int) : List Int := rs.set (s.toNat % 4096) s
theorem mark_at (rs : List Int) (s t : Int) (hl : rs.length = 4096) : at_ (mark rs s) t = if t.toNat % 4096 = s.toNat % 4096 then s else at_ rs t := by
  have h1 : s.toNat % 4096 < rs.length := by rw [hl]; exact Nat.mod_lt _ (by decide)
  unfold at_ mark rd
  simp only [Int.toNat_natCast, List.getD_eq_getElem?_getD, List.getElem?_set]
  by_cases e : s.toNat % 4096 = t.toNat % 4096
  · rw [if_pos e, if_pos h1, if_pos e.symm]
    rfl
  · rw [if_neg e, if_neg (fun e' => e e'.symm)]

set_option maxRecDepth 100000 in
set_option maxHeartbeats 1600000 in
theorem doneBad (p : Nat) (l f s : Int) (rs : List Int) (w : World) (h : Clk w p l f rs) (h0 : 0 ≤ s) (hb : l < s ∨ s ≤ f ∨ s ≤ at_ rs s) :
    Calls Try.prog 12 #[.pointer (some ⟨p, 0, none⟩), .int .u64 s] w fun e w' => e = .returned (.int .i64 60) ∧ w = w' := by
  have HI := Aside0.mk (isCalls p _ f rs w h)
  have HL := Aside0.mk (u64Load p 1 _ w h.c1)
  have HF := Aside0.mk (u64Load p 2 _ w h.c2)
  have HP := Aside0.mk (placeCalls p l f s rs w h h0)
  have HR := Aside0.mk (u64Load p (3 + s.toNat % 4096) _ w (h.at_ s))
  clear h
  generalize at_ rs s = r at *
  have HB := Aside0.mk hb
  clear hb
  by_cases hls : l < s
  · go_enter Try.func12, Try.ntmps12
    go_wp2_with fail
    refine HI.out.mono ?_
    rintro e w' ⟨rfl, rfl⟩
    go_wp2_with fail
    refine HL.out.mono ?_
    rintro e w' ⟨rfl, rfl⟩
    go_wp2
    go_ret
    exact ⟨rfl, rfl⟩
  · go_enter Try.func12, Try.ntmps12
    go_wp2_with fail
    refine HI.out.mono ?_
    rintro e w' ⟨rfl, rfl⟩
    go_wp2_with fail
    refine HL.out.mono ?_
    rintro e w' ⟨rfl, rfl⟩
    go_wp2_with fail
    refine HP.out.mono ?_
    rintro e w' ⟨rfl, rfl⟩
    go_wp2_with fail
    go_loopw [6] (fun a wr => wr = w) (fun _ _ => 0)
    case atStart => rfl
    case round =>
      subst hrel
      go_wp2_with fail
      refine HR.out.mono ?_
      rintro e w' ⟨rfl, rfl⟩
      go_wp2_with fail
      refine HF.out.mono ?_
      rintro e w' ⟨rfl, rfl⟩
      by_cases hsf : s ≤ f
      · go_wp2
        go_ret
        exact ⟨rfl, rfl⟩
      · have hsr : s ≤ r := by have := HB.out; omega
        go_wp2
        go_ret
        exact ⟨rfl, rfl⟩

set_option maxRecDepth 100000 in
set_option maxHeartbeats 1600000 in
theorem doneOk (p : Nat) (l f s : Int) (rs : List Int) (w : World) (h : Clk w p l f rs) (hle : ∀ s, at_ rs s ≤ l) (h1 : f < s) (h2 : s ≤ l) (h3 : at_ rs s < s) :
    Calls Try.prog 12 #[.pointer (some ⟨p, 0, none⟩), .int .u64 s] w fun e w' => e = .returned (.int .i64 0) ∧
      ∃ f', f ≤ f' ∧ f' ≤ l ∧ (∀ t, f < t → t ≤ f' → at_ (mark rs s) t = t) ∧ at_ (mark rs s) (f' + 1) ≠ f' + 1 ∧ Clk w' p l f' (mark rs s) ∧ Only (fun i => i = p) w w' := by
  have hf0 := h.f0
  have HI := Aside0.mk (isCalls p _ f rs w h)
  have HL := Aside0.mk (u64Load p 1 _ w h.c1)
  have HF := Aside0.mk (u64Load p 2 _ w h.c2)
  have HP := Aside0.mk (placeCalls p l f s rs w h (by omega))
  have HR := Aside0.mk (u64Load p (3 + s.toNat % 4096) _ w (h.at_ s))
  have HC := Aside0.mk (u64Cas p (3 + s.toNat % 4096) _ s w (h.at_ s) (h.row.free _))
  have H := Aside0.mk h
  have HLe : Aside0 (∀ t, at_ (mark rs s) t ≤ l) := ⟨fun t => by
    rw [mark_at rs s t h.len]
    split
    · exact h2
    · exact hle t⟩
  clear h hle
  generalize at_ rs s = r at *
  go_enter Try.func12, Try.ntmps12
  go_wp2_with fail
  refine HI.out.mono ?_
  rintro e w' ⟨rfl, rfl⟩
  go_wp2_with fail
  refine HL.out.mono ?_
  rintro e w' ⟨rfl, rfl⟩
  go_wp2_with fail
  refine HP.out.mono ?_
  rintro e w' ⟨rfl, rfl⟩
  go_wp2_with fail
  go_loopw [6] (fun a wr => wr = w) (fun _ _ => 0)
  case atStart => rfl
  case round =>
    subst hrel
    go_wp2_with fail
    refine HR.out.mono ?_
    rintro e w' ⟨rfl, rfl⟩
    go_wp2_with fail
    refine HF.out.mono ?_
    rintro e w' ⟨rfl, rfl⟩
    go_wp2_with fail
    refine HC.out.mono ?_
    rintro e w' ⟨rfl, hw'⟩
    have HX : Aside0 (Clk w' p l f (mark rs s)) := ⟨⟨by
      rw [← hw']
      have := H.out.row.put (3 + s.toNat % 4096) (.int .u64 s)
      have e : (ck true l f rs).set (3 + s.toNat % 4096) (.int .u64 s) = ck true l f (mark rs s) := by
        unfold ck mark
        rw [show 3 + s.toNat % 4096 = s.toNat % 4096 + 1 + 1 + 1 by omega]
        simp only [List.set_cons_succ, nums_set]
      rw [e] at this
      exact this, by unfold mark; rw [List.length_set]; exact H.out.len, H.out.f0, H.out.fl, H.out.lM, H.out.gap⟩⟩
    have HO : Aside0 (Only (fun i => i = p) wr w') := ⟨by rw [← hw']; exact Only.setCell (S := fun i => i = p) (Only.refl _ wr) (p := ⟨p, 3 + s.toNat % 4096, none⟩) (Or.inl rfl) _⟩
    clear hw' HI HL HF HP HR HC H
    go_wp2_with fail
    refine (advanceCalls p l f (mark rs s) w' HX.out HLe.out).mono ?_
    rintro e w2 ⟨rfl, f', g1, g2, g3, g4, g5, g6⟩
    have HG := Aside0.mk (And.intro g1 (And.intro g2 (And.intro g3 (And.intro g4 (And.intro g5 (HO.out.trans g6))))))
    clear g1 g2 g3 g4 g5 g6 HO HX
    go_wp2
    go_ret
    exact ⟨rfl, f', HG.out⟩
end Go.Proofs.Ytmbekkndjkegdaa.Clock
