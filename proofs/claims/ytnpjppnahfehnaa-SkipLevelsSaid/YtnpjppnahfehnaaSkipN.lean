/- Layer 12's list: Scan back. -/
import Derived.Test.YtnpjppnahfehnaaSkipM
namespace Go.Proofs.Ytnpjppnahfehnaa.Skip
set_option linter.unusedVariables false
set_option linter.unusedSimpArgs false
open Go.RowKit Go.Proofs.YtnpjppnahfehnaaW.PrintWords Go.Proofs.Ytnpjppnahfehnaa.Kit Go.MuLone

theorem zeroRg (W : World) : (zeroValue TRg).run Try.prog W = .ok (.agg #[.string ByteArray.empty, .string ByteArray.empty, .bool false]) W := by kernel_rfl
theorem lastP_snoc (p : List Nd) (y : Nd) : lastP (p ++ [y]) = some y.p := by unfold lastP; simp
theorem ends_at {p t : List Nd} {y : Nd} (h : Sorted (p ++ y :: t)) : Ends p (y :: t) y.k false := by
  unfold Sorted at h
  rw [List.pairwise_append, List.pairwise_cons] at h
  refine ⟨fun x hx => Or.inr (h.2.2 x hx y List.mem_cons_self), fun x hx => ⟨rfl, ?_⟩⟩
  rcases List.mem_cons.1 hx with rfl | hx
  · exact lt_irrefl _
  · exact lt_asymm (h.2.1.1 x hx)

set_option maxRecDepth 100000 in
set_option maxHeartbeats 8000000 in
theorem fallingCalls (g : Nat) (st : Int) (hd : Nd) (lo hi : List Nd) (rlo rhi : ByteArray) (opn : Bool) (most : Int) (w : World) (h : Sk w g st hd (lo ++ hi)) (he : Ends lo hi rhi opn) (hlen : (lo ++ hi).length ≤ 3518437208780) :
    Calls Try.prog 22 #[.pointer (some ⟨g, 0, none⟩), .agg #[.string rlo, .string rhi, .bool opn], .int .i64 most] w fun e w' => ∃ v, e = .returned v ∧ MR w' w.heap.size v ((fallS lo.reverse rlo most).map en) ∧ Below w.heap.size w w' := by
  have HLen := Aside0.mk hlen
  obtain ⟨W, hW⟩ : ∃ W, W = w.alloc (.cells #[.string rlo, .string rhi, .bool opn] TRg) := ⟨_, rfl⟩
  have hb : Below w.heap.size w W := by rw [hW]; exact (Below.refl _ _).alloc (Nat.le_refl _) _
  have HX : Aside0 (Blk W w.heap.size [.string rlo, .string rhi, .bool opn] TRg) := ⟨by rw [hW]; exact Blk.newA w _ _⟩
  have HB := Aside0.mk hb
  have H := Aside0.mk (h.below hb)
  have HL := Aside0.mk (lastCalls g st hd lo hi rlo rhi opn W H.out he)
  have hz := zeroRg
  clear h he hb hlen
  go_enter Try.func22, Try.ntmps22
  go_upto_region 2 with (fail)
  rw [← hW]
  clear hW
  have x0 := HX.out.cell 0 _ rfl
  have x1 := HX.out.cell 1 _ rfl
  have x2 := HX.out.cell 2 _ rfl
  go_wp2_with fail
  refine HL.out.mono ?_
  rintro e w1 ⟨rfl, hb1⟩
  have HB1 := Aside0.mk (HB.out.trans (hb1.mono HB.out.size))
  have H1 := Aside0.mk (H.out.below hb1)
  have HX1 := Aside0.mk (HX.out.belowSize hb1)
  clear hb1 HB H HX HL x0 x1 x2
  go_wp2_with fail
  have HR0 : Aside0 (MR w1 w1.heap.size (.slice none 0 0) []) := ⟨Kd.R_nil _ _ _ _ _⟩
  go_loopg [7, 8] lo.length (fun n o v wz => ∃ (p t : List Nd) (L : List En), n = p.length ∧ v = ptr (lastP p) ∧ Aside0 (lo ++ hi = p ++ t) ∧ Aside0 (MR wz w1.heap.size o L) ∧ Aside0 (L ++ (fallS p.reverse rlo (most - L.length)).map en = (fallS lo.reverse rlo most).map en) ∧ Aside0 (L.length ≤ t.length) ∧ Aside0 (Below w1.heap.size w1 wz))
  case atStart => exact ⟨lo, hi, [], rfl, rfl, ⟨rfl⟩, HR0, ⟨by simp⟩, ⟨Nat.zero_le _⟩, ⟨Below.refl _ _⟩⟩
  case round =>
    clear HR0
    obtain ⟨p, t, L, rfl, rfl, HE, HR, HF, HK, HBz⟩ := hrel
    obtain ⟨A3, c3, e3⟩ := Kd.R_slice HR.out
    subst e3
    have HXz := Aside0.mk (HX1.out.belowSize HBz.out)
    have q0 := HXz.out.cell 0 _ rfl
    have hLl : L.length ≤ 3518437208780 := by
      have := HLen.out
      rw [HE.out, List.length_append] at this
      have := HK.out
      omega
    have HD : Aside0 (∀ v, fallS p.reverse rlo (most - L.length) = [] → MR wr w1.heap.size v L → MR wr w.heap.size v ((fallS lo.reverse rlo most).map en)) := ⟨fun v hs hr => by
      have := HF.out
      rw [hs, List.map_nil, List.append_nil] at this
      rw [← this]
      exact Kd.R_lower hr HB1.out.size⟩
    have HBe := Aside0.mk (HB1.out.trans (HBz.out.mono HB1.out.size))
    rcases List.eq_nil_or_concat p with rfl | ⟨p', y, ep⟩
    · have HV := Aside0.mk (fun nq => Kd.R_below (HD.out _ rfl HR.out) (pw_below_drewN (Below.refl _ wr) nq))
      rw [show ptr (lastP []) = .pointer none from rfl]
      clear HD HF HE HXz
      go_wp2_with fail
      go_quiet (fail)
      go_wp2
      go_ret
      exact ⟨_, rfl, HV.out nq, pw_below_drewN HBe.out nq⟩
    · rw [List.concat_eq_append] at ep
      subst ep
      have HE2 : Aside0 (lo ++ hi = p' ++ y :: t) := ⟨by rw [HE.out]; simp⟩
      have Hz := Aside0.mk (H1.out.below HBz.out)
      obtain ⟨hyn, _, _, _⟩ := Hz.out.nextAt HE2.out
      have hyk := hyn.cell 0 _ rfl
      have HYn := Aside0.mk hyn
      have hrev : (p' ++ [y]).reverse = y :: p'.reverse := by simp
      rw [hrev] at HF HD
      rw [lastP_snoc, show ptr (some y.p) = .pointer (some ⟨y.p, 0, none⟩) from rfl]
      clear hrev hyn
      by_cases hst : ltB y.k rlo = false
      · have hkb : Op.bytesLess y.k.toList rlo.toList = false := hst
        by_cases hk : (L.length : Int) < most
        · have HS : Aside0 (fallS (y :: p'.reverse) rlo (most - L.length) = y :: fallS p'.reverse rlo (most - L.length - 1)) := ⟨by rw [fallS, if_pos ⟨hst, by omega⟩]⟩
          have HEn := Aside0.mk (entryCalls y)
          clear HD hst
          go_wp2_with fail
          go_quiet (fail)
          have hbq : Below wr.heap.size wr (wr.drewN nq) := pw_below_drewN (Below.refl _ wr) nq
          have HRq := Aside0.mk (Kd.R_below HR.out hbq)
          have HBq := Aside0.mk (HBz.out.trans (hbq.mono HBz.out.size))
          have HYq : Aside0 (NodeB (wr.drewN nq) y) := ⟨HYn.out.belowSize hbq⟩
          clear hbq HR HBz HYn HXz q0 hyk Hz
          generalize wr.drewN nq = wq at *
          go_wp2_with fail
          refine (HEn.out wq HYq.out).mono ?_
          rintro e w5 ⟨rfl, hb5⟩
          have HR5 := Aside0.mk (Kd.R_below HRq.out hb5)
          have HB5 := Aside0.mk (HBq.out.trans (hb5.mono HBq.out.size))
          clear hb5 HRq HBq HYq HEn
          simp only [eV]
          iterate 4 go_step
          refine Kd.R_append kE (w0 := w1) w1.heap.size rfl (.tmp 36) (.tmp 39) 29 TE (.agg #[.string ByteArray.empty, .int .i64 0, .int .i64 0]) 32 rfl Try.underlying29 infoE rfl kE_pos (by omega) (.slice A3 L.length c3) L (en y) [.string y.k, .int .i64 y.v, .int .i64 y.h] (fun _ => True) (fun _ => False) rfl rfl ?aP (fun _ hk => hk.elim) ?aF ?aO ?aB ?aS ?aL ?_
          case aP => exact kE_mkM _ _ _ (en y)
          case aF => exact fun _ _ => trivial
          case aO => exact HR5.out
          case aB => exact HB5.out
          case aS => exact below_size HB5.out
          case aL => omega
          intro v1 w6 ho6 hb6 hg6 hat6
          have HO6 := Aside0.mk ho6
          have HB6 := Aside0.mk hb6
          clear ho6 hb6 hg6 hat6 HR5 HB5
          have H6 := Aside0.mk (H1.out.below HB6.out)
          obtain ⟨zyn, _, _, _⟩ := H6.out.nextAt HE2.out
          have hz0 := zyn.cell 0 _ rfl
          have HLs := Aside0.mk (lastCalls g st hd p' (y :: t) ByteArray.empty y.k false w6 (HE2.out ▸ H6.out) (ends_at (HE2.out ▸ H6.out.srt)))
          clear zyn
          go_wp2_with fail
          refine HLs.out.mono ?_
          rintro e w7 ⟨rfl, hb7⟩
          have HO7 := Aside0.mk (Kd.R_below HO6.out hb7)
          have HB7 := Aside0.mk (HB6.out.trans (hb7.mono HB6.out.size))
          clear hb7 HO6 HB6 H6 HLs hz0
          go_wp2
          go_roundg p'.length
          case measure => simp
          case rel => exact ⟨p', y :: t, L ++ [en y], rfl, rfl, HE2, HO7, ⟨by
            rw [← HF.out, HS.out, List.map_cons, List.append_assoc, List.singleton_append, List.length_append, List.length_singleton]
            congr 3
            congr 1
            omega⟩, ⟨by rw [List.length_append]; have := HK.out; simp; omega⟩, HB7⟩
        · have HV := Aside0.mk (fun nq => Kd.R_below (HD.out _ (by rw [fallS, if_neg (fun h => hk (by omega))]) HR.out) (pw_below_drewN (Below.refl _ wr) nq))
          clear HD HF HE HE2 HXz HYn Hz hst
          go_wp2_with fail
          go_quiet (fail)
          go_wp2
          go_ret
          exact ⟨_, rfl, HV.out nq, pw_below_drewN HBe.out nq⟩
      · have hkb : Op.bytesLess y.k.toList rlo.toList = true := by
          cases hb : Op.bytesLess y.k.toList rlo.toList with
          | false => exact absurd hb hst
          | true => rfl
        have HV := Aside0.mk (fun nq => Kd.R_below (HD.out _ (by rw [fallS, if_neg (fun h => hst h.1)]) HR.out) (pw_below_drewN (Below.refl _ wr) nq))
        clear HD HF HE HE2 HXz HYn Hz hst
        go_wp2_with fail
        go_quiet (fail)
        go_wp2
        go_ret
        exact ⟨_, rfl, HV.out nq, pw_below_drewN HBe.out nq⟩
theorem scanBack (g : Nat) (hd : Nd) (lo hi : List Nd) (rlo rhi : ByteArray) (opn : Bool) (most : Int) (w : World) (h : Sk w g 0 hd (lo ++ hi)) (he : Ends lo hi rhi opn) (hm : 1 ≤ most) (hlen : (lo ++ hi).length ≤ 3518437208780) :
    Calls Try.prog 8 #[.pointer (some ⟨g, 0, none⟩), .agg #[.string rlo, .string rhi, .bool opn], .bool true, .int .i64 most] w fun e w' => ∃ v, e = .returned v ∧ MR w' w.heap.size v ((fallS lo.reverse rlo most).map en) ∧ Below w.heap.size w w' := by
  obtain ⟨W, hW⟩ : ∃ W, W = w.alloc (.cells #[.string rlo, .string rhi, .bool opn] TRg) := ⟨_, rfl⟩
  have hb : Below w.heap.size w W := by rw [hW]; exact (Below.refl _ _).alloc (Nat.le_refl _) _
  have HX : Aside0 (Blk W w.heap.size [.string rlo, .string rhi, .bool opn] TRg) := ⟨by rw [hW]; exact Blk.newA w _ _⟩
  have HB := Aside0.mk hb
  have H := Aside0.mk (h.below hb)
  have HI := Aside0.mk (isTrue g 0 hd _ W H.out)
  have HF := Aside0.mk (fallingCalls g 0 hd lo hi rlo rhi opn most W H.out he hlen)
  clear h he hb hlen
  go_enter Try.func8, Try.ntmps8
  go_wp2_with fail
  rw [← hW]
  clear hW
  refine HI.out.mono ?_
  rintro e w' ⟨rfl, rfl⟩
  have x0 := HX.out.cell 0 _ rfl
  have x1 := HX.out.cell 1 _ rfl
  have x2 := HX.out.cell 2 _ rfl
  go_wp2_with fail
  refine HF.out.mono ?_
  rintro e w1 ⟨v, rfl, hr, hb1⟩
  have HR : Aside0 (MR w1 w.heap.size v ((fallS lo.reverse rlo most).map en)) := ⟨Kd.R_lower hr HB.out.size⟩
  have HB1 := Aside0.mk (HB.out.trans (hb1.mono HB.out.size))
  clear hr hb1
  go_wp2
  go_ret
  exact ⟨_, rfl, HR.out, HB1.out⟩
theorem scanNone (g : Nat) (hd : Nd) (ns : List Nd) (rlo rhi : ByteArray) (opn back : Bool) (most : Int) (w : World) (h : Sk w g 0 hd ns) (hm : most < 1) :
    Calls Try.prog 8 #[.pointer (some ⟨g, 0, none⟩), .agg #[.string rlo, .string rhi, .bool opn], .bool back, .int .i64 most] w fun e w' => e = .returned (.slice none 0 0) ∧ Below w.heap.size w w' := by
  obtain ⟨W, hW⟩ : ∃ W, W = w.alloc (.cells #[.string rlo, .string rhi, .bool opn] TRg) := ⟨_, rfl⟩
  have hb : Below w.heap.size w W := by rw [hW]; exact (Below.refl _ _).alloc (Nat.le_refl _) _
  have HB := Aside0.mk hb
  have HI := Aside0.mk (isTrue g 0 hd _ W (h.below hb))
  clear h hb
  go_enter Try.func8, Try.ntmps8
  go_wp2_with fail
  rw [← hW]
  clear hW
  refine HI.out.mono ?_
  rintro e w' ⟨rfl, rfl⟩
  go_wp2
  go_ret
  exact ⟨rfl, HB.out⟩
end Go.Proofs.Ytnpjppnahfehnaa.Skip
