/- Layer 12's list: the last one below a key, or of all. -/
import Derived.Test.YtnpjppnahfehnaaSkipJ
import Derived.Deep.QuietTactic
import Derived.BigQuiet
namespace Go.Proofs.Ytnpjppnahfehnaa.Skip
set_option linter.unusedVariables false
set_option linter.unusedSimpArgs false
open Go.RowKit Go.Proofs.YtnpjppnahfehnaaW.PrintWords Go.Proofs.Ytnpjppnahfehnaa.Kit Go.MuLone

abbrev TRg : TypeId := 24
/-- Where the range's end parts the list: none is behind an open one. -/
structure Ends (lo hi : List Nd) (rhi : ByteArray) (opn : Bool) : Prop where
  lo : ∀ x ∈ lo, opn = true ∨ ltB x.k rhi = true
  hi : ∀ x ∈ hi, opn = false ∧ ltB x.k rhi = false
theorem ends (ns : List Nd) (rhi : ByteArray) (opn : Bool) (h : Sorted ns) : ∃ lo hi, ns = lo ++ hi ∧ Ends lo hi rhi opn := by
  cases opn with
  | true => exact ⟨ns, [], by simp, ⟨fun _ _ => Or.inl rfl, fun x hx => by simp at hx⟩⟩
  | false =>
    obtain ⟨lo, hi, e, a, b⟩ := parts rhi ns h
    exact ⟨lo, hi, e, ⟨fun x hx => Or.inr (a x hx), fun x hx => ⟨rfl, b x hx⟩⟩⟩
def lastP (lo : List Nd) : Option Nat := lo.getLast?.map (·.p)

set_option maxRecDepth 100000 in
set_option maxHeartbeats 8000000 in
theorem lastCalls (g : Nat) (st : Int) (hd : Nd) (lo hi : List Nd) (rlo rhi : ByteArray) (opn : Bool) (w : World) (h : Sk w g st hd (lo ++ hi)) (he : Ends lo hi rhi opn) :
    Calls Try.prog 39 #[.pointer (some ⟨g, 0, none⟩), .agg #[.string rlo, .string rhi, .bool opn]] w fun e w' => e = .returned (ptr (lastP lo)) ∧ Below w.heap.size w w' := by
  have HE := Aside0.mk he
  obtain ⟨W, hW⟩ : ∃ W, W = w.alloc (.cells #[.string rlo, .string rhi, .bool opn] TRg) := ⟨_, rfl⟩
  have hb : Below w.heap.size w W := by rw [hW]; exact (Below.refl _ _).alloc (Nat.le_refl _) _
  have HX : Aside0 (Blk W w.heap.size [.string rlo, .string rhi, .bool opn] TRg) := ⟨by rw [hW]; exact Blk.newA w _ _⟩
  have HB := Aside0.mk hb
  have H := Aside0.mk (h.below hb)
  have hc3 := H.out.c3
  have HP : Aside0 (Pos W hd lo hi 16 hd lo) := ⟨⟨H.out.lnk, by rw [h.hh]; exact Nat.le_refl _, fun _ _ => rfl, fun _ h => h⟩⟩
  have HNp := Aside0.mk h.np
  have HH := Aside0.mk (fun x (hx : x ∈ lo) => (h.hts x (List.mem_append_left _ hx)).1)
  clear h he hb
  go_enter Try.func39, Try.ntmps39
  go_upto_region 1 with (fail)
  rw [← hW]
  clear hW
  go_wp2_with fail
  clear hc3
  go_loopw [5, 6] (fun a i wr => ∃ (c : Nat) (x : Nd) (b : List Nd), c ≤ 16 ∧ a = .pointer (some ⟨x.p, 0, none⟩) ∧ i = .int .i64 ((c : Int) - 1) ∧ Aside0 (Pos wr hd lo hi c x b ∧ (c = 0 → lastAt 0 hd lo = x)) ∧ Aside0 (Below W.heap.size W wr)) (fun _ i _ => (intOf i + 1).toNat)
  case atStart => exact ⟨16, hd, lo, Nat.le_refl _, rfl, rfl, ⟨HP.out, fun e => by omega⟩, ⟨Below.refl _ _⟩⟩
  case round =>
    clear HP
    obtain ⟨c, x, b, hcl, rfl, rfl, HP, HBr⟩ := hrel
    have Hr := Aside0.mk (H.out.below HBr.out)
    cases c with
    | zero =>
      have HLast := Aside0.mk (last0 hd lo HH.out)
      have e := HP.out.2 rfl
      have HN := Aside0.mk HP.out.1.node
      have hcc := Hr.out.c3
      clear HH
      cases hlo : lo.getLast? with
      | none =>
        have e2 : x = hd := by rw [← e, HLast.out, hlo]; rfl
        subst e2
        have HRes : Aside0 (ptr (lastP lo) = .pointer none) := ⟨by unfold lastP; rw [hlo]; rfl⟩
        have hpe := ptrSame wr x.p
        clear e hlo HLast HP
        go_wp2
        go_ret
        exact ⟨by rw [HRes.out]; rfl, HB.out.trans (HBr.out.mono HB.out.size)⟩
      | some y =>
        have e2 : x = y := by rw [← e, HLast.out, hlo]; rfl
        subst e2
        have HRes : Aside0 (ptr (lastP lo) = .pointer (some ⟨x.p, 0, none⟩)) := ⟨by unfold lastP; rw [hlo]; rfl⟩
        have hne : ¬ x.p = hd.p := by
          have hm : x ∈ lo := List.mem_of_getLast? hlo
          have hn := HNp.out
          rw [List.map_cons, List.nodup_cons] at hn
          exact fun e => hn.1 (e ▸ List.mem_map_of_mem (List.mem_append_left _ hm))
        have hpe := ptrOther wr x hd hne HN.out Hr.out.lnk.1
        clear e hlo HLast HP hne
        go_wp2
        go_ret
        exact ⟨by rw [HRes.out]; rfl, HB.out.trans (HBr.out.mono HB.out.size)⟩
    | succ c =>
      have e0 : ((c + 1 : Nat) : Int) - 1 = (c : Int) := by omega
      rw [e0]
      clear e0
      have HP1 := Aside0.mk HP.out.1
      clear HP
      have hn2 := HP1.out.node.cell 2 _ rfl
      obtain ⟨hq, hisn⟩ := HP1.out.cell c (Nat.lt_succ_self c)
      have hxh := HP1.out.ht
      have hlt : (c : Int) < (x.h : Int) := by omega
      have HL := Aside0.mk (pload x.q c _ _ hq hisn)
      clear hq hisn hxh
      go_wp2_with fail
      refine HL.out.mono ?_
      rintro e w' ⟨rfl, rfl⟩
      clear HL hn2 hlt
      go_wp2_with fail
      go_loopg [5, 7] b.length (fun n a v wz => ∃ (x : Nd) (b : List Nd), n = b.length ∧ a = .pointer (some ⟨x.p, 0, none⟩) ∧ v = ptr (fst? c (b ++ hi) (fun _ => none)) ∧ Aside0 (Pos wz hd lo hi (c + 1) x b) ∧ Aside0 (Below W.heap.size W wz))
      case atStart => exact ⟨x, b, rfl, rfl, rfl, HP1, HBr⟩
      case round =>
        clear HP1 HBr Hr
        obtain ⟨y, b', rfl, rfl, rfl, HP, HBz⟩ := hrel
        have HXz := Aside0.mk (HX.out.belowSize HBz.out)
        have q1 := HXz.out.cell 1 _ rfl
        have q2 := HXz.out.cell 2 _ rfl
        have hyh := HP.out.ht
        rcases first_in c b' with hno | ⟨b1, y2, b2, rfl, hc2, hn1⟩
        · have HD := Aside0.mk (HP.out.down hno)
          have hend : ∃ q : Option Nat, fst? c (b' ++ hi) (fun _ => none) = q ∧ (q = none ∨ ∃ z, z ∈ hi ∧ q = some z.p) := by
            rw [fst_app, fst_none c b' _ hno]
            rcases first_in c hi with h3 | ⟨h1, z, h2, rfl, hz1, hz2⟩
            · exact ⟨none, fst_none c hi _ h3, Or.inl rfl⟩
            · exact ⟨some z.p, fst_hit c h1 h2 z _ hz2 hz1, Or.inr ⟨z, List.mem_append_right _ List.mem_cons_self, rfl⟩⟩
          obtain ⟨q, hqe, hq3⟩ := hend
          rw [hqe]
          have HNd := Aside0.mk (fun z (hz : z ∈ hi) => (show NodeB _ z from HP.out.lnk.2.2.node (List.mem_append_right _ hz)))
          clear hqe hno hyh HP
          rcases hq3 with rfl | ⟨z, hz, rfl⟩
          · rw [show ptr none = .pointer none from rfl]
            go_wp2_with fail
            go_quiet (fail)
            have hbq : Below wr.heap.size wr (wr.drewN nq) := pw_below_drewN (Below.refl _ wr) nq
            have HDn := Aside0.mk (show (Pos (wr.drewN nq) hd lo hi c y b' ∧ (c = 0 → lastAt 0 hd lo = y)) from ⟨HD.out.1.below hbq, fun e => by rw [← HD.out.2, e]⟩)
            have HBn := Aside0.mk (HBz.out.trans (hbq.mono HBz.out.size))
            clear hbq HD HBz HXz HNd q1 q2
            go_wp2
            go_roundw
            case rel => exact ⟨c, y, b', by omega, rfl, rfl, HDn, HBn⟩
            case measure => simp [intOf]
          · have hzn := (HNd.out z hz).cell 0 _ rfl
            obtain ⟨hop, hzk⟩ := HE.out.hi z hz
            have hzk : Op.bytesLess z.k.toList rhi.toList = false := hzk
            subst hop
            rw [show ptr (some z.p) = .pointer (some ⟨z.p, 0, none⟩) from rfl]
            clear hz
            go_wp2_with fail
            go_quiet (fail)
            have hbq : Below wr.heap.size wr (wr.drewN nq) := pw_below_drewN (Below.refl _ wr) nq
            have HDn := Aside0.mk (show (Pos (wr.drewN nq) hd lo hi c y b' ∧ (c = 0 → lastAt 0 hd lo = y)) from ⟨HD.out.1.below hbq, fun e => by rw [← HD.out.2, e]⟩)
            have HBn := Aside0.mk (HBz.out.trans (hbq.mono HBz.out.size))
            clear hbq HD HBz HXz HNd q1 q2
            go_wp2
            go_roundw
            case rel => exact ⟨c, y, b', by omega, rfl, rfl, HDn, HBn⟩
            case measure => simp [intOf]
        · rw [List.append_assoc, List.cons_append, fst_hit c b1 (b2 ++ hi) y2 _ hn1 hc2, show ptr (some y2.p) = .pointer (some ⟨y2.p, 0, none⟩) from rfl]
          have HP2 := Aside0.mk (HP.out.step (y := y2) (by omega))
          have hzn := HP2.out.node.cell 0 _ rfl
          have hlt2 : (c : Int) < (y2.h : Int) := by omega
          have hlo := HE.out.lo y2 (HP.out.sub y2 (List.mem_append_right _ List.mem_cons_self))
          clear HP hyh hn1 hc2
          cases opn with
          | true =>
            clear hlo
            go_wp2_with fail
            go_quiet (fail)
            have hbq : Below wr.heap.size wr (wr.drewN nq) := pw_below_drewN (Below.refl _ wr) nq
            have HPn := Aside0.mk (HP2.out.below hbq)
            have HBn := Aside0.mk (HBz.out.trans (hbq.mono HBz.out.size))
            have hy2n := HPn.out.node.cell 2 _ rfl
            obtain ⟨hq, hisn⟩ := HPn.out.cell c (Nat.lt_succ_self c)
            have HL := Aside0.mk (pload y2.q c _ _ hq hisn)
            clear hbq hq hisn HP2 HBz HXz q1 q2 hzn
            go_wp2_with fail
            refine HL.out.mono ?_
            rintro e w' ⟨rfl, rfl⟩
            clear HL hy2n
            go_wp2
            go_roundg b2.length
            case measure => simp; omega
            case rel => exact ⟨y2, b2, rfl, rfl, rfl, HPn, HBn⟩
          | false =>
            have hzk : Op.bytesLess y2.k.toList rhi.toList = true := by
              rcases hlo with h | h
              · cases h
              · exact h
            clear hlo
            go_wp2_with fail
            go_quiet (fail)
            have hbq : Below wr.heap.size wr (wr.drewN nq) := pw_below_drewN (Below.refl _ wr) nq
            have HPn := Aside0.mk (HP2.out.below hbq)
            have HBn := Aside0.mk (HBz.out.trans (hbq.mono HBz.out.size))
            have hy2n := HPn.out.node.cell 2 _ rfl
            obtain ⟨hq, hisn⟩ := HPn.out.cell c (Nat.lt_succ_self c)
            have HL := Aside0.mk (pload y2.q c _ _ hq hisn)
            clear hbq hq hisn HP2 HBz HXz q1 q2 hzn
            go_wp2_with fail
            refine HL.out.mono ?_
            rintro e w' ⟨rfl, rfl⟩
            clear HL hy2n
            go_wp2
            go_roundg b2.length
            case measure => simp; omega
            case rel => exact ⟨y2, b2, rfl, rfl, rfl, HPn, HBn⟩
end Go.Proofs.Ytnpjppnahfehnaa.Skip
