/- Merged by wip/tools/merge.py: SkipI SkipJ SkipJD SkipK SkipL SkipM SkipN SkipP. -/
import Derived.Test.YtnpjppnahfehnaaSkipPa
import Derived.Deep.QuietTactic
import Derived.BigQuiet
/- Layer 12's list: remove. -/
namespace Go.Proofs.Ytnpjppnahfehnaa.Skip
set_option linter.unusedVariables false
set_option linter.unusedSimpArgs false
open Go.RowKit Go.Proofs.YtnpjppnahfehnaaW.PrintWords Go.Proofs.Ytnpjppnahfehnaa.Kit Go.MuLone

theorem Sk.partsApart {w : World} {g : Nat} {st : Int} {hd : Nd} {lo hi : List Nd} (h : Sk w g st hd (lo ++ hi)) : ∀ k, Foot hi k → ¬ Foot (hd :: lo) k := by
  rintro k ⟨x, hx, ex⟩ ⟨y, hy, ey⟩
  have np := h.np
  have nq := h.nq
  rw [← List.cons_append, List.map_append, List.nodup_append] at np nq
  have hx2 : x ∈ hd :: (lo ++ hi) := List.mem_cons_of_mem _ (List.mem_append_right _ hx)
  have hy2 : y ∈ hd :: (lo ++ hi) := by
    rcases List.mem_cons.1 hy with rfl | hy
    · exact List.mem_cons_self
    · exact List.mem_cons_of_mem _ (List.mem_append_left _ hy)
  rcases ex with rfl | rfl <;> rcases ey with e | e
  · exact np.2.2 y.p (List.mem_map_of_mem hy) x.p (List.mem_map_of_mem hx) e.symm
  · exact h.lnk.pq hx2 hy2 e
  · exact h.lnk.pq hy2 hx2 e.symm
  · exact nq.2.2 y.q (List.mem_map_of_mem hy) x.q (List.mem_map_of_mem hx) e.symm
theorem Foot.left {hd : Nd} {lo hi : List Nd} {k : Nat} (h : Foot (hd :: lo) k) : Foot (hd :: (lo ++ hi)) k := by
  obtain ⟨x, hx, e⟩ := h
  refine ⟨x, ?_, e⟩
  rcases List.mem_cons.1 hx with rfl | hx
  · exact List.mem_cons_self
  · exact List.mem_cons_of_mem _ (List.mem_append_left _ hx)
theorem Foot.right {hd : Nd} {lo hi : List Nd} {k : Nat} (h : Foot hi k) : Foot (hd :: (lo ++ hi)) k := by
  obtain ⟨x, hx, e⟩ := h
  exact ⟨x, List.mem_cons_of_mem _ (List.mem_append_right _ hx), e⟩
theorem mem_drop1 {hd z : Nd} {lo t : List Nd} {x : Nd} (h : x ∈ hd :: (lo ++ t)) : x ∈ hd :: (lo ++ z :: t) := by
  rcases List.mem_cons.1 h with rfl | h
  · exact List.mem_cons_self
  · rcases List.mem_append.1 h with h | h
    · exact List.mem_cons_of_mem _ (List.mem_append_left _ h)
    · exact List.mem_cons_of_mem _ (List.mem_append_right _ (List.mem_cons_of_mem _ h))
theorem Sk.delete {w0 w : World} {g : Nat} {st : Int} {hd z : Nd} {lo t : List Nd} (h : Sk w0 g st hd (lo ++ z :: t))
    (row : Blk w g [.bool true, .int .i32 st, .int .u32 0, .pointer (some ⟨hd.p, 0, none⟩), .int .i64 ((lo ++ t).length)] TL)
    (l1 : Links w (hd :: lo) (fun i => fst? i t (fun _ => none))) (l2 : Links w t (fun _ => none)) : Sk w g st hd (lo ++ t) where
  row := row
  lnk := by
    rw [← List.cons_append, Links.split]
    exact ⟨l1, l2⟩
  hh := h.hh
  hts := fun x hx => h.hts x (by
    rcases List.mem_append.1 hx with hx | hx
    · exact List.mem_append_left _ hx
    · exact List.mem_append_right _ (List.mem_cons_of_mem _ hx))
  srt := by
    have hs := h.srt
    unfold Sorted at hs ⊢
    rw [List.pairwise_append, List.pairwise_cons] at hs
    rw [List.pairwise_append]
    exact ⟨hs.1, hs.2.1.2, fun x hx y hy => hs.2.2 x hx y (List.mem_cons_of_mem _ hy)⟩
  np := by
    have hn := h.np
    rw [← List.cons_append, map_mid, nodup_mid, ← List.map_append] at hn
    exact hn.2
  nq := by
    have hn := h.nq
    rw [← List.cons_append, map_mid, nodup_mid, ← List.map_append] at hn
    exact hn.2
theorem Fp.delete {g : Nat} {hd z : Nd} {lo t : List Nd} {i : Nat} (h : Fp g hd (lo ++ t) i) : Fp g hd (lo ++ z :: t) i := by
  rcases h with h | ⟨x, hx, e⟩
  · exact Or.inl h
  · exact Or.inr ⟨x, mem_drop1 hx, e⟩

theorem removeMiss (g : Nat) (st : Int) (hd : Nd) (lo hi : List Nd) (key : ByteArray) (w : World) (h : Sk w g st hd (lo ++ hi)) (hlo : ∀ x ∈ lo, ltB x.k key = true) (hhi : ∀ x ∈ hi, ltB x.k key = false) (hm : Miss hi key) :
    Calls Try.prog 37 #[.pointer (some ⟨g, 0, none⟩), .string key] w fun e w' => e = .returned (.tuple #[.int .i64 0, .bool false]) ∧ Below w.heap.size w w' := by
  have HF := Aside0.mk (findMiss g st hd lo hi key w h hlo hhi hm)
  clear h hlo hhi hm
  go_enter Try.func37, Try.ntmps37
  go_wp2_with fail
  refine HF.out.mono ?_
  rintro e w1 ⟨rfl, hb⟩
  have HB := Aside0.mk hb
  clear hb
  go_wp2
  go_ret2
  exact ⟨rfl, HB.out⟩

set_option maxRecDepth 100000 in
set_option maxHeartbeats 8000000 in
theorem removeHit (g : Nat) (st : Int) (hd : Nd) (lo t : List Nd) (z : Nd) (key : ByteArray) (w : World) (h : Sk w g st hd (lo ++ z :: t)) (hlo : ∀ x ∈ lo, ltB x.k key = true) (hhi : ∀ x ∈ z :: t, ltB x.k key = false) (hm : z.k = key)
    (hlen : (lo ++ z :: t).length < 4611686018427387904) :
    Calls Try.prog 37 #[.pointer (some ⟨g, 0, none⟩), .string key] w fun e w' => e = .returned (.tuple #[.int .i64 z.v, .bool true]) ∧ Lv w w' g st hd (lo ++ z :: t) (lo ++ t) := by
  have HF := Aside0.mk (findHit g st hd lo key w z t h hlo hhi hm)
  have H := Aside0.mk h
  have HLo := Aside0.mk hlo
  have HHi := Aside0.mk hhi
  have HLen := Aside0.mk hlen
  have hz := zeroA
  have hZs : Aside0 ((List.replicate 16 (Value.pointer none)).toArray.size = (outC hd lo 0).toArray.size) := ⟨by simp [outC_len]⟩
  have hne : ¬ (List.replicate 16 (Value.pointer none)).toArray = #[] := by simp
  generalize (List.replicate 16 (Value.pointer none)).toArray = Z at *
  have HI : Aside0 ((Try.prog.info? TA).map (·.size) = some (outC hd lo 0).toArray.size) := ⟨by rw [show (outC hd lo 0).toArray.size = 16 by simp [outC_len]]; kernel_rfl⟩
  have H1 : Aside0 ((outC hd lo 0).toArray.all (·.oneCell') = true) := ⟨by
    rw [Array.all_eq_true_iff_forall_mem]
    intro v hv
    simp only [List.mem_toArray, outC, List.mem_map] at hv
    obtain ⟨l, _, rfl⟩ := hv
    split <;> rfl⟩
  have hzm : z ∈ lo ++ z :: t := List.mem_append_right _ List.mem_cons_self
  have hzh := h.hts z hzm
  clear h hlo hhi hm hlen
  go_enter Try.func37, Try.ntmps37
  go_wp2_with fail
  refine HF.out.mono ?_
  rintro e w1 ⟨rfl, hb⟩
  have HB := Aside0.mk hb
  have Hs1 := Aside0.mk (H.out.below hb)
  clear hb HF H
  have HBf := Aside0.mk (Hs1.out.before key HLo.out HHi.out)
  go_wp2_with fail
  refine HBf.out.mono ?_
  rintro e w3 ⟨rfl, hb3⟩
  have Hs4 := Aside0.mk (Hs1.out.below hb3)
  have HB4 := Aside0.mk (HB.out.trans (hb3.mono HB.out.size))
  clear hb3 Hs1 HB HBf
  have ha12 : (w3.alloc (.cells Z TA)).heap[w3.heap.size]? = some (.cells Z TA (0, 0)) := heap_alloc_new w3 _
  obtain ⟨W4, hW4⟩ : ∃ W4, W4 = (w3.alloc (.cells Z TA)).setRow w3.heap.size (outC hd lo 0).toArray := ⟨_, rfl⟩
  have hb4 : Below w3.heap.size w3 W4 := by
    rw [hW4]
    exact ⟨rfl, rfl, rfl, by rw [setRow_size]; simp, fun k hk => by rw [setRow_other _ _ _ _ (by omega)]; exact Below.heap_alloc w3 _ k hk⟩
  have HA : Aside0 (Blk W4 w3.heap.size (outC hd lo 0) TA) := ⟨⟨by rw [hW4]; exact setRow_heap _ _ _ _ _ _ (heap_alloc_new w3 _)⟩⟩
  have Hs5 := Aside0.mk (Hs4.out.below hb4)
  have HB5 := Aside0.mk (HB4.out.trans (hb4.mono HB4.out.size))
  have hzn := (Hs5.out.lnk.node (x := z) (List.mem_cons_of_mem _ hzm))
  have hz2 := hzn.cell 2 _ rfl
  have HZn := Aside0.mk hzn
  clear hzn
  go_upto_region 5 with (with_reducible refine wpList_store_row rfl TA (.tmp 7) (.tmp 16) rfl w3.heap.size (outC hd lo 0).toArray rfl rfl TA Z ha12 HI.out hZs.out H1.out ?_)
  rw [← hW4]
  clear ha12 hW4 hb4 Hs4 HB4 hz hne hZs HI H1
  have HAn : Aside0 (∀ i, Fp g hd (lo ++ z :: t) i → i ≠ w3.heap.size) := ⟨fun i hi e => by
    obtain ⟨cs, t', hb', ht⟩ := Hs5.out.typed hi
    have := Blk.uniq HA.out (e ▸ hb')
    rcases ht with rfl | rfl | rfl <;> exact absurd this (by decide)⟩
  generalize w3.heap.size = an at *
  have hsplit := Hs5.out.lnk
  rw [← List.cons_append, Links.split] at hsplit
  have HL0 : Aside0 (Links W4 (hd :: lo) (fun l => if l < z.h then some z.p else fst? l t (fun _ => none))) := ⟨hsplit.1⟩
  have HZq := Aside0.mk hsplit.2.2.1
  have HLt := Aside0.mk hsplit.2.2.2
  have HAp := Aside0.mk Hs5.out.partsApart
  have HNd : Aside0 (((hd :: lo).map (·.q)).Nodup) := ⟨by
    have := Hs5.out.nq
    rw [← List.cons_append, List.map_append, List.nodup_append] at this
    exact this.1⟩
  have HPq : Aside0 (∀ y ∈ hd :: lo, ∀ x ∈ hd :: lo, y.p ≠ x.q) := ⟨fun y hy x hx => HL0.out.pq hy hx⟩
  have Hhh := Aside0.mk Hs5.out.hh
  have HOr : Aside0 (Only (Foot (hd :: lo)) W4 W4) := ⟨Only.refl _ _⟩
  clear hsplit
  go_wp2_with fail
  go_loopw [8] (fun x wz => ∃ c : Nat, c ≤ z.h ∧ x = .int .i64 ((c : Int) - 1) ∧ Aside0 (Links wz (hd :: lo) (fun l => if l < c then some z.p else fst? l t (fun _ => none))) ∧ Aside0 (Only (Foot (hd :: lo)) W4 wz)) (fun x _ => (intOf x + 1).toNat)
  case atStart => exact ⟨z.h, Nat.le_refl _, rfl, HL0, HOr⟩
  case round =>
    clear HL0 HOr hz2
    obtain ⟨c, hcl, rfl, HL, HO⟩ := hrel
    have hnz : ∀ k, Foot (z :: t) k → ¬ Foot (hd :: lo) k := HAp.out
    have HZr := Aside0.mk (show NodeB _ z from HO.out.blk HZn.out (hnz _ (Foot.head (Or.inl rfl))))
    cases c with
    | zero =>
      have hgf : ¬ Foot (hd :: lo) g := fun hf => Hs5.out.gN g hf.left rfl
      have hrow := HO.out.blk Hs5.out.row hgf
      have hlen : wrap64 (((lo ++ z :: t).length : Int) + -1) = ((lo ++ t).length : Int) := by
        have := HLen.out
        rw [List.length_append, List.length_cons] at this ⊢
        rw [List.length_append]
        unfold wrap64
        omega
      have HAd := Aside0.mk (i64Add g 4 _ (-1) _ (hrow.cell 4 _ rfl) (hrow.free 4))
      rw [hlen] at HAd
      have HRow := Aside0.mk hrow
      have hzg : z.p ≠ g := fun e => Hs5.out.gN g ⟨z, List.mem_cons_of_mem _ hzm, Or.inl e.symm⟩ rfl
      clear hlen hnz
      go_wp2_with fail
      refine HAd.out.mono ?_
      rintro e w7 ⟨rfl, hw7⟩
      have HZ7 : Aside0 (NodeB w7 z) := ⟨by rw [← hw7]; exact HZr.out.far (a := ⟨g, 4, none⟩) hzg _⟩
      have HEnd : Aside0 (Lv w w7 g st hd (lo ++ z :: t) (lo ++ t)) := ⟨by
        have hfg : ∀ l : List Nd, (∀ x ∈ l, x ∈ hd :: (lo ++ z :: t)) → ∀ k, Foot l k → ¬ k = g := fun l hl k ⟨x, hx, e⟩ => Hs5.out.gN k ⟨x, hl x hx, e⟩
        refine ⟨Hs5.out.delete ?_ ?_ ?_, ?_, fun k hk => Or.inl hk.delete⟩
        · rw [← hw7]
          exact HRow.out.put 4 _
        · rw [← hw7]
          have e : (fun l => if l < 0 then some z.p else fst? l t (fun _ => none)) = (fun l => fst? l t (fun _ => none)) := funext fun l => by rw [if_neg (by omega)]
          have hl := HL.out
          rw [e] at hl
          exact hl.other (fun k hk e => hgf (e ▸ hk))
        · rw [← hw7]
          exact (HLt.out.only HO.out t (fun k hk => HAp.out k hk.tail)).other (hfg t (fun x hx => List.mem_cons_of_mem _ (List.mem_append_right _ (List.mem_cons_of_mem _ hx))))
        · rw [← hw7]
          have o1 : Only (Fp g hd (lo ++ z :: t)) w W4 := Only.ofBelow HB5.out
          have o2 := HO.out.mono (T := Fp g hd (lo ++ z :: t)) (fun k hk => Or.inr hk.left)
          exact Only.setCell (S := Fp g hd (lo ++ z :: t)) (o1.trans o2) (p := ⟨g, 4, none⟩) (Or.inl (Or.inl rfl)) _⟩
      have HLd := Aside0.mk (i64Load z.p 1 _ w7 (HZ7.out.cell 1 _ rfl))
      clear hw7 HL HO HAd HRow hzg hgf
      go_wp2_with fail
      refine HLd.out.mono ?_
      rintro e w8 ⟨rfl, rfl⟩
      go_wp2
      go_ret2
      exact ⟨rfl, HEnd.out⟩
    | succ c =>
      have e0 : ((c + 1 : Nat) : Int) - 1 = (c : Int) := by omega
      rw [e0]
      clear e0
      have hch : c < z.h := by omega
      have hc16 : c < 16 := by omega
      have hls := HL.out.last c (by rw [Hhh.out]; omega)
      have hst := fun v => Links.store c v lo hd _ HNd.out (by rw [Hhh.out]; omega) HL.out HPq.out
      rw [if_pos (Nat.lt_succ_self c)] at hls
      obtain ⟨hxn, hxh, hxc, hxf⟩ := hls
      have hac := (HO.out.blk HA.out (fun hf => HAn.out _ (Or.inr hf.left) rfl)).cell c _ (outC_get hd lo c hc16)
      have hzq := (HO.out.blk HZq.out (hnz _ (Foot.head (Or.inr rfl)))).cell c (ptr (fst? c t (fun _ => none))) (by rw [List.getElem?_map, List.getElem?_range hch]; rfl)
      have hIn : IsN _ (fst? c t (fun _ => none)) := (HLt.out.only HO.out t (fun k hk => hnz k hk.tail)).isN c (IsN.nil _)
      have HOn : Aside0 (Only (Foot (hd :: lo)) W4 (wr.drew.setCell ⟨(lastAt c hd lo).q, c, none⟩ (ptr (fst? c t (fun _ => none))))) := ⟨Only.setCell (S := Foot (hd :: lo)) HO.out.drew (p := ⟨(lastAt c hd lo).q, c, none⟩) (Or.inl ⟨_, lastAt_mem c lo hd, Or.inr rfl⟩) _⟩
      have hst := fun v => Links.store (w := wr.drew) c v lo hd _ HNd.out (by rw [Hhh.out]; omega) (HL.out.below ((Below.refl _ wr).drew)) HPq.out
      have HLn : Aside0 (Links (wr.drew.setCell ⟨(lastAt c hd lo).q, c, none⟩ (ptr (fst? c t (fun _ => none)))) (hd :: lo) (fun l => if l < c then some z.p else fst? l t (fun _ => none))) := ⟨by
        have e : (fun l => if l = c then fst? c t (fun _ => none) else if l < c + 1 then some z.p else fst? l t (fun _ => none)) = (fun l => if l < c then some z.p else fst? l t (fun _ => none)) := by
          funext l
          by_cases h1 : l = c
          · rw [if_pos h1, h1, if_neg (Nat.lt_irrefl c)]
          · rw [if_neg h1]
            by_cases h2 : l < c
            · rw [if_pos h2, if_pos (by omega)]
            · rw [if_neg h2, if_neg (by omega)]
        rw [← e]
        exact hst (fst? c t (fun _ => none))⟩
      clear hst
      generalize lastAt c hd lo = x at *
      have hx2 := hxn.cell 2 _ rfl
      have hz2 := HZr.out.cell 2 _ rfl
      have hb0 : Below wr.heap.size wr wr.drew := (Below.refl _ wr).drew
      have HLd := Aside0.mk (pload z.q c _ wr.drew hzq (hIn.below hb0))
      have HSt := Aside0.mk (pstore x.q c (fst? c t (fun _ => none)) _ wr.drew hxc hxf (hIn.below hb0))
      have i1 : (c : Int) < 16 := by omega
      have i2 : (c : Int) < (z.h : Int) := by omega
      have i3 : (c : Int) < (x.h : Int) := by omega
      clear hxn hxh hxc hxf hIn hzq hnz hb0
      simp only [ptr] at hac
      go_wp2_with fail
      go_region_with (first
        | (go_at_call 24; refine (HLd.out).mono ?_; rintro e w5 ⟨rfl, rfl⟩)
        | (go_at_call 47; refine (HSt.out).mono ?_; rintro e w6 ⟨rfl, hw6⟩))
      all_goals
        rw [hw6] at HLn HOn
        clear hw6 HL HO HLd HSt hac hx2 hz2 HZr
        go_wp2
        go_roundw
        case rel => exact ⟨c, by omega, rfl, HLn, HOn⟩
        case measure => simp [intOf]
end Go.Proofs.Ytnpjppnahfehnaa.Skip
/- Layer 12's list: Put, New. -/
namespace Go.Proofs.Ytnpjppnahfehnaa.Skip
set_option linter.unusedVariables false
set_option linter.unusedSimpArgs false
open Go.RowKit Go.Proofs.YtnpjppnahfehnaaW.PrintWords Go.Proofs.Ytnpjppnahfehnaa.Kit Go.MuLone

theorem Sk.lock {w : World} {g : Nat} {st : Int} {hd : Nd} {ns : List Nd} (h : Sk w g st hd ns) (st' : Int) : Sk (w.setCell ⟨g, 1, none⟩ (.int .i32 st')) g st' hd ns :=
  ⟨h.row.put 1 (.int .i32 st'), h.lnk.other (fun i hi => h.gN i hi), h.hh, h.hts, h.srt, h.np, h.nq⟩
theorem lockOnly (w : World) (g : Nat) (hd : Nd) (ns : List Nd) (v : Value) : Only (Fp g hd ns) w (w.setCell ⟨g, 1, none⟩ v) := Only.setCell (S := Fp g hd ns) (Only.refl _ w) (p := ⟨g, 1, none⟩) (Or.inl (Or.inl rfl)) _
theorem Lv.same {w w' : World} {g : Nat} {st : Int} {hd : Nd} {ns : List Nd} (h : Sk w g st hd ns) (hb : Below w.heap.size w w') : Lv w w' g st hd ns ns := ⟨h.below hb, Only.ofBelow hb, fun _ h => Or.inl h⟩
theorem Lv.wrap {w w1 w2 : World} {g : Nat} {hd : Nd} {ns ns' : List Nd} (h : Lv w1 w2 g 1 hd ns ns') (e : w1 = w.setCell ⟨g, 1, none⟩ (.int .i32 1)) : Lv w (w2.setCell ⟨g, 1, none⟩ (.int .i32 0)) g 0 hd ns ns' where
  sk := h.sk.lock 0
  only := by
    have o1 : Only (Fp g hd ns) w w1 := by rw [e]; exact lockOnly w g hd ns _
    exact (o1.trans h.only).trans (lockOnly w2 g hd ns _)
  fp := fun i hi => by
    have := h.fp i hi
    rw [e] at this
    simpa [World.setCell] using this

set_option maxRecDepth 100000 in
set_option maxHeartbeats 1600000 in
theorem putGen (g : Nat) (hd : Nd) (ns : List Nd) (Q : List Nd → Prop) (key : ByteArray) (v ht a : Int) (b : Bool) (w : World) (h : Sk w g 0 hd ns) (hk : (key.size : Int) ≤ 1025) (h1 : 1 ≤ ht) (h2 : ht ≤ 16)
    (HC : Aside0 (∀ W, Sk W g 1 hd ns → Calls Try.prog 36 #[.pointer (some ⟨g, 0, none⟩), .string key, .int .i64 v, .int .i64 ht] W fun e w' => ∃ ns', e = .returned (.tuple #[.int .i64 a, .bool b]) ∧ Q ns' ∧ Lv W w' g 1 hd ns ns')) :
    Calls Try.prog 18 #[.pointer (some ⟨g, 0, none⟩), .string key, .int .i64 v, .int .i64 ht] w fun e w' => ∃ ns', e = .returned (.tuple #[.int .i64 a, .bool b, .int .i64 0]) ∧ Q ns' ∧ Lv w w' g 0 hd ns ns' := by
  have HI := Aside0.mk (isTrue g 0 hd ns w h)
  have H := Aside0.mk h
  clear h
  go_enter_defers Try.func18, Try.ntmps18
  go_wp2_with fail
  refine HI.out.mono ?_
  rintro e w' ⟨rfl, rfl⟩
  go_wp2_with fail
  refine (lock_free muLib ⟨g, 1, none⟩ w (H.out.row.cell 1 _ rfl) (H.out.row.free 1)).mono ?_
  rintro e w1 ⟨rfl, hw1⟩
  have HW := Aside0.mk hw1
  have H1 : Aside0 (Sk w1 g 1 hd ns) := ⟨by rw [hw1]; exact H.out.lock 1⟩
  clear hw1 H HI
  go_wp2_with fail
  refine (HC.out w1 H1.out).mono ?_
  rintro e w2 ⟨ns', rfl, hq, h2⟩
  have HQ := Aside0.mk hq
  have H2 := Aside0.mk h2
  clear hq h2 HC H1
  go_wp2_with fail
  refine leaves_cons (f := 35) (args := #[.pointer (some ⟨g, 1, none⟩)]) (by simp) (by simp [go_sem]) ?_
  refine (unlock_deferred muLib ⟨g, 1, none⟩ .returning _ (H2.out.sk.row.cell 1 _ rfl) (H2.out.sk.row.free 1)).mono ?_
  rintro e u' w3 ⟨rfl, rfl, hw3⟩
  have H3 : Aside0 (Lv w w3 g 0 hd ns ns') := ⟨by rw [hw3]; exact H2.out.wrap HW.out⟩
  clear hw3 H2 HW
  exact ⟨_, results_tmp3 rfl _ _ _, ns', rfl, HQ.out, H3.out⟩

theorem putLong (g : Nat) (hd : Nd) (ns : List Nd) (key : ByteArray) (v ht : Int) (w : World) (h : Sk w g 0 hd ns) (hk : (1025 : Int) < key.size) :
    Calls Try.prog 18 #[.pointer (some ⟨g, 0, none⟩), .string key, .int .i64 v, .int .i64 ht] w fun e w' => e = .returned (.tuple #[.int .i64 0, .bool false, .int .i64 3]) ∧ w = w' := by
  have HI := Aside0.mk (isTrue g 0 hd ns w h)
  clear h
  go_enter_defers Try.func18, Try.ntmps18
  go_wp2_with fail
  refine HI.out.mono ?_
  rintro e w' ⟨rfl, rfl⟩
  go_wp2_with fail
  exact ⟨_, results_tmp3 rfl _ _ _, rfl, rfl⟩
theorem putHeight (g : Nat) (hd : Nd) (ns : List Nd) (key : ByteArray) (v ht : Int) (w : World) (h : Sk w g 0 hd ns) (hk : (key.size : Int) ≤ 1025) (hh : ht < 1 ∨ 16 < ht) :
    Calls Try.prog 18 #[.pointer (some ⟨g, 0, none⟩), .string key, .int .i64 v, .int .i64 ht] w fun e w' => e = .returned (.tuple #[.int .i64 0, .bool false, .int .i64 120]) ∧ w = w' := by
  have HI := Aside0.mk (isTrue g 0 hd ns w h)
  clear h
  by_cases h1 : ht < 1
  · clear hh
    go_enter_defers Try.func18, Try.ntmps18
    go_wp2_with fail
    refine HI.out.mono ?_
    rintro e w' ⟨rfl, rfl⟩
    go_wp2_with fail
    exact ⟨_, results_tmp3 rfl _ _ _, rfl, rfl⟩
  · have h2 : 16 < ht := by omega
    clear hh
    go_enter_defers Try.func18, Try.ntmps18
    go_wp2_with fail
    refine HI.out.mono ?_
    rintro e w' ⟨rfl, rfl⟩
    go_wp2_with fail
    exact ⟨_, results_tmp3 rfl _ _ _, rfl, rfl⟩
/-- Put of a key that is there, and of one that is not. -/
theorem putOld (g : Nat) (hd : Nd) (lo t : List Nd) (z : Nd) (key : ByteArray) (v ht : Int) (w : World) (h : Sk w g 0 hd (lo ++ z :: t)) (hlo : ∀ x ∈ lo, ltB x.k key = true) (hhi : ∀ x ∈ z :: t, ltB x.k key = false) (hm : z.k = key)
    (hk : (key.size : Int) ≤ 1025) (h1 : 1 ≤ ht) (h2 : ht ≤ 16) :
    Calls Try.prog 18 #[.pointer (some ⟨g, 0, none⟩), .string key, .int .i64 v, .int .i64 ht] w fun e w' => e = .returned (.tuple #[.int .i64 z.v, .bool true, .int .i64 0]) ∧ Lv w w' g 0 hd (lo ++ z :: t) (lo ++ { z with v := v } :: t) :=
  (putGen g hd _ (fun ns' => ns' = lo ++ { z with v := v } :: t) key v ht z.v true w h hk h1 h2 ⟨fun W hW => (putHit g 1 hd lo t z key v ht W hW hlo hhi hm).mono fun e w' ⟨he, hl⟩ => ⟨_, he, rfl, hl⟩⟩).mono fun e w' ⟨ns', he, hq, hl⟩ => ⟨he, hq ▸ hl⟩
theorem putNew (g : Nat) (hd : Nd) (lo hi : List Nd) (key : ByteArray) (v ht : Int) (w : World) (h : Sk w g 0 hd (lo ++ hi)) (hlo : ∀ x ∈ lo, ltB x.k key = true) (hhi : ∀ x ∈ hi, ltB x.k key = false) (hm : Miss hi key)
    (hk : (key.size : Int) ≤ 1025) (h1 : 1 ≤ ht) (h2 : ht ≤ 16) (hlen : (lo ++ hi).length < 4611686018427387904) :
    Calls Try.prog 18 #[.pointer (some ⟨g, 0, none⟩), .string key, .int .i64 v, .int .i64 ht] w fun e w' => ∃ N : Nd, e = .returned (.tuple #[.int .i64 0, .bool false, .int .i64 0]) ∧ N.k = key ∧ N.v = v ∧ (N.h : Int) = ht ∧ Lv w w' g 0 hd (lo ++ hi) (lo ++ N :: hi) := by
  obtain ⟨n, rfl⟩ : ∃ n : Nat, ht = n := ⟨ht.toNat, by omega⟩
  exact (putGen g hd _ (fun ns' => ∃ N : Nd, ns' = lo ++ N :: hi ∧ N.k = key ∧ N.v = v ∧ N.h = n) key v n 0 false w h hk h1 h2 ⟨fun W hW => (putMiss g 1 hd lo hi key v n W hW hlo hhi hm (by omega) (by omega) hlen).mono fun e w' ⟨N, he, a, b, c, hl⟩ => ⟨_, he, ⟨N, rfl, a, b, c⟩, hl⟩⟩).mono
    fun e w' ⟨ns', he, ⟨N, hq, a, b, c⟩, hl⟩ => ⟨N, he, a, b, by rw [c], hq ▸ hl⟩

/-! New -/
theorem newCalls (w : World) :
    Calls Try.prog 13 #[] w fun e w' => ∃ (g : Nat) (hd : Nd), e = .returned (.pointer (some ⟨g, 0, none⟩)) ∧ Sk w' g 0 hd [] ∧ Below w.heap.size w w' ∧ ∀ i, Fp g hd [] i → w.heap.size ≤ i := by
  have hmk : ∀ W : World, (Instr.makeSlice TS (.int .i64 16) (.int .i64 16)).run Try.prog W = .ok (.slice (some ⟨W.heap.size, 0, none⟩) 16 16) (W.alloc (.cells (List.replicate 16 (.pointer none)).toArray TP)) :=
    fun W => make_one (P := Try.prog) TS TP (.pointer none) 8 Try.underlying78 (by kernel_rfl) .i64 .i64 16 (by omega) (by omega) W
  obtain ⟨R, hR⟩ : ∃ R, R = (List.replicate 16 (Value.pointer none)).toArray := ⟨_, rfl⟩
  simp only [← hR] at hmk
  have HR := Aside0.mk hR
  clear hR
  go_enter Try.func13, Try.ntmps13
  go_wp2
  go_ret
  refine ⟨w.heap.size + 1 + 1, ⟨w.heap.size + 1, w.heap.size, (⟨#[]⟩ : ByteArray), 0, 16⟩, rfl, ?_, ?_, ?_⟩
  · refine ⟨?_, ⟨?_, ?_, trivial⟩, rfl, fun x hx => by simp at hx, List.Pairwise.nil, by simp, by simp⟩
    · have := Blk.newA ((w.alloc (.cells R TP)).alloc (.cells #[.string (⟨#[]⟩ : ByteArray), .int .i64 0, .slice (some ⟨w.heap.size, 0, none⟩) 16 16] TN)) #[.bool true, .int .i32 0, .int .u32 0, .pointer (some ⟨w.heap.size + 1, 0, none⟩), .int .i64 0] TL
      simpa using this
    · have := (Blk.newA (w.alloc (.cells R TP)) #[.string (⟨#[]⟩ : ByteArray), .int .i64 0, .slice (some ⟨w.heap.size, 0, none⟩) 16 16] TN).alloc (.cells #[.bool true, .int .i32 0, .int .u32 0, .pointer (some ⟨w.heap.size + 1, 0, none⟩), .int .i64 0] TL)
      unfold NodeB
      simpa using this
    · have := ((Blk.newA w R TP).alloc (.cells #[.string (⟨#[]⟩ : ByteArray), .int .i64 0, .slice (some ⟨w.heap.size, 0, none⟩) 16 16] TN)).alloc (.cells #[.bool true, .int .i32 0, .int .u32 0, .pointer (some ⟨w.heap.size + 1, 0, none⟩), .int .i64 0] TL)
      rw [HR.out] at this ⊢
      exact this
  · exact (((Below.refl _ _).alloc (Nat.le_refl _) _).alloc (by simp) _).alloc (by simp; omega) _
  · rintro i (rfl | ⟨x, hx, e⟩)
    · omega
    · rw [List.mem_singleton] at hx
      subst hx
      rcases e with rfl | rfl <;> simp only <;> omega
end Go.Proofs.Ytnpjppnahfehnaa.Skip
/- Layer 12's list: Delete. -/
namespace Go.Proofs.Ytnpjppnahfehnaa.Skip
set_option linter.unusedVariables false
set_option linter.unusedSimpArgs false
open Go.RowKit Go.Proofs.YtnpjppnahfehnaaW.PrintWords Go.Proofs.Ytnpjppnahfehnaa.Kit Go.MuLone

set_option maxRecDepth 100000 in
set_option maxHeartbeats 1600000 in
theorem deleteGen (g : Nat) (hd : Nd) (ns ns' : List Nd) (key : ByteArray) (a : Int) (b : Bool) (w : World) (h : Sk w g 0 hd ns)
    (HC : Aside0 (∀ W, Sk W g 1 hd ns → Calls Try.prog 37 #[.pointer (some ⟨g, 0, none⟩), .string key] W fun e w' => e = .returned (.tuple #[.int .i64 a, .bool b]) ∧ Lv W w' g 1 hd ns ns')) :
    Calls Try.prog 19 #[.pointer (some ⟨g, 0, none⟩), .string key] w fun e w' => e = .returned (.tuple #[.int .i64 a, .bool b]) ∧ Lv w w' g 0 hd ns ns' := by
  have HI := Aside0.mk (isTrue g 0 hd ns w h)
  have H := Aside0.mk h
  clear h
  go_enter_defers Try.func19, Try.ntmps19
  go_wp2_with fail
  refine HI.out.mono ?_
  rintro e w' ⟨rfl, rfl⟩
  go_wp2_with fail
  refine (lock_free muLib ⟨g, 1, none⟩ w (H.out.row.cell 1 _ rfl) (H.out.row.free 1)).mono ?_
  rintro e w1 ⟨rfl, hw1⟩
  have HW := Aside0.mk hw1
  have H1 : Aside0 (Sk w1 g 1 hd ns) := ⟨by rw [hw1]; exact H.out.lock 1⟩
  clear hw1 H HI
  go_wp2_with fail
  refine (HC.out w1 H1.out).mono ?_
  rintro e w2 ⟨rfl, h2⟩
  have H2 := Aside0.mk h2
  clear h2 HC H1
  go_wp2_with fail
  refine leaves_cons (f := 35) (args := #[.pointer (some ⟨g, 1, none⟩)]) (by simp) (by simp [go_sem]) ?_
  refine (unlock_deferred muLib ⟨g, 1, none⟩ .returning _ (H2.out.sk.row.cell 1 _ rfl) (H2.out.sk.row.free 1)).mono ?_
  rintro e u' w3 ⟨rfl, rfl, hw3⟩
  have H3 : Aside0 (Lv w w3 g 0 hd ns ns') := ⟨by rw [hw3]; exact H2.out.wrap HW.out⟩
  clear hw3 H2 HW
  exact ⟨_, results_tmp2 rfl _ _ _, rfl, H3.out⟩
theorem deleteOld (g : Nat) (hd : Nd) (lo t : List Nd) (z : Nd) (key : ByteArray) (w : World) (h : Sk w g 0 hd (lo ++ z :: t)) (hlo : ∀ x ∈ lo, ltB x.k key = true) (hhi : ∀ x ∈ z :: t, ltB x.k key = false) (hm : z.k = key) (hlen : (lo ++ z :: t).length < 4611686018427387904) :
    Calls Try.prog 19 #[.pointer (some ⟨g, 0, none⟩), .string key] w fun e w' => e = .returned (.tuple #[.int .i64 z.v, .bool true]) ∧ Lv w w' g 0 hd (lo ++ z :: t) (lo ++ t) :=
  deleteGen g hd _ _ key z.v true w h ⟨fun W hW => removeHit g 1 hd lo t z key W hW hlo hhi hm hlen⟩
theorem deleteNone (g : Nat) (hd : Nd) (lo hi : List Nd) (key : ByteArray) (w : World) (h : Sk w g 0 hd (lo ++ hi)) (hlo : ∀ x ∈ lo, ltB x.k key = true) (hhi : ∀ x ∈ hi, ltB x.k key = false) (hm : Miss hi key) :
    Calls Try.prog 19 #[.pointer (some ⟨g, 0, none⟩), .string key] w fun e w' => e = .returned (.tuple #[.int .i64 0, .bool false]) ∧ Lv w w' g 0 hd (lo ++ hi) (lo ++ hi) :=
  deleteGen g hd _ _ key 0 false w h ⟨fun W hW => (removeMiss g 1 hd lo hi key W hW hlo hhi hm).mono fun e w' ⟨he, hb⟩ => ⟨he, Lv.same hW hb⟩⟩

end Go.Proofs.Ytnpjppnahfehnaa.Skip
/- The law's own awake over layer 12. -/
namespace Go.Proofs.Ytnpjppnahfehnaa.Skip
set_option linter.unusedVariables false
set_option linter.unusedSimpArgs false
open Go.RowKit Go.Proofs.YtnpjppnahfehnaaW.PrintWords Go.Proofs.Ytnpjppnahfehnaa.Kit Go.MuLone

/-- A list of the law's own. -/
structure Ol (w0 w : World) (g : Nat) (hd : Nd) (ns : List Nd) : Prop where
  sk : Sk w g 0 hd ns
  fp : ∀ i, Fp g hd ns i → w0.heap.size ≤ i
  below : Below w0.heap.size w0 w
theorem Ol.belowed {w0 w w' : World} {g : Nat} {hd : Nd} {ns : List Nd} (h : Ol w0 w g hd ns) (hb : Below w.heap.size w w') : Ol w0 w' g hd ns := ⟨h.sk.below hb, h.fp, h.below.trans (hb.mono h.below.size)⟩
theorem Ol.turned {w0 w w' : World} {g : Nat} {hd : Nd} {ns ns' : List Nd} (h : Ol w0 w g hd ns) (hl : Lv w w' g 0 hd ns ns') : Ol w0 w' g hd ns' :=
  ⟨hl.sk, fun i hi => by
    rcases hl.fp i hi with h1 | h1
    · exact h.fp i h1
    · exact Nat.le_trans h.below.size h1, h.below.trans (hl.only.below h.fp h.below.size)⟩
theorem Ol.new (w w' : World) (g : Nat) (hd : Nd) (h : Sk w' g 0 hd [] ∧ Below w.heap.size w w' ∧ ∀ i, Fp g hd [] i → w.heap.size ≤ i) : Ol w w' g hd [] := ⟨h.1, h.2.2, h.2.1⟩

abbrev kA : ByteArray := ⟨#[97]⟩
abbrev kB : ByteArray := ⟨#[98]⟩
set_option maxHeartbeats 1600000 in
theorem awakeCalls (w : World) : Calls Try.prog 11 #[] w fun e w' => e = .returned (.bool true) ∧ Below w.heap.size w w' := by
  have hz := zeroE
  go_enter Try.func11, Try.ntmps11
  go_wp2_with fail
  refine (newCalls w).mono ?_
  rintro e w1 ⟨g, hd, rfl, ha⟩
  have HA := Aside0.mk (Ol.new w w1 g hd ha)
  clear ha
  have HP1 := Aside0.mk (putNew g hd [] [] kB 2 1 w1 HA.out.sk (fun x h => by simp at h) (fun x h => by simp at h) (fun z t h => by cases h) (by decide) (by decide) (by decide) (by decide))
  go_wp2_with fail
  refine HP1.out.mono ?_
  rintro e w2 ⟨N1, rfl, hk1, hv1, hh1, hl1⟩
  have HA2 := Aside0.mk (HA.out.turned hl1)
  have hlt : ltB N1.k kA = false := by rw [hk1]; unfold ltB; rw [ByteArray.toList_eq, ByteArray.toList_eq]; decide
  have hne : N1.k ≠ kA := by rw [hk1]; decide
  have HP2 := Aside0.mk (putNew g hd [] [N1] kA 1 3 w2 HA2.out.sk (fun x h => by simp at h) (fun x h => by rw [List.mem_singleton] at h; rw [h]; exact hlt) (fun z t h => by injection h with h1 h2; rw [← h1]; exact hne) (by decide) (by decide) (by decide) (by simp))
  clear hk1 hv1 hh1 hl1 hlt hne HA HP1
  go_wp2_with fail
  refine HP2.out.mono ?_
  rintro e w3 ⟨N2, rfl, hk2, hv2, hh2, hl2⟩
  have HA3 := Aside0.mk (HA2.out.turned hl2)
  have HSk : Aside0 (Calls Try.prog 10 #[.pointer (some ⟨g, 0, none⟩), .string ⟨#[]⟩, .bool false] w3 fun e w' => e = .returned (.tuple #[.agg #[.string kA, .int .i64 N2.v, .int .i64 N2.h], .bool true]) ∧ Below w3.heap.size w3 w') := ⟨by
    have := seekCalls g hd [] (N2 :: [N1]) ⟨#[]⟩ false w3 HA3.out.sk (fun x h => by simp at h) (fun x h => by unfold ltB; rw [ByteArray.toList_eq, ByteArray.toList_eq]; exact bl_nil _)
    rw [← hk2]
    exact this⟩
  clear hk2 hv2 hh2 hl2 HA2 HP2
  go_wp2_with fail
  refine HSk.out.mono ?_
  rintro e w4 ⟨rfl, hb4⟩
  have HA4 := Aside0.mk (HA3.out.belowed hb4)
  clear hb4 HA3 HSk
  go_upto_region 7 with (fail)
  obtain ⟨W, hW⟩ : ∃ W, W = w4.alloc (.cells #[.string kA, .int .i64 N2.v, .int .i64 N2.h] TE) := ⟨_, rfl⟩
  have hbW : Below w4.heap.size w4 W := by rw [hW]; exact (Below.refl _ _).alloc (Nat.le_refl _) _
  have HX : Aside0 (Blk W w4.heap.size [.string kA, .int .i64 N2.v, .int .i64 N2.h] TE) := ⟨by rw [hW]; exact Blk.newA w4 _ _⟩
  have HA5 := Aside0.mk (HA4.out.belowed hbW)
  have HLn := Aside0.mk (lenCalls g hd _ W HA5.out.sk)
  rw [← hW]
  clear hW hbW HA4
  have x0 := HX.out.cell 0 _ rfl
  go_wp2_with fail
  refine HLn.out.mono ?_
  rintro e w' ⟨rfl, rfl⟩
  simp only [List.nil_append, List.length_cons, List.length_nil]
  go_wp2
  go_ret
  exact ⟨rfl, HA5.out.below⟩
end Go.Proofs.Ytnpjppnahfehnaa.Skip
/- Layer 12's list: the last one below a key, or of all. -/
namespace Go.Proofs.Ytnpjppnahfehnaa.Skip
set_option linter.unusedVariables false
set_option linter.unusedSimpArgs false
open Go.RowKit Go.Proofs.YtnpjppnahfehnaaW.PrintWords Go.Proofs.Ytnpjppnahfehnaa.Kit Go.MuLone

abbrev TRg : TypeId := 24
/-- Where the range's end parts the list: none is behind an open one. -/
structure Ends (lo hi : List Nd) (rhi : ByteArray) (opn : Bool) : Prop where
  lo : ∀ x ∈ lo, opn = true ∨ ltB x.k rhi = true
  hi : ∀ x ∈ hi, opn = false ∧ ltB x.k rhi = false
theorem ends (ns : List Nd) (rhi : ByteArray) (opn : Bool) (h : Sorted ns) : ∃ lo hi, ns = lo ++ hi ∧ Ends lo hi rhi opn := by
  cases opn with
  | true => exact ⟨ns, [], by simp, ⟨fun _ _ => Or.inl rfl, fun x hx => by simp at hx⟩⟩
  | false =>
    obtain ⟨lo, hi, e, a, b⟩ := parts rhi ns h
    exact ⟨lo, hi, e, ⟨fun x hx => Or.inr (a x hx), fun x hx => ⟨rfl, b x hx⟩⟩⟩
def lastP (lo : List Nd) : Option Nat := lo.getLast?.map (·.p)

set_option maxRecDepth 100000 in
set_option maxHeartbeats 8000000 in
theorem lastCalls (g : Nat) (st : Int) (hd : Nd) (lo hi : List Nd) (rlo rhi : ByteArray) (opn : Bool) (w : World) (h : Sk w g st hd (lo ++ hi)) (he : Ends lo hi rhi opn) :
    Calls Try.prog 39 #[.pointer (some ⟨g, 0, none⟩), .agg #[.string rlo, .string rhi, .bool opn]] w fun e w' => e = .returned (ptr (lastP lo)) ∧ Below w.heap.size w w' := by
  have HE := Aside0.mk he
  obtain ⟨W, hW⟩ : ∃ W, W = w.alloc (.cells #[.string rlo, .string rhi, .bool opn] TRg) := ⟨_, rfl⟩
  have hb : Below w.heap.size w W := by rw [hW]; exact (Below.refl _ _).alloc (Nat.le_refl _) _
  have HX : Aside0 (Blk W w.heap.size [.string rlo, .string rhi, .bool opn] TRg) := ⟨by rw [hW]; exact Blk.newA w _ _⟩
  have HB := Aside0.mk hb
  have H := Aside0.mk (h.below hb)
  have hc3 := H.out.c3
  have HP : Aside0 (Pos W hd lo hi 16 hd lo) := ⟨⟨H.out.lnk, by rw [h.hh]; exact Nat.le_refl _, fun _ _ => rfl, fun _ h => h⟩⟩
  have HNp := Aside0.mk h.np
  have HH := Aside0.mk (fun x (hx : x ∈ lo) => (h.hts x (List.mem_append_left _ hx)).1)
  clear h he hb
  go_enter Try.func39, Try.ntmps39
  go_upto_region 1 with (fail)
  rw [← hW]
  clear hW
  go_wp2_with fail
  clear hc3
  go_loopw [5, 6] (fun a i wr => ∃ (c : Nat) (x : Nd) (b : List Nd), c ≤ 16 ∧ a = .pointer (some ⟨x.p, 0, none⟩) ∧ i = .int .i64 ((c : Int) - 1) ∧ Aside0 (Pos wr hd lo hi c x b ∧ (c = 0 → lastAt 0 hd lo = x)) ∧ Aside0 (Below W.heap.size W wr)) (fun _ i _ => (intOf i + 1).toNat)
  case atStart => exact ⟨16, hd, lo, Nat.le_refl _, rfl, rfl, ⟨HP.out, fun e => by omega⟩, ⟨Below.refl _ _⟩⟩
  case round =>
    clear HP
    obtain ⟨c, x, b, hcl, rfl, rfl, HP, HBr⟩ := hrel
    have Hr := Aside0.mk (H.out.below HBr.out)
    cases c with
    | zero =>
      have HLast := Aside0.mk (last0 hd lo HH.out)
      have e := HP.out.2 rfl
      have HN := Aside0.mk HP.out.1.node
      have hcc := Hr.out.c3
      clear HH
      cases hlo : lo.getLast? with
      | none =>
        have e2 : x = hd := by rw [← e, HLast.out, hlo]; rfl
        subst e2
        have HRes : Aside0 (ptr (lastP lo) = .pointer none) := ⟨by unfold lastP; rw [hlo]; rfl⟩
        have hpe := ptrSame wr x.p
        clear e hlo HLast HP
        go_wp2
        go_ret
        exact ⟨by rw [HRes.out]; rfl, HB.out.trans (HBr.out.mono HB.out.size)⟩
      | some y =>
        have e2 : x = y := by rw [← e, HLast.out, hlo]; rfl
        subst e2
        have HRes : Aside0 (ptr (lastP lo) = .pointer (some ⟨x.p, 0, none⟩)) := ⟨by unfold lastP; rw [hlo]; rfl⟩
        have hne : ¬ x.p = hd.p := by
          have hm : x ∈ lo := List.mem_of_getLast? hlo
          have hn := HNp.out
          rw [List.map_cons, List.nodup_cons] at hn
          exact fun e => hn.1 (e ▸ List.mem_map_of_mem (List.mem_append_left _ hm))
        have hpe := ptrOther wr x hd hne HN.out Hr.out.lnk.1
        clear e hlo HLast HP hne
        go_wp2
        go_ret
        exact ⟨by rw [HRes.out]; rfl, HB.out.trans (HBr.out.mono HB.out.size)⟩
    | succ c =>
      have e0 : ((c + 1 : Nat) : Int) - 1 = (c : Int) := by omega
      rw [e0]
      clear e0
      have HP1 := Aside0.mk HP.out.1
      clear HP
      have hn2 := HP1.out.node.cell 2 _ rfl
      obtain ⟨hq, hisn⟩ := HP1.out.cell c (Nat.lt_succ_self c)
      have hxh := HP1.out.ht
      have hlt : (c : Int) < (x.h : Int) := by omega
      have HL := Aside0.mk (pload x.q c _ _ hq hisn)
      clear hq hisn hxh
      go_wp2_with fail
      refine HL.out.mono ?_
      rintro e w' ⟨rfl, rfl⟩
      clear HL hn2 hlt
      go_wp2_with fail
      go_loopg [5, 7] b.length (fun n a v wz => ∃ (x : Nd) (b : List Nd), n = b.length ∧ a = .pointer (some ⟨x.p, 0, none⟩) ∧ v = ptr (fst? c (b ++ hi) (fun _ => none)) ∧ Aside0 (Pos wz hd lo hi (c + 1) x b) ∧ Aside0 (Below W.heap.size W wz))
      case atStart => exact ⟨x, b, rfl, rfl, rfl, HP1, HBr⟩
      case round =>
        clear HP1 HBr Hr
        obtain ⟨y, b', rfl, rfl, rfl, HP, HBz⟩ := hrel
        have HXz := Aside0.mk (HX.out.belowSize HBz.out)
        have q1 := HXz.out.cell 1 _ rfl
        have q2 := HXz.out.cell 2 _ rfl
        have hyh := HP.out.ht
        rcases first_in c b' with hno | ⟨b1, y2, b2, rfl, hc2, hn1⟩
        · have HD := Aside0.mk (HP.out.down hno)
          have hend : ∃ q : Option Nat, fst? c (b' ++ hi) (fun _ => none) = q ∧ (q = none ∨ ∃ z, z ∈ hi ∧ q = some z.p) := by
            rw [fst_app, fst_none c b' _ hno]
            rcases first_in c hi with h3 | ⟨h1, z, h2, rfl, hz1, hz2⟩
            · exact ⟨none, fst_none c hi _ h3, Or.inl rfl⟩
            · exact ⟨some z.p, fst_hit c h1 h2 z _ hz2 hz1, Or.inr ⟨z, List.mem_append_right _ List.mem_cons_self, rfl⟩⟩
          obtain ⟨q, hqe, hq3⟩ := hend
          rw [hqe]
          have HNd := Aside0.mk (fun z (hz : z ∈ hi) => (show NodeB _ z from HP.out.lnk.2.2.node (List.mem_append_right _ hz)))
          clear hqe hno hyh HP
          rcases hq3 with rfl | ⟨z, hz, rfl⟩
          · rw [show ptr none = .pointer none from rfl]
            go_wp2_with fail
            go_quiet (fail)
            have hbq : Below wr.heap.size wr (wr.drewN nq) := pw_below_drewN (Below.refl _ wr) nq
            have HDn := Aside0.mk (show (Pos (wr.drewN nq) hd lo hi c y b' ∧ (c = 0 → lastAt 0 hd lo = y)) from ⟨HD.out.1.below hbq, fun e => by rw [← HD.out.2, e]⟩)
            have HBn := Aside0.mk (HBz.out.trans (hbq.mono HBz.out.size))
            clear hbq HD HBz HXz HNd q1 q2
            go_wp2
            go_roundw
            case rel => exact ⟨c, y, b', by omega, rfl, rfl, HDn, HBn⟩
            case measure => simp [intOf]
          · have hzn := (HNd.out z hz).cell 0 _ rfl
            obtain ⟨hop, hzk⟩ := HE.out.hi z hz
            have hzk : Op.bytesLess z.k.toList rhi.toList = false := hzk
            subst hop
            rw [show ptr (some z.p) = .pointer (some ⟨z.p, 0, none⟩) from rfl]
            clear hz
            go_wp2_with fail
            go_quiet (fail)
            have hbq : Below wr.heap.size wr (wr.drewN nq) := pw_below_drewN (Below.refl _ wr) nq
            have HDn := Aside0.mk (show (Pos (wr.drewN nq) hd lo hi c y b' ∧ (c = 0 → lastAt 0 hd lo = y)) from ⟨HD.out.1.below hbq, fun e => by rw [← HD.out.2, e]⟩)
            have HBn := Aside0.mk (HBz.out.trans (hbq.mono HBz.out.size))
            clear hbq HD HBz HXz HNd q1 q2
            go_wp2
            go_roundw
            case rel => exact ⟨c, y, b', by omega, rfl, rfl, HDn, HBn⟩
            case measure => simp [intOf]
        · rw [List.append_assoc, List.cons_append, fst_hit c b1 (b2 ++ hi) y2 _ hn1 hc2, show ptr (some y2.p) = .pointer (some ⟨y2.p, 0, none⟩) from rfl]
          have HP2 := Aside0.mk (HP.out.step (y := y2) (by omega))
          have hzn := HP2.out.node.cell 0 _ rfl
          have hlt2 : (c : Int) < (y2.h : Int) := by omega
          have hlo := HE.out.lo y2 (HP.out.sub y2 (List.mem_append_right _ List.mem_cons_self))
          clear HP hyh hn1 hc2
          cases opn with
          | true =>
            clear hlo
            go_wp2_with fail
            go_quiet (fail)
            have hbq : Below wr.heap.size wr (wr.drewN nq) := pw_below_drewN (Below.refl _ wr) nq
            have HPn := Aside0.mk (HP2.out.below hbq)
            have HBn := Aside0.mk (HBz.out.trans (hbq.mono HBz.out.size))
            have hy2n := HPn.out.node.cell 2 _ rfl
            obtain ⟨hq, hisn⟩ := HPn.out.cell c (Nat.lt_succ_self c)
            have HL := Aside0.mk (pload y2.q c _ _ hq hisn)
            clear hbq hq hisn HP2 HBz HXz q1 q2 hzn
            go_wp2_with fail
            refine HL.out.mono ?_
            rintro e w' ⟨rfl, rfl⟩
            clear HL hy2n
            go_wp2
            go_roundg b2.length
            case measure => simp; omega
            case rel => exact ⟨y2, b2, rfl, rfl, rfl, HPn, HBn⟩
          | false =>
            have hzk : Op.bytesLess y2.k.toList rhi.toList = true := by
              rcases hlo with h | h
              · cases h
              · exact h
            clear hlo
            go_wp2_with fail
            go_quiet (fail)
            have hbq : Below wr.heap.size wr (wr.drewN nq) := pw_below_drewN (Below.refl _ wr) nq
            have HPn := Aside0.mk (HP2.out.below hbq)
            have HBn := Aside0.mk (HBz.out.trans (hbq.mono HBz.out.size))
            have hy2n := HPn.out.node.cell 2 _ rfl
            obtain ⟨hq, hisn⟩ := HPn.out.cell c (Nat.lt_succ_self c)
            have HL := Aside0.mk (pload y2.q c _ _ hq hisn)
            clear hbq hq hisn HP2 HBz HXz q1 q2 hzn
            go_wp2_with fail
            refine HL.out.mono ?_
            rintro e w' ⟨rfl, rfl⟩
            clear HL hy2n
            go_wp2
            go_roundg b2.length
            case measure => simp; omega
            case rel => exact ⟨y2, b2, rfl, rfl, rfl, HPn, HBn⟩
end Go.Proofs.Ytnpjppnahfehnaa.Skip
/- Layer 12's list: Scan, either way. -/
namespace Go.Proofs.Ytnpjppnahfehnaa.Skip
set_option linter.unusedVariables false
set_option linter.unusedSimpArgs false
open Go.RowKit Go.Proofs.YtnpjppnahfehnaaW.PrintWords Go.Proofs.Ytnpjppnahfehnaa.Kit Go.MuLone

structure En where
  k : ByteArray
  v : Int
  h : Int
def kE : Kd En := Kd.iso (Kd.pair Kd.string (Kd.pair (Kd.int .i64) (Kd.int .i64))) (fun x => (x.k, x.v, x.h))
theorem kE_mkM (w : World) (base : Nat) (ok : Nat → Prop) (x : En) : kE.M w base ok x [.string x.k, .int .i64 x.v, .int .i64 x.h] := ⟨[.string x.k], [.int .i64 x.v, .int .i64 x.h], rfl, rfl, ⟨[.int .i64 x.v], [.int .i64 x.h], rfl, rfl, rfl⟩⟩
theorem kE_pos : 0 < kE.sz := by show 0 < 3; omega
def en (x : Nd) : En := ⟨x.k, x.v, x.h⟩
theorem infoE : (Try.prog.info? TE).map (fun i => (i.zero, i.size, i.bytes)) = some (some (.agg #[.string ByteArray.empty, .int .i64 0, .int .i64 0]), 3, 32) := by kernel_rfl
abbrev MR (w : World) (base : Nat) (v : Value) (l : List En) : Prop := kE.R TE w base (fun _ => True) v l

def scanS : List Nd → ByteArray → Bool → Int → List Nd
  | [], _, _, _ => []
  | y :: t, rhi, opn, k => if 0 < k ∧ (opn = true ∨ ltB y.k rhi = true) then y :: scanS t rhi opn (k - 1) else []
def fallS : List Nd → ByteArray → Int → List Nd
  | [], _, _ => []
  | y :: t, rlo, k => if ltB y.k rlo = false ∧ 0 < k then y :: fallS t rlo (k - 1) else []
theorem Sk.nextAt {w : World} {g : Nat} {st : Int} {hd : Nd} {ns pre t : List Nd} {y : Nd} (h : Sk w g st hd ns) (e : ns = pre ++ y :: t) :
    NodeB w y ∧ 1 ≤ y.h ∧ w.cell? ⟨y.q, 0, none⟩ = some (ptr (t.head?.map (·.p))) ∧ IsN w (t.head?.map (·.p)) := by
  subst e
  have hy : y ∈ pre ++ y :: t := List.mem_append_right _ List.mem_cons_self
  have h1 := (h.hts y hy).1
  have hl := h.lnk
  rw [← List.cons_append, Links.split] at hl
  obtain ⟨_, k1, k2, k3⟩ := hl
  have hf : fst? 0 t (fun _ => none) = t.head?.map (·.p) := by
    cases t with
    | nil => rfl
    | cons z u =>
      have := (h.hts z (List.mem_append_right _ (List.mem_cons_of_mem _ List.mem_cons_self))).1
      rw [fst?, if_pos (by omega)]
      rfl
  refine ⟨k1, h1, ?_, ?_⟩
  · rw [← hf]
    exact k2.cell 0 _ (by rw [List.getElem?_map, List.getElem?_range (by omega)]; rfl)
  · rw [← hf]
    exact k3.isN 0 (IsN.nil w)

set_option maxRecDepth 100000 in
set_option maxHeartbeats 8000000 in
theorem scanFore (g : Nat) (hd : Nd) (lo hi : List Nd) (rlo rhi : ByteArray) (opn : Bool) (most : Int) (w : World) (h : Sk w g 0 hd (lo ++ hi)) (hlo : ∀ x ∈ lo, ltB x.k rlo = true) (hhi : ∀ x ∈ hi, ltB x.k rlo = false)
    (hm : 1 ≤ most) (hlen : (lo ++ hi).length ≤ 3518437208780) :
    Calls Try.prog 8 #[.pointer (some ⟨g, 0, none⟩), .agg #[.string rlo, .string rhi, .bool opn], .bool false, .int .i64 most] w fun e w' => ∃ v, e = .returned v ∧ MR w' w.heap.size v ((scanS hi rhi opn most).map en) ∧ Below w.heap.size w w' := by
  have HLen := Aside0.mk hlen
  obtain ⟨W, hW⟩ : ∃ W, W = w.alloc (.cells #[.string rlo, .string rhi, .bool opn] TRg) := ⟨_, rfl⟩
  have hb : Below w.heap.size w W := by rw [hW]; exact (Below.refl _ _).alloc (Nat.le_refl _) _
  have HX : Aside0 (Blk W w.heap.size [.string rlo, .string rhi, .bool opn] TRg) := ⟨by rw [hW]; exact Blk.newA w _ _⟩
  have HB := Aside0.mk hb
  have H := Aside0.mk (h.below hb)
  have HI := Aside0.mk (isTrue g 0 hd _ W H.out)
  have HBf := Aside0.mk (H.out.before rlo hlo hhi)
  have hix := index0 hd lo
  clear h hlo hhi hb hlen
  go_enter Try.func8, Try.ntmps8
  go_wp2_with fail
  rw [← hW]
  clear hW
  refine HI.out.mono ?_
  rintro e w' ⟨rfl, rfl⟩
  have x0 := HX.out.cell 0 _ rfl
  go_wp2_with fail
  refine HBf.out.mono ?_
  rintro e w1 ⟨rfl, hb1⟩
  have HB1 := Aside0.mk (HB.out.trans (hb1.mono HB.out.size))
  have H1 := Aside0.mk (H.out.below hb1)
  have HX1 := Aside0.mk (HX.out.belowSize hb1)
  clear hb1 HB H HX HI HBf x0
  obtain ⟨hn, hlt, hcell, _, hisn⟩ := H1.out.at0 0 (by decide)
  rw [H1.out.fst0] at hcell hisn
  generalize lastAt 0 hd lo = x at *
  have HL := Aside0.mk (pload x.q 0 _ _ hcell hisn)
  have hn2 := hn.cell 2 _ rfl
  have hlt2 : (0 : Int) < (x.h : Int) := by omega
  clear hcell hisn hn
  go_wp2_with fail
  refine HL.out.mono ?_
  rintro e w' ⟨rfl, rfl⟩
  clear HL hn2 hix hlt2 hlt
  go_wp2_with fail
  have HR0 : Aside0 (MR w1 w1.heap.size (.slice none 0 0) []) := ⟨Kd.R_nil _ _ _ _ _⟩
  go_loopg [9, 10] hi.length (fun n o v wz => ∃ (pre t : List Nd) (L : List En), n = t.length ∧ v = ptr (t.head?.map (·.p)) ∧ Aside0 (lo ++ hi = pre ++ t) ∧ Aside0 (MR wz w1.heap.size o L) ∧ Aside0 (L ++ (scanS t rhi opn (most - L.length)).map en = (scanS hi rhi opn most).map en) ∧ Aside0 (L.length ≤ pre.length) ∧ Aside0 (Below w1.heap.size w1 wz))
  case atStart => exact ⟨lo, hi, [], rfl, rfl, ⟨rfl⟩, HR0, ⟨by simp⟩, ⟨Nat.zero_le _⟩, ⟨Below.refl _ _⟩⟩
  case round =>
    clear HR0
    obtain ⟨pre, t, L, rfl, rfl, HE, HR, HF, HK, HBz⟩ := hrel
    obtain ⟨A3, c3, e3⟩ := Kd.R_slice HR.out
    subst e3
    have HXz := Aside0.mk (HX1.out.belowSize HBz.out)
    have q1 := HXz.out.cell 1 _ rfl
    have q2 := HXz.out.cell 2 _ rfl
    have hLl : L.length ≤ 3518437208780 := by
      have := HLen.out
      rw [HE.out, List.length_append] at this
      have := HK.out
      omega
    have HD : Aside0 (∀ v, scanS t rhi opn (most - L.length) = [] → MR wr w1.heap.size v L → MR wr w.heap.size v ((scanS hi rhi opn most).map en)) := ⟨fun v hs hr => by
      have := HF.out
      rw [hs, List.map_nil, List.append_nil] at this
      rw [← this]
      exact Kd.R_lower hr HB1.out.size⟩
    have HBe := Aside0.mk (HB1.out.trans (HBz.out.mono HB1.out.size))
    cases t with
    | nil =>
      have HV := Aside0.mk (HD.out _ rfl HR.out)
      rw [List.head?_nil, Option.map_none, show ptr none = .pointer none from rfl]
      clear HD HF HE HXz
      go_wp2
      go_ret
      exact ⟨_, rfl, HV.out, HBe.out⟩
    | cons y t =>
      have Hz := Aside0.mk (H1.out.below HBz.out)
      obtain ⟨hyn, hyh, hyc, hyi⟩ := Hz.out.nextAt HE.out
      rw [List.head?_cons, Option.map_some, show ptr (some y.p) = .pointer (some ⟨y.p, 0, none⟩) from rfl]
      by_cases hk : (L.length : Int) < most
      · have hyk := hyn.cell 0 _ rfl
        by_cases hst : opn = true ∨ ltB y.k rhi = true
        · have HS : Aside0 (scanS (y :: t) rhi opn (most - L.length) = y :: scanS t rhi opn (most - L.length - 1)) := ⟨by rw [scanS, if_pos ⟨by omega, hst⟩]⟩
          have HEn := Aside0.mk (entryCalls y)
          have HYn := Aside0.mk hyn
          clear hyn hyc hyi HD
          cases opn with
          | true =>
            clear hst
            go_wp2_with fail
            go_quiet (fail)
            have hbq : Below wr.heap.size wr (wr.drewN nq) := pw_below_drewN (Below.refl _ wr) nq
            have HRq := Aside0.mk (Kd.R_below HR.out hbq)
            have HBq := Aside0.mk (HBz.out.trans (hbq.mono HBz.out.size))
            have HYq : Aside0 (NodeB (wr.drewN nq) y) := ⟨HYn.out.belowSize hbq⟩
            clear hbq HR HBz HYn HXz q1 q2 hyk Hz
            generalize wr.drewN nq = wq at *
            go_wp2_with fail
            refine (HEn.out wq HYq.out).mono ?_
            rintro e w5 ⟨rfl, hb5⟩
            have HR5 := Aside0.mk (Kd.R_below HRq.out hb5)
            have HB5 := Aside0.mk (HBq.out.trans (hb5.mono HBq.out.size))
            clear hb5 HRq HBq HYq HEn
            simp only [eV]
            iterate 4 go_step
            refine Kd.R_append kE (w0 := w1) w1.heap.size rfl (.tmp 59) (.tmp 62) 29 TE (.agg #[.string ByteArray.empty, .int .i64 0, .int .i64 0]) 32 rfl Try.underlying29 infoE rfl kE_pos (by omega) (.slice A3 L.length c3) L (en y) [.string y.k, .int .i64 y.v, .int .i64 y.h] (fun _ => True) (fun _ => False) rfl rfl ?aP (fun _ hk => hk.elim) ?aF ?aO ?aB ?aS ?aL ?_
            (case aP => exact kE_mkM _ _ _ (en y))
            (case aF => exact fun _ _ => trivial)
            (case aO => exact HR5.out)
            (case aB => exact HB5.out)
            (case aS => exact below_size HB5.out)
            (case aL => omega)
            intro v1 w6 ho6 hb6 hg6 hat6
            have HO6 := Aside0.mk ho6
            have HB6 := Aside0.mk hb6
            clear ho6 hb6 hg6 hat6 HR5 HB5
            have H6 := Aside0.mk (H1.out.below HB6.out)
            obtain ⟨zyn, zyh, zyc, zyi⟩ := H6.out.nextAt HE.out
            have hz2 := zyn.cell 2 _ rfl
            have hlt3 : (0 : Int) < (y.h : Int) := by omega
            have HLz := Aside0.mk (pload y.q 0 _ _ zyc zyi)
            clear zyn zyc zyi
            go_wp2_with fail
            refine HLz.out.mono ?_
            rintro e w' ⟨rfl, rfl⟩
            clear HLz hz2 hlt3
            go_wp2
            go_roundg t.length
            case measure => simp
            case rel => exact ⟨pre ++ [y], t, L ++ [en y], rfl, rfl, ⟨by rw [HE.out]; simp⟩, HO6, ⟨by
              rw [← HF.out, HS.out, List.map_cons, List.append_assoc, List.singleton_append, List.length_append, List.length_singleton]
              congr 3
              congr 1
              omega⟩, ⟨by rw [List.length_append, List.length_append]; have := HK.out; simp; omega⟩, HB6⟩
          | false =>
            have hkb : Op.bytesLess y.k.toList rhi.toList = true := by
              rcases hst with h | h
              · cases h
              · exact h
            clear hst
            go_wp2_with fail
            go_quiet (fail)
            have hbq : Below wr.heap.size wr (wr.drewN nq) := pw_below_drewN (Below.refl _ wr) nq
            have HRq := Aside0.mk (Kd.R_below HR.out hbq)
            have HBq := Aside0.mk (HBz.out.trans (hbq.mono HBz.out.size))
            have HYq : Aside0 (NodeB (wr.drewN nq) y) := ⟨HYn.out.belowSize hbq⟩
            clear hbq HR HBz HYn HXz q1 q2 hyk Hz
            generalize wr.drewN nq = wq at *
            go_wp2_with fail
            refine (HEn.out wq HYq.out).mono ?_
            rintro e w5 ⟨rfl, hb5⟩
            have HR5 := Aside0.mk (Kd.R_below HRq.out hb5)
            have HB5 := Aside0.mk (HBq.out.trans (hb5.mono HBq.out.size))
            clear hb5 HRq HBq HYq HEn
            simp only [eV]
            iterate 4 go_step
            refine Kd.R_append kE (w0 := w1) w1.heap.size rfl (.tmp 59) (.tmp 62) 29 TE (.agg #[.string ByteArray.empty, .int .i64 0, .int .i64 0]) 32 rfl Try.underlying29 infoE rfl kE_pos (by omega) (.slice A3 L.length c3) L (en y) [.string y.k, .int .i64 y.v, .int .i64 y.h] (fun _ => True) (fun _ => False) rfl rfl ?aP (fun _ hk => hk.elim) ?aF ?aO ?aB ?aS ?aL ?_
            (case aP => exact kE_mkM _ _ _ (en y))
            (case aF => exact fun _ _ => trivial)
            (case aO => exact HR5.out)
            (case aB => exact HB5.out)
            (case aS => exact below_size HB5.out)
            (case aL => omega)
            intro v1 w6 ho6 hb6 hg6 hat6
            have HO6 := Aside0.mk ho6
            have HB6 := Aside0.mk hb6
            clear ho6 hb6 hg6 hat6 HR5 HB5
            have H6 := Aside0.mk (H1.out.below HB6.out)
            obtain ⟨zyn, zyh, zyc, zyi⟩ := H6.out.nextAt HE.out
            have hz2 := zyn.cell 2 _ rfl
            have hlt3 : (0 : Int) < (y.h : Int) := by omega
            have HLz := Aside0.mk (pload y.q 0 _ _ zyc zyi)
            clear zyn zyc zyi
            go_wp2_with fail
            refine HLz.out.mono ?_
            rintro e w' ⟨rfl, rfl⟩
            clear HLz hz2 hlt3
            go_wp2
            go_roundg t.length
            case measure => simp
            case rel => exact ⟨pre ++ [y], t, L ++ [en y], rfl, rfl, ⟨by rw [HE.out]; simp⟩, HO6, ⟨by
              rw [← HF.out, HS.out, List.map_cons, List.append_assoc, List.singleton_append, List.length_append, List.length_singleton]
              congr 3
              congr 1
              omega⟩, ⟨by rw [List.length_append, List.length_append]; have := HK.out; simp; omega⟩, HB6⟩
        · have hop : opn = false := by
            cases opn with
            | true => exact absurd (Or.inl rfl) hst
            | false => rfl
          have hkb : Op.bytesLess y.k.toList rhi.toList = false := by
            cases hb : Op.bytesLess y.k.toList rhi.toList with
            | false => rfl
            | true => exact absurd (Or.inr hb) hst
          have HV := Aside0.mk (fun nq => Kd.R_below (HD.out _ (by rw [scanS, if_neg (fun h => hst h.2)]) HR.out) (pw_below_drewN (Below.refl _ wr) nq))
          clear hst HD HF HE HXz hyn hyc hyi hyh Hz
          subst hop
          go_wp2_with fail
          go_quiet (fail)
          go_wp2
          go_ret
          exact ⟨_, rfl, HV.out nq, pw_below_drewN HBe.out nq⟩
      · have HV := Aside0.mk (HD.out _ (by rw [scanS, if_neg (fun h => hk (by omega))]) HR.out)
        clear HD HF HE HXz hyn hyc hyi hyh Hz
        go_wp2
        go_ret
        exact ⟨_, rfl, HV.out, HBe.out⟩
end Go.Proofs.Ytnpjppnahfehnaa.Skip
/- Layer 12's list: Scan back. -/
namespace Go.Proofs.Ytnpjppnahfehnaa.Skip
set_option linter.unusedVariables false
set_option linter.unusedSimpArgs false
open Go.RowKit Go.Proofs.YtnpjppnahfehnaaW.PrintWords Go.Proofs.Ytnpjppnahfehnaa.Kit Go.MuLone

theorem zeroRg (W : World) : (zeroValue TRg).run Try.prog W = .ok (.agg #[.string ByteArray.empty, .string ByteArray.empty, .bool false]) W := by kernel_rfl
theorem lastP_snoc (p : List Nd) (y : Nd) : lastP (p ++ [y]) = some y.p := by unfold lastP; simp
theorem ends_at {p t : List Nd} {y : Nd} (h : Sorted (p ++ y :: t)) : Ends p (y :: t) y.k false := by
  unfold Sorted at h
  rw [List.pairwise_append, List.pairwise_cons] at h
  refine ⟨fun x hx => Or.inr (h.2.2 x hx y List.mem_cons_self), fun x hx => ⟨rfl, ?_⟩⟩
  rcases List.mem_cons.1 hx with rfl | hx
  · exact lt_irrefl _
  · exact lt_asymm (h.2.1.1 x hx)

set_option maxRecDepth 100000 in
set_option maxHeartbeats 8000000 in
theorem fallingCalls (g : Nat) (st : Int) (hd : Nd) (lo hi : List Nd) (rlo rhi : ByteArray) (opn : Bool) (most : Int) (w : World) (h : Sk w g st hd (lo ++ hi)) (he : Ends lo hi rhi opn) (hlen : (lo ++ hi).length ≤ 3518437208780) :
    Calls Try.prog 22 #[.pointer (some ⟨g, 0, none⟩), .agg #[.string rlo, .string rhi, .bool opn], .int .i64 most] w fun e w' => ∃ v, e = .returned v ∧ MR w' w.heap.size v ((fallS lo.reverse rlo most).map en) ∧ Below w.heap.size w w' := by
  have HLen := Aside0.mk hlen
  obtain ⟨W, hW⟩ : ∃ W, W = w.alloc (.cells #[.string rlo, .string rhi, .bool opn] TRg) := ⟨_, rfl⟩
  have hb : Below w.heap.size w W := by rw [hW]; exact (Below.refl _ _).alloc (Nat.le_refl _) _
  have HX : Aside0 (Blk W w.heap.size [.string rlo, .string rhi, .bool opn] TRg) := ⟨by rw [hW]; exact Blk.newA w _ _⟩
  have HB := Aside0.mk hb
  have H := Aside0.mk (h.below hb)
  have HL := Aside0.mk (lastCalls g st hd lo hi rlo rhi opn W H.out he)
  have hz := zeroRg
  clear h he hb hlen
  go_enter Try.func22, Try.ntmps22
  go_upto_region 2 with (fail)
  rw [← hW]
  clear hW
  have x0 := HX.out.cell 0 _ rfl
  have x1 := HX.out.cell 1 _ rfl
  have x2 := HX.out.cell 2 _ rfl
  go_wp2_with fail
  refine HL.out.mono ?_
  rintro e w1 ⟨rfl, hb1⟩
  have HB1 := Aside0.mk (HB.out.trans (hb1.mono HB.out.size))
  have H1 := Aside0.mk (H.out.below hb1)
  have HX1 := Aside0.mk (HX.out.belowSize hb1)
  clear hb1 HB H HX HL x0 x1 x2
  go_wp2_with fail
  have HR0 : Aside0 (MR w1 w1.heap.size (.slice none 0 0) []) := ⟨Kd.R_nil _ _ _ _ _⟩
  go_loopg [7, 8] lo.length (fun n o v wz => ∃ (p t : List Nd) (L : List En), n = p.length ∧ v = ptr (lastP p) ∧ Aside0 (lo ++ hi = p ++ t) ∧ Aside0 (MR wz w1.heap.size o L) ∧ Aside0 (L ++ (fallS p.reverse rlo (most - L.length)).map en = (fallS lo.reverse rlo most).map en) ∧ Aside0 (L.length ≤ t.length) ∧ Aside0 (Below w1.heap.size w1 wz))
  case atStart => exact ⟨lo, hi, [], rfl, rfl, ⟨rfl⟩, HR0, ⟨by simp⟩, ⟨Nat.zero_le _⟩, ⟨Below.refl _ _⟩⟩
  case round =>
    clear HR0
    obtain ⟨p, t, L, rfl, rfl, HE, HR, HF, HK, HBz⟩ := hrel
    obtain ⟨A3, c3, e3⟩ := Kd.R_slice HR.out
    subst e3
    have HXz := Aside0.mk (HX1.out.belowSize HBz.out)
    have q0 := HXz.out.cell 0 _ rfl
    have hLl : L.length ≤ 3518437208780 := by
      have := HLen.out
      rw [HE.out, List.length_append] at this
      have := HK.out
      omega
    have HD : Aside0 (∀ v, fallS p.reverse rlo (most - L.length) = [] → MR wr w1.heap.size v L → MR wr w.heap.size v ((fallS lo.reverse rlo most).map en)) := ⟨fun v hs hr => by
      have := HF.out
      rw [hs, List.map_nil, List.append_nil] at this
      rw [← this]
      exact Kd.R_lower hr HB1.out.size⟩
    have HBe := Aside0.mk (HB1.out.trans (HBz.out.mono HB1.out.size))
    rcases List.eq_nil_or_concat p with rfl | ⟨p', y, ep⟩
    · have HV := Aside0.mk (fun nq => Kd.R_below (HD.out _ rfl HR.out) (pw_below_drewN (Below.refl _ wr) nq))
      rw [show ptr (lastP []) = .pointer none from rfl]
      clear HD HF HE HXz
      go_wp2_with fail
      go_quiet (fail)
      go_wp2
      go_ret
      exact ⟨_, rfl, HV.out nq, pw_below_drewN HBe.out nq⟩
    · rw [List.concat_eq_append] at ep
      subst ep
      have HE2 : Aside0 (lo ++ hi = p' ++ y :: t) := ⟨by rw [HE.out]; simp⟩
      have Hz := Aside0.mk (H1.out.below HBz.out)
      obtain ⟨hyn, _, _, _⟩ := Hz.out.nextAt HE2.out
      have hyk := hyn.cell 0 _ rfl
      have HYn := Aside0.mk hyn
      have hrev : (p' ++ [y]).reverse = y :: p'.reverse := by simp
      rw [hrev] at HF HD
      rw [lastP_snoc, show ptr (some y.p) = .pointer (some ⟨y.p, 0, none⟩) from rfl]
      clear hrev hyn
      by_cases hst : ltB y.k rlo = false
      · have hkb : Op.bytesLess y.k.toList rlo.toList = false := hst
        by_cases hk : (L.length : Int) < most
        · have HS : Aside0 (fallS (y :: p'.reverse) rlo (most - L.length) = y :: fallS p'.reverse rlo (most - L.length - 1)) := ⟨by rw [fallS, if_pos ⟨hst, by omega⟩]⟩
          have HEn := Aside0.mk (entryCalls y)
          clear HD hst
          go_wp2_with fail
          go_quiet (fail)
          have hbq : Below wr.heap.size wr (wr.drewN nq) := pw_below_drewN (Below.refl _ wr) nq
          have HRq := Aside0.mk (Kd.R_below HR.out hbq)
          have HBq := Aside0.mk (HBz.out.trans (hbq.mono HBz.out.size))
          have HYq : Aside0 (NodeB (wr.drewN nq) y) := ⟨HYn.out.belowSize hbq⟩
          clear hbq HR HBz HYn HXz q0 hyk Hz
          generalize wr.drewN nq = wq at *
          go_wp2_with fail
          refine (HEn.out wq HYq.out).mono ?_
          rintro e w5 ⟨rfl, hb5⟩
          have HR5 := Aside0.mk (Kd.R_below HRq.out hb5)
          have HB5 := Aside0.mk (HBq.out.trans (hb5.mono HBq.out.size))
          clear hb5 HRq HBq HYq HEn
          simp only [eV]
          iterate 4 go_step
          refine Kd.R_append kE (w0 := w1) w1.heap.size rfl (.tmp 36) (.tmp 39) 29 TE (.agg #[.string ByteArray.empty, .int .i64 0, .int .i64 0]) 32 rfl Try.underlying29 infoE rfl kE_pos (by omega) (.slice A3 L.length c3) L (en y) [.string y.k, .int .i64 y.v, .int .i64 y.h] (fun _ => True) (fun _ => False) rfl rfl ?aP (fun _ hk => hk.elim) ?aF ?aO ?aB ?aS ?aL ?_
          case aP => exact kE_mkM _ _ _ (en y)
          case aF => exact fun _ _ => trivial
          case aO => exact HR5.out
          case aB => exact HB5.out
          case aS => exact below_size HB5.out
          case aL => omega
          intro v1 w6 ho6 hb6 hg6 hat6
          have HO6 := Aside0.mk ho6
          have HB6 := Aside0.mk hb6
          clear ho6 hb6 hg6 hat6 HR5 HB5
          have H6 := Aside0.mk (H1.out.below HB6.out)
          obtain ⟨zyn, _, _, _⟩ := H6.out.nextAt HE2.out
          have hz0 := zyn.cell 0 _ rfl
          have HLs := Aside0.mk (lastCalls g st hd p' (y :: t) ByteArray.empty y.k false w6 (HE2.out ▸ H6.out) (ends_at (HE2.out ▸ H6.out.srt)))
          clear zyn
          go_wp2_with fail
          refine HLs.out.mono ?_
          rintro e w7 ⟨rfl, hb7⟩
          have HO7 := Aside0.mk (Kd.R_below HO6.out hb7)
          have HB7 := Aside0.mk (HB6.out.trans (hb7.mono HB6.out.size))
          clear hb7 HO6 HB6 H6 HLs hz0
          go_wp2
          go_roundg p'.length
          case measure => simp
          case rel => exact ⟨p', y :: t, L ++ [en y], rfl, rfl, HE2, HO7, ⟨by
            rw [← HF.out, HS.out, List.map_cons, List.append_assoc, List.singleton_append, List.length_append, List.length_singleton]
            congr 3
            congr 1
            omega⟩, ⟨by rw [List.length_append]; have := HK.out; simp; omega⟩, HB7⟩
        · have HV := Aside0.mk (fun nq => Kd.R_below (HD.out _ (by rw [fallS, if_neg (fun h => hk (by omega))]) HR.out) (pw_below_drewN (Below.refl _ wr) nq))
          clear HD HF HE HE2 HXz HYn Hz hst
          go_wp2_with fail
          go_quiet (fail)
          go_wp2
          go_ret
          exact ⟨_, rfl, HV.out nq, pw_below_drewN HBe.out nq⟩
      · have hkb : Op.bytesLess y.k.toList rlo.toList = true := by
          cases hb : Op.bytesLess y.k.toList rlo.toList with
          | false => exact absurd hb hst
          | true => rfl
        have HV := Aside0.mk (fun nq => Kd.R_below (HD.out _ (by rw [fallS, if_neg (fun h => hst h.1)]) HR.out) (pw_below_drewN (Below.refl _ wr) nq))
        clear HD HF HE HE2 HXz HYn Hz hst
        go_wp2_with fail
        go_quiet (fail)
        go_wp2
        go_ret
        exact ⟨_, rfl, HV.out nq, pw_below_drewN HBe.out nq⟩
theorem scanBack (g : Nat) (hd : Nd) (lo hi : List Nd) (rlo rhi : ByteArray) (opn : Bool) (most : Int) (w : World) (h : Sk w g 0 hd (lo ++ hi)) (he : Ends lo hi rhi opn) (hm : 1 ≤ most) (hlen : (lo ++ hi).length ≤ 3518437208780) :
    Calls Try.prog 8 #[.pointer (some ⟨g, 0, none⟩), .agg #[.string rlo, .string rhi, .bool opn], .bool true, .int .i64 most] w fun e w' => ∃ v, e = .returned v ∧ MR w' w.heap.size v ((fallS lo.reverse rlo most).map en) ∧ Below w.heap.size w w' := by
  obtain ⟨W, hW⟩ : ∃ W, W = w.alloc (.cells #[.string rlo, .string rhi, .bool opn] TRg) := ⟨_, rfl⟩
  have hb : Below w.heap.size w W := by rw [hW]; exact (Below.refl _ _).alloc (Nat.le_refl _) _
  have HX : Aside0 (Blk W w.heap.size [.string rlo, .string rhi, .bool opn] TRg) := ⟨by rw [hW]; exact Blk.newA w _ _⟩
  have HB := Aside0.mk hb
  have H := Aside0.mk (h.below hb)
  have HI := Aside0.mk (isTrue g 0 hd _ W H.out)
  have HF := Aside0.mk (fallingCalls g 0 hd lo hi rlo rhi opn most W H.out he hlen)
  clear h he hb hlen
  go_enter Try.func8, Try.ntmps8
  go_wp2_with fail
  rw [← hW]
  clear hW
  refine HI.out.mono ?_
  rintro e w' ⟨rfl, rfl⟩
  have x0 := HX.out.cell 0 _ rfl
  have x1 := HX.out.cell 1 _ rfl
  have x2 := HX.out.cell 2 _ rfl
  go_wp2_with fail
  refine HF.out.mono ?_
  rintro e w1 ⟨v, rfl, hr, hb1⟩
  have HR : Aside0 (MR w1 w.heap.size v ((fallS lo.reverse rlo most).map en)) := ⟨Kd.R_lower hr HB.out.size⟩
  have HB1 := Aside0.mk (HB.out.trans (hb1.mono HB.out.size))
  clear hr hb1
  go_wp2
  go_ret
  exact ⟨_, rfl, HR.out, HB1.out⟩
theorem scanNone (g : Nat) (hd : Nd) (ns : List Nd) (rlo rhi : ByteArray) (opn back : Bool) (most : Int) (w : World) (h : Sk w g 0 hd ns) (hm : most < 1) :
    Calls Try.prog 8 #[.pointer (some ⟨g, 0, none⟩), .agg #[.string rlo, .string rhi, .bool opn], .bool back, .int .i64 most] w fun e w' => e = .returned (.slice none 0 0) ∧ Below w.heap.size w w' := by
  obtain ⟨W, hW⟩ : ∃ W, W = w.alloc (.cells #[.string rlo, .string rhi, .bool opn] TRg) := ⟨_, rfl⟩
  have hb : Below w.heap.size w W := by rw [hW]; exact (Below.refl _ _).alloc (Nat.le_refl _) _
  have HB := Aside0.mk hb
  have HI := Aside0.mk (isTrue g 0 hd _ W (h.below hb))
  clear h hb
  go_enter Try.func8, Try.ntmps8
  go_wp2_with fail
  rw [← hW]
  clear hW
  refine HI.out.mono ?_
  rintro e w' ⟨rfl, rfl⟩
  go_wp2
  go_ret
  exact ⟨rfl, HB.out⟩
end Go.Proofs.Ytnpjppnahfehnaa.Skip
/- Layer 12's list as a sorted list of entries: what scans, seeks, puts and deletes are on it. -/
namespace Go.Proofs.Ytnpjppnahfehnaa.Skip
set_option linter.unusedVariables false
set_option linter.unusedSimpArgs false
open Go.RowKit Go.Proofs.YtnpjppnahfehnaaW.PrintWords Go.Proofs.Ytnpjppnahfehnaa.Kit Go.MuLone

/-! scans -/
def inR (rlo rhi : ByteArray) (opn : Bool) (k : ByteArray) : Bool := !ltB k rlo && (opn || ltB k rhi)
def mid (ns : List En) (rlo rhi : ByteArray) (opn : Bool) : List En := ns.filter (fun x => inR rlo rhi opn x.k)
def pick (ns : List En) (rlo rhi : ByteArray) (opn back : Bool) (most : Int) : List En := (cond back (mid ns rlo rhi opn).reverse (mid ns rlo rhi opn)).take most.toNat
theorem scanS_eq (rhi : ByteArray) (opn : Bool) (l : List Nd) (hs : Sorted l) : ∀ k : Int, scanS l rhi opn k = (l.filter (fun x => opn || ltB x.k rhi)).take k.toNat := by
  induction l with
  | nil => intro k; simp [scanS]
  | cons y t ih =>
    intro k
    obtain ⟨h1, h2⟩ := List.pairwise_cons.1 hs
    rw [scanS]
    by_cases hk : 0 < k
    · have hkn : k.toNat = (k - 1).toNat + 1 := by omega
      by_cases hp : opn = true ∨ ltB y.k rhi = true
      · have hb : (opn || ltB y.k rhi) = true := by simpa using hp
        rw [if_pos ⟨hk, hp⟩, List.filter_cons, if_pos hb, hkn, List.take_succ_cons, ih h2]
      · rw [if_neg (fun h => hp h.2)]
        have : (y :: t).filter (fun x => opn || ltB x.k rhi) = [] := by
          rw [List.filter_eq_nil_iff]
          intro x hx hb
          rw [Bool.or_eq_true] at hb
          rcases hb with hb | hb
          · exact hp (Or.inl hb)
          · rcases List.mem_cons.1 hx with rfl | hx
            · exact hp (Or.inr hb)
            · exact hp (Or.inr (lt_trans (h1 x hx) hb))
        rw [this, List.take_nil]
    · rw [if_neg (fun h => hk h.1), show k.toNat = 0 by omega, List.take_zero]
theorem fallS_eq (rlo : ByteArray) (l : List Nd) (hs : l.Pairwise (fun a b => ltB b.k a.k = true)) : ∀ k : Int, fallS l rlo k = (l.filter (fun x => !ltB x.k rlo)).take k.toNat := by
  induction l with
  | nil => intro k; simp [fallS]
  | cons y t ih =>
    intro k
    obtain ⟨h1, h2⟩ := List.pairwise_cons.1 hs
    rw [fallS]
    by_cases hk : 0 < k
    · have hkn : k.toNat = (k - 1).toNat + 1 := by omega
      cases hp : ltB y.k rlo with
      | false =>
        have hb : (!ltB y.k rlo) = true := by rw [hp]; rfl
        rw [if_pos ⟨rfl, hk⟩, List.filter_cons, if_pos hb, hkn, List.take_succ_cons, ih h2]
      | true =>
        rw [if_neg (fun h => by cases h.1)]
        have : (y :: t).filter (fun x => !ltB x.k rlo) = [] := by
          rw [List.filter_eq_nil_iff]
          intro x hx hb
          rw [Bool.not_eq_true'] at hb
          rcases List.mem_cons.1 hx with rfl | hx
          · rw [hp] at hb; cases hb
          · have := lt_trans (h1 x hx) hp
            rw [hb] at this; cases this
        rw [this, List.take_nil]
    · rw [if_neg (fun h => hk h.2), show k.toNat = 0 by omega, List.take_zero]
theorem filter_en (p : ByteArray → Bool) (l : List Nd) : (l.filter (fun x => p x.k)).map en = (l.map en).filter (fun x => p x.k) := by
  induction l with
  | nil => rfl
  | cons y t ih =>
    rw [List.map_cons]
    cases h : p y.k with
    | true => rw [List.filter_cons_of_pos (by simpa using h), List.filter_cons_of_pos (by simpa [en] using h), List.map_cons, ih]
    | false => rw [List.filter_cons_of_neg (by simp [h]), List.filter_cons_of_neg (by simp [en, h]), ih]
theorem Sk.sortedL {w : World} {g : Nat} {st : Int} {hd : Nd} {lo hi : List Nd} (h : Sk w g st hd (lo ++ hi)) : Sorted lo ∧ Sorted hi := by
  have hs := h.srt
  unfold Sorted at hs
  rw [List.pairwise_append] at hs
  exact ⟨hs.1, hs.2.1⟩
/-- Scan of a range, either way. -/
theorem scanCalls (g : Nat) (hd : Nd) (ns : List Nd) (rlo rhi : ByteArray) (opn back : Bool) (most : Int) (w : World) (h : Sk w g 0 hd ns) (hlen : ns.length ≤ 3518437208780) :
    Calls Try.prog 8 #[.pointer (some ⟨g, 0, none⟩), .agg #[.string rlo, .string rhi, .bool opn], .bool back, .int .i64 most] w fun e w' => ∃ v, e = .returned v ∧ MR w' w.heap.size v (pick (ns.map en) rlo rhi opn back most) ∧ Below w.heap.size w w' := by
  by_cases hm : most < 1
  · refine (scanNone g hd ns rlo rhi opn back most w h hm).mono fun e w' ⟨he, hb⟩ => ⟨_, he, ?_, hb⟩
    have : pick (ns.map en) rlo rhi opn back most = [] := by unfold pick; rw [show most.toNat = 0 by omega, List.take_zero]
    rw [this]
    exact Kd.R_nil _ _ _ _ _
  · cases back with
    | false =>
      obtain ⟨lo, hi, rfl, hlo, hhi⟩ := parts rlo ns h.srt
      refine (scanFore g hd lo hi rlo rhi opn most w h hlo hhi (by omega) hlen).mono fun e w' ⟨v, he, hr, hb⟩ => ⟨v, he, ?_, hb⟩
      have e : (scanS hi rhi opn most).map en = pick ((lo ++ hi).map en) rlo rhi opn false most := by
        rw [scanS_eq rhi opn hi h.sortedL.2, List.map_take]
        unfold pick mid
        rw [cond_false, ← filter_en (fun k => inR rlo rhi opn k), List.filter_append]
        have h1 : lo.filter (fun x => inR rlo rhi opn x.k) = [] := by
          rw [List.filter_eq_nil_iff]
          intro x hx
          unfold inR
          rw [hlo x hx]
          simp
        have h2 : hi.filter (fun x => inR rlo rhi opn x.k) = hi.filter (fun x => opn || ltB x.k rhi) := by
          apply List.filter_congr
          intro x hx
          unfold inR
          rw [hhi x hx]
          simp
        rw [h1, h2, List.nil_append]
      rw [← e]
      exact hr
    | true =>
      obtain ⟨lo, hi, rfl, he⟩ := ends ns rhi opn h.srt
      refine (scanBack g hd lo hi rlo rhi opn most w h he (by omega) hlen).mono fun e w' ⟨v, he', hr, hb⟩ => ⟨v, he', ?_, hb⟩
      have e : (fallS lo.reverse rlo most).map en = pick ((lo ++ hi).map en) rlo rhi opn true most := by
        rw [fallS_eq rlo lo.reverse (List.pairwise_reverse.2 h.sortedL.1), List.map_take, List.filter_reverse, List.map_reverse]
        unfold pick mid
        rw [cond_true, ← filter_en (fun k => inR rlo rhi opn k), List.filter_append]
        have h1 : hi.filter (fun x => inR rlo rhi opn x.k) = [] := by
          rw [List.filter_eq_nil_iff]
          intro x hx
          obtain ⟨a, b⟩ := he.hi x hx
          unfold inR
          rw [a, b]
          simp
        have h2 : lo.filter (fun x => inR rlo rhi opn x.k) = lo.filter (fun x => !ltB x.k rlo) := by
          apply List.filter_congr
          intro x hx
          unfold inR
          rcases he.lo x hx with a | a
          · rw [a]; simp
          · rw [a]; simp
        rw [h1, h2, List.append_nil]
      rw [← e]
      exact hr

/-! seeks -/
def seekE (l : List En) (key : ByteArray) (back : Bool) : Option En := cond back (l.filter (fun x => !ltB key x.k)).getLast? (l.filter (fun x => !ltB x.k key)).head?
def seekW : Option En → Value
  | none => .tuple #[zE, .bool false]
  | some x => .tuple #[.agg #[.string x.k, .int .i64 x.v, .int .i64 x.h], .bool true]
theorem seekV_W (o : Option Nd) : seekV o = seekW (o.map en) := by cases o <;> rfl
theorem seekO_E {w : World} {g : Nat} {st : Int} {hd : Nd} {lo hi : List Nd} (h : Sk w g st hd (lo ++ hi)) (key : ByteArray) (hlo : ∀ x ∈ lo, ltB x.k key = true) (hhi : ∀ x ∈ hi, ltB x.k key = false) (back : Bool) :
    (seekO lo hi key back).map en = seekE ((lo ++ hi).map en) key back := by
  cases back with
  | false =>
    unfold seekO seekE
    rw [cond_false, cond_false, ← filter_en (fun k => !ltB k key), List.filter_append]
    have h1 : lo.filter (fun x => !ltB x.k key) = [] := by
      rw [List.filter_eq_nil_iff]
      intro x hx
      rw [hlo x hx]
      simp
    have h2 : hi.filter (fun x => !ltB x.k key) = hi := by
      rw [List.filter_eq_self]
      intro x hx
      rw [hhi x hx]
      rfl
    rw [h1, h2, List.nil_append, List.head?_map]
  | true =>
    unfold seekO seekE
    rw [cond_true, cond_true, ← filter_en (fun k => !ltB key k), List.filter_append]
    have h1 : lo.filter (fun x => !ltB key x.k) = lo := by
      rw [List.filter_eq_self]
      intro x hx
      rw [lt_asymm (hlo x hx)]
      rfl
    have hab : ∀ x : Nd, ltB x.k key = false → x.k ≠ key → ltB key x.k = true := fun x h1 h2 => by
      rcases lt_total key x.k with h | h | h
      · exact h
      · exact absurd h.symm h2
      · rw [h1] at h; cases h
    rw [h1]
    cases hi with
    | nil => simp
    | cons z t =>
      have hs := (List.pairwise_cons.1 h.sortedL.2).1
      have h2 : t.filter (fun x => !ltB key x.k) = [] := by
        rw [List.filter_eq_nil_iff]
        intro x hx hb
        rw [Bool.not_eq_true'] at hb
        have hzx := hs x hx
        rcases lt_total key z.k with h | h | h
        · rw [lt_trans h hzx] at hb; cases hb
        · rw [h, hzx] at hb; cases hb
        · rw [hhi z List.mem_cons_self] at h; cases h
      simp only
      by_cases hk : z.k = key
      · rw [if_pos hk, List.filter_cons_of_pos (by rw [hk, lt_irrefl]; rfl), h2, List.map_append]
        simp
      · rw [if_neg hk, List.filter_cons_of_neg (by rw [hab z (hhi z List.mem_cons_self) hk]; simp), h2, List.append_nil, List.getLast?_map]
theorem seekAll (g : Nat) (hd : Nd) (ns : List Nd) (key : ByteArray) (back : Bool) (w : World) (h : Sk w g 0 hd ns) :
    Calls Try.prog 10 #[.pointer (some ⟨g, 0, none⟩), .string key, .bool back] w fun e w' => e = .returned (seekW (seekE (ns.map en) key back)) ∧ Below w.heap.size w w' := by
  obtain ⟨lo, hi, rfl, hlo, hhi⟩ := parts key ns h.srt
  have := seekCalls g hd lo hi key back w h hlo hhi
  rw [seekV_W, seekO_E h key hlo hhi back] at this
  exact this

/-! puts, deletes, gets -/
def putE : List En → ByteArray → Int → Int → List En
  | [], key, v, ht => [⟨key, v, ht⟩]
  | y :: t, key, v, ht => if ltB y.k key = true then y :: putE t key v ht else if y.k = key then ⟨y.k, v, y.h⟩ :: t else ⟨key, v, ht⟩ :: y :: t
def getE (l : List En) (key : ByteArray) : Option Int := (l.find? (fun x => decide (x.k = key))).map (·.v)
def delE (l : List En) (key : ByteArray) : List En := l.filter (fun x => decide (x.k ≠ key))
theorem putE_lo (lo : List En) (l : List En) (key : ByteArray) (v ht : Int) (h : ∀ x ∈ lo, ltB x.k key = true) : putE (lo ++ l) key v ht = lo ++ putE l key v ht := by
  induction lo with
  | nil => rfl
  | cons y t ih => rw [List.cons_append, putE, if_pos (h y List.mem_cons_self), ih (fun x hx => h x (List.mem_cons_of_mem _ hx))]; rfl
theorem lo_ne {lo : List Nd} {key : ByteArray} (h : ∀ x ∈ lo, ltB x.k key = true) : ∀ x ∈ lo, x.k ≠ key := fun x hx e => by
  have := h x hx
  rw [e, lt_irrefl] at this
  cases this
theorem en_lo {lo : List Nd} {key : ByteArray} (h : ∀ x ∈ lo, ltB x.k key = true) : ∀ x ∈ lo.map en, ltB x.k key = true := by
  intro x hx
  obtain ⟨y, hy, rfl⟩ := List.mem_map.1 hx
  exact h y hy
theorem putE_old {lo t : List Nd} {z : Nd} {key : ByteArray} {v ht : Int} (hlo : ∀ x ∈ lo, ltB x.k key = true) (hm : z.k = key) : (lo ++ { z with v := v } :: t).map en = putE ((lo ++ z :: t).map en) key v ht := by
  rw [List.map_append, List.map_append, putE_lo _ _ _ _ _ (en_lo hlo), List.map_cons, List.map_cons, putE, if_neg (by show ¬ ltB z.k key = true; rw [hm, lt_irrefl]; simp), if_pos (show (en z).k = key from hm)]
  rfl
theorem putE_new {lo hi : List Nd} {N : Nd} {key : ByteArray} {v ht : Int} (hlo : ∀ x ∈ lo, ltB x.k key = true) (hhi : ∀ x ∈ hi, ltB x.k key = false) (hm : Miss hi key) (h1 : N.k = key) (h2 : N.v = v) (h3 : (N.h : Int) = ht) : (lo ++ N :: hi).map en = putE ((lo ++ hi).map en) key v ht := by
  have eN : en N = ⟨key, v, ht⟩ := by unfold en; rw [h1, h2, h3]
  rw [List.map_append, List.map_append, putE_lo _ _ _ _ _ (en_lo hlo), List.map_cons, eN]
  congr 1
  cases hi with
  | nil => rfl
  | cons z t =>
    rw [List.map_cons, putE, if_neg (by show ¬ ltB z.k key = true; rw [hhi z List.mem_cons_self]; simp), if_neg (show ¬ (en z).k = key from hm z t rfl)]
theorem getE_hit {lo t : List Nd} {z : Nd} {key : ByteArray} (hlo : ∀ x ∈ lo, ltB x.k key = true) (hm : z.k = key) : getE ((lo ++ z :: t).map en) key = some z.v := by
  unfold getE
  rw [List.map_append, List.find?_append, List.find?_eq_none.2 (by
    intro x hx
    obtain ⟨y, hy, rfl⟩ := List.mem_map.1 hx
    exact fun hd => lo_ne hlo y hy (of_decide_eq_true hd)), List.map_cons, List.find?_cons_of_pos (p := fun x : En => decide (x.k = key)) (decide_eq_true (show (en z).k = key from hm))]
  rfl
theorem hi_ne {hi : List Nd} {key : ByteArray} (hs : Sorted hi) (hhi : ∀ x ∈ hi, ltB x.k key = false) (hm : Miss hi key) : ∀ x ∈ hi, x.k ≠ key := fun x hx e => by
  have := miss_above hs hhi hm x hx
  rw [e, lt_irrefl] at this
  cases this
theorem getE_miss {lo hi : List Nd} {key : ByteArray} (hs : Sorted hi) (hlo : ∀ x ∈ lo, ltB x.k key = true) (hhi : ∀ x ∈ hi, ltB x.k key = false) (hm : Miss hi key) : getE ((lo ++ hi).map en) key = none := by
  unfold getE
  rw [List.find?_eq_none.2, Option.map_none]
  intro x hx
  obtain ⟨y, hy, rfl⟩ := List.mem_map.1 hx
  rcases List.mem_append.1 hy with hy | hy
  · exact fun hd => lo_ne hlo y hy (of_decide_eq_true hd)
  · exact fun hd => hi_ne hs hhi hm y hy (of_decide_eq_true hd)
theorem delE_hit {lo t : List Nd} {z : Nd} {key : ByteArray} (hs : Sorted (z :: t)) (hlo : ∀ x ∈ lo, ltB x.k key = true) (hm : z.k = key) : (lo ++ t).map en = delE ((lo ++ z :: t).map en) key := by
  unfold delE
  rw [← filter_en (fun k => decide (k ≠ key)), List.filter_append, List.filter_cons_of_neg (by simpa using hm)]
  have h1 : lo.filter (fun x => decide (x.k ≠ key)) = lo := by
    rw [List.filter_eq_self]
    intro x hx
    simpa using lo_ne hlo x hx
  have h2 : t.filter (fun x => decide (x.k ≠ key)) = t := by
    rw [List.filter_eq_self]
    intro x hx
    have := (List.pairwise_cons.1 hs).1 x hx
    rw [hm] at this
    simp only [ne_eq, decide_not, Bool.not_eq_eq_eq_not, Bool.not_true, decide_eq_false_iff_not]
    intro e
    rw [e, lt_irrefl] at this
    cases this
  rw [h1, h2]
theorem delE_miss {l : List En} {key : ByteArray} (h : getE l key = none) : delE l key = l := by
  unfold getE at h
  rw [Option.map_eq_none_iff, List.find?_eq_none] at h
  unfold delE
  rw [List.filter_eq_self]
  intro x hx
  simpa using h x hx
/-- Put with a height that may be, and a key that is not too long. -/
def resV : Option Int → Int := fun o => o.getD 0
theorem putAll (g : Nat) (hd : Nd) (ns : List Nd) (key : ByteArray) (v ht : Int) (w : World) (h : Sk w g 0 hd ns) (hk : (key.size : Int) ≤ 1025) (h1 : 1 ≤ ht) (h2 : ht ≤ 16) (hlen : ns.length < 4611686018427387904) :
    Calls Try.prog 18 #[.pointer (some ⟨g, 0, none⟩), .string key, .int .i64 v, .int .i64 ht] w fun e w' => ∃ ns', e = .returned (.tuple #[.int .i64 (resV (getE (ns.map en) key)), .bool (getE (ns.map en) key).isSome, .int .i64 0]) ∧ ns'.map en = putE (ns.map en) key v ht ∧ Lv w w' g 0 hd ns ns' := by
  obtain ⟨lo, hi, rfl, hlo, hhi⟩ := parts key ns h.srt
  rcases hit_or_miss hi key with ⟨z, t, rfl, hm⟩ | hm
  · rw [getE_hit hlo hm]
    exact (putOld g hd lo t z key v ht w h hlo hhi hm hk h1 h2).mono fun e w' ⟨he, hl⟩ => ⟨_, he, putE_old hlo hm, hl⟩
  · rw [getE_miss h.sortedL.2 hlo hhi hm]
    exact (putNew g hd lo hi key v ht w h hlo hhi hm hk h1 h2 hlen).mono fun e w' ⟨N, he, a, b, c, hl⟩ => ⟨_, he, putE_new hlo hhi hm a b c, hl⟩
theorem deleteAll (g : Nat) (hd : Nd) (ns : List Nd) (key : ByteArray) (w : World) (h : Sk w g 0 hd ns) (hlen : ns.length < 4611686018427387904) :
    Calls Try.prog 19 #[.pointer (some ⟨g, 0, none⟩), .string key] w fun e w' => ∃ ns', e = .returned (.tuple #[.int .i64 (resV (getE (ns.map en) key)), .bool (getE (ns.map en) key).isSome]) ∧ ns'.map en = delE (ns.map en) key ∧ Lv w w' g 0 hd ns ns' := by
  obtain ⟨lo, hi, rfl, hlo, hhi⟩ := parts key ns h.srt
  rcases hit_or_miss hi key with ⟨z, t, rfl, hm⟩ | hm
  · rw [getE_hit hlo hm]
    exact (deleteOld g hd lo t z key w h hlo hhi hm hlen).mono fun e w' ⟨he, hl⟩ => ⟨_, he, delE_hit h.sortedL.2 hlo hm, hl⟩
  · have hg := getE_miss h.sortedL.2 hlo hhi hm
    rw [hg]
    exact (deleteNone g hd lo hi key w h hlo hhi hm).mono fun e w' ⟨he, hl⟩ => ⟨_, he, (delE_miss hg).symm, hl⟩
theorem getAll (g : Nat) (hd : Nd) (ns : List Nd) (key : ByteArray) (w : World) (h : Sk w g 0 hd ns) :
    Calls Try.prog 20 #[.pointer (some ⟨g, 0, none⟩), .string key] w fun e w' => e = .returned (.tuple #[.int .i64 (resV (getE (ns.map en) key)), .bool (getE (ns.map en) key).isSome]) ∧ Below w.heap.size w w' := by
  obtain ⟨lo, hi, rfl, hlo, hhi⟩ := parts key ns h.srt
  rcases hit_or_miss hi key with ⟨z, t, rfl, hm⟩ | hm
  · rw [getE_hit hlo hm]
    exact getHit g hd lo key w z t h hlo hhi hm
  · rw [getE_miss h.sortedL.2 hlo hhi hm]
    exact getMiss g hd lo hi key w h hlo hhi hm
theorem putE_len (l : List En) (key : ByteArray) (v ht : Int) : (putE l key v ht).length ≤ l.length + 1 := by
  induction l with
  | nil => simp [putE]
  | cons y t ih =>
    rw [putE]
    split
    · simp only [List.length_cons]; omega
    · split <;> simp
theorem delE_len (l : List En) (key : ByteArray) : (delE l key).length ≤ l.length := List.length_filter_le _ _
end Go.Proofs.Ytnpjppnahfehnaa.Skip
