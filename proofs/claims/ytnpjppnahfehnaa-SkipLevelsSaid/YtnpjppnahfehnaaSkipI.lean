/- Layer 12's list: remove. -/
import Derived.Test.YtnpjppnahfehnaaSkipH
namespace Go.Proofs.Ytnpjppnahfehnaa.Skip
set_option linter.unusedVariables false
set_option linter.unusedSimpArgs false
open Go.RowKit Go.Proofs.YtnpjppnahfehnaaW.PrintWords Go.Proofs.Ytnpjppnahfehnaa.Kit Go.MuLone

theorem Sk.partsApart {w : World} {g : Nat} {st : Int} {hd : Nd} {lo hi : List Nd} (h : Sk w g st hd (lo ++ hi)) : ∀ k, Foot hi k → ¬ Foot (hd :: lo) k := by
  rintro k ⟨x, hx, ex⟩ ⟨y, hy, ey⟩
  have np := h.np
  have nq := h.nq
  rw [← List.cons_append, List.map_append, List.nodup_append] at np nq
  have hx2 : x ∈ hd :: (lo ++ hi) := List.mem_cons_of_mem _ (List.mem_append_right _ hx)
  have hy2 : y ∈ hd :: (lo ++ hi) := by
    rcases List.mem_cons.1 hy with rfl | hy
    · exact List.mem_cons_self
    · exact List.mem_cons_of_mem _ (List.mem_append_left _ hy)
  rcases ex with rfl | rfl <;> rcases ey with e | e
  · exact np.2.2 y.p (List.mem_map_of_mem hy) x.p (List.mem_map_of_mem hx) e.symm
  · exact h.lnk.pq hx2 hy2 e
  · exact h.lnk.pq hy2 hx2 e.symm
  · exact nq.2.2 y.q (List.mem_map_of_mem hy) x.q (List.mem_map_of_mem hx) e.symm
theorem Foot.left {hd : Nd} {lo hi : List Nd} {k : Nat} (h : Foot (hd :: lo) k) : Foot (hd :: (lo ++ hi)) k := by
  obtain ⟨x, hx, e⟩ := h
  refine ⟨x, ?_, e⟩
  rcases List.mem_cons.1 hx with rfl | hx
  · exact List.mem_cons_self
  · exact List.mem_cons_of_mem _ (List.mem_append_left _ hx)
theorem Foot.right {hd : Nd} {lo hi : List Nd} {k : Nat} (h : Foot hi k) : Foot (hd :: (lo ++ hi)) k := by
  obtain ⟨x, hx, e⟩ := h
  exact ⟨x, List.mem_cons_of_mem _ (List.mem_append_right _ hx), e⟩
theorem mem_drop1 {hd z : Nd} {lo t : List Nd} {x : Nd} (h : x ∈ hd :: (lo ++ t)) : x ∈ hd :: (lo ++ z :: t) := by
  rcases List.mem_cons.1 h with rfl | h
  · exact List.mem_cons_self
  · rcases List.mem_append.1 h with h | h
    · exact List.mem_cons_of_mem _ (List.mem_append_left _ h)
    · exact List.mem_cons_of_mem _ (List.mem_append_right _ (List.mem_cons_of_mem _ h))
theorem Sk.delete {w0 w : World} {g : Nat} {st : Int} {hd z : Nd} {lo t : List Nd} (h : Sk w0 g st hd (lo ++ z :: t))
    (row : Blk w g [.bool true, .int .i32 st, .int .u32 0, .pointer (some ⟨hd.p, 0, none⟩), .int .i64 ((lo ++ t).length)] TL)
    (l1 : Links w (hd :: lo) (fun i => fst? i t (fun _ => none))) (l2 : Links w t (fun _ => none)) : Sk w g st hd (lo ++ t) where
  row := row
  lnk := by
    rw [← List.cons_append, Links.split]
    exact ⟨l1, l2⟩
  hh := h.hh
  hts := fun x hx => h.hts x (by
    rcases List.mem_append.1 hx with hx | hx
    · exact List.mem_append_left _ hx
    · exact List.mem_append_right _ (List.mem_cons_of_mem _ hx))
  srt := by
    have hs := h.srt
    unfold Sorted at hs ⊢
    rw [List.pairwise_append, List.pairwise_cons] at hs
    rw [List.pairwise_append]
    exact ⟨hs.1, hs.2.1.2, fun x hx y hy => hs.2.2 x hx y (List.mem_cons_of_mem _ hy)⟩
  np := by
    have hn := h.np
    rw [← List.cons_append, map_mid, nodup_mid, ← List.map_append] at hn
    exact hn.2
  nq := by
    have hn := h.nq
    rw [← List.cons_append, map_mid, nodup_mid, ← List.map_append] at hn
    exact hn.2
theorem Fp.delete {g : Nat} {hd z : Nd} {lo t : List Nd} {i : Nat} (h : Fp g hd (lo ++ t) i) : Fp g hd (lo ++ z :: t) i := by
  rcases h with h | ⟨x, hx, e⟩
  · exact Or.inl h
  · exact Or.inr ⟨x, mem_drop1 hx, e⟩

theorem removeMiss (g : Nat) (st : Int) (hd : Nd) (lo hi : List Nd) (key : ByteArray) (w : World) (h : Sk w g st hd (lo ++ hi)) (hlo : ∀ x ∈ lo, ltB x.k key = true) (hhi : ∀ x ∈ hi, ltB x.k key = false) (hm : Miss hi key) :
    Calls Try.prog 37 #[.pointer (some ⟨g, 0, none⟩), .string key] w fun e w' => e = .returned (.tuple #[.int .i64 0, .bool false]) ∧ Below w.heap.size w w' := by
  have HF := Aside0.mk (findMiss g st hd lo hi key w h hlo hhi hm)
  clear h hlo hhi hm
  go_enter Try.func37, Try.ntmps37
  go_wp2_with fail
  refine HF.out.mono ?_
  rintro e w1 ⟨rfl, hb⟩
  have HB := Aside0.mk hb
  clear hb
  go_wp2
  go_ret2
  exact ⟨rfl, HB.out⟩

set_option maxRecDepth 100000 in
set_option maxHeartbeats 8000000 in
theorem removeHit (g : Nat) (st : Int) (hd : Nd) (lo t : List Nd) (z : Nd) (key : ByteArray) (w : World) (h : Sk w g st hd (lo ++ z :: t)) (hlo : ∀ x ∈ lo, ltB x.k key = true) (hhi : ∀ x ∈ z :: t, ltB x.k key = false) (hm : z.k = key)
    (hlen : (lo ++ z :: t).length < 4611686018427387904) :
    Calls Try.prog 37 #[.pointer (some ⟨g, 0, none⟩), .string key] w fun e w' => e = .returned (.tuple #[.int .i64 z.v, .bool true]) ∧ Lv w w' g st hd (lo ++ z :: t) (lo ++ t) := by
  have HF := Aside0.mk (findHit g st hd lo key w z t h hlo hhi hm)
  have H := Aside0.mk h
  have HLo := Aside0.mk hlo
  have HHi := Aside0.mk hhi
  have HLen := Aside0.mk hlen
  have hz := zeroA
  have hZs : Aside0 ((List.replicate 16 (Value.pointer none)).toArray.size = (outC hd lo 0).toArray.size) := ⟨by simp [outC_len]⟩
  have hne : ¬ (List.replicate 16 (Value.pointer none)).toArray = #[] := by simp
  generalize (List.replicate 16 (Value.pointer none)).toArray = Z at *
  have HI : Aside0 ((Try.prog.info? TA).map (·.size) = some (outC hd lo 0).toArray.size) := ⟨by rw [show (outC hd lo 0).toArray.size = 16 by simp [outC_len]]; kernel_rfl⟩
  have H1 : Aside0 ((outC hd lo 0).toArray.all (·.oneCell') = true) := ⟨by
    rw [Array.all_eq_true_iff_forall_mem]
    intro v hv
    simp only [List.mem_toArray, outC, List.mem_map] at hv
    obtain ⟨l, _, rfl⟩ := hv
    split <;> rfl⟩
  have hzm : z ∈ lo ++ z :: t := List.mem_append_right _ List.mem_cons_self
  have hzh := h.hts z hzm
  clear h hlo hhi hm hlen
  go_enter Try.func37, Try.ntmps37
  go_wp2_with fail
  refine HF.out.mono ?_
  rintro e w1 ⟨rfl, hb⟩
  have HB := Aside0.mk hb
  have Hs1 := Aside0.mk (H.out.below hb)
  clear hb HF H
  have HBf := Aside0.mk (Hs1.out.before key HLo.out HHi.out)
  go_wp2_with fail
  refine HBf.out.mono ?_
  rintro e w3 ⟨rfl, hb3⟩
  have Hs4 := Aside0.mk (Hs1.out.below hb3)
  have HB4 := Aside0.mk (HB.out.trans (hb3.mono HB.out.size))
  clear hb3 Hs1 HB HBf
  have ha12 : (w3.alloc (.cells Z TA)).heap[w3.heap.size]? = some (.cells Z TA (0, 0)) := heap_alloc_new w3 _
  obtain ⟨W4, hW4⟩ : ∃ W4, W4 = (w3.alloc (.cells Z TA)).setRow w3.heap.size (outC hd lo 0).toArray := ⟨_, rfl⟩
  have hb4 : Below w3.heap.size w3 W4 := by
    rw [hW4]
    exact ⟨rfl, rfl, rfl, by rw [setRow_size]; simp, fun k hk => by rw [setRow_other _ _ _ _ (by omega)]; exact Below.heap_alloc w3 _ k hk⟩
  have HA : Aside0 (Blk W4 w3.heap.size (outC hd lo 0) TA) := ⟨⟨by rw [hW4]; exact setRow_heap _ _ _ _ _ _ (heap_alloc_new w3 _)⟩⟩
  have Hs5 := Aside0.mk (Hs4.out.below hb4)
  have HB5 := Aside0.mk (HB4.out.trans (hb4.mono HB4.out.size))
  have hzn := (Hs5.out.lnk.node (x := z) (List.mem_cons_of_mem _ hzm))
  have hz2 := hzn.cell 2 _ rfl
  have HZn := Aside0.mk hzn
  clear hzn
  go_upto_region 5 with (with_reducible refine wpList_store_row rfl TA (.tmp 7) (.tmp 16) rfl w3.heap.size (outC hd lo 0).toArray rfl rfl TA Z ha12 HI.out hZs.out H1.out ?_)
  rw [← hW4]
  clear ha12 hW4 hb4 Hs4 HB4 hz hne hZs HI H1
  have HAn : Aside0 (∀ i, Fp g hd (lo ++ z :: t) i → i ≠ w3.heap.size) := ⟨fun i hi e => by
    obtain ⟨cs, t', hb', ht⟩ := Hs5.out.typed hi
    have := Blk.uniq HA.out (e ▸ hb')
    rcases ht with rfl | rfl | rfl <;> exact absurd this (by decide)⟩
  generalize w3.heap.size = an at *
  have hsplit := Hs5.out.lnk
  rw [← List.cons_append, Links.split] at hsplit
  have HL0 : Aside0 (Links W4 (hd :: lo) (fun l => if l < z.h then some z.p else fst? l t (fun _ => none))) := ⟨hsplit.1⟩
  have HZq := Aside0.mk hsplit.2.2.1
  have HLt := Aside0.mk hsplit.2.2.2
  have HAp := Aside0.mk Hs5.out.partsApart
  have HNd : Aside0 (((hd :: lo).map (·.q)).Nodup) := ⟨by
    have := Hs5.out.nq
    rw [← List.cons_append, List.map_append, List.nodup_append] at this
    exact this.1⟩
  have HPq : Aside0 (∀ y ∈ hd :: lo, ∀ x ∈ hd :: lo, y.p ≠ x.q) := ⟨fun y hy x hx => HL0.out.pq hy hx⟩
  have Hhh := Aside0.mk Hs5.out.hh
  have HOr : Aside0 (Only (Foot (hd :: lo)) W4 W4) := ⟨Only.refl _ _⟩
  clear hsplit
  go_wp2_with fail
  go_loopw [8] (fun x wz => ∃ c : Nat, c ≤ z.h ∧ x = .int .i64 ((c : Int) - 1) ∧ Aside0 (Links wz (hd :: lo) (fun l => if l < c then some z.p else fst? l t (fun _ => none))) ∧ Aside0 (Only (Foot (hd :: lo)) W4 wz)) (fun x _ => (intOf x + 1).toNat)
  case atStart => exact ⟨z.h, Nat.le_refl _, rfl, HL0, HOr⟩
  case round =>
    clear HL0 HOr hz2
    obtain ⟨c, hcl, rfl, HL, HO⟩ := hrel
    have hnz : ∀ k, Foot (z :: t) k → ¬ Foot (hd :: lo) k := HAp.out
    have HZr := Aside0.mk (show NodeB _ z from HO.out.blk HZn.out (hnz _ (Foot.head (Or.inl rfl))))
    cases c with
    | zero =>
      have hgf : ¬ Foot (hd :: lo) g := fun hf => Hs5.out.gN g hf.left rfl
      have hrow := HO.out.blk Hs5.out.row hgf
      have hlen : wrap64 (((lo ++ z :: t).length : Int) + -1) = ((lo ++ t).length : Int) := by
        have := HLen.out
        rw [List.length_append, List.length_cons] at this ⊢
        rw [List.length_append]
        unfold wrap64
        omega
      have HAd := Aside0.mk (i64Add g 4 _ (-1) _ (hrow.cell 4 _ rfl) (hrow.free 4))
      rw [hlen] at HAd
      have HRow := Aside0.mk hrow
      have hzg : z.p ≠ g := fun e => Hs5.out.gN g ⟨z, List.mem_cons_of_mem _ hzm, Or.inl e.symm⟩ rfl
      clear hlen hnz
      go_wp2_with fail
      refine HAd.out.mono ?_
      rintro e w7 ⟨rfl, hw7⟩
      have HZ7 : Aside0 (NodeB w7 z) := ⟨by rw [← hw7]; exact HZr.out.far (a := ⟨g, 4, none⟩) hzg _⟩
      have HEnd : Aside0 (Lv w w7 g st hd (lo ++ z :: t) (lo ++ t)) := ⟨by
        have hfg : ∀ l : List Nd, (∀ x ∈ l, x ∈ hd :: (lo ++ z :: t)) → ∀ k, Foot l k → ¬ k = g := fun l hl k ⟨x, hx, e⟩ => Hs5.out.gN k ⟨x, hl x hx, e⟩
        refine ⟨Hs5.out.delete ?_ ?_ ?_, ?_, fun k hk => Or.inl hk.delete⟩
        · rw [← hw7]
          exact HRow.out.put 4 _
        · rw [← hw7]
          have e : (fun l => if l < 0 then some z.p else fst? l t (fun _ => none)) = (fun l => fst? l t (fun _ => none)) := funext fun l => by rw [if_neg (by omega)]
          have hl := HL.out
          rw [e] at hl
          exact hl.other (fun k hk e => hgf (e ▸ hk))
        · rw [← hw7]
          exact (HLt.out.only HO.out t (fun k hk => HAp.out k hk.tail)).other (hfg t (fun x hx => List.mem_cons_of_mem _ (List.mem_append_right _ (List.mem_cons_of_mem _ hx))))
        · rw [← hw7]
          have o1 : Only (Fp g hd (lo ++ z :: t)) w W4 := Only.ofBelow HB5.out
          have o2 := HO.out.mono (T := Fp g hd (lo ++ z :: t)) (fun k hk => Or.inr hk.left)
          exact Only.setCell (S := Fp g hd (lo ++ z :: t)) (o1.trans o2) (p := ⟨g, 4, none⟩) (Or.inl (Or.inl rfl)) _⟩
      have HLd := Aside0.mk (i64Load z.p 1 _ w7 (HZ7.out.cell 1 _ rfl))
      clear hw7 HL HO HAd HRow hzg hgf
      go_wp2_with fail
      refine HLd.out.mono ?_
      rintro e w8 ⟨rfl, rfl⟩
      go_wp2
      go_ret2
      exact ⟨rfl, HEnd.out⟩
    | succ c =>
      have e0 : ((c + 1 : Nat) : Int) - 1 = (c : Int) := by omega
      rw [e0]
      clear e0
      have hch : c < z.h := by omega
      have hc16 : c < 16 := by omega
      have hls := HL.out.last c (by rw [Hhh.out]; omega)
      have hst := fun v => Links.store c v lo hd _ HNd.out (by rw [Hhh.out]; omega) HL.out HPq.out
      rw [if_pos (Nat.lt_succ_self c)] at hls
      obtain ⟨hxn, hxh, hxc, hxf⟩ := hls
      have hac := (HO.out.blk HA.out (fun hf => HAn.out _ (Or.inr hf.left) rfl)).cell c _ (outC_get hd lo c hc16)
      have hzq := (HO.out.blk HZq.out (hnz _ (Foot.head (Or.inr rfl)))).cell c (ptr (fst? c t (fun _ => none))) (by rw [List.getElem?_map, List.getElem?_range hch]; rfl)
      have hIn : IsN _ (fst? c t (fun _ => none)) := (HLt.out.only HO.out t (fun k hk => hnz k hk.tail)).isN c (IsN.nil _)
      have HOn : Aside0 (Only (Foot (hd :: lo)) W4 (wr.drew.setCell ⟨(lastAt c hd lo).q, c, none⟩ (ptr (fst? c t (fun _ => none))))) := ⟨Only.setCell (S := Foot (hd :: lo)) HO.out.drew (p := ⟨(lastAt c hd lo).q, c, none⟩) (Or.inl ⟨_, lastAt_mem c lo hd, Or.inr rfl⟩) _⟩
      have hst := fun v => Links.store (w := wr.drew) c v lo hd _ HNd.out (by rw [Hhh.out]; omega) (HL.out.below ((Below.refl _ wr).drew)) HPq.out
      have HLn : Aside0 (Links (wr.drew.setCell ⟨(lastAt c hd lo).q, c, none⟩ (ptr (fst? c t (fun _ => none)))) (hd :: lo) (fun l => if l < c then some z.p else fst? l t (fun _ => none))) := ⟨by
        have e : (fun l => if l = c then fst? c t (fun _ => none) else if l < c + 1 then some z.p else fst? l t (fun _ => none)) = (fun l => if l < c then some z.p else fst? l t (fun _ => none)) := by
          funext l
          by_cases h1 : l = c
          · rw [if_pos h1, h1, if_neg (Nat.lt_irrefl c)]
          · rw [if_neg h1]
            by_cases h2 : l < c
            · rw [if_pos h2, if_pos (by omega)]
            · rw [if_neg h2, if_neg (by omega)]
        rw [← e]
        exact hst (fst? c t (fun _ => none))⟩
      clear hst
      generalize lastAt c hd lo = x at *
      have hx2 := hxn.cell 2 _ rfl
      have hz2 := HZr.out.cell 2 _ rfl
      have hb0 : Below wr.heap.size wr wr.drew := (Below.refl _ wr).drew
      have HLd := Aside0.mk (pload z.q c _ wr.drew hzq (hIn.below hb0))
      have HSt := Aside0.mk (pstore x.q c (fst? c t (fun _ => none)) _ wr.drew hxc hxf (hIn.below hb0))
      have i1 : (c : Int) < 16 := by omega
      have i2 : (c : Int) < (z.h : Int) := by omega
      have i3 : (c : Int) < (x.h : Int) := by omega
      clear hxn hxh hxc hxf hIn hzq hnz hb0
      simp only [ptr] at hac
      go_wp2_with fail
      go_region_with (first
        | (go_at_call 24; refine (HLd.out).mono ?_; rintro e w5 ⟨rfl, rfl⟩)
        | (go_at_call 47; refine (HSt.out).mono ?_; rintro e w6 ⟨rfl, hw6⟩))
      all_goals
        rw [hw6] at HLn HOn
        clear hw6 HL HO HLd HSt hac hx2 hz2 HZr
        go_wp2
        go_roundw
        case rel => exact ⟨c, by omega, rfl, HLn, HOn⟩
        case measure => simp [intOf]
end Go.Proofs.Ytnpjppnahfehnaa.Skip
