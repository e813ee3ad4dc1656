/- Layer 12's list: put of a key that is not there. -/
import Derived.Test.YtnpjppnahfehnaaDoorSkipG
namespace Go.Proofs.YtnpjppnahfehnaaDoor.Skip
set_option linter.unusedVariables false
set_option linter.unusedSimpArgs false
open Go.RowKit Go.Proofs.YtnpjppnahfehnaaDoorW.PrintWords Go.Proofs.YtnpjppnahfehnaaDoor.Kit Go.MuLone

abbrev TS : TypeId := 40
/-- A new node's row, its first levels set. -/
def midC (hi : List Nd) (ht j : Nat) : List Value := (List.range ht).map (fun i => if i < j then ptr (fst? i hi (fun _ => none)) else .pointer none)
theorem midC_len (hi : List Nd) (ht j : Nat) : (midC hi ht j).length = ht := by unfold midC; simp
theorem midC_at (hi : List Nd) (ht j i : Nat) (h : i < ht) : (midC hi ht j)[i]? = some (if i < j then ptr (fst? i hi (fun _ => none)) else .pointer none) := by
  unfold midC
  rw [List.getElem?_map, List.getElem?_range h]
  rfl
theorem midC_start (hi : List Nd) (ht : Nat) : midC hi ht 0 = List.replicate ht (.pointer none) := by
  apply List.ext_getElem?
  intro i
  by_cases h : i < ht
  · rw [midC_at hi ht 0 i h, if_neg (by omega), List.getElem?_replicate, if_pos h]
  · rw [List.getElem?_eq_none (by rw [midC_len]; omega), List.getElem?_eq_none (by rw [List.length_replicate]; omega)]
theorem midC_set (hi : List Nd) (ht j : Nat) (h : j < ht) : (midC hi ht j).set j (ptr (fst? j hi (fun _ => none))) = midC hi ht (j + 1) := by
  apply List.ext_getElem?
  intro i
  rw [List.getElem?_set, midC_len]
  by_cases e : j = i
  · subst e
    rw [if_pos rfl, if_pos h, midC_at hi ht _ j h, if_pos (by omega)]
  · rw [if_neg e]
    by_cases hi' : i < ht
    · rw [midC_at hi ht _ i hi', midC_at hi ht _ i hi']
      by_cases e2 : i < j
      · rw [if_pos e2, if_pos (by omega)]
      · rw [if_neg e2, if_neg (by omega)]
    · rw [List.getElem?_eq_none (by rw [midC_len]; omega), List.getElem?_eq_none (by rw [midC_len]; omega)]
theorem midC_end (hi : List Nd) (ht : Nat) : midC hi ht ht = (List.range ht).map (fun i => ptr (fst? i hi (fun _ => none))) := by
  unfold midC
  apply List.map_congr_left
  intro i hi'
  rw [if_pos (List.mem_range.1 hi')]
/-- The facts on a list that is given, for a walk in whose world nothing of it was turned. -/
theorem Sk.lastAt {w : World} {g : Nat} {st : Int} {hd : Nd} {lo hi : List Nd} (h : Sk w g st hd (lo ++ hi)) (i : Nat) (hi16 : i < 16) :
    ∃ x, lastAt i hd lo = x ∧ NodeB w x ∧ i < x.h ∧ w.cell? ⟨x.q, i, none⟩ = some (ptr (fst? i hi (fun _ => none))) ∧ IsN w (fst? i hi (fun _ => none)) := by
  obtain ⟨a, b, c, _, d⟩ := h.at0 i hi16
  exact ⟨_, rfl, a, b, c, d⟩

theorem miss_above {hi : List Nd} {key : ByteArray} (hs : Sorted hi) (hhi : ∀ x ∈ hi, ltB x.k key = false) (hm : Miss hi key) : ∀ x ∈ hi, ltB key x.k = true := by
  cases hi with
  | nil => intro x hx; simp at hx
  | cons z t =>
    have hz : ltB key z.k = true := by
      rcases lt_total key z.k with h | h | h
      · exact h
      · exact absurd h.symm (hm z t rfl)
      · rw [hhi z List.mem_cons_self] at h; cases h
    intro x hx
    rcases List.mem_cons.1 hx with rfl | hx
    · exact hz
    · exact lt_trans hz ((List.pairwise_cons.1 hs).1 x hx)
theorem Sk.insert {w0 w : World} {g : Nat} {st : Int} {hd : Nd} {lo hi : List Nd} (h : Sk w0 g st hd (lo ++ hi)) (N : Nd)
    (row : Blk w g [.bool true, .int .i32 st, .int .u32 0, .pointer (some ⟨hd.p, 0, none⟩), .int .i64 ((lo ++ N :: hi).length)] TL)
    (l1 : Links w (hd :: lo) (fun i => fst? i (N :: hi) (fun _ => none))) (nb : NodeB w N) (nx : NextB w N (fun i => fst? i hi (fun _ => none))) (l2 : Links w hi (fun _ => none))
    (h1 : 1 ≤ N.h) (h16 : N.h ≤ 16) (hf : ∀ i, Foot (hd :: (lo ++ hi)) i → i ≠ N.p ∧ i ≠ N.q) (hlo : ∀ x ∈ lo, ltB x.k N.k = true) (hhi : ∀ x ∈ hi, ltB x.k N.k = false) (hm : Miss hi N.k) : Sk w g st hd (lo ++ N :: hi) where
  row := row
  lnk := by
    rw [← List.cons_append, Links.split]
    exact ⟨l1, nb, nx, l2⟩
  hh := h.hh
  hts := fun x hx => by
    rcases List.mem_append.1 hx with hx | hx
    · exact h.hts x (List.mem_append_left _ hx)
    · rcases List.mem_cons.1 hx with rfl | hx
      · exact ⟨h1, h16⟩
      · exact h.hts x (List.mem_append_right _ hx)
  srt := by
    have hs := h.srt
    unfold Sorted at hs ⊢
    rw [List.pairwise_append] at hs ⊢
    rw [List.pairwise_cons]
    have hab := miss_above hs.2.1 hhi hm
    refine ⟨hs.1, ⟨hab, hs.2.1⟩, fun x hx y hy => ?_⟩
    rcases List.mem_cons.1 hy with rfl | hy
    · exact hlo x hx
    · exact hs.2.2 x hx y hy
  np := by
    have hn := h.np
    rw [← List.cons_append] at hn ⊢
    rw [map_mid, nodup_mid, ← List.map_append]
    refine ⟨fun hp => ?_, hn⟩
    obtain ⟨x, hx, e⟩ := List.mem_map.1 hp
    exact (hf x.p ⟨x, hx, Or.inl rfl⟩).1 e
  nq := by
    have hn := h.nq
    rw [← List.cons_append] at hn ⊢
    rw [map_mid, nodup_mid, ← List.map_append]
    refine ⟨fun hp => ?_, hn⟩
    obtain ⟨x, hx, e⟩ := List.mem_map.1 hp
    exact (hf x.q ⟨x, hx, Or.inr rfl⟩).2 e
theorem Fp.insert {g : Nat} {hd : Nd} {lo hi : List Nd} {N : Nd} {i : Nat} (h : Fp g hd (lo ++ N :: hi) i) : Fp g hd (lo ++ hi) i ∨ i = N.p ∨ i = N.q := by
  rcases h with h | ⟨x, hx, e⟩
  · exact Or.inl (Or.inl h)
  · rcases List.mem_cons.1 hx with rfl | hx
    · exact Or.inl (Or.inr ⟨x, List.mem_cons_self, e⟩)
    · rcases List.mem_append.1 hx with hx | hx
      · exact Or.inl (Or.inr ⟨x, List.mem_cons_of_mem _ (List.mem_append_left _ hx), e⟩)
      · rcases List.mem_cons.1 hx with rfl | hx
        · exact Or.inr e
        · exact Or.inl (Or.inr ⟨x, List.mem_cons_of_mem _ (List.mem_append_right _ hx), e⟩)

set_option maxRecDepth 100000 in
set_option maxHeartbeats 8000000 in
theorem putMiss (g : Nat) (st : Int) (hd : Nd) (lo hi : List Nd) (key : ByteArray) (v : Int) (ht : Nat) (w : World) (h : Sk w g st hd (lo ++ hi)) (hlo : ∀ x ∈ lo, ltB x.k key = true) (hhi : ∀ x ∈ hi, ltB x.k key = false) (hm : Miss hi key)
    (h1 : 1 ≤ ht) (h16 : ht ≤ 16) (hlen : (lo ++ hi).length < 4611686018427387904) :
    Calls Tryd.prog 15 #[.pointer (some ⟨g, 0, none⟩), .string key, .int .i64 v, .int .i64 ht] w fun e w' => ∃ N : Nd, e = .returned (.tuple #[.int .i64 0, .bool false]) ∧ N.k = key ∧ N.v = v ∧ N.h = ht ∧ Lv w w' g st hd (lo ++ hi) (lo ++ N :: hi) := by
  have HF := Aside0.mk (findMiss g st hd lo hi key w h hlo hhi hm)
  have H := Aside0.mk h
  have HLo := Aside0.mk hlo
  have HHi := Aside0.mk hhi
  have HM := Aside0.mk hm
  have HLen := Aside0.mk hlen
  have hz := zeroA
  have hZs : Aside0 ((List.replicate 16 (Value.pointer none)).toArray.size = (outC hd lo 0).toArray.size) := ⟨by simp [outC_len]⟩
  have hne : ¬ (List.replicate 16 (Value.pointer none)).toArray = #[] := by simp
  generalize (List.replicate 16 (Value.pointer none)).toArray = Z at *
  have hmk := fun W => make_one (P := Tryd.prog) TS TP (.pointer none) 8 Tryd.underlying40 (by kernel_rfl) .i64 .i64 ht (by omega) (by omega) W
  have HMs := Aside0.mk (midC_start hi ht)
  have HI : Aside0 ((Tryd.prog.info? TA).map (·.size) = some (outC hd lo 0).toArray.size) := ⟨by rw [show (outC hd lo 0).toArray.size = 16 by simp [outC_len]]; kernel_rfl⟩
  have H1 : Aside0 ((outC hd lo 0).toArray.all (·.oneCell') = true) := ⟨by
    rw [Array.all_eq_true_iff_forall_mem]
    intro v hv
    simp only [List.mem_toArray, outC, List.mem_map] at hv
    obtain ⟨l, _, rfl⟩ := hv
    split <;> rfl⟩
  clear h hlo hhi hm hlen
  go_enter Tryd.func15, Tryd.ntmps15
  go_wp2_with fail
  refine HF.out.mono ?_
  rintro e w1 ⟨rfl, hb⟩
  have HB := Aside0.mk hb
  have Hs1 := Aside0.mk (H.out.below hb)
  clear hb HF H
  go_wp2_with fail
  obtain ⟨W, hW⟩ : ∃ W, W = (w1.alloc (.cells (Array.replicate ht (.pointer none)) TP)).alloc (.cells #[.string key, .int .i64 0, .slice (some ⟨w1.heap.size, 0, none⟩) ht ht] TN) := ⟨_, rfl⟩
  have hbW : Below w1.heap.size w1 W := by rw [hW]; exact ((Below.refl _ _).alloc (Nat.le_refl _) _).alloc (by simp) _
  have HQ : Aside0 (Blk W w1.heap.size (midC hi ht 0) TP) := ⟨by
    rw [hW, HMs.out]
    have := (Blk.newA w1 (Array.replicate ht (.pointer none)) TP).alloc (.cells #[.string key, .int .i64 0, .slice (some ⟨w1.heap.size, 0, none⟩) ht ht] TN)
    rw [Array.toList_replicate] at this
    exact this⟩
  have HN : Aside0 (Blk W (w1.heap.size + 1) [.string key, .int .i64 0, .slice (some ⟨w1.heap.size, 0, none⟩) ht ht] TN) := ⟨by rw [hW]; have := Blk.newA (w1.alloc (.cells (Array.replicate ht (.pointer none)) TP)) #[.string key, .int .i64 0, .slice (some ⟨w1.heap.size, 0, none⟩) ht ht] TN; simpa using this⟩
  have Hs2 := Aside0.mk (Hs1.out.below hbW)
  have HB2 := Aside0.mk (HB.out.trans (hbW.mono HB.out.size))
  have hlt1 : ∀ i, Fp g hd (lo ++ hi) i → i < w1.heap.size := fun i hi => Hs1.out.lt hi
  have HLt := Aside0.mk hlt1
  have HwL := Aside0.mk HB.out.size
  rw [← hW]
  clear hW hbW hmk HMs Hs1 HB hlt1
  generalize w1.heap.size = qn at *
  refine (i64Store (qn + 1) 1 v 0 W (HN.out.cell 1 _ rfl) (HN.out.free 1)).mono ?_
  rintro e w2 ⟨rfl, hw2⟩
  have ho2 : Only (fun i => i = qn + 1) W w2 := by rw [← hw2]; exact Only.setCell (S := fun i => i = qn + 1) (Only.refl _ W) (p := ⟨qn + 1, 1, none⟩) (Or.inl rfl) _
  have HN2 : Aside0 (Blk w2 (qn + 1) [.string key, .int .i64 v, .slice (some ⟨qn, 0, none⟩) ht ht] TN) := ⟨by rw [← hw2]; exact HN.out.put 1 (.int .i64 v)⟩
  have HQ2 := Aside0.mk (ho2.blk HQ.out (by omega))
  have Hs3 := Aside0.mk (Hs2.out.only ho2 (fun i hi e => by have := HLt.out i hi; omega))
  have HB3 : Aside0 (Below w.heap.size w w2) := ⟨HB2.out.trans (ho2.below (fun i e => by have := HwL.out; omega) HB2.out.size)⟩
  clear hw2 ho2 HN HQ Hs2 HB2
  have HBf := Aside0.mk (Hs3.out.before key HLo.out HHi.out)
  go_wp2_with fail
  refine HBf.out.mono ?_
  rintro e w3 ⟨rfl, hb3⟩
  have HN3 := Aside0.mk (HN2.out.belowSize hb3)
  have HQ3 := Aside0.mk (HQ2.out.belowSize hb3)
  have Hs4 := Aside0.mk (Hs3.out.below hb3)
  have HB4 := Aside0.mk (HB3.out.trans (hb3.mono HB3.out.size))
  clear hb3 HN2 HQ2 Hs3 HB3 HBf
  have ha12 : (w3.alloc (.cells Z TA)).heap[w3.heap.size]? = some (.cells Z TA (0, 0)) := heap_alloc_new w3 _
  go_wp2_with (with_reducible refine wpList_store_row rfl TA (.tmp 12) (.tmp 37) rfl w3.heap.size (outC hd lo 0).toArray rfl rfl TA Z ha12 HI.out hZs.out H1.out ?_)
  clear ha12
  obtain ⟨W4, hW4⟩ : ∃ W4, W4 = (w3.alloc (.cells Z TA)).setRow w3.heap.size (outC hd lo 0).toArray := ⟨_, rfl⟩
  have hb4 : Below w3.heap.size w3 W4 := by
    rw [hW4]
    exact ⟨rfl, rfl, rfl, by rw [setRow_size]; simp, fun k hk => by rw [setRow_other _ _ _ _ (by omega)]; exact Below.heap_alloc w3 _ k hk⟩
  have HA : Aside0 (Blk W4 w3.heap.size (outC hd lo 0) TA) := ⟨⟨by rw [hW4]; exact setRow_heap _ _ _ _ _ _ (heap_alloc_new w3 _)⟩⟩
  have HN4 := Aside0.mk (HN3.out.belowSize hb4)
  have HQ4 := Aside0.mk (HQ3.out.belowSize hb4)
  have Hs5 := Aside0.mk (Hs4.out.below hb4)
  have HB5 := Aside0.mk (HB4.out.trans (hb4.mono HB4.out.size))
  have HAn : Aside0 (qn + 1 < w3.heap.size) := ⟨HN3.out.lt⟩
  rw [← hW4]
  clear hW4 hb4 HN3 HQ3 Hs4 HB4 hz hne hZs HI H1
  generalize w3.heap.size = an at *
  go_loopw [13, 39] (fun _ x wr => ∃ j : Nat, j ≤ ht ∧ x = .int .i64 j ∧ Aside0 (Only (fun i => i = qn) W4 wr) ∧ Aside0 (Blk wr qn (midC hi ht j) TP)) (fun _ x _ => ht - (intOf x).toNat)
  case atStart => exact ⟨0, Nat.zero_le _, rfl, ⟨Only.refl _ _⟩, HQ4⟩
  case round =>
    obtain ⟨j, hj, rfl, HO, HQ⟩ := hrel
    have HNr := Aside0.mk (HO.out.blk HN4.out (by omega))
    have HAr := Aside0.mk (HO.out.blk HA.out (by have := HAn.out; omega))
    have Hsr := Aside0.mk (Hs5.out.only HO.out (fun i hi e => by have := HLt.out i hi; omega))
    by_cases hjl : j < ht
    · obtain ⟨x, hx, hxn, hxh, hxc, hxi⟩ := Hsr.out.lastAt j (by omega)
      have hac := HAr.out.cell j _ (outC_get hd lo j (by omega))
      rw [hx] at hac
      have hx2 := hxn.cell 2 _ rfl
      have hn2 := HNr.out.cell 2 _ rfl
      have HL := Aside0.mk (pload x.q j _ wr.drew hxc (hxi.below ((Below.refl _ wr).drew)))
      have HSt := Aside0.mk (pstore qn j (fst? j hi (fun _ => none)) _ wr.drew (HQ.out.drew.cell j _ (midC_at hi ht j j hjl)) (HQ.out.drew.free j) (hxi.below ((Below.refl _ wr).drew)))
      have i1 : (j : Int) < 16 := by omega
      have i2 : (j : Int) < (ht : Int) := by omega
      have i3 : (j : Int) < (x.h : Int) := by omega
      have hdn : qn ≠ an := by have := HAn.out; omega
      clear hx hxn hxh hxc hxi
      simp only [ptr] at hac
      go_wp2_with fail
      go_region_with (first
        | (go_at_call 17; refine (HL.out).mono ?_; rintro e w5 ⟨rfl, rfl⟩)
        | (go_at_call 25; refine (HSt.out).mono ?_; rintro e w6 ⟨rfl, hw6⟩))
      all_goals
        have HO2 : Aside0 (Only (fun i => i = qn) W4 w6) := ⟨by rw [← hw6]; exact Only.setCell (S := fun i => i = qn) HO.out.drew (p := ⟨qn, j, none⟩) (Or.inl rfl) _⟩
        have HQ2 : Aside0 (Blk w6 qn (midC hi ht (j + 1)) TP) := ⟨by rw [← hw6, ← midC_set hi ht j hjl]; exact HQ.out.drew.put j _⟩
        clear hw6 HO HQ HNr HAr Hsr HL HSt hac hx2 hn2
        go_wp2
        go_roundw
        case rel => exact ⟨j + 1, by omega, by go_num, HO2, HQ2⟩
        case measure => simp [intOf]; omega
    · obtain rfl : j = ht := by omega
      have HB6 : Aside0 (Below w.heap.size w wr) := ⟨HB5.out.trans (HO.out.below (fun i e => by have := HwL.out; omega) HB5.out.size)⟩
      have HL0 : Aside0 (Links wr (hd :: lo) (fun i => if i < 0 then some (qn + 1) else fst? i hi (fun _ => none))) := ⟨by
        have hl := Hsr.out.lnk
        rw [← List.cons_append, Links.split] at hl
        have e : (fun i => if i < 0 then some (qn + 1) else fst? i hi (fun _ => none)) = (fun i => fst? i hi (fun _ => none)) := funext fun i => by rw [if_neg (by omega)]
        rw [e]
        exact hl.1⟩
      have HFt : Aside0 (∀ i, Foot (hd :: lo) i → i < qn) := ⟨fun i ⟨x, hx, e⟩ => HLt.out i (Or.inr ⟨x, by
        rcases List.mem_cons.1 hx with rfl | hx
        · exact List.mem_cons_self
        · exact List.mem_cons_of_mem _ (List.mem_append_left _ hx), e⟩)⟩
      have HNd : Aside0 (((hd :: lo).map (·.q)).Nodup) := ⟨by
        have := Hsr.out.nq
        rw [← List.cons_append, List.map_append, List.nodup_append] at this
        exact this.1⟩
      have HPq : Aside0 (∀ y ∈ hd :: lo, ∀ z ∈ hd :: lo, y.p ≠ z.q) := ⟨fun y hy z hz => HL0.out.pq hy hz⟩
      have Hhh := Aside0.mk Hsr.out.hh
      clear HO HB5 HN4 HA Hs5 HQ4
      obtain ⟨W5, hW5⟩ : ∃ W5, W5 = wr := ⟨_, rfl⟩
      have HOr : Aside0 (Only (Foot (hd :: lo)) W5 wr) := ⟨by rw [hW5]; exact Only.refl _ _⟩
      rw [← hW5] at HNr HAr Hsr HQ HB6
      clear hW5
      go_wp2_with fail
      go_loopw [14, 60] (fun _ x wz => ∃ i : Nat, i ≤ j ∧ x = .int .i64 i ∧ Aside0 (Links wz (hd :: lo) (fun l => if l < i then some (qn + 1) else fst? l hi (fun _ => none))) ∧ Aside0 (Only (Foot (hd :: lo)) W5 wz)) (fun _ x _ => j - (intOf x).toNat)
      case atStart => exact ⟨0, Nat.zero_le _, rfl, HL0, HOr⟩
      case round =>
        clear HL0 HOr
        obtain ⟨i, hij, rfl, HL, HO⟩ := hrel
        by_cases hil : i < j
        · have hls := HL.out.last i (by rw [Hhh.out]; omega)
          have hst := Links.store i (some (qn + 1)) lo hd _ HNd.out (by rw [Hhh.out]; omega) HL.out HPq.out
          rw [if_neg (Nat.lt_irrefl i)] at hls
          obtain ⟨hxn, hxh, hxc, hxf⟩ := hls
          have hac := HAr.out.cell i _ (outC_get hd lo i (by omega))
          have hac := (show _ from ((HO.out.blk HAr.out (fun hf => by have := HFt.out _ hf; have := HAn.out; omega)).cell i _ (outC_get hd lo i (by omega))))
          have HIn : IsN _ (some (qn + 1)) := fun p hp => by
            injection hp with hp
            subst hp
            exact ⟨_, _, _, HO.out.blk HNr.out (fun hf => by have := HFt.out _ hf; omega)⟩
          have HOn : Aside0 (Only (Foot (hd :: lo)) W5 (wr.setCell ⟨(lastAt i hd lo).q, i, none⟩ (ptr (some (qn + 1))))) := ⟨Only.setCell (S := Foot (hd :: lo)) HO.out (p := ⟨(lastAt i hd lo).q, i, none⟩) (Or.inl ⟨_, lastAt_mem i lo hd, Or.inr rfl⟩) _⟩
          have HLn : Aside0 (Links (wr.setCell ⟨(lastAt i hd lo).q, i, none⟩ (ptr (some (qn + 1)))) (hd :: lo) (fun l => if l < i + 1 then some (qn + 1) else fst? l hi (fun _ => none))) := ⟨by
            have e : (fun l => if l = i then some (qn + 1) else if l < i then some (qn + 1) else fst? l hi (fun _ => none)) = (fun l => if l < i + 1 then some (qn + 1) else fst? l hi (fun _ => none)) := by
              funext l
              by_cases h1 : l = i
              · rw [if_pos h1, if_pos (by omega)]
              · rw [if_neg h1]
                by_cases h2 : l < i
                · rw [if_pos h2, if_pos (by omega)]
                · rw [if_neg h2, if_neg (by omega)]
            rw [← e]
            exact hst⟩
          clear hst
          generalize lastAt i hd lo = x at *
          have hx2 := hxn.cell 2 _ rfl
          have HSt := Aside0.mk (pstore x.q i (some (qn + 1)) _ _ hxc hxf HIn)
          have i1 : (i : Int) < 16 := by omega
          have i3 : (i : Int) < (x.h : Int) := by omega
          clear hxn hxh hxc hxf HIn
          simp only [ptr] at hac
          go_wp2_with fail
          refine HSt.out.mono ?_
          rintro e w6 ⟨rfl, hw6⟩
          rw [hw6] at HLn HOn
          clear hw6 HL HO HSt hac hx2
          go_wp2
          go_roundw
          case rel => exact ⟨i + 1, by omega, by go_num, HLn, HOn⟩
          case measure => simp [intOf]; omega
        · obtain rfl : i = j := by omega
          have hgf : ¬ Foot (hd :: lo) g := fun ⟨x, hx, e⟩ => Hsr.out.gN g ⟨x, by
            rcases List.mem_cons.1 hx with rfl | hx
            · exact List.mem_cons_self
            · exact List.mem_cons_of_mem _ (List.mem_append_left _ hx), e⟩ rfl
          have hrow := HO.out.blk Hsr.out.row hgf
          have hlen : wrap64 (((lo ++ hi).length : Int) + 1) = ((lo ++ (⟨qn + 1, qn, key, v, i⟩ : Nd) :: hi).length : Int) := by
            have := HLen.out
            rw [List.length_append] at this ⊢
            rw [List.length_append, List.length_cons]
            unfold wrap64
            omega
          have HAd := Aside0.mk (i64Add g 4 _ 1 _ (hrow.cell 4 _ rfl) (hrow.free 4))
          rw [hlen] at HAd
          have HRow := Aside0.mk hrow
          have HNn : Aside0 (∀ k, Foot (hd :: lo) k → ¬ k = g) := ⟨fun k hk e => hgf (e ▸ hk)⟩
          clear hrow hgf hlen
          go_wp2_with fail
          refine HAd.out.mono ?_
          rintro e w7 ⟨rfl, hw7⟩
          have HEnd : Aside0 (Lv w w7 g st hd (lo ++ hi) (lo ++ (⟨qn + 1, qn, key, v, i⟩ : Nd) :: hi)) := ⟨by
            have hfg : ∀ l : List Nd, (∀ x ∈ l, x ∈ hd :: (lo ++ hi)) → ∀ k, Foot l k → ¬ k = g := fun l hl k ⟨x, hx, e⟩ => Hsr.out.gN k ⟨x, hl x hx, e⟩
            have hgl := HLt.out g (Or.inl rfl)
            have hsplit := Hsr.out.lnk
            rw [← List.cons_append, Links.split] at hsplit
            have hnf : ∀ k, Foot hi k → ¬ Foot (hd :: lo) k := by
              -- the parts share no block
              rintro k ⟨x, hx, ex⟩ ⟨y, hy, ey⟩
              have np := Hsr.out.np
              have nq := Hsr.out.nq
              rw [← List.cons_append, List.map_append, List.nodup_append] at np nq
              have hx2 : x ∈ hd :: (lo ++ hi) := List.mem_cons_of_mem _ (List.mem_append_right _ hx)
              have hy2 : y ∈ hd :: (lo ++ hi) := by
                rcases List.mem_cons.1 hy with rfl | hy
                · exact List.mem_cons_self
                · exact List.mem_cons_of_mem _ (List.mem_append_left _ hy)
              rcases ex with rfl | rfl <;> rcases ey with e | e
              · exact np.2.2 y.p (List.mem_map_of_mem hy) x.p (List.mem_map_of_mem hx) e.symm
              · exact Hsr.out.lnk.pq hx2 hy2 e
              · exact Hsr.out.lnk.pq hy2 hx2 e.symm
              · exact nq.2.2 y.q (List.mem_map_of_mem hy) x.q (List.mem_map_of_mem hx) e.symm
            refine ⟨Hsr.out.insert (⟨qn + 1, qn, key, v, i⟩ : Nd) ?_ ?_ ?_ ?_ ?_ h1 h16 (fun k hk => ?_) HLo.out HHi.out HM.out, ?_, fun k hk => ?_⟩
            · rw [← hw7]
              exact HRow.out.put 4 _
            · rw [← hw7]
              exact HL.out.other HNn.out
            · rw [← hw7]
              exact (HO.out.blk HNr.out (fun hf => by have := HFt.out _ hf; omega)).far (a := ⟨g, 4, none⟩) (by simp only; omega) _
            · rw [← hw7]
              have := (HO.out.blk HQ.out (fun hf => by have := HFt.out _ hf; omega)).far (a := ⟨g, 4, none⟩) (by simp only; omega) (.int .i64 ((lo ++ (⟨qn + 1, qn, key, v, i⟩ : Nd) :: hi).length : Int))
              rw [midC_end] at this
              exact this
            · rw [← hw7]
              exact (hsplit.2.only HO.out hi hnf).other (hfg hi (fun x hx => List.mem_cons_of_mem _ (List.mem_append_right _ hx)))
            · have := HLt.out k (Or.inr hk)
              exact ⟨by simp only; omega, by simp only; omega⟩
            · rw [← hw7]
              have o1 : Only (Fp g hd (lo ++ hi)) w W5 := Only.ofBelow HB6.out
              have o2 : Only (Fp g hd (lo ++ hi)) W5 wr := HO.out.mono (fun k ⟨x, hx, e⟩ => Or.inr ⟨x, by
                rcases List.mem_cons.1 hx with rfl | hx
                · exact List.mem_cons_self
                · exact List.mem_cons_of_mem _ (List.mem_append_left _ hx), e⟩)
              exact Only.setCell (S := Fp g hd (lo ++ hi)) (o1.trans o2) (p := ⟨g, 4, none⟩) (Or.inl (Or.inl rfl)) _
            · have := HwL.out
              rcases Fp.insert hk with h | h | h
              · exact Or.inl h
              · exact Or.inr (by rw [h]; simp only; omega)
              · exact Or.inr (by rw [h]; simp only; omega)⟩
          clear hw7 HL HO HAd HRow HNn
          go_wp2
          go_ret2
          exact ⟨_, rfl, rfl, rfl, rfl, HEnd.out⟩
end Go.Proofs.YtnpjppnahfehnaaDoor.Skip
