/- Layer 12's list: before. -/
import Derived.Test.YtnpjppnahfehnaaDoorSkipB
import Derived.Deep.CutBlock
import Derived.Outline
import Derived.Deep.DeepCutAuto
namespace Go.Proofs.YtnpjppnahfehnaaDoor.Skip
set_option linter.unusedVariables false
set_option linter.unusedSimpArgs false
open Go.RowKit Go.Proofs.YtnpjppnahfehnaaDoorW.PrintWords Go.Proofs.YtnpjppnahfehnaaDoor.Kit Go.MuLone

abbrev TA : TypeId := 58
abbrev ltB (a b : ByteArray) : Bool := Op.bytesLess a.toList b.toList
theorem zeroA (W : World) : (zeroValue TA).run Tryd.prog W = .ok (.agg (List.replicate 16 (.pointer none)).toArray) W := by kernel_rfl
/-- The array out, its levels from c on set. -/
def outC (hd : Nd) (lo : List Nd) (c : Nat) : List Value := (List.range 16).map (fun l => if c ≤ l then ptr (some (lastAt l hd lo).p) else .pointer none)
def outV (hd : Nd) (lo : List Nd) : Value := .agg (outC hd lo 0).toArray
theorem outC_len (hd : Nd) (lo : List Nd) (c : Nat) : (outC hd lo c).length = 16 := by unfold outC; simp
theorem outC_at (hd : Nd) (lo : List Nd) (c i : Nat) (hi : i < 16) : (outC hd lo c)[i]? = some (if c ≤ i then ptr (some (lastAt i hd lo).p) else .pointer none) := by
  unfold outC
  rw [List.getElem?_map, List.getElem?_range hi]
  rfl
theorem outC_start (hd : Nd) (lo : List Nd) : outC hd lo 16 = List.replicate 16 (.pointer none) := by
  apply List.ext_getElem?
  intro i
  by_cases hi : i < 16
  · rw [outC_at hd lo 16 i hi, if_neg (by omega), List.getElem?_replicate, if_pos hi]
  · rw [List.getElem?_eq_none (by rw [outC_len]; omega), List.getElem?_eq_none (by rw [List.length_replicate]; omega)]
theorem outC_set (hd : Nd) (lo : List Nd) (c : Nat) (hc : c < 16) : (outC hd lo (c + 1)).set c (ptr (some (lastAt c hd lo).p)) = outC hd lo c := by
  apply List.ext_getElem?
  intro i
  rw [List.getElem?_set, outC_len]
  by_cases e : c = i
  · subst e
    rw [if_pos rfl, if_pos hc, outC_at hd lo c c hc, if_pos (Nat.le_refl _)]
  · rw [if_neg e]
    by_cases hi : i < 16
    · rw [outC_at hd lo _ i hi, outC_at hd lo _ i hi]
      by_cases e2 : c + 1 ≤ i
      · rw [if_pos e2, if_pos (by omega)]
      · rw [if_neg e2, if_neg (by omega)]
    · rw [List.getElem?_eq_none (by rw [outC_len]; omega), List.getElem?_eq_none (by rw [outC_len]; omega)]
theorem outC_get (hd : Nd) (lo : List Nd) (i : Nat) (hi : i < 16) : (outC hd lo 0)[i]? = some (ptr (some (lastAt i hd lo).p)) := by
  rw [outC_at hd lo 0 i hi, if_pos (Nat.zero_le _)]

/-- What a walk down the levels knows: below level c it stands at x, b is between x and the key. -/
structure Pos (w : World) (hd : Nd) (lo hi : List Nd) (c : Nat) (x : Nd) (b : List Nd) : Prop where
  lnk : Links w (x :: (b ++ hi)) (fun _ => none)
  ht : c ≤ x.h
  last : ∀ i, i < c → lastAt i x b = lastAt i hd lo
  sub : ∀ y ∈ b, y ∈ lo
theorem Pos.node {w : World} {hd : Nd} {lo hi : List Nd} {c : Nat} {x : Nd} {b : List Nd} (h : Pos w hd lo hi c x b) : NodeB w x := h.lnk.1
theorem Links.isN {w : World} {l : List Nd} {f : Nat → Option Nat} (h : Links w l f) (i : Nat) (hf : IsN w (f i)) : IsN w (fst? i l f) := by
  induction l with
  | nil => exact hf
  | cons x t ih =>
    rw [fst?]
    split
    · intro p hp
      injection hp with hp
      subst hp
      exact ⟨_, _, _, h.1⟩
    · exact ih h.2.2
theorem IsN.nil (w : World) : IsN w none := fun p hp => by cases hp
/-- What stands in x's row on a level. -/
theorem Pos.cell {w : World} {hd : Nd} {lo hi : List Nd} {c : Nat} {x : Nd} {b : List Nd} (h : Pos w hd lo hi c x b) (i : Nat) (hi' : i < c) :
    w.cell? ⟨x.q, i, none⟩ = some (ptr (fst? i (b ++ hi) (fun _ => none))) ∧ IsN w (fst? i (b ++ hi) (fun _ => none)) := by
  have := h.ht
  exact ⟨h.lnk.2.1.cell i _ (by rw [List.getElem?_map, List.getElem?_range (by omega)]; rfl), h.lnk.2.2.isN i (IsN.nil w)⟩
theorem Pos.step {w : World} {hd : Nd} {lo hi : List Nd} {c : Nat} {x : Nd} {b1 b2 : List Nd} {y : Nd} (h : Pos w hd lo hi c x (b1 ++ y :: b2)) (hc : c ≤ y.h) : Pos w hd lo hi c y b2 where
  lnk := by
    have := h.lnk.2.2
    rw [List.append_assoc, Links.split] at this
    exact this.2
  ht := hc
  last := fun i hi => by
    rw [← h.last i hi]
    exact (lastAt_app i b1 b2 y (by omega) x).symm
  sub := fun z hz => h.sub z (List.mem_append_right _ (List.mem_cons_of_mem _ hz))
theorem Pos.down {w : World} {hd : Nd} {lo hi : List Nd} {c : Nat} {x : Nd} {b : List Nd} (h : Pos w hd lo hi (c + 1) x b) (hb : ∀ y ∈ b, ¬ c < y.h) : Pos w hd lo hi c x b ∧ lastAt c hd lo = x := by
  have hh := h.ht
  exact ⟨⟨h.lnk, by omega, fun i hi => h.last i (by omega), h.sub⟩, by rw [← h.last c (by omega)]; exact lastAt_none c b x hb⟩
theorem Pos.below {w w' : World} {hd : Nd} {lo hi : List Nd} {c : Nat} {x : Nd} {b : List Nd} (h : Pos w hd lo hi c x b) (hb : Below w.heap.size w w') : Pos w' hd lo hi c x b :=
  ⟨h.lnk.below hb, h.ht, h.last, h.sub⟩
theorem Pos.only {w w' : World} {S : Nat → Prop} {hd : Nd} {lo hi : List Nd} {c : Nat} {x : Nd} {b : List Nd} (h : Pos w hd lo hi c x b) (ho : Only S w w') (hS : ∀ i, Foot (x :: (b ++ hi)) i → ¬ S i) : Pos w' hd lo hi c x b :=
  ⟨h.lnk.only ho _ hS, h.ht, h.last, h.sub⟩

theorem Blk.uniq {w : World} {b : Nat} {cs cs' : List Value} {t t' : TypeId} (h : Blk w b cs t) (h' : Blk w b cs' t') : t = t' := by
  have e := h.out.symm.trans h'.out
  simp only [Option.some.injEq, Obj.cells.injEq] at e
  exact e.2.1
/-- A block of another type is none of theirs. -/
theorem Links.off {w : World} {l : List Nd} {f : Nat → Option Nat} (h : Links w l f) {g : Nat} {cs : List Value} {t : TypeId} (hb : Blk w g cs t) (h1 : t ≠ TN) (h2 : t ≠ TP) : ∀ i, Foot l i → ¬ i = g := by
  rintro i hi rfl
  obtain ⟨cs', t', hb', ht⟩ := h.typed hi
  have := Blk.uniq hb hb'
  rcases ht with rfl | rfl
  · exact h1 this
  · exact h2 this
theorem Pos.far {w : World} {hd : Nd} {lo hi : List Nd} {c : Nat} {x : Nd} {b : List Nd} (h : Pos w hd lo hi c x b) {g : Nat} {cs : List Value} {t : TypeId} (hb : Blk w g cs t) (h1 : t ≠ TN) (h2 : t ≠ TP) (o : Nat) (v : Value) : Pos (w.setCell ⟨g, o, none⟩ v) hd lo hi c x b :=
  h.only (S := fun i => i = g) (Only.setCell (S := fun i => i = g) (Only.refl _ w) (p := ⟨g, o, none⟩) (Or.inl rfl) _) (h.lnk.off hb h1 h2)

set_option maxRecDepth 100000 in
set_option maxHeartbeats 4000000 in
theorem beforeCalls (g : Nat) (hd : Nd) (lo hi : List Nd) (key : ByteArray) (w : World) (hc : w.cell? ⟨g, 3, none⟩ = some (.pointer (some ⟨hd.p, 0, none⟩))) (hl : Links w (hd :: (lo ++ hi)) (fun _ => none)) (hh : hd.h = 16)
    (hlo : ∀ x ∈ lo, ltB x.k key = true) (hhi : ∀ x ∈ hi, ltB x.k key = false) :
    Calls Tryd.prog 16 #[.pointer (some ⟨g, 0, none⟩), .string key] w fun e w' => e = .returned (outV hd lo) ∧ Below w.heap.size w w' := by
  have HLt := Aside0.mk hl
  have hz := zeroA
  have HZ := Aside0.mk (outC_start hd lo)
  have HLo := Aside0.mk hlo
  have HHi := Aside0.mk hhi
  have HP0 : Aside0 (Pos w hd lo hi 16 hd lo) := ⟨⟨hl, by omega, fun _ _ => rfl, fun _ h => h⟩⟩
  have HF0 : Aside0 (∀ i, Foot (hd :: (lo ++ hi)) i → i < w.heap.size) := ⟨fun i => hl.lt⟩
  clear hl hlo hhi hh
  have hne : ¬ (List.replicate 16 (Value.pointer none)).toArray = #[] := by simp
  have hsz : (List.replicate 16 (Value.pointer none)).toArray.size = 16 := by simp
  obtain ⟨Z, hZ⟩ : ∃ Z, Z = (List.replicate 16 (Value.pointer none)).toArray := ⟨_, rfl⟩
  have HZ2 : Aside0 (Z.toList = outC hd lo 16) := ⟨by rw [hZ, HZ.out]⟩
  rw [← hZ] at hne hsz
  simp only [← hZ] at hz
  clear hZ HZ
  go_enter Tryd.func16, Tryd.ntmps16
  go_upto_region 2 with (fail)
  have hgl : g < w.heap.size := World.block_lt_of_cell? w _ hc
  obtain ⟨W, hW⟩ : ∃ W, W = (w.alloc (.cells Z TA)).alloc (.cells Z TA) := ⟨_, rfl⟩
  have hb0 : Below w.heap.size w W := by rw [hW]; exact ((Below.refl _ _).alloc (Nat.le_refl _) _).alloc (by simp) _
  have HB : Aside0 (Below w.heap.size w W) := ⟨hb0⟩
  have HX : Aside0 (Blk W w.heap.size (outC hd lo 16) TA) := ⟨by rw [hW, ← HZ2.out]; exact (Blk.newA w _ _).alloc _⟩
  have HY : Aside0 (Blk W (w.heap.size + 1) (outC hd lo 16) TA) := ⟨by rw [hW, ← HZ2.out]; have := Blk.newA (w.alloc (.cells Z TA)) Z TA; simpa using this⟩
  have HP := Aside0.mk (HP0.out.below hb0)
  have hcW : W.cell? ⟨g, 3, none⟩ = some (.pointer (some ⟨hd.p, 0, none⟩)) := pw_cell_below hb0 hc
  rw [← hW]
  clear hW hb0 hc HZ2 HP0 hz hne hsz HLt
  go_wp2_with fail
  clear hcW
  go_loopw [6, 7] (fun a i wr => ∃ (c : Nat) (x : Nd) (b : List Nd), c ≤ 16 ∧ a = .pointer (some ⟨x.p, 0, none⟩) ∧ i = .int .i64 ((c : Int) - 1) ∧ Aside0 (Pos wr hd lo hi c x b) ∧ Aside0 (Blk wr w.heap.size (outC hd lo 16) TA) ∧ Aside0 (Blk wr (w.heap.size + 1) (outC hd lo c) TA) ∧ Aside0 (Below w.heap.size w wr)) (fun _ i _ => (intOf i + 1).toNat)
  case atStart => exact ⟨16, hd, lo, Nat.le_refl _, rfl, rfl, HP, HX, HY, HB⟩
  case round =>
    clear HP HX HY HB
    obtain ⟨c, x, b, hcl, rfl, rfl, HP, HX, HY, HB⟩ := hrel
    cases c with
    | zero =>
      have hsz : (outC hd lo 0).toArray.size = 16 := by simp [outC_len]
      have HS : Aside0 ((outC hd lo 16).toArray.size = (outC hd lo 0).toArray.size) := ⟨by simp [outC_len]⟩
      have HI : Aside0 ((Tryd.prog.info? TA).map (·.size) = some (outC hd lo 0).toArray.size) := ⟨by rw [hsz]; kernel_rfl⟩
      have H1 : Aside0 ((outC hd lo 0).toArray.all (·.oneCell') = true) := ⟨by
        rw [Array.all_eq_true_iff_forall_mem]
        intro v hv
        simp only [List.mem_toArray, outC, List.mem_map] at hv
        obtain ⟨l, _, rfl⟩ := hv
        split <;> rfl⟩
      clear hsz HF0
      go_wp2_with (first
        | (with_reducible refine wpList_load_row rfl TA (.tmp 5) rfl (w.heap.size + 1) rfl TA (outC hd lo 0).toArray (0, 0) _ HY.out.out Tryd.underlying58 rfl HI.out ?_)
        | (with_reducible refine wpList_store_row rfl TA (.tmp 4) (.tmp 38) rfl w.heap.size (outC hd lo 0).toArray rfl rfl TA (outC hd lo 16).toArray HX.out.out HI.out HS.out H1.out ?_))
      have hbb : Below w.heap.size w (wr.setRow w.heap.size (outC hd lo 0).toArray) := ⟨HB.out.os, HB.out.tape, HB.out.output, by rw [setRow_size]; exact HB.out.size, fun k hk => by rw [setRow_other _ _ _ _ (by omega)]; exact HB.out.block k hk⟩
      exact bodyPost_ret (v := outV hd lo) (results_cell_row rfl _ _ _ TA _ (0, 0) _ rfl (setRow_heap _ _ _ _ _ _ HX.out.out) Tryd.underlying58 rfl HI.out) rfl ⟨rfl, hbb⟩
    | succ c =>
      have e0 : ((c + 1 : Nat) : Int) - 1 = (c : Int) := by omega
      rw [e0]
      clear e0
      go_wp2_with fail
      go_loopg [6] b.length (fun n a wz => ∃ (x : Nd) (b : List Nd), n = b.length ∧ a = .pointer (some ⟨x.p, 0, none⟩) ∧ Aside0 (Pos wr hd lo hi (c + 1) x b) ∧ wz = wr)
      case atStart => exact ⟨x, b, rfl, rfl, HP, rfl⟩
      case round =>
        clear HP
        obtain ⟨y, b', rfl, rfl, HP, rfl⟩ := hrel
        have hnode := HP.out.node
        have hn2 := hnode.cell 2 _ rfl
        obtain ⟨hq, hisn⟩ := HP.out.cell c (Nat.lt_succ_self c)
        have hyh := HP.out.ht
        have hlt : (c : Int) < (y.h : Int) := by omega
        rcases first_in c b' with hno | ⟨b1, y2, b2, rfl, hc2, hn1⟩
        · have HD := Aside0.mk (HP.out.down hno)
          have hend : ∃ q : Option Nat, fst? c (b' ++ hi) (fun _ => none) = q ∧ (q = none ∨ ∃ z, z ∈ hi ∧ q = some z.p) := by
            rw [fst_app, fst_none c b' _ hno]
            rcases first_in c hi with h3 | ⟨h1, z, h2, rfl, hz1, hz2⟩
            · exact ⟨none, fst_none c hi _ h3, Or.inl rfl⟩
            · exact ⟨some z.p, fst_hit c h1 h2 z _ hz2 hz1, Or.inr ⟨z, List.mem_append_right _ List.mem_cons_self, rfl⟩⟩
          obtain ⟨q, hqe, hq3⟩ := hend
          rw [hqe] at hq hisn
          have HNd := Aside0.mk (fun z (hz : z ∈ hi) => (show NodeB _ z from HP.out.lnk.2.2.node (List.mem_append_right _ hz)))
          clear hqe hno hyh HP
          have hfy := HY.out.free c
          have hcy := HY.out.cell c _ (outC_at hd lo (c + 1) c (by omega))
          rw [if_neg (by omega)] at hcy
          have hc16 : (c : Int) < 16 := by omega
          rcases hq3 with rfl | ⟨z, hz, rfl⟩
          · have HL := Aside0.mk (pload y.q c _ _ hq hisn)
            clear hq hisn
            go_wp2_with fail
            refine HL.out.mono ?_
            rintro e w' ⟨rfl, rfl⟩
            clear HL
            simp only [ptr]
            have HPn := Aside0.mk (HD.out.1.far HY.out (by decide) (by decide) c (.pointer (some ⟨y.p, 0, none⟩)))
            have HXn := Aside0.mk (HX.out.far (a := ⟨w.heap.size + 1, c, none⟩) (by simp) (.pointer (some ⟨y.p, 0, none⟩)))
            have HYn := Aside0.mk (HY.out.put c (.pointer (some ⟨y.p, 0, none⟩)))
            have HBn := Aside0.mk (HB.out.setCell (p := ⟨w.heap.size + 1, c, none⟩) (by simp) (.pointer (some ⟨y.p, 0, none⟩)))
            have HE : Aside0 ((outC hd lo (c + 1)).set c (.pointer (some ⟨y.p, 0, none⟩)) = outC hd lo c) := ⟨by
              have := outC_set hd lo c (by omega)
              rw [HD.out.2] at this
              exact this⟩
            rw [HE.out] at HYn
            clear HX HY HB HE
            go_wp2
            go_roundw
            case rel => exact ⟨c, y, b', by omega, rfl, rfl, HPn, HXn, HYn, HBn⟩
            case measure => simp [intOf]
          · have HL := Aside0.mk (pload y.q c _ _ hq hisn)
            have hzn := (HNd.out z hz).cell 0 _ rfl
            have hzk : Op.bytesLess z.k.toList key.toList = false := HHi.out z hz
            clear hq hisn hz
            go_wp2_with fail
            refine HL.out.mono ?_
            rintro e w' ⟨rfl, rfl⟩
            clear HL
            simp only [ptr]
            have HPn := Aside0.mk (HD.out.1.far HY.out (by decide) (by decide) c (.pointer (some ⟨y.p, 0, none⟩)))
            have HXn := Aside0.mk (HX.out.far (a := ⟨w.heap.size + 1, c, none⟩) (by simp) (.pointer (some ⟨y.p, 0, none⟩)))
            have HYn := Aside0.mk (HY.out.put c (.pointer (some ⟨y.p, 0, none⟩)))
            have HBn := Aside0.mk (HB.out.setCell (p := ⟨w.heap.size + 1, c, none⟩) (by simp) (.pointer (some ⟨y.p, 0, none⟩)))
            have HE : Aside0 ((outC hd lo (c + 1)).set c (.pointer (some ⟨y.p, 0, none⟩)) = outC hd lo c) := ⟨by
              have := outC_set hd lo c (by omega)
              rw [HD.out.2] at this
              exact this⟩
            rw [HE.out] at HYn
            clear HX HY HB HE
            go_wp2
            go_roundw
            case rel => exact ⟨c, y, b', by omega, rfl, rfl, HPn, HXn, HYn, HBn⟩
            case measure => simp [intOf]
        · rw [List.append_assoc, List.cons_append, fst_hit c b1 (b2 ++ hi) y2 _ hn1 hc2] at hq hisn
          have HL := Aside0.mk (pload y.q c _ _ hq hisn)
          have HP2 := Aside0.mk (HP.out.step (y := y2) (by omega))
          have hzn := HP2.out.node.cell 0 _ rfl
          have hzk : Op.bytesLess y2.k.toList key.toList = true := HLo.out y2 (HP.out.sub y2 (List.mem_append_right _ List.mem_cons_self))
          clear hq hisn HP hyh hn1
          go_wp2_with fail
          refine HL.out.mono ?_
          rintro e w' ⟨rfl, rfl⟩
          clear HL
          simp only [ptr]
          go_wp2
          go_roundg b2.length
          case measure => simp; omega
          case rel => exact ⟨y2, b2, rfl, rfl, HP2, rfl⟩
end Go.Proofs.YtnpjppnahfehnaaDoor.Skip
