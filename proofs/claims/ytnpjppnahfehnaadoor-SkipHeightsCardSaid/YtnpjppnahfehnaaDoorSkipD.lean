/- Layer 12's list: the order of keys; the list's parts below and from a key on; find. -/
import Derived.Test.YtnpjppnahfehnaaDoorSkipC
namespace Go.Proofs.YtnpjppnahfehnaaDoor.Skip
set_option linter.unusedVariables false
set_option linter.unusedSimpArgs false
open Go.RowKit Go.Proofs.YtnpjppnahfehnaaDoorW.PrintWords Go.Proofs.YtnpjppnahfehnaaDoor.Kit Go.MuLone

/-! the order of keys -/
theorem bl_cons (a b : UInt8) (x y : List UInt8) : Op.bytesLess (a :: x) (b :: y) = (decide (a < b) || (a == b && Op.bytesLess x y)) := by rw [Op.bytesLess]
theorem bl_nil (x : List UInt8) : Op.bytesLess x [] = false := by cases x <;> rfl
theorem bl_irrefl : ∀ x : List UInt8, Op.bytesLess x x = false
  | [] => rfl
  | a :: x => by rw [bl_cons, bl_irrefl x]; simp
theorem bl_trans : ∀ x y z : List UInt8, Op.bytesLess x y = true → Op.bytesLess y z = true → Op.bytesLess x z = true
  | _, [], _, h, _ => by rw [bl_nil] at h; cases h
  | _, _ :: _, [], _, h => by rw [bl_nil] at h; cases h
  | [], _ :: _, _ :: _, _, _ => rfl
  | a :: x, b :: y, c :: z, h1, h2 => by
    rw [bl_cons, Bool.or_eq_true, Bool.and_eq_true, decide_eq_true_iff, beq_iff_eq] at h1 h2 ⊢
    rcases h1 with h1 | ⟨rfl, h1⟩
    · rcases h2 with h2 | ⟨rfl, h2⟩
      · exact Or.inl (UInt8.lt_trans h1 h2)
      · exact Or.inl h1
    · rcases h2 with h2 | ⟨rfl, h2⟩
      · exact Or.inl h2
      · exact Or.inr ⟨rfl, bl_trans x y z h1 h2⟩
theorem bl_total : ∀ x y : List UInt8, Op.bytesLess x y = true ∨ x = y ∨ Op.bytesLess y x = true
  | [], [] => Or.inr (Or.inl rfl)
  | [], _ :: _ => Or.inl rfl
  | _ :: _, [] => Or.inr (Or.inr rfl)
  | a :: x, b :: y => by
    rw [bl_cons, bl_cons, Bool.or_eq_true, Bool.and_eq_true, decide_eq_true_iff, beq_iff_eq, Bool.or_eq_true, Bool.and_eq_true, decide_eq_true_iff, beq_iff_eq]
    by_cases h1 : a < b
    · exact Or.inl (Or.inl h1)
    · by_cases h2 : b < a
      · exact Or.inr (Or.inr (Or.inl h2))
      · obtain rfl : a = b := by
          rw [UInt8.lt_iff_toNat_lt] at h1 h2
          exact UInt8.toNat_inj.1 (by omega)
        rcases bl_total x y with h | rfl | h
        · exact Or.inl (Or.inr ⟨rfl, h⟩)
        · exact Or.inr (Or.inl rfl)
        · exact Or.inr (Or.inr (Or.inr ⟨rfl, h⟩))
theorem key_inj {a b : ByteArray} (h : a.toList = b.toList) : a = b := by
  rw [ByteArray.toList_eq, ByteArray.toList_eq] at h
  cases a; cases b
  simp at h
  rw [h]
theorem lt_irrefl (a : ByteArray) : ltB a a = false := bl_irrefl _
theorem lt_trans {a b c : ByteArray} (h1 : ltB a b = true) (h2 : ltB b c = true) : ltB a c = true := bl_trans _ _ _ h1 h2
theorem lt_total (a b : ByteArray) : ltB a b = true ∨ a = b ∨ ltB b a = true := by
  rcases bl_total a.toList b.toList with h | h | h
  · exact Or.inl h
  · exact Or.inr (Or.inl (key_inj h))
  · exact Or.inr (Or.inr h)
theorem lt_asymm {a b : ByteArray} (h : ltB a b = true) : ltB b a = false := by
  cases h2 : ltB b a with
  | false => rfl
  | true => have := lt_trans h h2; rw [lt_irrefl] at this; cases this
theorem beq_key (a b : ByteArray) : (a.toList == b.toList) = decide (a = b) := by
  by_cases h : a = b
  · subst h; simp
  · rw [decide_eq_false h, beq_eq_false_iff_ne]
    exact fun e => h (key_inj e)

/-! a sorted list, parted at a key -/
def Sorted (ns : List Nd) : Prop := ns.Pairwise (fun a b => ltB a.k b.k = true)
theorem parts (key : ByteArray) (ns : List Nd) (h : Sorted ns) : ∃ lo hi, ns = lo ++ hi ∧ (∀ x ∈ lo, ltB x.k key = true) ∧ (∀ x ∈ hi, ltB x.k key = false) := by
  induction ns with
  | nil => exact ⟨[], [], rfl, fun x h => by simp at h, fun x h => by simp at h⟩
  | cons x t ih =>
    obtain ⟨h1, h2⟩ := List.pairwise_cons.1 h
    cases e : ltB x.k key with
    | true =>
      obtain ⟨lo, hi, rfl, a, b⟩ := ih h2
      refine ⟨x :: lo, hi, rfl, fun y hy => ?_, b⟩
      rcases List.mem_cons.1 hy with rfl | hy
      · exact e
      · exact a y hy
    | false =>
      refine ⟨[], x :: t, rfl, fun y hy => by simp at hy, fun y hy => ?_⟩
      rcases List.mem_cons.1 hy with rfl | hy
      · exact e
      · cases h3 : ltB y.k key with
        | false => rfl
        | true => have := lt_trans (h1 y hy) h3; rw [e] at this; cases this
/-- Whether the part from a key on begins with it. -/
def Hit (hi : List Nd) (key : ByteArray) : Prop := ∃ z t, hi = z :: t ∧ z.k = key
def Miss (hi : List Nd) (key : ByteArray) : Prop := ∀ z t, hi = z :: t → z.k ≠ key
theorem hit_or_miss (hi : List Nd) (key : ByteArray) : Hit hi key ∨ Miss hi key := by
  cases hi with
  | nil => exact Or.inr (fun z t h => by cases h)
  | cons z t =>
    by_cases e : z.k = key
    · exact Or.inl ⟨z, t, rfl, e⟩
    · exact Or.inr (fun z' t' h => by injection h with h1 h2; subst h1; exact e)

/-- The list in block g. -/
structure Sk (w : World) (g : Nat) (st : Int) (hd : Nd) (ns : List Nd) : Prop where
  row : Blk w g [.bool true, .int .i32 st, .int .u32 0, .pointer (some ⟨hd.p, 0, none⟩), .int .i64 ns.length] TL
  lnk : Links w (hd :: ns) (fun _ => none)
  hh : hd.h = 16
  hts : ∀ x ∈ ns, 1 ≤ x.h ∧ x.h ≤ 16
  srt : Sorted ns
  np : ((hd :: ns).map (·.p)).Nodup
  nq : ((hd :: ns).map (·.q)).Nodup
theorem Sk.below {w w' : World} {g : Nat} {st : Int} {hd : Nd} {ns : List Nd} (h : Sk w g st hd ns) (hb : Below w.heap.size w w') : Sk w' g st hd ns :=
  ⟨h.row.belowSize hb, h.lnk.below hb, h.hh, h.hts, h.srt, h.np, h.nq⟩
/-- The list's blocks. -/
def Fp (g : Nat) (hd : Nd) (ns : List Nd) (i : Nat) : Prop := i = g ∨ Foot (hd :: ns) i
theorem Sk.only {w w' : World} {S : Nat → Prop} {g : Nat} {st : Int} {hd : Nd} {ns : List Nd} (h : Sk w g st hd ns) (ho : Only S w w') (hS : ∀ i, Fp g hd ns i → ¬ S i) : Sk w' g st hd ns :=
  ⟨ho.blk h.row (hS _ (Or.inl rfl)), h.lnk.only ho _ (fun i hi => hS i (Or.inr hi)), h.hh, h.hts, h.srt, h.np, h.nq⟩
theorem Sk.c3 {w : World} {g : Nat} {st : Int} {hd : Nd} {ns : List Nd} (h : Sk w g st hd ns) : w.cell? ⟨g, 3, none⟩ = some (.pointer (some ⟨hd.p, 0, none⟩)) := h.row.cell 3 _ rfl
theorem Sk.lt {w : World} {g : Nat} {st : Int} {hd : Nd} {ns : List Nd} (h : Sk w g st hd ns) {i : Nat} (hi : Fp g hd ns i) : i < w.heap.size := by
  rcases hi with rfl | hi
  · exact h.row.lt
  · exact h.lnk.lt hi
theorem Sk.typed {w : World} {g : Nat} {st : Int} {hd : Nd} {ns : List Nd} (h : Sk w g st hd ns) {i : Nat} (hi : Fp g hd ns i) : ∃ cs t, Blk w i cs t ∧ (t = TL ∨ t = TN ∨ t = TP) := by
  rcases hi with rfl | hi
  · exact ⟨_, _, h.row, Or.inl rfl⟩
  · obtain ⟨cs, t, hb, ht⟩ := h.lnk.typed hi
    exact ⟨cs, t, hb, Or.inr ht⟩
theorem Sk.gN {w : World} {g : Nat} {st : Int} {hd : Nd} {ns : List Nd} (h : Sk w g st hd ns) : ∀ i, Foot (hd :: ns) i → ¬ i = g := h.lnk.off h.row (by decide) (by decide)
theorem Sk.before {w : World} {g : Nat} {st : Int} {hd : Nd} {lo hi : List Nd} (h : Sk w g st hd (lo ++ hi)) (key : ByteArray) (hlo : ∀ x ∈ lo, ltB x.k key = true) (hhi : ∀ x ∈ hi, ltB x.k key = false) :
    Calls Tryd.prog 16 #[.pointer (some ⟨g, 0, none⟩), .string key] w fun e w' => e = .returned (outV hd lo) ∧ Below w.heap.size w w' :=
  beforeCalls g hd lo hi key w h.c3 h.lnk h.hh hlo hhi
/-- Behind the last one below a key, on the lowest level. -/
theorem Sk.at0 {w : World} {g : Nat} {st : Int} {hd : Nd} {lo hi : List Nd} (h : Sk w g st hd (lo ++ hi)) (i : Nat) (hi16 : i < 16) :
    NodeB w (lastAt i hd lo) ∧ i < (lastAt i hd lo).h ∧ w.cell? ⟨(lastAt i hd lo).q, i, none⟩ = some (ptr (fst? i hi (fun _ => none))) ∧ w.frozen? ⟨(lastAt i hd lo).q, i, none⟩ = false ∧ IsN w (fst? i hi (fun _ => none)) := by
  have hl := h.lnk
  rw [← List.cons_append, Links.split] at hl
  obtain ⟨a, b, c, d⟩ := hl.1.last i (by rw [h.hh]; exact hi16)
  exact ⟨a, b, c, d, hl.2.isN i (IsN.nil w)⟩
theorem Sk.fst0 {w : World} {g : Nat} {st : Int} {hd : Nd} {lo hi : List Nd} (h : Sk w g st hd (lo ++ hi)) : fst? 0 hi (fun _ => none) = hi.head?.map (·.p) := by
  cases hi with
  | nil => rfl
  | cons z t =>
    have := (h.hts z (List.mem_append_right _ List.mem_cons_self)).1
    rw [fst?, if_pos (by omega)]
    rfl

theorem index0 (hd : Nd) (lo : List Nd) (W : World) : (Instr.index TA (outV hd lo) (.int .i64 0)).run Tryd.prog W = .ok (.pointer (some ⟨(lastAt 0 hd lo).p, 0, none⟩)) W := by
  have h := outC_get hd lo 0 (by decide)
  have h2 : (outC hd lo 0)[0]? = some (.pointer (some ⟨(lastAt 0 hd lo).p, 0, none⟩)) := h
  unfold Instr.index outV
  simp [asIntOf, Tryd.runUnderlying58, Tryd.sizeOf39, Tryd.isAgg39, part, h2]
set_option maxRecDepth 100000 in
set_option maxHeartbeats 1600000 in
theorem findMiss (g : Nat) (st : Int) (hd : Nd) (lo hi : List Nd) (key : ByteArray) (w : World) (h : Sk w g st hd (lo ++ hi)) (hlo : ∀ x ∈ lo, ltB x.k key = true) (hhi : ∀ x ∈ hi, ltB x.k key = false) (hm : Miss hi key) :
    Calls Tryd.prog 22 #[.pointer (some ⟨g, 0, none⟩), .string key] w fun e w' => e = .returned (.pointer none) ∧ Below w.heap.size w w' := by
  have HB := Aside0.mk (h.before key hlo hhi)
  have HM := Aside0.mk hm
  clear hm
  have H := Aside0.mk h
  have hix := index0 hd lo
  clear h hlo hhi
  go_enter Tryd.func22, Tryd.ntmps22
  go_wp2_with fail
  refine HB.out.mono ?_
  rintro e w1 ⟨rfl, hb⟩
  have HB1 := Aside0.mk hb
  have H1 := Aside0.mk (H.out.below hb)
  clear hb HB H
  obtain ⟨hn, hlt, hcell, _, hisn⟩ := H1.out.at0 0 (by decide)
  rw [H1.out.fst0] at hcell hisn
  generalize lastAt 0 hd lo = x at *
  have HL := Aside0.mk (pload x.q 0 _ _ hcell hisn)
  have hn2 := hn.cell 2 _ rfl
  have hlt2 : (0 : Int) < (x.h : Int) := by omega
  clear hcell hisn hn
  go_wp2_with fail
  refine HL.out.mono ?_
  rintro e w' ⟨rfl, rfl⟩
  clear HL hn2 hix
  cases hi with
  | nil =>
    simp only [List.head?_nil, Option.map_none, ptr]
    go_wp2
    go_ret
    exact ⟨rfl, HB1.out⟩
  | cons z t =>
    have hz := (H1.out.lnk.node (x := z) (List.mem_cons_of_mem _ (List.mem_append_right _ List.mem_cons_self))).cell 0 _ rfl
    have hk : (z.k.toList == key.toList) = false := by rw [beq_key]; exact decide_eq_false (HM.out z t rfl)
    simp only [List.head?_cons, Option.map_some, ptr]
    go_wp2
    go_ret
    exact ⟨rfl, HB1.out⟩
set_option maxRecDepth 100000 in
set_option maxHeartbeats 1600000 in
theorem findHit (g : Nat) (st : Int) (hd : Nd) (lo : List Nd) (key : ByteArray) (w : World) (z : Nd) (t : List Nd) (h : Sk w g st hd (lo ++ z :: t)) (hlo : ∀ x ∈ lo, ltB x.k key = true) (hhi : ∀ x ∈ z :: t, ltB x.k key = false) (hm : z.k = key) :
    Calls Tryd.prog 22 #[.pointer (some ⟨g, 0, none⟩), .string key] w fun e w' => e = .returned (.pointer (some ⟨z.p, 0, none⟩)) ∧ Below w.heap.size w w' := by
  have HB := Aside0.mk (h.before key hlo hhi)
  have hk : (z.k.toList == key.toList) = true := by rw [hm]; simp
  clear hm
  have H := Aside0.mk h
  have hix := index0 hd lo
  clear h hlo hhi
  go_enter Tryd.func22, Tryd.ntmps22
  go_wp2_with fail
  refine HB.out.mono ?_
  rintro e w1 ⟨rfl, hb⟩
  have HB1 := Aside0.mk hb
  have H1 := Aside0.mk (H.out.below hb)
  clear hb HB H
  obtain ⟨hn, hlt, hcell, _, hisn⟩ := H1.out.at0 0 (by decide)
  rw [H1.out.fst0] at hcell hisn
  generalize lastAt 0 hd lo = x at *
  have HL := Aside0.mk (pload x.q 0 _ _ hcell hisn)
  have hn2 := hn.cell 2 _ rfl
  have hlt2 : (0 : Int) < (x.h : Int) := by omega
  clear hcell hisn hn
  have hz := (H1.out.lnk.node (x := z) (List.mem_cons_of_mem _ (List.mem_append_right _ List.mem_cons_self))).cell 0 _ rfl
  go_wp2_with fail
  refine HL.out.mono ?_
  rintro e w' ⟨rfl, rfl⟩
  clear HL hn2 hix
  simp only [List.head?_cons, Option.map_some, ptr]
  go_wp2
  go_ret
  exact ⟨rfl, HB1.out⟩
end Go.Proofs.YtnpjppnahfehnaaDoor.Skip
