/- Layer 13: Take. -/
import Derived.Test.YtkgabeloofjohaaGapJ
import Derived.Deep.RegionHeld3
import Derived.Deep.DeepCutAuto
import Derived.Conc.MuLone
namespace Go.Proofs.Ytkgabeloofjohaa.Gap
set_option linter.unusedVariables false
set_option linter.unusedSimpArgs false
open Go.RowKit Go.Proofs.YtkgabeloofjohaaW.PrintWords Go.Proofs.Ytkgabeloofjohaa.Kit Go.MuLone

theorem Ga.lock {w : World} {g : Nat} {st : Int} {v : Value} {ts : List Tk} {last : Int} (h : Ga w g st v ts last) (st' : Int) : Ga (w.setCell ⟨g, 0, none⟩ (.int .i32 st')) g st' v ts last := by
  have ho : Only (fun i => i = g) w (w.setCell ⟨g, 0, none⟩ (.int .i32 st')) := Only.setCell (S := fun i => i = g) (Only.refl _ w) (p := ⟨g, 0, none⟩) (Or.inl rfl) _
  have hg : ∀ x ∈ ts, ∀ i, x.use i → ¬ i = g := fun x hx i hi => by
    have hX := h.tk x hx
    rcases hi with rfl | rfl | ⟨ad, ha, rfl⟩
    · exact ne_heap hX.blk.out h.gb.out (cells_ne (by decide))
    · exact (ne_heap h.gb.out hX.ch cells_chan).symm
    · obtain ⟨cs, hc⟩ := hX.hb ad ha
      exact ne_heap hc h.gb.out (cells_ne (by decide))
  refine ⟨h.gb.put 0 (.int .i32 st'), ho.R h.row (fun i _ hi => ?_), fun x hx => (h.tk x hx).only ho (hg x hx), h.ids, h.chs, h.rise, h.le, h.small⟩
  obtain ⟨inner, hO, _⟩ := h.row.2
  obtain ⟨cs, hc⟩ := own_typed hO i hi
  exact ne_heap hc h.gb.out (cells_ne (by decide))
theorem onlyG {a w : World} {g o : Nat} {u : Value} (h : Only (fun i => i = g) a w) : Only (fun i => i = g) a (w.setCell ⟨g, o, none⟩ u) := Only.setCell (S := fun i => i = g) h (p := ⟨g, o, none⟩) (Or.inl rfl) u
theorem lockOnly (w : World) (g : Nat) (v : Value) (ts : List Tk) (u : Value) : Only (use g v ts) w (w.setCell ⟨g, 0, none⟩ u) := Only.setCell (S := use g v ts) (Only.refl _ w) (p := ⟨g, 0, none⟩) (Or.inl (Or.inl rfl)) _

set_option maxRecDepth 100000 in
set_option maxHeartbeats 4000000 in
theorem takeFull (g : Nat) (v : Value) (A : Option Addr) (n c : Nat) (ts : List Tk) (last : Int) (w : World) (h : Ga w g 0 v ts last) (hf : 256 < n ∨ 256 ≤ ts.length) (hn : n ≤ 2932031007317) :
    Calls Try.prog 16 #[ptrV g, .slice A n c] w fun e w' => e = .returned (.tuple #[.int .u64 0, .int .i64 2]) ∧ Ga w' g 0 v ts last ∧ Only (use g v ts) w w' := by
  obtain ⟨A', c', rfl, _⟩ := h.slice
  have H := Aside0.mk h
  have HN := Aside0.mk hn
  have HS := Aside0.mk h.small
  clear h
  go_enter_defers Try.func16, Try.ntmps16
  go_wp2_with fail
  refine (lock_free muLib ⟨g, 0, none⟩ w H.out.cell0 (H.out.gb.free 0)).mono ?_
  rintro e w1 ⟨rfl, hw1⟩
  have H1 : Aside0 (Ga w1 g 1 _ ts last) := ⟨by rw [hw1]; exact H.out.lock 1⟩
  have HO1 : Aside0 (Only (use g (.slice A' ts.length c') ts) w w1) := ⟨by rw [hw1]; exact lockOnly w g _ ts _⟩
  clear hw1 H
  have c3 := H1.out.cell3
  by_cases h1 : 256 < n
  · have i1 : (256 : Int) < (n : Int) := by omega
    clear hf
    go_wp2_with fail
    clear c3
    refine leaves_cons (f := 21) (args := #[.pointer (some ⟨g, 0, none⟩)]) (by simp) (by simp [go_sem]) ?_
    refine (unlock_deferred muLib ⟨g, 0, none⟩ .returning _ H1.out.cell0 (H1.out.gb.free 0)).mono ?_
    rintro e u' w3 ⟨rfl, rfl, hw3⟩
    have H3 : Aside0 (Ga w3 g 0 _ ts last) := ⟨by rw [hw3]; exact H1.out.lock 0⟩
    have HO3 : Aside0 (Only (use g (.slice A' ts.length c') ts) w w3) := ⟨by rw [hw3]; exact HO1.out.trans (lockOnly w1 g _ ts _)⟩
    clear hw3 H1 HO1
    exact ⟨_, results_tmp2 rfl _ _ _, rfl, H3.out, HO3.out⟩
  · have i1 : ¬ (256 : Int) < (n : Int) := by omega
    have hl := HS.out
    have e1 : ts.length = 256 := by omega
    clear hf h1
    rw [e1] at c3
    go_wp2_with fail
    clear c3
    refine leaves_cons (f := 21) (args := #[.pointer (some ⟨g, 0, none⟩)]) (by simp) (by simp [go_sem]) ?_
    refine (unlock_deferred muLib ⟨g, 0, none⟩ .returning _ H1.out.cell0 (H1.out.gb.free 0)).mono ?_
    rintro e u' w3 ⟨rfl, rfl, hw3⟩
    have H3 : Aside0 (Ga w3 g 0 _ ts last) := ⟨by rw [hw3]; exact H1.out.lock 0⟩
    have HO3 : Aside0 (Only (use g (.slice A' ts.length c') ts) w w3) := ⟨by rw [hw3]; exact HO1.out.trans (lockOnly w1 g _ ts _)⟩
    clear hw3 H1 HO1
    exact ⟨_, results_tmp2 rfl _ _ _, rfl, H3.out, HO3.out⟩
theorem tk_of_R {w : World} {base : Nat} {ok : Nat → Prop} {v1 : Value} {xs : List Hd} (hR : kH.R TH w base ok v1 xs) :
    ∃ A c, v1 = .slice A xs.length c ∧ kH.C w A xs.length xs ∧ ∀ a, A = some a → (∃ cs, w.heap[a.block]? = some (.cells cs TH (0, 0))) ∧ base ≤ a.block := by
  obtain ⟨A, c, rfl, _, hC⟩ := Kd.R_reads hR
  obtain ⟨inner, ho, _⟩ := hR.2
  refine ⟨A, c, rfl, hC, fun a ha => ?_⟩
  subst ha
  have hb : (Value.slice (some a) xs.length c).ownBlock = some a.block := rfl
  exact ⟨own_typed ho a.block hb, own_base ho a.block hb⟩
/-- The new taker in memory, not in the row yet. -/
structure Mid (w1 w : World) (g : Nat) (v : Value) (last : Int) (k : Tk) : Prop where
  gb : Blk w g [.int .i32 1, .int .u32 0, .int .u64 last, v] TG
  tk : TkIs w k
  only : Only (fun i => i = g) w1 w
  new : ∀ i, k.use i → w1.heap.size ≤ i
theorem Mid.of {w1 w : World} {g kid kch : Nat} {v v1 : Value} {last : Int} {xs : List Hd} {ok : Nat → Prop} (hs : w1.heap.size ≤ kid) (hc : w1.heap.size ≤ kch) (hx : xs.length ≤ 256) (h0 : 0 ≤ last)
    (hg : Blk w g [.int .i32 1, .int .u32 0, .int .u64 last, v] TG) (hR : kH.R TH w w1.heap.size ok v1 xs) (hch : w.heap[kch]? = some (.chan 0 #[] false 0 0 false)) (hk : Blk w kid [.int .u64 last, v1, .bool false, .chan (some kch)] TT)
    (ho : Only (fun i => i = g) w1 w) : ∃ A c, Mid w1 w g v last ⟨kid, kch, A, c, last, xs, false⟩ := by
  obtain ⟨A, c, rfl, hC, hA⟩ := tk_of_R hR
  refine ⟨A, c, hg, ⟨hk, hch, hC, fun a ha => (hA a ha).1, hx, h0⟩, ho, ?_⟩
  rintro i (rfl | rfl | ⟨a, ha, rfl⟩)
  · exact hs
  · exact hc
  · exact (hA a ha).2
theorem Ga.gfree {w : World} {g : Nat} {st : Int} {v : Value} {ts : List Tk} {last : Int} (h : Ga w g st v ts last) {x : Tk} (hX : TkIs w x) : ∀ i, x.use i → ¬ i = g := fun i hi => by
  rcases hi with rfl | rfl | ⟨ad, ha, rfl⟩
  · exact ne_heap hX.blk.out h.gb.out (cells_ne (by decide))
  · exact (ne_heap h.gb.out hX.ch cells_chan).symm
  · obtain ⟨cs, hc⟩ := hX.hb ad ha
    exact ne_heap hc h.gb.out (cells_ne (by decide))
theorem row_free {w : World} {base : Nat} {ok : Nat → Prop} {v : Value} {ns : List Nat} (h : kP.R TP w base ok v ns) {x : Tk} (hX : TkIs w x) : ∀ i, x.use i → ¬ v.ownBlock = some i := fun i hi e => by
  obtain ⟨inner, ho, _⟩ := h.2
  obtain ⟨cs, hc⟩ := own_typed ho i e
  rcases hi with rfl | rfl | ⟨ad, ha, rfl⟩
  · exact ne_heap hX.blk.out hc (cells_ne (by decide)) rfl
  · exact ne_heap hc hX.ch cells_chan rfl
  · obtain ⟨cs', hc'⟩ := hX.hb ad ha
    exact ne_heap hc' hc (cells_ne (by decide)) rfl
theorem row_ne {w : World} {base : Nat} {ok : Nat → Prop} {v : Value} {ns : List Nat} {g : Nat} {cs : List Value} (h : kP.R TP w base ok v ns) (hg : Blk w g cs TG) : ∀ i, v.ownBlock = some i → ¬ i = g := fun i e => by
  obtain ⟨inner, ho, _⟩ := h.2
  obtain ⟨cs', hc⟩ := own_typed ho i e
  exact ne_heap hc hg.out (cells_ne (by decide))
theorem Mid.row {w1 V : World} {g : Nat} {v : Value} {ts : List Tk} {last l1 : Int} {k : Tk} (h1 : Ga w1 g 1 v ts last) (hm : Mid w1 V g v l1 k) : kP.R TP V 0 (fun i => v.ownBlock = some i) v (ts.map (·.id)) :=
  hm.only.R h1.row (fun i _ hi => row_ne h1.row h1.gb i hi)
theorem Mid.join {w1 V w2 : World} {g : Nat} {v v1 : Value} {ts : List Tk} {last : Int} {k : Tk} (h1 : Ga w1 g 1 v ts last) (hm : Mid w1 V g v (last + 1) k) (ht : k.t = last + 1) (hlen : ts.length < 256)
    (ho : kP.R TP w2 0 (fun _ => True) v1 (ts.map (·.id) ++ [k.id])) (hg : V.grownBy w2 v.ownBlock) (hat : v1.ownBlock = v.ownBlock ∨ ∃ b, v1.ownBlock = some b ∧ V.heap.size ≤ b) :
    Ga (w2.setCell ⟨g, 3, none⟩ v1) g 1 v1 (ts ++ [k]) (last + 1) ∧ Only (use g v ts) w1 (w2.setCell ⟨g, 3, none⟩ v1) ∧ (∀ i, use g v1 (ts ++ [k]) i → use g v ts i ∨ w1.heap.size ≤ i) ∧ Blk w2 g [.int .i32 1, .int .u32 0, .int .u64 (last + 1), v] TG := by
  have hrow := hm.row h1
  have hV2 : Only (fun i => v.ownBlock = some i) V w2 := ⟨hg.os, hg.tape, hg.output, hg.size, fun i hi hn => hg.block i hi (fun e => hn e.symm)⟩
  have hb2 : Blk w2 g [.int .i32 1, .int .u32 0, .int .u64 (last + 1), v] TG := hV2.blk hm.gb (fun e => row_ne hrow hm.gb g e rfl)
  have h23 : Only (fun i => i = g) w2 (w2.setCell ⟨g, 3, none⟩ v1) := onlyG (Only.refl _ w2)
  have tkV : ∀ x ∈ ts ++ [k], TkIs V x := fun x hx => by
    rw [List.mem_append, List.mem_singleton] at hx
    rcases hx with hx | rfl
    · exact (h1.tk x hx).only hm.only (h1.gfree (h1.tk x hx))
    · exact hm.tk
  have gfV : ∀ x ∈ ts ++ [k], ∀ i, x.use i → ¬ i = g := fun x hx i hi => by
    have hX := tkV x hx
    rcases hi with rfl | rfl | ⟨ad, ha, rfl⟩
    · exact ne_heap hX.blk.out hm.gb.out (cells_ne (by decide))
    · exact (ne_heap hm.gb.out hX.ch cells_chan).symm
    · obtain ⟨cs, hc⟩ := hX.hb ad ha
      exact ne_heap hc hm.gb.out (cells_ne (by decide))
  have tk2 : ∀ x ∈ ts ++ [k], TkIs w2 x := fun x hx => (tkV x hx).only hV2 (row_free hrow (tkV x hx))
  have tk3 : ∀ x ∈ ts ++ [k], TkIs (w2.setCell ⟨g, 3, none⟩ v1) x := fun x hx => (tk2 x hx).only h23 (gfV x hx)
  have old : ∀ x ∈ ts, x.id < w1.heap.size ∧ x.ch < w1.heap.size := fun x hx => ⟨(h1.tk x hx).blk.lt, lt_of_block (h1.tk x hx).ch⟩
  have knew := hm.new k.id (Or.inl rfl)
  have kcnew := hm.new k.ch (Or.inr (Or.inl rfl))
  refine ⟨⟨hb2.put 3 v1, ?_, tk3, ?_, ?_, ?_, ?_, ?_⟩, ?_, ?_, hb2⟩
  · rw [List.map_append]
    exact h23.R (kP_own ho) (fun i _ hi => row_ne ho hb2 i hi)
  · rw [List.map_append, List.nodup_append]
    refine ⟨h1.ids, by simp, fun a ha b hb => ?_⟩
    obtain ⟨x, hx, rfl⟩ := List.mem_map.1 ha
    simp at hb
    have := (old x hx).1
    omega
  · rw [List.map_append, List.nodup_append]
    refine ⟨h1.chs, by simp, fun a ha b hb => ?_⟩
    obtain ⟨x, hx, rfl⟩ := List.mem_map.1 ha
    simp at hb
    have := (old x hx).2
    omega
  · rw [List.pairwise_append]
    refine ⟨h1.rise, by simp, fun a ha b hb => ?_⟩
    rw [List.mem_singleton] at hb
    subst hb
    have := h1.le a ha
    omega
  · intro x hx
    rw [List.mem_append, List.mem_singleton] at hx
    rcases hx with hx | rfl
    · have := h1.le x hx
      omega
    · omega
  · simp
    omega
  · refine ((hm.only.mono (T := use g v ts) (fun i hi => Or.inl hi)).trans (hV2.mono (T := use g v ts) (fun i hi => Or.inr (Or.inl hi)))).trans (h23.mono (T := use g v ts) (fun i hi => Or.inl hi))
  · rintro i (rfl | e | ⟨x, hx, hu⟩)
    · exact Or.inl (Or.inl rfl)
    · rcases hat with hat | ⟨b, hb, hle⟩
      · exact Or.inl (Or.inr (Or.inl (by rw [← hat]; exact e)))
      · rw [hb] at e
        injection e with e
        subst e
        exact Or.inr (Nat.le_trans hm.only.size hle)
    · rw [List.mem_append, List.mem_singleton] at hx
      rcases hx with hx | rfl
      · exact Or.inl (Or.inr (Or.inr ⟨x, hx, hu⟩))
      · exact Or.inr (hm.new i hu)
theorem chan_drew {w : World} {c : Nat} {x : Obj} (h : w.heap[c]? = some x) : w.drew.heap[c]? = some x := h
theorem size_set (w : World) (a : Addr) (u : Value) : (w.setCell a u).heap.size = w.heap.size := by simp [World.setCell]
theorem chan_alloc {w : World} {c : Nat} {x : Obj} (h : w.heap[c]? = some x) (o : Obj) : (w.alloc o).heap[c]? = some x := (Below.heap_alloc w o c (lt_of_block h)).trans h
theorem chan_new (w : World) (o : Obj) : (w.alloc o).heap[w.heap.size]? = some o := heap_alloc_new w o

set_option maxRecDepth 100000 in
set_option maxHeartbeats 4000000 in
theorem takeOk (g : Nat) (v : Value) (A : Option Addr) (n c : Nat) (xs : List Hd) (ts : List Tk) (last : Int) (w : World) (h : Ga w g 0 v ts last) (hC : kH.C w A n xs) (hA : ∀ a, A = some a → ∃ cs, w.heap[a.block]? = some (.cells cs TH (0, 0))) (hn : n ≤ 256) (hl : ts.length < 256) (h0 : 0 ≤ last) (hm : last < 9223372036854775807) :
    Calls Try.prog 16 #[ptrV g, .slice A n c] w fun e w' => ∃ v' k, e = .returned (.tuple #[.int .u64 (last + 1), .int .i64 0]) ∧ Ga w' g 0 v' (regrant (ts ++ [k])) (last + 1) ∧ k.t = last + 1 ∧ k.hs = xs ∧ k.gr = false ∧ Only (use g v ts) w w' ∧ ∀ i, use g v' (ts ++ [k]) i → use g v ts i ∨ w.heap.size ≤ i := by
  obtain ⟨A', c', rfl, _⟩ := h.slice
  have H := Aside0.mk h
  have hmk := mkChan
  have hzt := zeroT
  have hw : IntKind.u64.wrap (last + 1) = last + 1 := by
    simp [IntKind.wrap, IntKind.bits, IntKind.signed]
    omega
  have HC := Aside0.mk hC
  have HAdd : Aside0 (∀ W cs, Blk W g [.int .i32 1, .int .u32 0, .int .u64 last, cs] TG → Calls Try.prog 31 #[.pointer (some ⟨g, 2, none⟩), .int .u64 1] W fun e w' => e = .returned (.int .u64 (last + 1)) ∧ W.setCell ⟨g, 2, none⟩ (.int .u64 (last + 1)) = w') := ⟨fun W cs hb => by
    have := u64Add g 2 last 1 W (hb.cell 2 _ rfl) (hb.free 2)
    rw [hw] at this
    exact this⟩
  have HX : Aside0 (xs.length ≤ 256) := ⟨by have := hC.1; omega⟩
  have H0 : Aside0 (0 ≤ last + 1) := ⟨by omega⟩
  have HN := Aside0.mk hn
  have HCg : Aside0 (∀ W, Only (fun i => i = g) w W → kH.C W A n xs) := ⟨fun W hW => kH_move hC (fun a ha => by
    obtain ⟨cs, hcs⟩ := hA a ha
    exact hW.block _ (lt_of_block hcs) (ne_heap hcs h.gb.out (cells_ne (by decide))))⟩
  clear h hC hw hA
  have i1 : ¬ (256 : Int) < (n : Int) := by omega
  have i2 : ¬ (256 : Int) ≤ (ts.length : Int) := by omega
  go_enter_defers Try.func16, Try.ntmps16
  go_wp2_with fail
  refine (lock_free muLib ⟨g, 0, none⟩ w H.out.cell0 (H.out.gb.free 0)).mono ?_
  rintro e w1 ⟨rfl, hw1⟩
  have H1 : Aside0 (Ga w1 g 1 _ ts last) := ⟨by rw [hw1]; exact H.out.lock 1⟩
  have HO1 : Aside0 (Only (use g (.slice A' ts.length c') ts) w w1) := ⟨by rw [hw1]; exact lockOnly w g _ ts _⟩
  have HC1 : Aside0 (Only (fun i => i = g) w w1) := ⟨by rw [hw1]; exact onlyG (Only.refl _ w)⟩
  clear hw1 H HC
  have c3 := H1.out.cell3
  have HCl : Aside0 (∀ W, Only (fun i => i = g) w1 W → Calls Try.prog 32 #[.slice A n c] W fun e w' => ∃ v1, e = .returned v1 ∧ kH.R TH w' w1.heap.size (fun i => ¬ i = g) v1 xs ∧ Below W.heap.size W w') := ⟨fun W hW =>
    (cloneCalls A n c xs W (HCg.out W (HC1.out.trans hW)) (by have := HN.out; omega)).mono fun e w' ⟨v1, he, hr, hb⟩ =>
      ⟨v1, he, kH_own (Kd.R_lower hr hW.size) (fun k hk => by
        obtain ⟨inner, ho, _⟩ := hr.2
        have h1 := own_base ho k hk
        have h2 := H1.out.gb.lt
        have h3 := hW.size
        omega), hb⟩⟩
  go_upto_region 5 with (fail)
  clear c3
  go_region_held3 (fun _ => True) (trivial) (first
      | (go_at_call 31; (first | refine (HAdd.out _ _ H1.out.gb.drew).mono ?_ | refine (HAdd.out _ _ (H1.out.gb.drew.alloc _)).mono ?_); rintro e wa ⟨rfl, rfl⟩)
      | (go_at_call 32; refine (HCl.out _ (by with_reducible (repeat (first | exact Only.refl _ _ | apply onlyG | apply Only.alloc | apply Only.drew)))).mono ?_; rintro e wc ⟨v1, rfl, hrc, hbc⟩; obtain ⟨A1, c1, rfl⟩ := Kd.R_slice hrc))
  all_goals (first
    | (have hgc : Blk wc g [.int .i32 1, .int .u32 0, .int .u64 (last + 1), .slice A' ts.length c'] TG := ((H1.out.gb.put 2 (.int .u64 (last + 1))).drew).belowSize hbc
       have hoc : Only (fun i => i = g) w1 wc := (onlyG (Only.refl _ w1)).drew.trans (Only.ofBelow hbc)
       have hbb : Below wc.heap.size wc ((wc.alloc (.chan 0 #[] false 0 0 false)).alloc (.cells #[.int .u64 (last + 1), .slice A1 xs.length c1, .bool false, .chan (some wc.heap.size)] TT)) := ((Below.refl _ _).alloc (Nat.le_refl _) _).alloc (by simp) _
       have hnk := Blk.newA (wc.alloc (.chan 0 #[] false 0 0 false)) #[.int .u64 (last + 1), .slice A1 xs.length c1, .bool false, .chan (some wc.heap.size)] TT
       rw [World.size_alloc] at hnk
       obtain ⟨A2, c2, hmid⟩ := Mid.of (v := .slice A' ts.length c') (by have := hoc.size; omega) hoc.size HX.out H0.out ((hgc.alloc _).alloc _) (Kd.R_below hrc hbb) (chan_alloc (chan_new wc _) _) hnk ((hoc.alloc _).alloc _)
       have HMid := Aside0.mk hmid
       clear hnk hbb hgc hoc hmid hrc hbc
       generalize (wc.alloc (.chan 0 #[] false 0 0 false)).alloc (.cells #[.int .u64 (last + 1), .slice A1 xs.length c1, .bool false, .chan (some wc.heap.size)] TT) = V at *
       generalize wc.heap.size + 1 = kid at *
       generalize wc.heap.size = kch at *)
    | (have hgc : Blk wc g [.int .i32 1, .int .u32 0, .int .u64 (last + 1), .slice A' ts.length c'] TG := (((H1.out.gb.put 2 (.int .u64 (last + 1))).alloc _).drew).belowSize hbc
       have hoc : Only (fun i => i = g) w1 wc := ((onlyG (Only.refl _ w1)).alloc _).drew.trans (Only.ofBelow hbc)
       have hch := chan_new (w1.setCell ⟨g, 2, none⟩ (.int .u64 (last + 1))) (.chan 0 #[] false 0 0 false)
       rw [size_set] at hch
       have hcw : wc.heap[w1.heap.size]? = some (.chan 0 #[] false 0 0 false) := blk_below (chan_drew hch) hbc
       have hbb : Below wc.heap.size wc (wc.alloc (.cells #[.int .u64 (last + 1), .slice A1 xs.length c1, .bool false, .chan (some w1.heap.size)] TT)) := (Below.refl _ _).alloc (Nat.le_refl _) _
       obtain ⟨A2, c2, hmid⟩ := Mid.of (v := .slice A' ts.length c') hoc.size (Nat.le_refl _) HX.out H0.out (hgc.alloc _) (Kd.R_below hrc hbb) (chan_alloc hcw _) (Blk.newA wc #[.int .u64 (last + 1), .slice A1 xs.length c1, .bool false, .chan (some w1.heap.size)] TT) (hoc.alloc _)
       have HMid := Aside0.mk hmid
       clear hbb hgc hoc hmid hrc hbc hch hcw
       generalize wc.alloc (.cells #[.int .u64 (last + 1), .slice A1 xs.length c1, .bool false, .chan (some w1.heap.size)] TT) = V at *
       generalize wc.heap.size = kid at *
       obtain ⟨kch, hkch⟩ : ∃ n, n = w1.heap.size := ⟨_, rfl⟩
       rw [← hkch] at HMid ⊢
       clear hkch)
    | (have hgc : Blk wc g [.int .i32 1, .int .u32 0, .int .u64 (last + 1), .slice A' ts.length c'] TG := (((H1.out.gb.alloc (.chan 0 #[] false 0 0 false)).put 2 (.int .u64 (last + 1))).drew).belowSize hbc
       have hoc : Only (fun i => i = g) w1 wc := (onlyG ((Only.refl _ w1).alloc _)).drew.trans (Only.ofBelow hbc)
       have hch := chan_new w1 (.chan 0 #[] false 0 0 false)
       have hcw : wc.heap[w1.heap.size]? = some (.chan 0 #[] false 0 0 false) := blk_below (chan_drew ((Below.heap_setCell (w1.alloc (.chan 0 #[] false 0 0 false)) ⟨g, 2, none⟩ (.int .u64 (last + 1)) w1.heap.size (Nat.ne_of_gt H1.out.gb.lt)).trans hch)) hbc
       have hbb : Below wc.heap.size wc (wc.alloc (.cells #[.int .u64 (last + 1), .slice A1 xs.length c1, .bool false, .chan (some w1.heap.size)] TT)) := (Below.refl _ _).alloc (Nat.le_refl _) _
       obtain ⟨A2, c2, hmid⟩ := Mid.of (v := .slice A' ts.length c') hoc.size (Nat.le_refl _) HX.out H0.out (hgc.alloc _) (Kd.R_below hrc hbb) (chan_alloc hcw _) (Blk.newA wc #[.int .u64 (last + 1), .slice A1 xs.length c1, .bool false, .chan (some w1.heap.size)] TT) (hoc.alloc _)
       have HMid := Aside0.mk hmid
       clear hbb hgc hoc hmid hrc hbc hch hcw
       generalize wc.alloc (.cells #[.int .u64 (last + 1), .slice A1 xs.length c1, .bool false, .chan (some w1.heap.size)] TT) = V at *
       generalize wc.heap.size = kid at *
       obtain ⟨kch, hkch⟩ : ∃ n, n = w1.heap.size := ⟨_, rfl⟩
       rw [← hkch] at HMid ⊢
       clear hkch))
  all_goals
    clear HAdd HCl HCg
    have c3 := HMid.out.gb.cell 3 _ rfl
    have HLt : Aside0 (ts.length < 256) := ⟨hl⟩
    go_wp2_with ((with_reducible refine gate_builtin (b := .append) (xs := #[.tmp 38, .tmp 40]) rfl ?_); at_builtin; refine Kd.R_append kP (w0 := V) 0 rfl (.tmp 38) (.tmp 40) TPs TP (.pointer none) 8 rfl Try.underlying67 (by kernel_rfl) rfl (by decide) (by omega) (.slice A' ts.length c') (ts.map (·.id)) kid [ptrV kid] (fun _ => True) (fun _ => False) rfl rfl ?aP (fun _ hk => hk.elim) ?aF ?aO ?aB ?aS ?aL ?_; (case aP => rfl); (case aF => exact fun _ _ => trivial); (case aO => exact Kd.R_mono (HMid.out.row H1.out) (fun _ _ => trivial)); (case aB => exact Below.refl _ _); (case aS => exact Nat.zero_le _); (case aL => have := HLt.out; rw [List.length_map]; omega); intro v1 w2 ho hb hg hat; obtain ⟨A3, c4, rfl⟩ := Kd.R_slice ho; have hj := HMid.out.join H1.out rfl HLt.out ho hg hat; rw [show (ts.map (·.id) ++ [kid]).length = ts.length + 1 by simp] at hj; have HJ := Aside0.mk hj; clear hj; clear ho hb hg hat c3; have c3 := HJ.out.2.2.2.cell 3 _ rfl; have f3 := HJ.out.2.2.2.free 3)
    clear c3 f3 HMid
    refine (grantCalls g 1 _ _ (last + 1) _ HJ.out.1).mono ?_
    rintro e w4 ⟨rfl, h4, ho4⟩
    have HG4 := Aside0.mk h4
    have HO4 : Aside0 (Only (use g (.slice A' ts.length c') ts) w w4) := ⟨(HO1.out.trans HJ.out.2.1).then ho4 (fun i hi hlt => by
      rcases HJ.out.2.2.1 i hi with h | h
      · exact h
      · have := HC1.out.size
        omega)⟩
    have HU : Aside0 (∀ i, use g (.slice A3 (ts.length + 1) c4) (ts ++ [⟨kid, kch, A2, c2, last + 1, xs, false⟩]) i → use g (.slice A' ts.length c') ts i ∨ w.heap.size ≤ i) := ⟨fun i hi => (HJ.out.2.2.1 i hi).imp id (fun h => Nat.le_trans HC1.out.size h)⟩
    clear h4 ho4 HJ HO1 HC1
    have k0 := (HG4.out.tk (gr1 _ ⟨kid, kch, A2, c2, last + 1, xs, false⟩) (List.mem_map.2 ⟨⟨kid, kch, A2, c2, last + 1, xs, false⟩, by simp, rfl⟩)).blk.cell 0 _ rfl
    simp only [gr1] at k0
    go_wp2_with fail
    clear k0
    refine leaves_cons (f := 21) (args := #[.pointer (some ⟨g, 0, none⟩)]) (by simp) (by simp [go_sem]) ?_
    refine (unlock_deferred muLib ⟨g, 0, none⟩ .returning _ HG4.out.cell0 (HG4.out.gb.free 0)).mono ?_
    rintro e u' w5 ⟨rfl, rfl, hw5⟩
    have HG5 : Aside0 (Ga w5 g 0 _ _ (last + 1)) := ⟨by rw [hw5]; exact HG4.out.lock 0⟩
    have HO5 : Aside0 (Only (use g (.slice A' ts.length c') ts) w w5) := ⟨by rw [hw5]; exact HO4.out.trans (lockOnly w4 g _ ts _)⟩
    clear hw5 HG4 HO4
    exact ⟨_, results_tmp2 rfl _ _ _, _, ⟨kid, kch, A2, c2, last + 1, xs, false⟩, rfl, HG5.out, rfl, rfl, rfl, HO5.out, HU.out⟩
end Go.Proofs.Ytkgabeloofjohaa.Gap
