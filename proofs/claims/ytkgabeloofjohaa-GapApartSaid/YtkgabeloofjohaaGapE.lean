/- Layer 13: the takers in memory; New, find. -/
import Derived.Test.YtkgabeloofjohaaGapD
import Derived.Test.YtkgabeloofjohaaLocks
import Derived.Laws.LoneSync
import Derived.IntWalk
namespace Go.Proofs.Ytkgabeloofjohaa.Gap
set_option linter.unusedVariables false
set_option linter.unusedSimpArgs false
open Go.RowKit Go.Proofs.YtkgabeloofjohaaW.PrintWords Go.Proofs.Ytkgabeloofjohaa.Kit

abbrev TG : TypeId := 69
abbrev TT : TypeId := 77
abbrev TP : TypeId := 73
abbrev TPs : TypeId := 67
structure Tk where
  id : Nat
  ch : Nat
  A : Option Addr
  c : Nat
  t : Int
  hs : List Hd
  gr : Bool
def Tk.cells (k : Tk) : List Value := [.int .u64 k.t, .slice k.A k.hs.length k.c, .bool k.gr, .chan (some k.ch)]
def Tk.use (k : Tk) (i : Nat) : Prop := i = k.id ∨ i = k.ch ∨ ∃ a, k.A = some a ∧ a.block = i
structure TkIs (w : World) (k : Tk) : Prop where
  blk : Blk w k.id k.cells TT
  ch : w.heap[k.ch]? = some (.chan 0 #[] k.gr 0 0 false)
  hs : kH.C w k.A k.hs.length k.hs
  hb : ∀ a, k.A = some a → ∃ cs, w.heap[a.block]? = some (.cells cs TH (0, 0))
  len : k.hs.length ≤ 256
  t0 : 0 ≤ k.t
theorem cell_block {w w' : World} {a : Addr} (h : w'.heap[a.block]? = w.heap[a.block]?) : w'.cell? a = w.cell? a := by
  unfold World.cell?
  rw [h]
theorem kH_move {w w' : World} {A : Option Addr} {n : Nat} {xs : List Hd} (h : kH.C w A n xs) (hm : ∀ a, A = some a → w'.heap[a.block]? = w.heap[a.block]?) : kH.C w' A n xs := by
  obtain ⟨h1, h2, h3⟩ := h
  refine ⟨h1, h2, fun hn => ?_⟩
  obtain ⟨ad, e, hc⟩ := h3 hn
  refine ⟨ad, e, fun j p hp => ?_⟩
  obtain ⟨c, hl, hK, hcc⟩ := hc j p hp
  refine ⟨c, hl, hK, fun i u hu => ?_⟩
  have := hcc i u hu
  rw [← this]
  refine cell_block ?_
  have hb : ∀ (a : Addr) (n : Nat), (a.add n).block = a.block := fun a n => by unfold Addr.add; split <;> rfl
  rw [hb]
  exact hm ad e
theorem TkIs.move {w w' : World} {k : Tk} (h : TkIs w k) (hs : w.heap.size ≤ w'.heap.size) (hm : ∀ i, k.use i → w'.heap[i]? = w.heap[i]?) : TkIs w' k :=
  ⟨h.blk.move (hm _ (Or.inl rfl)), (hm _ (Or.inr (Or.inl rfl))).trans h.ch, kH_move h.hs (fun a ha => hm _ (Or.inr (Or.inr ⟨a, ha, rfl⟩))), fun a ha => by
    obtain ⟨cs, hc⟩ := h.hb a ha
    exact ⟨cs, (hm _ (Or.inr (Or.inr ⟨a, ha, rfl⟩))).trans hc⟩, h.len, h.t0⟩
theorem TkIs.lt {w : World} {k : Tk} (h : TkIs w k) {i : Nat} (hi : k.use i) : i < w.heap.size := by
  rcases hi with rfl | rfl | ⟨a, ha, rfl⟩
  · exact h.blk.lt
  · exact lt_of_block h.ch
  · obtain ⟨cs, hc⟩ := h.hb a ha
    exact lt_of_block hc
theorem TkIs.only {S : Nat → Prop} {w w' : World} {k : Tk} (h : TkIs w k) (ho : Only S w w') (hn : ∀ i, k.use i → ¬ S i) : TkIs w' k := h.move ho.size (fun i hi => ho.block i (h.lt hi) (hn i hi))

abbrev ptrV (i : Nat) : Value := .pointer (some ⟨i, 0, none⟩)
def kP : Kd Nat := Kd.scalar ptrV (fun _ => rfl)
theorem kP_own {e base : Nat} {w : World} {ok : Nat → Prop} {v : Value} {xs : List Nat} (h : kP.R e w base ok v xs) : kP.R e w base (fun i => v.ownBlock = some i) v xs := ⟨fun _ h => h, h.2⟩
theorem kP_at {w : World} {A : Option Addr} {n : Nat} {xs : List Nat} (h : kP.C w A n xs) (i : Nat) (hi : i < n) : ∃ b o x, A = some ⟨b, o, none⟩ ∧ xs[i]? = some x ∧ w.cell? ⟨b, o + i, none⟩ = some (ptrV x) := by
  obtain ⟨b, o, x, cs, rfl, hx, hK, hc⟩ := C_at (s := 1) rfl (by omega) h i hi
  have : cs = [ptrV x] := hK
  subst this
  exact ⟨b, o, x, rfl, hx, by simpa using hc 0 _ rfl⟩

/-- The object in block g: state of the lock, the row of pointers, the takers, the last ticket. -/
structure Ga (w : World) (g : Nat) (st : Int) (v : Value) (ts : List Tk) (last : Int) : Prop where
  gb : Blk w g [.int .i32 st, .int .u32 0, .int .u64 last, v] TG
  row : kP.R TP w 0 (fun i => v.ownBlock = some i) v (ts.map (·.id))
  tk : ∀ k ∈ ts, TkIs w k
  ids : (ts.map (·.id)).Nodup
  chs : (ts.map (·.ch)).Nodup
  rise : ts.Pairwise (fun a b => a.t < b.t)
  le : ∀ k ∈ ts, k.t ≤ last
  small : ts.length ≤ 256
def use (g : Nat) (v : Value) (ts : List Tk) (i : Nat) : Prop := i = g ∨ v.ownBlock = some i ∨ ∃ k ∈ ts, k.use i
theorem Ga.lt {w : World} {g : Nat} {st : Int} {v : Value} {ts : List Tk} {last : Int} (h : Ga w g st v ts last) {i : Nat} (hi : use g v ts i) : i < w.heap.size := by
  rcases hi with rfl | e | ⟨k, hk, hu⟩
  · exact h.gb.lt
  · obtain ⟨inner, ho, _⟩ := h.row.2
    exact own_lt ho i e
  · exact (h.tk k hk).lt hu
theorem Ga.only {S : Nat → Prop} {w w' : World} {g : Nat} {st : Int} {v : Value} {ts : List Tk} {last : Int} (h : Ga w g st v ts last) (ho : Only S w w') (hn : ∀ i, use g v ts i → ¬ S i) : Ga w' g st v ts last :=
  ⟨ho.blk h.gb (hn g (Or.inl rfl)), ho.R h.row (fun i _ hi => hn i (Or.inr (Or.inl hi))), fun k hk => (h.tk k hk).only ho (fun i hi => hn i (Or.inr (Or.inr ⟨k, hk, hi⟩))), h.ids, h.chs, h.rise, h.le, h.small⟩
theorem Ga.below {w w' : World} {g : Nat} {st : Int} {v : Value} {ts : List Tk} {last : Int} (h : Ga w g st v ts last) (hb : Below w.heap.size w w') : Ga w' g st v ts last := h.only (S := fun _ => False) (Only.ofBelow hb) (fun _ _ h => h)
theorem Ga.cell0 {w : World} {g : Nat} {st : Int} {v : Value} {ts : List Tk} {last : Int} (h : Ga w g st v ts last) : w.cell? ⟨g, 0, none⟩ = some (.int .i32 st) := h.gb.cell 0 _ rfl
theorem Ga.cell3 {w : World} {g : Nat} {st : Int} {v : Value} {ts : List Tk} {last : Int} (h : Ga w g st v ts last) : w.cell? ⟨g, 3, none⟩ = some v := h.gb.cell 3 _ rfl
theorem Ga.slice {w : World} {g : Nat} {st : Int} {v : Value} {ts : List Tk} {last : Int} (h : Ga w g st v ts last) : ∃ A c, v = .slice A ts.length c ∧ kP.C w A ts.length (ts.map (·.id)) := by
  obtain ⟨A, c, e, _, hC⟩ := Kd.R_reads h.row
  rw [List.length_map] at e hC
  exact ⟨A, c, e, hC⟩

theorem zeroG (W : World) : (zeroValue TG).run Try.prog W = .ok (.agg #[.int .i32 0, .int .u32 0, .int .u64 0, .slice none 0 0]) W := by kernel_rfl
theorem newCalls (w : World) : Calls Try.prog 6 #[] w fun e w' => e = .returned (ptrV w.heap.size) ∧ Ga w' w.heap.size 0 (.slice none 0 0) [] 0 ∧ Below w.heap.size w w' ∧ ∀ i, use w.heap.size (.slice none 0 0) [] i → w.heap.size ≤ i := by
  have hz := zeroG
  go_enter Try.func6, Try.ntmps6
  go_wp2
  go_ret
  refine ⟨rfl, ⟨Blk.newA w _ TG, Kd.R_nil _ _ _ _ _, fun k hk => by simp at hk, List.nodup_nil, List.nodup_nil, List.Pairwise.nil, fun k hk => by simp at hk, by simp⟩, (Below.refl _ _).alloc (Nat.le_refl _) _, ?_⟩
  rintro i (rfl | e | ⟨k, hk, _⟩)
  · exact Nat.le_refl _
  · cases e
  · simp at hk

/-! find -/
def findT (ts : List Tk) (n : Int) : Option Tk := ts.find? (fun k => decide (k.t = n))
def tkV (o : Option Tk) : Value := match o with | some k => ptrV k.id | none => .pointer none
def idxT (ts : List Tk) (n : Int) : Int := match ts.findIdx? (fun k => decide (k.t = n)) with | some i => (i : Int) | none => -1
theorem find1 (id p : Nat) (a n : Int) (w : World) (h0 : w.cell? ⟨id, 0, none⟩ = some (.int .u64 a)) (h1 : w.cell? ⟨p, 0, none⟩ = some (.int .u64 n)) :
    Calls Try.prog 38 #[ptrV id, ptrV p] w fun e w' => e = .returned (.bool (decide (a = n))) ∧ Below w.heap.size w w' := by
  go_enter Try.func38, Try.ntmps38
  go_upto_region 1 with (fail)
  go_quiet (fail)
  have HB : Aside0 (Below w.heap.size w (w.drewN nq)) := ⟨pw_below_drewN (Below.refl _ w) nq⟩
  clear h0 h1
  go_wp2
  go_ret
  exact ⟨rfl, HB.out⟩
end Go.Proofs.Ytkgabeloofjohaa.Gap
