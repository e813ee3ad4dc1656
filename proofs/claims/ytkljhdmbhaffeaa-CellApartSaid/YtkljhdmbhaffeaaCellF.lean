/- A place beside the reference's: both hold the same values. -/
import Derived.Test.YtkljhdmbhaffeaaCellE
namespace Go.Proofs.Ytkljhdmbhaffeaa.Cell
set_option linter.unusedVariables false
set_option linter.unusedSimpArgs false
open Go.RowKit Go.Proofs.YtkljhdmbhaffeaaW.PrintWords Go.Proofs.Ytkljhdmbhaffeaa.Kit

/-- A place and the reference's: both hold the same values; K: in which blocks the reference's may lie. -/
structure Pl (K : Nat → Prop) (w0 w : World) (p g : Nat) (A : Option Addr) (c : Nat) (vs : List Int) (n : Int) : Prop where
  at_ : At encI TC TN w p vs n
  blk : Blk w g [.slice A vs.length c, .int .u64 n] TM
  row : MK K w w0.heap.size (.slice A vs.length c) vs
  op : w0.heap.size ≤ p
  og : w0.heap.size ≤ g
  ne : p ≠ g
  below : Below w0.heap.size w0 w
theorem Pl.belowed {K : Nat → Prop} {w0 w w' : World} {p g : Nat} {A : Option Addr} {c : Nat} {vs : List Int} {n : Int} (h : Pl K w0 w p g A c vs n) (hb : Below w.heap.size w w') : Pl K w0 w' p g A c vs n :=
  ⟨h.at_.below hb, h.blk.belowSize hb, Kd.R_below h.row hb, h.op, h.og, h.ne, h.below.trans (hb.mono h.below.size)⟩
theorem Pl.mono {K K' : Nat → Prop} {w0 w : World} {p g : Nat} {A : Option Addr} {c : Nat} {vs : List Int} {n : Int} (h : Pl K w0 w p g A c vs n) (hK : ∀ i, i < w.heap.size → K i → K' i) : Pl K' w0 w p g A c vs n :=
  ⟨h.at_, h.blk, Kd.R_mono (Kd.R_bound h.row) (fun i hi => hK i hi.2.2.1 hi.1), h.op, h.og, h.ne, h.below⟩
theorem putOnly (w' : World) (g : Nat) (a b : Value) : Only (fun i => i = g) w' ((w'.setCell ⟨g, 0, none⟩ a).setCell ⟨g, 1, none⟩ b) :=
  Only.setCell (S := fun i => i = g) (Only.setCell (S := fun i => i = g) (Only.refl _ w') (p := ⟨g, 0, none⟩) (Or.inl rfl) _) (p := ⟨g, 1, none⟩) (Or.inl rfl) _
theorem Pl.put {K : Nat → Prop} {w0 w w' : World} {p g : Nat} {A : Option Addr} {c : Nat} {vs vs' : List Int} {n n' : Int} {A' : Option Addr} {c' : Nat} (h : Pl K w0 w p g A c vs n) (ha : At encI TC TN w' p vs' n') (hr : MK K w' w0.heap.size (.slice A' vs'.length c') vs') (ho : Only (fun i => i = p) w w') :
    Pl K w0 ((w'.setCell ⟨g, 0, none⟩ (.slice A' vs'.length c')).setCell ⟨g, 1, none⟩ (.int .u64 n')) p g A' c' vs' n' := by
  have hop := h.op
  have hog := h.og
  have hne := h.ne
  have b1 : Blk w' g [.slice A vs.length c, .int .u64 n] TM := ho.blk h.blk (fun e => h.ne e.symm)
  have hOz := putOnly w' g (.slice A' vs'.length c') (.int .u64 n')
  refine ⟨ha.only hOz hne (Off.one b1 (by decide)), ?_, ?_, hop, hog, hne, ?_⟩
  · exact (b1.put 0 (.slice A' vs'.length c')).put 1 (.int .u64 n')
  · exact Kd.R_set (Kd.R_set hr b1.out (by decide) 0 _) (b1.put 0 (.slice A' vs'.length c')).out (by decide) 1 _
  · have hb1 : Below w0.heap.size w w' := ho.below (fun i e => by omega) h.below.size
    have hb2 : Below w0.heap.size w' ((w'.setCell ⟨g, 0, none⟩ (.slice A' vs'.length c')).setCell ⟨g, 1, none⟩ (.int .u64 n')) := hOz.below (fun i e => by omega) (Nat.le_trans h.below.size ho.size)
    exact (h.below.trans hb1).trans hb2
theorem Pl.is {K : Nat → Prop} {w0 w : World} {p g : Nat} {A : Option Addr} {c : Nat} {vs : List Int} {n : Int} (h : Pl K w0 w p g A c vs n) (hl : vs.length ≤ 17592186044000) :
    Calls Try.prog 7 #[.pointer (some ⟨p, 0, none⟩), .agg #[.slice A vs.length c, .int .u64 n]] w fun e w' => e = .returned (.bool true) ∧ Below w.heap.size w w' :=
  isCalls p vs n A c w h.at_ (Kd.R_reads' h.row).2.2 (Kd.R_reads' h.row).2.1 hl
theorem Pl.does {K : Nat → Prop} {w0 w : World} {p g : Nat} {A : Option Addr} {c : Nat} {vs : List Int} {n : Int} (h : Pl K w0 w p g A c vs n) (a : Act) (hl : vs.length ≤ 17592186044000) (hK : ∀ i, w.heap.size ≤ i → K i) :
    Calls Try.prog 8 #[.pointer (some ⟨p, 0, none⟩), .agg #[.slice A vs.length c, .int .u64 n], .agg #[.int .i64 a.kind, .int .i64 a.off, .int .i64 a.n]] w fun e w' =>
      ∃ A' c', e = .returned (.tuple #[.agg #[.slice A' (stepV vs n a).1.length c', .int .u64 (stepV vs n a).2], .bool true]) ∧ Blk w' g [.slice A vs.length c, .int .u64 n] TM ∧
        Pl K w0 ((w'.setCell ⟨g, 0, none⟩ (.slice A' (stepV vs n a).1.length c')).setCell ⟨g, 1, none⟩ (.int .u64 (stepV vs n a).2)) p g A' c' (stepV vs n a).1 (stepV vs n a).2 ∧
        Only (fun i => i = p ∨ i = g) w ((w'.setCell ⟨g, 0, none⟩ (.slice A' (stepV vs n a).1.length c')).setCell ⟨g, 1, none⟩ (.int .u64 (stepV vs n a).2)) :=
  (doesCalls p vs n a K w0.heap.size A c w h.at_ h.row h.below.size hl hK).mono fun e w' ⟨s, he, ha, hr, ho⟩ => by
    obtain ⟨A3, c3, rfl⟩ := Kd.R_slice hr
    exact ⟨A3, c3, he, ho.blk h.blk (fun e => h.ne e.symm), h.put ha hr ho, (ho.mono (fun i e => Or.inl e)).trans ((putOnly w' g _ _).mono (fun i e => Or.inr e))⟩
/-- Writes to a block of numbers leave a place and the reference's alone, where the block is neither's. -/
theorem Pl.far {K S : Nat → Prop} {w0 w w' : World} {p g : Nat} {A : Option Addr} {c : Nat} {vs : List Int} {n : Int} (h : Pl K w0 w p g A c vs n) (ho : Only S w w') (hp : ¬ S p) (hg : ¬ S g) (hS : ∀ i, S i → w0.heap.size ≤ i ∧ ¬ K i) (hT : Off w S TN) : Pl K w0 w' p g A c vs n :=
  ⟨h.at_.only ho hp hT, ho.blk h.blk hg, ho.R h.row (fun i _ hk hs => (hS i hs).2 hk), h.op, h.og, h.ne, h.below.trans (ho.below (fun i hs => (hS i hs).1) h.below.size)⟩
theorem ofGrownRow {w w' : World} {row : Option Nat} (h : w.grownBy w' row) : Only (fun i => row = some i) w w' := ⟨h.os, h.tape, h.output, h.size, fun k hk hn => h.block k hk (fun e => hn e.symm)⟩
theorem rowOff {K : Nat → Prop} {w : World} {L : Nat} {v : Value} {zs : List Int} (h : MK K w L v zs) : (∀ i, v.ownBlock = some i → L ≤ i ∧ K i) ∧ Off w (fun i => v.ownBlock = some i) TN := by
  have hb := (Kd.R_bound h).1
  refine ⟨fun i hi => ⟨(hb i hi).2.1, (hb i hi).1⟩, fun i cs hi hk => ?_⟩
  obtain ⟨_, _, _, q, hq, cells, hc⟩ := hb i hi
  have e := hc.symm.trans hk.out
  simp only [Option.some.injEq, Obj.cells.injEq] at e
  have hq' : q ∈ [2] := hq
  rw [List.mem_singleton] at hq'
  rw [hq'] at e
  exact absurd e.2.1 (by decide)

theorem Off.or {w : World} {S T : Nat → Prop} {t : TypeId} (h : Off w S t) (k : Off w T t) : Off w (fun i => S i ∨ T i) t := fun i cs hi => hi.elim (h i cs) (k i cs)
/-- Writes to a block of another type leave a place and the reference's alone. -/
theorem Pl.farT {K : Nat → Prop} {w0 w w' : World} {p g q : Nat} {A : Option Addr} {c : Nat} {vs : List Int} {n : Int} {cs : List Value} {t : TypeId} (h : Pl K w0 w p g A c vs n) (ho : Only (fun i => i = q) w w') (hq : Blk w q cs t) (hti : t ≠ 2) (htn : t ≠ TN) (hp : p ≠ q) (hg : g ≠ q) (h0 : w0.heap.size ≤ q) : Pl K w0 w' p g A c vs n :=
  ⟨h.at_.only ho hp (Off.one hq htn), ho.blk h.blk hg, ho.Rt hq (fun r hr => by
    have hr' : r ∈ [2] := hr
    rw [List.mem_singleton] at hr'
    rw [hr']
    exact fun e => hti e.symm) h.row, h.op, h.og, h.ne, h.below.trans (ho.below (fun i e => by omega) h.below.size)⟩
end Go.Proofs.Ytkljhdmbhaffeaa.Cell
