/- What layer 13's laws are given: acts; the object and the reference amid a law. -/
import Derived.Test.YtkgabeloofjohaaGapY
import Derived.Test.YtkgabeloofjohaaOpen
namespace Go.Proofs.Ytkgabeloofjohaa.Gap
set_option linter.unusedVariables false
set_option linter.unusedSimpArgs false
open Go.RowKit Go.Proofs.YtkgabeloofjohaaW.PrintWords Go.Proofs.Ytkgabeloofjohaa.Kit

structure Ac where
  kd : Int
  l : List Hd
  n : Int
def kA : Kd Ac := Kd.iso (Kd.pair (Kd.int .i64) (Kd.pair (Kd.slice TH kH) (Kd.int .i64))) (fun x => (x.kd, x.l, x.n))
theorem kA_K {w : World} {x : Ac} {cs : List Value} (h : kA.K w x cs) : ∃ B d, cs = [.int .i64 x.kd, .slice B x.l.length d, .int .i64 x.n] ∧ kH.C w B x.l.length x.l := by
  obtain ⟨c0, c1, rfl, h0, c2, c3, rfl, ⟨B, d, rfl, _, hC⟩, h3⟩ := h
  rw [show c0 = [.int .i64 x.kd] from h0, show c3 = [.int .i64 x.n] from h3]
  exact ⟨B, d, rfl, hC⟩
theorem kA_at {w : World} {A : Option Addr} {n : Nat} {xs : List Ac} (h : kA.C w A n xs) (i : Nat) (hi : i < n) : ∃ b o x B d, A = some ⟨b, o, none⟩ ∧ xs[i]? = some x ∧ w.cell? ⟨b, o + i * 3, none⟩ = some (.int .i64 x.kd) ∧ w.cell? ⟨b, o + i * 3 + 1, none⟩ = some (.slice B x.l.length d) ∧ w.cell? ⟨b, o + i * 3 + 2, none⟩ = some (.int .i64 x.n) ∧ kH.C w B x.l.length x.l := by
  obtain ⟨b, o, x, cs, rfl, hx, hK, hc⟩ := C_at (s := 3) rfl (by omega) h i hi
  obtain ⟨B, d, rfl, hC⟩ := kA_K hK
  exact ⟨b, o, x, B, d, rfl, hx, hc 0 _ rfl, hc 1 _ rfl, hc 2 _ rfl, hC⟩
def okRg (x : Rg) : Prop := x.lo.size ≤ 140737488351232 ∧ x.hi.size ≤ 140737488351232 ∧ True
def okHd (x : Hd) : Prop := okRg x.r ∧ True
def okAc (x : Ac) : Prop := (Lit.int .i64 x.kd).wf = true ∧ (x.l.length * 48 ≤ 140737488351232 ∧ ∀ y ∈ x.l, okHd y) ∧ (Lit.int .i64 x.n).wf = true
set_option maxRecDepth 100000 in
theorem kH_opens : Opens Try.prog TH kH okHd :=
  opens_struct (fun x : Hd => (x.r, x.alone)) (fun a => ⟨a.1, a.2⟩) (fun _ => rfl) Try.underlying52 4 (by kernel_rfl) _ rfl
    (opensFs_cons (ok := okRg) (ok2 := fun _ => True) rfl (opens_struct (fun x : Rg => (x.lo, x.hi, x.opn)) (fun a => ⟨a.1, a.2.1, a.2.2⟩) (fun _ => rfl) Try.underlying50 3 (by kernel_rfl) _ rfl
      (opensFs_cons rfl (opens_string Try.underlying9) (opensFs_cons rfl (opens_string Try.underlying9) (opensFs_one rfl (by kernel_rfl) (opens_bool Try.underlying4))))) (opensFs_one rfl (by kernel_rfl) (opens_bool Try.underlying4)))
theorem kHs_opens : Opens Try.prog 32 (Kd.slice TH kH) (fun xs => xs.length * 48 ≤ 140737488351232 ∧ ∀ x ∈ xs, okHd x) :=
  opens_slice Try.underlying32 (by kernel_rfl) 48 (by kernel_rfl) kH_opens
set_option maxRecDepth 100000 in
theorem kA_opens : Opens Try.prog TA kA okAc :=
  opens_struct (fun x : Ac => (x.kd, x.l, x.n)) (fun a => ⟨a.1, a.2.1, a.2.2⟩) (fun _ => rfl) Try.underlying34 3 (by kernel_rfl) _ rfl
    (opensFs_cons rfl (opens_int .i64 Try.underlying3) (opensFs_cons rfl kHs_opens (opensFs_one rfl (by kernel_rfl) (opens_int .i64 Try.underlying3))))
theorem kAs_opens : Opens Try.prog 22 (Kd.slice TA kA) (fun xs => xs.length * 40 ≤ 140737488351232 ∧ ∀ x ∈ xs, okAc x) :=
  opens_slice Try.underlying22 (by kernel_rfl) 40 (by kernel_rfl) kA_opens

/-- The object and the reference amid a law: the reference's value in the law's box zb, nothing of the world before in use. -/
structure Pl (Fr : Nat → Prop) (w0 w : World) (zb g : Nat) (v : Value) (ts : List Tk) (last : Int) (A : Option Addr) (c : Nat) : Prop where
  st : St Fr w g v ts last A c
  box : Blk w zb [.slice A ts.length c, .int .u64 last] TR
  far : ∀ i, use g v ts i → w0.heap.size ≤ i ∧ i ≠ zb
  zb0 : w0.heap.size ≤ zb
  below : Below w0.heap.size w0 w
theorem Pl.belowed {Fr : Nat → Prop} {w0 w w' : World} {zb g : Nat} {v : Value} {ts : List Tk} {last : Int} {A : Option Addr} {c : Nat} (h : Pl Fr w0 w zb g v ts last A c) (hb : Below w.heap.size w w') : Pl Fr w0 w' zb g v ts last A c :=
  ⟨h.st.below hb, h.box.belowSize hb, h.far, h.zb0, h.below.trans (hb.mono h.below.size)⟩
theorem Pl.prog {Fr : Nat → Prop} {w0 w w' : World} {zb g : Nat} {v : Value} {ts : List Tk} {last : Int} {A : Option Addr} {c : Nat} (h : Pl Fr w0 w zb g v ts last A c) (hs : St Fr w' g v ts last A c) (ho : Only (use g v ts) w w') : Pl Fr w0 w' zb g v ts last A c :=
  ⟨hs, ho.blk h.box (fun hu => (h.far zb hu).2 rfl), h.far, h.zb0, h.below.trans (ho.below (fun i hi => (h.far i hi).1) h.below.size)⟩
/-- An act of both, the new value put into the box. -/
theorem Pl.acts {Fr : Nat → Prop} {w0 w w' : World} {zb g : Nat} {v v' : Value} {ts ts' : List Tk} {last last' : Int} {A A' : Option Addr} {c c' : Nat} (h : Pl Fr w0 w zb g v ts last A c) (hs : St Fr w' g v' ts' last' A' c') (ho : Only (use g v ts) w w') (hu : ∀ i, use g v' ts' i → use g v ts i ∨ w.heap.size ≤ i) :
    Pl Fr w0 ((w'.setCell ⟨zb, 0, none⟩ (.slice A' ts'.length c')).setCell ⟨zb, 1, none⟩ (.int .u64 last')) zb g v' ts' last' A' c' ∧ Blk w' zb [.slice A ts.length c, .int .u64 last] TR := by
  have hb : Blk w' zb [.slice A ts.length c, .int .u64 last] TR := ho.blk h.box (fun hu => (h.far zb hu).2 rfl)
  have hf : ∀ i, use g v' ts' i → w0.heap.size ≤ i ∧ i ≠ zb := fun i hi => by
    rcases hu i hi with h1 | h1
    · exact h.far i h1
    · have h2 := h.below.size
      have h3 := h.box.lt
      exact ⟨by omega, by omega⟩
  refine ⟨⟨hs.putBox (fun hu => (hf zb hu).2 rfl) hb _ _, (hb.put 0 _).put 1 _, hf, h.zb0, ?_⟩, hb⟩
  exact (h.below.trans (ho.below (fun i hi => (h.far i hi).1) h.below.size)).trans ((belowS _ h.zb0).trans (belowS _ h.zb0))
theorem Pl.new {Fr : Nat → Prop} {w0 w : World} {zb g : Nat} (hg : Ga w g 0 (.slice none 0 0) [] 0) (hb : Blk w zb [.slice none 0 0, .int .u64 0] TR) (hu : ∀ i, use g (.slice none 0 0) [] i → w0.heap.size ≤ i ∧ i ≠ zb) (hz : w0.heap.size ≤ zb) (hbe : Below w0.heap.size w0 w) :
    Pl Fr w0 w zb g (.slice none 0 0) [] 0 none 0 := ⟨St.new (A := none) (c := 0) hg, hb, hu, hz, hbe⟩
theorem Ga.gsize {w : World} {g : Nat} {st : Int} {v : Value} {ts : List Tk} {last : Int} (h : Ga w g st v ts last) : g < w.heap.size := h.gb.lt
end Go.Proofs.Ytkgabeloofjohaa.Gap
