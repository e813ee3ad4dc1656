/- Layer 13, GapApart: two objects, two reference states, each in nobody else's memory. -/
import Derived.Test.YtkgabeloofjohaaGapServesA
namespace Go.Proofs.Ytkgabeloofjohaa.Gap
set_option linter.unusedVariables false
set_option linter.unusedSimpArgs false
open Go.RowKit Go.Proofs.YtkgabeloofjohaaW.PrintWords Go.Proofs.Ytkgabeloofjohaa.Kit

section
variable {Fr Fr' : Nat → Prop} {w0 w w' : World} {zb g : Nat} {v : Value} {ts : List Tk} {last : Int} {A : Option Addr} {c : Nat} {U U' : Nat → Prop}
theorem Pl.uLt (h : Pl Fr w0 w zb g v ts last A c) {i : Nat} (hi : UU g v ts zb i) : i < w.heap.size := by
  rcases hi with hi | rfl
  · exact h.st.ga.lt hi
  · exact h.box.lt
theorem Pl.u0 (h : Pl Fr w0 w zb g v ts last A c) {i : Nat} (hi : UU g v ts zb i) : w0.heap.size ≤ i := by
  rcases hi with hi | rfl
  · exact (h.far i hi).1
  · exact h.zb0
theorem Pl.reF (h : Pl Fr w0 w zb g v ts last A c) (hF : ∀ i, i < w.heap.size → Fr i → Fr' i) : Pl Fr' w0 w zb g v ts last A c :=
  ⟨⟨h.st.ga, Kd.R_mono (Kd.R_bound h.st.row) (fun i hi => ⟨hi.1.1, hF i hi.2.2.1 hi.1.2⟩), h.st.gr, h.st.pos, h.st.last0⟩, h.box, h.far, h.zb0, h.below⟩
/-- What somebody else writes. -/
theorem Pl.other (h : Pl (fun i => ¬ U i) w0 w zb g v ts last A c) (ho : Only U w w') (hU : ∀ i, U i → ¬ UU g v ts zb i) (hU0 : ∀ i, U i → w0.heap.size ≤ i) (hu : ∀ i, U' i → U i ∨ w.heap.size ≤ i) : Pl (fun i => ¬ U' i) w0 w' zb g v ts last A c := by
  have hb := Kd.R_bound h.st.row
  have h1 := ho.R hb (fun i _ hi => hi.1.2)
  refine ⟨⟨h.st.ga.only ho (fun i hi hUi => hU i hUi (Or.inl hi)), Kd.R_mono h1 (fun i hi => ⟨hi.1.1, fun hU' => ?_⟩), h.st.gr, h.st.pos, h.st.last0⟩, ho.blk h.box (fun hUz => hU zb hUz (Or.inr rfl)), h.far, h.zb0, h.below.trans (ho.below hU0 h.below.size)⟩
  rcases hu i hU' with h2 | h2
  · exact hi.1.2 h2
  · have := hi.2.2.1
    omega
theorem Ga.noTU {st : Int} (h : Ga w g st v ts last) {tb : Nat} {cs : List Value} (hb : Blk w tb cs TU) {i : Nat} (hi : use g v ts i) : ¬ i = tb := by
  rcases hi with rfl | e | ⟨k, hk, hu⟩
  · exact ne_heap h.gb.out hb.out (cells_ne (by decide))
  · obtain ⟨inner, ho, _⟩ := h.row.2
    obtain ⟨cs', hc⟩ := own_typed ho i e
    exact ne_heap hc hb.out (cells_ne (by decide))
  · have hX := h.tk k hk
    rcases hu with rfl | rfl | ⟨ad, ha, rfl⟩
    · exact ne_heap hX.blk.out hb.out (cells_ne (by decide))
    · exact (ne_heap hb.out hX.ch cells_chan).symm
    · obtain ⟨cs', hc⟩ := hX.hb ad ha
      exact ne_heap hc hb.out (cells_ne (by decide))
/-- A store into a list of tickets. -/
theorem Pl.told (h : Pl Fr w0 w zb g v ts last A c) {tb o : Nat} {cs : List Value} (hb : Blk w tb cs TU) (h0 : w0.heap.size ≤ tb) (u : Value) : Pl Fr w0 (w.setCell ⟨tb, o, none⟩ u) zb g v ts last A c := by
  have ho : Only (fun i => i = tb) w (w.setCell ⟨tb, o, none⟩ u) := onlyR (Only.refl _ w)
  exact ⟨⟨h.st.ga.only ho (fun i hi => h.st.ga.noTU hb hi), ho.Rt hb (by decide) h.st.row, h.st.gr, h.st.pos, h.st.last0⟩, ho.blk h.box (ne_heap h.box.out hb.out (cells_ne (by decide))), h.far, h.zb0, h.below.trans (belowS u h0)⟩
end

structure P2 (w0 w : World) (za ga : Nat) (va : Value) (tsa : List Tk) (la : Int) (Aa : Option Addr) (ca : Nat) (zb gb : Nat) (vb : Value) (tsb : List Tk) (lb : Int) (Ab : Option Addr) (cb : Nat) : Prop where
  a : Pl (fun i => ¬ UU gb vb tsb zb i) w0 w za ga va tsa la Aa ca
  b : Pl (fun i => ¬ UU ga va tsa za i) w0 w zb gb vb tsb lb Ab cb
  dj : ∀ i, UU ga va tsa za i → ¬ UU gb vb tsb zb i
/-- Amid a Take that is handed a list of its own: the object has the taker already, the reference not yet. -/
structure Mi (w0 w : World) (n0 za ga : Nat) (ta : List Tk) (la : Int) (Aa : Option Addr) (ca : Nat) (va' : Value) (tsa' : List Tk) (la' : Int) (zb gb : Nat) (vb : Value) (tsb : List Tk) (lb : Int) (Ab : Option Addr) (cb : Nat) : Prop where
  gA : Ga w ga 0 va' tsa' la'
  gr : GrInv tsa'
  pos : ∀ k ∈ tsa', 1 ≤ k.t
  last0 : 0 ≤ la'
  row : kT.R TK w 0 (fun i => (¬ use ga va' tsa' i ∧ ¬ UU gb vb tsb zb i) ∧ i < n0) (.slice Aa ta.length ca) (ta.map toRT)
  box : Blk w za [.slice Aa ta.length ca, .int .u64 la] TR
  b : Pl (fun i => ¬ (UU ga va' tsa' za i ∨ n0 ≤ i)) w0 w zb gb vb tsb lb Ab cb
  dj : ∀ i, UU ga va' tsa' za i → ¬ UU gb vb tsb zb i
  far : ∀ i, use ga va' tsa' i → w0.heap.size ≤ i ∧ i ≠ za
  bLt : ∀ i, UU gb vb tsb zb i → i < n0
  za0 : w0.heap.size ≤ za
  zan : za < n0
  n0w : n0 ≤ w.heap.size
section
variable {w0 w w' : World} {n0 za ga zb gb : Nat} {va vb va' : Value} {tsa tsb tsa' ta : List Tk} {la lb la' : Int} {Aa Ab Aa' : Option Addr} {ca cb ca' : Nat}
theorem P2.symm (h : P2 w0 w za ga va tsa la Aa ca zb gb vb tsb lb Ab cb) : P2 w0 w zb gb vb tsb lb Ab cb za ga va tsa la Aa ca := ⟨h.b, h.a, fun i hi h2 => h.dj i h2 hi⟩
theorem P2.belowed (h : P2 w0 w za ga va tsa la Aa ca zb gb vb tsb lb Ab cb) (hb : Below w.heap.size w w') : P2 w0 w' za ga va tsa la Aa ca zb gb vb tsb lb Ab cb := ⟨h.a.belowed hb, h.b.belowed hb, h.dj⟩
theorem P2.prog (h : P2 w0 w za ga va tsa la Aa ca zb gb vb tsb lb Ab cb) (hg : Ga w' ga 0 va tsa la) (ho : Only (use ga va tsa) w w') : P2 w0 w' za ga va tsa la Aa ca zb gb vb tsb lb Ab cb :=
  ⟨h.a.prog (h.a.st.prog hg ho) ho, h.b.other (U := UU ga va tsa za) (ho.mono (fun i hi => Or.inl hi)) h.dj (fun i hi => h.a.u0 hi) (fun i hi => Or.inl hi), h.dj⟩
theorem P2.acts (h : P2 w0 w za ga va tsa la Aa ca zb gb vb tsb lb Ab cb) (hs : St (fun i => ¬ UU gb vb tsb zb i) w' ga va' tsa' la' Aa' ca') (ho : Only (use ga va tsa) w w') (hu : ∀ i, use ga va' tsa' i → use ga va tsa i ∨ w.heap.size ≤ i) :
    P2 w0 ((w'.setCell ⟨za, 0, none⟩ (.slice Aa' tsa'.length ca')).setCell ⟨za, 1, none⟩ (.int .u64 la')) za ga va' tsa' la' Aa' ca' zb gb vb tsb lb Ab cb ∧ Blk w' za [.slice Aa tsa.length ca, .int .u64 la] TR := by
  have hp := h.a.acts hs ho hu
  have hO : Only (UU ga va tsa za) w ((w'.setCell ⟨za, 0, none⟩ (.slice Aa' tsa'.length ca')).setCell ⟨za, 1, none⟩ (.int .u64 la')) := ((ho.mono (T := UU ga va tsa za) (fun i hi => Or.inl hi)).setCell (S := UU ga va tsa za) (p := ⟨za, 0, none⟩) (Or.inl (show UU ga va tsa za za from Or.inr rfl)) _).setCell (S := UU ga va tsa za) (p := ⟨za, 1, none⟩) (Or.inl (show UU ga va tsa za za from Or.inr rfl)) _
  have hU : ∀ i, UU ga va' tsa' za i → UU ga va tsa za i ∨ w.heap.size ≤ i := fun i hi => by
    rcases hi with hi | hi
    · rcases hu i hi with h1 | h1
      · exact Or.inl (Or.inl h1)
      · exact Or.inr h1
    · exact Or.inl (Or.inr hi)
  refine ⟨⟨hp.1, h.b.other hO h.dj (fun i hi => h.a.u0 hi) hU, fun i hi hb => ?_⟩, hp.2⟩
  rcases hU i hi with h1 | h1
  · exact h.dj i h1 hb
  · have := h.b.uLt hb
    omega
theorem P2.told (h : P2 w0 w za ga va tsa la Aa ca zb gb vb tsb lb Ab cb) {tb o : Nat} {cs : List Value} (hb : Blk w tb cs TU) (h0 : w0.heap.size ≤ tb) (u : Value) : P2 w0 (w.setCell ⟨tb, o, none⟩ u) za ga va tsa la Aa ca zb gb vb tsb lb Ab cb := ⟨h.a.told hb h0 u, h.b.told hb h0 u, h.dj⟩
theorem P2.mid (h : P2 w0 w za ga va tsa la Aa ca zb gb vb tsb lb Ab cb) : Mi w0 w w.heap.size za ga tsa la Aa ca va tsa la zb gb vb tsb lb Ab cb where
  gA := h.a.st.ga
  gr := h.a.st.gr
  pos := h.a.st.pos
  last0 := h.a.st.last0
  row := Kd.R_mono (Kd.R_bound h.a.st.row) (fun i hi => ⟨hi.1, hi.2.2.1⟩)
  box := h.a.box
  b := h.b.reF (fun i hl hi hn => by
    rcases hn with hn | hn
    · exact hi hn
    · omega)
  dj := h.dj
  far := h.a.far
  bLt := fun i hi => h.b.uLt hi
  za0 := h.a.zb0
  zan := h.a.box.lt
  n0w := Nat.le_refl _
theorem Mi.belowed (h : Mi w0 w n0 za ga ta la Aa ca va' tsa' la' zb gb vb tsb lb Ab cb) (hb : Below w.heap.size w w') : Mi w0 w' n0 za ga ta la Aa ca va' tsa' la' zb gb vb tsb lb Ab cb :=
  ⟨h.gA.below hb, h.gr, h.pos, h.last0, Kd.R_below h.row hb, h.box.belowSize hb, h.b.belowed hb, h.dj, h.far, h.bLt, h.za0, h.zan, Nat.le_trans h.n0w hb.size⟩
theorem Mi.take {va'' : Value} {tsa'' : List Tk} {la'' : Int} (h : Mi w0 w n0 za ga ta la Aa ca va' tsa' la' zb gb vb tsb lb Ab cb) (hg : Ga w' ga 0 va'' tsa'' la'') (hgr : GrInv tsa'') (hpos : ∀ k ∈ tsa'', 1 ≤ k.t) (hl0 : 0 ≤ la'') (ho : Only (use ga va' tsa') w w') (hu : ∀ i, use ga va'' tsa'' i → use ga va' tsa' i ∨ w.heap.size ≤ i) :
    Mi w0 w' n0 za ga ta la Aa ca va'' tsa'' la'' zb gb vb tsb lb Ab cb := by
  have hn := h.n0w
  have hzn := h.zan
  have hz0 := h.za0
  have hU : ∀ i, UU ga va'' tsa'' za i → UU ga va' tsa' za i ∨ w.heap.size ≤ i := fun i hi => by
    rcases hi with hi | hi
    · rcases hu i hi with h1 | h1
      · exact Or.inl (Or.inl h1)
      · exact Or.inr h1
    · exact Or.inl (Or.inr hi)
  refine ⟨hg, hgr, hpos, hl0, ?_, ho.blk h.box (fun hx => (h.far za hx).2 rfl), ?_, fun i hi hb => ?_, fun i hi => ?_, h.bLt, h.za0, h.zan, Nat.le_trans hn ho.size⟩
  · exact Kd.R_mono (ho.R h.row (fun i _ hi => hi.1.1)) (fun i hi => ⟨⟨fun hx => by
      rcases hu i hx with h1 | h1
      · exact hi.1.1 h1
      · have := hi.2
        omega, hi.1.2⟩, hi.2⟩)
  · refine h.b.other (ho.mono (fun i hi => Or.inl (Or.inl hi))) (fun i hi hb => ?_) (fun i hi => ?_) (fun i hi => ?_)
    · rcases hi with hi | hi
      · exact h.dj i hi hb
      · have := h.bLt i hb
        omega
    · rcases hi with (hi | hi) | hi
      · exact (h.far i hi).1
      · omega
      · omega
    · rcases hi with hi | hi
      · rcases hU i hi with h1 | h1
        · exact Or.inl (Or.inl h1)
        · exact Or.inr h1
      · exact Or.inl (Or.inr hi)
  · rcases hU i hi with h1 | h1
    · exact h.dj i h1 hb
    · have := h.bLt i hb
      omega
  · rcases hu i hi with h1 | h1
    · exact h.far i h1
    · exact ⟨by omega, by omega⟩
/-- The list that was handed in is written. -/
theorem Mi.write {inb : Nat} (h : Mi w0 w n0 za ga ta la Aa ca va' tsa' la' zb gb vb tsb lb Ab cb) (ho : Only (fun i => i = inb) w w') (h1 : n0 ≤ inb) (h2 : ¬ use ga va' tsa' inb) : Mi w0 w' n0 za ga ta la Aa ca va' tsa' la' zb gb vb tsb lb Ab cb := by
  have hzn := h.zan
  have hz0 := h.za0
  refine ⟨h.gA.only ho (fun i hi e => h2 (by rw [← e]; exact hi)), h.gr, h.pos, h.last0, ho.R h.row (fun i _ hi e => by have := hi.2; omega), ho.blk h.box (by omega), ?_, h.dj, h.far, h.bLt, h.za0, h.zan, Nat.le_trans h.n0w ho.size⟩
  refine h.b.other (ho.mono (fun i hi => Or.inr (by rw [hi]; exact h1))) (fun i hi hb => ?_) (fun i hi => ?_) (fun i hi => Or.inl hi)
  · rcases hi with hi | hi
    · exact h.dj i hi hb
    · have := h.bLt i hb
      omega
  · rcases hi with (hi | hi) | hi
    · exact (h.far i hi).1
    · omega
    · omega
/-- The reference has the taker too. -/
theorem Mi.done {A1 : Option Addr} {c1 : Nat} (h : Mi w0 w n0 za ga ta la Aa ca va' tsa' la' zb gb vb tsb lb Ab cb) (hb : Below w.heap.size w w') (hr : kT.R TK w' 0 (fun i => (((¬ use ga va' tsa' i ∧ ¬ UU gb vb tsb zb i) ∧ i < n0) ∧ i < w.heap.size) ∨ w.heap.size ≤ i) (.slice A1 tsa'.length c1) (tsa'.map toRT)) :
    P2 w0 ((w'.setCell ⟨za, 0, none⟩ (.slice A1 tsa'.length c1)).setCell ⟨za, 1, none⟩ (.int .u64 la')) za ga va' tsa' la' A1 c1 zb gb vb tsb lb Ab cb ∧ Blk w' za [.slice Aa ta.length ca, .int .u64 la] TR := by
  have hn := h.n0w
  have hbx : Blk w' za [.slice Aa ta.length ca, .int .u64 la] TR := h.box.belowSize hb
  have hst : St (fun i => ¬ UU gb vb tsb zb i) w' ga va' tsa' la' A1 c1 := ⟨h.gA.below hb, Kd.R_mono hr (fun i hi => by
    rcases hi with hi | hi
    · exact hi.1.1
    · exact ⟨fun hx => by have := h.gA.lt hx; omega, fun hx => by have := h.bLt i hx; omega⟩), h.gr, h.pos, h.last0⟩
  have hsz := h.b.below.size
  have hO : Only (UU ga va' tsa' za) w' ((w'.setCell ⟨za, 0, none⟩ (.slice A1 tsa'.length c1)).setCell ⟨za, 1, none⟩ (.int .u64 la')) := ((Only.refl (UU ga va' tsa' za) w').setCell (S := UU ga va' tsa' za) (p := ⟨za, 0, none⟩) (Or.inl (show UU ga va' tsa' za za from Or.inr rfl)) _).setCell (S := UU ga va' tsa' za) (p := ⟨za, 1, none⟩) (Or.inl (show UU ga va' tsa' za za from Or.inr rfl)) _
  have hB : Pl (fun i => ¬ UU ga va' tsa' za i) w0 w' zb gb vb tsb lb Ab cb := (h.b.belowed hb).reF (fun i _ hi hx => hi (Or.inl hx))
  refine ⟨⟨⟨hst.putBox (fun hx => (h.far za hx).2 rfl) hbx _ _, (hbx.put 0 _).put 1 _, h.far, h.za0, ?_⟩, ?_, h.dj⟩, hbx⟩
  · exact hB.below.trans ((belowS _ h.za0).trans (belowS _ h.za0))
  · exact hB.other hO h.dj (fun i hi => by
      rcases hi with hi | rfl
      · exact (h.far i hi).1
      · exact h.za0) (fun i hi => Or.inl hi)
end
theorem R_blk {w : World} {base n c : Nat} {ok : Nat → Prop} {A : Option Addr} {xs : List Hd} (h : kH.R TH w base ok (.slice A n c) xs) (hn : 0 < n) : ∃ b cs, A = some ⟨b, 0, none⟩ ∧ Blk w b cs TH ∧ n * 4 ≤ cs.length ∧ base ≤ b := by
  obtain ⟨inner, ho, _⟩ := h.2
  rcases ho.2 with ⟨h1, h2⟩ | ⟨g, cap, cur, h1, h2, h3, h4, _, h6, _⟩
  · injection h1 with _ e2 _
    omega
  · injection h1 with e1 e2 e3
    subst e1 e3
    refine ⟨g, cur.toList, rfl, ⟨by rw [Array.toArray_toList]; exact h3⟩, ?_, h2⟩
    have h7 : cur.size = c * 4 := h6
    rw [Array.length_toList]
    omega
end Go.Proofs.Ytkgabeloofjohaa.Gap
