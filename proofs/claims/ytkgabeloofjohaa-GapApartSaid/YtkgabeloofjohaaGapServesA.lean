/- Layer 13, GapServes: who had its holds keeps them; the lists amid the law. -/
import Derived.Test.YtkgabeloofjohaaGapZ
namespace Go.Proofs.Ytkgabeloofjohaa.Gap
set_option linter.unusedVariables false
set_option linter.unusedSimpArgs false
open Go.RowKit Go.Proofs.YtkgabeloofjohaaW.PrintWords Go.Proofs.Ytkgabeloofjohaa.Kit

/-- Tickets of those that have their holds. -/
def Had (ts : List Tk) (had : List Int) : Prop := ∀ t ∈ had, ∃ k ∈ ts, k.t = t ∧ k.gr = true
theorem rise_eq {ts : List Tk} (hr : ts.Pairwise (fun a b => a.t < b.t)) {a b : Tk} (ha : a ∈ ts) (hb : b ∈ ts) (h : a.t = b.t) : a = b := by
  obtain ⟨i, hi, rfl⟩ := List.getElem_of_mem ha
  obtain ⟨j, hj, rfl⟩ := List.getElem_of_mem hb
  rcases Nat.lt_trichotomy i j with hlt | he | hlt
  · have := List.pairwise_iff_getElem.1 hr i j hi hj hlt
    omega
  · subst he
    rfl
  · have := List.pairwise_iff_getElem.1 hr j i hj hi hlt
    omega
theorem had_not {ts ts' : List Tk} {had : List Int} (h : Had ts had) (hs : Stp ts ts') (hr : ts.Pairwise (fun a b => a.t < b.t)) {k' : Tk} (hk : k' ∈ ts') (hg : k'.gr = false) : ∀ t ∈ had, t ≠ k'.t := by
  intro t ht e
  obtain ⟨k0, hk0, ht0, hg0⟩ := h t ht
  rcases hs k' hk with ⟨k1, hk1, ht1, hg1⟩ | hall
  · have : k1 = k0 := rise_eq hr hk1 hk0 (by omega)
    subst this
    rw [hg1 hg0] at hg
    cases hg
  · have := hall k0 hk0
    omega
theorem first_gr {ts : List Tk} {k : Tk} (h : ts[0]? = some k) (hr : ts.Pairwise (fun a b => a.t < b.t)) (hG : GrInv ts) : k.gr = true := by
  rw [hG k (List.mem_of_getElem? h), ← rt_ahead h hr, raheadP_zero]
  rfl
theorem no_way {ts : List Tk} {i j : Nat} {a b : Tk} (hi : ts[i]? = some a) (hj : ts[j]? = some b) (hij : i < j) (hr : ts.Pairwise (fun a b => a.t < b.t)) (hG : GrInv ts) (hb : b.gr = true) : wayB a.hs b.hs = false := by
  have h1 := hG b (List.mem_of_getElem? hj)
  rw [hb] at h1
  have h2 : aheadK ts b = [] := by simpa using h1.symm
  unfold aheadK at h2
  rw [List.map_eq_nil_iff, List.filter_eq_nil_iff] at h2
  have h3 := h2 a (List.mem_of_getElem? hi)
  obtain ⟨hl1, e1⟩ := List.getElem?_eq_some_iff.1 hi
  obtain ⟨hl2, e2⟩ := List.getElem?_eq_some_iff.1 hj
  have hlt := List.pairwise_iff_getElem.1 hr i j hl1 hl2 hij
  rw [e1, e2] at hlt
  unfold isAhead at h3
  rw [decide_eq_true hlt] at h3
  simpa using h3

theorem R_ok {e base : Nat} {w : World} {ok ok' : Nat → Prop} {v : Value} {xs : List Int} (h : (Kd.int .u64).R e w base ok v xs) (hk : ∀ k, v.ownBlock = some k → ok' k) : (Kd.int .u64).R e w base ok' v xs := ⟨hk, h.2⟩
theorem R_len {e base : Nat} {w : World} {ok : Nat → Prop} {v : Value} {xs : List Int} (h : (Kd.int .u64).R e w base ok v xs) : xs.length ≤ 9223372036854775807 := by
  obtain ⟨inner, ho, _⟩ := h.2
  rcases ho.2 with ⟨_, h2⟩ | ⟨g, cap, cur, _, _, _, h3, h4, _⟩
  · omega
  · simp only [maxLen] at h4
    omega
def UU (g : Nat) (v : Value) (ts : List Tk) (zb i : Nat) : Prop := use g v ts i ∨ i = zb
/-- Amid GapServes: the two side by side, the list of who had its holds. -/
structure Sh (w0 w : World) (zb g : Nat) (v : Value) (ts : List Tk) (last : Int) (A : Option Addr) (c : Nat) (vh : Value) (had : List Int) : Prop where
  pl : Pl (fun _ => True) w0 w zb g v ts last A c
  hd : (Kd.int .u64).R TU w w0.heap.size (fun i => ¬ UU g v ts zb i) vh had
/-- .. and the list of who has its holds now. -/
structure Sv (w0 w : World) (zb g : Nat) (v : Value) (ts : List Tk) (last : Int) (A : Option Addr) (c : Nat) (vh : Value) (had : List Int) (vn : Value) (now : List Int) : Prop where
  sh : Sh w0 w zb g v ts last A c vh had
  nw : (Kd.int .u64).R TU w w0.heap.size (fun i => ¬ UU g v ts zb i ∧ ¬ vh.ownBlock = some i) vn now
section
variable {w0 w w' : World} {zb g : Nat} {v : Value} {ts : List Tk} {last : Int} {A : Option Addr} {c : Nat} {vh vn : Value} {had now : List Int}
theorem Pl.UUlt (h : Pl (fun _ => True) w0 w zb g v ts last A c) {i : Nat} (hi : UU g v ts zb i) : i < w.heap.size := by
  rcases hi with hi | rfl
  · exact h.st.ga.lt hi
  · exact h.box.lt
theorem Sh.belowed (h : Sh w0 w zb g v ts last A c vh had) (hb : Below w.heap.size w w') : Sh w0 w' zb g v ts last A c vh had := ⟨h.pl.belowed hb, Kd.R_below h.hd hb⟩
theorem Sh.prog (h : Sh w0 w zb g v ts last A c vh had) (hg : Ga w' g 0 v ts last) (ho : Only (use g v ts) w w') : Sh w0 w' zb g v ts last A c vh had :=
  ⟨h.pl.prog (h.pl.st.prog hg ho) ho, ho.R h.hd (fun i _ hi hu => hi (Or.inl hu))⟩
theorem Sv.belowed (h : Sv w0 w zb g v ts last A c vh had vn now) (hb : Below w.heap.size w w') : Sv w0 w' zb g v ts last A c vh had vn now := ⟨h.sh.belowed hb, Kd.R_below h.nw hb⟩
theorem Sv.prog (h : Sv w0 w zb g v ts last A c vh had vn now) (hg : Ga w' g 0 v ts last) (ho : Only (use g v ts) w w') : Sv w0 w' zb g v ts last A c vh had vn now :=
  ⟨h.sh.prog hg ho, ho.R h.nw (fun i _ hi hu => hi.1 (Or.inl hu))⟩
theorem Pl.fresh (h : Pl (fun _ => True) w0 w zb g v ts last A c) : Sh w0 (w.alloc (.cells #[] TU)) zb g v ts last A c (.slice (some ⟨w.heap.size, 0, none⟩) 0 0) [] :=
  ⟨h.belowed ((Below.refl _ w).alloc (Nat.le_refl _) _), R_ok (Kd.R_lower (int_lit0 w) h.below.size) (fun k hk hu => by
    change some w.heap.size = some k at hk
    injection hk with hk
    have := h.UUlt hu
    omega)⟩
theorem Sh.fresh (h : Sh w0 w zb g v ts last A c vh had) : Sv w0 (w.alloc (.cells #[] TU)) zb g v ts last A c vh had (.slice (some ⟨w.heap.size, 0, none⟩) 0 0) [] :=
  ⟨h.belowed ((Below.refl _ w).alloc (Nat.le_refl _) _), R_ok (Kd.R_lower (int_lit0 w) h.pl.below.size) (fun k hk => by
    change some w.heap.size = some k at hk
    injection hk with hk
    subst hk
    refine ⟨fun hu => ?_, fun e => ?_⟩
    · have := h.pl.UUlt hu
      omega
    · obtain ⟨inner, ho, _⟩ := h.hd.2
      have := own_lt ho _ e
      omega)⟩
theorem Sv.over (h : Sv w0 w zb g v ts last A c vh had vn now) : Sh w0 w zb g v ts last A c vn now := ⟨h.sh.pl, Kd.R_mono h.nw (fun _ hk => hk.1)⟩
/-- One more is in the new list. -/
theorem Sv.grown {v1 : Value} {now' : List Int} (h : Sv w0 w zb g v ts last A c vh had vn now) (ho : (Kd.int .u64).R TU w' w0.heap.size (fun i => ¬ UU g v ts zb i ∧ ¬ vh.ownBlock = some i) v1 now') (hg : w.grownBy w' vn.ownBlock) : Sv w0 w' zb g v ts last A c vh had v1 now' := by
  have hO : Only (fun i => vn.ownBlock = some i) w w' := ⟨hg.os, hg.tape, hg.output, hg.size, fun i hi hn => hg.block i hi (fun e => hn e.symm)⟩
  have hf : ∀ i, use g v ts i → ¬ vn.ownBlock = some i := fun i hi e => (h.nw.1 i e).1 (Or.inl hi)
  have hz : ¬ vn.ownBlock = some zb := fun e => (h.nw.1 zb e).1 (Or.inr rfl)
  have hrow : kT.R TK w' 0 (fun i => ¬ use g v ts i ∧ True) (.slice A ts.length c) (ts.map toRT) := by
    rcases hvn : vn.ownBlock with _ | b
    · rw [hvn] at hO
      exact hO.R h.sh.pl.st.row (fun i _ _ e => by cases e)
    · obtain ⟨inner, hi, _⟩ := h.nw.2
      obtain ⟨cs, hcs⟩ := own_typed hi b hvn
      have hO' : Only (fun i => i = b) w w' := hO.mono (fun i e => by rw [hvn] at e; injection e with e; exact e.symm)
      exact hO'.Rt (cs := cs.toList) (t := TU) ⟨by rw [Array.toArray_toList]; exact hcs⟩ (by decide) h.sh.pl.st.row
  refine ⟨⟨⟨⟨h.sh.pl.st.ga.only hO hf, hrow, h.sh.pl.st.gr, h.sh.pl.st.pos, h.sh.pl.st.last0⟩, hO.blk h.sh.pl.box hz, h.sh.pl.far, h.sh.pl.zb0, ?_⟩, ?_⟩, ho⟩
  · exact h.sh.pl.below.trans (hO.below (fun i e => by
      obtain ⟨inner, hi, _⟩ := h.nw.2
      exact own_base hi i e) h.sh.pl.below.size)
  · have h2 : (Kd.int .u64).R TU w w0.heap.size (fun i => vh.ownBlock = some i ∧ ¬ UU g v ts zb i) vh had := R_ok h.sh.hd (fun k hk => ⟨hk, h.sh.hd.1 k hk⟩)
    exact Kd.R_mono (hO.R h2 (fun i _ hi e => (h.nw.1 i e).2 hi.1)) (fun _ hk => hk.2)
/-- An act of both. -/
theorem Sh.acts {v' : Value} {ts' : List Tk} {last' : Int} {A' : Option Addr} {c' : Nat} (h : Sh w0 w zb g v ts last A c vh had) (hs : St (fun _ => True) w' g v' ts' last' A' c') (ho : Only (use g v ts) w w') (hu : ∀ i, use g v' ts' i → use g v ts i ∨ w.heap.size ≤ i) :
    Sh w0 ((w'.setCell ⟨zb, 0, none⟩ (.slice A' ts'.length c')).setCell ⟨zb, 1, none⟩ (.int .u64 last')) zb g v' ts' last' A' c' vh had ∧ Blk w' zb [.slice A ts.length c, .int .u64 last] TR := by
  have hp := h.pl.acts hs ho hu
  refine ⟨⟨hp.1, ?_⟩, hp.2⟩
  have hO : Only (UU g v ts zb) w ((w'.setCell ⟨zb, 0, none⟩ (.slice A' ts'.length c')).setCell ⟨zb, 1, none⟩ (.int .u64 last')) := ((ho.mono (T := UU g v ts zb) (fun i hi => Or.inl hi)).setCell (S := UU g v ts zb) (p := ⟨zb, 0, none⟩) (Or.inl (show UU g v ts zb zb from Or.inr rfl)) _).setCell (S := UU g v ts zb) (p := ⟨zb, 1, none⟩) (Or.inl (show UU g v ts zb zb from Or.inr rfl)) _
  exact R_after h.hd hO (fun i hi => by
    rcases hi with hi | hi
    · rcases hu i hi with h1 | h1
      · exact Or.inl (Or.inl h1)
      · exact Or.inr h1
    · exact Or.inl (Or.inr hi))
end
theorem St.form {Fr : Nat → Prop} {w : World} {g : Nat} {v : Value} {ts : List Tk} {last : Int} {A : Option Addr} {c : Nat} (h : St Fr w g v ts last A c) (hn : 0 < ts.length) : ∃ b o, A = some ⟨b, o, none⟩ := by
  obtain ⟨b, o, x, B, d, e, _⟩ := kT_at h.C 0 hn
  exact ⟨b, o, e⟩
theorem St.row_at {Fr : Nat → Prop} {w : World} {g : Nat} {v : Value} {ts : List Tk} {last : Int} {b o c i : Nat} {k : Tk} (h : St Fr w g v ts last (some ⟨b, o, none⟩) c) (hk : ts[i]? = some k) :
    w.cell? ⟨b, o + i * 2, none⟩ = some (.int .u64 k.t) ∧ ∃ B d, w.cell? ⟨b, o + i * 2 + 1, none⟩ = some (.slice B k.hs.length d) ∧ kH.C w B k.hs.length k.hs := by
  have hl := (List.getElem?_eq_some_iff.1 hk).1
  obtain ⟨b', o', x, B, d, e, hx, c0, c1, hC⟩ := kT_at h.C i hl
  injection e with e
  injection e with e1 e2 _
  subst e1 e2
  rw [List.getElem?_map, hk] at hx
  injection hx with hx
  subst hx
  exact ⟨c0, B, d, c1, hC⟩
theorem hasV_at {Fr : Nat → Prop} {w : World} {g : Nat} {v : Value} {ts : List Tk} {last : Int} {A : Option Addr} {c i : Nat} {k : Tk} (h : St Fr w g v ts last A c) (hk : ts[i]? = some k) : hasV ts k.t = .tuple #[.bool k.gr, .int .i64 0] := by
  unfold hasV
  rw [(h.at hk).1]
end Go.Proofs.Ytkgabeloofjohaa.Gap
