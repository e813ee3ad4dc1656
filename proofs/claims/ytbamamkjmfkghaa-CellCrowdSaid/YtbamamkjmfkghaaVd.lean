/- A goroutine of a crowd: what a caller keeps over a call; the starter's and the workers' words of control; steps that wait, start others, end.
No condition. -/
import Derived.Test.YtbamamkjmfkghaaVc
import Derived.Conc.WgArith
set_option linter.unusedSimpArgs false
set_option linter.unusedVariables false
namespace Go.Proofs.Ytbamamkjmfkghaa.Crw
open Go Go.Conc Go.ConcR.Gen
open Go.ConcN (PermW RelBy upd upd_same upd_ne)
open Go.ConcR (stA smA KK WgAt wgBlock rd wr mk)
set_option linter.unusedVariables false

section
variable {B : Usr} {E : Env} {k : Nat} {s s' s₁ s₂ : St B} {w w' w₁ w₂ : World}

/-- What a caller keeps over a call: all but the words of control. -/
structure Cm (k : Nat) (s : St B) (w : World) (s₁ : St B) (w₁ : World) : Prop where
  size : w.heap.size ≤ w₁.heap.size
  cells : Keep (fun b off => May s.tg k (.cell ⟨b, off, none⟩)) w w₁
  mode : ∀ l, locLow w.heap.size l → (∀ i, i ≠ k → s.tg.mode l ≠ .own i) → s₁.tg.mode l = s.tg.mode l
  kn : ∀ l, s.tg.kn k l → s₁.tg.kn k l
  hd : s₁.tg.hd = s.tg.hd
  on : s.on = true → s₁.on = true ∧ s₁.tg.wg = s.tg.wg
  n : s.tg.n ≤ s₁.tg.n
  n0 : k = 0 → s₁.tg.n = s.tg.n
  ru : B.Ru k s.u s₁.u

theorem Rl.cm (h : Rl k s w s₁ w₁) : Cm k s w s₁ w₁ := ⟨h.size, h.cells, h.mode, h.kn, h.hd, h.on, h.n, fun e => (h.zero e).1, h.ru⟩
theorem Cm.refl (hB : B.Laws) (k : Nat) (s : St B) (w : World) : Cm k s w s w := (Rl.refl hB k s w).cm
theorem Cm.trans (hB : B.Laws) (h : Cm k s w s₁ w₁) (h' : Cm k s₁ w₁ s₂ w₂) : Cm k s w s₂ w₂ := by
  refine ⟨Nat.le_trans h.size h'.size, fun b c t fr hb => ?_, fun l hlow hl => ?_, fun l hl => h'.kn l (h.kn l hl), h'.hd.trans h.hd, fun ho => ?_, Nat.le_trans h.n h'.n, fun e => (h'.n0 e).trans (h.n0 e), hB.trans h.ru h'.ru⟩
  · obtain ⟨c1, e1, e2, e3⟩ := h.cells b c t fr hb
    obtain ⟨c2, f1, f2, f3⟩ := h'.cells b c1 t fr e1
    have hlt : b < w.heap.size := (Array.getElem?_eq_some_iff.1 hb).1
    exact ⟨c2, f1, f2.trans e2, fun off ho => (f3 off (ho.of_mode (h.mode _ hlt) (h.kn _))).trans (e3 off ho)⟩
  · have e := h.mode l hlow hl
    exact (h'.mode l (hlow.mono h.size) fun i hi => by rw [e]; exact hl i hi).trans e
  · obtain ⟨h1, h2⟩ := h.on ho
    obtain ⟨h3, h4⟩ := h'.on h1
    exact ⟨h3, h4.trans h2⟩
theorem Cm.rely (hB : B.Laws) (h : Cm k s w s₁ w₁) (r : Rl k s₁ w₁ s₂ w₂) : Cm k s w s₂ w₂ := h.trans hB r.cm
/-- A step of control. -/
theorem Cm.of (hB : B.Laws) (hs : w.heap.size ≤ w'.heap.size) (hc : Keep (fun b off => May s.tg k (.cell ⟨b, off, none⟩)) w w') (h1 : s'.tg.mode = s.tg.mode) (h2 : s'.tg.kn = s.tg.kn) (h3 : s'.tg.hd = s.tg.hd) (h4 : s'.on = s.on) (h5 : s'.tg.wg = s.tg.wg) (h6 : s'.tg.n = s.tg.n) (h7 : s'.u = s.u) : Cm k s w s' w' :=
  ⟨hs, hc, fun l _ _ => by rw [h1], fun l x => by rw [h2]; exact x, h3, fun ho => ⟨h4.trans ho, h5⟩, by rw [h6]; exact Nat.le_refl _, fun _ => h6, by rw [h7]; exact hB.refl _ _⟩

theorem Rds.cm {b : Nat} {t : TypeId} {vs : List Value} (h : Rds k s w b t vs) (hR : Cm k s w s₁ w₁) : Rds k s₁ w₁ b t vs := by
  obtain ⟨c, e1, e2, e3⟩ := hR.cells b _ t _ h.hp
  have : c = vs.toArray := by
    apply Array.ext_getElem?
    exact fun off => e3 off (h.md _ rfl)
  exact ⟨this ▸ e1, fun a ha => (h.md a ha).of_mode (hR.mode _ (by show a.block < _; rw [ha]; exact h.lt)) (hR.kn _)⟩
theorem Own.cm {b : Nat} {t : TypeId} {vs : List Value} (h : Own k s w b t vs) (hR : Cm k s w s₁ w₁) : Own k s₁ w₁ b t vs :=
  ⟨(h.rds.cm hR).hp, fun a ha => (hR.mode _ (by show a.block < _; rw [ha]; exact h.lt) fun i hi e => by rw [h.md a ha] at e; exact hi (Mode.own.inj e).symm).trans (h.md a ha)⟩

/-! ### the starter's words of control -/
/-- The group; how deaf; an announcement is open; nobody is registered; all workers are through. -/
structure SF (Wg d : Nat) (p op ae : Bool) (s : St B) : Prop where
  on : s.on = true
  wg : s.tg.wg = Wg
  df : s.tg.deaf 0 = d
  pe : s.pend = p
  ph : s.ph = .opn ↔ op = true
  al : ae = true → s.alive = []
  jn : s.tg.joined = false
theorem SF.rely {Wg d : Nat} {p op ae : Bool} (h : SF Wg d p op ae s) (r : Rl 0 s w s₁ w₁) : SF Wg d p op ae s₁ :=
  have z := r.zero rfl
  ⟨(r.on h.on).1, (r.on h.on).2.trans h.wg, r.deaf.trans h.df, z.2.1.trans h.pe, z.2.2.2.2.1.symm.trans h.ph, fun e => List.eq_nil_of_length_eq_zero (by have := z.2.2.2.2.2.2; rw [h.al e] at this; simpa using this), z.2.2.1.trans h.jn⟩
/-- The starter's words, and what has been kept since. -/
structure HS (s₀ : St B) (w₀ : World) (Wg d : Nat) (p op ae : Bool) (s : St B) (w : World) : Prop where
  cm : Cm 0 s₀ w₀ s w
  sf : SF Wg d p op ae s
section
variable {s₀ : St B} {w₀ : World} {Wg d : Nat} {p op ae : Bool}
theorem HS.rely (hB : B.Laws) (h : HS s₀ w₀ Wg d p op ae s w) (r : Rl 0 s w s₁ w₁) : HS s₀ w₀ Wg d p op ae s₁ w₁ := ⟨h.cm.rely hB r, h.sf.rely r⟩
theorem HS.dis (hB : B.Laws) (h : HS s₀ w₀ Wg d p op ae s w) : HS s₀ w₀ Wg (d + 1) p op ae { s with tg := { s.tg with deaf := upd s.tg.deaf 0 (s.tg.deaf 0 + 1) } } w :=
  ⟨h.cm.trans hB (.of hB (Nat.le_refl _) (Keep.refl _ _) rfl rfl rfl rfl rfl rfl rfl), ⟨h.sf.on, h.sf.wg, by show upd s.tg.deaf 0 (s.tg.deaf 0 + 1) 0 = _; rw [upd_same, h.sf.df], h.sf.pe, h.sf.ph, h.sf.al, h.sf.jn⟩⟩
theorem HS.ena (hB : B.Laws) (h : HS s₀ w₀ Wg (d + 1) p op ae s w) : HS s₀ w₀ Wg d p op ae { s with tg := { s.tg with deaf := upd s.tg.deaf 0 (s.tg.deaf 0 - 1) } } w :=
  ⟨h.cm.trans hB (.of hB (Nat.le_refl _) (Keep.refl _ _) rfl rfl rfl rfl rfl rfl rfl), ⟨h.sf.on, h.sf.wg, by show upd s.tg.deaf 0 (s.tg.deaf 0 - 1) 0 = _; rw [upd_same, h.sf.df]; rfl, h.sf.pe, h.sf.ph, h.sf.al, h.sf.jn⟩⟩
theorem HS.add (hB : B.Laws) (hI : Ok E s w) (h : HS s₀ w₀ Wg d false true ae s w) (v : Value) : HS s₀ w₀ Wg d true true ae { s with pend := true } (w.setCell (stA s.tg.wg) v) :=
  ⟨h.cm.trans hB (.of hB (by rw [setCell_size]; exact Nat.le_refl _) (keep_st hI h.sf.on 0) rfl rfl rfl rfl rfl rfl rfl), ⟨h.sf.on, h.sf.wg, h.sf.df, rfl, h.sf.ph, h.sf.al, h.sf.jn⟩⟩
theorem HS.cas (hB : B.Laws) (hI : Ok E s w) (h : HS s₀ w₀ Wg d p true ae s w) (v : Value) : HS s₀ w₀ Wg d p false ae { s with ph := .reg } (w.setCell (stA s.tg.wg) v) :=
  ⟨h.cm.trans hB (.of hB (by rw [setCell_size]; exact Nat.le_refl _) (keep_st hI h.sf.on 0) rfl rfl rfl rfl rfl rfl rfl), ⟨h.sf.on, h.sf.wg, h.sf.df, h.sf.pe, ⟨fun e => (by cases e), fun e => (by cases e)⟩, h.sf.al, h.sf.jn⟩⟩
theorem HS.take (hB : B.Laws) (hI : Ok E s w) (hp : s.ph = .sema) (h : HS s₀ w₀ Wg d p false ae s w) (v : Value) : HS s₀ w₀ Wg d p true true { s with ph := .opn } (w.setCell (smA s.tg.wg) v) :=
  ⟨h.cm.trans hB (.of hB (by rw [setCell_size]; exact Nat.le_refl _) (keep_st hI h.sf.on 0) rfl rfl rfl rfl rfl rfl rfl), ⟨h.sf.on, h.sf.wg, h.sf.df, h.sf.pe, ⟨fun _ => rfl, fun _ => rfl⟩, fun _ => (hI.C.sema hp).1, h.sf.jn⟩⟩
theorem HS.stop (h : HS s₀ w₀ Wg d p op ae s w) (h0 : s.alive = []) : HS s₀ w₀ Wg d p op true s w :=
  ⟨h.cm, ⟨h.sf.on, h.sf.wg, h.sf.df, h.sf.pe, h.sf.ph, fun _ => h0, h.sf.jn⟩⟩
/-- What the group's block holds. -/
theorem HS.at (hI : Ok E s w) (h : HS s₀ w₀ Wg d p op ae s w) : WgAt E.ty Wg w ((s.cnt : Int) * KK + (s.ph.wt : Int)) (s.ph.sm : Int) := h.sf.wg ▸ hI.A h.sf.on
end

/-- After the join. -/
def jmode (m : Loc → Mode) : Loc → Mode := fun l => match m l with | .own _ => .own 0 | x => x
def St.join (s : St B) : St B := { s with tg := { s.tg with joined := true, mode := jmode s.tg.mode } }
theorem jmode_own {m : Loc → Mode} {l : Loc} {i : Nat} (h : m l = .own i) : jmode m l = .own 0 := by simp [jmode, h]
theorem jmode_else {m : Loc → Mode} {l : Loc} (h : ∀ i, m l ≠ .own i) : jmode m l = m l := by
  unfold jmode
  split
  · rename_i i e; exact absurd e (h i)
  · rfl
theorem mv_join (hI : Ok E s w) {Wg : Nat} (h : SF Wg 0 false true true s) : Mv E 0 s w s.join w #[mk (.acquire (stA Wg))] := by
  have := Mv.join (E := E) (k := 0) (s := s) (w := w) (mode' := jmode s.tg.mode) rfl h.on (h.ph.2 rfl) (h.al rfl) h.pe h.jn h.df fun l => by
    cases hm : s.tg.mode l with
    | own i =>
      by_cases h0 : i = 0
      · subst h0; exact .inl (jmode_own hm)
      · exact .inr ⟨i, by omega, hI.M.ownN l i hm, rfl, jmode_own hm⟩
    | _ => exact .inl ((jmode_else (by rw [hm]; simp)).trans hm)
  rw [h.wg] at this
  exact this
theorem Cm.join (hB : B.Laws) (s : St B) (w : World) : Cm 0 s w s.join w :=
  ⟨Nat.le_refl _, Keep.refl _ _, fun l _ hl => by
    cases hm : s.tg.mode l with
    | own i =>
      by_cases h0 : i = 0
      · subst h0; exact jmode_own hm
      · exact absurd hm (hl i h0)
    | _ => exact (jmode_else (by rw [hm]; simp)).trans hm, fun _ x => x, rfl, fun ho => ⟨ho, rfl⟩, Nat.le_refl _, fun _ => rfl, hB.refl _ _⟩
end

section
variable {P : Program} {B : Usr} {E : Env} {Post : Value → World → Prop} {Child : Sit (proto P B E Post)} {k : Nat} {s : St B} {w : World} {g : Goroutine}

theorem may_deaf {t : Trace} {s₁ : St B} {w₁ : World} (hI : (proto P B E Post).I s₁ w₁ t) (hk : k < s₁.tg.n) (hf : s₁.tg.fin k = false) : Deaf t k = s₁.tg.deaf k := hI.2.deaf k hk hf

/-- Any step of one's own. -/
theorem rr_gen (hg : g.status = .running) (h : ∀ s₁ w₁, Rl k s w s₁ w₁ → Ok E s₁ w₁ → k < s₁.tg.n → s₁.tg.fin k = false →
    ∃ g' w' es s', stepG P (k == 0) g w₁ = .go g' w' es ∧ Mv E k s₁ w₁ s' w' es ∧ ((BlkP s₁ → BlkP s') ∨ (mayWake P g = true ∧ g'.status = .running)) ∧
      ((s'.tg.fin k = true ∧ ∃ q, QuitsD P q (deafBehind (s₁.tg.deaf k) es) g') ∨ (s'.tg.fin k = false ∧ RR P B E Post Child k g' s' w'))) : RR P B E Post Child k g s w :=
  .mk hg fun s₁ w₁ t₁ hR hI hk hne => by
    have hf := Bool.eq_false_iff.2 hne
    obtain ⟨g', w', es, s', h1, h2, h3, h4⟩ := h s₁ w₁ hR hI.1 hk hf
    refine .inl ⟨g', w', es, s', h1, h2, h3, ?_⟩
    rcases h4 with ⟨h4, h5⟩ | ⟨h4, h5⟩
    · exact .inl ⟨h4, by rw [may_deaf hI hk hf]; exact h5⟩
    · exact .inr ⟨by show ¬ s'.tg.fin k = true; rw [h4]; simp, h5⟩

/-- The starter takes the semaphore, or waits. -/
theorem rr_wait (hg : g.status = .running) (ho : g.offers = none) (h : ∀ s₁ w₁, Rl 0 s w s₁ w₁ → Ok E s₁ w₁ →
    (stepG P true g w₁ = .go { g with status := .blocked } w₁ #[] ∧ BlkP s₁) ∨
    (¬ BlkP s₁ ∧ ∃ g' w' es s', stepG P true g w₁ = .go g' w' es ∧ Mv E 0 s₁ w₁ s' w' es ∧ s'.tg.fin = s₁.tg.fin ∧ RR P B E Post Child 0 g' s' w')) : RR P B E Post Child 0 g s w :=
  .mk hg fun s₁ w₁ t₁ hR hI hk hne => by
    rcases h s₁ w₁ hR hI.1 with ⟨h1, h2⟩ | ⟨h0, g', w', es, s', h1, h2, h3, h4⟩
    · exact .inr (.inr (.inl ⟨rfl, h1, ho, h2⟩))
    · have h4' : Runs (proto P B E Post) Child 0 g' s' w' := h4
      exact .inl ⟨g', w', es, s', h1, h2, .inl fun hb => absurd hb h0, .inr ⟨fun e => hne (by
        have e' : s'.tg.fin 0 = true := e
        rw [h3] at e'; exact e'), h4'⟩⟩

/-- A go statement. -/
theorem rr_spawn (hg : g.status = .running) (h : ∀ s₁ w₁, Rl 0 s w s₁ w₁ → Ok E s₁ w₁ →
    ∃ g' child w' es s', stepG P true g w₁ = .spawn g' child w' es ∧ Go1 E s₁ w₁ s' w' es ∧ RR P B E Post Child 0 g' s' w' ∧ Child child s' w') : RR P B E Post Child 0 g s w :=
  .mk hg fun s₁ w₁ t₁ hR hI hk hne => by
    obtain ⟨g', c, w', es, s', h1, h2, h3, h4⟩ := h s₁ w₁ hR hI.1
    exact .inr (.inl ⟨rfl, g', c, w', es, s', h1, h2, h3, h4⟩)

/-- The return. -/
theorem rr_over (hg : g.status = .running) (h : ∀ s₁ w₁, Rl 0 s w s₁ w₁ → Ok E s₁ w₁ → ∃ v w' es, stepG P true g w₁ = .ended (.done v) w' es ∧ End1 s₁ w₁ es ∧ Post v w') : RR P B E Post Child 0 g s w :=
  .mk hg fun s₁ w₁ t₁ hR hI hk hne => by
    obtain ⟨v, w', es, h1, h2, h3⟩ := h s₁ w₁ hR hI.1
    exact .inr (.inr (.inr ⟨rfl, v, w', es, h1, h2, h3⟩))

/-- 'defer'. -/
theorem rr_defer (hB : B.Laws) {b : Frame} {a : Act} {kk : List Item} {cs : List Frame} {ops : Array Oper} {i : Nat} {rest : List Nat} {o : Oper} {f : FuncId} {as : Array Operand} {ats : Array TypeId} (ho : ops[i]? = some o) (hw : Region.wanted o (yielded ops a.tmps) = true) (hk : b.kind ≠ .early)
    (hop : o.op = .defer { callee := .value (.func f), args := as, argTypes := ats }) (h : RR P B E Post Child k (G (b.at (Act.put ⟨a.tmps, dcall f (as.map a.eval) :: a.defers⟩ o.dst undef) (.inRegion ops rest :: kk)) cs) s w) :
    RR P B E Post Child k (G (b.at a (.inRegion ops (i :: rest) :: kk)) cs) s w :=
  rr_ctl hB rfl (fun _ => stepG_defer ho hw hk hop) h
/-- What a program knows of itself. -/
theorem rr_told (hB : B.Laws) {b : Frame} {a : Act} {kk : List Item} {cs : List Frame} {ops : Array Oper} {i : Nat} {rest : List Nat} {o : Oper} {f : FuncId} {fn : Func} {as : Array Operand} {ats : Array TypeId} (v : Value) (ho : ops[i]? = some o) (hw : Region.wanted o (yielded ops a.tmps) = true) (hk : b.kind ≠ .early) (hop : o.op = .call { callee := .value (.func f), args := as, argTypes := ats })
    (hf : P.funcs[f]? = some fn) (hname : (fn.name == "runtime.NumGoroutine") = false) (hb : fn.body.isNone = true) (hn : Extern.findNext fn = none) (he : Extern.find fn = some (fun _ => pure v))
    (h : RR P B E Post Child k (G (b.at (a.put o.dst v) (.inRegion ops rest :: kk)) cs) s w) :
    RR P B E Post Child k (G (b.at a (.inRegion ops (i :: rest) :: kk)) cs) s w :=
  rr_ctl hB rfl (fun _ => stepG_entry_pure v ho hw hk hop hf hname hb hn he) h
/-- A conversion that looks at one cell of the group. -/
theorem rr_conv (hB : B.Laws) {F : St B → World → Prop} {b : Frame} {a : Act} {kk : List Item} {cs : List Frame} {ops : Array Oper} {i : Nat} {rest : List Nat} {o : Oper} {v : Value} (hF : F s w) (hst : ∀ {s w s₁ w₁}, F s w → Rl k s w s₁ w₁ → F s₁ w₁)
    (ho : ops[i]? = some o) (hw : Region.wanted o (yielded ops a.tmps) = true) (hk : b.kind ≠ .early)
    (hr : ∀ s₁ w₁, F s₁ w₁ → Ok E s₁ w₁ → (execOp a.eval o).run P w₁ = .ok (.value v) w₁ ∧ (execOp a.eval o).events P w₁ #[] = #[])
    (h : RR P B E Post Child k (G (b.at (a.put o.dst v) (.inRegion ops rest :: kk)) cs) s w) :
    RR P B E Post Child k (G (b.at a (.inRegion ops (i :: rest) :: kk)) cs) s w := by
  refine rr_mk rfl fun s₁ w₁ hR hI _ _ => ?_
  obtain ⟨h1, h2⟩ := hr s₁ w₁ (hst hF hR) hI
  refine ⟨_, _, _, s₁, stepG_value ho hw hk h1, ?_, .refl _, RR.rely hB h hR⟩
  have hl : listed P b.fn a o w₁ = #[] := listed_nil h2
  rw [hl]
  exact .idle (d := w₁.drawn)
end
end Go.Proofs.Ytbamamkjmfkghaa.Crw
namespace Go.Proofs.Ytbamamkjmfkghaa.Crw
open Go Go.Conc Go.Conc.Lib Go.ConcR.Gen
open Go.ConcN (PermW RelBy upd upd_same upd_ne)
open Go.ConcR (stA smA KK WgAt wgBlock rd wr mk)
set_option linter.unusedVariables false

theorem wg_cell0 {ty : TypeId} {b : Nat} {w : World} {st sm : Int} (h : WgAt ty b w st sm) : w.cell? ⟨b, 0, none⟩ = some (.int .u64 st) := by
  have h' : w.heap[b]? = _ := h
  simp [World.cell?, h', wgBlock]
theorem wg_cell1 {ty : TypeId} {b : Nat} {w : World} {st sm : Int} (h : WgAt ty b w st sm) : w.cell? ⟨b, 1, none⟩ = some (.int .u32 sm) := by
  have h' : w.heap[b]? = _ := h
  simp [World.cell?, h', wgBlock]
theorem wg_thaw {ty : TypeId} {b : Nat} {w : World} {st sm : Int} (h : WgAt ty b w st sm) (off : Nat) : w.frozen? ⟨b, off, none⟩ = false := by
  have h' : w.heap[b]? = _ := h
  simp [World.frozen?, h', wgBlock]

section
variable {P : Program} {B : Usr} {E : Env} {Post : Value → World → Prop} {Child : Sit (proto P B E Post)} {k : Nat} {s : St B} {w : World}
  {b : Frame} {a : Act} {kk : List Item} {cs : List Frame} {ops : Array Oper} {i : Nat} {rest : List Nat} {o : Oper} {f : FuncId} {fn : Func} {as : Array Operand} {ats : Array TypeId} {todo : List Item} {ds : List Deferred} {args : Array Value}

theorem wg_evs {Wg : Nat} {s : St B} (hw : s.tg.wg = Wg) {es : Array Event} (h : ∀ e ∈ es, ∃ wr, e = ⟨.cell ⟨Wg, 0, none⟩, wr, true⟩) : wgEvs s.tg es := by
  intro e he
  obtain ⟨wr, rfl⟩ := h e he
  exact ⟨_, _, rfl, hw.symm⟩

section
variable {s₀ : St B} {w₀ : World} {Wg d : Nat} {p op ae : Bool}

/-- 'race.Disable()'. -/
theorem rr0_dis (hB : B.Laws) (hF : HS s₀ w₀ Wg d p op ae s w) (ho : ops[i]? = some o) (hw : Region.wanted o (yielded ops a.tmps) = true) (hk : b.kind ≠ .early) (hop : o.op = .call { callee := .value (.func f), args := as, argTypes := ats })
    (hf : P.funcs[f]? = some fn) (hname : (fn.name == "runtime.NumGoroutine") = false) (hb : fn.body.isNone = true) (hn : Extern.findNext fn = none) (he : Extern.find fn = some (fun _ => do mark .disable; pure Extern.Race.none_))
    (h : ∀ s' w', HS s₀ w₀ Wg (d + 1) p op ae s' w' → RR P B E Post Child 0 (G (b.at (a.put o.dst (.tuple #[])) (.inRegion ops rest :: kk)) cs) s' w') :
    RR P B E Post Child 0 (G (b.at a (.inRegion ops (i :: rest) :: kk)) cs) s w :=
  rr_mk rfl fun s₁ w₁ hR hI _ _ => ⟨_, _, _, _, stepG_mark0 .disable (by simp) ho hw hk hop hf hname hb hn he, .dis, ⟨rfl, rfl⟩, h _ _ ((hF.rely hB hR).dis hB)⟩
/-- 'race.Enable()'. -/
theorem rr0_ena (hB : B.Laws) (hF : HS s₀ w₀ Wg (d + 1) p op ae s w) (ho : ops[i]? = some o) (hw : Region.wanted o (yielded ops a.tmps) = true) (hk : b.kind ≠ .early) (hop : o.op = .call { callee := .value (.func f), args := as, argTypes := ats })
    (hf : P.funcs[f]? = some fn) (hname : (fn.name == "runtime.NumGoroutine") = false) (hb : fn.body.isNone = true) (hn : Extern.findNext fn = none) (he : Extern.find fn = some (fun _ => do mark .enable; pure Extern.Race.none_))
    (h : ∀ s' w', HS s₀ w₀ Wg d p op ae s' w' → RR P B E Post Child 0 (G (b.at (a.put o.dst (.tuple #[])) (.inRegion ops rest :: kk)) cs) s' w') :
    RR P B E Post Child 0 (G (b.at a (.inRegion ops (i :: rest) :: kk)) cs) s w :=
  rr_mk rfl fun s₁ w₁ hR hI _ _ => ⟨_, _, _, _, stepG_mark0 .enable (by simp) ho hw hk hop hf hname hb hn he, .ena, ⟨rfl, rfl⟩, h _ _ ((hF.rely hB hR).ena hB)⟩
/-- The deferred 'race.Enable()'. -/
theorem rr0_enaD (hB : B.Laws) (hF : HS s₀ w₀ Wg (d + 1) p op ae s w) (hd : a.defers = dcall f #[] :: ds)
    (hf : P.funcs[f]? = some fn) (hname : (fn.name == "runtime.NumGoroutine") = false) (hb : fn.body.isNone = true) (hn : Extern.findNext fn = none) (he : Extern.find fn = some (fun _ => do mark .enable; pure Extern.Race.none_))
    (h : ∀ s' w', HS s₀ w₀ Wg d p op ae s' w' → RR P B E Post Child 0 (G { b.at ⟨a.tmps, ds⟩ todo with mode := .returning } cs) s' w') :
    RR P B E Post Child 0 (G { b.at a todo with mode := .returning } cs) s w :=
  rr_mk rfl fun s₁ w₁ hR hI _ _ => ⟨_, _, _, _, stepG_unwind_entry (v := .tuple #[]) (evs := #[mk .enable]) hd hf hname hb hn he (by simp [Extern.Race.none_]) (by simp [mk]) (by simp [mk]), .ena, ⟨rfl, rfl⟩, h _ _ ((hF.rely hB hR).ena hB)⟩
/-- 'race.Read(&wg.sema)', 'race.Write(&wg.sema)'. -/
theorem rr0_said (hB : B.Laws) (hF : HS s₀ w₀ Wg d p op ae s w) (m : Addr → Mark) (hm : m = .read ∨ m = .write) (ho : ops[i]? = some o) (hw : Region.wanted o (yielded ops a.tmps) = true) (hk : b.kind ≠ .early) (hop : o.op = .call { callee := .value (.func f), args := as, argTypes := ats })
    (hf : P.funcs[f]? = some fn) (hname : (fn.name == "runtime.NumGoroutine") = false) (hb : fn.body.isNone = true) (hn : Extern.findNext fn = none) (he : Extern.find fn = some (Extern.Race.marked m)) (hx : (as.map a.eval)[0]? = some (.pointer (some ⟨Wg, 1, none⟩)))
    (h : ∀ s' w', HS s₀ w₀ Wg d p op ae s' w' → RR P B E Post Child 0 (G (b.at (a.put o.dst (.tuple #[])) (.inRegion ops rest :: kk)) cs) s' w') :
    RR P B E Post Child 0 (G (b.at a (.inRegion ops (i :: rest) :: kk)) cs) s w :=
  rr_mk rfl fun s₁ w₁ hR hI _ _ =>
    have hF' := hF.rely hB hR
    ⟨_, _, _, s₁, stepG_markAt m (by rcases hm with rfl | rfl <;> simp) ho hw hk hop hf hname hb hn he hx, .said hF'.sf.on rfl (fun e hee => by
      simp at hee
      refine ⟨⟨Wg, 1, none⟩, ?_, hF'.sf.wg.symm⟩
      rcases hm with rfl | rfl
      · exact .inl hee
      · exact .inr hee), .refl _, h _ _ hF'⟩
/-- 'unsafe.Pointer(&wg.sema)', 'unsafe.Pointer(wg)'. -/
theorem rr0_conv (hB : B.Laws) (hF : HS s₀ w₀ Wg d p op ae s w) {src dst t : TypeId} {x : Operand} {off : Nat} (hs : P.underlying src = some (.pointer t)) (hd : P.underlying dst = some .unsafePointer) (hsz : (P.info? t).map (fun i => decide (i.size = 0)) = some false)
    (ho : ops[i]? = some o) (hw : Region.wanted o (yielded ops a.tmps) = true) (hk : b.kind ≠ .early) (hop : o.op = .convert src dst x) (hx : a.eval x = .pointer (some ⟨Wg, off, none⟩)) (hoff : off = 0 ∨ off = 1)
    (h : RR P B E Post Child 0 (G (b.at (a.put o.dst (.pointer (some ⟨Wg, off, none⟩))) (.inRegion ops rest :: kk)) cs) s w) :
    RR P B E Post Child 0 (G (b.at a (.inRegion ops (i :: rest) :: kk)) cs) s w := by
  refine rr_conv hB (F := HS s₀ w₀ Wg d p op ae) hF (fun h r => h.rely hB r) ho hw hk (fun s₁ w₁ hF hI => ?_) h
  obtain ⟨v, hc⟩ : ∃ v, w₁.cell? ⟨Wg, off, none⟩ = some v := by
    rcases hoff with rfl | rfl
    · exact ⟨_, wg_cell0 (hF.at hI)⟩
    · exact ⟨_, wg_cell1 (hF.at hI)⟩
  unfold execOp
  simp only [hop, hx]
  have h1 := run_convert_to_unsafe (P := P) hs hd hsz hc
  have h2 := fun es => events_convert_to_unsafe (P := P) hs hd hsz hc es
  refine ⟨?_, ?_⟩
  · simp [h1, Result.andThen]
  · simp [h1, h2, Result.evThen]
/-- The atomic addition of one. -/
theorem rr0_add (hB : B.Laws) (hF : HS s₀ w₀ Wg (d + 1) false true ae s w) {x y : Operand} (ho : ops[i]? = some o) (hw : Region.wanted o (yielded ops a.tmps) = true) (hk : b.kind ≠ .early) (hop : o.op = .call { callee := .value (.func f), args := #[x, y], argTypes := ats })
    (hf : P.funcs[f]? = some fn) (hname : (fn.name == "runtime.NumGoroutine") = false) (hb : fn.body.isNone = true) (hn : Extern.findNext fn = none) (he : Extern.find fn = some (Extern.Atomic.update (Op.intArith .add) .u64 true))
    (hx : a.eval x = .pointer (some ⟨Wg, 0, none⟩)) (hy : a.eval y = .int .u64 KK)
    (h : ∀ (V S : Int) s' w', 1 ≤ V → V ≤ 2147483647 → S = V * KK → HS s₀ w₀ Wg (d + 1) true true ae s' w' → RR P B E Post Child 0 (G (b.at (a.put o.dst (.int .u64 S)) (.inRegion ops rest :: kk)) cs) s' w') :
    RR P B E Post Child 0 (G (b.at a (.inRegion ops (i :: rest) :: kk)) cs) s w :=
  rr_mk rfl fun s₁ w₁ hR hI _ _ => by
    have hF' := hF.rely hB hR
    have hA := hF'.at hI
    have hp : s₁.ph = .opn := hF'.sf.ph.2 rfl
    have hc : s₁.cnt = s₁.alive.length := by simp [St.cnt, hF'.sf.pe]
    have hv : s₁.cnt < 2147483647 := by have := hI.C.len; have := hI.C.small; have := E.small; omega
    rw [hp] at hA
    have hst : ((s₁.cnt : Int) * KK + ((Ph.opn).wt : Int)) = (s₁.cnt : Int) * KK := by simp [Ph.wt]
    rw [hst] at hA
    have e0 : IntKind.u64.wrap ((s₁.cnt : Int) * KK + KK) = ((s₁.cnt : Int) + 1) * KK := by rw [IntKind.wrap_u64]; simp only [KK]; omega
    have hstep := stepG_add_atomic (P := P) (main := (0 == 0)) (kk := kk) (rest := rest) (cs := cs) ho hw hk hop hf hname hb hn .u64 he hx hy (wg_cell0 hA) (wg_thaw hA 0)
    rw [e0] at hstep
    refine ⟨_, _, _, { s₁ with pend := true }, hstep, ?_, ⟨rfl, rfl⟩, h ((s₁.cnt : Int) + 1) _ _ _ (by omega) (by omega) rfl (by have := hF'.add hB hI (.int .u64 (((s₁.cnt : Int) + 1) * KK)); rw [hF'.sf.wg] at this; exact this)⟩
    have := Mv.add (E := E) (k := 0) (s := s₁) (w := w₁) (es := #[rd ⟨Wg, 0, none⟩, wr ⟨Wg, 0, none⟩]) rfl hF'.sf.on hp hF'.sf.pe hF'.sf.jn (by rw [hF'.sf.df]; omega) (wg_evs hF'.sf.wg fun e he => by
      simp at he; rcases he with rfl | rfl
      · exact ⟨_, rfl⟩
      · exact ⟨_, rfl⟩)
    rw [hF'.sf.wg] at this
    exact this
/-- The atomic load of the state, in Wait's loop. -/
theorem rr0_load (hB : B.Laws) (hF : HS s₀ w₀ Wg d false true ae s w) {x : Operand} (ho : ops[i]? = some o) (hw : Region.wanted o (yielded ops a.tmps) = true) (hk : b.kind ≠ .early) (hop : o.op = .call { callee := .value (.func f), args := #[x], argTypes := ats })
    (hf : P.funcs[f]? = some fn) (hname : (fn.name == "runtime.NumGoroutine") = false) (hb : fn.body.isNone = true) (hn : Extern.findNext fn = none) (he : Extern.find fn = some (Extern.Atomic.loadT (.int .u64))) (hx : a.eval x = .pointer (some ⟨Wg, 0, none⟩))
    (h : ∀ (v : Nat) (S : Int) s' w', v < 2147483647 → S = (v : Int) * KK → HS s₀ w₀ Wg d false true ae s' w' → s'.alive.length = v → (ae = true → v = 0) → v ≤ s.alive.length → RR P B E Post Child 0 (G (b.at (a.put o.dst (.int .u64 S)) (.inRegion ops rest :: kk)) cs) s' w') :
    RR P B E Post Child 0 (G (b.at a (.inRegion ops (i :: rest) :: kk)) cs) s w :=
  rr_mk rfl fun s₁ w₁ hR hI _ _ => by
    have hF' := hF.rely hB hR
    have hA := hF'.at hI
    have hp : s₁.ph = .opn := hF'.sf.ph.2 rfl
    have hc : s₁.cnt = s₁.alive.length := by simp [St.cnt, hF'.sf.pe]
    have hv : s₁.cnt < 2147483647 := by have := hI.C.len; have := hI.C.small; have := E.small; omega
    rw [hp] at hA
    have hst : ((s₁.cnt : Int) * KK + ((Ph.opn).wt : Int)) = (s₁.cnt : Int) * KK := by simp [Ph.wt]
    rw [hst] at hA
    have hstep := stepG_load_atomic (P := P) (main := (0 == 0)) (kk := kk) (rest := rest) (cs := cs) ho hw hk hop hf hname hb hn .u64 he hx (wg_cell0 hA)
    refine ⟨_, _, _, s₁, hstep, .wgr hF'.sf.on (.inl rfl) (wg_evs hF'.sf.wg fun e he => ?_), .refl _, h s₁.cnt _ _ _ hv rfl hF' hc.symm (fun e => by rw [hc, hF'.sf.al e]; rfl) (by rw [hc]; exact (hR.zero rfl).2.2.2.2.2.2)⟩
    simp at he
    exact ⟨_, he⟩
/-- The CompareAndSwap: it hits: registered; it misses. -/
theorem rr0_cas (hB : B.Laws) (hF : HS s₀ w₀ Wg d false true ae s w) {x y z : Operand} {v : Nat} {S : Int} (hS : S = (v : Int) * KK) (hv0 : 0 < v) (hv : v < 2147483647) (hlen : s.alive.length ≤ v) (ho : ops[i]? = some o) (hw : Region.wanted o (yielded ops a.tmps) = true) (hk : b.kind ≠ .early) (hop : o.op = .call { callee := .value (.func f), args := #[x, y, z], argTypes := ats })
    (hf : P.funcs[f]? = some fn) (hname : (fn.name == "runtime.NumGoroutine") = false) (hb : fn.body.isNone = true) (hn : Extern.findNext fn = none) (he : Extern.find fn = some (Extern.Atomic.casT (.int .u64)))
    (hx : a.eval x = .pointer (some ⟨Wg, 0, none⟩)) (hy : a.eval y = .int .u64 S) (hz : a.eval z = .int .u64 (S + 1))
    (hhit : ∀ s' w', HS s₀ w₀ Wg d false false ae s' w' → RR P B E Post Child 0 (G (b.at (a.put o.dst (.bool true)) (.inRegion ops rest :: kk)) cs) s' w')
    (hmiss : ∀ s' w', HS s₀ w₀ Wg d false true ae s' w' → s'.alive.length < v → RR P B E Post Child 0 (G (b.at (a.put o.dst (.bool false)) (.inRegion ops rest :: kk)) cs) s' w') :
    RR P B E Post Child 0 (G (b.at a (.inRegion ops (i :: rest) :: kk)) cs) s w := by
  refine rr_gen rfl fun s₁ w₁ hR hI _ hfin => ?_
  subst hS
  have hF' := hF.rely hB hR
  have hA := hF'.at hI
  have hp : s₁.ph = .opn := hF'.sf.ph.2 rfl
  have hc : s₁.cnt = s₁.alive.length := by simp [St.cnt, hF'.sf.pe]
  rw [hp] at hA
  have hst : ((s₁.cnt : Int) * KK + ((Ph.opn).wt : Int)) = (s₁.cnt : Int) * KK := by simp [Ph.wt]
  rw [hst] at hA
  by_cases e : s₁.cnt = v
  · subst e
    have hstep := stepG_cas_hit (P := P) (main := (0 == 0)) (kk := kk) (rest := rest) (cs := cs) ho hw hk hop hf hname hb hn .u64 he hx hy hz (wg_cell0 hA) (wg_thaw hA 0)
    refine ⟨_, _, _, { s₁ with ph := .reg }, hstep, ?_, .inl fun _ => .inl rfl, .inr ⟨hfin, ?_⟩⟩
    · have := Mv.cas (E := E) (k := 0) (s := s₁) (w := w₁) (es := #[rd ⟨Wg, 0, none⟩, wr ⟨Wg, 0, none⟩]) rfl hF'.sf.on hp hF'.sf.pe (fun e => by rw [hc, e] at hv0; simp at hv0) (wg_evs hF'.sf.wg fun e he => by
        simp at he; rcases he with rfl | rfl
        · exact ⟨_, rfl⟩
        · exact ⟨_, rfl⟩)
      rw [hF'.sf.wg] at this
      exact this
    · have := hF'.cas hB hI (.int .u64 ((s₁.cnt : Int) * KK + 1))
      rw [hF'.sf.wg] at this
      exact hhit _ _ this
  · have hlt : s₁.alive.length < v := by have := (hR.zero rfl).2.2.2.2.2.2; omega
    have hne : ¬ (s₁.cnt : Int) * KK = (v : Int) * KK := by simp only [KK]; omega
    have hstep := stepG_cas_miss (P := P) (main := (0 == 0)) (kk := kk) (rest := rest) (cs := cs) ho hw hk hop hf hname hb hn .u64 he hx hy hz (wg_cell0 hA) (wg_thaw hA 0) hne
    refine ⟨_, _, _, s₁, hstep, .wgr hF'.sf.on (.inl rfl) (wg_evs hF'.sf.wg fun e he => ?_), .inl id, .inr ⟨hfin, hmiss _ _ hF' hlt⟩⟩
    simp at he
    exact ⟨_, he⟩
/-- The semaphore. -/
theorem rr0_sem (hB : B.Laws) (hF : HS s₀ w₀ Wg d false false ae s w) (ho : ops[i]? = some o) (hw : Region.wanted o (yielded ops a.tmps) = true) (hk : b.kind ≠ .early) (hop : o.op = .call { callee := .value (.func f), args := as, argTypes := ats })
    (hf : P.funcs[f]? = some fn) (hname : (fn.name == "runtime.NumGoroutine") = false) (hb : fn.body.isNone = true) (hn : Extern.findNext fn = none) (he : Extern.find fn = some Extern.Sync.semacquire) (hx : (as.map a.eval)[0]? = some (.pointer (some ⟨Wg, 1, none⟩)))
    (h : ∀ s' w', HS s₀ w₀ Wg d false true true s' w' → RR P B E Post Child 0 (G (b.at (a.put o.dst (.tuple #[])) (.inRegion ops rest :: kk)) cs) s' w') :
    RR P B E Post Child 0 (G (b.at a (.inRegion ops (i :: rest) :: kk)) cs) s w := by
  refine rr_wait rfl rfl fun s₁ w₁ hR hI => ?_
  have hF' := hF.rely hB hR
  have hA := hF'.at hI
  have hno : s₁.ph ≠ .opn := fun e => by have := hF'.sf.ph.1 e; cases this
  by_cases hp : s₁.ph = .sema
  · refine .inr ⟨(by rintro (e | ⟨_, _, e⟩) <;> rw [hp] at e <;> cases e), ?_⟩
    have hA1 : WgAt E.ty Wg w₁ ((s₁.cnt : Int) * KK + (s₁.ph.wt : Int)) 1 := by rw [hp] at hA ⊢; exact hA
    have hstep := stepG_semacquire (P := P) (main := true) (kk := kk) (rest := rest) (cs := cs) (n := 1) ho hw hk hop hf hname hb hn he hx (wg_cell1 hA1) (by decide) (wg_thaw hA1 1)
    refine ⟨_, _, _, { s₁ with ph := .opn }, hstep, ?_, rfl, ?_⟩
    · have := Mv.take (E := E) (k := 0) (s := s₁) (w := w₁) rfl hF'.sf.on hp
      rw [hF'.sf.wg] at this
      exact this
    · have := hF'.take hB hI hp (.int .u32 0)
      rw [hF'.sf.wg] at this
      exact h _ _ this
  · have hA0 : WgAt E.ty Wg w₁ ((s₁.cnt : Int) * KK + (s₁.ph.wt : Int)) 0 := by
      cases hq : s₁.ph with
      | sema => exact absurd hq hp
      | opn => exact absurd hq hno
      | reg => rw [hq] at hA; exact hA
      | last k b => rw [hq] at hA; exact hA
    refine .inl ⟨stepG_semacquire_wait (P := P) (main := true) (kk := kk) (rest := rest) (cs := cs) ho hw hop hf hname hb hn he hx (wg_cell1 hA0), ?_⟩
    cases hq : s₁.ph with
    | sema => exact absurd hq hp
    | opn => exact absurd hq hno
    | reg => exact .inl hq
    | last k b => exact .inr ⟨k, b, hq⟩
/-- The join. -/
theorem rr0_join (hB : B.Laws) (hF : HS s₀ w₀ Wg 0 false true true s w) (ho : ops[i]? = some o) (hw : Region.wanted o (yielded ops a.tmps) = true) (hk : b.kind ≠ .early) (hop : o.op = .call { callee := .value (.func f), args := as, argTypes := ats })
    (hf : P.funcs[f]? = some fn) (hname : (fn.name == "runtime.NumGoroutine") = false) (hb : fn.body.isNone = true) (hn : Extern.findNext fn = none) (he : Extern.find fn = some (Extern.Race.marked .acquire)) (hx : (as.map a.eval)[0]? = some (.pointer (some ⟨Wg, 0, none⟩)))
    (h : ∀ s' w', HS s₀ w₀ Wg 0 false true true s' w' → Ok E s' w' → (∀ k, 1 ≤ k → k < s'.tg.n → B.Fin s'.u k s'.tg.mode w') → RR P B E Post Child 0 (G (b.at (a.put o.dst (.tuple #[])) (.inRegion ops rest :: kk)) cs) s'.join w') :
    RR P B E Post Child 0 (G (b.at a (.inRegion ops (i :: rest) :: kk)) cs) s w :=
  rr_mk rfl fun s₁ w₁ hR hI _ _ =>
    have hF' := hF.rely hB hR
    ⟨_, _, _, s₁.join, stepG_markAt .acquire (by simp) ho hw hk hop hf hname hb hn he hx, mv_join hI hF'.sf, ⟨rfl, rfl⟩, h _ _ hF' hI fun k k1 hk => hI.F hF'.sf.jn k k1 hk (hI.C.relA k k1 hk (by rw [hF'.sf.al rfl]; simp))⟩
end

/-! ### a worker's -/
structure WS (Wg k d : Nat) (r : Bool) (s : St B) : Prop where
  on : s.on = true
  wg : s.tg.wg = Wg
  df : s.tg.deaf k = d
  rl : s.tg.rel k = r
  al : k ∈ s.alive
structure LS (Wg k d : Nat) (st : Bool) (s : St B) : Prop where
  on : s.on = true
  wg : s.tg.wg = Wg
  df : s.tg.deaf k = d
  ph : s.ph = .last k st
section
variable {s₁ : St B} {w₁ : World} {Wg d : Nat} {r st : Bool}
theorem WS.rely (h : WS Wg k d r s) (k1 : 1 ≤ k) (hR : Rl k s w s₁ w₁) : WS Wg k d r s₁ := ⟨(hR.on h.on).1, (hR.on h.on).2.trans h.wg, hR.deaf.trans h.df, hR.rel.trans h.rl, (hR.worker k1).1 h.al⟩
theorem LS.rely (h : LS Wg k d st s) (k1 : 1 ≤ k) (hR : Rl k s w s₁ w₁) : LS Wg k d st s₁ := ⟨(hR.on h.on).1, (hR.on h.on).2.trans h.wg, hR.deaf.trans h.df, (hR.worker k1).2 _ h.ph⟩

/-- 'race.ReleaseMerge(wg)'. -/
theorem rrk_relm (k1 : 1 ≤ k) {A : St B → World → Prop} (hA : A s w) (hst : ∀ {s w s₁ w₁}, A s w → Rl k s w s₁ w₁ → A s₁ w₁) (hx1 : ∀ {s w}, A s w → WS Wg k 0 false s ∧ B.Fin s.u k s.tg.mode w)
    (ho : ops[i]? = some o) (hw : Region.wanted o (yielded ops a.tmps) = true) (hk : b.kind ≠ .early) (hop : o.op = .call { callee := .value (.func f), args := as, argTypes := ats })
    (hf : P.funcs[f]? = some fn) (hname : (fn.name == "runtime.NumGoroutine") = false) (hb : fn.body.isNone = true) (hn : Extern.findNext fn = none) (he : Extern.find fn = some (Extern.Race.marked .releaseMerge)) (hx : (as.map a.eval)[0]? = some (.pointer (some ⟨Wg, 0, none⟩)))
    (h : ∀ s' w', WS Wg k 0 true s' → RR P B E Post Child k (G (b.at (a.put o.dst (.tuple #[])) (.inRegion ops rest :: kk)) cs) s' w') :
    RR P B E Post Child k (G (b.at a (.inRegion ops (i :: rest) :: kk)) cs) s w :=
  rr_mk rfl fun s₁ w₁ hR hI _ _ => by
    obtain ⟨hW, hFin⟩ := hx1 (hst hA hR)
    refine ⟨_, _, _, { s₁ with tg := { s₁.tg with rel := upd s₁.tg.rel k true } }, stepG_markAt .releaseMerge (by simp) ho hw hk hop hf hname hb hn he hx, ?_, ⟨rfl, rfl⟩, h _ _ ⟨hW.on, hW.wg, hW.df, upd_same _ _ _, hW.al⟩⟩
    have := Mv.relm (E := E) (k := k) (s := s₁) (w := w₁) k1 hW.on hW.df hW.rl hFin
    rw [hW.wg] at this
    exact this
theorem rrk_dis (k1 : 1 ≤ k) (hW : WS Wg k d r s) (ho : ops[i]? = some o) (hw : Region.wanted o (yielded ops a.tmps) = true) (hk : b.kind ≠ .early) (hop : o.op = .call { callee := .value (.func f), args := as, argTypes := ats })
    (hf : P.funcs[f]? = some fn) (hname : (fn.name == "runtime.NumGoroutine") = false) (hb : fn.body.isNone = true) (hn : Extern.findNext fn = none) (he : Extern.find fn = some (fun _ => do mark .disable; pure Extern.Race.none_))
    (h : ∀ s' w', WS Wg k (d + 1) r s' → RR P B E Post Child k (G (b.at (a.put o.dst (.tuple #[])) (.inRegion ops rest :: kk)) cs) s' w') :
    RR P B E Post Child k (G (b.at a (.inRegion ops (i :: rest) :: kk)) cs) s w :=
  rr_mk rfl fun s₁ w₁ hR hI _ _ => by
    have hW := hW.rely k1 hR
    refine ⟨_, _, _, _, stepG_mark0 .disable (by simp) ho hw hk hop hf hname hb hn he, .dis, ⟨rfl, rfl⟩, h _ _ ⟨hW.on, hW.wg, ?_, hW.rl, hW.al⟩⟩
    show upd s₁.tg.deaf k (s₁.tg.deaf k + 1) k = _
    rw [upd_same, hW.df]
theorem rrk_conv (hB : B.Laws) {A : St B → World → Prop} (hA : A s w) (hst : ∀ {s w s₁ w₁}, A s w → Rl k s w s₁ w₁ → A s₁ w₁) (hx1 : ∀ {s w}, A s w → s.on = true ∧ s.tg.wg = Wg)
    {src dst t : TypeId} {x : Operand} (hs : P.underlying src = some (.pointer t)) (hd : P.underlying dst = some .unsafePointer) (hsz : (P.info? t).map (fun i => decide (i.size = 0)) = some false)
    (ho : ops[i]? = some o) (hw : Region.wanted o (yielded ops a.tmps) = true) (hk : b.kind ≠ .early) (hop : o.op = .convert src dst x) (hx : a.eval x = .pointer (some ⟨Wg, 0, none⟩))
    (h : RR P B E Post Child k (G (b.at (a.put o.dst (.pointer (some ⟨Wg, 0, none⟩))) (.inRegion ops rest :: kk)) cs) s w) :
    RR P B E Post Child k (G (b.at a (.inRegion ops (i :: rest) :: kk)) cs) s w := by
  refine rr_conv hB (F := A) hA hst ho hw hk (fun s₁ w₁ hF hI => ?_) h
  obtain ⟨hon, hwg⟩ := hx1 hF
  have hAt := hI.A hon
  rw [hwg] at hAt
  have hc := wg_cell0 hAt
  unfold execOp
  simp only [hop, hx]
  have h1 := run_convert_to_unsafe (P := P) hs hd hsz hc
  have h2 := fun es => events_convert_to_unsafe (P := P) hs hd hsz hc es
  refine ⟨?_, ?_⟩
  · simp [h1, Result.andThen]
  · simp [h1, h2, Result.evThen]
/-- The atomic addition of minus one: the last one while the starter waits goes on; any other only leaves. -/
theorem rrk_neg (k1 : 1 ≤ k) (hW : WS Wg k (d + 1) true s) {x y : Operand} {y0 : Int} (hy0 : y0 = 18446744069414584320) (ho : ops[i]? = some o) (hw : Region.wanted o (yielded ops a.tmps) = true) (hk : b.kind ≠ .early) (hop : o.op = .call { callee := .value (.func f), args := #[x, y], argTypes := ats })
    (hf : P.funcs[f]? = some fn) (hname : (fn.name == "runtime.NumGoroutine") = false) (hb : fn.body.isNone = true) (hn : Extern.findNext fn = none) (he : Extern.find fn = some (Extern.Atomic.update (Op.intArith .add) .u64 true))
    (hx : a.eval x = .pointer (some ⟨Wg, 0, none⟩)) (hy : a.eval y = .int .u64 y0)
    (hq : ∀ (v wt : Nat) (S : Int), v < 2147483647 → wt ≤ 1 → (wt = 1 → 0 < v) → S = (v : Int) * KK + (wt : Int) → ∃ q, QuitsD P q (d + 1) (G (b.at (a.put o.dst (.int .u64 S)) (.inRegion ops rest :: kk)) cs))
    (hl : ∀ s' w', LS Wg k (d + 1) false s' → RR P B E Post Child k (G (b.at (a.put o.dst (.int .u64 1)) (.inRegion ops rest :: kk)) cs) s' w') :
    RR P B E Post Child k (G (b.at a (.inRegion ops (i :: rest) :: kk)) cs) s w := by
  refine rr_gen rfl fun s₁ w₁ hR hI hkn hfin => ?_
  have hW := hW.rely k1 hR
  have hA := hI.A hW.on
  rw [hW.wg] at hA
  have hpos : 0 < s₁.alive.length := List.length_pos_of_mem hW.al
  have hcp : 0 < s₁.cnt := by simp only [St.cnt]; omega
  have hcl : s₁.cnt ≤ s₁.alive.length + 1 := by simp only [St.cnt]; split <;> omega
  have hv : s₁.cnt - 1 < 2147483647 := by have := hI.C.len; have := hI.C.small; have := E.small; omega
  have hne : s₁.alive ≠ [] := fun e => by rw [e] at hpos; simp at hpos
  have hwt : s₁.ph.wt ≤ 1 := by cases s₁.ph with
    | last _ b => cases b <;> simp [Ph.wt]
    | _ => simp [Ph.wt]
  have e1 : (s₁.cnt : Int) = ((s₁.cnt - 1 : Nat) : Int) + 1 := by omega
  have ew : IntKind.u64.wrap ((s₁.cnt : Int) * KK + (s₁.ph.wt : Int) + y0) = ((s₁.cnt - 1 : Nat) : Int) * KK + (s₁.ph.wt : Int) := by
    rw [IntKind.wrap_u64, hy0, e1]; simp only [KK]; omega
  have hstep := stepG_add_atomic (P := P) (main := (k == 0)) (kk := kk) (rest := rest) (cs := cs) ho hw hk hop hf hname hb hn .u64 he hx hy (wg_cell0 hA) (wg_thaw hA 0)
  rw [ew] at hstep
  have hev : wgEvs s₁.tg #[rd ⟨Wg, 0, none⟩, wr ⟨Wg, 0, none⟩] := wg_evs hW.wg fun e he => by
    simp at he; rcases he with rfl | rfl
    · exact ⟨_, rfl⟩
    · exact ⟨_, rfl⟩
  by_cases hlast : s₁.ph = .reg ∧ s₁.alive.length = 1
  · have hpe := (hI.C.reg hlast.1).2
    have hc1 : s₁.cnt = 1 := by simp [St.cnt, hpe, hlast.2]
    have ez : ((s₁.cnt - 1 : Nat) : Int) * KK + (s₁.ph.wt : Int) = 1 := by rw [hc1, hlast.1]; simp [Ph.wt]
    rw [ez] at hstep
    refine ⟨_, _, _, { s₁ with alive := [], ph := .last k false }, hstep, ?_, .inl fun _ => .inr ⟨k, false, rfl⟩, .inr ⟨hfin, hl _ _ ⟨hW.on, hW.wg, hW.df, rfl⟩⟩⟩
    have := Mv.negl (E := E) (k := k) (s := s₁) (w := w₁) k1 hW.on (by rw [hW.df]; omega) hW.rl hW.al hlast.1 hlast.2 hev
    rw [hW.wg] at this
    exact this
  · have hd0 : 0 < s₁.tg.deaf k := by rw [hW.df]; omega
    refine ⟨_, _, _, { s₁ with alive := s₁.alive.erase k, tg := { s₁.tg with fin := upd s₁.tg.fin k true } }, hstep, ?_, .inl fun hb => hb, .inl ⟨upd_same _ _ _, ?_⟩⟩
    · have := Mv.neg (E := E) (k := k) (s := s₁) (w := w₁) k1 hW.on hd0 hW.rl hW.al hlast hev
      rw [hW.wg] at this
      exact this
    · have hdd : deafBehind (s₁.tg.deaf k) #[rd ⟨Wg, 0, none⟩, wr ⟨Wg, 0, none⟩] = d + 1 := by rw [hW.df]; simp [deafBehind, rd, wr]
      have hq' := hq (s₁.cnt - 1) s₁.ph.wt _ hv hwt (fun e => by
        have hr : s₁.ph = .reg := by
          cases hp : s₁.ph with
          | reg => rfl
          | opn => rw [hp] at e; cases e
          | sema => rw [hp] at e; cases e
          | last k b => exact absurd (hI.C.last k b hp).1 hne
        have : s₁.alive.length ≠ 1 := fun e2 => hlast ⟨hr, e2⟩
        have : s₁.alive.length ≤ s₁.cnt := by simp only [St.cnt]; omega
        omega) rfl
      have hdd' : deafBehind (s₁.tg.deaf k) #[⟨.cell ⟨Wg, 0, none⟩, false, true⟩, ⟨.cell ⟨Wg, 0, none⟩, true, true⟩] = d + 1 := hdd
      rw [hdd']
      exact hq'
/-- The last one: it looks again, puts the state down, raises the semaphore. -/
theorem rrk_load (k1 : 1 ≤ k) (hL : LS Wg k (d + 1) false s) {x : Operand} (ho : ops[i]? = some o) (hw : Region.wanted o (yielded ops a.tmps) = true) (hk : b.kind ≠ .early) (hop : o.op = .call { callee := .value (.func f), args := #[x], argTypes := ats })
    (hf : P.funcs[f]? = some fn) (hname : (fn.name == "runtime.NumGoroutine") = false) (hb : fn.body.isNone = true) (hn : Extern.findNext fn = none) (he : Extern.find fn = some (Extern.Atomic.loadT (.int .u64))) (hx : a.eval x = .pointer (some ⟨Wg, 0, none⟩))
    (h : ∀ s' w', LS Wg k (d + 1) false s' → RR P B E Post Child k (G (b.at (a.put o.dst (.int .u64 1)) (.inRegion ops rest :: kk)) cs) s' w') :
    RR P B E Post Child k (G (b.at a (.inRegion ops (i :: rest) :: kk)) cs) s w :=
  rr_mk rfl fun s₁ w₁ hR hI _ _ => by
    have hL := hL.rely k1 hR
    have hA := hI.A hL.on
    obtain ⟨ha, hq, _⟩ := hI.C.last k _ hL.ph
    have ez : ((s₁.cnt : Nat) : Int) * KK + (s₁.ph.wt : Int) = 1 := by rw [hL.ph]; simp [St.cnt, ha, hq, Ph.wt]
    rw [hL.wg, ez] at hA
    have hstep := stepG_load_atomic (P := P) (main := (k == 0)) (kk := kk) (rest := rest) (cs := cs) ho hw hk hop hf hname hb hn .u64 he hx (wg_cell0 hA)
    refine ⟨_, _, _, s₁, hstep, .wgr hL.on (.inr (.inr (by rw [hL.df]; omega))) (wg_evs hL.wg fun e he => ?_), .refl _, h _ _ hL⟩
    simp at he
    exact ⟨_, he⟩
theorem rrk_put (k1 : 1 ≤ k) (hL : LS Wg k (d + 1) false s) {x y : Operand} (ho : ops[i]? = some o) (hw : Region.wanted o (yielded ops a.tmps) = true) (hk : b.kind ≠ .early) (hop : o.op = .call { callee := .value (.func f), args := #[x, y], argTypes := ats })
    (hf : P.funcs[f]? = some fn) (hname : (fn.name == "runtime.NumGoroutine") = false) (hb : fn.body.isNone = true) (hn : Extern.findNext fn = none) (he : Extern.find fn = some Extern.Atomic.storeT) (hx : a.eval x = .pointer (some ⟨Wg, 0, none⟩)) (hy : a.eval y = .int .u64 0)
    (h : ∀ s' w', LS Wg k (d + 1) true s' → RR P B E Post Child k (G (b.at (a.put o.dst (.tuple #[])) (.inRegion ops rest :: kk)) cs) s' w') :
    RR P B E Post Child k (G (b.at a (.inRegion ops (i :: rest) :: kk)) cs) s w := by
  refine rr_gen rfl fun s₁ w₁ hR hI hkn hfin => ?_
  have hL := hL.rely k1 hR
  have hA := hI.A hL.on
  rw [hL.wg] at hA
  have hstep := stepG_store_atomic (P := P) (main := (k == 0)) (kk := kk) (rest := rest) (cs := cs) ho hw hk hop hf hname hb hn he hx hy (wg_cell0 hA) (wg_thaw hA 0)
  refine ⟨_, _, _, { s₁ with ph := .last k true }, hstep, ?_, .inl fun _ => .inr ⟨k, true, rfl⟩, .inr ⟨hfin, h _ _ ⟨hL.on, hL.wg, hL.df, rfl⟩⟩⟩
  have := Mv.put (E := E) (k := k) (s := s₁) (w := w₁) (es := #[wr ⟨Wg, 0, none⟩]) hL.on (by rw [hL.df]; omega) hL.ph (wg_evs hL.wg fun e he => ⟨true, by simp at he; exact he⟩)
  rw [hL.wg] at this
  exact this
theorem rrk_up (k1 : 1 ≤ k) (hL : LS Wg k (d + 1) true s) (ho : ops[i]? = some o) (hw : Region.wanted o (yielded ops a.tmps) = true) (hk : b.kind ≠ .early) (hop : o.op = .call { callee := .value (.func f), args := as, argTypes := ats })
    (hf : P.funcs[f]? = some fn) (hname : (fn.name == "runtime.NumGoroutine") = false) (hb : fn.body.isNone = true) (hn : Extern.findNext fn = none) (he : Extern.find fn = some Extern.Sync.semrelease) (hx : (as.map a.eval)[0]? = some (.pointer (some ⟨Wg, 1, none⟩)))
    (h : ∃ q, QuitsD P q (d + 1) (G (b.at (a.put o.dst (.tuple #[])) (.inRegion ops rest :: kk)) cs)) :
    RR P B E Post Child k (G (b.at a (.inRegion ops (i :: rest) :: kk)) cs) s w := by
  refine rr_gen rfl fun s₁ w₁ hR hI hkn hfin => ?_
  have hL := hL.rely k1 hR
  have hA := hI.A hL.on
  rw [hL.wg] at hA
  have hA0 : WgAt E.ty Wg w₁ ((s₁.cnt : Int) * KK + (s₁.ph.wt : Int)) 0 := by rw [hL.ph] at hA ⊢; exact hA
  have hstep := stepG_semrelease (P := P) (main := (k == 0)) (kk := kk) (rest := rest) (cs := cs) ho hw hk hop hf hname hb hn he hx (wg_cell1 hA0) (wg_thaw hA0 1)
  have e1 : IntKind.u32.wrap (0 + 1) = 1 := by decide
  rw [e1] at hstep
  refine ⟨_, _, _, { s₁ with ph := .sema, tg := { s₁.tg with fin := upd s₁.tg.fin k true } }, hstep, ?_, .inr ⟨mayWake_entry ho hop hf hb, rfl⟩, .inl ⟨upd_same _ _ _, ?_⟩⟩
  · have := Mv.up (E := E) (k := k) (s := s₁) (w := w₁) hL.on (by rw [hL.df]; omega) hL.ph
    rw [hL.wg] at this
    exact this
  · have hdd : deafBehind (s₁.tg.deaf k) (semEvents ⟨Wg, 1, none⟩) = d + 1 := by rw [hL.df]; simp [deafBehind, semEvents]
    rw [hdd]
    exact h
end
end
end Go.Proofs.Ytbamamkjmfkghaa.Crw
