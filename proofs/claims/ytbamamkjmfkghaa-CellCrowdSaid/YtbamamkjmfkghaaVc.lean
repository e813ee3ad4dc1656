/- A goroutine's own walk under the protocol of a crowd: its steps one by one, at the machine's own grain.
No condition. -/
import Derived.Test.YtbamamkjmfkghaaVb
import Derived.Conc.WgGenN2
import Derived.Conc.AtomicLaws2
import Derived.Conc.CompanyMem
set_option linter.unusedSimpArgs false
set_option linter.unusedVariables false
namespace Go.Proofs.Ytbamamkjmfkghaa.Crw
open Go Go.Conc
open Go.ConcN (PermW RelBy upd upd_same upd_ne)
open Go.ConcR (stA smA KK WgAt wgBlock)
set_option linter.unusedVariables false

/-- What of the ghost an ordinary step leaves: who has ended, where the group stands. -/
structure Soft {B : Usr} (s s' : St B) : Prop where
  fin : s'.tg.fin = s.tg.fin
  ph : s'.ph = s.ph
theorem Soft.refl {B : Usr} (s : St B) : Soft s s := ⟨rfl, rfl⟩

section
variable {P : Program} {B : Usr} {E : Env} {Post : Value → World → Prop} {Child : Sit (proto P B E Post)} {k : Nat}
  {s s' : St B} {w w' : World} {g g' : Goroutine} {b : Frame} {a : Act} {kk : List Item} {cs : List Frame}

variable (P B E Post Child k) in
abbrev RR (g : Goroutine) (s : St B) (w : World) : Prop := Runs (proto P B E Post) Child k g s w

theorem RR.rely (hB : B.Laws) {s₁ : St B} {w₁ : World} (h : RR P B E Post Child k g s w) (r : Rl k s w s₁ w₁) : RR P B E Post Child k g s₁ w₁ := Runs.rely (proto_laws P hB E Post) h r

/-- A step of one's own, in whatever world the others may have left. -/
theorem rr_mk (hg : g.status = .running) (h : ∀ s₁ w₁, Rl k s w s₁ w₁ → Ok E s₁ w₁ → k < s₁.tg.n → s₁.tg.fin k = false →
    ∃ g' w' es s', stepG P (k == 0) g w₁ = .go g' w' es ∧ Mv E k s₁ w₁ s' w' es ∧ Soft s₁ s' ∧ RR P B E Post Child k g' s' w') : RR P B E Post Child k g s w :=
  .mk hg fun s₁ w₁ t₁ hR hI hk hne => by
    obtain ⟨g', w', es, s', h1, h2, h3, h4⟩ := h s₁ w₁ hR hI.1 hk (Bool.eq_false_iff.2 hne)
    have h4' : Runs (proto P B E Post) Child k g' s' w' := h4
    exact .inl ⟨g', w', es, s', h1, h2, .inl fun hb => by
      show BlkP s'
      have hb' : BlkP s₁ := hb
      unfold BlkP at *
      rw [h3.ph]; exact hb', .inr ⟨fun e => hne (by
      have e' : s'.tg.fin k = true := e
      rw [h3.fin] at e'; exact e'), h4'⟩⟩

/-- A move of control. -/
theorem rr_ctl (hB : B.Laws) (hg : g.status = .running) (h : ∀ w, stepG P (k == 0) g w = .go g' w) (hr : RR P B E Post Child k g' s w) : RR P B E Post Child k g s w :=
  rr_mk hg fun s₁ w₁ hR _ _ _ => ⟨g', w₁, #[], s₁, h w₁, .idle (d := w₁.drawn), .refl _, RR.rely hB hr hR⟩

/-- A region that asks the tape for its order. -/
theorem rr_draw (hB : B.Laws) {id : Nat} {ops : Array Oper} (h : ∀ t s₁ w₁, Rl k s w s₁ w₁ → RR P B E Post Child k (G (b.at a (.inRegion ops (Region.schedule (P.follows .mixedOrders) ops t) :: kk)) cs) s₁ w₁) :
    RR P B E Post Child k (G (b.at a (.code (.region id ops true) :: kk)) cs) s w :=
  rr_mk rfl fun s₁ w₁ hR _ _ _ => ⟨_, _, #[], s₁, stepG_region_draw, .idle (d := w₁.drawn + 1), .refl _, h _ _ _ ((proto_laws P hB E Post).trans hR ((proto_laws P hB E Post).drawR k s₁ w₁ (w₁.drawn + 1)))⟩

/-- An operation. -/
theorem rr_oper {ops : Array Oper} {i : Nat} {rest : List Nat} {o : Oper} (ho : ops[i]? = some o) (hw : Region.wanted o (yielded ops a.tmps) = true) (hk : b.kind ≠ .early)
    (h : ∀ s₁ w₁, Rl k s w s₁ w₁ → Ok E s₁ w₁ → ∀ K : Act → World → Prop,
      (∀ a' w', (∃ s', Mv E k s₁ w₁ s' w' (listed P b.fn a o w₁) ∧ Soft s₁ s' ∧ RR P B E Post Child k (G (b.at a' (.inRegion ops rest :: kk)) cs) s' w') → K a' w') → uponK o a K ((execOp a.eval o).run P w₁)) :
    RR P B E Post Child k (G (b.at a (.inRegion ops (i :: rest) :: kk)) cs) s w := by
  refine rr_mk rfl fun s₁ w₁ hR hI _ _ => ?_
  have := h s₁ w₁ hR hI (fun a' w' => ∃ s', Mv E k s₁ w₁ s' w' (listed P b.fn a o w₁) ∧ Soft s₁ s' ∧ RR P B E Post Child k (G (b.at a' (.inRegion ops rest :: kk)) cs) s' w') fun _ _ x => x
  generalize hr : (execOp a.eval o).run P w₁ = r at this
  match r, this with
  | .ok (.value v) w', ⟨s', h1, h2, h3⟩ => exact ⟨_, w', _, s', stepG_value ho hw hk hr, h1, h2, h3⟩
  | .ok .skip w', ⟨s', h1, h2, h3⟩ => exact ⟨_, w', _, s', stepG_none ho hw hk hr, h1, h2, h3⟩

/-- An operation that looks at no memory. -/
theorem rr_pure (hB : B.Laws) {ops : Array Oper} {i : Nat} {rest : List Nat} {o : Oper} (ho : ops[i]? = some o) (hw : Region.wanted o (yielded ops a.tmps) = true) (hk : b.kind ≠ .early)
    (he : ∀ w₁, (execOp a.eval o).events P w₁ #[] = #[])
    (h : ∀ w₁ : World, ∀ K : Act → World → Prop, (∀ a', RR P B E Post Child k (G (b.at a' (.inRegion ops rest :: kk)) cs) s w → K a' w₁) → uponK o a K ((execOp a.eval o).run P w₁)) :
    RR P B E Post Child k (G (b.at a (.inRegion ops (i :: rest) :: kk)) cs) s w := by
  refine rr_oper ho hw hk fun s₁ w₁ hR hI K hK => ?_
  refine h w₁ K fun a' hr => hK a' w₁ ⟨s₁, ?_, .refl _, RR.rely hB hr hR⟩
  have hl : listed P b.fn a o w₁ = #[] := listed_nil (he w₁)
  rw [hl]
  exact .idle (d := w₁.drawn)

/-! ### calls -/
variable (P B E Post Child k) in
/-- Called with these arguments the function comes back with a value and in a state that satisfy Q. -/
def CallX (f : FuncId) (args : Array Value) (s : St B) (w : World) (Q : Value → St B → World → Prop) : Prop :=
  ∃ fn c, P.funcs[f]? = some fn ∧ (fn.name == "runtime.NumGoroutine") = false ∧ fn.body = some c ∧
    ∀ cal cs, (∀ v s' w', Q v s' w' → RR P B E Post Child k (G (cal.finish v) cs) s' w') →
      RR P B E Post Child k (G ((base f).at { tmps := args ++ Array.replicate (fn.ntmps - args.size) undef, defers := [] } [.code c]) (cal :: cs)) s w

theorem rr_enter (hB : B.Laws) {ops : Array Oper} {i : Nat} {rest : List Nat} {o : Oper} {f : FuncId} {fn : Func} {c : Code} {args : Array Operand} {ats : Array TypeId} (ho : ops[i]? = some o) (hw : Region.wanted o (yielded ops a.tmps) = true) (hk : b.kind ≠ .early)
    (hop : o.op = .call { callee := .value (.func f), args, argTypes := ats }) (hf : P.funcs[f]? = some fn) (hname : (fn.name == "runtime.NumGoroutine") = false) (hb : fn.body = some c)
    (h : RR P B E Post Child k (G ((base f).at { tmps := args.map a.eval ++ Array.replicate (fn.ntmps - (args.map a.eval).size) undef, defers := [] } [.code c]) (b.at a (.inRegion ops (i :: rest) :: kk) :: cs)) s w) :
    RR P B E Post Child k (G (b.at a (.inRegion ops (i :: rest) :: kk)) cs) s w := by
  refine rr_ctl hB rfl (fun w => ?_) h
  have hb' : fn.body.isNone = false := by rw [hb]; rfl
  rw [stepG_enter ho hw hk (run_call_body hop hf hname hb'), enter_at _ hf hb]
  have : listed P b.fn a o w = #[] := by unfold listed; rw [events_call_body hop hf hname hb']; exact seen_none P _
  rw [this]

theorem rr_call (hB : B.Laws) {ops : Array Oper} {i : Nat} {rest : List Nat} {o : Oper} {f : FuncId} {args : Array Operand} {ats : Array TypeId} {Q : Value → St B → World → Prop} (ho : ops[i]? = some o) (hw : Region.wanted o (yielded ops a.tmps) = true) (hk : b.kind ≠ .early)
    (hop : o.op = .call { callee := .value (.func f), args, argTypes := ats }) (hc : CallX P B E Post Child k f (args.map a.eval) s w Q)
    (hn : ∀ v s' w', Q v s' w' → RR P B E Post Child k (G (b.at (a.put o.dst v) (.inRegion ops rest :: kk)) cs) s' w') :
    RR P B E Post Child k (G (b.at a (.inRegion ops (i :: rest) :: kk)) cs) s w := by
  obtain ⟨fn, c, hf, hname, hb, hc⟩ := hc
  refine rr_enter hB ho hw hk hop hf hname hb (hc _ _ fun v s' w' q => ?_)
  rw [Frame.finish_at, ho]
  exact hn v s' w' q

/-- The return, to whatever caller. -/
theorem rr_leave (hB : B.Laws) {fn : Func} {todo : List Item} {c : Frame} {v : Value} (hn : b.kind = .normal) (hd : a.defers = []) (hf : P.funcs[b.fn]? = some fn) (hr : ∀ w, (results fn a.tmps).run P w = .ok v w ∧ (results fn a.tmps).events P w #[] = #[])
    (h : RR P B E Post Child k (G (c.finish v) cs) s w) : RR P B E Post Child k (G { b.at a todo with mode := .returning } (c :: cs)) s w :=
  rr_ctl hB rfl (fun w => stepG_leave hn hd hf (hr w).1 (hr w).2) h
end

end Go.Proofs.Ytbamamkjmfkghaa.Crw
namespace Go.Proofs.Ytbamamkjmfkghaa.Crw
open Go Go.Conc
open Go.ConcN (upd upd_same upd_ne)
open Go.ConcR (stA smA KK WgAt wgBlock)
set_option linter.unusedVariables false

section
variable {P : Program} {B : Usr} {E : Env} {k : Nat} {s s' s₁ : St B} {w w' w₁ : World} {b : Nat} {t : TypeId} {vs : List Value} {es : Array Event}

/-- Block b holds vs and is k's own. -/
structure Own (k : Nat) (s : St B) (w : World) (b : Nat) (t : TypeId) (vs : List Value) : Prop where
  hp : w.heap[b]? = some (.cells vs.toArray t (0, 0))
  md : ∀ a, a.block = b → s.tg.mode (.cell a) = .own k
/-- Block b holds vs, k may read it. -/
structure Rds (k : Nat) (s : St B) (w : World) (b : Nat) (t : TypeId) (vs : List Value) : Prop where
  hp : w.heap[b]? = some (.cells vs.toArray t (0, 0))
  md : ∀ a, a.block = b → May s.tg k (.cell a)

theorem Own.rds (h : Own k s w b t vs) : Rds k s w b t vs := ⟨h.hp, fun a ha => .inl (h.md a ha)⟩
theorem Own.lt (h : Own k s w b t vs) : b < w.heap.size := (Array.getElem?_eq_some_iff.1 h.hp).1
theorem Rds.lt (h : Rds k s w b t vs) : b < w.heap.size := (Array.getElem?_eq_some_iff.1 h.hp).1
theorem Rds.cell (h : Rds k s w b t vs) (off : Nat) : w.cell? ⟨b, off, none⟩ = vs[off]? := by simp [World.cell?, h.hp]
theorem Own.cell (h : Own k s w b t vs) (off : Nat) : w.cell? ⟨b, off, none⟩ = vs[off]? := h.rds.cell off
theorem Own.frozen (h : Own k s w b t vs) (off : Nat) : w.frozen? ⟨b, off, none⟩ = false := by simp [World.frozen?, h.hp]

theorem Rds.rely (h : Rds k s w b t vs) (hR : Rl k s w s₁ w₁) : Rds k s₁ w₁ b t vs := by
  obtain ⟨c, e1, e2, e3⟩ := hR.cells b _ t _ h.hp
  have : c = vs.toArray := by
    apply Array.ext_getElem?
    exact fun off => e3 off (h.md _ rfl)
  exact ⟨this ▸ e1, fun a ha => (h.md a ha).of_mode (hR.mode _ (by show a.block < _; rw [ha]; exact h.lt)) (hR.kn _)⟩
theorem Own.rely (h : Own k s w b t vs) (hR : Rl k s w s₁ w₁) : Own k s₁ w₁ b t vs :=
  ⟨(h.rds.rely hR).hp, fun a ha => (hR.mode _ (by show a.block < _; rw [ha]; exact h.lt) fun i hi e => by rw [h.md a ha] at e; exact hi (Mode.own.inj e).symm).trans (h.md a ha)⟩

/-- A step of one's own that leaves block b. -/
def Leaves (b : Nat) (s : St B) (w : World) (s' : St B) (w' : World) : Prop := w'.heap[b]? = w.heap[b]? ∧ (∀ a, a.block = b → s'.tg.mode (.cell a) = s.tg.mode (.cell a)) ∧ s'.tg.kn = s.tg.kn
theorem Rds.leaves (h : Rds k s w b t vs) (hl : Leaves b s w s' w') : Rds k s' w' b t vs :=
  ⟨hl.1.trans h.hp, fun a ha => by
    have := h.md a ha
    unfold May at *
    rw [hl.2.1 a ha, hl.2.2]; exact this⟩
theorem Own.leaves (h : Own k s w b t vs) (hl : Leaves b s w s' w') : Own k s' w' b t vs := ⟨hl.1.trans h.hp, fun a ha => (hl.2.1 a ha).trans (h.md a ha)⟩

/-! ### steps -/
theorem evOk_read {g : TG} {sz : Nat} {a : Addr} (hm : May g k (.cell a)) (hl : a.block < sz) : EvOk g k sz ⟨.cell a, false, false⟩ := by
  refine ⟨fun x hx => ?_, fun a => by simp, fun _ _ sync => by simp [MemAct.ofEvent]⟩
  have : x = ⟨.cell a, false, .plain⟩ := by simp [MemAct.ofEvent, MemAct.touch?] at hx; exact hx.symm
  subst this
  exact ⟨hl, fun _ => hm⟩
theorem evOk_write {g : TG} {sz : Nat} {a : Addr} (hm : g.mode (.cell a) = .own k) (hl : a.block < sz) (hh : ∀ h, g.hd = some h → g.mode (.cell h) = .at) : EvOk g k sz ⟨.cell a, true, false⟩ := by
  refine ⟨fun x hx => ?_, fun a => by simp, fun h hh' sync e => ?_⟩
  · have : x = ⟨.cell a, true, .plain⟩ := by simp [MemAct.ofEvent, MemAct.touch?] at hx; exact hx.symm
    subst this
    exact ⟨hl, fun _ => hm⟩
  · have : a = h := by simp [MemAct.ofEvent] at e; exact e.1
    subst this
    have := hh _ hh'
    rw [hm] at this; cases this

/-- Nothing but reads. -/
theorem mv_rd (hr : k = 0 ∨ s.tg.rel k = false) (he : ∀ e ∈ es, ∃ a, e = ⟨.cell a, false, false⟩ ∧ May s.tg k (.cell a) ∧ a.block < w.heap.size) : Mv E k s w s w es :=
  Mv.loc (mode' := s.tg.mode) hr (Turn.refl _ _) (fun _ _ => rfl) (fun l h1 h2 => absurd h2 h1) (fun _ _ => rfl) (fun e hee => by obtain ⟨a, rfl, h1, h2⟩ := he e hee; exact evOk_read h1 h2)
    (fun e hee => by obtain ⟨a, rfl, h1, h2⟩ := he e hee; simp)

/-- A cell of one's own is written. -/
theorem mv_set (hI : Ok E s w) (hr : k = 0 ∨ s.tg.rel k = false) (h : Own k s w b t vs) (off : Nat) (v : Value) (he : ∀ e ∈ es, e = ⟨.cell ⟨b, off, none⟩, true, false⟩) : Mv E k s w s (w.setCell ⟨b, off, none⟩ v) es :=
  Mv.loc (mode' := s.tg.mode) hr (Turn.setCell w b off v h.hp (h.md _ rfl)) (fun _ _ => rfl) (fun l h1 h2 => absurd (by rw [setCell_size] at h2; exact h2) h1) (fun _ _ => rfl)
    (fun e hee => by rw [he e hee]; exact evOk_write (h.md _ rfl) (by rw [setCell_size]; exact h.lt) hI.H) (fun e hee => by rw [he e hee]; simp)
theorem Own.set (h : Own k s w b t vs) (off : Nat) (v : Value) : Own k s (w.setCell ⟨b, off, none⟩ v) b t (vs.set off v) :=
  ⟨by rw [setCell_cells w b off v h.hp]; simp, h.md⟩
theorem leaves_set {b' : Nat} (hne : b' ≠ b) (off : Nat) (v : Value) : Leaves b' s w s (w.setCell ⟨b, off, none⟩ v) := ⟨setCell_heap w _ v b' hne, fun _ _ => rfl, rfl⟩

/-- New blocks go to k. -/
def newMode (m : Loc → Mode) (k lo hi : Nat) : Loc → Mode
  | .cell a => if lo ≤ a.block ∧ a.block < hi then .own k else m (.cell a)
  | .obj r => if lo ≤ r ∧ r < hi then .own k else m (.obj r)
  | l => m l
def St.take (s : St B) (k lo hi : Nat) : St B := { s with tg := { s.tg with mode := newMode s.tg.mode k lo hi } }
theorem St.take_mode (s : St B) (k lo hi : Nat) : (s.take k lo hi).tg.mode = newMode s.tg.mode k lo hi := rfl
theorem alloc_size (w : World) (o : Obj) : (w.alloc o).heap.size = w.heap.size + 1 := Array.size_push ..
theorem alloc_new (w : World) (o : Obj) : (w.alloc o).heap[w.heap.size]? = some o := Array.getElem?_push_size
theorem alloc_old (w : World) (o : Obj) {b : Nat} (hb : b < w.heap.size) : (w.alloc o).heap[b]? = w.heap[b]? := by
  show (w.heap.push o)[b]? = _
  rw [Array.getElem?_push_lt hb, Array.getElem?_eq_getElem hb]
theorem St.take_soft (s : St B) (k lo hi : Nat) : Soft s (s.take k lo hi) := ⟨rfl, rfl⟩
theorem newMode_low {m : Loc → Mode} {k lo hi : Nat} {l : Loc} (h : locLow lo l) : newMode m k lo hi l = m l := by
  cases l with
  | cell a => have : a.block < lo := h; simp only [newMode]; rw [if_neg (by omega)]
  | obj r => have : r < lo := h; simp only [newMode]; rw [if_neg (by omega)]
  | _ => rfl
theorem newMode_new {m : Loc → Mode} {k lo hi : Nat} {l : Loc} (h : ¬ locLow lo l) (h' : locLow hi l) : newMode m k lo hi l = .own k := by
  cases l with
  | cell a => have h1 : ¬ a.block < lo := h; have h2 : a.block < hi := h'; simp only [newMode]; rw [if_pos (by omega)]
  | obj r => have h1 : ¬ r < lo := h; have h2 : r < hi := h'; simp only [newMode]; rw [if_pos (by omega)]
  | _ => exact absurd trivial h
theorem newMode_high {m : Loc → Mode} {k lo hi : Nat} {l : Loc} (h : ¬ locLow hi l) : newMode m k lo hi l = m l := by
  cases l with
  | cell a => have h1 : ¬ a.block < hi := h; simp only [newMode]; rw [if_neg (by omega)]
  | obj r => have h1 : ¬ r < hi := h; simp only [newMode]; rw [if_neg (by omega)]
  | _ => rfl

theorem turn_alloc (ok : Nat → Nat → Prop) (w : World) (o : Obj) : Turn ok w (w.alloc o) :=
  ⟨by rw [alloc_size]; omega, fun b hb => .inl (alloc_old w o hb), rfl, rfl, rfl⟩
/-- New memory. -/
theorem mv_new (hr : k = 0 ∨ s.tg.rel k = false) (o : Obj) : Mv E k s w (s.take k w.heap.size (w.heap.size + 1)) (w.alloc o) #[] :=
  Mv.loc (mode' := newMode s.tg.mode k w.heap.size (w.heap.size + 1)) hr (turn_alloc _ w o) (fun _ h => newMode_low h) (fun _ h h' => newMode_new h (by rw [alloc_size] at h'; exact h')) (fun _ h => newMode_high (by rw [alloc_size] at h; exact h)) (fun e he => by simp at he) (fun e he => by simp at he)
theorem own_new (s : St B) (w : World) (vs : List Value) (t : TypeId) : Own k (s.take k w.heap.size (w.heap.size + 1)) (w.alloc (.cells vs.toArray t)) w.heap.size t vs :=
  ⟨alloc_new w _, fun a ha => by rw [St.take_mode]; exact newMode_new (by show ¬ a.block < _; omega) (by show a.block < _; omega)⟩
theorem leaves_new {b' : Nat} (hb : b' < w.heap.size) (o : Obj) : Leaves b' s w (s.take k w.heap.size (w.heap.size + 1)) (w.alloc o) :=
  ⟨alloc_old w o hb, fun a ha => by rw [St.take_mode]; exact newMode_low (by show a.block < _; omega), rfl⟩
end
end Go.Proofs.Ytbamamkjmfkghaa.Crw
namespace Go.Proofs.Ytbamamkjmfkghaa.Crw
open Go Go.Conc

/-- An operation that looks at no memory, as far as its name tells. -/
def plainOp : Op → Bool
  | .load .. | .store .. | .alloc .. | .defer .. | .go .. | .makeSlice .. | .box .. | .buildSlice .. => false
  | .call c => match c.callee with
    | .builtin .len => true
    | .builtin .cap => true
    | _ => false
  | _ => true
structure Hid (p : Prop) : Prop where
  out : p
section
variable {P : Program} {B : Usr} {E : Env} {Post : Value → World → Prop} {Child : Sit (proto P B E Post)} {k : Nat}
  {s : St B} {w : World} {b : Frame} {a : Act} {kk K : List Item} {cs : List Frame} {ops : Array Oper}
/-- Into a region; what stands behind it is put aside meanwhile. -/
theorem rr_reg (hB : B.Laws) {id : Nat} (h : ∀ K, Hid (kk = K) → RR P B E Post Child k (G (b.at a (.inRegion ops (List.range ops.size) :: K)) cs) s w) : RR P B E Post Child k (G (b.at a (.code (.region id ops false) :: kk)) cs) s w :=
  rr_ctl hB rfl (fun _ => stepG_region) (h kk ⟨rfl⟩)
theorem rr_pure' (hB : B.Laws) {i : Nat} {rest : List Nat} {o : Oper} (ho : ops[i]? = some o) (hw : Region.wanted o (yielded ops a.tmps) = true) (hk : b.kind ≠ .early) (hp : plainOp o.op = true)
    (he : ∀ w₁, (execOp a.eval o).events P w₁ #[] = #[])
    (h : ∀ w₁ : World, ∀ K : Act → World → Prop, (∀ a', RR P B E Post Child k (G (b.at a' (.inRegion ops rest :: kk)) cs) s w → K a' w₁) → uponK o a K ((execOp a.eval o).run P w₁)) :
    RR P B E Post Child k (G (b.at a (.inRegion ops (i :: rest) :: kk)) cs) s w := rr_pure hB ho hw hk he h
theorem rr_regend (hB : B.Laws) (hK : Hid (kk = K)) (h : RR P B E Post Child k (G (b.at a kk) cs) s w) : RR P B E Post Child k (G (b.at a (.inRegion ops [] :: K)) cs) s w :=
  rr_ctl hB rfl (fun _ => stepG_region_end) (hK.out ▸ h)
end


/-! ### what comes next, by its shape -/
section
variable {P : Program} {B : Usr} {E : Env} {Post : Value → World → Prop} {Child : Sit (proto P B E Post)} {k : Nat} {s : St B} {w : World} {b : Frame} {a : Act} {kk : List Item} {cs : List Frame} {ops : Array Oper} {i id : Nat} {rest : List Nat} {c d : Code}
theorem gd_op (h : RR P B E Post Child k (G (b.at a (.inRegion ops (i :: rest) :: kk)) cs) s w) : RR P B E Post Child k (G (b.at a (.inRegion ops (i :: rest) :: kk)) cs) s w := h
theorem gd_rend (h : RR P B E Post Child k (G (b.at a (.inRegion ops [] :: kk)) cs) s w) : RR P B E Post Child k (G (b.at a (.inRegion ops [] :: kk)) cs) s w := h
theorem gd_seq (h : RR P B E Post Child k (G (b.at a (.code (.seq c d) :: kk)) cs) s w) : RR P B E Post Child k (G (b.at a (.code (.seq c d) :: kk)) cs) s w := h
theorem gd_reg (h : RR P B E Post Child k (G (b.at a (.code (.region id ops false) :: kk)) cs) s w) : RR P B E Post Child k (G (b.at a (.code (.region id ops false) :: kk)) cs) s w := h
theorem gd_skip (h : RR P B E Post Child k (G (b.at a (.code .skip :: kk)) cs) s w) : RR P B E Post Child k (G (b.at a (.code .skip :: kk)) cs) s w := h
theorem gd_block (h : RR P B E Post Child k (G (b.at a (.code (.block id c) :: kk)) cs) s w) : RR P B E Post Child k (G (b.at a (.code (.block id c) :: kk)) cs) s w := h
theorem gd_inb (h : RR P B E Post Child k (G (b.at a (.inBlock id :: kk)) cs) s w) : RR P B E Post Child k (G (b.at a (.inBlock id :: kk)) cs) s w := h
theorem gd_ret (h : RR P B E Post Child k (G (b.at a (.code .ret :: kk)) cs) s w) : RR P B E Post Child k (G (b.at a (.code .ret :: kk)) cs) s w := h
theorem gd_exit (h : RR P B E Post Child k (G (b.at a (.code (.exit id) :: kk)) cs) s w) : RR P B E Post Child k (G (b.at a (.code (.exit id) :: kk)) cs) s w := h
theorem gd_end (h : RR P B E Post Child k (G (b.at a []) cs) s w) : RR P B E Post Child k (G (b.at a []) cs) s w := h
end
end Go.Proofs.Ytbamamkjmfkghaa.Crw
namespace Go.Proofs.Ytbamamkjmfkghaa.Crw
open Go Go.Conc Go.RowKit
set_option linter.unusedSimpArgs false
section
variable {P : Program}
theorem ev_equal_ptr_nil {t te : TypeId} (hp : P.underlying t = some (.pointer te)) (x : Option Addr) (w : World) (es : Array Event) : (Op.equal t (.pointer x) (.pointer none)).events P w es = es ∧ ∃ r, (Op.equal t (.pointer x) (.pointer none)).run P w = .ok r w := by
  unfold Op.equal
  rw [show Op.maxDepth = 9999 + 1 from rfl, Op.equalIn]
  cases x <;> simp only [Sem.events_bind, Sem.run_bind, run_underlying hp, events_underlying, Result.evThen_ok, Result.andThen_ok, Sem.events_pure, Sem.run_pure, true_and] <;> exact ⟨_, rfl⟩
theorem ev_eql_ptr_nil {t te : TypeId} (hp : P.underlying t = some (.pointer te)) (x : Option Addr) (w : World) (es : Array Event) : (binOp .eql t (.pointer x) (.pointer none)).events P w es = es := by
  obtain ⟨h1, r, h2⟩ := ev_equal_ptr_nil hp x w es
  unfold binOp
  simp only [Sem.events_bind, h1, h2, Result.evThen_ok, Sem.events_pure]
theorem ev_neq_ptr_nil {t te : TypeId} (hp : P.underlying t = some (.pointer te)) (x : Option Addr) (w : World) (es : Array Event) : (binOp .neq t (.pointer x) (.pointer none)).events P w es = es := by
  obtain ⟨h1, r, h2⟩ := ev_equal_ptr_nil hp x w es
  unfold binOp
  simp only [Sem.events_bind, h1, h2, Result.evThen_ok, Sem.events_pure]
theorem ev_rem (t : TypeId) (k : IntKind) (a n : Int) (h : ¬ n = 0) (w : World) (es : Array Event) : (binOp .rem t (.int k a) (.int k n)).events P w es = es := by
  unfold binOp
  simp [Op.intDiv, h]
end
end Go.Proofs.Ytbamamkjmfkghaa.Crw
