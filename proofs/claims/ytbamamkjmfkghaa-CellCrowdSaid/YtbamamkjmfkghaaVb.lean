/- The protocol of a crowd that one WaitGroup joins: places with modes, the group's states, a user's own part for the shared cells.
No condition. -/
import Derived.Test.YtbamamkjmfkghaaVa
set_option linter.unusedSimpArgs false
set_option linter.unusedVariables false
namespace Go.Proofs.Ytbamamkjmfkghaa.Crw
open Go Go.Conc
open Go.ConcN (PermW RelBy upd upd_same upd_ne)
open Go.ConcR (stA smA KK WgAt wgBlock)
set_option linter.unusedVariables false

/-- Where the group stands: open; the starter waits; number k took the last one (and has put the state down); the semaphore is up. -/
inductive Ph where
  | opn | reg | last (k : Nat) (st : Bool) | sema
def Ph.wt : Ph → Nat
  | .reg => 1
  | .last _ false => 1
  | _ => 0
def Ph.sm : Ph → Nat
  | .sema => 1
  | _ => 0

/-- A step turns cells that it may turn, and makes new blocks. -/
structure Turn (ok : Nat → Nat → Prop) (w w' : World) : Prop where
  size : w.heap.size ≤ w'.heap.size
  blk : ∀ b, b < w.heap.size → w'.heap[b]? = w.heap[b]? ∨ ∃ c c' t fr, w.heap[b]? = some (.cells c t fr) ∧ w'.heap[b]? = some (.cells c' t fr) ∧ c'.size = c.size ∧ ∀ off, ¬ ok b off → c'[off]? = c[off]?
  tape : w'.tape = w.tape
  os : w'.os = w.os
  output : w'.output = w.output

/-- Cells at which p holds are kept; blocks of cells stay such. -/
def Keep (p : Nat → Nat → Prop) (w w' : World) : Prop :=
  ∀ b c t fr, w.heap[b]? = some (.cells c t fr) → ∃ c', w'.heap[b]? = some (.cells c' t fr) ∧ c'.size = c.size ∧ ∀ off, p b off → c'[off]? = c[off]?

abbrev at' (m : Loc → Mode) (b off : Nat) : Mode := m (.cell ⟨b, off, none⟩)

/-- A user's part: his ghost; what it says of the shared cells; what each relies on; the atomic steps; what a go statement turns; who has done all. -/
structure Usr where
  U : Type
  J : U → (Loc → Mode) → World → Prop
  Ru : Nat → U → U → Prop
  Su : Nat → U → World → U → World → Prop
  Pb : Nat → U → (Loc → Mode) → World → U → (Loc → Mode) → World → Prop
  Sp : Nat → U → U → Prop
  Fin : U → Nat → (Loc → Mode) → World → Prop

structure Usr.Laws (B : Usr) : Prop where
  refl : ∀ k u, B.Ru k u u
  trans : ∀ {k a b c}, B.Ru k a b → B.Ru k b c → B.Ru k a c
  stay : ∀ {u m m' w w'}, B.J u m w → Keep (fun b off => at' m b off = .at ∨ at' m b off = .pub) w w' → (∀ l, m l = .at ∨ m l = .pub → m' l = m l) → B.J u m' w'
  su : ∀ {k u w u' w' m}, B.J u m w → B.Su k u w u' w' → B.J u' m w'
  suRu : ∀ {i k u w u' w'}, B.Su i u w u' w' → k ≠ i → B.Ru k u u'
  suFin : ∀ {i k u w u' w' m w₁}, B.Su i u w u' w' → k ≠ i → B.Fin u k m w₁ → B.Fin u' k m w₁
  pb : ∀ {k u m w u' m' w'}, B.J u m w → B.Pb k u m w u' m' w' → B.J u' m' w'
  pbRu : ∀ {i k u m w u' m' w'}, B.Pb i u m w u' m' w' → k ≠ i → B.Ru k u u'
  pbFin : ∀ {i k u m w u' m' w' m₁ w₁}, B.Pb i u m w u' m' w' → k ≠ i → B.Fin u k m₁ w₁ → B.Fin u' k m₁ w₁
  sp : ∀ {n u u' m w}, B.J u m w → B.Sp n u u' → B.J u' m w
  spRu : ∀ {n k u u'}, B.Sp n u u' → 1 ≤ k → k < n → B.Ru k u u'
  spFin : ∀ {n k u u' m w}, B.Sp n u u' → 1 ≤ k → k < n → B.Fin u k m w → B.Fin u' k m w
  finStay : ∀ {u k m m' w w'}, B.Fin u k m w → Keep (fun b off => at' m b off = .own k) w w' → (∀ l, m l = .own k → m' l = .own k) → B.Fin u k m' w'

structure St (B : Usr) where
  tg : TG
  on : Bool
  ph : Ph
  alive : List Nat
  pend : Bool
  u : B.U

section
variable {B : Usr}
def St.cnt (s : St B) : Nat := s.alive.length + if s.pend then 1 else 0

/-- The world ahead of all, the group's type, the bound on the goroutines. -/
structure Env where
  W0 : World
  ty : TypeId
  N : Nat
  small : N < 2147483647

structure OkW (E : Env) (w : World) : Prop where
  base : E.W0.heap.size ≤ w.heap.size
  same : ∀ b, b < E.W0.heap.size → w.heap[b]? = E.W0.heap[b]?
  tape : w.tape = E.W0.tape
  os : w.os = E.W0.os
  output : w.output = E.W0.output

structure OkM (E : Env) (mode : Loc → Mode) (n wg : Nat) (on : Bool) (sz : Nat) : Prop where
  old : ∀ l, l.isMemory = true → locLow E.W0.heap.size l → mode l = .ro 0
  freshO : ∀ l, ¬ locLow sz l → mode l = .own 0
  ownN : ∀ l k, mode l = .own k → k < n
  wgA : on = true → (∀ a, a.block = wg → mode (.cell a) = .wg) ∧ E.W0.heap.size ≤ wg
  wgO : ∀ l, mode l = .wg → on = true ∧ ∃ a, l = .cell a ∧ a.block = wg

structure OkC (E : Env) (n : Nat) (fin rel : Nat → Bool) (joined on : Bool) (ph : Ph) (alive : List Nat) (pend : Bool) : Prop where
  mem : ∀ k, k ∈ alive ↔ 1 ≤ k ∧ k < n ∧ fin k = false ∧ ∀ b, ph ≠ .last k b
  nodup : alive.Nodup
  len : alive.length + 1 ≤ n
  small : n ≤ E.N
  reg : ph = .reg → alive ≠ [] ∧ pend = false
  last : ∀ k b, ph = .last k b → alive = [] ∧ pend = false ∧ 1 ≤ k ∧ k < n ∧ fin k = false
  sema : ph = .sema → alive = [] ∧ pend = false
  off : on = false → n = 1 ∧ ph = .opn ∧ pend = false ∧ joined = false
  relA : ∀ k, 1 ≤ k → k < n → k ∉ alive → rel k = true
  fin0 : fin 0 = false
  jnd : joined = true → alive = [] ∧ ph = .opn ∧ pend = false

structure Ok (E : Env) (s : St B) (w : World) : Prop where
  W : OkW E w
  M : OkM E s.tg.mode s.tg.n s.tg.wg s.on w.heap.size
  C : OkC E s.tg.n s.tg.fin s.tg.rel s.tg.joined s.on s.ph s.alive s.pend
  A : s.on = true → WgAt E.ty s.tg.wg w ((s.cnt : Int) * KK + (s.ph.wt : Int)) (s.ph.sm : Int)
  H : ∀ a, s.tg.hd = some a → s.tg.mode (.cell a) = .at
  J : B.J s.u s.tg.mode w
  F : s.tg.joined = false → ∀ k, 1 ≤ k → k < s.tg.n → s.tg.rel k = true → B.Fin s.u k s.tg.mode w
  K : ∀ i l, s.tg.kn i l → s.tg.mode l = .pub

def noWord (es : Array Event) : Prop := ∀ e ∈ es, e.loc ≠ .mark .disable ∧ e.loc ≠ .mark .enable
def wgEvs (g : TG) (es : Array Event) : Prop := ∀ e ∈ es, ∃ a wr, e = ⟨.cell a, wr, true⟩ ∧ a.block = g.wg

/-- What goroutine k may do. -/
inductive Mv (E : Env) (k : Nat) (s : St B) (w : World) : St B → World → Array Event → Prop
  | loc {mode' w' es} (hr : k = 0 ∨ s.tg.rel k = false) (turn : Turn (fun b off => at' s.tg.mode b off = .own k) w w')
      (hm : ∀ l, locLow w.heap.size l → mode' l = s.tg.mode l) (hn : ∀ l, ¬ locLow w.heap.size l → locLow w'.heap.size l → mode' l = .own k) (hf : ∀ l, ¬ locLow w'.heap.size l → mode' l = s.tg.mode l)
      (he : ∀ e ∈ es, EvOk { s.tg with mode := mode' } k w'.heap.size e) (hw : noWord es) : Mv E k s w { s with tg := { s.tg with mode := mode' } } w' es
  | ini {mode' w' es wg' on' u' hd'} (h0 : k = 0) (h1 : s.tg.n = 1) (hj : s.tg.joined = false) (turn : Turn (fun _ _ => False) w w')
      (hm : ∀ l, locLow w.heap.size l → mode' l = s.tg.mode l) (hn : ∀ l, ¬ locLow w.heap.size l → mode' l = .own 0 ∨ (locLow w'.heap.size l ∧ (mode' l = .at ∨ (on' = true ∧ mode' l = .wg))))
      (hg : (on' = s.on ∧ wg' = s.tg.wg ∧ ∀ l, ¬ locLow w.heap.size l → mode' l ≠ .wg) ∨ (s.on = false ∧ on' = true ∧ w.heap.size ≤ wg' ∧ WgAt E.ty wg' w' 0 0 ∧ (∀ a, a.block = wg' → mode' (.cell a) = .wg) ∧ ∀ l, ¬ locLow w.heap.size l → mode' l = .wg → ∃ a, l = .cell a ∧ a.block = wg'))
      (hh : hd' = s.tg.hd ∨ (s.tg.hd = none ∧ ∃ a, hd' = some a ∧ mode' (.cell a) = .at))
      (hJ : B.J u' mode' w') (he : ∀ e ∈ es, EvOk { s.tg with mode := mode' } 0 w'.heap.size e) (hw : noWord es) : Mv E k s w { s with tg := { s.tg with mode := mode', wg := wg', hd := hd' }, on := on', u := u' } w' es
  | usr {w' es u'} (hr : k = 0 ∨ s.tg.rel k = false) (turn : Turn (fun b off => at' s.tg.mode b off = .at) w w') (hs : w'.heap.size = w.heap.size) (hu : B.Su k s.u w u' w')
      (he : ∀ e ∈ es, EvOk s.tg k w.heap.size e) (hw : noWord es) : Mv E k s w { s with u := u' } w' es
  | look {a es} (hr : k = 0 ∨ s.tg.rel k = false) (hd : s.tg.deaf k = 0) (hh : s.tg.hd = some a) (he : es = #[⟨.cell a, false, true⟩]) :
      Mv E k s w { s with tg := { s.tg with kn := upd s.tg.kn k (fun l => s.tg.mode l = .pub) } } w es
  | pub {mode' w' es u' a} (hr : k = 0 ∨ s.tg.rel k = false) (hd : s.tg.deaf k = 0) (hh : s.tg.hd = some a) (turn : Turn (fun b off => at' s.tg.mode b off = .at) w w') (hs : w'.heap.size = w.heap.size)
      (hm : ∀ l, mode' l = s.tg.mode l ∨ (locLow w.heap.size l ∧ s.tg.mode l = .own k ∧ mode' l = .pub)) (hu : B.Pb k s.u s.tg.mode w u' mode' w') (he : es = #[⟨.cell a, false, true⟩, ⟨.cell a, true, true⟩]) :
      Mv E k s w { s with u := u', tg := { s.tg with mode := mode', kn := upd s.tg.kn k (fun l => mode' l = .pub) } } w' es
  | idle {d} : Mv E k s w s (w.at d) #[]
  | dis : Mv E k s w { s with tg := { s.tg with deaf := upd s.tg.deaf k (s.tg.deaf k + 1) } } w #[Go.ConcR.mk .disable]
  | ena : Mv E k s w { s with tg := { s.tg with deaf := upd s.tg.deaf k (s.tg.deaf k - 1) } } w #[Go.ConcR.mk .enable]
  | wgr {es} (ho : s.on = true) (hr : k = 0 ∨ s.tg.rel k = false ∨ 0 < s.tg.deaf k) (he : wgEvs s.tg es) : Mv E k s w s w es
  | said {es} (ho : s.on = true) (h0 : k = 0) (he : ∀ e ∈ es, ∃ a, (e = ⟨.mark (.read a), false, true⟩ ∨ e = ⟨.mark (.write a), false, true⟩) ∧ a.block = s.tg.wg) : Mv E k s w s w es
  | add {es} (h0 : k = 0) (ho : s.on = true) (hp : s.ph = .opn) (hq : s.pend = false) (hj : s.tg.joined = false) (hd : 0 < s.tg.deaf 0) (he : wgEvs s.tg es) :
      Mv E k s w { s with pend := true } (w.setCell (stA s.tg.wg) (.int .u64 (((s.cnt : Int) + 1) * KK))) es
  | cas {es} (h0 : k = 0) (ho : s.on = true) (hp : s.ph = .opn) (hq : s.pend = false) (hl : s.alive ≠ []) (he : wgEvs s.tg es) :
      Mv E k s w { s with ph := .reg } (w.setCell (stA s.tg.wg) (.int .u64 ((s.cnt : Int) * KK + 1))) es
  | take (h0 : k = 0) (ho : s.on = true) (hp : s.ph = .sema) : Mv E k s w { s with ph := .opn } (w.setCell (smA s.tg.wg) (.int .u32 0)) (semEvents (smA s.tg.wg))
  | join {mode'} (h0 : k = 0) (ho : s.on = true) (hp : s.ph = .opn) (hl : s.alive = []) (hq : s.pend = false) (hj : s.tg.joined = false) (hd : s.tg.deaf 0 = 0)
      (hm : ∀ l, mode' l = s.tg.mode l ∨ ∃ i, 1 ≤ i ∧ i < s.tg.n ∧ s.tg.mode l = .own i ∧ mode' l = .own 0) :
      Mv E k s w { s with tg := { s.tg with joined := true, mode := mode' } } w #[Go.ConcR.mk (.acquire (stA s.tg.wg))]
  | relm (k1 : 1 ≤ k) (ho : s.on = true) (hd : s.tg.deaf k = 0) (hr : s.tg.rel k = false) (hf : B.Fin s.u k s.tg.mode w) :
      Mv E k s w { s with tg := { s.tg with rel := upd s.tg.rel k true } } w #[Go.ConcR.mk (.releaseMerge (stA s.tg.wg))]
  | neg {es} (k1 : 1 ≤ k) (ho : s.on = true) (hd : 0 < s.tg.deaf k) (hr : s.tg.rel k = true) (ha : k ∈ s.alive) (hl : ¬ (s.ph = .reg ∧ s.alive.length = 1)) (he : wgEvs s.tg es) :
      Mv E k s w { s with alive := s.alive.erase k, tg := { s.tg with fin := upd s.tg.fin k true } } (w.setCell (stA s.tg.wg) (.int .u64 (((s.cnt - 1 : Nat) : Int) * KK + (s.ph.wt : Int)))) es
  | negl {es} (k1 : 1 ≤ k) (ho : s.on = true) (hd : 0 < s.tg.deaf k) (hr : s.tg.rel k = true) (ha : k ∈ s.alive) (hp : s.ph = .reg) (hl : s.alive.length = 1) (he : wgEvs s.tg es) :
      Mv E k s w { s with alive := [], ph := .last k false } (w.setCell (stA s.tg.wg) (.int .u64 1)) es
  | put {es} (ho : s.on = true) (hd : 0 < s.tg.deaf k) (hp : s.ph = .last k false) (he : wgEvs s.tg es) :
      Mv E k s w { s with ph := .last k true } (w.setCell (stA s.tg.wg) (.int .u64 0)) es
  | up (ho : s.on = true) (hd : 0 < s.tg.deaf k) (hp : s.ph = .last k true) :
      Mv E k s w { s with ph := .sema, tg := { s.tg with fin := upd s.tg.fin k true } } (w.setCell (smA s.tg.wg) (.int .u32 1)) (semEvents (smA s.tg.wg))

/-- A go statement. -/
inductive Go1 (E : Env) (s : St B) (w : World) : St B → World → Array Event → Prop
  | mk {mode' u'} (ho : s.on = true) (hp : s.ph = .opn) (hq : s.pend = true) (hj : s.tg.joined = false) (hd : s.tg.deaf 0 = 0) (hN : s.tg.n < E.N)
      (hm : ∀ l, mode' l = s.tg.mode l ∨ (locLow w.heap.size l ∧ s.tg.mode l = .own 0 ∧ (mode' l = .own s.tg.n ∨ mode' l = .ro s.tg.n))) (hu : B.Sp s.tg.n s.u u') :
      Go1 E s w { s with pend := false, alive := s.tg.n :: s.alive, u := u', tg := { s.tg with n := s.tg.n + 1, mode := mode', kn := upd s.tg.kn s.tg.n (s.tg.kn 0), deaf := upd s.tg.deaf s.tg.n 0, rel := upd s.tg.rel s.tg.n false, fin := upd s.tg.fin s.tg.n false } } w #[]

def End1 (s : St B) (w : World) (es : Array Event) : Prop := (s.tg.n = 1 ∨ s.tg.joined = true) ∧ (∀ e ∈ es, EvOk s.tg 0 w.heap.size e) ∧ noWord es

/-- What goroutine k relies on. -/
structure Rl (k : Nat) (s : St B) (w : World) (s₁ : St B) (w₁ : World) : Prop where
  size : w.heap.size ≤ w₁.heap.size
  cells : Keep (fun b off => May s.tg k (.cell ⟨b, off, none⟩)) w w₁
  mode : ∀ l, locLow w.heap.size l → (∀ i, i ≠ k → s.tg.mode l ≠ .own i) → s₁.tg.mode l = s.tg.mode l
  kn : ∀ l, s.tg.kn k l → s₁.tg.kn k l
  deaf : s₁.tg.deaf k = s.tg.deaf k
  rel : s₁.tg.rel k = s.tg.rel k
  hd : s₁.tg.hd = s.tg.hd
  on : s.on = true → s₁.on = true ∧ s₁.tg.wg = s.tg.wg
  n : s.tg.n ≤ s₁.tg.n
  zero : k = 0 → s₁.tg.n = s.tg.n ∧ s₁.pend = s.pend ∧ s₁.tg.joined = s.tg.joined ∧ s₁.on = s.on ∧ (s.ph = .opn ↔ s₁.ph = .opn) ∧ (s.ph = .sema → s₁.ph = .sema) ∧ s₁.alive.length ≤ s.alive.length
  worker : 1 ≤ k → (k ∈ s.alive → k ∈ s₁.alive) ∧ ∀ b, s.ph = .last k b → s₁.ph = .last k b
  ru : B.Ru k s.u s₁.u
end

def BlkP {B : Usr} (s : St B) : Prop := s.ph = .reg ∨ ∃ k b, s.ph = .last k b

/-- The protocol. -/
def proto (P : Program) (B : Usr) (E : Env) (Post : Value → World → Prop) : Proto P where
  S := St B
  num s := s.tg.n
  ended s k := s.tg.fin k = true
  I s w t := Ok E s w ∧ TI s.tg t w.heap.size
  R := Rl
  G := Mv E
  GS := Go1 E
  GE := End1
  Blk s _ := BlkP s
  Post := Post
end Go.Proofs.Ytbamamkjmfkghaa.Crw
namespace Go.Proofs.Ytbamamkjmfkghaa.Crw
open Go Go.Conc
open Go.ConcN (PermW RelBy upd upd_same upd_ne)
open Go.ConcR (stA smA KK WgAt wgBlock)
set_option linter.unusedVariables false

section
variable {ok p : Nat → Nat → Prop} {w w' : World}
theorem Turn.keep (h : Turn ok w w') (hp : ∀ b off, p b off → ¬ ok b off) : Keep p w w' := by
  intro b c t fr hb
  have hlt : b < w.heap.size := (Array.getElem?_eq_some_iff.1 hb).1
  rcases h.blk b hlt with e | ⟨c0, c', t0, fr0, e1, e2, e3, e4⟩
  · exact ⟨c, e.trans hb, rfl, fun _ _ => rfl⟩
  · rw [hb] at e1; cases e1
    exact ⟨c', e2, e3, fun off ho => e4 off (hp b off ho)⟩
theorem Turn.same (h : Turn ok w w') {b : Nat} (hb : b < w.heap.size) (hp : ∀ off, ¬ ok b off) : w'.heap[b]? = w.heap[b]? := by
  rcases h.blk b hb with e | ⟨c0, c', t0, fr0, e1, e2, e3, e4⟩
  · exact e
  · rw [e2, e1]
    have : c' = c0 := by
      apply Array.ext_getElem?
      exact fun off => e4 off (hp off)
    rw [this]
theorem Keep.refl (p : Nat → Nat → Prop) (w : World) : Keep p w w := fun b c t fr hb => ⟨c, hb, rfl, fun _ _ => rfl⟩
theorem Turn.refl (ok : Nat → Nat → Prop) (w : World) : Turn ok w w := ⟨Nat.le_refl _, fun b _ => .inl rfl, rfl, rfl, rfl⟩
theorem setCell_heap (w : World) (a : Addr) (v : Value) (b : Nat) (hb : b ≠ a.block) : (w.setCell a v).heap[b]? = w.heap[b]? := by
  simp [World.setCell, Array.getElem?_modify, Ne.symm hb]
theorem setCell_size (w : World) (a : Addr) (v : Value) : (w.setCell a v).heap.size = w.heap.size := by simp [World.setCell]
theorem setCell_cells (w : World) (blk off : Nat) (v : Value) {c : Array Value} {t : TypeId} {fr : Nat × Nat} (hb : w.heap[blk]? = some (.cells c t fr)) : (w.setCell ⟨blk, off, none⟩ v).heap[blk]? = some (.cells (c.setIfInBounds off v) t fr) := by
  simp [World.setCell, Array.getElem?_modify, hb]
/-- One cell is turned. -/
theorem Turn.setCell (w : World) (blk off : Nat) (v : Value) {c : Array Value} {t : TypeId} {fr : Nat × Nat} (hb : w.heap[blk]? = some (.cells c t fr)) (hok : ok blk off) : Turn ok w (w.setCell ⟨blk, off, none⟩ v) := by
  refine ⟨by rw [setCell_size]; exact Nat.le_refl _, fun b hlt => ?_, rfl, rfl, rfl⟩
  by_cases e : b = blk
  · subst e
    refine .inr ⟨c, _, t, fr, hb, setCell_cells w b off v hb, by simp, fun o ho => ?_⟩
    rw [Array.getElem?_setIfInBounds_ne (fun e : off = o => ho (by subst e; exact hok))]
  · exact .inl (setCell_heap w _ v b e)
theorem Turn.weaken {ok' : Nat → Nat → Prop} (h : Turn ok w w') (hi : ∀ b off, ok b off → ok' b off) : Turn ok' w w' :=
  ⟨h.size, fun b hb => (h.blk b hb).imp id fun ⟨c, c', t, fr, e1, e2, e3, e4⟩ => ⟨c, c', t, fr, e1, e2, e3, fun off ho => e4 off fun x => ho (hi _ _ x)⟩, h.tape, h.os, h.output⟩
end

section
variable {B : Usr} {E : Env}

theorem May.of_mode {g g' : TG} {k : Nat} {l : Loc} (h : May g k l) (hm : (∀ i, i ≠ k → g.mode l ≠ .own i) → g'.mode l = g.mode l) (hk : g.kn k l → g'.kn k l) : May g' k l := by
  have hx : g'.mode l = g.mode l := hm fun i hi e => by
    rcases h with h | ⟨m, h, _⟩ | ⟨h, _⟩
    · rw [h] at e; exact hi (Mode.own.inj e).symm
    · rw [h] at e; cases e
    · rw [h] at e; cases e
  unfold May
  rw [hx]
  exact h.imp id (.imp id fun x => ⟨x.1, hk x.2⟩)

theorem Rl.refl (hB : B.Laws) (k : Nat) (s : St B) (w : World) : Rl k s w s w :=
  ⟨Nat.le_refl _, Keep.refl _ _, fun _ _ _ => rfl, fun _ h => h, rfl, rfl, rfl, fun h => ⟨h, rfl⟩, Nat.le_refl _, fun _ => ⟨rfl, rfl, rfl, rfl, Iff.rfl, id, Nat.le_refl _⟩, fun _ => ⟨id, fun _ h => h⟩, hB.refl _ _⟩

theorem Rl.trans (hB : B.Laws) {k : Nat} {s s₁ s₂ : St B} {w w₁ w₂ : World} (h : Rl k s w s₁ w₁) (h' : Rl k s₁ w₁ s₂ w₂) : Rl k s w s₂ w₂ := by
  refine ⟨Nat.le_trans h.size h'.size, fun b c t fr hb => ?_, fun l hlow hl => ?_, fun l hl => h'.kn l (h.kn l hl), h'.deaf.trans h.deaf, h'.rel.trans h.rel, h'.hd.trans h.hd, fun ho => ?_, Nat.le_trans h.n h'.n, fun k0 => ?_, fun k1 => ?_, hB.trans h.ru h'.ru⟩
  · obtain ⟨c1, e1, e2, e3⟩ := h.cells b c t fr hb
    obtain ⟨c2, f1, f2, f3⟩ := h'.cells b c1 t fr e1
    have hlt : b < w.heap.size := (Array.getElem?_eq_some_iff.1 hb).1
    exact ⟨c2, f1, f2.trans e2, fun off ho => (f3 off (ho.of_mode (h.mode _ hlt) (h.kn _))).trans (e3 off ho)⟩
  · have e := h.mode l hlow hl
    exact (h'.mode l (hlow.mono h.size) fun i hi => by rw [e]; exact hl i hi).trans e
  · obtain ⟨h1, h2⟩ := h.on ho
    obtain ⟨h3, h4⟩ := h'.on h1
    exact ⟨h3, h4.trans h2⟩
  · obtain ⟨a1, a2, a3, a4, a5, a6, a7⟩ := h.zero k0
    obtain ⟨b1, b2, b3, b4, b5, b6, b7⟩ := h'.zero k0
    exact ⟨b1.trans a1, b2.trans a2, b3.trans a3, b4.trans a4, a5.trans b5, b6 ∘ a6, Nat.le_trans b7 a7⟩
  · exact ⟨(h'.worker k1).1 ∘ (h.worker k1).1, fun b hb => (h'.worker k1).2 b ((h.worker k1).2 b hb)⟩

theorem Ok.wgLow {s : St B} {w : World} (h : Ok E s w) (ho : s.on = true) : s.tg.wg < w.heap.size := by
  have := h.A ho
  exact (Array.getElem?_eq_some_iff.1 this).1

theorem base_not {mode : Loc → Mode} {n wg sz : Nat} {on : Bool} (h : OkM E mode n wg on sz) {b : Nat} (hb : b < E.W0.heap.size) (off : Nat) : at' mode b off = .ro 0 := h.old _ rfl hb

theorem OkW.turn {ok : Nat → Nat → Prop} {w w' : World} (h : OkW E w) (ht : Turn ok w w') (hok : ∀ b off, b < E.W0.heap.size → ¬ ok b off) : OkW E w' :=
  ⟨Nat.le_trans h.base ht.size, fun b hb => (ht.same (Nat.lt_of_lt_of_le hb h.base) fun off => hok b off hb).trans (h.same b hb), ht.tape.trans h.tape, ht.os.trans h.os, ht.output.trans h.output⟩

/-- The group's block stands. -/
theorem wg_stays {ok : Nat → Nat → Prop} {w w' : World} {wg : Nat} {st sm : Int} (ha : WgAt E.ty wg w st sm) (ht : Turn ok w w') (hok : ∀ off, ¬ ok wg off) : WgAt E.ty wg w' st sm :=
  (ht.same (Array.getElem?_eq_some_iff.1 ha).1 hok).trans ha

theorem wg_st {w : World} {wg : Nat} {st sm st' : Int} (ha : WgAt E.ty wg w st sm) : WgAt E.ty wg (w.setCell (stA wg) (.int .u64 st')) st' sm := by
  have := setCell_cells w wg 0 (.int .u64 st') ha
  simpa [WgAt, wgBlock, stA] using this
theorem wg_sm {w : World} {wg : Nat} {st sm sm' : Int} (ha : WgAt E.ty wg w st sm) : WgAt E.ty wg (w.setCell (smA wg) (.int .u32 sm')) st sm' := by
  have := setCell_cells w wg 1 (.int .u32 sm') ha
  simpa [WgAt, wgBlock, smA] using this
end
end Go.Proofs.Ytbamamkjmfkghaa.Crw
namespace Go.Proofs.Ytbamamkjmfkghaa.Crw
open Go Go.Conc
open Go.ConcN (PermW RelBy upd upd_same upd_ne)
open Go.ConcR (stA smA KK WgAt wgBlock)
set_option linter.unusedVariables false

section
variable {B : Usr} {E : Env} {s s' : St B} {w w' : World} {t : Trace} {k : Nat} {es : Array Event}

/-- What is to be shown of a step. -/
def Kept (E : Env) (k : Nat) (s : St B) (w : World) (t : Trace) (s' : St B) (w' : World) (es : Array Event) : Prop :=
  (∀ fn pos, Ok E s' w' ∧ TI s'.tg (t ++ MemOp.ofEvents k fn pos es) w'.heap.size) ∧ s'.tg.n = s.tg.n ∧ ∀ i, i < s.tg.n → i ≠ k → (¬ s.tg.fin i = true → Rl i s w s' w') ∧ (s'.tg.fin i = true ↔ s.tg.fin i = true)

theorem Ok.lowOf (h : Ok E s w) {l : Loc} {m : Mode} (hm : s.tg.mode l = m) (hne : m ≠ .own 0) : locLow w.heap.size l := by
  by_cases hx : locLow w.heap.size l
  · exact hx
  · exact absurd ((h.M.freshO l hx).symm.trans hm).symm hne

theorem kept_loc (hB : B.Laws) (h : Ok E s w) (ht : TI s.tg t w.heap.size) (hk : k < s.tg.n) (hf : s.tg.fin k = false) {mode' : Loc → Mode} (hr : k = 0 ∨ s.tg.rel k = false)
    (turn : Turn (fun b off => at' s.tg.mode b off = .own k) w w')
    (hm : ∀ l, locLow w.heap.size l → mode' l = s.tg.mode l) (hn : ∀ l, ¬ locLow w.heap.size l → locLow w'.heap.size l → mode' l = .own k) (hfr : ∀ l, ¬ locLow w'.heap.size l → mode' l = s.tg.mode l)
    (he : ∀ e ∈ es, EvOk { s.tg with mode := mode' } k w'.heap.size e) (hw : noWord es) : Kept E k s w t { s with tg := { s.tg with mode := mode' } } w' es := by
  have fresh : ∀ l, ¬ locLow w.heap.size l → mode' l = .own k ∨ mode' l = .own 0 := fun l hl => by
    by_cases hx : locLow w'.heap.size l
    · exact .inl (hn l hl hx)
    · exact .inr ((hfr l hx).trans (h.M.freshO l hl))
  refine ⟨fun fn pos => ⟨⟨h.W.turn turn fun b off hb => by rw [base_not h.M hb off]; simp, ⟨fun l hmem hl => ?_, fun l hl => ?_, fun l i e => ?_, fun ho => ⟨fun a ha => ?_, (h.M.wgA ho).2⟩, fun l e => ?_⟩, h.C, fun ho => wg_stays (h.A ho) turn fun off => ?_, fun a ha => ?_, hB.stay h.J (turn.keep fun b off e => by rcases e with e | e <;> rw [e] <;> simp) fun l e => ?_, fun hjo i i1 hi hri => ?_, fun i l e => (hm _ (h.lowOf (h.K i l e) (by simp))).trans (h.K i l e)⟩, ?_⟩, rfl, fun i hi hik => ⟨fun hfi => ⟨turn.size, turn.keep fun b off hmay => ?_, fun l hl _ => hm l hl, fun _ x => x, rfl, rfl, rfl, fun ho => ⟨ho, rfl⟩, Nat.le_refl _, fun _ => ⟨rfl, rfl, rfl, rfl, Iff.rfl, id, Nat.le_refl _⟩, fun _ => ⟨id, fun _ x => x⟩, hB.refl _ _⟩, Iff.rfl⟩⟩
  · exact (hm l (hl.mono h.W.base)).trans (h.M.old l hmem hl)
  · exact (hfr l hl).trans (h.M.freshO l fun hx => hl (hx.mono turn.size))
  · by_cases hx : locLow w.heap.size l
    · exact h.M.ownN l i ((hm l hx).symm.trans e)
    · have e' : mode' l = .own i := e
      rcases fresh l hx with e2 | e2 <;> rw [e2] at e' <;> cases e'
      · exact hk
      · exact Nat.lt_of_le_of_lt (Nat.zero_le _) hk
  · have : locLow w.heap.size (.cell a) := by show a.block < _; rw [show a.block = s.tg.wg from ha]; exact h.wgLow ho
    exact (hm _ this).trans ((h.M.wgA ho).1 a ha)
  · have e' : mode' l = .wg := e
    by_cases hx : locLow w.heap.size l
    · exact h.M.wgO l ((hm l hx).symm.trans e')
    · rcases fresh l hx with e2 | e2 <;> rw [e2] at e' <;> cases e'
  · have := (h.M.wgA ho).1 ⟨s.tg.wg, off, none⟩ rfl
    intro e
    have e2 := this.symm.trans e
    cases e2
  · have := h.H a ha
    exact (hm _ (h.lowOf this (by simp))).trans this
  · rcases e with e | e <;> exact hm _ (h.lowOf e (by simp))
  · have hik : i ≠ k := by
      rintro rfl
      have hri2 : s.tg.rel i = true := hri
      rcases hr with rfl | hr
      · omega
      · rw [hr] at hri2; cases hri2
    exact hB.finStay (h.F hjo i i1 hi hri) (turn.keep fun b off e e' => hik (Mode.own.inj (e.symm.trans e'))) fun l e => (hm l (h.lowOf e (by simp; omega))).trans e
  · have hg : TI { s.tg with mode := mode' } t w'.heap.size := ht.grow turn.size hm fun l hl e => by rcases fresh l hl with e2 | e2 <;> rw [e2] at e <;> cases e
    refine hg.evs0 hk hf he hw (fun k1 hr' => ?_) fn pos
    rcases hr with rfl | hr
    · omega
    · have : s.tg.rel k = true := hr'
      rw [hr] at this; cases this
  · intro e
    rcases hmay with x | ⟨_, x, _⟩ | ⟨x, _⟩
    · exact hik (Mode.own.inj (x.symm.trans e))
    · cases x.symm.trans e
    · cases x.symm.trans e

theorem kept_ini (hB : B.Laws) (h : Ok E s w) (ht : TI s.tg t w.heap.size) {mode' : Loc → Mode} {wg' : Nat} {on' : Bool} {u' : B.U} {hd' : Option Addr} (h1 : s.tg.n = 1) (hj : s.tg.joined = false) (turn : Turn (fun _ _ => False) w w')
      (hm : ∀ l, locLow w.heap.size l → mode' l = s.tg.mode l) (hn : ∀ l, ¬ locLow w.heap.size l → mode' l = .own 0 ∨ (locLow w'.heap.size l ∧ (mode' l = .at ∨ (on' = true ∧ mode' l = .wg))))
      (hg : (on' = s.on ∧ wg' = s.tg.wg ∧ ∀ l, ¬ locLow w.heap.size l → mode' l ≠ .wg) ∨ (s.on = false ∧ on' = true ∧ w.heap.size ≤ wg' ∧ WgAt E.ty wg' w' 0 0 ∧ (∀ a, a.block = wg' → mode' (.cell a) = .wg) ∧ ∀ l, ¬ locLow w.heap.size l → mode' l = .wg → ∃ a, l = .cell a ∧ a.block = wg'))
      (hh : hd' = s.tg.hd ∨ (s.tg.hd = none ∧ ∃ a, hd' = some a ∧ mode' (.cell a) = .at))
      (hJ : B.J u' mode' w') (he : ∀ e ∈ es, EvOk { s.tg with mode := mode' } 0 w'.heap.size e) (hw : noWord es) : Kept E 0 s w t { s with tg := { s.tg with mode := mode', wg := wg', hd := hd' }, on := on', u := u' } w' es := by
  have hal : s.alive = [] := by
    have := h.C.len
    cases ha : s.alive with
    | nil => rfl
    | cons x l => rw [ha] at this; simp at this; omega
  refine ⟨fun fn pos => ⟨⟨h.W.turn turn fun _ _ _ x => x, ⟨fun l hmem hl => ?_, fun l hl => ?_, fun l i e => ?_, fun ho => ?_, fun l e => ?_⟩, ?_, fun ho => ?_, fun a ha => ?_, hJ, fun _ i i1 hi => by have : i < s.tg.n := hi; omega, fun i l e => (hm _ (h.lowOf (h.K i l e) (by simp))).trans (h.K i l e)⟩, ?_⟩, rfl, fun i hi hik => by omega⟩
  · exact (hm l (hl.mono h.W.base)).trans (h.M.old l hmem hl)
  · rcases hn l (fun hx => hl (hx.mono turn.size)) with e | e
    · exact e
    · exact absurd e.1 hl
  · by_cases hx : locLow w.heap.size l
    · exact h.M.ownN l i ((hm l hx).symm.trans e)
    · have e' : mode' l = .own i := e
      rcases hn l hx with e2 | ⟨_, e2 | ⟨_, e2⟩⟩ <;> rw [e2] at e' <;> cases e'
      show 0 < s.tg.n
      omega
  · rcases hg with ⟨e1, e2, _⟩ | ⟨_, _, e3, _, e5, _⟩
    · subst e1; subst e2
      refine ⟨fun a ha => ?_, (h.M.wgA ho).2⟩
      have : locLow w.heap.size (.cell a) := by show a.block < _; rw [show a.block = s.tg.wg from ha]; exact h.wgLow ho
      exact (hm _ this).trans ((h.M.wgA ho).1 a ha)
    · exact ⟨e5, Nat.le_trans h.W.base e3⟩
  · have e' : mode' l = .wg := e
    by_cases hx : locLow w.heap.size l
    · obtain ⟨ho, hb⟩ := h.M.wgO l ((hm l hx).symm.trans e')
      rcases hg with ⟨e1, e2, _⟩ | ⟨e1, _⟩
      · subst e1; subst e2; exact ⟨ho, hb⟩
      · rw [ho] at e1; cases e1
    · rcases hg with ⟨_, _, e3⟩ | ⟨_, e2, _, _, _, e6⟩
      · exact absurd e' (e3 l hx)
      · exact ⟨e2, e6 l hx e'⟩
  · refine ⟨h.C.mem, h.C.nodup, h.C.len, h.C.small, h.C.reg, h.C.last, h.C.sema, fun e => ?_, h.C.relA, h.C.fin0, h.C.jnd⟩
    · rcases hg with ⟨e1, _⟩ | ⟨_, e2, _⟩
      · exact h.C.off (e1 ▸ e)
      · have : on' = false := e
        rw [e2] at this; cases this
  · rcases hg with ⟨e1, e2, _⟩ | ⟨e1, _, _, e4, _⟩
    · subst e1; subst e2
      exact wg_stays (h.A ho) turn fun _ x => x
    · obtain ⟨_, o2, o3, _⟩ := h.C.off e1
      show WgAt E.ty wg' w' (((s.alive.length + if s.pend then 1 else 0 : Nat) : Int) * KK + (s.ph.wt : Int)) (s.ph.sm : Int)
      rw [o2, o3, hal]
      simpa [Ph.wt, Ph.sm] using e4
  · have ha' : hd' = some a := ha
    rcases hh with e | ⟨e, b, e1, e2⟩
    · have := h.H a (e ▸ ha')
      exact (hm _ (h.lowOf this (by simp))).trans this
    · rw [e1] at ha'; cases ha'; exact e2
  · have hgr : TI { s.tg with mode := mode' } t w'.heap.size := ht.grow turn.size hm fun l hl e => by rcases hn l hl with e2 | ⟨_, e2 | ⟨_, e2⟩⟩ <;> rw [e2] at e <;> cases e
    have hx := (hgr.evs0 (show 0 < s.tg.n by omega) h.C.fin0 he hw (fun k1 => by omega) fn pos).group h1 hj wg'
    rcases hh with e | ⟨e, b, e1, e2⟩
    · subst e; exact hx
    · refine ⟨hx.nr, hx.own, hx.ro, hx.sh, fun l hl hm => ?_, hx.pubK, hx.gs, hx.deaf, hx.norel, hx.rels, hx.jo, hx.fresh⟩
      obtain ⟨a, q, e3, _⟩ := hx.pubW l hl hm
      have e4 : s.tg.hd = some a := e3
      rw [e] at e4; cases e4

theorem kept_usr (hB : B.Laws) (h : Ok E s w) (ht : TI s.tg t w.heap.size) (hk : k < s.tg.n) (hf : s.tg.fin k = false) {u' : B.U} (hr : k = 0 ∨ s.tg.rel k = false)
    (turn : Turn (fun b off => at' s.tg.mode b off = .at) w w') (hs : w'.heap.size = w.heap.size) (hu : B.Su k s.u w u' w') (he : ∀ e ∈ es, EvOk s.tg k w.heap.size e) (hw : noWord es) : Kept E k s w t { s with u := u' } w' es := by
  refine ⟨fun fn pos => ⟨⟨h.W.turn turn fun b off hb => by rw [base_not h.M hb off]; simp, by rw [hs]; exact h.M, ⟨h.C.mem, h.C.nodup, h.C.len, h.C.small, h.C.reg, h.C.last, h.C.sema, h.C.off, h.C.relA, h.C.fin0, h.C.jnd⟩, fun ho => wg_stays (h.A ho) turn fun off => ?_, h.H, hB.su h.J hu, fun hjo i i1 hi hri => ?_, h.K⟩, ?_⟩, rfl, fun i hi hik => ⟨fun hfi => ⟨turn.size, turn.keep fun b off hmay => ?_, fun l hl _ => rfl, fun _ x => x, rfl, rfl, rfl, fun ho => ⟨ho, rfl⟩, Nat.le_refl _, fun _ => ⟨rfl, rfl, rfl, rfl, Iff.rfl, id, Nat.le_refl _⟩, fun _ => ⟨id, fun _ x => x⟩, hB.suRu hu hik⟩, Iff.rfl⟩⟩
  · have := (h.M.wgA ho).1 ⟨s.tg.wg, off, none⟩ rfl
    intro e
    have e2 := this.symm.trans e
    cases e2
  · refine hB.suFin hu ?_ (hB.finStay (h.F hjo i i1 hi hri) (turn.keep fun b off e e' => by cases e.symm.trans e') fun _ e => e)
    rintro rfl
    have hri2 : s.tg.rel i = true := hri
    rcases hr with rfl | hr
    · omega
    · rw [hr] at hri2; cases hri2
  · rw [hs]
    refine ht.evs0 hk hf he hw (fun k1 hr' => ?_) fn pos
    rcases hr with rfl | hr
    · omega
    · rw [hr] at hr'; cases hr'
  · intro e
    rcases hmay with x | ⟨_, x, _⟩ | ⟨x, _⟩ <;> cases x.symm.trans e

theorem kept_look (hB : B.Laws) (h : Ok E s w) (ht : TI s.tg t w.heap.size) (hk : k < s.tg.n) (hf : s.tg.fin k = false) (hr : k = 0 ∨ s.tg.rel k = false) (hd : s.tg.deaf k = 0) {a : Addr} (hh : s.tg.hd = some a) (he : es = #[⟨.cell a, false, true⟩]) :
    Kept E k s w t { s with tg := { s.tg with kn := upd s.tg.kn k (fun l => s.tg.mode l = .pub) } } w es := by
  subst he
  have hm := h.H a hh
  refine ⟨fun fn pos => ⟨⟨h.W, h.M, h.C, h.A, h.H, h.J, h.F, fun i l e => ?_⟩, ht.learn hk hf hd hh hm (h.lowOf hm (by simp)) hr fn pos⟩, rfl, fun i hi hik => ⟨fun hfi => ⟨Nat.le_refl _, Keep.refl _ _, fun l hl _ => rfl, fun l x => ?_, rfl, rfl, rfl, fun ho => ⟨ho, rfl⟩, Nat.le_refl _, fun _ => ⟨rfl, rfl, rfl, rfl, Iff.rfl, id, Nat.le_refl _⟩, fun _ => ⟨id, fun _ x => x⟩, hB.refl _ _⟩, Iff.rfl⟩⟩
  · have e' : upd s.tg.kn k (fun l => s.tg.mode l = .pub) i l := e
    by_cases e2 : i = k
    · subst e2; rw [upd_same] at e'; exact e'
    · rw [upd_ne _ _ e2] at e'; exact h.K i l e'
  · show upd s.tg.kn k _ i l
    rw [upd_ne _ _ hik]; exact x

theorem kept_pub (hB : B.Laws) (h : Ok E s w) (ht : TI s.tg t w.heap.size) (hk : k < s.tg.n) (hf : s.tg.fin k = false) {u' : B.U} {mode' : Loc → Mode} (hr : k = 0 ∨ s.tg.rel k = false) (hd : s.tg.deaf k = 0) {a : Addr} (hh : s.tg.hd = some a)
    (turn : Turn (fun b off => at' s.tg.mode b off = .at) w w') (hs : w'.heap.size = w.heap.size) (hm : ∀ l, mode' l = s.tg.mode l ∨ (locLow w.heap.size l ∧ s.tg.mode l = .own k ∧ mode' l = .pub)) (hu : B.Pb k s.u s.tg.mode w u' mode' w')
    (he : es = #[⟨.cell a, false, true⟩, ⟨.cell a, true, true⟩]) :
    Kept E k s w t { s with u := u', tg := { s.tg with mode := mode', kn := upd s.tg.kn k (fun l => mode' l = .pub) } } w' es := by
  subst he
  have hma := h.H a hh
  have keepm : ∀ {l m}, s.tg.mode l = m → m ≠ .own k → mode' l = m := fun {l m} e hne => by
    rcases hm l with e' | ⟨_, e', _⟩
    · exact e'.trans e
    · exact absurd (e.symm.trans e') hne
  have back : ∀ {l m}, mode' l = m → m ≠ .pub → s.tg.mode l = m := fun {l m} e hne => by
    rcases hm l with e' | ⟨_, _, e'⟩
    · exact e'.symm.trans e
    · exact absurd (e.symm.trans e') hne
  refine ⟨fun fn pos => ⟨⟨h.W.turn turn fun b off hb => by rw [base_not h.M hb off]; simp, ⟨fun l hmem hl => keepm (h.M.old l hmem hl) (by simp), fun l hl => ?_, fun l i e => h.M.ownN l i (back e (by simp)), fun ho => ⟨fun a ha => keepm ((h.M.wgA ho).1 a ha) (by simp), (h.M.wgA ho).2⟩, fun l e => h.M.wgO l (back e (by simp))⟩,
    h.C, fun ho => wg_stays (h.A ho) turn fun off => ?_, fun b hb => keepm (h.H b hb) (by simp), hB.pb h.J hu, fun hjo i i1 hi hri => ?_, fun i l e => ?_⟩, ?_⟩, rfl, fun i hi hik => ⟨fun hfi => ⟨turn.size, turn.keep fun b off hmay => ?_, fun l hl hne => ?_, fun l x => ?_, rfl, rfl, rfl, fun ho => ⟨ho, rfl⟩, Nat.le_refl _, fun _ => ⟨rfl, rfl, rfl, rfl, Iff.rfl, id, Nat.le_refl _⟩, fun _ => ⟨id, fun _ x => x⟩, hB.pbRu hu hik⟩, Iff.rfl⟩⟩
  · have hl' : ¬ locLow w.heap.size l := hs ▸ hl
    rcases hm l with e' | ⟨e', _⟩
    · exact e'.trans (h.M.freshO l hl')
    · exact absurd e' hl'
  · have := (h.M.wgA ho).1 ⟨s.tg.wg, off, none⟩ rfl
    intro e
    have e2 := this.symm.trans e
    cases e2
  · have hik : i ≠ k := by
      rintro rfl
      have hri2 : s.tg.rel i = true := hri
      rcases hr with rfl | hr
      · omega
      · rw [hr] at hri2; cases hri2
    exact hB.finStay (hB.pbFin hu hik (h.F hjo i i1 hi hri)) (turn.keep fun b off e e' => by cases e.symm.trans e') fun l e => keepm e (fun e2 => hik (Mode.own.inj e2))
  · have e' : upd s.tg.kn k (fun l => mode' l = .pub) i l := e
    by_cases e2 : i = k
    · subst e2; rw [upd_same] at e'; exact e'
    · rw [upd_ne _ _ e2] at e'; exact keepm (h.K i l e') (by simp)
  · rw [hs]; exact ht.publish hk hf hd hh hma (h.lowOf hma (by simp)) hr (fun l => (hm l).imp id fun x => x.2) h.K (.inr trivial) fn pos
  · intro e
    rcases hmay with x | ⟨_, x, _⟩ | ⟨x, _⟩ <;> cases x.symm.trans e
  · rcases hm l with e' | ⟨_, e', _⟩
    · exact e'
    · exact absurd e' (hne k (Ne.symm hik))
  · show upd s.tg.kn k _ i l
    rw [upd_ne _ _ hik]; exact x

/-- The ghost of the deafness alone. -/
theorem kept_deaf (hB : B.Laws) (h : Ok E s w) (ht : TI s.tg t w.heap.size) (hk : k < s.tg.n) (hf : s.tg.fin k = false) {m : Mark} {d' : Nat} (hm : m = .disable ∨ m = .enable) (hd : deafBehind (s.tg.deaf k) #[Go.ConcR.mk m] = d') :
    Kept E k s w t { s with tg := { s.tg with deaf := upd s.tg.deaf k d' } } w #[Go.ConcR.mk m] := by
  refine ⟨fun fn pos => ⟨⟨h.W, h.M, h.C, h.A, h.H, h.J, h.F, h.K⟩, ?_⟩, rfl, fun i hi hik => ⟨fun hfi => ⟨Nat.le_refl _, Keep.refl _ _, fun l hl _ => rfl, fun _ x => x, upd_ne _ _ hik, rfl, rfl, fun ho => ⟨ho, rfl⟩, Nat.le_refl _, fun _ => ⟨rfl, rfl, rfl, rfl, Iff.rfl, id, Nat.le_refl _⟩, fun _ => ⟨id, fun _ x => x⟩, hB.refl _ _⟩, Iff.rfl⟩⟩
  have := ht.evs (es := #[Go.ConcR.mk m]) hk (fun e he => by
      simp at he; subst he
      rcases hm with rfl | rfl
      · exact ⟨fun x hx => by simp [Go.ConcR.mk, MemAct.ofEvent, MemAct.touch?] at hx, fun a => by simp [Go.ConcR.mk], fun _ _ sync => by simp [Go.ConcR.mk, MemAct.ofEvent]⟩
      · exact ⟨fun x hx => by simp [Go.ConcR.mk, MemAct.ofEvent, MemAct.touch?] at hx, fun a => by simp [Go.ConcR.mk], fun _ _ sync => by simp [Go.ConcR.mk, MemAct.ofEvent]⟩)
    (fun _ _ j e hj => .inl (by
      have : e = Go.ConcR.mk m := by
        have := Array.mem_of_getElem? hj
        simpa using this
      subst this
      rcases hm with rfl | rfl <;> rfl)) fn pos
  rw [ht.deaf k hk hf, hd] at this
  exact this

theorem wgEv_ok (h : Ok E s w) (ho : s.on = true) {a : Addr} {wr : Bool} (ha : a.block = s.tg.wg) : EvOk s.tg k w.heap.size ⟨.cell a, wr, true⟩ := by
  have hm := (h.M.wgA ho).1 a ha
  refine ⟨fun x hx => ?_, fun a => by simp, fun b hb sync e => ?_⟩
  · have : x = ⟨.cell a, wr, .atomic⟩ := by cases wr <;> simp [MemAct.ofEvent, MemAct.touch?] at hx <;> exact hx.symm
    subst this
    exact ⟨by show a.block < _; rw [ha]; exact h.wgLow ho, fun _ => .inl (.inr hm)⟩
  · have hb' := h.H b hb
    have : a = b := by cases wr <;> simp [MemAct.ofEvent] at e <;> first | exact e.1 | cases e
    subst this
    rw [hm] at hb'; cases hb'

theorem ti_wg (h : Ok E s w) (ht : TI s.tg t w.heap.size) (hk : k < s.tg.n) (hf : s.tg.fin k = false) (ho : s.on = true) (hr : k = 0 ∨ s.tg.rel k = false ∨ 0 < s.tg.deaf k) (he : wgEvs s.tg es) (fn : FuncId) (pos : String) :
    TI s.tg (t ++ MemOp.ofEvents k fn pos es) w.heap.size := by
  refine ht.evs0 hk hf (fun e hee => ?_) (fun e hee => ?_) (fun k1 hr' j e hj => ?_) fn pos
  · obtain ⟨a, wr, rfl, ha⟩ := he e hee
    exact wgEv_ok h ho ha
  · obtain ⟨a, wr, rfl, ha⟩ := he e hee
    simp
  · obtain ⟨a, wr, rfl, ha⟩ := he e (Array.mem_of_getElem? hj)
    rcases hr with rfl | hr | hr
    · omega
    · rw [hr] at hr'; cases hr'
    · exact .inr ⟨⟨a, wr, rfl, (h.M.wgA ho).1 a ha⟩, hr⟩

theorem kept_wgr (hB : B.Laws) (h : Ok E s w) (ht : TI s.tg t w.heap.size) (hk : k < s.tg.n) (hf : s.tg.fin k = false) (ho : s.on = true) (hr : k = 0 ∨ s.tg.rel k = false ∨ 0 < s.tg.deaf k) (he : wgEvs s.tg es) : Kept E k s w t s w es :=
  ⟨fun fn pos => ⟨h, ti_wg h ht hk hf ho hr he fn pos⟩, rfl, fun i hi hik => ⟨fun _ => Rl.refl hB _ _ _, Iff.rfl⟩⟩

theorem kept_said (hB : B.Laws) (h : Ok E s w) (ht : TI s.tg t w.heap.size) (ho : s.on = true) (he : ∀ e ∈ es, ∃ a, (e = ⟨.mark (.read a), false, true⟩ ∨ e = ⟨.mark (.write a), false, true⟩) ∧ a.block = s.tg.wg) : Kept E 0 s w t s w es := by
  have hn : 0 < s.tg.n := Nat.lt_of_lt_of_le (Nat.succ_pos _) h.C.len
  refine ⟨fun fn pos => ⟨h, ?_⟩, rfl, fun i hi hik => ⟨fun _ => Rl.refl hB _ _ _, Iff.rfl⟩⟩
  refine ht.evs0 hn h.C.fin0 (fun e hee => ?_) (fun e hee => ?_) (fun k1 => by omega) fn pos
  · obtain ⟨a, hx, ha⟩ := he e hee
    have hm := (h.M.wgA ho).1 a ha
    rcases hx with rfl | rfl
    · exact ⟨fun x hx => by
        simp only [MemAct.ofEvent, MemAct.touch?, Option.some.injEq] at hx; subst hx
        exact ⟨by show a.block < _; rw [ha]; exact h.wgLow ho, fun _ => ⟨hm, rfl⟩⟩, fun a => by simp, fun _ _ sync => by simp [MemAct.ofEvent]⟩
    · exact ⟨fun x hx => by
        simp only [MemAct.ofEvent, MemAct.touch?, Option.some.injEq] at hx; subst hx
        exact ⟨by show a.block < _; rw [ha]; exact h.wgLow ho, fun _ => ⟨hm, rfl⟩⟩, fun a => by simp, fun _ _ sync => by simp [MemAct.ofEvent]⟩
  · obtain ⟨a, hx, _⟩ := he e hee
    rcases hx with rfl | rfl <;> simp

/-- A step that turns the group's block. -/
theorem kept_st (hB : B.Laws) (h : Ok E s w) (ho : s.on = true) {off : Nat} {v : Value}
    (hsz : s'.tg.mode = s.tg.mode) (hn : s'.tg.n = s.tg.n) (hwg : s'.tg.wg = s.tg.wg) (hon : s'.on = s.on) (hhd : s'.tg.hd = s.tg.hd) (hkn : s'.tg.kn = s.tg.kn) (hu : s'.u = s.u) (hrl : s'.tg.rel = s.tg.rel) (hjo : s'.tg.joined = s.tg.joined)
    (hC : OkC E s.tg.n s'.tg.fin s'.tg.rel s'.tg.joined s.on s'.ph s'.alive s'.pend)
    (hA : WgAt E.ty s.tg.wg (w.setCell ⟨s.tg.wg, off, none⟩ v) ((s'.cnt : Int) * KK + (s'.ph.wt : Int)) (s'.ph.sm : Int)) : Ok E s' (w.setCell ⟨s.tg.wg, off, none⟩ v) := by
  have turn : Turn (fun b off => at' s.tg.mode b off = .wg) w (w.setCell ⟨s.tg.wg, off, none⟩ v) := Turn.setCell w _ _ v (h.A ho) ((h.M.wgA ho).1 _ rfl)
  refine ⟨h.W.turn turn fun b off hb => by rw [base_not h.M hb off]; simp, by rw [hsz, hn, hwg, hon, setCell_size]; exact h.M, by rw [hn, hon]; exact hC, fun _ => by rw [hwg]; exact hA, fun a ha => by rw [hsz]; exact h.H a (hhd ▸ ha), ?_, ?_, fun i l e => by rw [hsz]; exact h.K i l (hkn ▸ e)⟩
  · rw [hsz, hu]
    exact hB.stay h.J (turn.keep fun b off e => by rcases e with e | e <;> rw [e] <;> simp) fun _ _ => rfl
  · rw [hsz, hu, hjo, hrl, hn]
    exact fun hjo i i1 hi hri => hB.finStay (h.F hjo i i1 hi hri) (turn.keep fun b off e => by rw [e]; simp) fun _ e => e

theorem keep_st (h : Ok E s w) (ho : s.on = true) {off : Nat} {v : Value} (i : Nat) : Keep (fun b o => May s.tg i (.cell ⟨b, o, none⟩)) w (w.setCell ⟨s.tg.wg, off, none⟩ v) := by
  have turn : Turn (fun b off => at' s.tg.mode b off = .wg) w (w.setCell ⟨s.tg.wg, off, none⟩ v) := Turn.setCell w _ _ v (h.A ho) ((h.M.wgA ho).1 _ rfl)
  exact turn.keep fun b o hmay e => by
    rcases hmay with x | ⟨_, x, _⟩ | ⟨x, _⟩ <;> cases x.symm.trans e
end
end Go.Proofs.Ytbamamkjmfkghaa.Crw
namespace Go.Proofs.Ytbamamkjmfkghaa.Crw
open Go Go.Conc
open Go.ConcN (PermW RelBy upd upd_same upd_ne)
open Go.ConcR (stA smA KK WgAt wgBlock)
set_option linter.unusedVariables false

section
variable {B : Usr} {E : Env} {s s' : St B} {w w' : World} {t : Trace} {k : Nat} {es : Array Event}

theorem npos (h : Ok E s w) : 0 < s.tg.n := Nat.lt_of_lt_of_le (Nat.succ_pos _) h.C.len

theorem kept_add (hB : B.Laws) (h : Ok E s w) (ht : TI s.tg t w.heap.size) (ho : s.on = true) (hp : s.ph = .opn) (hq : s.pend = false) (hj : s.tg.joined = false) (hd : 0 < s.tg.deaf 0) (he : wgEvs s.tg es) :
    Kept E 0 s w t { s with pend := true } (w.setCell (stA s.tg.wg) (.int .u64 (((s.cnt : Int) + 1) * KK))) es := by
  have hA := h.A ho
  rw [hp] at hA
  refine ⟨fun fn pos => ⟨kept_st hB h ho rfl rfl rfl rfl rfl rfl rfl rfl rfl ⟨h.C.mem, h.C.nodup, h.C.len, h.C.small, fun e => ?_, fun i b e => ?_, fun e => ?_, fun e => ?_, h.C.relA, h.C.fin0, fun e => ?_⟩ ?_, ?_⟩, rfl, fun i hi hik => ⟨fun _ => ⟨by rw [setCell_size]; exact Nat.le_refl _, keep_st h ho i, fun _ _ _ => rfl, fun _ x => x, rfl, rfl, rfl, fun ho => ⟨ho, rfl⟩, Nat.le_refl _, fun e => absurd e hik, fun _ => ⟨id, fun _ x => x⟩, hB.refl _ _⟩, Iff.rfl⟩⟩
  · rw [hp] at e; cases e
  · rw [hp] at e; cases e
  · rw [hp] at e; cases e
  · rw [ho] at e; cases e
  · have e2 : s.tg.joined = true := e
    rw [hj] at e2; cases e2
  · have := wg_st (st' := ((s.cnt : Int) + 1) * KK) hA
    show WgAt E.ty s.tg.wg _ (((s.alive.length + 1 : Nat) : Int) * KK + (s.ph.wt : Int)) (s.ph.sm : Int)
    have ec : s.cnt = s.alive.length := by simp [St.cnt, hq]
    rw [hp]
    rw [ec] at this ⊢
    simpa [Ph.wt, Ph.sm, stA, Int.natCast_add] using this
  · rw [setCell_size]; exact ti_wg h ht (npos h) h.C.fin0 ho (.inl rfl) he fn pos

theorem kept_cas (hB : B.Laws) (h : Ok E s w) (ht : TI s.tg t w.heap.size) (ho : s.on = true) (hp : s.ph = .opn) (hq : s.pend = false) (hl : s.alive ≠ []) (he : wgEvs s.tg es) :
    Kept E 0 s w t { s with ph := .reg } (w.setCell (stA s.tg.wg) (.int .u64 ((s.cnt : Int) * KK + 1))) es := by
  have hA := h.A ho
  rw [hp] at hA
  refine ⟨fun fn pos => ⟨kept_st hB h ho rfl rfl rfl rfl rfl rfl rfl rfl rfl ⟨fun i => ?_, h.C.nodup, h.C.len, h.C.small, fun _ => ⟨hl, hq⟩, fun i b e => ?_, fun e => ?_, fun e => ?_, h.C.relA, h.C.fin0, fun e => ?_⟩ ?_, ?_⟩, rfl, fun i hi hik => ⟨fun _ => ⟨by rw [setCell_size]; exact Nat.le_refl _, keep_st h ho i, fun _ _ _ => rfl, fun _ x => x, rfl, rfl, rfl, fun ho => ⟨ho, rfl⟩, Nat.le_refl _, fun e => absurd e hik, fun _ => ⟨id, fun b x => ?_⟩, hB.refl _ _⟩, Iff.rfl⟩⟩
  · rw [h.C.mem i, hp]; simp
  · cases e
  · cases e
  · rw [ho] at e; cases e
  · exact absurd (h.C.jnd e).1 hl
  · have := wg_st (st' := (s.cnt : Int) * KK + 1) hA
    show WgAt E.ty s.tg.wg _ ((s.cnt : Int) * KK + (Ph.reg.wt : Int)) (Ph.reg.sm : Int)
    simpa [Ph.wt, Ph.sm, stA, smA] using this
  · rw [setCell_size]; exact ti_wg h ht (npos h) h.C.fin0 ho (.inl rfl) he fn pos
  · rw [hp] at x; cases x

/-- The four entries of a semaphore's step. -/
theorem ti_sem (h : Ok E s w) (ht : TI s.tg t w.heap.size) (hk : k < s.tg.n) (hf : s.tg.fin k = false) (ho : s.on = true) (hr : k = 0 ∨ 0 < s.tg.deaf k) (fn : FuncId) (pos : String) :
    TI s.tg (t ++ MemOp.ofEvents k fn pos (semEvents (smA s.tg.wg))) w.heap.size := by
  have hd := ht.deaf k hk hf
  have hm : s.tg.mode (.cell (smA s.tg.wg)) = .wg := (h.M.wgA ho).1 _ rfl
  have := ht.evs (es := semEvents (smA s.tg.wg)) hk (fun e he => by
      simp [semEvents] at he
      rcases he with rfl | rfl | rfl | rfl
      · exact ⟨fun x hx => by simp [MemAct.ofEvent, MemAct.touch?] at hx, fun a => by simp, fun _ _ sync => by simp [MemAct.ofEvent]⟩
      · exact wgEv_ok h ho rfl
      · exact wgEv_ok h ho rfl
      · exact ⟨fun x hx => by simp [MemAct.ofEvent, MemAct.touch?] at hx, fun a => by simp, fun _ _ sync => by simp [MemAct.ofEvent]⟩)
    (fun k1 hrel j e hj => by
      have hdk : 0 < s.tg.deaf k := by rcases hr with rfl | hr; omega; exact hr
      rcases j with _ | _ | _ | _ | j
      · simp [semEvents] at hj; subst hj; exact .inl rfl
      · simp [semEvents] at hj; subst hj
        exact .inr ⟨⟨_, _, rfl, hm⟩, by simp [semEvents, deafBehind]⟩
      · simp [semEvents] at hj; subst hj
        exact .inr ⟨⟨_, _, rfl, hm⟩, by simp [semEvents, deafBehind]⟩
      · simp [semEvents] at hj; subst hj; exact .inl rfl
      · simp [semEvents] at hj) fn pos
  have e : deafBehind (Deaf t k) (semEvents (smA s.tg.wg)) = s.tg.deaf k := by rw [hd]; simp [semEvents, deafBehind]
  rw [e, upd_id] at this
  exact this

theorem kept_take (hB : B.Laws) (h : Ok E s w) (ht : TI s.tg t w.heap.size) (ho : s.on = true) (hp : s.ph = .sema) :
    Kept E 0 s w t { s with ph := .opn } (w.setCell (smA s.tg.wg) (.int .u32 0)) (semEvents (smA s.tg.wg)) := by
  have hA := h.A ho
  rw [hp] at hA
  obtain ⟨ha, hq⟩ := h.C.sema hp
  refine ⟨fun fn pos => ⟨kept_st hB h ho rfl rfl rfl rfl rfl rfl rfl rfl rfl ⟨fun i => ?_, h.C.nodup, h.C.len, h.C.small, fun e => ?_, fun i b e => ?_, fun e => ?_, fun e => ?_, h.C.relA, h.C.fin0, fun e => ⟨ha, rfl, hq⟩⟩ ?_, ?_⟩, rfl, fun i hi hik => ⟨fun _ => ⟨by rw [setCell_size]; exact Nat.le_refl _, keep_st h ho i, fun _ _ _ => rfl, fun _ x => x, rfl, rfl, rfl, fun ho => ⟨ho, rfl⟩, Nat.le_refl _, fun e => absurd e hik, fun _ => ⟨id, fun b x => ?_⟩, hB.refl _ _⟩, Iff.rfl⟩⟩
  · rw [h.C.mem i, hp]; simp
  · cases e
  · cases e
  · cases e
  · rw [ho] at e; cases e
  · have := wg_sm (sm' := 0) hA
    show WgAt E.ty s.tg.wg _ ((s.cnt : Int) * KK + (Ph.opn.wt : Int)) (Ph.opn.sm : Int)
    simpa [Ph.wt, Ph.sm, stA, smA] using this
  · rw [setCell_size]; exact ti_sem h ht (npos h) h.C.fin0 ho (.inl rfl) fn pos
  · rw [hp] at x; cases x

theorem kept_join (hB : B.Laws) (h : Ok E s w) (ht : TI s.tg t w.heap.size) (ho : s.on = true) (hp : s.ph = .opn) (hl : s.alive = []) (hq : s.pend = false) (hj : s.tg.joined = false) (hd : s.tg.deaf 0 = 0) {mode' : Loc → Mode}
    (hm : ∀ l, mode' l = s.tg.mode l ∨ ∃ i, 1 ≤ i ∧ i < s.tg.n ∧ s.tg.mode l = .own i ∧ mode' l = .own 0) :
    Kept E 0 s w t { s with tg := { s.tg with joined := true, mode := mode' } } w #[Go.ConcR.mk (.acquire (stA s.tg.wg))] := by
  have hn := npos h
  have keepm : ∀ {l m}, s.tg.mode l = m → (∀ i, m ≠ .own i) → mode' l = m := fun {l m} e hne => by
    rcases hm l with e' | ⟨i, _, _, e', _⟩
    · exact e'.trans e
    · exact absurd (e.symm.trans e') (hne i)
  refine ⟨fun fn pos => ⟨⟨h.W, ⟨fun l hmem hl => keepm (h.M.old l hmem hl) (by simp), fun l hl => ?_, fun l i e => ?_, fun ho => ⟨fun a ha => keepm ((h.M.wgA ho).1 a ha) (by simp), (h.M.wgA ho).2⟩, fun l e => ?_⟩,
    ⟨h.C.mem, h.C.nodup, h.C.len, h.C.small, h.C.reg, h.C.last, h.C.sema, fun e => (by rw [ho] at e; cases e), h.C.relA, h.C.fin0, fun _ => ⟨hl, hp, hq⟩⟩, h.A, fun a ha => keepm (h.H a ha) (by simp),
    hB.stay h.J (Keep.refl _ _) fun l e => (by rcases e with e | e <;> exact (keepm e (by simp)).trans e.symm), fun hj2 => (by cases hj2), fun i l e => keepm (h.K i l e) (by simp)⟩, ht.join hn h.C.fin0 hd hj (fun i i1 hi => h.C.relA i i1 hi (by rw [hl]; simp)) fn pos hm⟩, rfl, fun i hi hik => ⟨fun hfi => ?_, Iff.rfl⟩⟩
  · rcases hm l with e' | ⟨i, i1, _, e', _⟩
    · exact e'.trans (h.M.freshO l hl)
    · have e2 := (h.M.freshO l hl).symm.trans e'
      have : 0 = i := Mode.own.inj e2
      omega
  · have e2 : mode' l = .own i := e
    rcases hm l with e' | ⟨_, _, _, _, e'⟩
    · exact h.M.ownN l i (e'.symm.trans e2)
    · have : 0 = i := Mode.own.inj (e'.symm.trans e2)
      show i < s.tg.n
      omega
  · have e2 : mode' l = .wg := e
    rcases hm l with e' | ⟨_, _, _, _, e'⟩
    · exact h.M.wgO l (e'.symm.trans e2)
    · cases e'.symm.trans e2
  · have := (h.C.mem i).2 ⟨by omega, hi, by simpa using hfi, fun b => by rw [hp]; simp⟩
    rw [hl] at this; simp at this

theorem notJoined (h : Ok E s w) (k1 : 1 ≤ k) (hk : k < s.tg.n) (hf : s.tg.fin k = false) : s.tg.joined = false := by
  cases hj : s.tg.joined with
  | false => rfl
  | true =>
    obtain ⟨h1, h2, _⟩ := h.C.jnd hj
    have := (h.C.mem k).2 ⟨k1, hk, hf, fun b => by rw [h2]; simp⟩
    rw [h1] at this; simp at this

theorem kept_relm (hB : B.Laws) (h : Ok E s w) (ht : TI s.tg t w.heap.size) (hk : k < s.tg.n) (hf : s.tg.fin k = false) (k1 : 1 ≤ k) (hd : s.tg.deaf k = 0) (hr : s.tg.rel k = false) (hF : B.Fin s.u k s.tg.mode w) :
    Kept E k s w t { s with tg := { s.tg with rel := upd s.tg.rel k true } } w #[Go.ConcR.mk (.releaseMerge (stA s.tg.wg))] := by
  refine ⟨fun fn pos => ⟨⟨h.W, h.M, ⟨h.C.mem, h.C.nodup, h.C.len, h.C.small, h.C.reg, h.C.last, h.C.sema, h.C.off, fun i i1 hi ha => ?_, h.C.fin0, h.C.jnd⟩, h.A, h.H, h.J, fun hjo i i1 hi hri => ?_, h.K⟩, ht.relm hk k1 hf hd hr (notJoined h k1 hk hf) fn pos⟩, rfl,
    fun i hi hik => ⟨fun _ => ⟨Nat.le_refl _, Keep.refl _ _, fun _ _ _ => rfl, fun _ x => x, rfl, upd_ne _ _ hik, rfl, fun ho => ⟨ho, rfl⟩, Nat.le_refl _, fun _ => ⟨rfl, rfl, rfl, rfl, Iff.rfl, id, Nat.le_refl _⟩, fun _ => ⟨id, fun _ x => x⟩, hB.refl _ _⟩, Iff.rfl⟩⟩
  · show upd s.tg.rel k true i = true
    by_cases e : i = k
    · subst e; exact upd_same _ _ _
    · rw [upd_ne _ _ e]; exact h.C.relA i i1 hi ha
  · have hri' : upd s.tg.rel k true i = true := hri
    by_cases e : i = k
    · subst e; exact hF
    · rw [upd_ne _ _ e] at hri'; exact h.F hjo i i1 hi hri'

theorem kept_neg (hB : B.Laws) (h : Ok E s w) (ht : TI s.tg t w.heap.size) (hk : k < s.tg.n) (hf : s.tg.fin k = false) (k1 : 1 ≤ k) (ho : s.on = true) (hd : 0 < s.tg.deaf k) (hr : s.tg.rel k = true) (ha : k ∈ s.alive) (hl : ¬ (s.ph = .reg ∧ s.alive.length = 1)) (he : wgEvs s.tg es) :
    Kept E k s w t { s with alive := s.alive.erase k, tg := { s.tg with fin := upd s.tg.fin k true } } (w.setCell (stA s.tg.wg) (.int .u64 (((s.cnt - 1 : Nat) : Int) * KK + (s.ph.wt : Int)))) es := by
  have hA := h.A ho
  have hlen : (s.alive.erase k).length = s.alive.length - 1 := List.length_erase_of_mem ha
  have hpos : 0 < s.alive.length := List.length_pos_of_mem ha
  have hnj := notJoined h k1 hk hf
  have hne : s.alive ≠ [] := fun e => by rw [e] at ha; simp at ha
  refine ⟨fun fn pos => ⟨kept_st hB h ho rfl rfl rfl rfl rfl rfl rfl rfl rfl ⟨fun i => ?_, h.C.nodup.erase k, ?_, h.C.small, fun e => ⟨fun e2 => ?_, (h.C.reg e).2⟩, fun i b e => absurd (h.C.last i b e).1 hne, fun e => absurd (h.C.sema e).1 hne, fun e => ?_, fun i i1 hi hia => ?_, ?_, fun e => ?_⟩ ?_, ?_⟩, rfl,
    fun i hi hik => ⟨fun _ => ⟨by rw [setCell_size]; exact Nat.le_refl _, keep_st h ho i, fun _ _ _ => rfl, fun _ x => x, rfl, rfl, rfl, fun ho => ⟨ho, rfl⟩, Nat.le_refl _, fun e => ⟨rfl, rfl, rfl, rfl, Iff.rfl, id, List.length_erase_le⟩, fun _ => ⟨fun hm => (List.mem_erase_of_ne hik).2 hm, fun b x => x⟩, hB.refl _ _⟩, ?_⟩⟩
  · show i ∈ s.alive.erase k ↔ 1 ≤ i ∧ i < s.tg.n ∧ upd s.tg.fin k true i = false ∧ ∀ b, s.ph ≠ .last i b
    rw [h.C.nodup.mem_erase_iff, h.C.mem i]
    by_cases e : i = k
    · subst e; simp [upd_same]
    · rw [upd_ne _ _ e]; simp [e]
  · have := h.C.len
    show (s.alive.erase k).length + 1 ≤ s.tg.n
    omega
  · have e2' : (s.alive.erase k).length = 0 := by rw [show s.alive.erase k = [] from e2]; rfl
    exact hl ⟨e, by omega⟩
  · rw [ho] at e; cases e
  · by_cases e : i = k
    · subst e; exact hr
    · exact h.C.relA i i1 hi fun hm => hia ((List.mem_erase_of_ne e).2 hm)
  · show upd s.tg.fin k true 0 = false
    rw [upd_ne _ _ (by omega)]; exact h.C.fin0
  · have e2 : s.tg.joined = true := e
    rw [hnj] at e2; cases e2
  · have := wg_st (st' := ((s.cnt - 1 : Nat) : Int) * KK + (s.ph.wt : Int)) hA
    have ec : s.cnt - 1 = (s.alive.erase k).length + if s.pend then 1 else 0 := by
      rw [hlen]; simp only [St.cnt]; omega
    rw [ec] at this ⊢
    exact this
  · rw [setCell_size]
    refine (ti_wg h ht hk hf ho (.inr (.inr hd)) he fn pos).end _ fun i e => ?_
    by_cases e2 : i = k
    · subst e2; rw [upd_same] at e; cases e
    · rw [upd_ne _ _ e2] at e; exact e
  · show upd s.tg.fin k true i = true ↔ _
    rw [upd_ne _ _ hik]

theorem kept_negl (hB : B.Laws) (h : Ok E s w) (ht : TI s.tg t w.heap.size) (hk : k < s.tg.n) (hf : s.tg.fin k = false) (k1 : 1 ≤ k) (ho : s.on = true) (hd : 0 < s.tg.deaf k) (hr : s.tg.rel k = true) (ha : k ∈ s.alive) (hp : s.ph = .reg) (hl : s.alive.length = 1) (he : wgEvs s.tg es) :
    Kept E k s w t { s with alive := [], ph := .last k false } (w.setCell (stA s.tg.wg) (.int .u64 1)) es := by
  have hA := h.A ho
  have hnj := notJoined h k1 hk hf
  have hq := (h.C.reg hp).2
  have hal : s.alive = [k] := by
    obtain ⟨x, hx⟩ := List.length_eq_one_iff.1 hl
    rw [hx] at ha ⊢
    simp at ha; rw [ha]
  have hcov : ∀ i, 1 ≤ i → i < s.tg.n → s.tg.fin i = false → i = k := fun i i1 hi hfi => by
    have := (h.C.mem i).2 ⟨i1, hi, hfi, fun b => by rw [hp]; simp⟩
    rw [hal] at this; simpa using this
  refine ⟨fun fn pos => ⟨kept_st hB h ho rfl rfl rfl rfl rfl rfl rfl rfl rfl ⟨fun i => ?_, List.nodup_nil, ?_, h.C.small, fun e => (by cases e), fun i b e => ?_, fun e => (by cases e), fun e => ?_, fun i i1 hi _ => ?_, h.C.fin0, fun e => ?_⟩ ?_, ?_⟩, rfl,
    fun i hi hik => ⟨fun hfi => ⟨by rw [setCell_size]; exact Nat.le_refl _, keep_st h ho i, fun _ _ _ => rfl, fun _ x => x, rfl, rfl, rfl, fun ho => ⟨ho, rfl⟩, Nat.le_refl _, fun e => ⟨rfl, rfl, rfl, rfl, by rw [hp]; simp, fun e => (by rw [hp] at e; cases e), Nat.zero_le _⟩, fun i1 => ⟨fun hm => ?_, fun b x => ?_⟩, hB.refl _ _⟩, Iff.rfl⟩⟩
  · refine ⟨fun hx => by simp at hx, fun ⟨i1, hi, hfi, hb⟩ => ?_⟩
    have := hcov i i1 hi hfi
    subst this
    exact absurd rfl (hb false)
  · have := h.C.len; show 0 + 1 ≤ s.tg.n; omega
  · cases e; exact ⟨rfl, hq, k1, hk, hf⟩
  · rw [ho] at e; cases e
  · by_cases e : i = k
    · subst e; exact hr
    · exact h.C.relA i i1 hi fun hm => by rw [hal] at hm; simp at hm; exact e hm
  · have e2 : s.tg.joined = true := e
    rw [hnj] at e2; cases e2
  · have := wg_st (st' := 1) hA
    rw [hp] at this
    show WgAt E.ty s.tg.wg _ (((0 + if s.pend then 1 else 0 : Nat) : Int) * KK + ((Ph.last k false).wt : Int)) ((Ph.last k false).sm : Int)
    rw [hq]
    simpa [Ph.wt, Ph.sm, stA, smA] using this
  · rw [setCell_size]; exact ti_wg h ht hk hf ho (.inr (.inr hd)) he fn pos
  · rw [hal] at hm; simp at hm; exact absurd hm hik
  · rw [hp] at x; cases x

theorem kept_put (hB : B.Laws) (h : Ok E s w) (ht : TI s.tg t w.heap.size) (hk : k < s.tg.n) (hf : s.tg.fin k = false) (ho : s.on = true) (hd : 0 < s.tg.deaf k) (hp : s.ph = .last k false) (he : wgEvs s.tg es) :
    Kept E k s w t { s with ph := .last k true } (w.setCell (stA s.tg.wg) (.int .u64 0)) es := by
  have hA := h.A ho
  obtain ⟨ha, hq, k1, _, _⟩ := h.C.last k _ hp
  have hnj := notJoined h k1 hk hf
  refine ⟨fun fn pos => ⟨kept_st hB h ho rfl rfl rfl rfl rfl rfl rfl rfl rfl ⟨fun i => ?_, h.C.nodup, h.C.len, h.C.small, fun e => (by cases e), fun i b e => ?_, fun e => (by cases e), fun e => ?_, h.C.relA, h.C.fin0, fun e => ?_⟩ ?_, ?_⟩, rfl,
    fun i hi hik => ⟨fun hfi => ⟨by rw [setCell_size]; exact Nat.le_refl _, keep_st h ho i, fun _ _ _ => rfl, fun _ x => x, rfl, rfl, rfl, fun ho => ⟨ho, rfl⟩, Nat.le_refl _, fun e => ⟨rfl, rfl, rfl, rfl, by rw [hp]; simp, fun e => (by rw [hp] at e; cases e), Nat.le_refl _⟩, fun i1 => ⟨id, fun b x => ?_⟩, hB.refl _ _⟩, Iff.rfl⟩⟩
  · show i ∈ s.alive ↔ 1 ≤ i ∧ i < s.tg.n ∧ s.tg.fin i = false ∧ ∀ b, Ph.last k true ≠ .last i b
    rw [h.C.mem i, hp]
    simp only [ne_eq, Ph.last.injEq, not_and]
    constructor
    · rintro ⟨h1, h2, h3, h4⟩
      exact ⟨h1, h2, h3, fun b e => by subst e; exact absurd rfl (h4 false rfl)⟩
    · rintro ⟨h1, h2, h3, h4⟩
      exact ⟨h1, h2, h3, fun b e => by subst e; exact absurd rfl (h4 true rfl)⟩
  · cases e; exact ⟨ha, hq, k1, hk, hf⟩
  · rw [ho] at e; cases e
  · have e2 : s.tg.joined = true := e
    rw [hnj] at e2; cases e2
  · have := wg_st (st' := 0) hA
    rw [hp] at this
    show WgAt E.ty s.tg.wg _ (((s.alive.length + if s.pend then 1 else 0 : Nat) : Int) * KK + ((Ph.last k true).wt : Int)) ((Ph.last k true).sm : Int)
    rw [hq, ha]
    simpa [Ph.wt, Ph.sm, stA, smA] using this
  · rw [setCell_size]; exact ti_wg h ht hk hf ho (.inr (.inr hd)) he fn pos
  · rw [hp] at x; cases x; exact absurd rfl hik

theorem kept_up (hB : B.Laws) (h : Ok E s w) (ht : TI s.tg t w.heap.size) (hk : k < s.tg.n) (hf : s.tg.fin k = false) (ho : s.on = true) (hd : 0 < s.tg.deaf k) (hp : s.ph = .last k true) :
    Kept E k s w t { s with ph := .sema, tg := { s.tg with fin := upd s.tg.fin k true } } (w.setCell (smA s.tg.wg) (.int .u32 1)) (semEvents (smA s.tg.wg)) := by
  have hA := h.A ho
  obtain ⟨ha, hq, k1, _, _⟩ := h.C.last k _ hp
  have hnj := notJoined h k1 hk hf
  refine ⟨fun fn pos => ⟨kept_st hB h ho rfl rfl rfl rfl rfl rfl rfl rfl rfl ⟨fun i => ?_, h.C.nodup, h.C.len, h.C.small, fun e => (by cases e), fun i b e => (by cases e), fun _ => ⟨ha, hq⟩, fun e => ?_, h.C.relA, ?_, fun e => ?_⟩ ?_, ?_⟩, rfl,
    fun i hi hik => ⟨fun hfi => ⟨by rw [setCell_size]; exact Nat.le_refl _, keep_st h ho i, fun _ _ _ => rfl, fun _ x => x, rfl, rfl, rfl, fun ho => ⟨ho, rfl⟩, Nat.le_refl _, fun e => ⟨rfl, rfl, rfl, rfl, by rw [hp]; simp, fun _ => rfl, Nat.le_refl _⟩, fun i1 => ⟨id, fun b x => ?_⟩, hB.refl _ _⟩, ?_⟩⟩
  · show i ∈ s.alive ↔ 1 ≤ i ∧ i < s.tg.n ∧ upd s.tg.fin k true i = false ∧ ∀ b, Ph.sema ≠ .last i b
    rw [h.C.mem i, hp]
    by_cases e : i = k
    · subst e; simp [upd_same]
    · rw [upd_ne _ _ e]; simp [Ne.symm e]
  · rw [ho] at e; cases e
  · show upd s.tg.fin k true 0 = false
    rw [upd_ne _ _ (by omega)]; exact h.C.fin0
  · have e2 : s.tg.joined = true := e
    rw [hnj] at e2; cases e2
  · have := wg_sm (sm' := 1) hA
    rw [hp] at this
    show WgAt E.ty s.tg.wg _ ((s.cnt : Int) * KK + (Ph.sema.wt : Int)) (Ph.sema.sm : Int)
    simpa [Ph.wt, Ph.sm, stA, smA] using this
  · rw [setCell_size]
    refine (ti_sem h ht hk hf ho (.inr hd) fn pos).end _ fun i e => ?_
    by_cases e2 : i = k
    · subst e2; rw [upd_same] at e; cases e
    · rw [upd_ne _ _ e2] at e; exact e
  · rw [hp] at x; cases x; exact absurd rfl hik
  · show upd s.tg.fin k true i = true ↔ _
    rw [upd_ne _ _ hik]

theorem kept_idle (hB : B.Laws) (h : Ok E s w) (ht : TI s.tg t w.heap.size) (d : Nat) : Kept E k s w t s (w.at d) #[] :=
  ⟨fun fn pos => ⟨⟨⟨h.W.base, h.W.same, h.W.tape, h.W.os, h.W.output⟩, h.M, h.C, h.A, h.H, hB.stay h.J (Keep.refl _ _) (fun _ _ => rfl), fun hjo i i1 hi hri => hB.finStay (h.F hjo i i1 hi hri) (Keep.refl _ _) fun _ e => e, h.K⟩, by rw [ofEvents_none, Array.append_empty]; exact ht⟩, rfl, fun i hi hik => ⟨fun _ => ⟨Nat.le_refl _, Keep.refl _ _, fun _ _ _ => rfl, fun _ x => x, rfl, rfl, rfl, fun ho => ⟨ho, rfl⟩, Nat.le_refl _, fun _ => ⟨rfl, rfl, rfl, rfl, Iff.rfl, id, Nat.le_refl _⟩, fun _ => ⟨id, fun _ x => x⟩, hB.refl _ _⟩, Iff.rfl⟩⟩

theorem kept_mv (hB : B.Laws) (h : Ok E s w) (ht : TI s.tg t w.heap.size) (hk : k < s.tg.n) (hf : s.tg.fin k = false) (hm : Mv E k s w s' w' es) : Kept E k s w t s' w' es := by
  cases hm with
  | loc hr turn hm hn hfr he hw => exact kept_loc hB h ht hk hf hr turn hm hn hfr he hw
  | ini h0 h1 hj turn hm hn hg hh hJ he hw => subst h0; exact kept_ini hB h ht h1 hj turn hm hn hg hh hJ he hw
  | look hr hd hh he => exact kept_look hB h ht hk hf hr hd hh he
  | pub hr hd hh turn hs hm hu he => exact kept_pub hB h ht hk hf hr hd hh turn hs hm hu he
  | usr hr turn hs hu he hw => exact kept_usr hB h ht hk hf hr turn hs hu he hw
  | idle => exact kept_idle hB h ht _
  | dis => exact kept_deaf hB h ht hk hf (.inl rfl) rfl
  | ena => exact kept_deaf hB h ht hk hf (.inr rfl) rfl
  | wgr ho hr he => exact kept_wgr hB h ht hk hf ho hr he
  | said ho h0 he => subst h0; exact kept_said hB h ht ho he
  | add h0 ho hp hq hj hd he => subst h0; exact kept_add hB h ht ho hp hq hj hd he
  | cas h0 ho hp hq hl he => subst h0; exact kept_cas hB h ht ho hp hq hl he
  | take h0 ho hp => subst h0; exact kept_take hB h ht ho hp
  | join h0 ho hp hl hq hj hd hm => subst h0; exact kept_join hB h ht ho hp hl hq hj hd hm
  | relm k1 ho hd hr hF => exact kept_relm hB h ht hk hf k1 hd hr hF
  | neg k1 ho hd hr ha hl he => exact kept_neg hB h ht hk hf k1 ho hd hr ha hl he
  | negl k1 ho hd hr ha hp hl he => exact kept_negl hB h ht hk hf k1 ho hd hr ha hp hl he
  | put ho hd hp he => exact kept_put hB h ht hk hf ho hd hp he
  | up ho hd hp => exact kept_up hB h ht hk hf ho hd hp

theorem go1_kept (hB : B.Laws) (h : Ok E s w) (ht : TI s.tg t w.heap.size) (hm : Go1 E s w s' w' es) :
    (∀ fn fn' pos, Ok E s' w' ∧ TI s'.tg (t ++ goOps fn fn' pos es s.tg.n) w'.heap.size) ∧ s'.tg.n = s.tg.n + 1 ∧ ¬ s'.tg.fin s.tg.n = true ∧
      ∀ i, 1 ≤ i → i < s.tg.n → (¬ s.tg.fin i = true → Rl i s w s' w') ∧ (s'.tg.fin i = true ↔ s.tg.fin i = true) := by
  cases hm with
  | mk ho hp hq hj hd hN hm hu =>
    rename_i mode' u'
    have hn := npos h
    have keepm : ∀ {l m}, s.tg.mode l = m → m ≠ .own 0 → mode' l = m := fun {l m} e hne => by
      rcases hm l with e' | ⟨_, e', _⟩
      · exact e'.trans e
      · exact absurd (e.symm.trans e') hne
    have hnew : s.tg.n ∉ s.alive := fun x => by have := ((h.C.mem _).1 x).2.1; omega
    refine ⟨fun fn fn' pos => ⟨⟨h.W, ⟨fun l hmem hl => keepm (h.M.old l hmem hl) (by simp), fun l hl => ?_, fun l i e => ?_, fun ho => ⟨fun a ha => keepm ((h.M.wgA ho).1 a ha) (by simp), (h.M.wgA ho).2⟩, fun l e => ?_⟩,
      ⟨fun i => ?_, List.nodup_cons.2 ⟨hnew, h.C.nodup⟩, ?_, ?_, fun e => ?_, fun i b e => ?_, fun e => ?_, fun e => ?_, fun i i1 hi hia => ?_, ?_, fun e => ?_⟩, fun _ => ?_, fun a ha => keepm (h.H a ha) (by simp), ?_, fun hjo i i1 hi hri => ?_, fun i l e => ?_⟩, ?_⟩, rfl, ?_, fun i i1 hi => ⟨fun hfi => ?_, ?_⟩⟩
    · rcases hm l with e' | ⟨e', _⟩
      · exact e'.trans (h.M.freshO l hl)
      · exact absurd e' hl
    · have e2 : mode' l = .own i := e
      show i < s.tg.n + 1
      rcases hm l with e' | ⟨_, _, e' | e'⟩
      · have := h.M.ownN l i (e'.symm.trans e2); omega
      · have : s.tg.n = i := Mode.own.inj (e'.symm.trans e2); omega
      · cases e'.symm.trans e2
    · have e2 : mode' l = .wg := e
      rcases hm l with e' | ⟨_, _, e' | e'⟩
      · exact h.M.wgO l (e'.symm.trans e2)
      · cases e'.symm.trans e2
      · cases e'.symm.trans e2
    · show i ∈ s.tg.n :: s.alive ↔ 1 ≤ i ∧ i < s.tg.n + 1 ∧ upd s.tg.fin s.tg.n false i = false ∧ ∀ b, s.ph ≠ .last i b
      rw [List.mem_cons, h.C.mem i]
      by_cases e : i = s.tg.n
      · subst e
        simp only [upd_same, true_or, true_iff]
        exact ⟨hn, Nat.lt_succ_self _, trivial, fun b => by rw [hp]; simp⟩
      · rw [upd_ne _ _ e]
        constructor
        · rintro (x | ⟨h1, h2, h3, h4⟩)
          · exact absurd x e
          · exact ⟨h1, by omega, h3, h4⟩
        · rintro ⟨h1, h2, h3, h4⟩
          exact .inr ⟨h1, by omega, h3, h4⟩
    · have := h.C.len; show s.alive.length + 1 + 1 ≤ s.tg.n + 1; omega
    · exact hN
    · have e2 : s.ph = .reg := e; rw [hp] at e2; cases e2
    · have e2 : s.ph = .last i b := e; rw [hp] at e2; cases e2
    · have e2 : s.ph = .sema := e; rw [hp] at e2; cases e2
    · have e2 : s.on = false := e; rw [ho] at e2; cases e2
    · show upd s.tg.rel s.tg.n false i = true
      have hi2 : i < s.tg.n + 1 := hi
      have hia2 : i ∉ s.tg.n :: s.alive := hia
      simp only [List.mem_cons, not_or] at hia2
      rw [upd_ne _ _ hia2.1]
      exact h.C.relA i i1 (by omega) hia2.2
    · show upd s.tg.fin s.tg.n false 0 = false
      rw [upd_ne _ _ (by omega)]; exact h.C.fin0
    · have e2 : s.tg.joined = true := e; rw [hj] at e2; cases e2
    · have := h.A ho
      show WgAt E.ty s.tg.wg w (((s.alive.length + 1 + 0 : Nat) : Int) * KK + (s.ph.wt : Int)) (s.ph.sm : Int)
      have ec : s.cnt = s.alive.length + 1 := by simp [St.cnt, hq]
      rw [ec] at this
      exact this
    · exact hB.stay (hB.sp h.J hu) (Keep.refl _ _) fun l e => (by rcases e with e | e <;> exact (keepm e (by simp)).trans e.symm)
    · have hri2 : upd s.tg.rel s.tg.n false i = true := hri
      have hi2 : i < s.tg.n + 1 := hi
      by_cases e : i = s.tg.n
      · subst e; rw [upd_same] at hri2; cases hri2
      · rw [upd_ne _ _ e] at hri2
        exact hB.finStay (hB.spFin hu i1 (by omega) (h.F hjo i i1 (by omega) hri2)) (Keep.refl _ _) fun l e2 => keepm e2 (by simp; omega)
    · have e2 : upd s.tg.kn s.tg.n (s.tg.kn 0) i l := e
      by_cases e3 : i = s.tg.n
      · subst e3; rw [upd_same] at e2; exact keepm (h.K 0 l e2) (by simp)
      · rw [upd_ne _ _ e3] at e2; exact keepm (h.K i l e2) (by simp)
    · exact ht.spawn hn h.C.fin0 hd hj fn fn' pos (fun l => (hm l).imp id fun x => x.2) fun l e => by have := h.M.ownN l _ e; omega
    · show ¬ upd s.tg.fin s.tg.n false s.tg.n = true
      rw [upd_same]; simp
    · have hin : i ≠ s.tg.n := by omega
      exact ⟨Nat.le_refl _, Keep.refl _ _, fun l hl hne => by
        rcases hm l with e' | ⟨_, e', _⟩
        · exact e'
        · exact absurd e' (hne 0 (by omega)), fun l x => by show upd s.tg.kn s.tg.n (s.tg.kn 0) i l; rw [upd_ne _ _ hin]; exact x, upd_ne _ _ hin, upd_ne _ _ hin, rfl, fun ho => ⟨ho, rfl⟩, Nat.le_succ _, fun e => by omega, fun _ => ⟨fun x => List.mem_cons_of_mem _ x, fun b x => x⟩, hB.spRu hu i1 hi⟩
    · show upd s.tg.fin s.tg.n false i = true ↔ _
      rw [upd_ne _ _ (by omega)]

theorem proto_laws (P : Program) (hB : B.Laws) (E : Env) (Post : Value → World → Prop) : (proto P B E Post).Laws where
  refl := Rl.refl hB
  trans := Rl.trans hB
  drawI d h := ⟨⟨⟨h.1.W.base, h.1.W.same, h.1.W.tape, h.1.W.os, h.1.W.output⟩, h.1.M, h.1.C, h.1.A, h.1.H, hB.stay h.1.J (Keep.refl _ _) (fun _ _ => rfl), fun hjo i i1 hi hri => hB.finStay (h.1.F hjo i i1 hi hri) (Keep.refl _ _) fun _ e => e, h.1.K⟩, h.2⟩
  drawR k s w d := ⟨Nat.le_refl _, Keep.refl _ _, fun _ _ _ => rfl, fun _ x => x, rfl, rfl, rfl, fun ho => ⟨ho, rfl⟩, Nat.le_refl _, fun _ => ⟨rfl, rfl, rfl, rfl, Iff.rfl, id, Nat.le_refl _⟩, fun _ => ⟨id, fun _ x => x⟩, hB.refl _ _⟩
  drawB d h := h
  step h hk hf hm := kept_mv hB h.1 h.2 hk (Bool.eq_false_iff.2 hf) hm
  leave h i1 hi he hmu fn pos := ⟨h.1, h.2.mute hi he hmu fn pos⟩
  spawn h hm := go1_kept hB h.1 h.2 hm
  alive := by
    rintro s w t ⟨h, _⟩ hb
    rcases hb with hb | ⟨k, b, hb⟩
    · obtain ⟨hne, _⟩ := h.C.reg hb
      obtain ⟨k, hk⟩ := List.exists_mem_of_ne_nil _ hne
      obtain ⟨h1, h2, h3, _⟩ := (h.C.mem k).1 hk
      exact ⟨k, h1, h2, by show ¬ s.tg.fin k = true; rw [h3]; simp⟩
    · obtain ⟨_, _, h1, h2, h3⟩ := h.C.last k b hb
      exact ⟨k, h1, h2, by show ¬ s.tg.fin k = true; rw [h3]; simp⟩
  fin := by
    rintro s w t es ⟨h, ht⟩ ⟨h1, h2, h3⟩ fn pos
    have hn := npos h
    have ht' := ht.evs0 hn h.C.fin0 h2 h3 (fun k1 => by omega) fn pos
    refine ⟨ht'.nr, ht'.over h1, fun i i1 hi => ?_⟩
    have hi2 : i < s.tg.n := hi
    rcases h1 with h1 | h1
    · omega
    · obtain ⟨ha, hp, _⟩ := h.C.jnd h1
      show s.tg.fin i = true
      cases hf : s.tg.fin i with
      | true => rfl
      | false =>
        have := (h.C.mem i).2 ⟨i1, hi2, hf, fun b => by rw [hp]; simp⟩
        rw [ha] at this; simp at this
  zero := by
    rintro s w t ⟨h, ht⟩
    refine ⟨npos h, by show ¬ s.tg.fin 0 = true; rw [h.C.fin0]; simp, fun k hk => Go.ConcN.Deaf_absent fun i op hi e => ?_⟩
    have := ht.gs i op hi
    have hk2 : s.tg.n ≤ k := hk
    omega
end
end Go.Proofs.Ytbamamkjmfkghaa.Crw
