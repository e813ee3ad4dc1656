/- A crowd pushes: what the starter knows ahead of the crowd, and while it starts; its moves of the ghost; New.
No condition. -/
import Derived.Test.YtbamamkjmfkghaaVj
import Derived.Test.YtbamamkjmfkghaaVf
import Derived.Test.YtbamamkjmfkghaaVg
import Derived.Test.YtbamamkjmfkghaaVe
set_option linter.unusedSimpArgs false
set_option linter.unusedVariables false
namespace Go.Proofs.Ytbamamkjmfkghaa.Crw
open Go Go.Conc Go.RowKit Go.Conc.Lib Go.ConcR.Gen
open Go.ConcN (upd upd_same upd_ne)
open Go.ConcR (stA smA KK WgAt wgBlock rd wr mk)
set_option linter.unusedVariables false
set_option maxRecDepth 100000
set_option maxHeartbeats 4000000
section
variable {E : Env} {Post : Value → World → Prop} {k : Nat} {s s' s₀ s₁ : St cellU} {w w' w₀ w₁ : World}

/-- Ahead of all. -/
structure Begin (s : St cellU) : Prop where
  on : s.on = false
  n1 : s.tg.n = 1
  uo : s.u.on = false
  hd : s.tg.hd = none
  df : s.tg.deaf 0 = 0
theorem Begin.rely (h : Begin s) (r : Rl 0 s w s₁ w₁) : Begin s₁ :=
  ⟨(r.zero rfl).2.2.2.1.trans h.on, (r.zero rfl).1.trans h.n1, by rw [r.ru.1.1 h.uo]; exact h.uo, r.hd.trans h.hd, r.deaf.trans h.df⟩

/-- Readable by the starter and by whoever is started from now on. -/
structure Rd0 (s : St cellU) (w : World) (b : Nat) (t : TypeId) (vs : List Value) : Prop where
  hp : w.heap[b]? = some (.cells vs.toArray t (0, 0))
  md : ∀ a, a.block = b → s.tg.mode (.cell a) = .own 0 ∨ ∃ m, m ≤ s.tg.n ∧ s.tg.mode (.cell a) = .ro m
theorem Rd0.rds {b : Nat} {t : TypeId} {vs : List Value} (h : Rd0 s w b t vs) : Rds 0 s w b t vs :=
  ⟨h.hp, fun a ha => (h.md a ha).imp id fun ⟨m, _, e⟩ => .inl ⟨m, e, .inl rfl⟩⟩
theorem Rd0.lt {b : Nat} {t : TypeId} {vs : List Value} (h : Rd0 s w b t vs) : b < w.heap.size := h.rds.lt
theorem Rd0.cell {b : Nat} {t : TypeId} {vs : List Value} (h : Rd0 s w b t vs) (off : Nat) : w.cell? ⟨b, off, none⟩ = vs[off]? := h.rds.cell off
theorem Rd0.cm {b : Nat} {t : TypeId} {vs : List Value} (h : Rd0 s w b t vs) (hR : Cm 0 s w s₁ w₁) : Rd0 s₁ w₁ b t vs := by
  refine ⟨(h.rds.cm hR).hp, fun a ha => ?_⟩
  have hlt : locLow w.heap.size (.cell a) := by show a.block < _; rw [ha]; exact h.lt
  rcases h.md a ha with e | ⟨m, hm, e⟩
  · exact .inl ((hR.mode _ hlt fun i hi e' => by rw [e] at e'; exact hi (Mode.own.inj e').symm).trans e)
  · exact .inr ⟨m, by rw [hR.n0 rfl]; exact hm, (hR.mode _ hlt fun i hi e' => by rw [e] at e'; cases e').trans e⟩
theorem Rd0.rely {b : Nat} {t : TypeId} {vs : List Value} (h : Rd0 s w b t vs) (hR : Rl 0 s w s₁ w₁) : Rd0 s₁ w₁ b t vs := h.cm hR.cm
theorem Rd0.leaves {b : Nat} {t : TypeId} {vs : List Value} (h : Rd0 s w b t vs) (hl : Leaves b s w s₁ w₁) (hn : s₁.tg.n = s.tg.n) : Rd0 s₁ w₁ b t vs :=
  ⟨hl.1.trans h.hp, fun a ha => by rw [hl.2.1 a ha, hn]; exact h.md a ha⟩
theorem Own.rd0 {b : Nat} {t : TypeId} {vs : List Value} (h : Own 0 s w b t vs) : Rd0 s w b t vs := ⟨h.hp, fun a ha => .inl (h.md a ha)⟩

/-- A list of additions that the starter holds, below a bound. -/
def Lst0 (N : Nat) (s : St cellU) (w : World) (v : Value) (l : List Int) : Prop :=
  ∃ A cap, v = .slice A l.length cap ∧ (l = [] ∨ ∃ g vs, A = some ⟨g, 0, none⟩ ∧ g < N ∧ Rd0 s w g 2 vs ∧ ∀ (i : Nat) x, l[i]? = some x → vs[i]? = some (.int .i64 x))
theorem Lst0.map {N : Nat} {v : Value} {l : List Int} (h : Lst0 N s w v l) (f : ∀ g t vs, g < N → Rd0 s w g t vs → Rd0 s₁ w₁ g t vs) : Lst0 N s₁ w₁ v l := by
  obtain ⟨A, cap, e, h | ⟨g, vs, h1, h0, h2, h3⟩⟩ := h
  · exact ⟨A, cap, e, .inl h⟩
  · exact ⟨A, cap, e, .inr ⟨g, vs, h1, h0, f g _ vs h0 h2, h3⟩⟩

/-- The lists, as the starter holds them. -/
structure Lists (N : Nat) (ls : List (List Int)) (v : Value) (s : St cellU) (w : World) : Prop where
  out : ∃ A cap, v = .slice A ls.length cap ∧ (ls = [] ∨ ∃ g vs, A = some ⟨g, 0, none⟩ ∧ g < N ∧ Rd0 s w g 23 vs ∧ ∀ (i : Nat) l, ls[i]? = some l → ∃ vi, vs[i]? = some vi ∧ Lst0 N s w vi l)
theorem Lists.map {N : Nat} {ls : List (List Int)} {v : Value} (h : Lists N ls v s w) (f : ∀ b t vs, b < N → Rd0 s w b t vs → Rd0 s₁ w₁ b t vs) : Lists N ls v s₁ w₁ := by
  obtain ⟨A, cap, e, h | ⟨g, vs, h1, h0, h2, h3⟩⟩ := h.out
  · exact ⟨A, cap, e, .inl h⟩
  · exact ⟨A, cap, e, .inr ⟨g, vs, h1, h0, f _ _ _ h0 h2, fun i l hl => let ⟨vi, h4, h5⟩ := h3 i l hl; ⟨vi, h4, h5.map f⟩⟩⟩
/-- What was there is as it was. -/
structure Up (s : St cellU) (w : World) (s' : St cellU) (w' : World) : Prop where
  size : w.heap.size ≤ w'.heap.size
  hp : ∀ b, b < w.heap.size → w'.heap[b]? = w.heap[b]?
  md : ∀ a : Addr, a.block < w.heap.size → s'.tg.mode (.cell a) = s.tg.mode (.cell a)
  n : s'.tg.n = s.tg.n
theorem Rd0.up {b : Nat} {t : TypeId} {vs : List Value} (h : Rd0 s w b t vs) (u : Up s w s' w') : Rd0 s' w' b t vs :=
  ⟨(u.hp b h.lt).trans h.hp, fun a ha => by rw [u.md a (by rw [ha]; exact h.lt), u.n]; exact h.md a ha⟩
theorem Own.up {b : Nat} {t : TypeId} {vs : List Value} (h : Own 0 s w b t vs) (u : Up s w s' w') : Own 0 s' w' b t vs :=
  ⟨(u.hp b h.lt).trans h.hp, fun a ha => (u.md a (by rw [ha]; exact h.lt)).trans (h.md a ha)⟩
theorem up_new (o : Obj) : Up s w (s.take 0 w.heap.size (w.heap.size + 1)) (w.alloc o) :=
  ⟨by rw [alloc_size]; omega, fun b hb => alloc_old w o hb, fun a ha => newMode_low (l := .cell a) ha, rfl⟩

/-- The ghost when the place is laid. -/
def uHead (b : Nat) (ls : List (List Int)) : CU := { on := true, h := b, ns := [], don := ls.map (fun _ => []), all := ls, st := 0 }
theorem uHead_ok (b : Nat) (ls : List (List Int)) : (uHead b ls).Ok := by
  have hz : ∀ (i : Nat) d, (uHead b ls).don[i]? = some d → d = [] := fun i d h => by
    have h' : (ls.map (fun _ => ([] : List Int)))[i]? = some d := h
    rw [List.getElem?_map] at h'
    obtain ⟨x, _, e⟩ := Option.map_eq_some_iff.1 h'
    exact e.symm
  refine ⟨List.nodup_nil, by simp [uHead], fun i d a h _ => by rw [hz i d h]; exact List.nil_prefix, fun d h => ?_, ?_, fun i d _ h => hz i d h⟩
  · obtain ⟨i, hi⟩ := List.mem_iff_getElem?.1 h
    rw [hz i d hi]; exact List.nil_sublist _
  · have : (uHead b ls).don.flatten = [] := by
      rw [List.flatten_eq_nil_iff]
      intro d h
      obtain ⟨i, hi⟩ := List.mem_iff_getElem?.1 h
      exact hz i d hi
    rw [this]
    exact List.Perm.nil

/-- The place is laid. -/
theorem mv_head (hI : Ok E s w) (hb : Begin s) (ls : List (List Int)) :
    ∃ s' : St cellU, Mv E 0 s w s' (w.alloc (.cells #[.pointer none] 57)) #[] ∧ Soft s s' ∧ Up s w s' (w.alloc (.cells #[.pointer none] 57)) ∧
      s'.u = uHead w.heap.size ls ∧ s'.on = false ∧ s'.tg.n = 1 ∧ s'.tg.hd = some ⟨w.heap.size, 0, none⟩ ∧ s'.tg.deaf 0 = 0 := by
  have hoff := hI.C.off hb.on
  refine ⟨{ s with tg := { s.tg with mode := blockMode s.tg.mode w.heap.size .at, wg := s.tg.wg, hd := some ⟨w.heap.size, 0, none⟩ }, on := s.on, u := uHead w.heap.size ls }, ?_, ⟨rfl, rfl⟩, ⟨by rw [alloc_size]; omega, fun b hb' => alloc_old w _ hb', fun a ha => blockMode_ne (Nat.ne_of_lt ha), rfl⟩, rfl, hb.on, hb.n1, rfl, hb.df⟩
  refine Mv.ini rfl hb.n1 hoff.2.2.2 (turn_alloc _ w _) (fun l hl => blockMode_low hl) (fun l hl => ?_) (.inl ⟨rfl, rfl, fun l hl => ?_⟩) (.inr ⟨hb.hd, _, rfl, blockMode_at rfl⟩) (fun _ => ⟨?_, fun a ha => blockMode_at ha, trivial, uHead_ok _ _⟩) (fun e he => by simp at he) (fun e he => by simp at he)
  · cases l with
    | cell a =>
      by_cases h : a.block = w.heap.size
      · exact .inr ⟨by show a.block < _; rw [alloc_size]; omega, .inl (blockMode_at h)⟩
      · exact .inl ((blockMode_ne h).trans (hI.M.freshO _ hl))
    | _ => exact .inl (hI.M.freshO _ hl)
  · have : ∀ l, blockMode s.tg.mode w.heap.size .at l = .at ∨ blockMode s.tg.mode w.heap.size .at l = s.tg.mode l := fun l => by
      cases l with
      | cell a =>
        by_cases h : a.block = w.heap.size
        · exact .inl (blockMode_at h)
        · exact .inr (blockMode_ne h)
      | _ => exact .inr rfl
    rcases this l with e | e <;> rw [e]
    · simp
    · rw [hI.M.freshO l hl]; simp
  · show (w.alloc _).heap[w.heap.size]? = _
    rw [alloc_new]
    rfl

/-- The group is laid. -/
theorem mv_group (hE : E.ty = 43) (hI : Ok E s w) (hon : s.on = false) (hn1 : s.tg.n = 1) (hd : s.tg.deaf 0 = 0) :
    ∃ s' : St cellU, Mv E 0 s w s' (w.alloc (.cells #[.int .u64 0, .int .u32 0] 43)) #[] ∧ Soft s s' ∧ Up s w s' (w.alloc (.cells #[.int .u64 0, .int .u32 0] 43)) ∧
      s'.u = s.u ∧ s'.tg.n = 1 ∧ s'.tg.hd = s.tg.hd ∧ SF w.heap.size 0 false true false s' := by
  have hoff := hI.C.off hon
  refine ⟨{ s with tg := { s.tg with mode := blockMode s.tg.mode w.heap.size .wg, wg := w.heap.size }, on := true, u := s.u }, ?_, ⟨rfl, rfl⟩, ⟨by rw [alloc_size]; omega, fun b hb' => alloc_old w _ hb', fun a ha => blockMode_ne (Nat.ne_of_lt ha), rfl⟩, rfl, hn1, rfl, ⟨rfl, rfl, hd, hoff.2.2.1, ⟨fun _ => rfl, fun _ => hoff.2.1⟩, fun e => (by cases e), hoff.2.2.2⟩⟩
  refine Mv.ini rfl hn1 hoff.2.2.2 (turn_alloc _ w _) (fun l hl => blockMode_low hl) (fun l hl => ?_) (.inr ⟨hon, rfl, Nat.le_refl _, ?_, fun a ha => blockMode_at ha, fun l hl e => ?_⟩) (.inl rfl) (cellLaws.stay hI.J ((turn_alloc (fun _ _ => False) w _).keep fun _ _ _ x => x) fun l e => ?_) (fun e he => by simp at he) (fun e he => by simp at he)
  · cases l with
    | cell a =>
      by_cases h : a.block = w.heap.size
      · exact .inr ⟨by show a.block < _; rw [alloc_size]; omega, .inr ⟨rfl, blockMode_at h⟩⟩
      · exact .inl ((blockMode_ne h).trans (hI.M.freshO _ hl))
    | _ => exact .inl (hI.M.freshO _ hl)
  · show (w.alloc _).heap[w.heap.size]? = _
    rw [alloc_new, hE]
    rfl
  · cases l with
    | cell a =>
      by_cases h : a.block = w.heap.size
      · exact ⟨a, rfl, h⟩
      · rw [blockMode_ne h, hI.M.freshO _ hl] at e; cases e
    | _ => rw [show blockMode s.tg.mode w.heap.size .wg _ = s.tg.mode _ from rfl, hI.M.freshO _ hl] at e; cases e
  · rcases e with e | e <;> exact blockMode_low (hI.lowOf e (by simp))

/-! ### a go statement -/
open Classical in
/-- What was the starter's own is for all to read; X goes to the one who is started. -/
noncomputable def goMode (m : Loc → Mode) (sz n : Nat) (X : Addr → Prop) : Loc → Mode
  | .cell a => if m (.cell a) = .own 0 ∧ a.block < sz then (if X a then .own n else .ro n) else m (.cell a)
  | l => m l
noncomputable def goSt (s : St cellU) (w : World) (X : Addr → Prop) (u' : CU) : St cellU :=
  { s with pend := false, alive := s.tg.n :: s.alive, u := u', tg := { s.tg with n := s.tg.n + 1, mode := goMode s.tg.mode w.heap.size s.tg.n X, kn := upd s.tg.kn s.tg.n (s.tg.kn 0), deaf := upd s.tg.deaf s.tg.n 0, rel := upd s.tg.rel s.tg.n false, fin := upd s.tg.fin s.tg.n false } }
theorem go_mk {Wg : Nat} {ae : Bool} (hS : SF Wg 0 true true ae s) (hN : s.tg.n < E.N) (X : Addr → Prop) {u' : CU} (hu : cellU.Sp s.tg.n s.u u') : Go1 E s w (goSt s w X u') w #[] := by
  refine Go1.mk hS.on (hS.ph.2 rfl) hS.pe hS.jn hS.df hN (fun l => ?_) hu
  cases l with
  | cell a =>
    by_cases h : s.tg.mode (.cell a) = .own 0 ∧ a.block < w.heap.size
    · refine .inr ⟨h.2, h.1, ?_⟩
      by_cases hx : X a
      · exact .inl (by simp [goMode, h, hx])
      · exact .inr (by simp [goMode, h, hx])
    · exact .inl (by simp only [goMode]; rw [if_neg h])
  | _ => exact .inl rfl
theorem goMode_other {m : Loc → Mode} {sz n : Nat} {X : Addr → Prop} {a : Addr} (h : m (.cell a) ≠ .own 0) : goMode m sz n X (.cell a) = m (.cell a) := by
  simp only [goMode]; rw [if_neg fun x => h x.1]
/-- Behind it: the starter's words; what the starter reads; what the one who is started reads and owns. -/
theorem go_sf {Wg : Nat} {X : Addr → Prop} {u' : CU} (hS : SF Wg 0 true true false s) (hn : 0 < s.tg.n) : SF Wg 0 false true false (goSt s w X u') :=
  ⟨hS.on, hS.wg, by show upd s.tg.deaf s.tg.n 0 0 = 0; rw [upd_ne _ _ (by omega)]; exact hS.df, rfl, hS.ph, fun e => (by cases e), hS.jn⟩
theorem go_ws {Wg : Nat} {X : Addr → Prop} {u' : CU} {ae : Bool} (hS : SF Wg 0 true true ae s) : WS Wg s.tg.n 0 false (goSt s w X u') :=
  ⟨hS.on, hS.wg, by show upd s.tg.deaf s.tg.n 0 s.tg.n = 0; exact upd_same _ _ _, by show upd s.tg.rel s.tg.n false s.tg.n = false; exact upd_same _ _ _, by simp [goSt]⟩
theorem go_rd0 {X : Addr → Prop} {u' : CU} {b : Nat} {t : TypeId} {vs : List Value} (h : Rd0 s w b t vs) (hx : ∀ a, a.block = b → ¬ X a) : Rd0 (goSt s w X u') w b t vs :=
  ⟨h.hp, fun a ha => .inr (by
    rcases h.md a ha with e | ⟨m, hm, e⟩
    · refine ⟨s.tg.n, Nat.le_succ _, ?_⟩
      show goMode s.tg.mode w.heap.size s.tg.n X (.cell a) = _
      have : a.block < w.heap.size := by rw [ha]; exact h.lt
      simp [goMode, e, this, hx a ha]
    · refine ⟨m, Nat.le_succ_of_le hm, ?_⟩
      show goMode s.tg.mode w.heap.size s.tg.n X (.cell a) = _
      rw [goMode_other (by rw [e]; simp)]; exact e)⟩
theorem go_rds {X : Addr → Prop} {u' : CU} {b : Nat} {t : TypeId} {vs : List Value} (h : Rd0 s w b t vs) (hx : ∀ a, a.block = b → ¬ X a) : Rds s.tg.n (goSt s w X u') w b t vs :=
  ⟨h.hp, fun a ha => .inr (.inl (by
    rcases h.md a ha with e | ⟨m, hm, e⟩
    · refine ⟨s.tg.n, ?_, .inr (Nat.le_refl _)⟩
      show goMode s.tg.mode w.heap.size s.tg.n X (.cell a) = _
      have : a.block < w.heap.size := by rw [ha]; exact h.lt
      simp [goMode, e, this, hx a ha]
    · refine ⟨m, ?_, .inr hm⟩
      show goMode s.tg.mode w.heap.size s.tg.n X (.cell a) = _
      rw [goMode_other (by rw [e]; simp)]; exact e))⟩
theorem go_own {X : Addr → Prop} {u' : CU} {b : Nat} {t : TypeId} {vs : List Value} (h : Own 0 s w b t vs) (hx : ∀ a, a.block = b → X a) : Own s.tg.n (goSt s w X u') w b t vs :=
  ⟨h.hp, fun a ha => by
    show goMode s.tg.mode w.heap.size s.tg.n X (.cell a) = _
    have : a.block < w.heap.size := by rw [ha]; exact h.lt
    simp [goMode, h.md a ha, this, hx a ha]⟩

/-- What the starter knows while it starts. -/
structure StF (B0 : Nat) (ls : List (List Int)) (cv b : Nat) (v : Value) (j : Nat) (s : St cellU) (w : World) : Prop where
  nj : s.tg.n = j + 1
  hd : s.tg.hd = some ⟨b, 0, none⟩
  cvr : Rd0 s w cv 32 [.pointer (some ⟨b, 0, none⟩)]
  lst : Lists B0 ls v s w
  low : B0 ≤ w.heap.size
  on : s.u.on = true
  ub : s.u.h = b
  ua : s.u.all = ls
  ust : s.u.st ≤ j
theorem StF.cm {ls : List (List Int)} {B0 cv b j : Nat} {v : Value} (h : StF B0 ls cv b v j s w) (r : Cm 0 s w s₁ w₁) : StF B0 ls cv b v j s₁ w₁ := by
  obtain ⟨r1, r2, r3, _⟩ := r.ru.2 h.on
  exact ⟨(r.n0 rfl).trans h.nj, r.hd.trans h.hd, h.cvr.cm r, h.lst.map fun _ _ _ _ x => x.cm r, Nat.le_trans h.low r.size, r1, r2.trans h.ub, r3.trans h.ua, by rw [r.ru.1.2.1 rfl]; exact h.ust⟩
theorem StF.up {ls : List (List Int)} {B0 cv b j : Nat} {v : Value} (h : StF B0 ls cv b v j s w) (r : Up s w s₁ w₁) (hh : s₁.tg.hd = s.tg.hd) (hu : s₁.u = s.u) : StF B0 ls cv b v j s₁ w₁ :=
  ⟨r.n.trans h.nj, hh.trans h.hd, h.cvr.up r, h.lst.map fun _ _ _ _ x => x.up r, Nat.le_trans h.low r.size, by rw [hu]; exact h.on, by rw [hu]; exact h.ub, by rw [hu]; exact h.ua, by rw [hu]; exact h.ust⟩

/-- The place is laid; the group is not. -/
structure BegU (B0 : Nat) (ls : List (List Int)) (b : Nat) (v : Value) (s : St cellU) (w : World) : Prop where
  off : s.on = false
  n1 : s.tg.n = 1
  hd : s.tg.hd = some ⟨b, 0, none⟩
  df : s.tg.deaf 0 = 0
  lst : Lists B0 ls v s w
  low : B0 ≤ w.heap.size
  on : s.u.on = true
  ub : s.u.h = b
  ua : s.u.all = ls
  ust : s.u.st ≤ 0
theorem BegU.rely {ls : List (List Int)} {B0 b : Nat} {v : Value} (h : BegU B0 ls b v s w) (r : Rl 0 s w s₁ w₁) : BegU B0 ls b v s₁ w₁ := by
  obtain ⟨r1, r2, r3, _⟩ := r.ru.2 h.on
  exact ⟨(r.zero rfl).2.2.2.1.trans h.off, (r.zero rfl).1.trans h.n1, r.hd.trans h.hd, r.deaf.trans h.df, h.lst.map fun _ _ _ _ x => x.rely r, Nat.le_trans h.low r.size, r1, r2.trans h.ub, r3.trans h.ua, by rw [r.ru.1.2.1 rfl]; exact h.ust⟩
theorem BegU.up {ls : List (List Int)} {B0 b : Nat} {v : Value} (h : BegU B0 ls b v s w) (r : Up s w s₁ w₁) (h1 : s₁.on = s.on) (h2 : s₁.tg.hd = s.tg.hd) (h3 : s₁.tg.deaf = s.tg.deaf) (hu : s₁.u = s.u) : BegU B0 ls b v s₁ w₁ :=
  ⟨h1.trans h.off, r.n.trans h.n1, h2.trans h.hd, by rw [h3]; exact h.df, h.lst.map fun _ _ _ _ x => x.up r, Nat.le_trans h.low r.size, by rw [hu]; exact h.on, by rw [hu]; exact h.ub, by rw [hu]; exact h.ua, by rw [hu]; exact h.ust⟩
/-- A cell of the starter's own is written: what lies elsewhere stays. -/
theorem Rd0.set {b b' : Nat} {t t' : TypeId} {vs vs' : List Value} (h : Rd0 s w b t vs) (ho : Own 0 s w b' t' vs') (hne : b ≠ b') (off : Nat) (v : Value) : Rd0 s (w.setCell ⟨b', off, none⟩ v) b t vs :=
  h.leaves (leaves_set hne off v) rfl
theorem BegU.set {ls : List (List Int)} {B0 b N : Nat} {v : Value} {t : TypeId} {vs : List Value} (h : BegU B0 ls b v s w) (ho : Own 0 s w N t vs) (hN : B0 ≤ N) (off : Nat) (x : Value) : BegU B0 ls b v s (w.setCell ⟨N, off, none⟩ x) :=
  ⟨h.off, h.n1, h.hd, h.df, h.lst.map fun _ _ _ hb y => y.set ho (by omega) off x, by rw [setCell_size]; exact h.low, h.on, h.ub, h.ua, h.ust⟩
theorem StF.set {B0 cv b j N : Nat} {ls : List (List Int)} {v : Value} {t : TypeId} {vs : List Value} (h : StF B0 ls cv b v j s w) (ho : Own 0 s w N t vs) (hN : B0 ≤ N) (h1 : cv ≠ N) (off : Nat) (x : Value) : StF B0 ls cv b v j s (w.setCell ⟨N, off, none⟩ x) :=
  ⟨h.nj, h.hd, h.cvr.set ho h1 off x, h.lst.map fun _ _ _ hb y => y.set ho (by omega) off x, by rw [setCell_size]; exact h.low, h.on, h.ub, h.ua, h.ust⟩
theorem SF.take {Wg d : Nat} {p op ae : Bool} (h : SF Wg d p op ae s) (k lo hi : Nat) : SF Wg d p op ae (s.take k lo hi) := ⟨h.on, h.wg, h.df, h.pe, h.ph, h.al, h.jn⟩
/-- While it starts. -/
structure CrIn (B0 : Nat) (ls : List (List Int)) (Wg cv b : Nat) (v : Value) (j : Nat) (s : St cellU) (w : World) : Prop where
  sf : SF Wg 0 false true false s
  st : StF B0 ls cv b v j s w
theorem CrIn.rely {ls : List (List Int)} {B0 Wg cv b j : Nat} {v : Value} (h : CrIn B0 ls Wg cv b v j s w) (r : Rl 0 s w s₁ w₁) : CrIn B0 ls Wg cv b v j s₁ w₁ := ⟨h.sf.rely r, h.st.cm r.cm⟩

theorem Lists.cell {N j n cap : Nat} {A : Option Addr} {ls : List (List Int)} (h : Lists N ls (.slice A n cap) s w) (hj : j < ls.length) :
    ∃ g vi, A = some ⟨g, 0, none⟩ ∧ w.cell? ⟨g, j, none⟩ = some vi ∧ May s.tg 0 (.cell ⟨g, j, none⟩) ∧ g < w.heap.size ∧ Lst0 N s w vi ls[j] := by
  obtain ⟨A', cap', e, h | ⟨g, vs, h1, h0, h2, h3⟩⟩ := h.out
  · subst h; simp at hj
  · cases e
    obtain ⟨vi, h4, h5⟩ := h3 j _ (List.getElem?_eq_getElem hj)
    exact ⟨g, vi, h1, (h2.cell j).trans h4, h2.rds.md _ rfl, h2.lt, h5⟩
theorem Lst0.lst {N : Nat} {v : Value} {l : List Int} {X : Addr → Prop} {u' : CU} (h : Lst0 N s w v l) (hx : ∀ a, ¬ X a) : Lst s.tg.n (goSt s w X u') w v l := by
  obtain ⟨A, cap, e, h | ⟨g, vs, h1, h0, h2, h3⟩⟩ := h
  · exact ⟨A, cap, e, .inl h⟩
  · exact ⟨A, cap, e, .inr ⟨g, vs, h1, go_rds h2 fun a _ => hx a, h3⟩⟩

/-- One who pushes is started: what he knows; what the starter knows. -/
theorem go_pusher {B0 Wg cv b j N : Nat} {ls : List (List Int)} {v vi : Value} (hI : Ok E s w) (hS : SF Wg 0 true true false s) (hst : StF B0 ls cv b v j s w) (hj : j < ls.length) (hv : Lst0 B0 s w vi ls[j]) (hO : Own 0 s w N 23 [vi]) :
    PuF s.tg.n Wg N cv b ls.flatten.length vi ls[j] 0 (goSt s w (fun _ => False) { s.u with st := s.tg.n }) w ∧ CrIn B0 ls Wg cv b v (j + 1) (goSt s w (fun _ => False) { s.u with st := s.tg.n }) w := by
  obtain ⟨g1, g2, g3, g4⟩ := hI.J hst.on
  have hn := hst.nj
  have e : s.tg.n - 1 = j := by omega
  have htot : s.u.tot = ls.flatten.length := by unfold CU.tot; rw [hst.ua]
  refine ⟨⟨go_ws hS, go_rds hO.rd0 fun _ _ => id, go_rds hst.cvr fun _ _ => id, hv.lst fun _ => id, hst.hd, hst.on, hst.ub, ?_, Nat.le_refl _, ?_, ?_, htot⟩, go_sf hS (by omega), ?_⟩
  · show s.u.all[s.tg.n - 1]? = _
    rw [e, hst.ua]; exact List.getElem?_eq_getElem hj
  · show s.u.don[s.tg.n - 1]? = _
    have hl : j < s.u.don.length := by rw [g4.len, hst.ua]; exact hj
    rw [e, List.getElem?_eq_getElem hl, g4.rest j _ hst.ust (List.getElem?_eq_getElem hl)]
    rfl
  · show s.u.ns.length ≤ _
    rw [← htot]; exact g4.le
  · refine ⟨by show s.tg.n + 1 = _; omega, hst.hd, go_rd0 hst.cvr fun _ _ => id, hst.lst.map fun _ _ _ _ x => go_rd0 x fun _ _ => id, hst.low, hst.on, hst.ub, hst.ua, ?_⟩
    show s.tg.n ≤ j + 1
    omega
end

section
variable {B : Usr} {E : Env} {Post : Value → World → Prop} {Child : Sit (proto Try.prog B E Post)} {k : Nat} {s s' s₁ : St B} {w w' w₁ : World}
theorem new_x (hB : B.Laws) {A : St B → World → Prop} {Q : Nat → St B → World → Prop} (hst : ∀ {s w s₁ w₁}, A s w → Rl k s w s₁ w₁ → A s₁ w₁)
    (hmk : ∀ s w, A s w → Ok E s w → ∃ s', Mv E k s w s' (w.alloc (.cells #[.pointer none] 57)) #[] ∧ Soft s s' ∧ Q w.heap.size s' (w.alloc (.cells #[.pointer none] 57))) (h : A s w) :
    CallX Try.prog B E Post Child k 9 #[] s w (fun v s' w' => ∃ b, v = .pointer (some ⟨b, 0, none⟩) ∧ Q b s' w') := by
  refine ⟨Try.f9, _, Try.func9, by kernel_rfl, rfl, fun cal cs hret => ?_⟩
  walk_nrmf Try.f9
  repeat (first | ((with_reducible refine gd_op ?_); first | (refine rr_pure' hB rfl (by rfl) (by k_ne) (by rfl) (fun w₁ => by first | (simp [go_sem]; done) | simp [go_sem, *]) (fun w₁ K hK => ?_); go_simp; refine hK _ ?_; clear hK K w₁; try walk_nrm) | (refine rr_ctl hB rfl (fun _ => stepG_unwanted rfl rfl) ?_; try walk_nrm)) | ((with_reducible refine gd_rend ?_); (refine rr_regend hB hKr ?_; clear hKr Kr)) | ((with_reducible refine gd_seq ?_); refine rr_ctl hB rfl (fun _ => stepG_seq) ?_) | ((with_reducible refine gd_reg ?_); (refine rr_reg hB (fun Kr hKr => ?_); simp only [List.size_toArray, List.length_cons, List.length_nil, Nat.reduceAdd, Nat.zero_add, List.range, List.range.loop])) | ((with_reducible refine gd_skip ?_); refine rr_ctl hB rfl (fun _ => stepG_skip) ?_) | ((with_reducible refine gd_block ?_); refine rr_ctl hB rfl (fun _ => stepG_block) ?_) | ((with_reducible refine gd_inb ?_); refine rr_ctl hB rfl (fun _ => stepG_inBlock) ?_) | ((with_reducible refine gd_ret ?_); refine rr_ctl hB rfl (fun _ => stepG_ret') ?_) | ((with_reducible refine gd_exit ?_); refine rr_ctl hB rfl (fun _ => stepG_exit rfl) ?_) | ((with_reducible refine gd_end ?_); refine rr_ctl hB rfl (fun _ => stepG_end) ?_))
  refine rr_oper rfl (by rfl) (by k_ne) (fun s₁ w₁ hR hI K hK => ?_)
  replace h := hst h hR
  clear hR
  obtain ⟨s', g1, g2, g3⟩ := hmk _ _ h hI
  go_simp
  refine hK _ _ ⟨s', ?_, g2, ?_⟩
  · rw [listed_nil (by simp [go_sem, *])]
    exact g1
  clear hK K g1 g2 h hI
  try walk_nrm
  repeat (first | ((with_reducible refine gd_op ?_); first | (refine rr_pure' hB rfl (by rfl) (by k_ne) (by rfl) (fun w₁ => by first | (simp [go_sem]; done) | simp [go_sem, *]) (fun w₁ K hK => ?_); go_simp; refine hK _ ?_; clear hK K w₁; try walk_nrm) | (refine rr_ctl hB rfl (fun _ => stepG_unwanted rfl rfl) ?_; try walk_nrm)) | ((with_reducible refine gd_rend ?_); (refine rr_regend hB hKr ?_; clear hKr Kr)) | ((with_reducible refine gd_seq ?_); refine rr_ctl hB rfl (fun _ => stepG_seq) ?_) | ((with_reducible refine gd_reg ?_); (refine rr_reg hB (fun Kr hKr => ?_); simp only [List.size_toArray, List.length_cons, List.length_nil, Nat.reduceAdd, Nat.zero_add, List.range, List.range.loop])) | ((with_reducible refine gd_skip ?_); refine rr_ctl hB rfl (fun _ => stepG_skip) ?_) | ((with_reducible refine gd_block ?_); refine rr_ctl hB rfl (fun _ => stepG_block) ?_) | ((with_reducible refine gd_inb ?_); refine rr_ctl hB rfl (fun _ => stepG_inBlock) ?_) | ((with_reducible refine gd_ret ?_); refine rr_ctl hB rfl (fun _ => stepG_ret') ?_) | ((with_reducible refine gd_exit ?_); refine rr_ctl hB rfl (fun _ => stepG_exit rfl) ?_) | ((with_reducible refine gd_end ?_); refine rr_ctl hB rfl (fun _ => stepG_end) ?_))
  (refine rr_leave hB rfl rfl Try.func9 (fun w => ⟨results_tmp rfl _ _ w, events_results_tmp rfl _ _⟩) ?_)
  exact hret _ _ _ ⟨_, rfl, g3⟩
end
end Go.Proofs.Ytbamamkjmfkghaa.Crw
namespace Go.Proofs.Ytbamamkjmfkghaa.Crw
open Go Go.Conc Go.RowKit Go.Conc.Lib Go.ConcR.Gen
open Go.ConcN (upd upd_same upd_ne)
open Go.ConcR (stA smA KK WgAt wgBlock rd wr mk)
set_option linter.unusedVariables false
set_option maxRecDepth 100000
set_option maxHeartbeats 4000000

def ints (l : List Int) : List Value := l.map (.int .i64 ·)
theorem ints_len (l : List Int) : (ints l).length = l.length := by simp [ints]
theorem ints_get {l : List Int} {i : Nat} {x : Int} (h : l[i]? = some x) : (ints l)[i]? = some (.int .i64 x) := by simp [ints, h]
theorem info_int : ∃ ti, Try.prog.info? 2 = some ti ∧ ti.zero = some (.int .i64 0) ∧ ti.size = 1 ∧ ti.bytes = 8 := ⟨_, rfl, by kernel_rfl, by kernel_rfl, by kernel_rfl⟩

section
variable {B : Usr} {E : Env} {Post : Value → World → Prop} {Child : Sit (proto Try.prog B E Post)} {k : Nat} {s s' s₀ s₁ : St B} {w w' w₀ w₁ : World}

/-- Numbers in a slice of the starter's own, made since; what was there before is kept. -/
structure Acc (s₀ : St B) (w₀ : World) (v : Value) (l : List Int) (s : St B) (w : World) : Prop where
  rl : Rl 0 s₀ w₀ s w
  sl : Sl 0 w₀.heap.size s w 2 1 v l.length (ints l)
section
variable {v : Value} {l : List Int}
theorem Acc.rely (hB : B.Laws) (h : Acc s₀ w₀ v l s w) (r : Rl 0 s w s₁ w₁) : Acc s₀ w₀ v l s₁ w₁ := ⟨h.rl.trans hB r, h.sl.rely r⟩
theorem Acc.new (hB : B.Laws) (h : Acc s₀ w₀ v l s w) (o : Obj) : Acc s₀ w₀ v l (s.take 0 w.heap.size (w.heap.size + 1)) (w.alloc o) :=
  ⟨h.rl.new hB o, h.sl.keep fun bb hb => leaves_new (h.sl.lt hb).2 o⟩
theorem Acc.nil (hB : B.Laws) (s₀ : St B) (w₀ : World) : Acc s₀ w₀ (.slice none 0 0) [] s₀ w₀ := ⟨.refl hB _ _ _, Sl.nil _ _ _ _ _ _⟩
theorem sl_empty {base : Nat} (e : TypeId) (size : Nat) (hb : base ≤ w.heap.size) : Sl k base (s.take k w.heap.size (w.heap.size + 1)) (w.alloc (.cells #[] e)) e size (.slice (some ⟨w.heap.size, 0, none⟩) 0 0) 0 [] :=
  ⟨w.ownsRow_made #[] 0 hb (by decide) (by simp), fun b h a ha => by
    simp [Value.ownBlock] at h
    exact newMode_new (l := .cell a) (fun hx : a.block < w.heap.size => by omega) (show a.block < w.heap.size + 1 by omega)⟩
theorem Acc.empty (hB : B.Laws) (s₀ : St B) (w₀ : World) : Acc s₀ w₀ (.slice (some ⟨w₀.heap.size, 0, none⟩) 0 0) [] (s₀.take 0 w₀.heap.size (w₀.heap.size + 1)) (w₀.alloc (.cells #[] 2)) :=
  ⟨(Rl.refl hB 0 s₀ w₀).new hB _, sl_empty _ _ (Nat.le_refl _)⟩
theorem Sl.nums {base : Nat} {e : TypeId} (h : Sl 0 base s w e 1 v l.length (ints l)) : Nums 0 s w v l := by
  rcases h.row.2 with ⟨rfl, h0⟩ | ⟨g, cap, cur, rfl, h1, h2, h3, h4, h5, h6⟩
  · have : l = [] := List.eq_nil_of_length_eq_zero h0
    subst this
    exact ⟨none, 0, rfl, Nat.le_refl _, fun i x hx => by simp at hx⟩
  · refine ⟨_, cap, rfl, h3, fun i x hx => ⟨g, 0, rfl, ?_, .inl (h.md g rfl _ rfl), (Array.getElem?_eq_some_iff.1 h2).1⟩⟩
    have e1 := ints_get hx
    rw [← h6, List.getElem?_take] at e1
    split at e1
    · simp [World.cell?, h2]; simpa using e1
    · cases e1
theorem Acc.nums (h : Acc s₀ w₀ v l s w) : Nums 0 s w v l := h.sl.nums
/-- One made over one made before. -/
theorem Acc.over (hB : B.Laws) {v' : Value} {l' : List Int} (h : Acc s₀ w₀ v l s w) (h' : Acc s w v' l' s₁ w₁) : Acc s₀ w₀ v' l' s₁ w₁ := by
  refine ⟨h.rl.trans hB h'.rl, ⟨h'.sl.row.1, ?_⟩, h'.sl.md⟩
  rcases h'.sl.row.2 with e | ⟨g, cap, cur, e1, e2, e3⟩
  · exact .inl e
  · exact .inr ⟨g, cap, cur, e1, Nat.le_trans h.rl.size e2, e3⟩
theorem Acc.base (hB : B.Laws) {v : Value} {l : List Int} (h : Rl 0 s₀ w₀ s w) (h' : Acc s w v l s₁ w₁) : Acc s₀ w₀ v l s₁ w₁ := by
  refine ⟨h.trans hB h'.rl, ⟨h'.sl.row.1, ?_⟩, h'.sl.md⟩
  rcases h'.sl.row.2 with e | ⟨g, cap, cur, e1, e2, e3⟩
  · exact .inl e
  · exact .inr ⟨g, cap, cur, e1, Nat.le_trans h.size e2, e3⟩
end

/-- 'append(l, x)': the one-element slice is made, then it is put onto l. -/
theorem rr_push (hB : B.Laws) {b : Frame} {a : Act} {kk : List Item} {cs : List Frame} {ops : Array Oper} {i j d : Nat} {rest : List Nat} {sx : Operand} {o o' : Oper} {v : Value} {l : List Int} {y : Int}
    (hG : Acc s₀ w₀ v l s w) (ho : ops[i]? = some o) (hw : Region.wanted o (yielded ops a.tmps) = true) (hk : b.kind ≠ .early) (hdst : o.dst = some d)
    (hr : ∀ w, (execOp a.eval o).run Try.prog w = .ok (.value (.slice (some ⟨w.heap.size, 0, none⟩) 1 1)) (w.alloc (.cells #[.int .i64 y] 2)))
    (he : ∀ w, (execOp a.eval o).events Try.prog w #[] = #[])
    (ho' : ops[j]? = some o') (hop : o'.op = .call { callee := .builtin .append, args := #[sx, .tmp d], argTypes := #[23, 23] }) (hg : o'.guard = none) (hd : d < a.tmps.size) (hs : ∀ u, (a.put (some d) u).eval sx = v) (hlen : l.length ≤ 17592186044415)
    (h : ∀ N v' s' w', Acc s₀ w₀ v' (l ++ [y]) s' w' → RR Try.prog B E Post Child 0 (G (b.at ((a.put (some d) (.slice (some ⟨N, 0, none⟩) 1 1)).put o'.dst v') (.inRegion ops rest :: kk)) cs) s' w') :
    RR Try.prog B E Post Child 0 (G (b.at a (.inRegion ops (i :: j :: rest) :: kk)) cs) s w := by
  refine rr_oper ho hw hk (fun s₂ w₂ hR hI K hK => ?_)
  replace hG := hG.rely hB hR
  clear hR
  rw [hr]
  refine hK _ _ ⟨_, mv_new_at (.inl rfl) _ (listed_nil (he _)), St.take_soft _ _ _ _, ?_⟩
  rw [hdst]
  clear hK K
  have hO : Own 0 (s₂.take 0 w₂.heap.size (w₂.heap.size + 1)) (w₂.alloc (.cells #[.int .i64 y] 2)) w₂.heap.size 2 [.int .i64 y] := own_new s₂ w₂ [.int .i64 y] 2
  replace hG := hG.new hB (.cells #[.int .i64 y] 2)
  generalize w₂.heap.size = N at *
  obtain ⟨ti, hi, hz, hsize, hby⟩ := info_int
  refine rr_append hB (F := fun s w => Acc s₀ w₀ v l s w ∧ Own 0 s w N 2 [.int .i64 y]) sx (.tmp d) 23 (base := w₀.heap.size) (size := 1) (bytes := 8) (n := l.length) (m := 1) (c := 1) (e := 2) (xs := ints l) (ad := ⟨N, 0, none⟩) (news := [.int .i64 y]) ⟨hG, hO⟩
    (fun h r => ⟨h.1.rely hB r, h.2.rely r⟩) (fun h => .inl rfl) (fun h => h.1.sl) (fun h => h.1.rl.size)
    (fun h j u hu => by
      have := h.2.cell j
      rw [hu] at this
      rw [Addr.add_lit, Nat.zero_add]
      exact this)
    (fun h a' ha => ⟨h.2.md a' ha, h.2.lt⟩) ho' (by unfold Region.wanted; rw [hg]) hk hop (hs _) (by simp [Act.eval, Act.put, hd]) Try.underlying23 hi hz hsize hby rfl (by decide) rfl (fun u hu => by simp at hu; subst hu; rfl) (by simp only [maxLen]; omega) (by omega) ?_
  clear hG hO hI
  rintro s w v' w' mode' ⟨hG, hO⟩ hI hS hsz hkeep hmode
  refine h N v' _ _ ⟨hG.rl.own hB hsz (fun bb hb => hkeep bb (Nat.lt_of_lt_of_le hb hG.rl.size) fun e => by have := (hG.sl.lt e).1; omega) fun l hl => hmode l (hl.mono hG.rl.size), ?_⟩
  have e : ints (l ++ [y]) = ints l ++ [.int .i64 y] := by simp [ints]
  rw [e, List.length_append]
  exact hS

theorem ChainR.nextR {vs : List Int} {v : Int} {g : Nat} (h : ChainR k s w (some ⟨g, 0, none⟩) (v :: vs)) : ∃ q', RdC k s w g 2 (.pointer q') ∧ ChainR k s w q' vs := by
  obtain ⟨g', q', e, h1, h2⟩ := h
  cases e
  exact ⟨q', h1.rdc rfl, h2⟩

/-- All: what a look at the head gives, newest first. -/
theorem all_x (hB : B.Laws) {A : St B → World → Prop} {Q : Option Addr → List Int → St B → World → Prop} {b : Nat} (L : Look E 0 b A Q) (hlen : ∀ {q vs s w}, Q q vs s w → vs.length ≤ 65536) (h : A s w) :
    CallX Try.prog B E Post Child 0 16 #[.pointer (some ⟨b, 0, none⟩)] s w (fun v s' w' => ∃ q vs s₁ w₁, Q q vs s₁ w₁ ∧ Acc s₁ w₁ v vs s' w') := by
  refine ⟨Try.f16, _, Try.func16, by kernel_rfl, rfl, fun cal cs hret => ?_⟩
  walk_nrmf Try.f16
  have he1 := fun (x : Option Addr) (w : World) (es : Array Event) => ev_neq_ptr_nil (P := Try.prog) Try.underlying51 x w es
  repeat (first | ((with_reducible refine gd_op ?_); first | (refine rr_pure' hB rfl (by rfl) (by k_ne) (by rfl) (fun w₁ => by first | (simp [go_sem]; done) | simp [go_sem, *]) (fun w₁ K hK => ?_); go_simp; refine hK _ ?_; clear hK K w₁; try walk_nrm) | (refine rr_ctl hB rfl (fun _ => stepG_unwanted rfl rfl) ?_; try walk_nrm)) | ((with_reducible refine gd_rend ?_); (refine rr_regend hB hKr ?_; clear hKr Kr)) | ((with_reducible refine gd_seq ?_); refine rr_ctl hB rfl (fun _ => stepG_seq) ?_) | ((with_reducible refine gd_reg ?_); (refine rr_reg hB (fun Kr hKr => ?_); simp only [List.size_toArray, List.length_cons, List.length_nil, Nat.reduceAdd, Nat.zero_add, List.range, List.range.loop])) | ((with_reducible refine gd_skip ?_); refine rr_ctl hB rfl (fun _ => stepG_skip) ?_) | ((with_reducible refine gd_block ?_); refine rr_ctl hB rfl (fun _ => stepG_block) ?_) | ((with_reducible refine gd_inb ?_); refine rr_ctl hB rfl (fun _ => stepG_inBlock) ?_) | ((with_reducible refine gd_ret ?_); refine rr_ctl hB rfl (fun _ => stepG_ret') ?_) | ((with_reducible refine gd_exit ?_); refine rr_ctl hB rfl (fun _ => stepG_exit rfl) ?_) | ((with_reducible refine gd_end ?_); refine rr_ctl hB rfl (fun _ => stepG_end) ?_))
  (apply rr_call hB rfl (by rfl) (by k_ne) rfl; focus ((try walk_nrm); exact (pload_x hB (A := A) (Q := fun q s w => ∃ vs, Q q vs s w) (fun _ _ _ _ => L.hst) (fun s w hA hI => let ⟨q, vs, s', h1, h2, h3, h4⟩ := L.hrd hA hI; ⟨q, s', h1, h2, h3, vs, h4⟩) (fun _ _ _ _ _ ⟨vs, h⟩ r => ⟨vs, L.hq h r⟩) (fun _ _ _ ⟨vs, h⟩ _ => (L.hch h).node) h)))
  clear h
  rintro _ s₀ w₀ ⟨q0, rfl, vs0, hQ⟩
  walk_nrm
  repeat (first | ((with_reducible refine gd_op ?_); first | (refine rr_pure' hB rfl (by rfl) (by k_ne) (by rfl) (fun w₁ => by first | (simp [go_sem]; done) | simp [go_sem, *]) (fun w₁ K hK => ?_); go_simp; refine hK _ ?_; clear hK K w₁; try walk_nrm) | (refine rr_ctl hB rfl (fun _ => stepG_unwanted rfl rfl) ?_; try walk_nrm)) | ((with_reducible refine gd_rend ?_); (refine rr_regend hB hKr ?_; clear hKr Kr)) | ((with_reducible refine gd_seq ?_); refine rr_ctl hB rfl (fun _ => stepG_seq) ?_) | ((with_reducible refine gd_reg ?_); (refine rr_reg hB (fun Kr hKr => ?_); simp only [List.size_toArray, List.length_cons, List.length_nil, Nat.reduceAdd, Nat.zero_add, List.range, List.range.loop])) | ((with_reducible refine gd_skip ?_); refine rr_ctl hB rfl (fun _ => stepG_skip) ?_) | ((with_reducible refine gd_block ?_); refine rr_ctl hB rfl (fun _ => stepG_block) ?_) | ((with_reducible refine gd_inb ?_); refine rr_ctl hB rfl (fun _ => stepG_inBlock) ?_) | ((with_reducible refine gd_ret ?_); refine rr_ctl hB rfl (fun _ => stepG_ret') ?_) | ((with_reducible refine gd_exit ?_); refine rr_ctl hB rfl (fun _ => stepG_exit rfl) ?_) | ((with_reducible refine gd_end ?_); refine rr_ctl hB rfl (fun _ => stepG_end) ?_))
  have hC := L.hch hQ
  have hv0 := hlen hQ
  replace hret : ∀ v s' w', Acc s₀ w₀ v vs0 s' w' → RR Try.prog B E Post Child 0 (G (cal.finish v) cs) s' w' := fun v s' w' h => hret v s' w' ⟨_, _, _, _, hQ, h⟩
  refine rr_loop hB (fun m a s w => ∃ T q v done vs, a = ⟨T, []⟩ ∧ T.size = 23 ∧ some v = T[3]? ∧ T[4]? = some (.pointer q) ∧ m = vs.length ∧ vs0 = done ++ vs ∧ ChainR 0 s₀ w₀ q vs ∧ Acc s₀ w₀ v done s w) vs0.length
    ⟨_, _, _, [], vs0, rfl, rfl, rfl, rfl, rfl, rfl, hC, Acc.nil hB _ _⟩ ?_
  clear hC hQ
  rintro m a s w ⟨T, q, v, done, vs, rfl, hT, t3, t4, rfl, hvs, hC, hF⟩ ih
  obtain ⟨T⟩ := T
  ((iterate 23 (rcases T with _ | ⟨_, T⟩; focus (simp at hT))); rcases T with _ | ⟨_, _⟩; rotate_left; focus (simp at hT))
  simp only [List.getElem?_toArray, List.getElem?_cons_succ, List.getElem?_cons_zero, Option.some.injEq] at t3 t4
  subst t3 t4
  cases vs with
  | nil =>
    obtain rfl := hC.nil
    rw [List.append_nil] at hvs
    subst hvs
    repeat (first | ((with_reducible refine gd_op ?_); first | (refine rr_pure' hB rfl (by rfl) (by k_ne) (by rfl) (fun w₁ => by first | (simp [go_sem]; done) | simp [go_sem, *]) (fun w₁ K hK => ?_); go_simp; refine hK _ ?_; clear hK K w₁; try walk_nrm) | (refine rr_ctl hB rfl (fun _ => stepG_unwanted rfl rfl) ?_; try walk_nrm)) | ((with_reducible refine gd_rend ?_); (refine rr_regend hB hKr ?_; clear hKr Kr)) | ((with_reducible refine gd_seq ?_); refine rr_ctl hB rfl (fun _ => stepG_seq) ?_) | ((with_reducible refine gd_reg ?_); (refine rr_reg hB (fun Kr hKr => ?_); simp only [List.size_toArray, List.length_cons, List.length_nil, Nat.reduceAdd, Nat.zero_add, List.range, List.range.loop])) | ((with_reducible refine gd_skip ?_); refine rr_ctl hB rfl (fun _ => stepG_skip) ?_) | ((with_reducible refine gd_block ?_); refine rr_ctl hB rfl (fun _ => stepG_block) ?_) | ((with_reducible refine gd_inb ?_); refine rr_ctl hB rfl (fun _ => stepG_inBlock) ?_) | ((with_reducible refine gd_ret ?_); refine rr_ctl hB rfl (fun _ => stepG_ret') ?_) | ((with_reducible refine gd_exit ?_); refine rr_ctl hB rfl (fun _ => stepG_exit rfl) ?_) | ((with_reducible refine gd_end ?_); refine rr_ctl hB rfl (fun _ => stepG_end) ?_))
    (refine rr_ctl hB rfl (fun _ => stepG_cond (t := false) (by first | rfl | (simp [Act.eval, *]))) ?_; simp only [if_true, if_false, Bool.false_eq_true, ↓reduceIte])
    repeat (first | ((with_reducible refine gd_op ?_); first | (refine rr_pure' hB rfl (by rfl) (by k_ne) (by rfl) (fun w₁ => by first | (simp [go_sem]; done) | simp [go_sem, *]) (fun w₁ K hK => ?_); go_simp; refine hK _ ?_; clear hK K w₁; try walk_nrm) | (refine rr_ctl hB rfl (fun _ => stepG_unwanted rfl rfl) ?_; try walk_nrm)) | ((with_reducible refine gd_rend ?_); (refine rr_regend hB hKr ?_; clear hKr Kr)) | ((with_reducible refine gd_seq ?_); refine rr_ctl hB rfl (fun _ => stepG_seq) ?_) | ((with_reducible refine gd_reg ?_); (refine rr_reg hB (fun Kr hKr => ?_); simp only [List.size_toArray, List.length_cons, List.length_nil, Nat.reduceAdd, Nat.zero_add, List.range, List.range.loop])) | ((with_reducible refine gd_skip ?_); refine rr_ctl hB rfl (fun _ => stepG_skip) ?_) | ((with_reducible refine gd_block ?_); refine rr_ctl hB rfl (fun _ => stepG_block) ?_) | ((with_reducible refine gd_inb ?_); refine rr_ctl hB rfl (fun _ => stepG_inBlock) ?_) | ((with_reducible refine gd_ret ?_); refine rr_ctl hB rfl (fun _ => stepG_ret') ?_) | ((with_reducible refine gd_exit ?_); refine rr_ctl hB rfl (fun _ => stepG_exit rfl) ?_) | ((with_reducible refine gd_end ?_); refine rr_ctl hB rfl (fun _ => stepG_end) ?_))
    (refine rr_leave hB rfl rfl Try.func16 (fun w => ⟨results_tmp rfl _ _ w, events_results_tmp rfl _ _⟩) ?_)
    exact hret _ _ _ hF
  | cons y vs =>
    obtain ⟨g, rfl⟩ := hC.isSome
    have hdl : done.length ≤ 65536 := by rw [hvs, List.length_append] at hv0; omega
    repeat (first | ((with_reducible refine gd_op ?_); first | (refine rr_pure' hB rfl (by rfl) (by k_ne) (by rfl) (fun w₁ => by first | (simp [go_sem]; done) | simp [go_sem, *]) (fun w₁ K hK => ?_); go_simp; refine hK _ ?_; clear hK K w₁; try walk_nrm) | (refine rr_ctl hB rfl (fun _ => stepG_unwanted rfl rfl) ?_; try walk_nrm)) | ((with_reducible refine gd_rend ?_); (refine rr_regend hB hKr ?_; clear hKr Kr)) | ((with_reducible refine gd_seq ?_); refine rr_ctl hB rfl (fun _ => stepG_seq) ?_) | ((with_reducible refine gd_reg ?_); (refine rr_reg hB (fun Kr hKr => ?_); simp only [List.size_toArray, List.length_cons, List.length_nil, Nat.reduceAdd, Nat.zero_add, List.range, List.range.loop])) | ((with_reducible refine gd_skip ?_); refine rr_ctl hB rfl (fun _ => stepG_skip) ?_) | ((with_reducible refine gd_block ?_); refine rr_ctl hB rfl (fun _ => stepG_block) ?_) | ((with_reducible refine gd_inb ?_); refine rr_ctl hB rfl (fun _ => stepG_inBlock) ?_) | ((with_reducible refine gd_ret ?_); refine rr_ctl hB rfl (fun _ => stepG_ret') ?_) | ((with_reducible refine gd_exit ?_); refine rr_ctl hB rfl (fun _ => stepG_exit rfl) ?_) | ((with_reducible refine gd_end ?_); refine rr_ctl hB rfl (fun _ => stepG_end) ?_))
    (refine rr_ctl hB rfl (fun _ => stepG_cond (t := true) (by first | rfl | (simp [Act.eval, *]))) ?_; simp only [if_true, if_false, Bool.false_eq_true, ↓reduceIte])
    repeat (first | ((with_reducible refine gd_op ?_); first | (refine rr_pure' hB rfl (by rfl) (by k_ne) (by rfl) (fun w₁ => by first | (simp [go_sem]; done) | simp [go_sem, *]) (fun w₁ K hK => ?_); go_simp; refine hK _ ?_; clear hK K w₁; try walk_nrm) | (refine rr_ctl hB rfl (fun _ => stepG_unwanted rfl rfl) ?_; try walk_nrm)) | ((with_reducible refine gd_rend ?_); (refine rr_regend hB hKr ?_; clear hKr Kr)) | ((with_reducible refine gd_seq ?_); refine rr_ctl hB rfl (fun _ => stepG_seq) ?_) | ((with_reducible refine gd_reg ?_); (refine rr_reg hB (fun Kr hKr => ?_); simp only [List.size_toArray, List.length_cons, List.length_nil, Nat.reduceAdd, Nat.zero_add, List.range, List.range.loop])) | ((with_reducible refine gd_skip ?_); refine rr_ctl hB rfl (fun _ => stepG_skip) ?_) | ((with_reducible refine gd_block ?_); refine rr_ctl hB rfl (fun _ => stepG_block) ?_) | ((with_reducible refine gd_inb ?_); refine rr_ctl hB rfl (fun _ => stepG_inBlock) ?_) | ((with_reducible refine gd_ret ?_); refine rr_ctl hB rfl (fun _ => stepG_ret') ?_) | ((with_reducible refine gd_exit ?_); refine rr_ctl hB rfl (fun _ => stepG_exit rfl) ?_) | ((with_reducible refine gd_end ?_); refine rr_ctl hB rfl (fun _ => stepG_end) ?_))
    (refine rr_oper rfl (by rfl) (by k_ne) (fun s₁ w₁ hR hI K hK => ?_); replace hF := (Acc.rely hB) hF hR; clear hR; have := (hC.rely hF.rl).val.1; go_simp; refine hK _ _ ⟨s₁, mv_rd (.inl rfl) (fun e he => ?_), .refl _, ?_⟩; (focus (have hm := mem_listed he; simp [go_sem, *] at hm; (subst hm; exact ⟨_, rfl, (hC.rely hF.rl).val.2.1, (hC.rely hF.rl).val.2.2⟩))); clear hK K; try walk_nrm)
    repeat (first | ((with_reducible refine gd_op ?_); first | (refine rr_pure' hB rfl (by rfl) (by k_ne) (by rfl) (fun w₁ => by first | (simp [go_sem]; done) | simp [go_sem, *]) (fun w₁ K hK => ?_); go_simp; refine hK _ ?_; clear hK K w₁; try walk_nrm) | (refine rr_ctl hB rfl (fun _ => stepG_unwanted rfl rfl) ?_; try walk_nrm)) | ((with_reducible refine gd_rend ?_); (refine rr_regend hB hKr ?_; clear hKr Kr)) | ((with_reducible refine gd_seq ?_); refine rr_ctl hB rfl (fun _ => stepG_seq) ?_) | ((with_reducible refine gd_reg ?_); (refine rr_reg hB (fun Kr hKr => ?_); simp only [List.size_toArray, List.length_cons, List.length_nil, Nat.reduceAdd, Nat.zero_add, List.range, List.range.loop])) | ((with_reducible refine gd_skip ?_); refine rr_ctl hB rfl (fun _ => stepG_skip) ?_) | ((with_reducible refine gd_block ?_); refine rr_ctl hB rfl (fun _ => stepG_block) ?_) | ((with_reducible refine gd_inb ?_); refine rr_ctl hB rfl (fun _ => stepG_inBlock) ?_) | ((with_reducible refine gd_ret ?_); refine rr_ctl hB rfl (fun _ => stepG_ret') ?_) | ((with_reducible refine gd_exit ?_); refine rr_ctl hB rfl (fun _ => stepG_exit rfl) ?_) | ((with_reducible refine gd_end ?_); refine rr_ctl hB rfl (fun _ => stepG_end) ?_))
    refine rr_push hB (sx := .tmp 15) (y := y) hF rfl (by rfl) (by k_ne) rfl (fun w => by simp [go_sem]) (fun w => by simp [go_sem]) rfl rfl rfl (by simp) (fun _ => rfl) (by omega) ?_
    clear hF
    rintro N v' s w hF
    walk_nrm
    repeat (first | ((with_reducible refine gd_op ?_); first | (refine rr_pure' hB rfl (by rfl) (by k_ne) (by rfl) (fun w₁ => by first | (simp [go_sem]; done) | simp [go_sem, *]) (fun w₁ K hK => ?_); go_simp; refine hK _ ?_; clear hK K w₁; try walk_nrm) | (refine rr_ctl hB rfl (fun _ => stepG_unwanted rfl rfl) ?_; try walk_nrm)) | ((with_reducible refine gd_rend ?_); (refine rr_regend hB hKr ?_; clear hKr Kr)) | ((with_reducible refine gd_seq ?_); refine rr_ctl hB rfl (fun _ => stepG_seq) ?_) | ((with_reducible refine gd_reg ?_); (refine rr_reg hB (fun Kr hKr => ?_); simp only [List.size_toArray, List.length_cons, List.length_nil, Nat.reduceAdd, Nat.zero_add, List.range, List.range.loop])) | ((with_reducible refine gd_skip ?_); refine rr_ctl hB rfl (fun _ => stepG_skip) ?_) | ((with_reducible refine gd_block ?_); refine rr_ctl hB rfl (fun _ => stepG_block) ?_) | ((with_reducible refine gd_inb ?_); refine rr_ctl hB rfl (fun _ => stepG_inBlock) ?_) | ((with_reducible refine gd_ret ?_); refine rr_ctl hB rfl (fun _ => stepG_ret') ?_) | ((with_reducible refine gd_exit ?_); refine rr_ctl hB rfl (fun _ => stepG_exit rfl) ?_) | ((with_reducible refine gd_end ?_); refine rr_ctl hB rfl (fun _ => stepG_end) ?_))
    obtain ⟨q', e1, e2⟩ := ChainR.nextR hC
    (refine rr_oper rfl (by rfl) (by k_ne) (fun s₁ w₁ hR hI K hK => ?_); replace hF := (Acc.rely hB) hF hR; clear hR; have := (e1.rely hF.rl).1; go_simp; refine hK _ _ ⟨s₁, mv_rd (.inl rfl) (fun e he => ?_), .refl _, ?_⟩; (focus (have hm := mem_listed he; simp [go_sem, *] at hm; (subst hm; exact ⟨_, rfl, (e1.rely hF.rl).2.1, (e1.rely hF.rl).2.2⟩))); clear hK K; try walk_nrm)
    repeat (first | ((with_reducible refine gd_op ?_); first | (refine rr_pure' hB rfl (by rfl) (by k_ne) (by rfl) (fun w₁ => by first | (simp [go_sem]; done) | simp [go_sem, *]) (fun w₁ K hK => ?_); go_simp; refine hK _ ?_; clear hK K w₁; try walk_nrm) | (refine rr_ctl hB rfl (fun _ => stepG_unwanted rfl rfl) ?_; try walk_nrm)) | ((with_reducible refine gd_rend ?_); (refine rr_regend hB hKr ?_; clear hKr Kr)) | ((with_reducible refine gd_seq ?_); refine rr_ctl hB rfl (fun _ => stepG_seq) ?_) | ((with_reducible refine gd_reg ?_); (refine rr_reg hB (fun Kr hKr => ?_); simp only [List.size_toArray, List.length_cons, List.length_nil, Nat.reduceAdd, Nat.zero_add, List.range, List.range.loop])) | ((with_reducible refine gd_skip ?_); refine rr_ctl hB rfl (fun _ => stepG_skip) ?_) | ((with_reducible refine gd_block ?_); refine rr_ctl hB rfl (fun _ => stepG_block) ?_) | ((with_reducible refine gd_inb ?_); refine rr_ctl hB rfl (fun _ => stepG_inBlock) ?_) | ((with_reducible refine gd_ret ?_); refine rr_ctl hB rfl (fun _ => stepG_ret') ?_) | ((with_reducible refine gd_exit ?_); refine rr_ctl hB rfl (fun _ => stepG_exit rfl) ?_) | ((with_reducible refine gd_end ?_); refine rr_ctl hB rfl (fun _ => stepG_end) ?_))
    refine rr_ctl hB rfl (fun _ => stepG_inLoop) ?_
    exact ih vs.length _ _ _ (by simp) ⟨_, q', _, done ++ [y], vs, rfl, rfl, rfl, rfl, rfl, by rw [hvs, List.append_assoc]; rfl, e2, hF⟩
end
end Go.Proofs.Ytbamamkjmfkghaa.Crw
