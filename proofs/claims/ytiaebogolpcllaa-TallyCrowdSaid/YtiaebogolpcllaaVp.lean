/- A crowd adds: what the starter knows ahead of the crowd, while it starts, behind the join.
No condition. -/
import Derived.Test.YtiaebogolpcllaaVo
import Derived.Test.YtiaebogolpcllaaVl
import Derived.Test.YtiaebogolpcllaaVi
set_option linter.unusedSimpArgs false
set_option linter.unusedVariables false
namespace Go.Proofs.Ytiaebogolpcllaa.Crw
open Go Go.Conc Go.RowKit Go.Conc.Lib Go.ConcR.Gen
open Go.ConcN (upd upd_same upd_ne)
open Go.ConcR (stA smA KK WgAt wgBlock rd wr mk)
set_option linter.unusedVariables false
set_option maxRecDepth 100000
set_option maxHeartbeats 4000000
section
variable {E : Env} {Post : Value → World → Prop} {k : Nat} {s s' s₀ s₁ : St tallyU} {w w' w₀ w₁ : World}

/-- Ahead of all. -/
structure Begin (s : St tallyU) : Prop where
  on : s.on = false
  n1 : s.tg.n = 1
  uo : s.u.on = false
  hd : s.tg.hd = none
  df : s.tg.deaf 0 = 0
theorem Begin.rely (h : Begin s) (r : Rl 0 s w s₁ w₁) : Begin s₁ :=
  ⟨(r.zero rfl).2.2.2.1.trans h.on, (r.zero rfl).1.trans h.n1, by rw [r.ru.1.1 h.uo]; exact h.uo, r.hd.trans h.hd, r.deaf.trans h.df⟩

/-- Readable by the starter and by whoever is started from now on. -/
structure Rd0 (s : St tallyU) (w : World) (b : Nat) (t : TypeId) (vs : List Value) : Prop where
  hp : w.heap[b]? = some (.cells vs.toArray t (0, 0))
  md : ∀ a, a.block = b → s.tg.mode (.cell a) = .own 0 ∨ ∃ m, m ≤ s.tg.n ∧ s.tg.mode (.cell a) = .ro m
theorem Rd0.rds {b : Nat} {t : TypeId} {vs : List Value} (h : Rd0 s w b t vs) : Rds 0 s w b t vs :=
  ⟨h.hp, fun a ha => (h.md a ha).imp id fun ⟨m, _, e⟩ => .inl ⟨m, e, .inl rfl⟩⟩
theorem Rd0.lt {b : Nat} {t : TypeId} {vs : List Value} (h : Rd0 s w b t vs) : b < w.heap.size := h.rds.lt
theorem Rd0.cell {b : Nat} {t : TypeId} {vs : List Value} (h : Rd0 s w b t vs) (off : Nat) : w.cell? ⟨b, off, none⟩ = vs[off]? := h.rds.cell off
theorem Rd0.cm {b : Nat} {t : TypeId} {vs : List Value} (h : Rd0 s w b t vs) (hR : Cm 0 s w s₁ w₁) : Rd0 s₁ w₁ b t vs := by
  refine ⟨(h.rds.cm hR).hp, fun a ha => ?_⟩
  have hlt : locLow w.heap.size (.cell a) := by show a.block < _; rw [ha]; exact h.lt
  rcases h.md a ha with e | ⟨m, hm, e⟩
  · exact .inl ((hR.mode _ hlt fun i hi e' => by rw [e] at e'; exact hi (Mode.own.inj e').symm).trans e)
  · exact .inr ⟨m, by rw [hR.n0 rfl]; exact hm, (hR.mode _ hlt fun i hi e' => by rw [e] at e'; cases e').trans e⟩
theorem Rd0.rely {b : Nat} {t : TypeId} {vs : List Value} (h : Rd0 s w b t vs) (hR : Rl 0 s w s₁ w₁) : Rd0 s₁ w₁ b t vs := h.cm hR.cm
theorem Rd0.leaves {b : Nat} {t : TypeId} {vs : List Value} (h : Rd0 s w b t vs) (hl : Leaves b s w s₁ w₁) (hn : s₁.tg.n = s.tg.n) : Rd0 s₁ w₁ b t vs :=
  ⟨hl.1.trans h.hp, fun a ha => by rw [hl.2.1 a ha, hn]; exact h.md a ha⟩
theorem Own.rd0 {b : Nat} {t : TypeId} {vs : List Value} (h : Own 0 s w b t vs) : Rd0 s w b t vs := ⟨h.hp, fun a ha => .inl (h.md a ha)⟩

/-- A list of additions that the starter holds, below a bound. -/
def Lst0 (N : Nat) (s : St tallyU) (w : World) (v : Value) (l : List (Int × Int)) : Prop :=
  ∃ A cap, v = .slice A l.length cap ∧ (l = [] ∨ ∃ g vs, A = some ⟨g, 0, none⟩ ∧ g < N ∧ Rd0 s w g 49 vs ∧ ∀ (i : Nat) x, l[i]? = some x → vs[i * 2]? = some (.int .i64 x.1) ∧ vs[i * 2 + 1]? = some (.int .i64 x.2))
theorem Lst0.map {N : Nat} {v : Value} {l : List (Int × Int)} (h : Lst0 N s w v l) (f : ∀ g t vs, g < N → Rd0 s w g t vs → Rd0 s₁ w₁ g t vs) : Lst0 N s₁ w₁ v l := by
  obtain ⟨A, cap, e, h | ⟨g, vs, h1, h0, h2, h3⟩⟩ := h
  · exact ⟨A, cap, e, .inl h⟩
  · exact ⟨A, cap, e, .inr ⟨g, vs, h1, h0, f g _ vs h0 h2, h3⟩⟩

/-- The lists, as the starter holds them. -/
structure Lists (N : Nat) (ls : List (List (Int × Int))) (v : Value) (s : St tallyU) (w : World) : Prop where
  out : ∃ A cap, v = .slice A ls.length cap ∧ (ls = [] ∨ ∃ g vs, A = some ⟨g, 0, none⟩ ∧ g < N ∧ Rd0 s w g 46 vs ∧ ∀ (i : Nat) l, ls[i]? = some l → ∃ vi, vs[i]? = some vi ∧ Lst0 N s w vi l)
theorem Lists.map {N : Nat} {ls : List (List (Int × Int))} {v : Value} (h : Lists N ls v s w) (f : ∀ b t vs, b < N → Rd0 s w b t vs → Rd0 s₁ w₁ b t vs) : Lists N ls v s₁ w₁ := by
  obtain ⟨A, cap, e, h | ⟨g, vs, h1, h0, h2, h3⟩⟩ := h.out
  · exact ⟨A, cap, e, .inl h⟩
  · exact ⟨A, cap, e, .inr ⟨g, vs, h1, h0, f _ _ _ h0 h2, fun i l hl => let ⟨vi, h4, h5⟩ := h3 i l hl; ⟨vi, h4, h5.map f⟩⟩⟩
theorem LstO.lst0 {v : Value} {l : List (Int × Int)} (h : LstO s w v l) : Lst0 w.heap.size s w v l := by
  obtain ⟨A, cap, e, h | ⟨g, vs, h1, h2, h3⟩⟩ := h
  · exact ⟨A, cap, e, .inl h⟩
  · exact ⟨A, cap, e, .inr ⟨g, vs, h1, h2.lt, h2.rd0, h3⟩⟩
theorem Lists.of_out {ls : List (List (Int × Int))} {v : Value} {vals : List Value} (h : OutI ls s₀ w₀ ls.length v vals s w) : Lists w.heap.size ls v s w := by
  have hl : vals.length = ls.length := by have := h.sl.row.1; omega
  rcases h.sl.row.2 with ⟨rfl, h0⟩ | ⟨g, cap, cur, rfl, h1, h2, h3, h4, h5, h6⟩
  · exact ⟨none, 0, by rw [h0], .inl (List.eq_nil_of_length_eq_zero h0)⟩
  · refine ⟨_, cap, rfl, .inr ⟨g, cur.toList, rfl, (Array.getElem?_eq_some_iff.1 h2).1, ⟨by simpa using h2, fun a ha => .inl (h.sl.md g rfl a ha)⟩, fun i l hil => ?_⟩⟩
    have hi : i < vals.length := by have := (List.getElem?_eq_some_iff.1 hil).1; omega
    obtain ⟨x, e⟩ : ∃ x, vals[i]? = some x := ⟨_, List.getElem?_eq_getElem hi⟩
    obtain ⟨l', e1, e2⟩ := h.each i _ e
    rw [hil] at e1
    cases e1
    refine ⟨x, ?_, e2.lst0⟩
    rw [← h6, List.getElem?_take] at e
    split at e
    · exact e
    · cases e
end
end Go.Proofs.Ytiaebogolpcllaa.Crw
namespace Go.Proofs.Ytiaebogolpcllaa.Crw
open Go Go.Conc Go.RowKit Go.Conc.Lib Go.ConcR.Gen
open Go.ConcN (upd upd_same upd_ne)
open Go.ConcR (stA smA KK WgAt wgBlock rd wr mk)
set_option linter.unusedVariables false
set_option maxRecDepth 100000
set_option maxHeartbeats 4000000
section
variable {E : Env} {Post : Value → World → Prop} {k : Nat} {s s' s₀ s₁ : St tallyU} {w w' w₀ w₁ : World}

/-- What was there is as it was. -/
structure Up (s : St tallyU) (w : World) (s' : St tallyU) (w' : World) : Prop where
  size : w.heap.size ≤ w'.heap.size
  hp : ∀ b, b < w.heap.size → w'.heap[b]? = w.heap[b]?
  md : ∀ a : Addr, a.block < w.heap.size → s'.tg.mode (.cell a) = s.tg.mode (.cell a)
  n : s'.tg.n = s.tg.n
theorem Rd0.up {b : Nat} {t : TypeId} {vs : List Value} (h : Rd0 s w b t vs) (u : Up s w s' w') : Rd0 s' w' b t vs :=
  ⟨(u.hp b h.lt).trans h.hp, fun a ha => by rw [u.md a (by rw [ha]; exact h.lt), u.n]; exact h.md a ha⟩
theorem Own.up {b : Nat} {t : TypeId} {vs : List Value} (h : Own 0 s w b t vs) (u : Up s w s' w') : Own 0 s' w' b t vs :=
  ⟨(u.hp b h.lt).trans h.hp, fun a ha => (u.md a (by rw [ha]; exact h.lt)).trans (h.md a ha)⟩
theorem up_new (o : Obj) : Up s w (s.take 0 w.heap.size (w.heap.size + 1)) (w.alloc o) :=
  ⟨by rw [alloc_size]; omega, fun b hb => alloc_old w o hb, fun a ha => newMode_low (l := .cell a) ha, rfl⟩

def blockMode (m : Loc → Mode) (N : Nat) (x : Mode) : Loc → Mode
  | .cell a => if a.block = N then x else m (.cell a)
  | l => m l
theorem blockMode_at {m : Loc → Mode} {N : Nat} {x : Mode} {a : Addr} (h : a.block = N) : blockMode m N x (.cell a) = x := by simp [blockMode, h]
theorem blockMode_ne {m : Loc → Mode} {N : Nat} {x : Mode} {a : Addr} (h : a.block ≠ N) : blockMode m N x (.cell a) = m (.cell a) := by simp [blockMode, h]
theorem blockMode_low {m : Loc → Mode} {N : Nat} {x : Mode} {l : Loc} (h : locLow N l) : blockMode m N x l = m l := by
  cases l with
  | cell a => exact blockMode_ne (Nat.ne_of_lt h)
  | _ => rfl

/-- The ghost when the shards are laid. -/
def uStart (b n : Nat) (ls : List (List (Int × Int))) : TU := { on := true, b := b, cur := List.replicate n 0, rem := allOf ls, all := allOf ls, sb := none, st := 0 }
theorem sum1_zero (n : Nat) : sum1 (List.replicate n 0) = 0 := by
  induction n with
  | zero => rfl
  | succ n ih => rw [List.replicate_succ, sum1_cons, ih]; rfl
theorem uStart_ok {b n : Nat} {ls : List (List (Int × Int))} (hn : 0 < n) (hn2 : n ≤ 64) : (uStart b n ls).Ok := by
  refine ⟨?_, fun hf => ⟨?_, fun x hx => ?_, hf.1⟩, rfl, by simpa [uStart] using hn, by simpa [uStart] using hn2, fun i _ => rfl⟩
  · show (sum1 (List.replicate n 0) + sum2 (allOf ls) - sum2 (allOf ls)) % _ = 0
    rw [sum1_zero]; simp
  · show sum1 (List.replicate n 0) + sum2 (allOf ls) = sum2 (allOf ls)
    rw [sum1_zero]; omega
  · have := List.eq_of_mem_replicate hx; omega

/-- The shards are laid. -/
theorem mv_shards (hI : Ok E s w) (hb : Begin s) {n : Nat} (hn : 0 < n) (hn2 : n ≤ 64) (ls : List (List (Int × Int))) :
    ∃ s' : St tallyU, Mv E 0 s w s' (w.alloc (.cells (List.replicate n (.int .i64 0)).toArray 70)) #[] ∧ Soft s s' ∧ Up s w s' (w.alloc (.cells (List.replicate n (.int .i64 0)).toArray 70)) ∧
      s'.u = uStart w.heap.size n ls ∧ s'.on = false ∧ s'.tg.n = 1 ∧ s'.tg.hd = none ∧ s'.tg.deaf 0 = 0 := by
  have hoff := hI.C.off hb.on
  refine ⟨{ s with tg := { s.tg with mode := blockMode s.tg.mode w.heap.size .at, wg := s.tg.wg }, on := s.on, u := uStart w.heap.size n ls }, ?_, ⟨rfl, rfl⟩, ⟨by rw [alloc_size]; omega, fun b hb' => alloc_old w _ hb', fun a ha => blockMode_ne (Nat.ne_of_lt ha), rfl⟩, rfl, hb.on, hb.n1, hb.hd, hb.df⟩
  refine Mv.ini rfl hb.n1 hoff.2.2.2 (turn_alloc _ w _) (fun l hl => blockMode_low hl) (fun l hl => ?_) (.inl ⟨rfl, rfl, fun l hl => ?_⟩) (fun _ => ⟨?_, fun a ha => blockMode_at ha, uStart_ok hn hn2⟩) (fun e he => by simp at he) (fun e he => by simp at he)
  · cases l with
    | cell a =>
      by_cases h : a.block = w.heap.size
      · exact .inr ⟨by show a.block < _; rw [alloc_size]; omega, .inl (blockMode_at h)⟩
      · exact .inl ((blockMode_ne h).trans (hI.M.freshO _ hl))
    | _ => exact .inl (hI.M.freshO _ hl)
  · have : ∀ l, blockMode s.tg.mode w.heap.size .at l = .at ∨ blockMode s.tg.mode w.heap.size .at l = s.tg.mode l := fun l => by
      cases l with
      | cell a =>
        by_cases h : a.block = w.heap.size
        · exact .inl (blockMode_at h)
        · exact .inr (blockMode_ne h)
      | _ => exact .inr rfl
    rcases this l with e | e <;> rw [e]
    · simp
    · rw [hI.M.freshO l hl]; simp
  · show (w.alloc _).heap[w.heap.size]? = _
    rw [alloc_new]
    simp [uStart, ints]

/-- The group is laid. -/
theorem mv_group (hE : E.ty = 45) (hI : Ok E s w) (hon : s.on = false) (hn1 : s.tg.n = 1) (hh : s.tg.hd = none) (hd : s.tg.deaf 0 = 0) :
    ∃ s' : St tallyU, Mv E 0 s w s' (w.alloc (.cells #[.int .u64 0, .int .u32 0] 45)) #[] ∧ Soft s s' ∧ Up s w s' (w.alloc (.cells #[.int .u64 0, .int .u32 0] 45)) ∧
      s'.u = s.u ∧ s'.tg.n = 1 ∧ s'.tg.hd = none ∧ SF w.heap.size 0 false true false s' := by
  have hoff := hI.C.off hon
  refine ⟨{ s with tg := { s.tg with mode := blockMode s.tg.mode w.heap.size .wg, wg := w.heap.size }, on := true, u := s.u }, ?_, ⟨rfl, rfl⟩, ⟨by rw [alloc_size]; omega, fun b hb' => alloc_old w _ hb', fun a ha => blockMode_ne (Nat.ne_of_lt ha), rfl⟩, rfl, hn1, hh, ⟨rfl, rfl, hd, hoff.2.2.1, ⟨fun _ => rfl, fun _ => hoff.2.1⟩, fun e => (by cases e), hoff.2.2.2⟩⟩
  refine Mv.ini rfl hn1 hoff.2.2.2 (turn_alloc _ w _) (fun l hl => blockMode_low hl) (fun l hl => ?_) (.inr ⟨hon, rfl, Nat.le_refl _, ?_, fun a ha => blockMode_at ha, fun l hl e => ?_⟩) (tallyLaws.stay hI.J ((turn_alloc (fun _ _ => False) w _).keep fun _ _ _ x => x) fun l e => ?_) (fun e he => by simp at he) (fun e he => by simp at he)
  · cases l with
    | cell a =>
      by_cases h : a.block = w.heap.size
      · exact .inr ⟨by show a.block < _; rw [alloc_size]; omega, .inr ⟨rfl, blockMode_at h⟩⟩
      · exact .inl ((blockMode_ne h).trans (hI.M.freshO _ hl))
    | _ => exact .inl (hI.M.freshO _ hl)
  · show (w.alloc _).heap[w.heap.size]? = _
    rw [alloc_new, hE]
    rfl
  · cases l with
    | cell a =>
      by_cases h : a.block = w.heap.size
      · exact ⟨a, rfl, h⟩
      · rw [blockMode_ne h, hI.M.freshO _ hl] at e; cases e
    | _ => rw [show blockMode s.tg.mode w.heap.size .wg _ = s.tg.mode _ from rfl, hI.M.freshO _ hl] at e; cases e
  · exact (blockMode_low (hI.lowOf e (by simp))).trans e

/-! ### a go statement -/
open Classical in
/-- What was the starter's own is for all to read; X goes to the one who is started. -/
noncomputable def goMode (m : Loc → Mode) (sz n : Nat) (X : Addr → Prop) : Loc → Mode
  | .cell a => if m (.cell a) = .own 0 ∧ a.block < sz then (if X a then .own n else .ro n) else m (.cell a)
  | l => m l
noncomputable def goSt (s : St tallyU) (w : World) (X : Addr → Prop) (u' : TU) : St tallyU :=
  { s with pend := false, alive := s.tg.n :: s.alive, u := u', tg := { s.tg with n := s.tg.n + 1, mode := goMode s.tg.mode w.heap.size s.tg.n X, kn := upd s.tg.kn s.tg.n (s.tg.kn 0), deaf := upd s.tg.deaf s.tg.n 0, rel := upd s.tg.rel s.tg.n false, fin := upd s.tg.fin s.tg.n false } }
theorem go_mk {Wg : Nat} {ae : Bool} (hS : SF Wg 0 true true ae s) (hN : s.tg.n < E.N) (X : Addr → Prop) {u' : TU} (hu : tallyU.Sp s.tg.n s.u u') : Go1 E s w (goSt s w X u') w #[] := by
  refine Go1.mk hS.on (hS.ph.2 rfl) hS.pe hS.jn hS.df hN (fun l => ?_) hu
  cases l with
  | cell a =>
    by_cases h : s.tg.mode (.cell a) = .own 0 ∧ a.block < w.heap.size
    · refine .inr ⟨h.2, h.1, ?_⟩
      by_cases hx : X a
      · exact .inl (by simp [goMode, h, hx])
      · exact .inr (by simp [goMode, h, hx])
    · exact .inl (by simp only [goMode]; rw [if_neg h])
  | _ => exact .inl rfl
theorem goMode_other {m : Loc → Mode} {sz n : Nat} {X : Addr → Prop} {a : Addr} (h : m (.cell a) ≠ .own 0) : goMode m sz n X (.cell a) = m (.cell a) := by
  simp only [goMode]; rw [if_neg fun x => h x.1]
/-- Behind it: the starter's words; what the starter reads; what the one who is started reads and owns. -/
theorem go_sf {Wg : Nat} {X : Addr → Prop} {u' : TU} (hS : SF Wg 0 true true false s) (hn : 0 < s.tg.n) : SF Wg 0 false true false (goSt s w X u') :=
  ⟨hS.on, hS.wg, by show upd s.tg.deaf s.tg.n 0 0 = 0; rw [upd_ne _ _ (by omega)]; exact hS.df, rfl, hS.ph, fun e => (by cases e), hS.jn⟩
theorem go_ws {Wg : Nat} {X : Addr → Prop} {u' : TU} {ae : Bool} (hS : SF Wg 0 true true ae s) : WS Wg s.tg.n 0 false (goSt s w X u') :=
  ⟨hS.on, hS.wg, by show upd s.tg.deaf s.tg.n 0 s.tg.n = 0; exact upd_same _ _ _, by show upd s.tg.rel s.tg.n false s.tg.n = false; exact upd_same _ _ _, by simp [goSt]⟩
theorem go_rd0 {X : Addr → Prop} {u' : TU} {b : Nat} {t : TypeId} {vs : List Value} (h : Rd0 s w b t vs) (hx : ∀ a, a.block = b → ¬ X a) : Rd0 (goSt s w X u') w b t vs :=
  ⟨h.hp, fun a ha => .inr (by
    rcases h.md a ha with e | ⟨m, hm, e⟩
    · refine ⟨s.tg.n, Nat.le_succ _, ?_⟩
      show goMode s.tg.mode w.heap.size s.tg.n X (.cell a) = _
      have : a.block < w.heap.size := by rw [ha]; exact h.lt
      simp [goMode, e, this, hx a ha]
    · refine ⟨m, Nat.le_succ_of_le hm, ?_⟩
      show goMode s.tg.mode w.heap.size s.tg.n X (.cell a) = _
      rw [goMode_other (by rw [e]; simp)]; exact e)⟩
theorem go_rds {X : Addr → Prop} {u' : TU} {b : Nat} {t : TypeId} {vs : List Value} (h : Rd0 s w b t vs) (hx : ∀ a, a.block = b → ¬ X a) : Rds s.tg.n (goSt s w X u') w b t vs :=
  ⟨h.hp, fun a ha => .inr (.inl (by
    rcases h.md a ha with e | ⟨m, hm, e⟩
    · refine ⟨s.tg.n, ?_, .inr (Nat.le_refl _)⟩
      show goMode s.tg.mode w.heap.size s.tg.n X (.cell a) = _
      have : a.block < w.heap.size := by rw [ha]; exact h.lt
      simp [goMode, e, this, hx a ha]
    · refine ⟨m, ?_, .inr hm⟩
      show goMode s.tg.mode w.heap.size s.tg.n X (.cell a) = _
      rw [goMode_other (by rw [e]; simp)]; exact e))⟩
theorem go_own {X : Addr → Prop} {u' : TU} {b : Nat} {t : TypeId} {vs : List Value} (h : Own 0 s w b t vs) (hx : ∀ a, a.block = b → X a) : Own s.tg.n (goSt s w X u') w b t vs :=
  ⟨h.hp, fun a ha => by
    show goMode s.tg.mode w.heap.size s.tg.n X (.cell a) = _
    have : a.block < w.heap.size := by rw [ha]; exact h.lt
    simp [goMode, h.md a ha, this, hx a ha]⟩

/-- What the starter knows while it starts. -/
structure StF (B0 : Nat) (ls : List (List (Int × Int))) (n cv cb b : Nat) (v : Value) (j : Nat) (s : St tallyU) (w : World) : Prop where
  nj : s.tg.n = j + 1
  hd : s.tg.hd = none
  cvr : Rd0 s w cv 33 [.pointer (some ⟨cb, 0, none⟩)]
  cbr : Rd0 s w cb 55 [.slice (some ⟨b, 0, none⟩) n n]
  lst : Lists B0 ls v s w
  low : B0 ≤ w.heap.size
  on : s.u.on = true
  ub : s.u.b = b
  un : s.u.cur.length = n
  ua : s.u.all = allOf ls
  ust : s.u.st ≤ j
  sb : s.u.sb = none
theorem StF.cm {ls : List (List (Int × Int))} {B0 n cv cb b j : Nat} {v : Value} (h : StF B0 ls n cv cb b v j s w) (r : Cm 0 s w s₁ w₁) : StF B0 ls n cv cb b v j s₁ w₁ := by
  obtain ⟨r1, r2, r3, r4, _⟩ := r.ru.2 h.on
  exact ⟨(r.n0 rfl).trans h.nj, r.hd.trans h.hd, h.cvr.cm r, h.cbr.cm r, h.lst.map fun _ _ _ _ x => x.cm r, Nat.le_trans h.low r.size, r1, r2.trans h.ub, r4.trans h.un, r3.trans h.ua, by rw [(r.ru.1.2.1 rfl).2]; exact h.ust, (r.ru.1.2.1 rfl).1.trans h.sb⟩
theorem StF.up {ls : List (List (Int × Int))} {B0 n cv cb b j : Nat} {v : Value} (h : StF B0 ls n cv cb b v j s w) (r : Up s w s₁ w₁) (hh : s₁.tg.hd = s.tg.hd) (hu : s₁.u = s.u) : StF B0 ls n cv cb b v j s₁ w₁ :=
  ⟨r.n.trans h.nj, hh.trans h.hd, h.cvr.up r, h.cbr.up r, h.lst.map fun _ _ _ _ x => x.up r, Nat.le_trans h.low r.size, by rw [hu]; exact h.on, by rw [hu]; exact h.ub, by rw [hu]; exact h.un, by rw [hu]; exact h.ua, by rw [hu]; exact h.ust, by rw [hu]; exact h.sb⟩
end
end Go.Proofs.Ytiaebogolpcllaa.Crw
namespace Go.Proofs.Ytiaebogolpcllaa.Crw
open Go Go.Conc Go.RowKit Go.Conc.Lib Go.ConcR.Gen
open Go.ConcN (upd upd_same upd_ne)
open Go.ConcR (stA smA KK WgAt wgBlock rd wr mk)
set_option linter.unusedVariables false
set_option maxRecDepth 100000
set_option maxHeartbeats 4000000
theorem run_results3 {P : Program} {fn : Func} {t u v : Tmp} (h : fn.results = #[.tmp t, .tmp u, .tmp v]) (tmps : Array Value) (w : World) : (results fn tmps).run P w = .ok (.tuple #[tmps.getD t undef, tmps.getD u undef, tmps.getD v undef]) w := by simp [results, h]
theorem events_results3 {P : Program} {fn : Func} {t u v : Tmp} (h : fn.results = #[.tmp t, .tmp u, .tmp v]) (tmps : Array Value) (w : World) (es : Array Event) : (results fn tmps).events P w es = es := by simp [results, h]
theorem ev_store_ptr (P : Program) (x : Option Addr) (ad : Addr) (w : World) (m : Go.Mode) (es : Array Event) : (store ad (.pointer x) m).events P w es = storedEv P w es ad (.pointer x) m := events_store P w es ad _ m rfl
theorem ev_store_slc (P : Program) (x : Option Addr) (l c : Nat) (ad : Addr) (w : World) (m : Go.Mode) (es : Array Event) : (store ad (.slice x l c) m).events P w es = storedEv P w es ad (.slice x l c) m := events_store P w es ad _ m rfl
section
variable {E : Env} {Post : Value → World → Prop} {Child : Sit (proto Try.prog tallyU E Post)} {s s' s₀ s₁ : St tallyU} {w w' w₀ w₁ : World}

theorem crowd_refused (hB : tallyU.Laws) (n looks : Int) (A : Option Addr) (len cap : Nat) (hr : refused n len looks ≠ 0) :
    CallX Try.prog tallyU E Post Child 0 4 #[.int .i64 n, .slice A len cap, .int .i64 looks] s₀ w₀ (fun v s' w' => v = .tuple #[.int .i64 0, .slice none 0 0, .int .i64 (refused n len looks)] ∧ Rl 0 s₀ w₀ s' w') := by
  refine ⟨Try.f4, _, Try.func4, by kernel_rfl, rfl, fun cal cs hret => ?_⟩
  walk_nrmf Try.f4
  repeat (first | ((with_reducible refine gd_op ?_); first | (refine rr_pure' hB rfl (by rfl) (by k_ne) (by rfl) (fun w₁ => by first | (simp [go_sem]; done) | simp [go_sem, *]) (fun w₁ K hK => ?_); go_simp; refine hK _ ?_; clear hK K w₁; try walk_nrm) | (refine rr_ctl hB rfl (fun _ => stepG_unwanted rfl rfl) ?_; try walk_nrm)) | ((with_reducible refine gd_rend ?_); (refine rr_regend hB hKr ?_; clear hKr Kr)) | ((with_reducible refine gd_seq ?_); refine rr_ctl hB rfl (fun _ => stepG_seq) ?_) | ((with_reducible refine gd_reg ?_); (refine rr_reg hB (fun Kr hKr => ?_); simp only [List.size_toArray, List.length_cons, List.length_nil, Nat.reduceAdd, Nat.zero_add, List.range, List.range.loop])) | ((with_reducible refine gd_skip ?_); refine rr_ctl hB rfl (fun _ => stepG_skip) ?_) | ((with_reducible refine gd_block ?_); refine rr_ctl hB rfl (fun _ => stepG_block) ?_) | ((with_reducible refine gd_inb ?_); refine rr_ctl hB rfl (fun _ => stepG_inBlock) ?_) | ((with_reducible refine gd_ret ?_); refine rr_ctl hB rfl (fun _ => stepG_ret') ?_) | ((with_reducible refine gd_exit ?_); refine rr_ctl hB rfl (fun _ => stepG_exit rfl) ?_) | ((with_reducible refine gd_end ?_); refine rr_ctl hB rfl (fun _ => stepG_end) ?_))
  unfold refused at hret hr
  have hF : Rl 0 s₀ w₀ s₀ w₀ := .refl hB _ _ _
  by_cases h1 : n < 1 ∨ 64 < n
  · rw [if_pos h1] at hret
    (apply rr_call hB rfl (by rfl) (by k_ne) rfl; focus ((try walk_nrm); exact (new_refused hB n h1)))
    rintro _ s w ⟨rfl, e1, e2⟩
    rw [e1, e2]
    clear e1 e2
    walk_nrm
    repeat (first | ((with_reducible refine gd_op ?_); first | (refine rr_pure' hB rfl (by rfl) (by k_ne) (by rfl) (fun w₁ => by first | (simp [go_sem]; done) | simp [go_sem, *]) (fun w₁ K hK => ?_); go_simp; refine hK _ ?_; clear hK K w₁; try walk_nrm) | (refine rr_ctl hB rfl (fun _ => stepG_unwanted rfl rfl) ?_; try walk_nrm)) | ((with_reducible refine gd_rend ?_); (refine rr_regend hB hKr ?_; clear hKr Kr)) | ((with_reducible refine gd_seq ?_); refine rr_ctl hB rfl (fun _ => stepG_seq) ?_) | ((with_reducible refine gd_reg ?_); (refine rr_reg hB (fun Kr hKr => ?_); simp only [List.size_toArray, List.length_cons, List.length_nil, Nat.reduceAdd, Nat.zero_add, List.range, List.range.loop])) | ((with_reducible refine gd_skip ?_); refine rr_ctl hB rfl (fun _ => stepG_skip) ?_) | ((with_reducible refine gd_block ?_); refine rr_ctl hB rfl (fun _ => stepG_block) ?_) | ((with_reducible refine gd_inb ?_); refine rr_ctl hB rfl (fun _ => stepG_inBlock) ?_) | ((with_reducible refine gd_ret ?_); refine rr_ctl hB rfl (fun _ => stepG_ret') ?_) | ((with_reducible refine gd_exit ?_); refine rr_ctl hB rfl (fun _ => stepG_exit rfl) ?_) | ((with_reducible refine gd_end ?_); refine rr_ctl hB rfl (fun _ => stepG_end) ?_))
    refine rr_oper rfl (by rfl) (by k_ne) (fun s₁ w₁ hR hI K hK => ?_)
    replace hF := hF.trans hB hR
    clear hR
    go_simp
    refine hK _ _ ⟨_, mv_new_at (.inl rfl) _ (listed_nil (by simp [go_sem, *])), St.take_soft _ _ _ _, ?_⟩
    clear hK K
    have hO : Own 0 (s₁.take 0 w₁.heap.size (w₁.heap.size + 1)) (w₁.alloc (.cells #[.pointer none] 33)) w₁.heap.size 33 [.pointer none] := own_new s₁ w₁ [.pointer none] 33
    have hN : w₀.heap.size ≤ w₁.heap.size := hF.size
    replace hF := hF.new hB (.cells #[.pointer none] 33)
    try walk_nrm
    generalize w₁.heap.size = N at *
    refine rr_oper rfl (by rfl) (by k_ne) (fun s₁ w₁ hR hI K hK => ?_)
    replace hF := hF.trans hB hR
    replace hO := hO.rely hR
    clear hR
    have h0 := hO.cell 0
    have z0 := hO.frozen 0
    simp only [List.getElem?_cons_zero] at h0
    go_simp
    refine hK _ _ ⟨s₁, mv_set hI (.inl rfl) hO 0 _ (fun e he => ?_), .refl _, ?_⟩
    · have hm := mem_listed he
      simp [go_sem, ev_store_ptr, storedEv, *] at hm
      exact hm
    clear hK K h0 z0 hO
    replace hF := hF.set hB (a := ⟨N, 0, none⟩) hN (.pointer none)
    try walk_nrm
    repeat (first | ((with_reducible refine gd_op ?_); first | (refine rr_pure' hB rfl (by rfl) (by k_ne) (by rfl) (fun w₁ => by first | (simp [go_sem]; done) | simp [go_sem, *]) (fun w₁ K hK => ?_); go_simp; refine hK _ ?_; clear hK K w₁; try walk_nrm) | (refine rr_ctl hB rfl (fun _ => stepG_unwanted rfl rfl) ?_; try walk_nrm)) | ((with_reducible refine gd_rend ?_); (refine rr_regend hB hKr ?_; clear hKr Kr)) | ((with_reducible refine gd_seq ?_); refine rr_ctl hB rfl (fun _ => stepG_seq) ?_) | ((with_reducible refine gd_reg ?_); (refine rr_reg hB (fun Kr hKr => ?_); simp only [List.size_toArray, List.length_cons, List.length_nil, Nat.reduceAdd, Nat.zero_add, List.range, List.range.loop])) | ((with_reducible refine gd_skip ?_); refine rr_ctl hB rfl (fun _ => stepG_skip) ?_) | ((with_reducible refine gd_block ?_); refine rr_ctl hB rfl (fun _ => stepG_block) ?_) | ((with_reducible refine gd_inb ?_); refine rr_ctl hB rfl (fun _ => stepG_inBlock) ?_) | ((with_reducible refine gd_ret ?_); refine rr_ctl hB rfl (fun _ => stepG_ret') ?_) | ((with_reducible refine gd_exit ?_); refine rr_ctl hB rfl (fun _ => stepG_exit rfl) ?_) | ((with_reducible refine gd_end ?_); refine rr_ctl hB rfl (fun _ => stepG_end) ?_))
    (refine rr_ctl hB rfl (fun _ => stepG_cond (t := true) (by first | rfl | (simp [Act.eval, *]))) ?_; simp only [if_true, if_false, Bool.false_eq_true, ↓reduceIte])
    repeat (first | ((with_reducible refine gd_op ?_); first | (refine rr_pure' hB rfl (by rfl) (by k_ne) (by rfl) (fun w₁ => by first | (simp [go_sem]; done) | simp [go_sem, *]) (fun w₁ K hK => ?_); go_simp; refine hK _ ?_; clear hK K w₁; try walk_nrm) | (refine rr_ctl hB rfl (fun _ => stepG_unwanted rfl rfl) ?_; try walk_nrm)) | ((with_reducible refine gd_rend ?_); (refine rr_regend hB hKr ?_; clear hKr Kr)) | ((with_reducible refine gd_seq ?_); refine rr_ctl hB rfl (fun _ => stepG_seq) ?_) | ((with_reducible refine gd_reg ?_); (refine rr_reg hB (fun Kr hKr => ?_); simp only [List.size_toArray, List.length_cons, List.length_nil, Nat.reduceAdd, Nat.zero_add, List.range, List.range.loop])) | ((with_reducible refine gd_skip ?_); refine rr_ctl hB rfl (fun _ => stepG_skip) ?_) | ((with_reducible refine gd_block ?_); refine rr_ctl hB rfl (fun _ => stepG_block) ?_) | ((with_reducible refine gd_inb ?_); refine rr_ctl hB rfl (fun _ => stepG_inBlock) ?_) | ((with_reducible refine gd_ret ?_); refine rr_ctl hB rfl (fun _ => stepG_ret') ?_) | ((with_reducible refine gd_exit ?_); refine rr_ctl hB rfl (fun _ => stepG_exit rfl) ?_) | ((with_reducible refine gd_end ?_); refine rr_ctl hB rfl (fun _ => stepG_end) ?_))
    (refine rr_leave hB rfl rfl Try.func4 (fun w => ⟨run_results3 rfl _ w, events_results3 rfl _ _ _⟩) ?_)
    exact hret _ _ _ ⟨rfl, hF⟩
  · rw [if_neg h1] at hret hr
    obtain ⟨m, rfl⟩ := Int.eq_ofNat_of_zero_le (show 0 ≤ n by omega)
    (apply rr_call hB rfl (by rfl) (by k_ne) rfl; focus ((try walk_nrm); exact (new_x hB (n := m) (by omega) (by omega) (A := fun s w => Rl 0 s₀ w₀ s w) (A' := fun b s w => Rl 0 s₀ w₀ s w) (Q := fun b cb s w => Rl 0 s₀ w₀ s w)
      (fun h r => h.trans hB r) (fun h r => h.trans hB r) (fun _ => .inl rfl) (fun s w h hI => ⟨_, mv_new (.inl rfl) _, St.take_soft _ _ _ _, h.new hB _⟩) (fun b s w h hI => h.new hB _) hF)))
    clear hF
    rintro _ s w ⟨b, cb, rfl, hF⟩
    walk_nrm
    repeat (first | ((with_reducible refine gd_op ?_); first | (refine rr_pure' hB rfl (by rfl) (by k_ne) (by rfl) (fun w₁ => by first | (simp [go_sem]; done) | simp [go_sem, *]) (fun w₁ K hK => ?_); go_simp; refine hK _ ?_; clear hK K w₁; try walk_nrm) | (refine rr_ctl hB rfl (fun _ => stepG_unwanted rfl rfl) ?_; try walk_nrm)) | ((with_reducible refine gd_rend ?_); (refine rr_regend hB hKr ?_; clear hKr Kr)) | ((with_reducible refine gd_seq ?_); refine rr_ctl hB rfl (fun _ => stepG_seq) ?_) | ((with_reducible refine gd_reg ?_); (refine rr_reg hB (fun Kr hKr => ?_); simp only [List.size_toArray, List.length_cons, List.length_nil, Nat.reduceAdd, Nat.zero_add, List.range, List.range.loop])) | ((with_reducible refine gd_skip ?_); refine rr_ctl hB rfl (fun _ => stepG_skip) ?_) | ((with_reducible refine gd_block ?_); refine rr_ctl hB rfl (fun _ => stepG_block) ?_) | ((with_reducible refine gd_inb ?_); refine rr_ctl hB rfl (fun _ => stepG_inBlock) ?_) | ((with_reducible refine gd_ret ?_); refine rr_ctl hB rfl (fun _ => stepG_ret') ?_) | ((with_reducible refine gd_exit ?_); refine rr_ctl hB rfl (fun _ => stepG_exit rfl) ?_) | ((with_reducible refine gd_end ?_); refine rr_ctl hB rfl (fun _ => stepG_end) ?_))
    refine rr_oper rfl (by rfl) (by k_ne) (fun s₁ w₁ hR hI K hK => ?_)
    replace hF := hF.trans hB hR
    clear hR
    go_simp
    refine hK _ _ ⟨_, mv_new_at (.inl rfl) _ (listed_nil (by simp [go_sem, *])), St.take_soft _ _ _ _, ?_⟩
    clear hK K
    have hO : Own 0 (s₁.take 0 w₁.heap.size (w₁.heap.size + 1)) (w₁.alloc (.cells #[.pointer none] 33)) w₁.heap.size 33 [.pointer none] := own_new s₁ w₁ [.pointer none] 33
    have hN : w₀.heap.size ≤ w₁.heap.size := hF.size
    replace hF := hF.new hB (.cells #[.pointer none] 33)
    try walk_nrm
    generalize w₁.heap.size = N at *
    refine rr_oper rfl (by rfl) (by k_ne) (fun s₁ w₁ hR hI K hK => ?_)
    replace hF := hF.trans hB hR
    replace hO := hO.rely hR
    clear hR
    have h0 := hO.cell 0
    have z0 := hO.frozen 0
    simp only [List.getElem?_cons_zero] at h0
    go_simp
    refine hK _ _ ⟨s₁, mv_set hI (.inl rfl) hO 0 _ (fun e he => ?_), .refl _, ?_⟩
    · have hm := mem_listed he
      simp [go_sem, ev_store_ptr, storedEv, *] at hm
      exact hm
    clear hK K h0 z0 hO
    replace hF := hF.set hB (a := ⟨N, 0, none⟩) hN (.pointer (some ⟨cb, 0, none⟩))
    try walk_nrm
    repeat (first | ((with_reducible refine gd_op ?_); first | (refine rr_pure' hB rfl (by rfl) (by k_ne) (by rfl) (fun w₁ => by first | (simp [go_sem]; done) | simp [go_sem, *]) (fun w₁ K hK => ?_); go_simp; refine hK _ ?_; clear hK K w₁; try walk_nrm) | (refine rr_ctl hB rfl (fun _ => stepG_unwanted rfl rfl) ?_; try walk_nrm)) | ((with_reducible refine gd_rend ?_); (refine rr_regend hB hKr ?_; clear hKr Kr)) | ((with_reducible refine gd_seq ?_); refine rr_ctl hB rfl (fun _ => stepG_seq) ?_) | ((with_reducible refine gd_reg ?_); (refine rr_reg hB (fun Kr hKr => ?_); simp only [List.size_toArray, List.length_cons, List.length_nil, Nat.reduceAdd, Nat.zero_add, List.range, List.range.loop])) | ((with_reducible refine gd_skip ?_); refine rr_ctl hB rfl (fun _ => stepG_skip) ?_) | ((with_reducible refine gd_block ?_); refine rr_ctl hB rfl (fun _ => stepG_block) ?_) | ((with_reducible refine gd_inb ?_); refine rr_ctl hB rfl (fun _ => stepG_inBlock) ?_) | ((with_reducible refine gd_ret ?_); refine rr_ctl hB rfl (fun _ => stepG_ret') ?_) | ((with_reducible refine gd_exit ?_); refine rr_ctl hB rfl (fun _ => stepG_exit rfl) ?_) | ((with_reducible refine gd_end ?_); refine rr_ctl hB rfl (fun _ => stepG_end) ?_))
    (refine rr_ctl hB rfl (fun _ => stepG_cond (t := false) (by first | rfl | (simp [Act.eval, *]))) ?_; simp only [if_true, if_false, Bool.false_eq_true, ↓reduceIte])
    by_cases h2 : 64 < len
    · rw [if_pos h2] at hret
      have h2' : (64 : Int) < (len : Int) := by omega
      repeat (first | ((with_reducible refine gd_op ?_); first | (refine rr_pure' hB rfl (by rfl) (by k_ne) (by rfl) (fun w₁ => by first | (simp [go_sem]; done) | simp [go_sem, *]) (fun w₁ K hK => ?_); go_simp; refine hK _ ?_; clear hK K w₁; try walk_nrm) | (refine rr_ctl hB rfl (fun _ => stepG_unwanted rfl rfl) ?_; try walk_nrm)) | ((with_reducible refine gd_rend ?_); (refine rr_regend hB hKr ?_; clear hKr Kr)) | ((with_reducible refine gd_seq ?_); refine rr_ctl hB rfl (fun _ => stepG_seq) ?_) | ((with_reducible refine gd_reg ?_); (refine rr_reg hB (fun Kr hKr => ?_); simp only [List.size_toArray, List.length_cons, List.length_nil, Nat.reduceAdd, Nat.zero_add, List.range, List.range.loop])) | ((with_reducible refine gd_skip ?_); refine rr_ctl hB rfl (fun _ => stepG_skip) ?_) | ((with_reducible refine gd_block ?_); refine rr_ctl hB rfl (fun _ => stepG_block) ?_) | ((with_reducible refine gd_inb ?_); refine rr_ctl hB rfl (fun _ => stepG_inBlock) ?_) | ((with_reducible refine gd_ret ?_); refine rr_ctl hB rfl (fun _ => stepG_ret') ?_) | ((with_reducible refine gd_exit ?_); refine rr_ctl hB rfl (fun _ => stepG_exit rfl) ?_) | ((with_reducible refine gd_end ?_); refine rr_ctl hB rfl (fun _ => stepG_end) ?_))
      (refine rr_ctl hB rfl (fun _ => stepG_cond (t := true) (by first | rfl | (simp [Act.eval, *]))) ?_; simp only [if_true, if_false, Bool.false_eq_true, ↓reduceIte])
      repeat (first | ((with_reducible refine gd_op ?_); first | (refine rr_pure' hB rfl (by rfl) (by k_ne) (by rfl) (fun w₁ => by first | (simp [go_sem]; done) | simp [go_sem, *]) (fun w₁ K hK => ?_); go_simp; refine hK _ ?_; clear hK K w₁; try walk_nrm) | (refine rr_ctl hB rfl (fun _ => stepG_unwanted rfl rfl) ?_; try walk_nrm)) | ((with_reducible refine gd_rend ?_); (refine rr_regend hB hKr ?_; clear hKr Kr)) | ((with_reducible refine gd_seq ?_); refine rr_ctl hB rfl (fun _ => stepG_seq) ?_) | ((with_reducible refine gd_reg ?_); (refine rr_reg hB (fun Kr hKr => ?_); simp only [List.size_toArray, List.length_cons, List.length_nil, Nat.reduceAdd, Nat.zero_add, List.range, List.range.loop])) | ((with_reducible refine gd_skip ?_); refine rr_ctl hB rfl (fun _ => stepG_skip) ?_) | ((with_reducible refine gd_block ?_); refine rr_ctl hB rfl (fun _ => stepG_block) ?_) | ((with_reducible refine gd_inb ?_); refine rr_ctl hB rfl (fun _ => stepG_inBlock) ?_) | ((with_reducible refine gd_ret ?_); refine rr_ctl hB rfl (fun _ => stepG_ret') ?_) | ((with_reducible refine gd_exit ?_); refine rr_ctl hB rfl (fun _ => stepG_exit rfl) ?_) | ((with_reducible refine gd_end ?_); refine rr_ctl hB rfl (fun _ => stepG_end) ?_))
      (refine rr_leave hB rfl rfl Try.func4 (fun w => ⟨run_results3 rfl _ w, events_results3 rfl _ _ _⟩) ?_)
      exact hret _ _ _ ⟨rfl, hF⟩
    · rw [if_neg h2] at hret hr
      have h2' : ¬ (64 : Int) < (len : Int) := by omega
      by_cases h3 : looks < 0
      · rw [if_pos (.inl h3)] at hret
        repeat (first | ((with_reducible refine gd_op ?_); first | (refine rr_pure' hB rfl (by rfl) (by k_ne) (by rfl) (fun w₁ => by first | (simp [go_sem]; done) | simp [go_sem, *]) (fun w₁ K hK => ?_); go_simp; refine hK _ ?_; clear hK K w₁; try walk_nrm) | (refine rr_ctl hB rfl (fun _ => stepG_unwanted rfl rfl) ?_; try walk_nrm)) | ((with_reducible refine gd_rend ?_); (refine rr_regend hB hKr ?_; clear hKr Kr)) | ((with_reducible refine gd_seq ?_); refine rr_ctl hB rfl (fun _ => stepG_seq) ?_) | ((with_reducible refine gd_reg ?_); (refine rr_reg hB (fun Kr hKr => ?_); simp only [List.size_toArray, List.length_cons, List.length_nil, Nat.reduceAdd, Nat.zero_add, List.range, List.range.loop])) | ((with_reducible refine gd_skip ?_); refine rr_ctl hB rfl (fun _ => stepG_skip) ?_) | ((with_reducible refine gd_block ?_); refine rr_ctl hB rfl (fun _ => stepG_block) ?_) | ((with_reducible refine gd_inb ?_); refine rr_ctl hB rfl (fun _ => stepG_inBlock) ?_) | ((with_reducible refine gd_ret ?_); refine rr_ctl hB rfl (fun _ => stepG_ret') ?_) | ((with_reducible refine gd_exit ?_); refine rr_ctl hB rfl (fun _ => stepG_exit rfl) ?_) | ((with_reducible refine gd_end ?_); refine rr_ctl hB rfl (fun _ => stepG_end) ?_))
        (refine rr_ctl hB rfl (fun _ => stepG_cond (t := false) (by first | rfl | (simp [Act.eval, *]))) ?_; simp only [if_true, if_false, Bool.false_eq_true, ↓reduceIte])
        repeat (first | ((with_reducible refine gd_op ?_); first | (refine rr_pure' hB rfl (by rfl) (by k_ne) (by rfl) (fun w₁ => by first | (simp [go_sem]; done) | simp [go_sem, *]) (fun w₁ K hK => ?_); go_simp; refine hK _ ?_; clear hK K w₁; try walk_nrm) | (refine rr_ctl hB rfl (fun _ => stepG_unwanted rfl rfl) ?_; try walk_nrm)) | ((with_reducible refine gd_rend ?_); (refine rr_regend hB hKr ?_; clear hKr Kr)) | ((with_reducible refine gd_seq ?_); refine rr_ctl hB rfl (fun _ => stepG_seq) ?_) | ((with_reducible refine gd_reg ?_); (refine rr_reg hB (fun Kr hKr => ?_); simp only [List.size_toArray, List.length_cons, List.length_nil, Nat.reduceAdd, Nat.zero_add, List.range, List.range.loop])) | ((with_reducible refine gd_skip ?_); refine rr_ctl hB rfl (fun _ => stepG_skip) ?_) | ((with_reducible refine gd_block ?_); refine rr_ctl hB rfl (fun _ => stepG_block) ?_) | ((with_reducible refine gd_inb ?_); refine rr_ctl hB rfl (fun _ => stepG_inBlock) ?_) | ((with_reducible refine gd_ret ?_); refine rr_ctl hB rfl (fun _ => stepG_ret') ?_) | ((with_reducible refine gd_exit ?_); refine rr_ctl hB rfl (fun _ => stepG_exit rfl) ?_) | ((with_reducible refine gd_end ?_); refine rr_ctl hB rfl (fun _ => stepG_end) ?_))
        (refine rr_ctl hB rfl (fun _ => stepG_cond (t := true) (by first | rfl | (simp [Act.eval, *]))) ?_; simp only [if_true, if_false, Bool.false_eq_true, ↓reduceIte])
        repeat (first | ((with_reducible refine gd_op ?_); first | (refine rr_pure' hB rfl (by rfl) (by k_ne) (by rfl) (fun w₁ => by first | (simp [go_sem]; done) | simp [go_sem, *]) (fun w₁ K hK => ?_); go_simp; refine hK _ ?_; clear hK K w₁; try walk_nrm) | (refine rr_ctl hB rfl (fun _ => stepG_unwanted rfl rfl) ?_; try walk_nrm)) | ((with_reducible refine gd_rend ?_); (refine rr_regend hB hKr ?_; clear hKr Kr)) | ((with_reducible refine gd_seq ?_); refine rr_ctl hB rfl (fun _ => stepG_seq) ?_) | ((with_reducible refine gd_reg ?_); (refine rr_reg hB (fun Kr hKr => ?_); simp only [List.size_toArray, List.length_cons, List.length_nil, Nat.reduceAdd, Nat.zero_add, List.range, List.range.loop])) | ((with_reducible refine gd_skip ?_); refine rr_ctl hB rfl (fun _ => stepG_skip) ?_) | ((with_reducible refine gd_block ?_); refine rr_ctl hB rfl (fun _ => stepG_block) ?_) | ((with_reducible refine gd_inb ?_); refine rr_ctl hB rfl (fun _ => stepG_inBlock) ?_) | ((with_reducible refine gd_ret ?_); refine rr_ctl hB rfl (fun _ => stepG_ret') ?_) | ((with_reducible refine gd_exit ?_); refine rr_ctl hB rfl (fun _ => stepG_exit rfl) ?_) | ((with_reducible refine gd_end ?_); refine rr_ctl hB rfl (fun _ => stepG_end) ?_))
        (refine rr_leave hB rfl rfl Try.func4 (fun w => ⟨run_results3 rfl _ w, events_results3 rfl _ _ _⟩) ?_)
        exact hret _ _ _ ⟨rfl, hF⟩
      · by_cases h4 : 65536 < looks
        · rw [if_pos (.inr h4)] at hret
          repeat (first | ((with_reducible refine gd_op ?_); first | (refine rr_pure' hB rfl (by rfl) (by k_ne) (by rfl) (fun w₁ => by first | (simp [go_sem]; done) | simp [go_sem, *]) (fun w₁ K hK => ?_); go_simp; refine hK _ ?_; clear hK K w₁; try walk_nrm) | (refine rr_ctl hB rfl (fun _ => stepG_unwanted rfl rfl) ?_; try walk_nrm)) | ((with_reducible refine gd_rend ?_); (refine rr_regend hB hKr ?_; clear hKr Kr)) | ((with_reducible refine gd_seq ?_); refine rr_ctl hB rfl (fun _ => stepG_seq) ?_) | ((with_reducible refine gd_reg ?_); (refine rr_reg hB (fun Kr hKr => ?_); simp only [List.size_toArray, List.length_cons, List.length_nil, Nat.reduceAdd, Nat.zero_add, List.range, List.range.loop])) | ((with_reducible refine gd_skip ?_); refine rr_ctl hB rfl (fun _ => stepG_skip) ?_) | ((with_reducible refine gd_block ?_); refine rr_ctl hB rfl (fun _ => stepG_block) ?_) | ((with_reducible refine gd_inb ?_); refine rr_ctl hB rfl (fun _ => stepG_inBlock) ?_) | ((with_reducible refine gd_ret ?_); refine rr_ctl hB rfl (fun _ => stepG_ret') ?_) | ((with_reducible refine gd_exit ?_); refine rr_ctl hB rfl (fun _ => stepG_exit rfl) ?_) | ((with_reducible refine gd_end ?_); refine rr_ctl hB rfl (fun _ => stepG_end) ?_))
          (refine rr_ctl hB rfl (fun _ => stepG_cond (t := false) (by first | rfl | (simp [Act.eval, *]))) ?_; simp only [if_true, if_false, Bool.false_eq_true, ↓reduceIte])
          repeat (first | ((with_reducible refine gd_op ?_); first | (refine rr_pure' hB rfl (by rfl) (by k_ne) (by rfl) (fun w₁ => by first | (simp [go_sem]; done) | simp [go_sem, *]) (fun w₁ K hK => ?_); go_simp; refine hK _ ?_; clear hK K w₁; try walk_nrm) | (refine rr_ctl hB rfl (fun _ => stepG_unwanted rfl rfl) ?_; try walk_nrm)) | ((with_reducible refine gd_rend ?_); (refine rr_regend hB hKr ?_; clear hKr Kr)) | ((with_reducible refine gd_seq ?_); refine rr_ctl hB rfl (fun _ => stepG_seq) ?_) | ((with_reducible refine gd_reg ?_); (refine rr_reg hB (fun Kr hKr => ?_); simp only [List.size_toArray, List.length_cons, List.length_nil, Nat.reduceAdd, Nat.zero_add, List.range, List.range.loop])) | ((with_reducible refine gd_skip ?_); refine rr_ctl hB rfl (fun _ => stepG_skip) ?_) | ((with_reducible refine gd_block ?_); refine rr_ctl hB rfl (fun _ => stepG_block) ?_) | ((with_reducible refine gd_inb ?_); refine rr_ctl hB rfl (fun _ => stepG_inBlock) ?_) | ((with_reducible refine gd_ret ?_); refine rr_ctl hB rfl (fun _ => stepG_ret') ?_) | ((with_reducible refine gd_exit ?_); refine rr_ctl hB rfl (fun _ => stepG_exit rfl) ?_) | ((with_reducible refine gd_end ?_); refine rr_ctl hB rfl (fun _ => stepG_end) ?_))
          (refine rr_ctl hB rfl (fun _ => stepG_cond (t := true) (by first | rfl | (simp [Act.eval, *]))) ?_; simp only [if_true, if_false, Bool.false_eq_true, ↓reduceIte])
          repeat (first | ((with_reducible refine gd_op ?_); first | (refine rr_pure' hB rfl (by rfl) (by k_ne) (by rfl) (fun w₁ => by first | (simp [go_sem]; done) | simp [go_sem, *]) (fun w₁ K hK => ?_); go_simp; refine hK _ ?_; clear hK K w₁; try walk_nrm) | (refine rr_ctl hB rfl (fun _ => stepG_unwanted rfl rfl) ?_; try walk_nrm)) | ((with_reducible refine gd_rend ?_); (refine rr_regend hB hKr ?_; clear hKr Kr)) | ((with_reducible refine gd_seq ?_); refine rr_ctl hB rfl (fun _ => stepG_seq) ?_) | ((with_reducible refine gd_reg ?_); (refine rr_reg hB (fun Kr hKr => ?_); simp only [List.size_toArray, List.length_cons, List.length_nil, Nat.reduceAdd, Nat.zero_add, List.range, List.range.loop])) | ((with_reducible refine gd_skip ?_); refine rr_ctl hB rfl (fun _ => stepG_skip) ?_) | ((with_reducible refine gd_block ?_); refine rr_ctl hB rfl (fun _ => stepG_block) ?_) | ((with_reducible refine gd_inb ?_); refine rr_ctl hB rfl (fun _ => stepG_inBlock) ?_) | ((with_reducible refine gd_ret ?_); refine rr_ctl hB rfl (fun _ => stepG_ret') ?_) | ((with_reducible refine gd_exit ?_); refine rr_ctl hB rfl (fun _ => stepG_exit rfl) ?_) | ((with_reducible refine gd_end ?_); refine rr_ctl hB rfl (fun _ => stepG_end) ?_))
          (refine rr_leave hB rfl rfl Try.func4 (fun w => ⟨run_results3 rfl _ w, events_results3 rfl _ _ _⟩) ?_)
          exact hret _ _ _ ⟨rfl, hF⟩
        · exact absurd (if_neg (by omega)) hr
end
end Go.Proofs.Ytiaebogolpcllaa.Crw
