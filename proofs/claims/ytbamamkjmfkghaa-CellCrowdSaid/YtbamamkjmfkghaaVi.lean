/- A crowd pushes: the ghost of the nodes: what lies there, what each has pushed; its laws.
No condition. -/
import Derived.Test.YtbamamkjmfkghaaVh
import Derived.Test.YtbamamkjmfkghaaVf
set_option linter.unusedSimpArgs false
set_option linter.unusedVariables false
namespace Go.Proofs.Ytbamamkjmfkghaa.Crw
open Go Go.Conc
open Go.ConcR (rd wr)
set_option linter.unusedVariables false

def blockMode (m : Loc → Mode) (N : Nat) (x : Mode) : Loc → Mode
  | .cell a => if a.block = N then x else m (.cell a)
  | l => m l
theorem blockMode_at {m : Loc → Mode} {N : Nat} {x : Mode} {a : Addr} (h : a.block = N) : blockMode m N x (.cell a) = x := by simp [blockMode, h]
theorem blockMode_ne {m : Loc → Mode} {N : Nat} {x : Mode} {a : Addr} (h : a.block ≠ N) : blockMode m N x (.cell a) = m (.cell a) := by simp [blockMode, h]
theorem blockMode_low {m : Loc → Mode} {N : Nat} {x : Mode} {l : Loc} (h : locLow N l) : blockMode m N x l = m l := by
  cases l with
  | cell a => exact blockMode_ne (Nat.ne_of_lt h)
  | _ => rfl

/-- The head's pointer. -/
def headP : List (Nat × Int) → Option Addr
  | [] => none
  | (g, _) :: _ => some ⟨g, 0, none⟩
/-- The nodes, as they lie, published. -/
def NodesAt (m : Loc → Mode) (w : World) : List (Nat × Int) → Prop
  | [] => True
  | (g, v) :: ns => w.heap[g]? = some (.cells (nodeV v ns.length (headP ns)).toArray TN (0, 0)) ∧ (∀ a, a.block = g → m (.cell a) = .pub) ∧ NodesAt m w ns
theorem NodesAt.map {m m' : Loc → Mode} {w w' : World} {ns : List (Nat × Int)} (h : NodesAt m w ns) (f : ∀ g vs, g ∈ ns.map Prod.fst → w.heap[g]? = some (.cells vs TN (0, 0)) → (∀ a, a.block = g → m (.cell a) = .pub) → w'.heap[g]? = some (.cells vs TN (0, 0)) ∧ ∀ a, a.block = g → m' (.cell a) = .pub) : NodesAt m' w' ns := by
  induction ns with
  | nil => trivial
  | cons x ns ih =>
    obtain ⟨g, v⟩ := x
    obtain ⟨h1, h2, h3⟩ := h
    obtain ⟨f1, f2⟩ := f g _ (by simp) h1 h2
    exact ⟨f1, f2, ih h3 fun g' vs hg => f g' vs (by simp only [List.map_cons, List.mem_cons]; exact .inr hg)⟩
theorem NodesAt.mem {m : Loc → Mode} {w : World} {ns : List (Nat × Int)} (h : NodesAt m w ns) {g : Nat} (hg : g ∈ ns.map Prod.fst) : (∃ vs, w.heap[g]? = some (.cells vs TN (0, 0))) ∧ ∀ a, a.block = g → m (.cell a) = .pub := by
  induction ns with
  | nil => simp at hg
  | cons x ns ih =>
    obtain ⟨h1, h2, h3⟩ := h
    rcases List.mem_cons.1 (show g ∈ x.1 :: ns.map Prod.fst from hg) with rfl | hg
    · exact ⟨⟨_, h1⟩, h2⟩
    · exact ih h3 hg
theorem NodesAt.node {m : Loc → Mode} {w : World} {ns : List (Nat × Int)} (h : NodesAt m w ns) : NodeP w (headP ns) := by
  cases ns with
  | nil => exact .inl rfl
  | cons x ns => exact .inr ⟨x.1, _, _, _, rfl, h.1⟩
theorem NodesAt.chain {B : Usr} {k : Nat} {s : St B} {w : World} (hk : ∀ l, s.tg.mode l = .pub → s.tg.kn k l) : ∀ {ns : List (Nat × Int)}, NodesAt s.tg.mode w ns → ChainR k s w (headP ns) (ns.map Prod.snd)
  | [], _ => rfl
  | (g, v) :: ns, h => ⟨g, headP ns, rfl, ⟨by have := h.1; simpa [nodeV] using this, fun a ha => .inr (.inr ⟨h.2.1 a ha, hk _ (h.2.1 a ha)⟩)⟩, NodesAt.chain hk h.2.2⟩
/-- Equal heads, one a part of the other: equal. -/
theorem head_inj {ns ms : List (Nat × Int)} (h : ns <:+ ms) (hn : (ms.map Prod.fst).Nodup) (e : headP ms = headP ns) : ns = ms := by
  obtain ⟨pre, rfl⟩ := h
  cases pre with
  | nil => rfl
  | cons x pre =>
    exfalso
    cases ns with
    | nil => simp [headP] at e
    | cons y ns =>
      simp only [List.cons_append, headP, Option.some.injEq, Addr.mk.injEq, and_true] at e
      simp only [List.cons_append, List.map_cons, List.map_append, List.nodup_cons, List.mem_append, List.mem_cons, not_or] at hn
      exact hn.1.2.1 e

structure CU where
  on : Bool
  h : Nat
  ns : List (Nat × Int)
  don : List (List Int)
  all : List (List Int)
  st : Nat
/-- Oldest first. -/
def CU.hist (u : CU) : List Int := (u.ns.map Prod.snd).reverse
def CU.tot (u : CU) : Nat := u.all.flatten.length

structure CU.Ok (u : CU) : Prop where
  nod : (u.ns.map Prod.fst).Nodup
  len : u.don.length = u.all.length
  pre : ∀ (i : Nat) d a, u.don[i]? = some d → u.all[i]? = some a → d <+: a
  sub : ∀ d ∈ u.don, d.Sublist u.hist
  perm : u.hist.Perm u.don.flatten
  rest : ∀ i d, u.st ≤ i → u.don[i]? = some d → d = []

theorem flatten_le {a b : List (List Int)} (hl : a.length = b.length) (h : ∀ (i : Nat) x y, a[i]? = some x → b[i]? = some y → x.length ≤ y.length) : a.flatten.length ≤ b.flatten.length := by
  induction a generalizing b with
  | nil => simp
  | cons x a ih =>
    cases b with
    | nil => simp at hl
    | cons y b =>
      have h1 := h 0 x y rfl rfl
      have h2 := ih (b := b) (by simpa using hl) fun i x y hx hy => h (i + 1) x y (by simpa using hx) (by simpa using hy)
      simp only [List.flatten_cons, List.length_append]
      omega
theorem CU.Ok.le {u : CU} (h : u.Ok) : u.ns.length ≤ u.tot := by
  have e : u.ns.length = u.don.flatten.length := by
    rw [← h.perm.length_eq]; simp [CU.hist]
  rw [e]
  exact flatten_le h.len fun i x y hx hy => (h.pre i x y hx hy).length_le
theorem flatten_set {l : List (List Int)} {i : Nat} {d : List Int} (h : l[i]? = some d) (v : Int) : ((l.set i (d ++ [v])).flatten).Perm (l.flatten ++ [v]) := by
  induction l generalizing i with
  | nil => simp at h
  | cons x l ih =>
    cases i with
    | zero =>
      simp at h; subst h
      simp only [List.set_cons_zero, List.flatten_cons, List.append_assoc]
      exact List.Perm.append_left _ (List.perm_append_comm)
    | succ i =>
      simp only [List.set_cons_succ, List.flatten_cons, List.append_assoc]
      exact List.Perm.append_left _ (ih (by simpa using h))

theorem CU.Ok.push {u : CU} (h : u.Ok) {i g : Nat} {v : Int} {d a : List Int} (hi : i < u.st) (hd : u.don[i]? = some d) (ha : u.all[i]? = some a) (hp : d ++ [v] <+: a) (hg : g ∉ u.ns.map Prod.fst) :
    CU.Ok { u with ns := (g, v) :: u.ns, don := u.don.set i (d ++ [v]) } := by
  have hil := (List.getElem?_eq_some_iff.1 hd).1
  refine ⟨?_, by simpa using h.len, fun j x y hx hy => ?_, fun x hx => ?_, ?_, fun j x hj hx => ?_⟩
  · exact List.nodup_cons.2 ⟨hg, h.nod⟩
  · have hx' : (u.don.set i (d ++ [v]))[j]? = some x := hx
    by_cases e : i = j
    · subst e
      rw [List.getElem?_set_self hil] at hx'
      cases hx'
      rw [ha] at hy; cases hy
      exact hp
    · rw [List.getElem?_set_ne e] at hx'
      exact h.pre j x y hx' hy
  · show x.Sublist (((g, v) :: u.ns).map Prod.snd).reverse
    rw [List.map_cons, List.reverse_cons]
    have hx' : x ∈ u.don.set i (d ++ [v]) := hx
    rcases List.mem_or_eq_of_mem_set hx' with hx' | rfl
    · exact (h.sub x hx').trans (List.sublist_append_left _ _)
    · exact (h.sub d (List.mem_of_getElem? hd)).append (List.Sublist.refl _)
  · show ((((g, v) :: u.ns).map Prod.snd).reverse).Perm (u.don.set i (d ++ [v])).flatten
    rw [List.map_cons, List.reverse_cons]
    exact ((h.perm.append_right [v]).trans (flatten_set hd v).symm)
  · have hx' : (u.don.set i (d ++ [v]))[j]? = some x := hx
    have hj' : u.st ≤ j := hj
    rw [List.getElem?_set_ne (by omega)] at hx'
    exact h.rest j x hj' hx'

def cellU : Usr where
  U := CU
  J u m w := u.on = true → w.heap[u.h]? = some (.cells #[.pointer (headP u.ns)] 57 (0, 0)) ∧ (∀ a, a.block = u.h → m (.cell a) = .at) ∧ NodesAt m w u.ns ∧ u.Ok
  Ru k u u' := ((u.on = false → u' = u) ∧ (k = 0 → u'.st = u.st) ∧ u.st ≤ u'.st) ∧ (u.on = true → u'.on = true ∧ u'.h = u.h ∧ u'.all = u.all ∧ u.ns <:+ u'.ns ∧ (1 ≤ k → u'.don[k - 1]? = u.don[k - 1]?) ∧ (u.don = u.all → u'.don = u.don ∧ u'.ns = u.ns) ∧ (u.ns.length ≤ u.tot → u'.ns.length ≤ u'.tot))
  Su k u w u' w' := False
  Pb k u m w u' m' w' := u.on = true ∧ u.Ok ∧ 1 ≤ k ∧ k ≤ u.st ∧ ∃ g v d a, u.don[k - 1]? = some d ∧ u.all[k - 1]? = some a ∧ (d ++ [v]) <+: a ∧ u' = { u with ns := (g, v) :: u.ns, don := u.don.set (k - 1) (d ++ [v]) } ∧ g ∉ u.ns.map Prod.fst ∧
    w.heap[g]? = some (.cells (nodeV v u.ns.length (headP u.ns)).toArray TN (0, 0)) ∧ (∀ a, a.block = g → m (.cell a) = .own k) ∧ m' = blockMode m g .pub ∧ w' = w.setCell ⟨u.h, 0, none⟩ (.pointer (some ⟨g, 0, none⟩))
  Sp n u u' := u.on = true ∧ u.st ≤ n ∧ u' = { u with st := n }
  Fin u k m w := 1 ≤ k → k ≤ u.all.length → u.don[k - 1]? = u.all[k - 1]?

theorem cellLaws : cellU.Laws where
  refl k u := ⟨⟨fun _ => rfl, fun _ => rfl, Nat.le_refl _⟩, fun h => ⟨h, rfl, rfl, List.suffix_refl _, fun _ => rfl, fun _ => ⟨rfl, rfl⟩, id⟩⟩
  trans := by
    rintro k a b c ⟨⟨h0, hs, ht⟩, h⟩ ⟨⟨h0', hs', ht'⟩, h'⟩
    refine ⟨⟨fun e => by have := h0 e; subst this; exact h0' e, fun e => (hs' e).trans (hs e), Nat.le_trans ht ht'⟩, fun e => ?_⟩
    obtain ⟨a1, a2, a3, a4, a5, a6, a7⟩ := h e
    obtain ⟨b1, b2, b3, b4, b5, b6, b7⟩ := h' a1
    refine ⟨b1, b2.trans a2, b3.trans a3, a4.trans b4, fun hk => (b5 hk).trans (a5 hk), fun hl => ?_, fun hl => b7 (a7 hl)⟩
    obtain ⟨c1, c2⟩ := a6 hl
    obtain ⟨d1, d2⟩ := b6 (by rw [c1, a3]; exact hl)
    exact ⟨d1.trans c1, d2.trans c2⟩
  stay := by
    intro u m m' w w' h hk hm ho
    obtain ⟨h1, h2, h3, h4⟩ := h ho
    have same : ∀ b c t, w.heap[b]? = some (.cells c t (0, 0)) → (∀ off, at' m b off = .at ∨ at' m b off = .pub) → w'.heap[b]? = some (.cells c t (0, 0)) := fun b c t hb hx => by
      obtain ⟨c', e1, e2, e3⟩ := hk b c t _ hb
      have : c' = c := Array.ext_getElem? fun off => e3 off (hx off)
      exact this ▸ e1
    refine ⟨same _ _ _ h1 fun off => .inl (h2 _ rfl), fun a ha => (hm _ (.inl (h2 a ha))).trans (h2 a ha), h3.map fun g vs _ e1 e2 => ⟨same _ _ _ e1 fun off => .inr (e2 _ rfl), fun a ha => (hm _ (.inr (e2 a ha))).trans (e2 a ha)⟩, h4⟩
  su := fun _ h => h.elim
  suRu := fun h => h.elim
  suFin := fun h => h.elim
  pb := by
    rintro k u m w u' m' w' h ⟨ho, hok, k1, ks, g, v, d, a, h1, h2, h3, rfl, hg, h4, h5, rfl, rfl⟩ _
    obtain ⟨g1, g2, g3, g4⟩ := h ho
    have hne : g ≠ u.h := fun e => by
      have := (h5 ⟨g, 0, none⟩ rfl).symm.trans (g2 ⟨g, 0, none⟩ e)
      cases this
    refine ⟨?_, fun a ha => (blockMode_ne (by rw [ha]; exact hne.symm)).trans (g2 a ha), ⟨(setCell_heap _ _ _ _ hne).trans h4, fun a ha => blockMode_at ha, g3.map fun g' vs hg' e1 e2 => ⟨(setCell_heap _ _ _ _ fun e => ?_).trans e1, fun a ha => (blockMode_ne fun e => hg (by rw [← e, ha]; exact hg')).trans (e2 a ha)⟩⟩, hok.push (by omega) h1 h2 h3 hg⟩
    · show (w.setCell ⟨u.h, 0, none⟩ _).heap[u.h]? = _
      rw [setCell_cells w u.h 0 _ g1]
      rfl
    · have := (e2 ⟨g', 0, none⟩ rfl).symm.trans (g2 ⟨g', 0, none⟩ e)
      cases this
  pbRu := by
    rintro i k u m w u' m' w' ⟨ho, hok, i1, is, g, v, d, a, h1, h2, h3, rfl, hg, h4, h5, rfl, rfl⟩ hne
    refine ⟨⟨fun e => absurd (ho.symm.trans e) (by simp), fun _ => rfl, Nat.le_refl _⟩, fun _ => ⟨ho, rfl, rfl, List.suffix_cons _ _, fun k1 => ?_, fun hl => ?_, fun _ => (hok.push (by omega) h1 h2 h3 hg).le⟩⟩
    · show (u.don.set (i - 1) (d ++ [v]))[k - 1]? = _
      rw [List.getElem?_set_ne (by omega)]
    · rw [hl, h2] at h1
      cases h1
      have := h3.length_le
      simp at this
      omega
  pbFin := by
    rintro i k u m w u' m' w' m₁ w₁ ⟨ho, hok, i1, is, g, v, d, a, h1, h2, h3, rfl, hg, h4, h5, rfl, rfl⟩ hne hf k1 hk
    show (u.don.set (i - 1) (d ++ [v]))[k - 1]? = _
    rw [List.getElem?_set_ne (by omega)]
    exact hf k1 hk
  sp := by
    rintro n u u' m w h ⟨ho, hn, rfl⟩ _
    obtain ⟨h1, h2, h3, h4⟩ := h ho
    exact ⟨h1, h2, h3, ⟨h4.nod, h4.len, h4.pre, h4.sub, h4.perm, fun i d hi => h4.rest i d (Nat.le_trans hn hi)⟩⟩
  spRu := by
    rintro n k u u' ⟨ho, hn, rfl⟩ k1 hk
    exact ⟨⟨fun e => absurd (ho.symm.trans e) (by simp), fun e => by omega, hn⟩, fun _ => ⟨ho, rfl, rfl, List.suffix_refl _, fun _ => rfl, fun _ => ⟨rfl, rfl⟩, id⟩⟩
  spFin := by
    rintro n k u u' m w ⟨ho, hn, rfl⟩ k1 hk hf
    exact hf
  finStay := fun hf _ _ => hf
end Go.Proofs.Ytbamamkjmfkghaa.Crw
namespace Go.Proofs.Ytbamamkjmfkghaa.Crw
open Go Go.Conc Go.RowKit Go.Conc.Lib Go.ConcR.Gen
open Go.ConcN (upd upd_same upd_ne)
open Go.ConcR (stA smA KK WgAt wgBlock rd wr mk)
set_option linter.unusedVariables false
set_option maxRecDepth 100000
set_option maxHeartbeats 4000000

section
variable {E : Env} {Post : Value → World → Prop} {Child : Sit (proto Try.prog cellU E Post)} {k : Nat} {s s' s₁ : St cellU} {w w' w₁ : World}

/-- A slice of numbers, as it lies. -/
def Lst (k : Nat) (s : St cellU) (w : World) (v : Value) (l : List Int) : Prop :=
  ∃ A cap, v = .slice A l.length cap ∧ (l = [] ∨ ∃ g vs, A = some ⟨g, 0, none⟩ ∧ Rds k s w g 2 vs ∧ ∀ (i : Nat) x, l[i]? = some x → vs[i]? = some (.int .i64 x))
theorem Lst.map {v : Value} {l : List Int} (h : Lst k s w v l) (f : ∀ b t xs, Rds k s w b t xs → Rds k s₁ w₁ b t xs) : Lst k s₁ w₁ v l := by
  obtain ⟨A, cap, e, h | ⟨g, vs, h1, h2, h3⟩⟩ := h
  · exact ⟨A, cap, e, .inl h⟩
  · exact ⟨A, cap, e, .inr ⟨g, vs, h1, f _ _ _ h2, h3⟩⟩
theorem Lst.cell {A : Option Addr} {n cap : Nat} {l : List Int} (h : Lst k s w (.slice A n cap) l) {i : Nat} (hi : i < l.length) :
    ∃ g, A = some ⟨g, 0, none⟩ ∧ w.cell? ⟨g, i, none⟩ = some (.int .i64 l[i]) ∧ (∀ a, a.block = g → May s.tg k (.cell a)) ∧ g < w.heap.size := by
  obtain ⟨A', cap', e, h | ⟨g, vs, h1, h2, h3⟩⟩ := h
  · subst h; simp at hi
  · cases e
    exact ⟨g, h1, (h2.cell _).trans (h3 i l[i] (List.getElem?_eq_getElem hi)), h2.md, h2.lt⟩

/-- What one who pushes knows. -/
structure PuF (k Wg vv cv b N : Nat) (v : Value) (l : List Int) (i : Nat) (s : St cellU) (w : World) : Prop where
  ws : WS Wg k 0 false s
  vv : Rds k s w vv 23 [v]
  cv : Rds k s w cv 32 [.pointer (some ⟨b, 0, none⟩)]
  ls : Lst k s w v l
  hd : s.tg.hd = some ⟨b, 0, none⟩
  on : s.u.on = true
  ub : s.u.h = b
  all : s.u.all[k - 1]? = some l
  st : k ≤ s.u.st
  don : s.u.don[k - 1]? = some (l.take i)
  le : s.u.ns.length ≤ N
  tot : s.u.tot = N

section
variable {Wg vv cv b N i : Nat} {v : Value} {l : List Int}
theorem PuF.rely (k1 : 1 ≤ k) (h : PuF k Wg vv cv b N v l i s w) (r : Rl k s w s₁ w₁) : PuF k Wg vv cv b N v l i s₁ w₁ := by
  obtain ⟨r1, r2, r3, r4, r5, r6, r7⟩ := r.ru.2 h.on
  have ht : s₁.u.tot = s.u.tot := by unfold CU.tot; rw [r3]
  exact ⟨h.ws.rely k1 r, h.vv.rely r, h.cv.rely r, h.ls.map fun _ _ _ x => x.rely r, r.hd.trans h.hd, r1, r2.trans h.ub, by rw [r3]; exact h.all, Nat.le_trans h.st r.ru.1.2.2, (r5 k1).trans h.don, by rw [← h.tot, ← ht]; exact r7 (by rw [h.tot]; exact h.le), ht.trans h.tot⟩

theorem rely_suffix (h : PuF k Wg vv cv b N v l i s w) (r : Rl k s w s₁ w₁) : s.u.ns <:+ s₁.u.ns := (r.ru.2 h.on).2.2.2.1

/-- Behind a look at the head. -/
theorem Rds.learn {t : TypeId} {xs : List Value} {c : Nat} (hI : Ok E s w) (h : Rds k s w c t xs) : Rds k { s with tg := { s.tg with kn := upd s.tg.kn k (fun l => s.tg.mode l = .pub) } } w c t xs :=
  ⟨h.hp, fun a ha => (h.md a ha).of_mode (fun _ => rfl) fun e => by
    show upd s.tg.kn k _ k _
    rw [upd_same]; exact hI.K _ _ e⟩

/-- What a look gives: the nodes that were there. -/
def Saw (F : St cellU → World → Prop) (k n0 : Nat) (q : Option Addr) (vs : List Int) (s : St cellU) (w : World) : Prop :=
  F s w ∧ ∃ ns : List (Nat × Int), q = headP ns ∧ vs = ns.map Prod.snd ∧ ns <:+ s.u.ns ∧ n0 ≤ ns.length ∧ ChainR k s w q vs

theorem pu_look (k1 : 1 ≤ k) (n0 : Nat) : Look E k b (fun s w => PuF k Wg vv cv b N v l i s w ∧ n0 ≤ s.u.ns.length) (Saw (PuF k Wg vv cv b N v l i) k n0) where
  hst h r := ⟨h.1.rely k1 r, Nat.le_trans h.2 (rely_suffix h.1 r).length_le⟩
  hrd := by
    intro s w ⟨h, hn⟩ hI
    obtain ⟨g1, g2, g3, g4⟩ := hI.J h.on
    rw [h.ub] at g1 g2
    refine ⟨headP s.u.ns, s.u.ns.map Prod.snd, { s with tg := { s.tg with kn := upd s.tg.kn k (fun l => s.tg.mode l = .pub) } }, by simp [World.cell?, g1], .look (.inr h.ws.rl) h.ws.df h.hd rfl, ⟨rfl, rfl⟩,
      ⟨⟨h.ws.on, h.ws.wg, h.ws.df, h.ws.rl, h.ws.al⟩, h.vv.learn hI, h.cv.learn hI, h.ls.map fun _ _ _ x => x.learn hI, h.hd, h.on, h.ub, h.all, h.st, h.don, h.le, h.tot⟩, s.u.ns, rfl, rfl, List.suffix_refl _, hn, ?_⟩
    exact NodesAt.chain (s := { s with tg := { s.tg with kn := upd s.tg.kn k (fun l => s.tg.mode l = .pub) } }) (fun l e => by
      show upd s.tg.kn k _ k l
      rw [upd_same]; exact e) g3
  hq := by
    rintro q vs s w s₁ w₁ ⟨h, ns, e1, e2, e3, e4, e5⟩ r
    exact ⟨h.rely k1 r, ns, e1, e2, e3.trans (rely_suffix h r), e4, e5.rely r⟩
  hch := fun ⟨_, _, _, _, _, _, e⟩ => e
  hr := fun ⟨h, _⟩ => .inr h.ws.rl

/-- Behind a push. -/
theorem Rds.pub {t : TypeId} {xs : List Value} {c g : Nat} {u' : CU} {q : Value} (hI : Ok E s w) (h : Rds k s w c t xs) (hg : ∀ a, a.block = g → s.tg.mode (.cell a) = .own k) (hb : ∀ a, a.block = b → s.tg.mode (.cell a) = .at) :
    Rds k ({ s with u := u', tg := { s.tg with mode := blockMode s.tg.mode g .pub, kn := upd s.tg.kn k (fun l => blockMode s.tg.mode g .pub l = .pub) } } : St cellU) (w.setCell ⟨b, 0, none⟩ q) c t xs := by
  refine ⟨(setCell_heap _ _ _ _ fun e => ?_).trans h.hp, fun a ha => ?_⟩
  · have hm := h.md ⟨c, 0, none⟩ rfl
    have hb' := hb ⟨c, 0, none⟩ e
    rcases hm with x | ⟨_, x, _⟩ | ⟨x, _⟩ <;> cases x.symm.trans hb'
  · by_cases e : a.block = g
    · have hp : blockMode s.tg.mode g .pub (.cell a) = .pub := blockMode_at e
      exact .inr (.inr ⟨hp, by show upd s.tg.kn k _ k _; rw [upd_same]; exact hp⟩)
    · have hp : blockMode s.tg.mode g .pub (.cell a) = s.tg.mode (.cell a) := blockMode_ne e
      exact (h.md a ha).of_mode (fun _ => hp) fun x => by
        show upd s.tg.kn k _ k _
        rw [upd_same]
        exact hp.trans (hI.K _ _ x)

theorem pu_cas (k1 : 1 ≤ k) (hi : i < l.length) {n0 g : Nat} {q : Option Addr} {vs : List Int} (hQ : Saw (PuF k Wg vv cv b N v l i) k n0 q vs s w) (hn : vs.length = n0) (hO : Own k s w g TN (nodeV l[i] n0 q)) (hI : Ok E s w) :
    ∃ x : Option Addr, w.cell? ⟨b, 0, none⟩ = some (.pointer x) ∧ w.frozen? ⟨b, 0, none⟩ = false ∧ NodeP w x ∧
      ((x = q ∧ ∃ s', Mv E k s w s' (w.setCell ⟨b, 0, none⟩ (.pointer (some ⟨g, 0, none⟩))) #[rd ⟨b, 0, none⟩, wr ⟨b, 0, none⟩] ∧ Soft s s' ∧ PuF k Wg vv cv b N v l (i + 1) s' (w.setCell ⟨b, 0, none⟩ (.pointer (some ⟨g, 0, none⟩)))) ∨
       (x ≠ q ∧ ∃ s', Mv E k s w s' w #[rd ⟨b, 0, none⟩] ∧ Soft s s' ∧ PuF k Wg vv cv b N v l i s' w ∧ n0 < s'.u.ns.length)) := by
  obtain ⟨h, ns, rfl, rfl, e3, e4, e5⟩ := hQ
  obtain ⟨g1, g2, g3, g4⟩ := hI.J h.on
  rw [h.ub] at g1 g2
  refine ⟨headP s.u.ns, by simp [World.cell?, g1], by simp [World.frozen?, g1], g3.node, ?_⟩
  have hlt : b < w.heap.size := (Array.getElem?_eq_some_iff.1 g1).1
  simp only [List.length_map] at hn
  by_cases e : headP s.u.ns = headP ns
  · have := head_inj e3 g4.nod e
    subst this
    have hgn : g ∉ s.u.ns.map Prod.fst := fun hx => by
      have := ((g3.mem hx).2 ⟨g, 0, none⟩ rfl).symm.trans (hO.md ⟨g, 0, none⟩ rfl)
      cases this
    have hpre : l.take i ++ [l[i]] <+: l := by
      rw [List.take_append_getElem hi]; exact List.take_prefix _ _
    have hpb : cellU.Pb k s.u s.tg.mode w { s.u with ns := (g, l[i]) :: s.u.ns, don := s.u.don.set (k - 1) (l.take i ++ [l[i]]) } (blockMode s.tg.mode g .pub) (w.setCell ⟨b, 0, none⟩ (.pointer (some ⟨g, 0, none⟩))) :=
      ⟨h.on, g4, k1, h.st, g, l[i], l.take i, l, h.don, h.all, hpre, rfl, hgn, by rw [hn]; exact hO.hp, hO.md, rfl, by rw [h.ub]⟩
    refine .inl ⟨rfl, { s with u := { s.u with ns := (g, l[i]) :: s.u.ns, don := s.u.don.set (k - 1) (l.take i ++ [l[i]]) }, tg := { s.tg with mode := blockMode s.tg.mode g .pub, kn := upd s.tg.kn k (fun l => blockMode s.tg.mode g .pub l = .pub) } },
      .pub (.inr h.ws.rl) h.ws.df h.hd (Turn.setCell w b 0 _ g1 (g2 _ rfl)) (setCell_size _ _ _) (fun l => ?_) hpb rfl, ⟨rfl, rfl⟩,
      ⟨⟨h.ws.on, h.ws.wg, h.ws.df, h.ws.rl, h.ws.al⟩, h.vv.pub hI hO.md g2, h.cv.pub hI hO.md g2, h.ls.map fun _ _ _ x => x.pub hI hO.md g2, h.hd, h.on, h.ub, h.all, h.st, ?_, ?_, h.tot⟩⟩
    · cases l with
      | cell a =>
        by_cases e : a.block = g
        · exact .inr ⟨by show a.block < _; rw [e]; exact hO.lt, hO.md a e, blockMode_at e⟩
        · exact .inl (blockMode_ne e)
      | _ => exact .inl rfl
    · show (s.u.don.set (k - 1) (l.take i ++ [l[i]]))[k - 1]? = _
      rw [List.getElem?_set_self (List.getElem?_eq_some_iff.1 h.don).1, List.take_append_getElem hi]
    · rw [← h.tot]; exact (g4.push (by have := h.st; omega) h.don h.all hpre hgn).le
  · refine .inr ⟨e, s, mv_atr (.inr h.ws.rl) (.inl (g2 _ rfl)) hlt, .refl _, h, ?_⟩
    have hne : ns ≠ s.u.ns := fun x => e (by rw [x])
    have hle := e3.length_le
    rcases Nat.lt_or_eq_of_le hle with hl | hl
    · omega
    · exact absurd (e3.eq_of_length hl) hne
end
end
end Go.Proofs.Ytbamamkjmfkghaa.Crw
