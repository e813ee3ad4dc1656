/- A goroutine of a crowd: memory of its own that it makes and grows; drawn orders.
No condition. -/
import Derived.Test.YtbamamkjmfkghaaVd
import Derived.Conc.AppendWalk
import Derived.Orders
import Derived.Conc.CompanyMem
set_option linter.unusedSimpArgs false
set_option linter.unusedVariables false
namespace Go.Proofs.Ytbamamkjmfkghaa.Crw
open Go Go.Conc
open Go.ConcN (upd upd_same upd_ne)
set_option linter.unusedVariables false

/-! ### all orders that may be drawn -/
def ordersFrom (md : Region.Mode) (ops : Array Oper) : Nat → Array Bool → List (List Nat)
  | 0, _ => [[]]
  | fuel + 1, listed => match Region.ready md ops listed with
    | [] => [[]]
    | rs => rs.flatMap fun i => (ordersFrom md ops fuel (listed.setIfInBounds i true)).map (i :: ·)
theorem go_mem_orders (md : Region.Mode) (ops : Array Oper) : ∀ (fuel t : Nat) (listed : Array Bool), Region.linearise.go md ops fuel t listed [] ∈ ordersFrom md ops fuel listed := by
  intro fuel
  induction fuel with
  | zero => intro t listed; simp [Region.linearise.go, ordersFrom]
  | succ fuel ih =>
    intro t listed
    simp only [Region.linearise.go]
    change (match (Region.ready md ops listed)[t % (Region.ready md ops listed).length]? with
      | some i => Region.linearise.go md ops fuel (t / (Region.ready md ops listed).length) (listed.setIfInBounds i true) [i]
      | none => [].reverse) ∈ _
    unfold ordersFrom
    cases hr : Region.ready md ops listed with
    | nil => simp
    | cons x xs =>
      have hlt : t % (x :: xs).length < (x :: xs).length := Nat.mod_lt _ (by simp)
      rw [List.getElem?_eq_getElem hlt]
      simp only []
      rw [linearise_go_acc, List.reverse_singleton, List.singleton_append]
      refine List.mem_flatMap.2 ⟨(x :: xs)[t % (x :: xs).length], List.getElem_mem _, List.mem_map.2 ⟨_, ih _ _, rfl⟩⟩
theorem mem_orders {P : Program} (hf : P.follows .mixedOrders = true) (ops : Array Oper) (t : Nat) : Region.schedule (P.follows .mixedOrders) ops t ∈ ordersFrom .any ops ops.size (Array.replicate ops.size false) := by
  rw [hf]
  simp only [Region.schedule, Bool.true_or, if_true]
  exact go_mem_orders _ _ _ _ _

section
variable {P : Program} {B : Usr} {E : Env} {Post : Value → World → Prop} {Child : Sit (proto P B E Post)} {k : Nat} {s s' s₀ s₁ : St B} {w w' w₀ w₁ : World}

/-- A drawn region, order by order. -/
theorem rr_drawn (hB : B.Laws) {b : Frame} {a : Act} {kk : List Item} {cs : List Frame} {id : Nat} {ops : Array Oper} {F : St B → World → Prop} (hF : F s w) (hst : ∀ {s w s₁ w₁}, F s w → Rl k s w s₁ w₁ → F s₁ w₁) (hf : P.follows .mixedOrders = true) {os : List (List Nat)}
    (ho : ordersFrom .any ops ops.size (Array.replicate ops.size false) = os)
    (h : ∀ s₁ w₁, F s₁ w₁ → ∀ l ∈ os, ∀ K, Hid (kk = K) → RR P B E Post Child k (G (b.at a (.inRegion ops l :: K)) cs) s₁ w₁) : RR P B E Post Child k (G (b.at a (.code (.region id ops true) :: kk)) cs) s w :=
  rr_draw hB fun t s₁ w₁ hR => h s₁ w₁ (hst hF hR) _ (ho ▸ mem_orders hf ops t) _ ⟨rfl⟩

/-! ### steps of one's own, against what was there at a call's beginning -/
/-- What there was is as the others left it; new memory was made and turned. -/
theorem Rl.own (hB : B.Laws) (h : Rl k s₀ w₀ s w) {mode' : Loc → Mode} (hsz : w.heap.size ≤ w'.heap.size) (hb : ∀ b, b < w₀.heap.size → w'.heap[b]? = w.heap[b]?) (hm : ∀ l, locLow w₀.heap.size l → mode' l = s.tg.mode l) :
    Rl k s₀ w₀ { s with tg := { s.tg with mode := mode' } } w' := by
  refine ⟨Nat.le_trans h.size hsz, fun b c t fr hbb => ?_, fun l hl hne => (hm l hl).trans (h.mode l hl hne), h.kn, h.deaf, h.rel, h.hd, h.on, h.n, h.zero, h.worker, h.ru⟩
  obtain ⟨c', e1, e2, e3⟩ := h.cells b c t fr hbb
  exact ⟨c', (hb b (Array.getElem?_eq_some_iff.1 hbb).1).trans e1, e2, e3⟩
theorem Rl.same (hB : B.Laws) (h : Rl k s₀ w₀ s w) (hsz : w.heap.size ≤ w'.heap.size) (hb : ∀ b, b < w₀.heap.size → w'.heap[b]? = w.heap[b]?) : Rl k s₀ w₀ s w' :=
  h.own (mode' := s.tg.mode) hB hsz hb fun _ _ => rfl
theorem Rl.new (hB : B.Laws) (h : Rl k s₀ w₀ s w) (o : Obj) : Rl k s₀ w₀ (s.take k w.heap.size (w.heap.size + 1)) (w.alloc o) :=
  h.own hB (by rw [alloc_size]; omega) (fun b hb => alloc_old w o (Nat.lt_of_lt_of_le hb h.size)) fun l hl => newMode_low (hl.mono h.size)
theorem Rl.set (hB : B.Laws) (h : Rl k s₀ w₀ s w) {a : Addr} (ha : w₀.heap.size ≤ a.block) (v : Value) : Rl k s₀ w₀ s (w.setCell a v) :=
  h.same hB (by rw [setCell_size]; exact Nat.le_refl _) fun b hb => setCell_heap w a v b (by omega)

/-- A slice of k's own making. -/
structure Sl (k base : Nat) (s : St B) (w : World) (e : TypeId) (size : Nat) (v : Value) (n : Nat) (xs : List Value) : Prop where
  row : w.ownsRow base e size v n xs
  md : ∀ b, v.ownBlock = some b → ∀ a, a.block = b → s.tg.mode (.cell a) = .own k
section
variable {base size n : Nat} {e : TypeId} {v : Value} {xs : List Value}
theorem Sl.lt (h : Sl k base s w e size v n xs) {b : Nat} (hb : v.ownBlock = some b) : base ≤ b ∧ b < w.heap.size := h.row.lt b hb
theorem Sl.keep (h : Sl k base s w e size v n xs) (hb : ∀ b, v.ownBlock = some b → Leaves b s w s' w') : Sl k base s' w' e size v n xs := by
  refine ⟨⟨h.row.1, ?_⟩, fun b e1 a ha => ((hb b e1).2.1 a ha).trans (h.md b e1 a ha)⟩
  rcases h.row.2 with hn | ⟨g, cap, cur, rfl, h1, h2, h3⟩
  · exact .inl hn
  · exact .inr ⟨g, cap, cur, rfl, h1, (hb g rfl).1.trans h2, h3⟩
theorem Sl.rely (h : Sl k base s w e size v n xs) (hR : Rl k s w s₁ w₁) : Sl k base s₁ w₁ e size v n xs := by
  rcases h.row.2 with ⟨rfl, hn⟩ | ⟨g, cap, cur, rfl, h1, h2, h3⟩
  · exact ⟨⟨h.row.1, .inl ⟨rfl, hn⟩⟩, fun b e1 => by simp [Value.ownBlock] at e1⟩
  · have hO : Own k s w g e cur.toList := ⟨by simpa using h2, fun a ha => h.md g rfl a ha⟩
    have hO' := hO.rely hR
    exact ⟨⟨h.row.1, .inr ⟨g, cap, cur, rfl, h1, by simpa using hO'.hp, h3⟩⟩, fun b e1 a ha => by
      simp [Value.ownBlock] at e1
      exact hO'.md a (ha.trans e1.symm)⟩
theorem Sl.nil (k base : Nat) (s : St B) (w : World) (e : TypeId) (size : Nat) : Sl k base s w e size (.slice none 0 0) 0 [] := ⟨w.ownsRow_nil base e size, fun b h => by simp [Value.ownBlock] at h⟩
/-- Its cells. -/
theorem Sl.cells (h : Sl k base s w e size v n xs) : ∃ A cap, v = .slice A n cap ∧ ∀ j u, xs[j]? = some u → ∃ g, A = some ⟨g, 0, none⟩ ∧ w.cell? ⟨g, j, none⟩ = some u ∧ May s.tg k (.cell ⟨g, j, none⟩) ∧ g < w.heap.size := by
  rcases h.row.2 with ⟨rfl, rfl⟩ | ⟨g, cap, cur, rfl, h1, h2, h3, h4, h5, h6⟩
  · have : xs = [] := List.eq_nil_of_length_eq_zero (by simpa using h.row.1)
    subst this
    exact ⟨none, 0, rfl, fun j u hu => by simp at hu⟩
  · refine ⟨_, _, rfl, fun j u hu => ⟨g, rfl, ?_, .inl (h.md g rfl _ rfl), (Array.getElem?_eq_some_iff.1 h2).1⟩⟩
    rw [← h6, List.getElem?_take] at hu
    split at hu
    · simp [World.cell?, h2]; simpa using hu
    · cases hu
end

/-- What an append does to the world. -/
theorem run_append_turn (w : World) (base : Nat) (t ty e : TypeId) (i : TypeInfo) (z : Value) (size bytes : Nat) (ht : P.underlying t = some (.slice e)) (hi : P.info? e = some i) (hz : i.zero = some z)
    (hsize : i.size = size) (hby : i.bytes = bytes) (hzs : z.cells.size = size) (hsz : 0 < size)
    (v : Value) (n : Nat) (xs : List Value) (hown : w.ownsRow base e size v n xs)
    (a : Addr) (m c : Nat) (news : List Value) (hl : news.length = m * size) (hnews : ∀ j u, news[j]? = some u → w.cell? (a.add j) = some u) (h1 : ∀ u ∈ news, u.oneCell' = true)
    (h63 : n + m ≤ maxLen) (hbytes : (n + m) * bytes ≤ 140737488355328) (hbase : base ≤ w.heap.size) :
    ∃ v' w', (Builtin.append_ #[t, t] ty #[v, .slice (some a) m c]).run P w = .ok v' w' ∧ w'.ownsRow base e size v' (n + m) (xs ++ news) ∧ Turn (fun b _ => v.ownBlock = some b) w w' ∧ (∀ b, v'.ownBlock = some b → v.ownBlock = some b ∨ w.heap.size ≤ b) := by
  subst hsize
  subst hby
  have hsmall : n + m ≤ 9223372036854775807 := by simp only [maxLen] at h63; omega
  have hlen : (xs ++ news).length = (n + m) * i.size := by rw [List.length_append, hown.1, hl, Nat.add_mul]
  have grown : ∀ (old : Nat), old < n + m →
      (w.drew.alloc (.cells (xs.toArray ++ news.toArray ++ Builtin.zeroCells z.cells (grownCap w (n + m) old e - (n + m))) e)).ownsRow base e i.size
        (.slice (some ⟨w.heap.size, 0, none⟩) (n + m) (grownCap w (n + m) old e)) (n + m) (xs ++ news) ∧
      Turn (fun b _ => v.ownBlock = some b) w (w.drew.alloc (.cells (xs.toArray ++ news.toArray ++ Builtin.zeroCells z.cells (grownCap w (n + m) old e - (n + m))) e)) := by
    intro old ho
    have hge := grownCap_ge w (n + m) old e
    have hcm : grownCap w (n + m) old e ≤ maxLen := grownCap_le_maxLen w (n + m) old e h63
    refine ⟨⟨hlen, .inr ⟨w.heap.size, _, _, rfl, hbase, heap_alloc_new w.drew _, hge, hcm, ?_, ?_⟩⟩, ⟨by simp, fun k hk => .inl (heap_alloc_old w.drew _ k hk), rfl, rfl, rfl⟩⟩
    · simp only [Array.size_append, List.size_toArray, size_zeroCells, hzs, hown.1, hl, ← Nat.add_mul]
      congr 1
      omega
    · simp only [Array.toList_append, List.append_assoc]
      rw [← List.append_assoc, ← hlen]
      exact List.take_left
  rcases hown.2 with ⟨rfl, rfl⟩ | ⟨g, cap, cur, rfl, hbg, hg, hnc, hcm, hcs, htake⟩
  · have hx : xs = [] := List.eq_nil_of_length_eq_zero (by simpa using hown.1)
    subst hx
    by_cases hm : m = 0
    · subst hm
      have hn : news = [] := List.eq_nil_of_length_eq_zero (by simpa using hl)
      subst hn
      refine ⟨.slice none 0 0, w, ?_, World.ownsRow_nil w base e i.size, Turn.refl _ _, fun b hb => .inl hb⟩
      simp [Builtin.append_, run_underlying ht, sizeOf, typeInfo, hi, Builtin.lenOf, Builtin.firstCells, loadCells, loadCellsFrom]
    · have hr := run_append_nil (P := P) w t ty e i z ht hi hz a m c news hl hnews (by omega) (by omega) (by have hb := hbytes; simp only [Nat.zero_add] at hb; omega)
      have hgr := grown 0 (by omega)
      simp only [Nat.zero_add, List.nil_append, Array.empty_append] at hgr ⊢
      exact ⟨_, _, hr, hgr.1, hgr.2, fun b hb => .inr (by simp [Value.ownBlock] at hb; omega)⟩
  · by_cases hroom : n + m ≤ cap
    · have hfit : n * i.size + news.length ≤ cur.size := by rw [hl, hcs, ← Nat.add_mul]; exact Nat.mul_le_mul_right _ hroom
      have hr := run_append_room (P := P) w t ty e i ht hi g n cap cur hg a m c news hl hnews h1 hroom hfit
      refine ⟨_, _, hr, ⟨hlen, .inr ⟨g, cap, _, rfl, hbg, setRow_heap w g cur _ e _ hg, hroom, hcm, ?_, ?_⟩⟩, ⟨by simp, fun k hk => ?_, rfl, rfl, rfl⟩, fun b hb => .inl hb⟩
      · simp only [List.size_toArray, List.length_append, List.length_take, List.length_drop, Array.length_toList]
        omega
      · rw [htake, ← hlen]
        exact List.take_left
      · by_cases hkg : k = g
        · subst hkg
          refine .inr ⟨cur, _, e, (0, 0), hg, setRow_heap w k cur _ e _ hg, ?_, fun off ho => absurd (by simp [Value.ownBlock]) ho⟩
          simp only [List.size_toArray, List.length_append, List.length_take, List.length_drop, Array.length_toList]
          omega
        · exact .inl (setRow_other w g k _ hkg)
    · have holds : ∀ j u, xs[j]? = some u → w.cell? ((⟨g, 0, none⟩ : Addr).add j) = some u := hown.cells (g := g) rfl
      have hr := run_append_grow (P := P) w t ty e i z ht hi hz ⟨g, 0, none⟩ n cap xs hown.1 holds a m c news hl hnews (by omega) (by omega) (growslice_fits (by omega) hbytes)
      have hgr := grown cap (by omega)
      exact ⟨_, _, hr, hgr.1, hgr.2, fun b hb => .inr (by simp [Value.ownBlock] at hb; omega)⟩

/-- Any access to a cell of one's own. -/
theorem evOk_own {g : TG} {sz : Nat} {a : Addr} {wr sy : Bool} (hm : g.mode (.cell a) = .own k) (hl : a.block < sz) (hh : ∀ h, g.hd = some h → g.mode (.cell h) = .at) : EvOk g k sz ⟨.cell a, wr, sy⟩ := by
  refine ⟨fun x hx => ?_, fun a => by simp, fun h hh' sync e => ?_⟩
  · have : x = ⟨.cell a, wr, if sy then .atomic else .plain⟩ := by
      cases sy <;> cases wr <;> simp [MemAct.ofEvent, MemAct.touch?] at hx <;> exact hx.symm
    subst this
    refine ⟨hl, fun _ => ?_⟩
    cases sy
    · cases wr
      · exact .inl hm
      · exact hm
    · exact .inr hm
  · have : a = h := by cases sy <;> cases wr <;> simp [MemAct.ofEvent] at e <;> first | exact e.1 | exact e
    subst this
    have := hh _ hh'
    rw [hm] at this; cases this

/-- The operation 'append(s, x...)' onto a slice of one's own. -/
theorem rr_append (hB : B.Laws) {F : St B → World → Prop} {b : Frame} {a : Act} {kk : List Item} {cs : List Frame} {ops : Array Oper} {i : Nat} {rest : List Nat} {o : Oper} (sx x : Operand) (t : TypeId)
    {base size bytes n m c : Nat} {e : TypeId} {v : Value} {xs : List Value} {ti : TypeInfo} {z : Value} {ad : Addr} {news : List Value}
    (hF : F s w) (hst : ∀ {s w s₁ w₁}, F s w → Rl k s w s₁ w₁ → F s₁ w₁) (hrel : ∀ {s w}, F s w → k = 0 ∨ s.tg.rel k = false) (hsl : ∀ {s w}, F s w → Sl k base s w e size v n xs) (hbase : ∀ {s w}, F s w → base ≤ w.heap.size)
    (hnw : ∀ {s w}, F s w → ∀ j u, news[j]? = some u → w.cell? (ad.add j) = some u) (hmy : ∀ {s w}, F s w → ∀ a', a'.block = ad.block → s.tg.mode (.cell a') = .own k ∧ ad.block < w.heap.size)
    (ho : ops[i]? = some o) (hw : Region.wanted o (yielded ops a.tmps) = true) (hk : b.kind ≠ .early) (hop : o.op = .call { callee := .builtin .append, args := #[sx, x], argTypes := #[t, t] })
    (hs : a.eval sx = v) (hx : a.eval x = .slice (some ad) m c)
    (ht : P.underlying t = some (.slice e)) (hi : P.info? e = some ti) (hz : ti.zero = some z) (hsize : ti.size = size) (hby : ti.bytes = bytes) (hzs : z.cells.size = size) (hsz : 0 < size)
    (hl : news.length = m * size) (h1 : ∀ u ∈ news, u.oneCell' = true) (h63 : n + m ≤ maxLen) (hbytes : (n + m) * bytes ≤ 140737488355328)
    (h : ∀ s₁ w₁ v' w' mode', F s₁ w₁ → Ok E s₁ w₁ → Sl k base { s₁ with tg := { s₁.tg with mode := mode' } } w' e size v' (n + m) (xs ++ news) → w₁.heap.size ≤ w'.heap.size →
      (∀ bb, bb < w₁.heap.size → v.ownBlock ≠ some bb → w'.heap[bb]? = w₁.heap[bb]?) → (∀ l, locLow w₁.heap.size l → mode' l = s₁.tg.mode l) →
      RR P B E Post Child k (G (b.at (a.put o.dst v') (.inRegion ops rest :: kk)) cs) { s₁ with tg := { s₁.tg with mode := mode' } } w') :
    RR P B E Post Child k (G (b.at a (.inRegion ops (i :: rest) :: kk)) cs) s w := by
  refine rr_oper ho hw hk fun s₁ w₁ hR hI K hK => ?_
  have hF₁ := hst hF hR
  have hS := hsl hF₁
  obtain ⟨v', w', hr, hown', hturn, hnb⟩ := run_append_turn (P := P) w₁ base t o.type e ti z size bytes ht hi hz hsize hby hzs hsz v n xs hS.row ad m c news hl (fun j u hu => hnw hF₁ j u hu) h1 h63 hbytes (hbase hF₁)
  have hevs := events_append_where (P := P) w₁ base t o.type e ti z size bytes ht hi hz hsize hby v n xs hS.row ad m c news hl (fun j u hu => hnw hF₁ j u hu) h1 h63 hbytes
  have hlow : ∀ l, locLow w₁.heap.size l → newMode s₁.tg.mode k w₁.heap.size w'.heap.size l = s₁.tg.mode l := fun l hl => newMode_low hl
  have hmd : ∀ bb, v.ownBlock = some bb → ∀ a', a'.block = bb → newMode s₁.tg.mode k w₁.heap.size w'.heap.size (.cell a') = .own k := fun bb hb a' ha => (hlow _ (by show a'.block < _; rw [ha]; exact (hS.lt hb).2)).trans (hS.md bb hb a' ha)
  refine uponK_append sx x t hop hs hx hr (hK _ _ ⟨{ s₁ with tg := { s₁.tg with mode := newMode s₁.tg.mode k w₁.heap.size w'.heap.size } }, ?_, ⟨rfl, rfl⟩, h s₁ w₁ v' w' _ hF₁ hI ⟨hown', fun bb hb a' ha => ?_⟩ hturn.size (fun bb hb hne => hturn.same hb fun _ => hne) hlow⟩)
  · refine Mv.loc (mode' := newMode s₁.tg.mode k w₁.heap.size w'.heap.size) (hrel hF₁) (hturn.weaken fun bb off hb => hS.md bb hb _ rfl) hlow (fun l h1 h2 => newMode_new h1 h2) (fun l hl => newMode_high hl) (fun ev hev => ?_) (fun ev hev => ?_)
    · have hm := mem_listed hev
      rw [events_append_op sx x t hop hs hx] at hm
      rcases hevs ev hm with ⟨ad', h1, h2⟩ | ⟨mm, rfl, hn⟩
      · obtain ⟨hlo, hmo⟩ : ad'.block < w'.heap.size ∧ newMode s₁.tg.mode k w₁.heap.size w'.heap.size (.cell ad') = .own k := by
          rcases h2 with ⟨_, hb⟩ | hb
          · obtain ⟨hm1, hm2⟩ := hmy hF₁ ad' hb
            exact ⟨by rw [hb]; exact Nat.lt_of_lt_of_le hm2 hturn.size, (hlow _ (by show ad'.block < _; rw [hb]; exact hm2)).trans hm1⟩
          · exact ⟨Nat.lt_of_lt_of_le (hS.lt hb.symm).2 hturn.size, hmd ad'.block hb.symm ad' rfl⟩
        obtain ⟨loc, wr, sy⟩ := ev
        simp only at h1
        subst h1
        exact evOk_own hmo hlo fun hh hhd => by
          have := hI.H hh hhd
          refine (hlow _ ?_).trans this
          exact hI.lowOf this (by simp)
      · unfold Neutral at hn
        subst hn
        exact ⟨fun y hy => by simp [MemAct.ofEvent, MemAct.touch?] at hy, fun a => by simp, fun _ _ sync => by simp [MemAct.ofEvent]⟩
    · have hm := mem_listed hev
      rw [events_append_op sx x t hop hs hx] at hm
      rcases hevs ev hm with ⟨ad', h1, _⟩ | ⟨mm, rfl, hn⟩
      · rw [h1]; simp
      · unfold Neutral at hn
        subst hn
        simp
  · rcases hnb bb hb with h1 | h1
    · exact hmd bb h1 a' ha
    · have hlt : bb < w'.heap.size := (hown'.lt bb hb).2
      exact newMode_new (lo := w₁.heap.size) (hi := w'.heap.size) (l := .cell a') (fun hx : a'.block < w₁.heap.size => by omega) (show a'.block < w'.heap.size by omega)

/-- A loop: an invariant with a measure. -/
theorem rr_loop (hB : B.Laws) {b : Frame} {a : Act} {kk : List Item} {cs : List Frame} {L : Code} (I : Nat → Act → St B → World → Prop) (m : Nat) (h0 : I m a s w)
    (h : ∀ m a s w, I m a s w → (∀ m' a' s' w', m' < m → I m' a' s' w' → RR P B E Post Child k (G (b.at a' (.code L :: .inLoop L :: kk)) cs) s' w') → RR P B E Post Child k (G (b.at a (.code L :: .inLoop L :: kk)) cs) s w) :
    RR P B E Post Child k (G (b.at a (.code (.loop L) :: kk)) cs) s w := by
  refine rr_ctl hB rfl (fun _ => stepG_loop) ?_
  induction m using Nat.strongRecOn generalizing a s w with
  | _ m ih => exact h m a s w h0 fun m' a' s' w' hlt h' => ih m' hlt h'

/-- An atomic look. -/
theorem mv_atr (hr : k = 0 ∨ s.tg.rel k = false) {a : Addr} (hm : s.tg.mode (.cell a) = .at ∨ s.tg.mode (.cell a) = .own k) (hl : a.block < w.heap.size) : Mv E k s w s w #[⟨.cell a, false, true⟩] :=
  Mv.loc (mode' := s.tg.mode) hr (Turn.refl _ _) (fun _ _ => rfl) (fun l h1 h2 => absurd h2 h1) (fun _ _ => rfl)
    (fun e he => by
      simp at he; subst he
      refine ⟨fun x hx => ?_, fun a => by simp, fun _ _ sync => by simp [MemAct.ofEvent]⟩
      have : x = ⟨.cell a, false, .atomic⟩ := by simp [MemAct.ofEvent, MemAct.touch?] at hx; exact hx.symm
      subst this
      exact ⟨hl, fun _ => hm.imp .inl id⟩) (fun e he => by simp at he; subst he; simp)
theorem Turn.trans {ok : Nat → Nat → Prop} {w w' w'' : World} (h : Turn ok w w') (h' : Turn ok w' w'') : Turn ok w w'' := by
  refine ⟨Nat.le_trans h.size h'.size, fun b hb => ?_, h'.tape.trans h.tape, h'.os.trans h.os, h'.output.trans h.output⟩
  rcases h'.blk b (Nat.lt_of_lt_of_le hb h.size) with e' | ⟨c1, c2, t, fr, e1, e2, e3, e4⟩
  · rw [e']; exact h.blk b hb
  · rcases h.blk b hb with e | ⟨d1, d2, t', fr', f1, f2, f3, f4⟩
    · exact .inr ⟨c1, c2, t, fr, e ▸ e1, e2, e3, e4⟩
    · rw [e1] at f2
      cases f2
      exact .inr ⟨d1, c2, t, fr, f1, e2, e3.trans f3, fun off ho => (e4 off ho).trans (f4 off ho)⟩
/-- Two cells of one's own are written. -/
theorem mv_set2 {b : Nat} {t : TypeId} {vs : List Value} {es : Array Event} (hI : Ok E s w) (hr : k = 0 ∨ s.tg.rel k = false) (h : Own k s w b t vs) (o1 o2 : Nat) (v1 v2 : Value) (he : ∀ e ∈ es, ∃ off, e = ⟨.cell ⟨b, off, none⟩, true, false⟩) :
    Mv E k s w s ((w.setCell ⟨b, o1, none⟩ v1).setCell ⟨b, o2, none⟩ v2) es := by
  have t1 : Turn (fun b off => at' s.tg.mode b off = .own k) w (w.setCell ⟨b, o1, none⟩ v1) := Turn.setCell w b o1 v1 h.hp (h.md _ rfl)
  have t2 : Turn (fun b off => at' s.tg.mode b off = .own k) (w.setCell ⟨b, o1, none⟩ v1) ((w.setCell ⟨b, o1, none⟩ v1).setCell ⟨b, o2, none⟩ v2) := Turn.setCell _ b o2 v2 (h.set o1 v1).hp (h.md _ rfl)
  exact Mv.loc (mode' := s.tg.mode) hr (t1.trans t2) (fun _ _ => rfl) (fun l h1 h2 => absurd (by rw [setCell_size, setCell_size] at h2; exact h2) h1) (fun _ _ => rfl)
    (fun e hee => by obtain ⟨off, rfl⟩ := he e hee; exact evOk_own (h.md _ rfl) (by rw [setCell_size, setCell_size]; exact h.lt) hI.H) (fun e hee => by obtain ⟨off, rfl⟩ := he e hee; simp)

/-- New memory; what is listed is nothing. -/
theorem mv_new_at {es : Array Event} (hr : k = 0 ∨ s.tg.rel k = false) (o : Obj) (he : es = #[]) : Mv E k s w (s.take k w.heap.size (w.heap.size + 1)) (w.alloc o) es := he ▸ mv_new hr o
/-- A number that was seen meanwhile. -/
def Seen (E : Env) (k : Nat) (u₀ : B.U) (b i : Nat) (x : Int) (u : B.U) : Prop := ∃ s₁ w₁, B.Ru k u₀ s₁.u ∧ Ok E s₁ w₁ ∧ w₁.cell? ⟨b, i, none⟩ = some (.int .i64 x) ∧ B.Ru k s₁.u u
theorem Seen.on (hB : B.Laws) {u₀ u u' : B.U} {b i : Nat} {x : Int} (h : Seen E k u₀ b i x u) (r : B.Ru k u u') : Seen E k u₀ b i x u' :=
  let ⟨s₁, w₁, h1, h2, h3, h4⟩ := h; ⟨s₁, w₁, h1, h2, h3, hB.trans h4 r⟩
end

end Go.Proofs.Ytbamamkjmfkghaa.Crw
namespace Go.Proofs.Ytbamamkjmfkghaa.Crw
open Go Go.Conc
open Go.ConcN (upd upd_same upd_ne)
set_option linter.unusedVariables false

/-! make of elements of any size -/
theorem run_make_rowN {P : Program} (t e : TypeId) (i : TypeInfo) (z : Value) (ht : P.underlying t = some (.slice e)) (hi : P.info? e = some i) (hz : i.zero = some z)
    (kl kc : IntKind) (n c : Nat) (hnc : n ≤ c) (hbytes : i.bytes * c ≤ 281474976710656) (h63 : c ≤ 9223372036854775807) (w : World) :
    (Instr.makeSlice t (.int kl (n : Int)) (.int kc (c : Int))).run P w = .ok (.slice (some ⟨w.heap.size, 0, none⟩) n c) (w.alloc (.cells (madeCells z.cells (c * i.size)) e)) := by
  have hb : (i.bytes : Int) * (c : Int) ≤ 281474976710656 := by
    have h : ((i.bytes * c : Nat) : Int) ≤ 281474976710656 := by omega
    rwa [Int.natCast_mul] at h
  have hr := run_make (P := P) w t e i z ht hi hz kl kc n c (by omega) (by omega) hb (by omega)
  simp only [Int.toNat_natCast] at hr
  exact hr
theorem madeOne (v : Value) (n : Nat) : madeCells #[v] n = (List.replicate n v).toArray := by
  apply Array.ext
  · simp [madeCells]
  · intro i h1 h2
    simp [madeCells, Nat.mod_one]
theorem make_one {P : Program} (t e : TypeId) (v : Value) (by_ : Nat) (ht : P.underlying t = some (.slice e)) (hinfo : (P.info? e).map (fun i => (i.zero.map (·.cells), i.size, i.bytes)) = some (some #[v], 1, by_))
    (kl kc : IntKind) (n : Nat) (hbytes : by_ * n ≤ 281474976710656) (h63 : n ≤ 9223372036854775807) (w : World) :
    (Instr.makeSlice t (.int kl (n : Int)) (.int kc (n : Int))).run P w = .ok (.slice (some ⟨w.heap.size, 0, none⟩) n n) (w.alloc (.cells (List.replicate n v).toArray e)) := by
  obtain ⟨i, hi, hzz⟩ := Option.map_eq_some_iff.1 hinfo
  simp only [Prod.mk.injEq] at hzz
  obtain ⟨hz, hs, hb⟩ := hzz
  obtain ⟨z, hz, hzc⟩ := Option.map_eq_some_iff.1 hz
  rw [run_make_rowN t e i z ht hi hz kl kc n n (Nat.le_refl _) (by rw [hb]; exact hbytes) h63 w, hs, hzc, Nat.mul_one, madeOne]

section
variable {P : Program} {B : Usr} {E : Env} {Post : Value → World → Prop} {Child : Sit (proto P B E Post)} {k : Nat} {s s' s₀ s₁ : St B} {w w' w₀ w₁ : World}

theorem rr_make (hB : B.Laws) {F : St B → World → Prop} {b : Frame} {a : Act} {kk : List Item} {cs : List Frame} {ops : Array Oper} {i : Nat} {rest : List Nat} {o : Oper} {t e : TypeId} {x y : Operand} {n : Nat} (z : Value) (by_ : Nat)
    (hF : F s w) (hst : ∀ {s w s₁ w₁}, F s w → Rl k s w s₁ w₁ → F s₁ w₁) (ho : ops[i]? = some o) (hw : Region.wanted o (yielded ops a.tmps) = true) (hk : b.kind ≠ .early) (hop : o.op = .makeSlice t x y) (hx : a.eval x = .int .i64 (n : Int)) (hy : a.eval y = .int .i64 (n : Int))
    (ht : P.underlying t = some (.slice e)) (hinfo : (P.info? e).map (fun i => (i.zero.map (·.cells), i.size, i.bytes)) = some (some #[z], 1, by_)) (hbytes : n * by_ ≤ 140737488355328) (h63 : n ≤ 9223372036854775807)
    (h : ∀ s₁ w₁, F s₁ w₁ → Ok E s₁ w₁ → ∃ s', Mv E k s₁ w₁ s' (w₁.alloc (.cells (List.replicate n z).toArray e)) #[] ∧ Soft s₁ s' ∧
      RR P B E Post Child k (G (b.at (a.put o.dst (.slice (some ⟨w₁.heap.size, 0, none⟩) n n)) (.inRegion ops rest :: kk)) cs) s' (w₁.alloc (.cells (List.replicate n z).toArray e))) :
    RR P B E Post Child k (G (b.at a (.inRegion ops (i :: rest) :: kk)) cs) s w := by
  refine rr_oper ho hw hk fun s₁ w₁ hR hI K hK => ?_
  obtain ⟨s', h1, h2, h3⟩ := h s₁ w₁ (hst hF hR) hI
  have hr := make_one (P := P) t e z by_ ht hinfo .i64 .i64 n (by rw [Nat.mul_comm]; omega) h63 w₁
  obtain ⟨ti, hi, hzz⟩ := Option.map_eq_some_iff.1 hinfo
  simp only [Prod.mk.injEq] at hzz
  obtain ⟨hz, hs, hb⟩ := hzz
  obtain ⟨zz, hz, hzc⟩ := Option.map_eq_some_iff.1 hz
  have hbb : (ti.bytes : Int) * (n : Int) ≤ 281474976710656 := by
    rw [hb, ← Int.natCast_mul, Nat.mul_comm]
    omega
  have he := fun es => events_make (P := P) w₁ t e ti zz ht hi hz .i64 .i64 n n (by omega) (Int.le_refl _) hbb (by omega) (by rw [hb]; simpa using hbytes) es
  have hl : listed P b.fn a o w₁ = #[] := listed_nil (by unfold execOp; simp only [hop, hx, hy, Sem.events_bind, hr, he, Result.evThen_ok, Sem.events_pure])
  have hrun : (execOp a.eval o).run P w₁ = .ok (.value (.slice (some ⟨w₁.heap.size, 0, none⟩) n n)) (w₁.alloc (.cells (List.replicate n z).toArray e)) := by
    unfold execOp
    simp only [hop, hx, hy, Sem.run_bind, hr, Result.andThen_ok, Sem.run_pure]
  rw [hrun]
  exact hK _ _ ⟨s', hl ▸ h1, h2, h3⟩

/-- What lay there before all. -/
theorem Ok.old (hI : Ok E s w) {a : Addr} {v : Value} (h : E.W0.cell? a = some v) : w.cell? a = some v := by
  have hb := World.block_lt_of_cell? E.W0 _ h
  rw [← h]
  exact World.cell?_of_block (hI.W.same _ hb)
theorem Ok.mayOld (hI : Ok E s w) {a : Addr} {v : Value} (h : E.W0.cell? a = some v) : May s.tg 0 (.cell a) ∧ a.block < w.heap.size := by
  have hb := World.block_lt_of_cell? E.W0 _ h
  exact ⟨.inr (.inl ⟨0, hI.M.old _ rfl hb, .inl rfl⟩), Nat.lt_of_lt_of_le hb hI.W.base⟩
end
end Go.Proofs.Ytbamamkjmfkghaa.Crw
namespace Go.Proofs.Ytbamamkjmfkghaa.Crw
open Go Go.Conc
set_option linter.unusedVariables false
section
variable {P : Program} {B : Usr} {E : Env} {Post : Value → World → Prop} {Child : Sit (proto P B E Post)} {s s' s₁ : St B} {w w' w₁ : World}
theorem rr_of_goes {F : St B → World → Prop} {R : World → World → Prop} {D : World → World → Array Event → Prop} {Stop : Goroutine → World → Prop} (hrefl : ∀ w, R w w)
    (hFR : ∀ {s w s₁ w₁}, F s w → Rl 0 s w s₁ w₁ → F s₁ w₁ ∧ R w w₁) (hD : ∀ {s w w' es}, F s w → Ok E s w → D w w' es → Mv E 0 s w s w' es ∧ F s w')
    (hS : ∀ g s w, Stop g w → F s w → RR P B E Post Child 0 g s w) : ∀ (n : Nat) (g : Goroutine) (s : St B) (w : World), F s w → Goes P true R D Stop n g w → RR P B E Post Child 0 g s w
  | 0, g, s, w, hF, h => hS g s w (h w (hrefl w)) hF
  | n + 1, g, s, w, hF, h => by
    rcases h with h | ⟨hr, h⟩
    · exact hS g s w (h w (hrefl w)) hF
    · refine rr_mk hr fun s₁ w₁ hR hI _ _ => ?_
      obtain ⟨hF1, hR1⟩ := hFR hF hR
      obtain ⟨g', w', es, hgo, hd, hg⟩ := goes_elim (h w₁ hR1)
      obtain ⟨hm, hF2⟩ := hD hF1 hI hd
      exact ⟨g', w', es, s₁, hgo, hm, .refl _, rr_of_goes hrefl hFR hD hS n g' s₁ w' hF2 hg⟩
theorem rr_reads {F : St B → World → Prop} {R : World → World → Prop} {D : World → World → Array Event → Prop} {S : World → Prop} {Q : Act → Prop} (T : Terms R D) (hrefl : ∀ w, R w w) (hd : LetsDraw D)
    (hFR : ∀ {s w s₁ w₁}, F s w → Rl 0 s w s₁ w₁ → F s₁ w₁ ∧ R w w₁) (hD : ∀ {s w w' es}, F s w → Ok E s w → D w w' es → Mv E 0 s w s w' es ∧ F s w')
    {b : Frame} {a : Act} {kk : List Item} {cs : List Frame} {id : Nat} {ops : Array Oper} (hF : F s w) (hk : b.kind ≠ .early) (hm : P.follows .mixedOrders = true)
    (h : ∀ w₁, R w w₁ → AnyCH P R D b.fn .any ops (fun e a _ => e = .normal ∧ Q a) S ops.size (Array.replicate ops.size false) a { w₁ with drawn := w₁.drawn + 1 })
    (hn : ∀ a' s' w', F s' w' → Q a' → RR P B E Post Child 0 (G (b.at a' kk) cs) s' w') : RR P B E Post Child 0 (G (b.at a (.code (.region id ops true) :: kk)) cs) s w := by
  have hg := wpC_region_held (main := true) T hd (id := id) (a := a) (w := w) hm h b kk cs (fun g _ => ∃ a', g = G (b.at a' kk) cs ∧ Q a') 0 rfl hk (fun e a' w' ⟨he, hq⟩ => by
    subst he
    exact fun _ _ => ⟨a', rfl, hq⟩)
  exact rr_of_goes hrefl hFR hD (fun g s w ⟨a', e, hq⟩ hF => e ▸ hn a' s w hF hq) _ _ s w hF hg

/-- A draw, or reads of one block. -/
def ReadsOf (b : Nat) (w w' : World) (es : Array Event) : Prop := (es = #[] ∧ ∃ d, w' = w.at d) ∨ (w' = w ∧ ∀ e ∈ es, ∃ off, e = ⟨.cell ⟨b, off, none⟩, false, false⟩)
/-- One block stands. -/
def SameAt (b : Nat) (w w' : World) : Prop := w'.heap[b]? = w.heap[b]?
theorem terms_reads (b : Nat) : Terms (SameAt b) (ReadsOf b) := ⟨fun _ _ _ h h' => h'.trans h, fun w => .inr ⟨rfl, fun e he => by simp at he⟩⟩
theorem draws_reads (b : Nat) : LetsDraw (ReadsOf b) := fun w => .inl ⟨rfl, w.drawn + 1, rfl⟩
theorem mv_reads {b : Nat} {t : TypeId} {vs : List Value} {es : Array Event} (hO : Own 0 s w b t vs) (h : ReadsOf b w w' es) : Mv E 0 s w s w' es ∧ Own 0 s w' b t vs := by
  rcases h with ⟨rfl, d, rfl⟩ | ⟨rfl, h⟩
  · exact ⟨.idle, ⟨hO.hp, hO.md⟩⟩
  · exact ⟨mv_rd (.inl rfl) fun e he => let ⟨off, e1⟩ := h e he; ⟨_, e1, .inl (hO.md _ rfl), hO.lt⟩, hO⟩
theorem same_rely {b : Nat} {t : TypeId} {vs : List Value} (hO : Own 0 s w b t vs) (hR : Rl 0 s w s₁ w₁) : Own 0 s₁ w₁ b t vs ∧ SameAt b w w₁ :=
  have h := hO.rely hR
  ⟨h, h.hp.trans hO.hp.symm⟩
end
end Go.Proofs.Ytbamamkjmfkghaa.Crw
namespace Go.Proofs.Ytbamamkjmfkghaa.Crw
open Go Go.Conc
open Go.ConcN (upd upd_same upd_ne)
set_option linter.unusedVariables false

section
variable {P : Program} {B : Usr} {E : Env} {Post : Value → World → Prop} {Child : Sit (proto P B E Post)} {k : Nat} {s s' s₀ s₁ : St B} {w w' w₀ w₁ : World}
  {fn : FuncId} {ops : Array Oper} {md : Region.Mode}

theorem CallX.rely (hB : B.Laws) {f : FuncId} {args : Array Value} {Q : Value → St B → World → Prop} (h : CallX P B E Post Child k f args s w Q) (r : Rl k s w s₁ w₁) : CallX P B E Post Child k f args s₁ w₁ Q := by
  obtain ⟨fn, c, h1, h2, h3, h4⟩ := h
  exact ⟨fn, c, h1, h2, h3, fun cal cs hq => RR.rely hB (h4 cal cs hq) r⟩

variable (P B E Post Child k fn ops) in
/-- Operation number i comes up; K is asked of the state in which it ends. -/
def OpX (i : Nat) (K : Act → St B → World → Prop) (a : Act) (s : St B) (w : World) : Prop :=
  match ops[i]? with
  | none => False
  | some o => if Region.wanted o (yielded ops a.tmps) then
      (∀ s₁ w₁, Rl k s w s₁ w₁ → Ok E s₁ w₁ → uponK o a (fun a' w' => ∃ s', Mv E k s₁ w₁ s' w' (listed P fn a o w₁) ∧ Soft s₁ s' ∧ K a' s' w') ((execOp a.eval o).run P w₁)) ∨
      (∃ f args ats Q, o.op = .call { callee := .value (.func f), args := args, argTypes := ats } ∧ CallX P B E Post Child k f (args.map a.eval) s w Q ∧ ∀ v s' w', Q v s' w' → K (a.put o.dst v) s' w')
    else K (a.put o.dst undef) s w
theorem OpX_mono {i : Nat} {a : Act} {K K' : Act → St B → World → Prop} (h : ∀ a s w, K a s w → K' a s w) (hh : OpX P B E Post Child k fn ops i K a s w) : OpX P B E Post Child k fn ops i K' a s w := by
  unfold OpX at *
  split
  · simp_all
  · rename_i o ho
    simp only [ho] at hh
    split
    · rename_i hw
      simp only [hw, if_true] at hh
      rcases hh with hh | ⟨f, args, ats, Q, h1, h2, h3⟩
      · exact .inl fun s₁ w₁ r hI => uponK_mono (fun a' w' ⟨s', x1, x2, x3⟩ => ⟨s', x1, x2, h _ _ _ x3⟩) (hh s₁ w₁ r hI)
      · exact .inr ⟨f, args, ats, Q, h1, h2, fun v s' w' q => h _ _ _ (h3 v s' w' q)⟩
    · rename_i hw; simp only [hw] at hh; exact h _ _ _ hh
theorem OpX.rely (hB : B.Laws) {i : Nat} {a : Act} {K : Act → St B → World → Prop} (hK : ∀ a s w s₁ w₁, K a s w → Rl k s w s₁ w₁ → K a s₁ w₁) (h : OpX P B E Post Child k fn ops i K a s w) (r : Rl k s w s₁ w₁) : OpX P B E Post Child k fn ops i K a s₁ w₁ := by
  unfold OpX at *
  split
  · simp_all
  · rename_i o ho
    simp only [ho] at h
    split
    · rename_i hw
      simp only [hw, if_true] at h
      rcases h with h | ⟨f, args, ats, Q, h1, h2, h3⟩
      · exact .inl fun s₂ w₂ r' hI => h s₂ w₂ (r.trans hB r') hI
      · exact .inr ⟨f, args, ats, Q, h1, h2.rely hB r, h3⟩
    · rename_i hw; simp only [hw] at h; exact hK _ _ _ _ _ h r

variable (P B E Post Child k fn md ops) in
/-- Whatever order is picked from here on. -/
def AnyX (Q : Act → St B → World → Prop) : Nat → Array Bool → Act → St B → World → Prop
  | 0, listed, a, s, w => Region.ready md ops listed = [] ∧ Q a s w
  | fuel + 1, listed, a, s, w =>
    (Region.ready md ops listed = [] → Q a s w) ∧
    ∀ i ∈ Region.ready md ops listed, OpX P B E Post Child k fn ops i (AnyX Q fuel (listed.setIfInBounds i true)) a s w

theorem AnyX.rely (hB : B.Laws) {Q : Act → St B → World → Prop} (hQ : ∀ a s w s₁ w₁, Q a s w → Rl k s w s₁ w₁ → Q a s₁ w₁) : ∀ (fuel : Nat) (listed : Array Bool) (a : Act) (s : St B) (w : World) (s₁ : St B) (w₁ : World),
    AnyX P B E Post Child k fn ops md Q fuel listed a s w → Rl k s w s₁ w₁ → AnyX P B E Post Child k fn ops md Q fuel listed a s₁ w₁
  | 0, _, _, _, _, _, _, h, r => ⟨h.1, hQ _ _ _ _ _ h.2 r⟩
  | fuel + 1, listed, a, s, w, s₁, w₁, h, r => ⟨fun e => hQ _ _ _ _ _ (h.1 e) r, fun i hi => (h.2 i hi).rely hB (AnyX.rely hB hQ fuel _) r⟩

theorem rr_opX (hB : B.Laws) {b : Frame} {a : Act} {kk : List Item} {cs : List Frame} {i : Nat} {rest : List Nat} (hk : b.kind ≠ .early)
    (h : OpX P B E Post Child k b.fn ops i (fun a' s' w' => RR P B E Post Child k (G (b.at a' (.inRegion ops rest :: kk)) cs) s' w') a s w) : RR P B E Post Child k (G (b.at a (.inRegion ops (i :: rest) :: kk)) cs) s w := by
  unfold OpX at h
  split at h
  · exact h.elim
  · rename_i o ho
    split at h
    · rename_i hw
      rcases h with h | ⟨f, args, ats, Q, h1, h2, h3⟩
      · exact rr_oper ho hw hk fun s₁ w₁ hR hI K hK => uponK_mono (fun a' w' x => hK a' w' x) (h s₁ w₁ hR hI)
      · exact rr_call hB ho hw hk h1 h2 h3
    · rename_i hw
      exact rr_ctl hB rfl (fun _ => stepG_unwanted ho (by simpa using hw)) h

theorem anyX_sound (hB : B.Laws) {Q : Act → St B → World → Prop} {b : Frame} {kk : List Item} {cs : List Frame} (hk : b.kind ≠ .early) (hQ : ∀ a s w, Q a s w → RR P B E Post Child k (G (b.at a kk) cs) s w) :
    ∀ (fuel t : Nat) (listed : Array Bool) (a : Act) (s : St B) (w : World), AnyX P B E Post Child k b.fn ops md Q fuel listed a s w →
    RR P B E Post Child k (G (b.at a (.inRegion ops (Region.linearise.go md ops fuel t listed []) :: kk)) cs) s w := by
  have hend : ∀ a s w, Q a s w → RR P B E Post Child k (G (b.at a (.inRegion ops [] :: kk)) cs) s w := fun a s w q => rr_ctl hB rfl (fun _ => stepG_region_end) (hQ a s w q)
  intro fuel
  induction fuel with
  | zero => intro t listed a s w h; simpa [Region.linearise.go] using hend _ _ _ h.2
  | succ fuel ih =>
    intro t listed a s w h
    obtain ⟨h₀, h₁⟩ := h
    simp only [Region.linearise.go]
    change RR P B E Post Child k (G (b.at a (.inRegion ops (match (Region.ready md ops listed)[t % (Region.ready md ops listed).length]? with
      | some i => Region.linearise.go md ops fuel (t / (Region.ready md ops listed).length) (listed.setIfInBounds i true) [i]
      | none => [].reverse) :: kk)) cs) s w
    cases hi : (Region.ready md ops listed)[t % (Region.ready md ops listed).length]? with
    | none =>
      have hnil : Region.ready md ops listed = [] := by
        cases hr : Region.ready md ops listed with
        | nil => rfl
        | cons x xs =>
          rw [hr] at hi
          have hlt : t % (x :: xs).length < (x :: xs).length := Nat.mod_lt _ (by simp)
          simp at hi
          simp at hlt
          omega
      exact hend _ _ _ (h₀ hnil)
    | some i =>
      simp only []
      rw [linearise_go_acc, List.reverse_singleton, List.singleton_append]
      exact rr_opX hB hk (OpX_mono (fun a' s' w' x => ih _ _ a' s' w' x) (h₁ i (List.mem_of_getElem? hi)))

/-- In state a operation o leaves v in its temporary, whatever the world, and does nothing else. -/
def YieldsX (P : Program) (ops : Array Oper) (o : Oper) (v : Value) (a : Act) : Prop :=
  (Region.wanted o (yielded ops a.tmps) = true ∧ ∀ w, (execOp a.eval o).run P w = .ok (.value v) w ∧ (execOp a.eval o).events P w #[] = #[]) ∨
  (Region.wanted o (yielded ops a.tmps) = false ∧ v = undef)
theorem YieldsX.of_same {o : Oper} {v : Value} {a a' : Act} (hy : YieldsX P ops o v a) (he : execOp a'.eval o = execOp a.eval o) (hw : Region.wanted o (yielded ops a'.tmps) = Region.wanted o (yielded ops a.tmps)) : YieldsX P ops o v a' := by
  unfold YieldsX at *
  rw [he, hw]
  exact hy
theorem YieldsX.opX (hB : B.Laws) {i : Nat} {o : Oper} {v : Value} {a : Act} (hi : ops[i]? = some o) (hy : YieldsX P ops o v a) {K : Act → St B → World → Prop} (hK : ∀ a s w s₁ w₁, K a s w → Rl k s w s₁ w₁ → K a s₁ w₁) (h : K (a.put o.dst v) s w) :
    OpX P B E Post Child k fn ops i K a s w := by
  unfold OpX
  simp only [hi]
  rcases hy with ⟨hw, hv⟩ | ⟨hw, rfl⟩
  · simp only [hw, if_true]
    refine .inl fun s₁ w₁ r hI => ?_
    rw [(hv w₁).1]
    have hl : listed P fn a o w₁ = #[] := listed_nil (hv w₁).2
    exact ⟨s₁, by rw [hl]; exact .idle (d := w₁.drawn), .refl _, hK _ _ _ _ _ h r⟩
  · simp only [hw, Bool.false_eq_true, if_false]; exact h

theorem OpX_putIf {j : Nat} {oi oj : Oper} {v : Value} (hj : ops[j]? = some oj) (hap : oi.apart ops oj = true)
    (hsi : ∀ cs b, oi.op ≠ .select cs b) (hsj : ∀ cs b, oj.op ≠ .select cs b) {K : Act → St B → World → Prop} {a : Act}
    (hy : YieldsX P ops oi v a) (h : OpX P B E Post Child k fn ops j K (a.put oi.dst v) s w) :
    OpX P B E Post Child k fn ops j (fun a' s' w' => YieldsX P ops oi v a' ∧ K (a'.put oi.dst v) s' w') a s w := by
  obtain ⟨h1, h2, h3⟩ := Oper.apart_spec hap
  have keep : ∀ (a : Act), YieldsX P ops oi v a → ∀ u, YieldsX P ops oi v (a.put oj.dst u) := fun a hy u =>
    hy.of_same (execOp_put oi hsi a oj.dst u h3) (wanted_put oi a oj.dst u h3)
  unfold OpX at *
  simp only [hj] at *
  rw [wanted_put oj a oi.dst v h1] at h
  split
  · rename_i hw
    simp only [hw, if_true] at h
    rcases h with h | ⟨f, args, ats, Q, e1, e2, e3⟩
    · refine .inl fun s₁ w₁ r hI => ?_
      have h := h s₁ w₁ r hI
      unfold listed at *
      rw [execOp_put oj hsj a oi.dst v h1] at h
      generalize (execOp a.eval oj).run P w₁ = r at *
      cases r with
      | ok n w' =>
        cases n <;> simp only [uponK] at h ⊢
        case value u => obtain ⟨s', x1, x2, x3⟩ := h; exact ⟨s', x1, x2, keep a hy u, by rw [← Act.put_comm a v u h2]; exact x3⟩
        case skip => obtain ⟨s', x1, x2, x3⟩ := h; exact ⟨s', x1, x2, keep a hy _, by rw [← Act.put_comm a v undef h2]; exact x3⟩
      | halt x w' => simp only [uponK] at h
    · have hargs : args.map (a.put oi.dst v).eval = args.map a.eval := Array.map_congr_left fun x hx => Act.eval_put fun d hd hxd => h1 d hd (by
        subst hxd
        refine List.mem_append_left _ (List.mem_filterMap.2 ⟨.tmp d, ?_, rfl⟩)
        rw [e1]
        simp [Op.operands, Call.operands, hx])
      rw [hargs] at e2
      exact .inr ⟨f, args, ats, Q, e1, e2, fun u s' w' q => ⟨keep a hy u, by rw [← Act.put_comm a v u h2]; exact e3 u s' w' q⟩⟩
  · rename_i hw
    simp only [hw] at h
    exact ⟨keep a hy _, by rw [← Act.put_comm a v undef h2]; exact h⟩

theorem anyX_first (hB : B.Laws) {Q : Act → St B → World → Prop} (hQ : ∀ a s w s₁ w₁, Q a s w → Rl k s w s₁ w₁ → Q a s₁ w₁) {i : Nat} {oi : Oper} {v : Value} (hi : ops[i]? = some oi)
    (hsel : ∀ (j : Nat) (o : Oper) cs b, ops[j]? = some o → o.op ≠ .select cs b) :
    ∀ (fuel : Nat) (listed : Array Bool) (a : Act) (s : St B) (w : World),
      (∀ j oj, ops[j]? = some oj → j ≠ i → listed.getD j true = false → (∀ e ∈ oj.after, Region.binds md e = true → e.on ≠ i) → oi.apart ops oj = true) →
      i ∈ Region.ready md ops listed → YieldsX P ops oi v a →
      AnyX P B E Post Child k fn ops md Q fuel (listed.setIfInBounds i true) (a.put oi.dst v) s w → AnyX P B E Post Child k fn ops md Q (fuel + 1) listed a s w := by
  intro fuel
  induction fuel with
  | zero =>
    intro listed a s w _ hr hy H
    refine ⟨fun h => (by rw [h] at hr; cases hr), fun j hj => ?_⟩
    by_cases hji : j = i
    · subst hji; exact hy.opX hB hi (AnyX.rely hB hQ _ _) H
    · have := ready_mono hj hji
      rw [H.1] at this
      cases this
  | succ fuel ih =>
    intro listed a s w hfree hr hy H
    refine ⟨fun h => (by rw [h] at hr; cases hr), fun j hj => ?_⟩
    by_cases hji : j = i
    · subst hji; exact hy.opX hB hi (AnyX.rely hB hQ _ _) H
    · have h1 := H.2 j (ready_mono hj hji)
      obtain ⟨hjun, oj, hoj, hall⟩ := mem_ready.1 hj
      have hnot : ∀ e ∈ oj.after, Region.binds md e = true → e.on ≠ i := fun e he hb heq => by
        have h1 := hall e he hb
        have h0 := (mem_ready.1 hr).1
        rw [heq] at h1
        rcases Nat.lt_or_ge i listed.size with h' | h'
        · simp [h'] at h0 h1; rw [h0] at h1; cases h1
        · simp [Array.getElem?_eq_none h'] at h1
      have h2 := OpX_putIf hoj (hfree j oj hoj hji hjun hnot) (fun cs b => hsel i oi cs b hi) (fun cs b => hsel j oj cs b hoj) hy h1
      have hfree' : ∀ k ok, ops[k]? = some ok → k ≠ i → (listed.setIfInBounds j true).getD k true = false →
          (∀ e ∈ ok.after, Region.binds md e = true → e.on ≠ i) → oi.apart ops ok = true := fun k ok hk hki hun hno => by
        refine hfree k ok hk hki ?_ hno
        by_cases hjk : j = k
        · subst hjk; exact hjun
        · rw [getD_set_ne true hjk] at hun; exact hun
      refine OpX_mono (fun a' s' w' h3 => ih (listed.setIfInBounds j true) a' s' w' hfree' (ready_mono hr (Ne.symm hji)) h3.1 ?_) h2
      rw [Array.setIfInBounds_comm _ _ hji]
      exact h3.2

/-- Take number i first. -/
theorem anyX_take (hB : B.Laws) {Q : Act → St B → World → Prop} (hQ : ∀ a s w s₁ w₁, Q a s w → Rl k s w s₁ w₁ → Q a s₁ w₁) {i : Nat} {oi : Oper} {v : Value} {fuel : Nat} {listed : Array Bool} {a : Act} (hi : ops[i]? = some oi)
    (hs : Region.noSelect ops = true) (hf : Region.free md ops listed i = true) (hr : (Region.ready md ops listed).contains i = true)
    (hy : YieldsX P ops oi v a) (h : AnyX P B E Post Child k fn ops md Q fuel (listed.setIfInBounds i true) (a.put oi.dst v) s w) : AnyX P B E Post Child k fn ops md Q (fuel + 1) listed a s w :=
  anyX_first hB hQ hi (Region.noSelect_spec hs) fuel listed a s w (Region.free_spec hi hf) (by simpa using hr) hy h
/-- Whichever comes up. -/
theorem anyX_all {Q : Act → St B → World → Prop} {rs : List Nat} {fuel : Nat} {listed : Array Bool} {a : Act} (hr : Region.ready md ops listed = rs) (hne : rs ≠ [])
    (h : ∀ i ∈ rs, OpX P B E Post Child k fn ops i (AnyX P B E Post Child k fn ops md Q fuel (listed.setIfInBounds i true)) a s w) : AnyX P B E Post Child k fn ops md Q (fuel + 1) listed a s w :=
  ⟨fun h0 => absurd (hr ▸ h0) hne, hr ▸ h⟩
theorem anyX_done {Q : Act → St B → World → Prop} {listed : Array Bool} {a : Act} (hr : Region.ready md ops listed = []) (h : Q a s w) : ∀ fuel, AnyX P B E Post Child k fn ops md Q fuel listed a s w
  | 0 => ⟨hr, h⟩
  | _ + 1 => ⟨fun _ => h, fun i hi => by rw [hr] at hi; cases hi⟩
/-- It is a value's turn. -/
theorem opX_value {i : Nat} {o : Oper} {K : Act → St B → World → Prop} {a : Act} (ho : ops[i]? = some o) (hw : Region.wanted o (yielded ops a.tmps) = true)
    (h : ∀ s₁ w₁, Rl k s w s₁ w₁ → Ok E s₁ w₁ → ∀ KK : Act → World → Prop, (∀ a' w', (∃ s', Mv E k s₁ w₁ s' w' (listed P fn a o w₁) ∧ Soft s₁ s' ∧ K a' s' w') → KK a' w') → uponK o a KK ((execOp a.eval o).run P w₁)) : OpX P B E Post Child k fn ops i K a s w := by
  unfold OpX
  simp only [ho, hw, if_true]
  exact .inl fun s₁ w₁ r hI => h s₁ w₁ r hI _ fun _ _ x => x
/-- It is a call's turn. -/
theorem opX_call {i : Nat} {o : Oper} {K : Act → St B → World → Prop} {a : Act} {f : FuncId} {args : Array Operand} {ats : Array TypeId} {Q : Value → St B → World → Prop} (ho : ops[i]? = some o) (hw : Region.wanted o (yielded ops a.tmps) = true)
    (hop : o.op = .call { callee := .value (.func f), args := args, argTypes := ats }) (hc : CallX P B E Post Child k f (args.map a.eval) s w Q) (hn : ∀ v s' w', Q v s' w' → K (a.put o.dst v) s' w') : OpX P B E Post Child k fn ops i K a s w := by
  unfold OpX
  simp only [ho, hw, if_true]
  exact .inr ⟨f, args, ats, Q, hop, hc, hn⟩
/-- The beginning. -/
theorem rr_any (hB : B.Laws) {Q : Act → St B → World → Prop} {b : Frame} {a : Act} {kk : List Item} {cs : List Frame} {id : Nat} (hk : b.kind ≠ .early) (hm : P.follows .mixedOrders = true) (hQ : ∀ a s w s₁ w₁, Q a s w → Rl k s w s₁ w₁ → Q a s₁ w₁)
    (h : AnyX P B E Post Child k b.fn ops .any Q ops.size (Array.replicate ops.size false) a s w) (hn : ∀ a s w, Q a s w → RR P B E Post Child k (G (b.at a kk) cs) s w) :
    RR P B E Post Child k (G (b.at a (.code (.region id ops true) :: kk)) cs) s w :=
  rr_draw hB fun t s₁ w₁ hR => by
    simp only [Region.schedule, hm, Bool.true_or, if_true]
    exact anyX_sound hB hk hn _ _ _ _ _ _ (AnyX.rely hB hQ _ _ _ _ _ _ _ h hR)

/-! ### cells that may be read -/
/-- A cell that k may read. -/
def RdC (k : Nat) (s : St B) (w : World) (b off : Nat) (v : Value) : Prop := w.cell? ⟨b, off, none⟩ = some v ∧ May s.tg k (.cell ⟨b, off, none⟩) ∧ b < w.heap.size
theorem cell_inv {b off : Nat} {v : Value} (h : w.cell? ⟨b, off, none⟩ = some v) : ∃ c t fr, w.heap[b]? = some (.cells c t fr) ∧ c[off]? = some v := by
  unfold World.cell? at h
  simp only at h
  split at h
  · rename_i c t fr e
    exact ⟨c, t, fr, e, by simpa using h⟩
  · cases h
theorem RdC.rely {b off : Nat} {v : Value} (h : RdC k s w b off v) (hR : Rl k s w s₁ w₁) : RdC k s₁ w₁ b off v := by
  obtain ⟨h1, h2, h3⟩ := h
  obtain ⟨c, t, fr, e1, e2⟩ := cell_inv h1
  obtain ⟨c', f1, f2, f3⟩ := hR.cells b c t fr e1
  refine ⟨?_, h2.of_mode (hR.mode _ h3) (hR.kn _), Nat.lt_of_lt_of_le h3 hR.size⟩
  unfold World.cell?
  simp only [f1]
  simpa [f3 off h2] using e2
theorem RdC.leaves {b off : Nat} {v : Value} (h : RdC k s w b off v) (hl : Leaves b s w s' w') : RdC k s' w' b off v := by
  obtain ⟨h1, h2, h3⟩ := h
  obtain ⟨c, t, fr, e1, e2⟩ := cell_inv h1
  have e1' := hl.1.trans e1
  refine ⟨?_, ?_, (Array.getElem?_eq_some_iff.1 e1').1⟩
  · unfold World.cell?
    simp only [e1']
    simpa using e2
  · unfold May at *
    rw [hl.2.1 _ rfl, hl.2.2]; exact h2
theorem Rds.rdc {b : Nat} {t : TypeId} {vs : List Value} (h : Rds k s w b t vs) {off : Nat} {v : Value} (e : vs[off]? = some v) : RdC k s w b off v := ⟨(h.cell off).trans e, h.md _ rfl, h.lt⟩

/-- Numbers in a slice that k may read. -/
def Nums (k : Nat) (s : St B) (w : World) (v : Value) (l : List Int) : Prop :=
  ∃ A cap, v = .slice A l.length cap ∧ l.length ≤ cap ∧ ∀ (i : Nat) (x : Int), l[i]? = some x → ∃ b o, A = some ⟨b, o, none⟩ ∧ RdC k s w b (o + i) (.int .i64 x)
theorem Nums.map {v : Value} {l : List Int} (h : Nums k s w v l) (f : ∀ b o x, RdC k s w b o x → RdC k s₁ w₁ b o x) : Nums k s₁ w₁ v l := by
  obtain ⟨A, cap, h1, h2, h3⟩ := h
  exact ⟨A, cap, h1, h2, fun i x hx => let ⟨b, o, e1, e2⟩ := h3 i x hx; ⟨b, o, e1, f _ _ _ e2⟩⟩
theorem Nums.rely {v : Value} {l : List Int} (h : Nums k s w v l) (hR : Rl k s w s₁ w₁) : Nums k s₁ w₁ v l := h.map fun _ _ _ x => x.rely hR
theorem Nums.len {A : Option Addr} {n cap : Nat} {l : List Int} (h : Nums k s w (.slice A n cap) l) : n = l.length ∧ n ≤ cap := by
  obtain ⟨A', cap', h1, h2, _⟩ := h
  cases h1
  exact ⟨rfl, h2⟩
theorem Nums.at {A : Option Addr} {n cap : Nat} {l : List Int} (h : Nums k s w (.slice A n cap) l) {i : Nat} (hi : i < l.length) : ∃ b o, A = some ⟨b, o, none⟩ ∧ RdC k s w b (o + i) (.int .i64 l[i]) := by
  obtain ⟨A', cap', h1, h2, h3⟩ := h
  cases h1
  exact h3 i _ (List.getElem?_eq_getElem hi)
theorem Nums.take {A : Option Addr} {n cap m : Nat} {l : List Int} (h : Nums k s w (.slice A n cap) l) (hm : m ≤ n) : Nums k s w (.slice A m cap) (l.take m) := by
  obtain ⟨A', cap', h1, h2, h3⟩ := h
  cases h1
  have e : (l.take m).length = m := by rw [List.length_take]; omega
  refine ⟨A, cap, by rw [e], by omega, fun i x hx => h3 i x ?_⟩
  rw [List.getElem?_take] at hx
  split at hx
  · exact hx
  · cases hx
theorem Nums.drop {A : Option Addr} {n cap m : Nat} {l : List Int} (h : Nums k s w (.slice A n cap) l) (hm : m ≤ n) {A' : Option Addr} (hA : m < n → A' = A.map (·.add m)) : Nums k s w (.slice A' (n - m) (cap - m)) (l.drop m) := by
  obtain ⟨A0, cap', h1, h2, h3⟩ := h
  cases h1
  have e : (l.drop m).length = l.length - m := List.length_drop
  refine ⟨A', cap - m, by rw [e], by omega, fun i x hx => ?_⟩
  rw [List.getElem?_drop] at hx
  obtain ⟨b, o, e1, e2⟩ := h3 _ x hx
  have hlt := (List.getElem?_eq_some_iff.1 hx).1
  refine ⟨b, o + m, ?_, by rw [Nat.add_assoc]; exact e2⟩
  rw [hA (by omega), e1, Option.map_some, Addr.add_lit]

/-- Lists of numbers in a slice that k may read. -/
def Numss (k : Nat) (s : St B) (w : World) (v : Value) (ls : List (List Int)) : Prop :=
  ∃ A cap, v = .slice A ls.length cap ∧ ∀ (i : Nat) (l : List Int), ls[i]? = some l → ∃ b o vi, A = some ⟨b, o, none⟩ ∧ RdC k s w b (o + i) vi ∧ Nums k s w vi l
theorem Numss.map {v : Value} {ls : List (List Int)} (h : Numss k s w v ls) (f : ∀ b o x, RdC k s w b o x → RdC k s₁ w₁ b o x) : Numss k s₁ w₁ v ls := by
  obtain ⟨A, cap, h1, h3⟩ := h
  exact ⟨A, cap, h1, fun i x hx => let ⟨b, o, vi, e1, e2, e3⟩ := h3 i x hx; ⟨b, o, vi, e1, f _ _ _ e2, e3.map f⟩⟩
theorem Numss.rely {v : Value} {ls : List (List Int)} (h : Numss k s w v ls) (hR : Rl k s w s₁ w₁) : Numss k s₁ w₁ v ls := h.map fun _ _ _ x => x.rely hR
theorem Numss.at {A : Option Addr} {n cap : Nat} {ls : List (List Int)} (h : Numss k s w (.slice A n cap) ls) {i : Nat} (hi : i < ls.length) : ∃ b o vi, A = some ⟨b, o, none⟩ ∧ RdC k s w b (o + i) vi ∧ Nums k s w vi ls[i] := by
  obtain ⟨A', cap', h1, h3⟩ := h
  cases h1
  exact h3 i _ (List.getElem?_eq_getElem hi)
end
end Go.Proofs.Ytbamamkjmfkghaa.Crw
