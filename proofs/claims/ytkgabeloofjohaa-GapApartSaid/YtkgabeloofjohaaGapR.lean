/- Layer 13, the reference: Take, Give (printed by wip/tools/gapr.py). -/
import Derived.Test.YtkgabeloofjohaaGapQ
import Derived.Test.YtkgabeloofjohaaWLast
namespace Go.Proofs.Ytkgabeloofjohaa.Gap
set_option linter.unusedVariables false
set_option linter.unusedSimpArgs false
open Go.RowKit Go.Proofs.YtkgabeloofjohaaW.PrintWords Go.Proofs.YtkgabeloofjohaaW.PrintLast Go.Proofs.Ytkgabeloofjohaa.Kit

theorem zeroTR (W : World) : (zeroValue TR).run Try.prog W = .ok (.agg #[.slice none 0 0, .int .u64 0]) W := by kernel_rfl
theorem infoT : (Try.prog.info? TK).map (fun i => (i.zero, i.size, i.bytes)) = some (some (.agg #[.int .u64 0, .slice none 0 0]), 2, 32) := by kernel_rfl
theorem R_form {α : Type} {k : Kd α} {e base : Nat} {w : World} {ok : Nat → Prop} {v : Value} {xs : List α} (h : k.R e w base ok v xs) (hn : 0 < xs.length) : ∃ rb cap, v = .slice (some ⟨rb, 0, none⟩) xs.length cap := by
  obtain ⟨inner, ho, _⟩ := h.2
  rcases ho.2 with ⟨_, h2⟩ | ⟨g, cap, cur, h2, _⟩
  · omega
  · exact ⟨g, cap, h2⟩
theorem kT_el {w : World} {base n c : Nat} {ok : Nat → Prop} {A : Option Addr} {xs : List RT} (h : kT.R TK w base ok (.slice A n c) xs) (i : Nat) (hi : i < xs.length) :
    ∃ b x B l d, A = some ⟨b, 0, none⟩ ∧ xs[i]? = some x ∧ w.cell? ⟨b, i * 2, none⟩ = some (.int .u64 x.t) ∧ w.cell? ⟨b, i * 2 + 1, none⟩ = some (.slice B l d) ∧ kH.R TH w base ok (.slice B l d) x.hs := by
  obtain ⟨b, cap, e⟩ := R_form h (by omega)
  injection e with e1 e2 e3
  subst e1 e2 e3
  obtain ⟨cs, hl, hM, hcc, _⟩ := Kd.R_elem h ⟨0, []⟩ (i : Int) (by omega) (by omega)
  rw [Int.toNat_natCast] at hM hcc
  rw [List.getD_eq_getElem?_getD, List.getElem?_eq_getElem hi, Option.getD_some] at hM
  obtain ⟨v, rfl, hR⟩ := kT_M hM
  obtain ⟨B, d, rfl⟩ := Kd.R_slice hR
  have h0 := hcc 0 _ rfl
  have h1 := hcc 1 _ rfl
  exact ⟨b, xs[i], B, _, d, rfl, List.getElem?_eq_getElem hi, h0, h1, Kd.R_mono hR (fun _ hk => hk.1)⟩
theorem cellA {w : World} {a : Addr} {v : Value} (h : w.cell? a = some v) (o : Obj) : (w.drew.alloc o).cell? a = some v := pw_cell_below ((Below.refl _ w).drew.alloc (Nat.le_refl _) o) h
theorem cellC {w : World} {a : Addr} {v : Value} (h : w.cell? a = some v) (o : Obj) : (w.alloc o).cell? a = some v := pw_cell_below ((Below.refl _ w).alloc (Nat.le_refl _) o) h
theorem cellG {w w2 : World} {row : Option Nat} {b o : Nat} {v : Value} (hg : w.grownBy w2 row) (h : w.cell? ⟨b, o, none⟩ = some v) (hne : some b ≠ row) : w2.cell? ⟨b, o, none⟩ = some v := (cell_block (a := ⟨b, o, none⟩) (hg.block b (World.block_lt_of_cell? w _ h) hne)).trans h
theorem cellF {w : World} {a p : Addr} {v : Value} (h : w.cell? a = some v) (u : Value) (hne : a.block ≠ p.block) : (w.setCell p u).cell? a = some v := (cell_block (Below.heap_setCell w p u a.block hne)).trans h
theorem blkG {w w2 : World} {row : Option Nat} {b : Nat} {cs : List Value} {t : TypeId} (hg : w.grownBy w2 row) (h : Blk w b cs t) (hne : some b ≠ row) : Blk w2 b cs t := h.move (hg.block b h.lt hne)
theorem belowG {w w2 : World} {row : Option Nat} {B : Nat} (hg : w.grownBy w2 row) (h : ∀ k, row = some k → B ≤ k) (hB : B ≤ w.heap.size) : Below B w w2 :=
  ⟨hg.os, hg.tape, hg.output, hg.size, fun k hk => hg.block k (by omega) (fun e => by have := h k e.symm; omega)⟩
theorem belowS {w : World} {B g o : Nat} (u : Value) (h : B ≤ g) : Below B w (w.setCell ⟨g, o, none⟩ u) :=
  ⟨rfl, rfl, rfl, by simp [World.setCell], fun k hk => Below.heap_setCell w ⟨g, o, none⟩ u k (by show k ≠ g; omega)⟩
theorem results_row3 {P : Program} {fn : Func} {p u v : Tmp} {ty : TypeId} (h : fn.results = #[.cell p ty, .tmp u, .tmp v]) (tmps : Array Value) (w : World) (g : Nat) (t : TypeId) (cs : Array Value) (fr : Nat × Nat) (d : TypeDesc)
    (hp : tmps.getD p undef = .pointer (some ⟨g, 0, none⟩)) (hg : w.heap[g]? = some (.cells cs t fr))
    (hu : P.underlying ty = some d) (hd : (match d with | .struct _ | .array _ _ => true | _ => false) = true) (hi : (P.info? ty).map (·.size) = some cs.size) :
    (results fn tmps).run P w = .ok (.tuple #[.agg cs, tmps.getD u undef, tmps.getD v undef]) w := by
  have hp' : tmps[p]?.getD undef = .pointer (some ⟨g, 0, none⟩) := by simpa using hp
  simp [results, h, hp', asAddr, run_loadVar_row w g t ty cs fr d hg hu hd hi]
theorem results_row2 {P : Program} {fn : Func} {p u : Tmp} {ty : TypeId} (h : fn.results = #[.cell p ty, .tmp u]) (tmps : Array Value) (w : World) (g : Nat) (t : TypeId) (cs : Array Value) (fr : Nat × Nat) (d : TypeDesc)
    (hp : tmps.getD p undef = .pointer (some ⟨g, 0, none⟩)) (hg : w.heap[g]? = some (.cells cs t fr))
    (hu : P.underlying ty = some d) (hd : (match d with | .struct _ | .array _ _ => true | _ => false) = true) (hi : (P.info? ty).map (·.size) = some cs.size) :
    (results fn tmps).run P w = .ok (.tuple #[.agg cs, tmps.getD u undef]) w := by
  have hp' : tmps[p]?.getD undef = .pointer (some ⟨g, 0, none⟩) := by simpa using hp
  simp [results, h, hp', asAddr, run_loadVar_row w g t ty cs fr d hg hu hd hi]
theorem szTR (cs : Array Value) (h : cs.size = 2) : (Try.prog.info? TR).map (·.size) = some cs.size := by
  rw [h]
  kernel_rfl
/-- What the new row may lie in. -/
def okN (okm : Nat → Prop) (z k : Nat) : Prop := (okm k ∧ k < z) ∨ z + 3 ≤ k
/-- The new value of a reference state while it is built: in block z + 2. -/
structure Bld (wr : World) (z : Nat) (okm : Nat → Prop) (v : Value) (last : Int) (ys : List RT) : Prop where
  blk : Blk wr (z + 1 + 1) [v, .int .u64 last] TR
  row : kT.R TK wr 0 (okN okm z) v ys
  own : ∀ k, v.ownBlock = some k → z + 3 ≤ k
  size : z + 3 ≤ wr.heap.size
theorem Bld.below {wr w' : World} {z : Nat} {okm : Nat → Prop} {v : Value} {last : Int} {ys : List RT} (h : Bld wr z okm v last ys) (hb : Below wr.heap.size wr w') : Bld w' z okm v last ys :=
  ⟨h.blk.belowSize hb, Kd.R_below h.row hb, h.own, by have := h.size; have := hb.size; omega⟩
theorem Bld.put {wr w2 : World} {z : Nat} {okm : Nat → Prop} {v v1 : Value} {last : Int} {ys ys' : List RT} (h : Bld wr z okm v last ys) (ho : kT.R TK w2 0 (okN okm z) v1 ys') (hg : wr.grownBy w2 v.ownBlock) (hat : v1.ownBlock = v.ownBlock ∨ ∃ b, v1.ownBlock = some b ∧ wr.heap.size ≤ b) :
    Bld (w2.setCell ⟨z + 1 + 1, 0, none⟩ v1) z okm v1 last ys' ∧ Below (z + 2) wr (w2.setCell ⟨z + 1 + 1, 0, none⟩ v1) ∧ Blk w2 (z + 1 + 1) [v, .int .u64 last] TR := by
  have hb : Blk w2 (z + 1 + 1) [v, .int .u64 last] TR := blkG hg h.blk (fun e => by have := h.own _ e.symm; omega)
  have hs := h.size
  have hs2 := hg.size
  refine ⟨⟨hb.put 0 v1, Kd.R_far ho (fun k hk => ?_) v1, fun k hk => ?_, by rw [size_set]; omega⟩, (belowG hg (fun k hk => by have := h.own k hk; omega) (by omega)).trans (belowS v1 (by omega)), hb⟩
  · show k ≠ z + 1 + 1
    rcases hk with hk | hk <;> omega
  · rcases hat with hat | ⟨b, hb1, hle⟩
    · exact h.own k (by rw [← hat]; exact hk)
    · rw [hb1] at hk
      injection hk with hk
      omega


set_option maxRecDepth 100000 in
set_option maxHeartbeats 4000000 in
theorem refTakeOk (okm : Nat → Prop) (A : Option Addr) (n c : Nat) (xs : List RT) (last : Int) (B : Option Addr) (k d : Nat) (hs : List Hd) (w : World) (hR : kT.R TK w 0 okm (.slice A n c) xs) (hB : kH.C w B k hs) (hk : k ≤ 256) (hn : n < 256) (hw : IntKind.u64.wrap (last + 1) = last + 1) :
    Calls Try.prog 17 #[.agg #[.slice A n c, .int .u64 last], .slice B k d] w fun e w' => ∃ v', e = .returned (.tuple #[.agg #[v', .int .u64 (last + 1)], .int .u64 (last + 1), .int .i64 0]) ∧ kT.R TK w' 0 (fun i => (okm i ∧ i < w.heap.size) ∨ w.heap.size ≤ i) v' (xs ++ [⟨last + 1, hs⟩]) ∧ Below w.heap.size w w' := by
  have hu := Try.underlying28
  have huK := Try.underlying39
  have hz := zeroTR
  have i1 : ¬ (256 : Int) < (k : Int) := by omega
  have i2 : ¬ (256 : Int) ≤ (n : Int) := by omega
  have HN := Aside0.mk hn
  have HLn : Aside0 (xs.length = n) := ⟨by
    obtain ⟨A', c', e, _⟩ := Kd.R_reads hR
    injection e with _ e _
    exact e.symm⟩
  have HH : Aside0 (∀ W', Below w.heap.size w W' → Calls Try.prog 33 #[.slice B k d] W' fun e w' => ∃ v1, e = .returned v1 ∧ kH.R TH w' W'.heap.size (fun _ => True) v1 hs ∧ Below W'.heap.size W' w') := ⟨fun W' h => refHolds B k d hs W' (Kd.C_below hB h) (by omega)⟩
  obtain ⟨W3, hW3⟩ : ∃ W3, W3 = ((w.alloc (.cells #[.slice A n c, .int .u64 last] TR)).alloc (.cells #[.slice none 0 0, .int .u64 0] TR)).alloc (.cells #[.slice none 0 0, .int .u64 (last + 1)] TR) := ⟨_, rfl⟩
  have HB3 : Aside0 (Below w.heap.size w W3) := ⟨by rw [hW3]; exact (((Below.refl _ _).alloc (Nat.le_refl _) _).alloc (by rw [World.size_alloc]; omega) _).alloc (by rw [World.size_alloc, World.size_alloc]; omega) _⟩
  have HZ0 : Aside0 (Blk W3 w.heap.size [.slice A n c, .int .u64 last] TR) := ⟨by rw [hW3]; exact ((Blk.newA w _ _).alloc _).alloc _⟩
  have HZ1 : Aside0 (Blk W3 (w.heap.size + 1) [.slice none 0 0, .int .u64 0] TR) := ⟨by
    rw [hW3]
    have := (Blk.newA (w.alloc (.cells #[.slice A n c, .int .u64 last] TR)) #[.slice none 0 0, .int .u64 0] TR).alloc (.cells #[.slice none 0 0, .int .u64 (last + 1)] TR)
    rw [World.size_alloc] at this
    exact this⟩
  have HBl0 : Aside0 (Bld W3 w.heap.size okm (.slice none 0 0) (last + 1) []) := ⟨by
    refine ⟨?_, Kd.R_nil _ _ _ _ _, fun k hk => by simp [Value.ownBlock] at hk, by rw [hW3]; simp⟩
    rw [hW3]
    have := Blk.newA ((w.alloc (.cells #[.slice A n c, .int .u64 last] TR)).alloc (.cells #[.slice none 0 0, .int .u64 0] TR)) #[.slice none 0 0, .int .u64 (last + 1)] TR
    rw [World.size_alloc, World.size_alloc] at this
    exact this⟩
  have HM : Aside0 (∀ W', Below w.heap.size w W' → kT.R TK W' 0 (fun k => okm k ∧ k < w.heap.size) (.slice A n c) xs) := ⟨fun W' h => Kd.R_below (Kd.R_mono (Kd.R_bound hR) (fun k hk => ⟨hk.1, hk.2.2.1⟩)) h⟩
  clear hR hB
  go_enter Try.func17, Try.ntmps17
  go_upto_region 4 with (fail)
  rw [← hW3]
  clear hW3 hw
  generalize hzz : w.heap.size = z at *
  go_wp2_with fail
  go_loopw [8] (fun u wr => ∃ (i : Nat) (v : Value), i ≤ n ∧ u = .int .i64 i ∧ Aside0 (Bld wr z okm v (last + 1) (xs.take i)) ∧ Aside0 (Below (z + 2) W3 wr)) (fun u _ => n - (intOf u).toNat)
  case atStart => exact ⟨0, .slice none 0 0, Nat.zero_le _, rfl, HBl0, ⟨⟨rfl, rfl, rfl, Nat.le_refl _, fun _ _ => rfl⟩⟩⟩
  case round =>
    obtain ⟨i, v, hi, rfl, HBl, HB⟩ := hrel
    by_cases hlt : i < n
    · obtain ⟨A1, c1, rfl⟩ := Kd.R_slice HBl.out.row
      have HZr : Aside0 (Below z w wr) := ⟨HB3.out.trans (HB.out.mono (by omega))⟩
      have HZ0r := Aside0.mk (HZ0.out.below HB.out (by omega))
      have hm := HM.out wr HZr.out
      obtain ⟨b, x, B1, l1, d1, rfl, hx, c0, c1', hxR⟩ := kT_el hm i (by rw [HLn.out]; exact hlt)
      have HLt : Aside0 (b < z) := ⟨(hm.1 b rfl).2⟩
      have i3 : (i : Int) < (n : Int) := by omega
      have g0 := HZ0r.out.cell 0 _ rfl
      have HNew : Aside0 ((xs.take i ++ [x]).length = i + 1) := ⟨by rw [List.length_append, List.length_take, HLn.out]; simp; omega⟩
      have HTk : Aside0 (xs.take (i + 1) = xs.take i ++ [x]) := ⟨by rw [List.take_add_one, hx]; rfl⟩
      have HLen : Aside0 ((xs.take i).length ≤ i) := ⟨by rw [List.length_take]; omega⟩
      have HXM : Aside0 (kT.M wr.drew 0 (fun k => okm k ∧ k < z) x [.int .u64 x.t, .slice B1 l1 d1]) := ⟨kT_mkM x (Kd.R_below hxR (Below.refl _ wr).drew)⟩
      have HBl' := Aside0.mk (HBl.out.below (Below.refl _ wr).drew)
      have g2 := HBl.out.blk.cell 0 _ rfl
      clear hx hm hxR HZr HZ0r
      generalize (xs.take i).length = L1 at *
      obtain ⟨xt, hxt⟩ : ∃ t, t = x.t := ⟨_, rfl⟩
      rw [← hxt] at c0 HXM
      clear hxt
      clear HBl
      have HBl := HBl'
      clear HBl'
      go_upto_region 7 with (fail)
      refine start_ (n := 11) (S := fun w' => w'.cell? ⟨z + 1 + 1, 0, none⟩ = some (.slice A1 L1 c1) ∧ w'.cell? ⟨z, 0, none⟩ = some (.slice (some ⟨b, 0, none⟩) n c) ∧ w'.cell? ⟨b, i * 2, none⟩ = some (.int .u64 xt) ∧ w'.cell? ⟨b, i * 2 + 1, none⟩ = some (.slice B1 l1 d1)) (ds := [10]) #[false, false, false, false, false, false, false, false, false, false, false] (by kernel_rfl) rfl rfl ⟨g2, g0, c0, c1'⟩ (fun hHeld => ?_)
      refine pure_ (i := 0) (N := some 30) (v := ?_) (a' := ?_) #[true, false, false, false, false, false, false, false, false, false, false] rfl rfl (by kernel_rfl) (fun _ _ _ h => h) (Or.inl ⟨by rfl, ?_⟩) ?_ ?_
      rotate_left
      · intro w'
        go_simp
        with_reducible rfl
      rotate_left
      · simp only [Act.put, List.setIfInBounds_toArray, List.set_cons_zero, List.set_cons_succ, i64_w, i32_w]
        rfl
      refine pure_ (i := 2) (N := some 32) (v := ?_) (a' := ?_) #[true, false, true, false, false, false, false, false, false, false, false] rfl rfl (by kernel_rfl) (fun _ _ _ h => h) (Or.inl ⟨by rfl, ?_⟩) ?_ ?_
      rotate_left
      · intro w'
        go_simp
        with_reducible rfl
      rotate_left
      · simp only [Act.put, List.setIfInBounds_toArray, List.set_cons_zero, List.set_cons_succ, i64_w, i32_w]
        rfl
      refine pure_ (i := 4) (N := some 34) (v := ?_) (a' := ?_) #[true, false, true, false, true, false, false, false, false, false, false] rfl rfl (by kernel_rfl) (fun _ _ _ h => h) (Or.inl ⟨by rfl, ?_⟩) ?_ ?_
      rotate_left
      · intro w'
        go_simp
        with_reducible rfl
      rotate_left
      · simp only [Act.put, List.setIfInBounds_toArray, List.set_cons_zero, List.set_cons_succ, i64_w, i32_w]
        rfl
      refine take_ (i := 1) (N := some 31) (v := ?_) (a' := ?_) #[true, true, true, false, true, false, false, false, false, false, false] rfl rfl (by kernel_rfl) (fun _ _ _ h => h) (Or.inl ⟨by rfl, ?_⟩) hHeld ?_ ?_
      rotate_left
      · rintro w' ⟨s0, s1, s2, s3⟩
        go_simp
        with_reducible rfl
      rotate_left
      · simp only [Act.put, List.setIfInBounds_toArray, List.set_cons_zero, List.set_cons_succ, i64_w, i32_w]
        rfl
      refine take_ (i := 3) (N := some 33) (v := ?_) (a' := ?_) #[true, true, true, true, true, false, false, false, false, false, false] rfl rfl (by kernel_rfl) (fun _ _ _ h => h) (Or.inl ⟨by rfl, ?_⟩) hHeld ?_ ?_
      rotate_left
      · rintro w' ⟨s0, s1, s2, s3⟩
        go_simp
        with_reducible rfl
      rotate_left
      · simp only [Act.put, List.setIfInBounds_toArray, List.set_cons_zero, List.set_cons_succ, i64_w, i32_w]
        rfl
      refine pure_ (i := 5) (N := some 35) (v := ?_) (a' := ?_) #[true, true, true, true, true, true, false, false, false, false, false] rfl rfl (by kernel_rfl) (fun _ _ _ h => h) (Or.inl ⟨by rfl, ?_⟩) ?_ ?_
      rotate_left
      · intro w'
        go_simp
        with_reducible rfl
      rotate_left
      · simp only [Act.put, List.setIfInBounds_toArray, List.set_cons_zero, List.set_cons_succ, i64_w, i32_w]
        rfl
      refine take_ (i := 6) (N := some 36) (v := ?_) (a' := ?_) #[true, true, true, true, true, true, true, false, false, false, false] rfl rfl (by kernel_rfl) (fun _ _ _ h => h) (Or.inl ⟨by rfl, ?_⟩) hHeld ?_ ?_
      rotate_left
      · rintro w' ⟨s0, s1, s2, s3⟩
        go_simp
        with_reducible rfl
      rotate_left
      · simp only [Act.put, List.setIfInBounds_toArray, List.set_cons_zero, List.set_cons_succ, i64_w, i32_w]
        rfl
      refine one_ (i := 7) (N := some 37) #[true, true, true, true, true, true, true, true, false, false, false] rfl rfl (by kernel_rfl) (by decide) (fun K hK => ?_)
      refine value_ (w1 := ?_) (v := ?_) (by rfl) rfl ?_ ?_
      rotate_left 2
      · go_simp
        constructor
        · rfl
        · rfl
      refine hK.out _ _ ⟨cellA g2 _, cellA g0 _, cellA c0 _, cellA c1' _⟩ (fun hHeld => ?_)
      clear hK K
      refine norm_ (a' := ?_) ?_ ?_
      rotate_left
      · show Act.put _ (some 37) _ = _
        simp only [Act.put, List.setIfInBounds_toArray, List.set_cons_zero, List.set_cons_succ, i64_w, i32_w]
        rfl
      refine one_ (i := 8) (N := some 38) #[true, true, true, true, true, true, true, true, true, false, false] rfl rfl (by kernel_rfl) (by decide) (fun K hK => ?_)
      rw [show (wr.alloc (.cells #[.int .u64 xt, .slice B1 l1 d1] TK)).drew = wr.drew.alloc (.cells #[.int .u64 xt, .slice B1 l1 d1] TK) from rfl]
      refine Kd.R_append_step kT (w0 := wr.drew) 0 (by rfl) (.tmp 31) (.tmp 37) TKs TK (.agg #[.int .u64 0, .slice none 0 0]) 32 rfl Try.underlying25 infoT rfl (by decide) (by omega) (.slice A1 L1 c1) (xs.take i) x [.int .u64 xt, .slice B1 l1 d1] (okN okm z) (fun k => okm k ∧ k < z) rfl rfl ?a2P ?a2K ?a2F ?a2O ?a2B ?a2S ?a2L ?_
      (case a2P => exact HXM.out)
      (case a2K => exact fun k hk => ⟨Or.inl hk, fun e => by have := HBl.out.own k e.symm; omega⟩)
      (case a2F => exact fun k hk => Or.inr (Nat.le_trans HBl.out.size hk))
      (case a2O => exact HBl.out.row)
      (case a2B => exact Below.refl _ _)
      (case a2S => exact Nat.zero_le _)
      (case a2L => rw [List.length_take]; have := HN.out; omega)
      intro v1 w2 ho hb hg hat
      obtain ⟨A5, c5, rfl⟩ := Kd.R_slice ho
      rw [HNew.out] at ho hat ⊢
      have hput := HBl.out.put ho hg hat
      have g22 := hput.2.2.cell 0 _ rfl
      have f22 := hput.2.2.free 0
      have HPut := Aside0.mk hput
      refine hK.out _ _ ⟨cellG hg g2 (fun e => by have := HBl.out.own _ e.symm; omega), cellG hg g0 (fun e => by have := HBl.out.own _ e.symm; omega), cellG hg c0 (fun e => by have := HBl.out.own _ e.symm; have := HLt.out; omega), cellG hg c1' (fun e => by have := HBl.out.own _ e.symm; have := HLt.out; omega)⟩ (fun hHeld => ?_)
      clear hK K
      refine norm_ (a' := ?_) ?_ ?_
      rotate_left
      · show Act.put _ (some 38) _ = _
        simp only [Act.put, List.setIfInBounds_toArray, List.set_cons_zero, List.set_cons_succ, i64_w, i32_w]
        rfl
      refine pure_ (i := 9) (N := some 39) (v := ?_) (a' := ?_) #[true, true, true, true, true, true, true, true, true, true, false] rfl rfl (by kernel_rfl) (fun _ _ _ h => h) (Or.inl ⟨by rfl, ?_⟩) ?_ ?_
      rotate_left
      · intro w'
        go_simp
        with_reducible rfl
      rotate_left
      · simp only [Act.put, List.setIfInBounds_toArray, List.set_cons_zero, List.set_cons_succ, i64_w, i32_w]
        rfl
      refine last_ (i := 10) (N := none) #[true, true, true, true, true, true, true, true, true, true, true] rfl rfl (by kernel_rfl) (by decide) (fun K hK => ?_)
      refine skip_ (w1 := ?_) (by rfl) rfl ?_ ?_
      rotate_left
      · go_simp
        rfl
      refine hK.out _ _ ?_
      clear hK K
      refine done_ (by kernel_rfl) ?_
      clear g2 g0 c0 c1' g22 f22 hb hg hat ho hput
      go_wp2
      go_roundw
      case rel => exact ⟨i + 1, _, by omega, by go_num, ⟨by rw [HTk.out]; exact HPut.out.1⟩, ⟨HB.out.trans ((Below.refl _ wr).drew.trans HPut.out.2.1)⟩⟩
      case measure => simp [intOf]; omega
    · obtain rfl : i = n := by omega
      clear hi
      have HTk : Aside0 (xs.take i = xs) := ⟨List.take_of_length_le (by rw [HLn.out]; exact Nat.le_refl _)⟩
      rw [HTk.out] at HBl
      obtain ⟨A1, c1, rfl⟩ := Kd.R_slice HBl.out.row
      rw [HLn.out] at HBl
      have HHr : Aside0 (Calls Try.prog 33 #[.slice B k d] wr.drew fun e w' => ∃ v1, e = .returned v1 ∧ kH.R TH w' wr.heap.size (fun _ => True) v1 hs ∧ Below wr.heap.size wr.drew w') := ⟨HH.out wr.drew (HB3.out.trans ((HB.out.mono (by omega)).drew))⟩
      have HZ0r := Aside0.mk (HZ0.out.below HB.out (by omega))
      have g0 := HZ0r.out.cell 0 _ rfl
      have g2 := HBl.out.blk.cell 0 _ rfl
      have g3 := HBl.out.blk.cell 1 _ rfl
      go_upto_region 8 with (fail)
      clear g0
      refine start_ (n := 11) (S := fun w' => w'.cell? ⟨z + 1 + 1, 0, none⟩ = some (.slice A1 i c1) ∧ w'.cell? ⟨z + 1 + 1, 1, none⟩ = some (.int .u64 (last + 1))) (ds := [10]) #[false, false, false, false, false, false, false, false, false, false, false] (by kernel_rfl) rfl rfl ⟨g2, g3⟩ (fun hHeld => ?_)
      refine pure_ (i := 0) (N := some 40) (v := ?_) (a' := ?_) #[true, false, false, false, false, false, false, false, false, false, false] rfl rfl (by kernel_rfl) (fun _ _ _ h => h) (Or.inl ⟨by rfl, ?_⟩) ?_ ?_
      rotate_left
      · intro w'
        go_simp
        with_reducible rfl
      rotate_left
      · simp only [Act.put, List.setIfInBounds_toArray, List.set_cons_zero, List.set_cons_succ, i64_w, i32_w]
        rfl
      refine pure_ (i := 2) (N := some 42) (v := ?_) (a' := ?_) #[true, false, true, false, false, false, false, false, false, false, false] rfl rfl (by kernel_rfl) (fun _ _ _ h => h) (Or.inl ⟨by rfl, ?_⟩) ?_ ?_
      rotate_left
      · intro w'
        go_simp
        with_reducible rfl
      rotate_left
      · simp only [Act.put, List.setIfInBounds_toArray, List.set_cons_zero, List.set_cons_succ, i64_w, i32_w]
        rfl
      refine pure_ (i := 4) (N := some 44) (v := ?_) (a' := ?_) #[true, false, true, false, true, false, false, false, false, false, false] rfl rfl (by kernel_rfl) (fun _ _ _ h => h) (Or.inl ⟨by rfl, ?_⟩) ?_ ?_
      rotate_left
      · intro w'
        go_simp
        with_reducible rfl
      rotate_left
      · simp only [Act.put, List.setIfInBounds_toArray, List.set_cons_zero, List.set_cons_succ, i64_w, i32_w]
        rfl
      refine take_ (i := 1) (N := some 41) (v := ?_) (a' := ?_) #[true, true, true, false, true, false, false, false, false, false, false] rfl rfl (by kernel_rfl) (fun _ _ _ h => h) (Or.inl ⟨by rfl, ?_⟩) hHeld ?_ ?_
      rotate_left
      · rintro w' ⟨s0, s1⟩
        go_simp
        with_reducible rfl
      rotate_left
      · simp only [Act.put, List.setIfInBounds_toArray, List.set_cons_zero, List.set_cons_succ, i64_w, i32_w]
        rfl
      refine take_ (i := 3) (N := some 43) (v := ?_) (a' := ?_) #[true, true, true, true, true, false, false, false, false, false, false] rfl rfl (by kernel_rfl) (fun _ _ _ h => h) (Or.inl ⟨by rfl, ?_⟩) hHeld ?_ ?_
      rotate_left
      · rintro w' ⟨s0, s1⟩
        go_simp
        with_reducible rfl
      rotate_left
      · simp only [Act.put, List.setIfInBounds_toArray, List.set_cons_zero, List.set_cons_succ, i64_w, i32_w]
        rfl
      refine one_ (i := 5) (N := some 45) #[true, true, true, true, true, true, false, false, false, false, false] rfl rfl (by kernel_rfl) (by decide) (fun K hK => ?_)
      refine goes_ Try.func33 (by kernel_rfl) rfl #[.slice B k d] (by rfl) rfl rfl (by simp only [List.map_toArray, List.map_cons, List.map_nil]; rfl) ?_
      with_reducible refine (HHr.out).mono ?_
      rintro e w5 ⟨v5, rfl, hr5, hb5⟩
      obtain ⟨A5, c5, rfl⟩ := Kd.R_slice hr5
      refine ⟨_, rfl, ?_⟩
      refine hK.out _ _ ⟨pw_cell_below ((Below.refl _ wr).drew.trans hb5) g2, pw_cell_below ((Below.refl _ wr).drew.trans hb5) g3⟩ (fun hHeld => ?_)
      clear hK K
      refine norm_ (a' := ?_) ?_ ?_
      rotate_left
      · show Act.put _ (some 45) _ = _
        simp only [Act.put, List.setIfInBounds_toArray, List.set_cons_zero, List.set_cons_succ, i64_w, i32_w]
        rfl
      refine pure_ (i := 6) (N := some 46) (v := ?_) (a' := ?_) #[true, true, true, true, true, true, true, false, false, false, false] rfl rfl (by kernel_rfl) (fun _ _ _ h => h) (Or.inl ⟨by rfl, ?_⟩) ?_ ?_
      rotate_left
      · intro w'
        go_simp
        with_reducible rfl
      rotate_left
      · simp only [Act.put, List.setIfInBounds_toArray, List.set_cons_zero, List.set_cons_succ, i64_w, i32_w]
        rfl
      refine one_ (i := 7) (N := some 47) #[true, true, true, true, true, true, true, true, false, false, false] rfl rfl (by kernel_rfl) (by decide) (fun K hK => ?_)
      refine value_ (w1 := ?_) (v := ?_) (by rfl) rfl ?_ ?_
      rotate_left 2
      · go_simp
        constructor
        · rfl
        · rfl
      refine hK.out _ _ ⟨cellC (pw_cell_below ((Below.refl _ wr).drew.trans hb5) g2) _, cellC (pw_cell_below ((Below.refl _ wr).drew.trans hb5) g3) _⟩ (fun hHeld => ?_)
      clear hK K
      refine norm_ (a' := ?_) ?_ ?_
      rotate_left
      · show Act.put _ (some 47) _ = _
        simp only [Act.put, List.setIfInBounds_toArray, List.set_cons_zero, List.set_cons_succ, i64_w, i32_w]
        rfl
      refine one_ (i := 8) (N := some 48) #[true, true, true, true, true, true, true, true, true, false, false] rfl rfl (by kernel_rfl) (by decide) (fun K hK => ?_)
      refine Kd.R_append_step kT (w0 := w5) 0 (by rfl) (.tmp 41) (.tmp 47) TKs TK (.agg #[.int .u64 0, .slice none 0 0]) 32 rfl Try.underlying25 infoT rfl (by decide) (by omega) (.slice A1 i c1) xs ⟨last + 1, hs⟩ [.int .u64 (last + 1), .slice A5 hs.length c5] (okN okm z) (fun k => wr.heap.size ≤ k) rfl rfl ?a1P ?a1K ?a1F ?a1O ?a1B ?a1S ?a1L ?_
      (case a1P => exact kT_mkM ⟨last + 1, hs⟩ (Kd.R_lower (Kd.R_mono (Kd.R_bound hr5) (fun k hk => hk.2.1)) (Nat.zero_le _)))
      (case a1K => exact fun k hk => ⟨Or.inr (Nat.le_trans HBl.out.size hk), fun e => by obtain ⟨inner, ho, _⟩ := HBl.out.row.2; have := own_lt ho k e.symm; omega⟩)
      (case a1F => exact fun k hk => Or.inr (Nat.le_trans (Nat.le_trans HBl.out.size hb5.size) hk))
      (case a1O => exact Kd.R_below HBl.out.row ((Below.refl _ wr).drew.trans hb5))
      (case a1B => exact Below.refl _ _)
      (case a1S => exact Nat.zero_le _)
      (case a1L => have := HN.out; have := HLn.out; omega)
      intro v1 w2 ho hb hg hat
      obtain ⟨A6, c6, rfl⟩ := Kd.R_slice ho
      rw [show (xs ++ [(⟨last + 1, hs⟩ : RT)]).length = i + 1 by rw [List.length_append, HLn.out]; rfl] at ho hat ⊢
      have hbl5 := HBl.out.below ((Below.refl _ wr).drew.trans hb5)
      have hput := hbl5.put ho hg hat
      have g22 := hput.2.2.cell 0 _ rfl
      have f22 := hput.2.2.free 0
      have HPut := Aside0.mk hput
      have HBl5 : Aside0 (Below (z + 2) wr w5) := ⟨((Below.refl _ wr).drew.trans hb5).mono (by have := HBl.out.size; omega)⟩
      refine hK.out _ _ ⟨cellG hg (pw_cell_below ((Below.refl _ wr).drew.trans hb5) g2) (fun e => by have := hbl5.own _ e.symm; omega), cellG hg (pw_cell_below ((Below.refl _ wr).drew.trans hb5) g3) (fun e => by have := hbl5.own _ e.symm; omega)⟩ (fun hHeld => ?_)
      clear hK K
      refine norm_ (a' := ?_) ?_ ?_
      rotate_left
      · show Act.put _ (some 48) _ = _
        simp only [Act.put, List.setIfInBounds_toArray, List.set_cons_zero, List.set_cons_succ, i64_w, i32_w]
        rfl
      refine pure_ (i := 9) (N := some 49) (v := ?_) (a' := ?_) #[true, true, true, true, true, true, true, true, true, true, false] rfl rfl (by kernel_rfl) (fun _ _ _ h => h) (Or.inl ⟨by rfl, ?_⟩) ?_ ?_
      rotate_left
      · intro w'
        go_simp
        with_reducible rfl
      rotate_left
      · simp only [Act.put, List.setIfInBounds_toArray, List.set_cons_zero, List.set_cons_succ, i64_w, i32_w]
        rfl
      refine last_ (i := 10) (N := none) #[true, true, true, true, true, true, true, true, true, true, true] rfl rfl (by kernel_rfl) (by decide) (fun K hK => ?_)
      refine skip_ (w1 := ?_) (by rfl) rfl ?_ ?_
      rotate_left
      · go_simp
        rfl
      refine hK.out _ _ ?_
      clear hK K
      refine done_ (by kernel_rfl) ?_
      clear g2 g3 g22 f22 hb hg hat ho hput hr5 hb5
      have HBx := Aside0.mk (HBl5.out.trans HPut.out.2.1)
      have HZ1r := Aside0.mk (HZ1.out.below (HB.out.trans (HBx.out.mono (Nat.le_refl _))) (by omega))
      have q0 := HPut.out.1.blk.cell 0 _ rfl
      have q1 := HPut.out.1.blk.cell 1 _ rfl
      have h10 := HZ1r.out.cell 0 _ rfl
      have h11 := HZ1r.out.cell 1 _ rfl
      have h10' := (HZ1r.out.put 0 (.slice A6 (i + 1) c6)).cell 1 _ rfl
      have f10 := HZ1r.out.free 0
      have f11 := HZ1r.out.free 1
      have f11' := (HZ1r.out.put 0 (.slice A6 (i + 1) c6)).free 1
      have HEnd : Aside0 (kT.R TK ((w2.setCell ⟨z + 1 + 1, 0, none⟩ (.slice A6 (i + 1) c6)).drew) 0 (okN okm z) (.slice A6 (i + 1) c6) (xs ++ [⟨last + 1, hs⟩])) := ⟨Kd.R_below HPut.out.1.row (Below.refl _ _).drew⟩
      generalize w2.setCell ⟨z + 1 + 1, 0, none⟩ (.slice A6 (i + 1) c6) = w6 at *
      go_upto_region 9 with (fail)
      refine start_ (n := 6) (S := fun w' => w'.cell? ⟨z + 1 + 1, 0, none⟩ = some (.slice A6 (i + 1) c6) ∧ w'.cell? ⟨z + 1 + 1, 1, none⟩ = some (.int .u64 (last + 1))) (ds := []) #[false, false, false, false, false, false] (by kernel_rfl) rfl rfl ⟨q0, q1⟩ (fun hHeld => ?_)
      refine pure_ (i := 1) (N := some 51) (v := ?_) (a' := ?_) #[false, true, false, false, false, false] rfl rfl (by kernel_rfl) (fun _ _ _ h => h) (Or.inl ⟨by rfl, ?_⟩) ?_ ?_
      rotate_left
      · intro w'
        go_simp
        with_reducible rfl
      rotate_left
      · simp only [Act.put, List.setIfInBounds_toArray, List.set_cons_zero, List.set_cons_succ, i64_w, i32_w]
        rfl
      refine take_ (i := 0) (N := some 50) (v := ?_) (a' := ?_) #[true, true, false, false, false, false] rfl rfl (by kernel_rfl) (fun _ _ _ h => h) (Or.inl ⟨by rfl, ?_⟩) hHeld ?_ ?_
      rotate_left
      · rintro w' ⟨s0, s1⟩
        go_simp
        with_reducible rfl
      rotate_left
      · simp only [Act.put, List.setIfInBounds_toArray, List.set_cons_zero, List.set_cons_succ, i64_w, i32_w]
        rfl
      refine take_ (i := 2) (N := some 52) (v := ?_) (a' := ?_) #[true, true, true, false, false, false] rfl rfl (by kernel_rfl) (fun _ _ _ h => h) (Or.inl ⟨by rfl, ?_⟩) hHeld ?_ ?_
      rotate_left
      · rintro w' ⟨s0, s1⟩
        go_simp
        with_reducible rfl
      rotate_left
      · simp only [Act.put, List.setIfInBounds_toArray, List.set_cons_zero, List.set_cons_succ, i64_w, i32_w]
        rfl
      refine one_ (i := 3) (N := none) #[true, true, true, true, false, false] rfl rfl (by kernel_rfl) (by decide) (fun K hK => ?_)
      refine skip_ (w1 := ?_) (by rfl) rfl ?_ ?_
      rotate_left
      · go_simp
        rfl
      refine hK.out _ _ ⟨cellF (cellF q0 _ (by show z + 1 + 1 ≠ z + 1; omega)) _ (by show z + 1 + 1 ≠ z + 1; omega), cellF (cellF q1 _ (by show z + 1 + 1 ≠ z + 1; omega)) _ (by show z + 1 + 1 ≠ z + 1; omega)⟩ (fun hHeld => ?_)
      clear hK K
      refine pure_ (i := 4) (N := some 5) (v := ?_) (a' := ?_) #[true, true, true, true, true, false] rfl rfl (by kernel_rfl) (fun _ _ _ h => h) (Or.inl ⟨by rfl, ?_⟩) ?_ ?_
      rotate_left
      · intro w'
        go_simp
        with_reducible rfl
      rotate_left
      · simp only [Act.put, List.setIfInBounds_toArray, List.set_cons_zero, List.set_cons_succ, i64_w, i32_w]
        rfl
      refine pure_ (i := 5) (N := some 6) (v := ?_) (a' := ?_) #[true, true, true, true, true, true] rfl rfl (by kernel_rfl) (fun _ _ _ h => h) (Or.inl ⟨by rfl, ?_⟩) ?_ ?_
      rotate_left
      · intro w'
        go_simp
        with_reducible rfl
      rotate_left
      · simp only [Act.put, List.setIfInBounds_toArray, List.set_cons_zero, List.set_cons_succ, i64_w, i32_w]
        rfl
      refine done_ (by kernel_rfl) ?_
      have HZ1e := Aside0.mk ((HZ1r.out.drew.put 0 (.slice A6 (i + 1) c6)).put 1 (.int .u64 (last + 1)))
      go_wp2
      refine bodyPost_ret (results_row3 rfl _ _ _ TR _ (0, 0) _ rfl HZ1e.out.out Try.underlying28 rfl (szTR _ rfl)) rfl ⟨_, rfl, ?_, ?_⟩
      · rw [hzz]
        refine Kd.R_mono (Kd.R_far (Kd.R_far HEnd.out (fun k hk => ?_) _) (fun k hk => ?_) _) (fun k hk => ?_)
        · show k ≠ z + 1
          rcases hk with hk | hk <;> omega
        · show k ≠ z + 1
          rcases hk with hk | hk <;> omega
        · rcases hk with hk | hk
          · exact Or.inl hk
          · exact Or.inr (by omega)
      · rw [hzz]
        exact HB3.out.trans (((HB.out.trans (HBx.out.mono (Nat.le_refl _))).mono (by omega)).trans ((Below.refl _ _).drew.trans ((belowS _ (by omega)).trans (belowS _ (by omega)))))
end Go.Proofs.Ytkgabeloofjohaa.Gap
