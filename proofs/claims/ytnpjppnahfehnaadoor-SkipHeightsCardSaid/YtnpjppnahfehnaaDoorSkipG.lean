/- Layer 12's list: what a store leaves of it; put of a key that is there. -/
import Derived.Test.YtnpjppnahfehnaaDoorSkipF
namespace Go.Proofs.YtnpjppnahfehnaaDoor.Skip
set_option linter.unusedVariables false
set_option linter.unusedSimpArgs false
open Go.RowKit Go.Proofs.YtnpjppnahfehnaaDoorW.PrintWords Go.Proofs.YtnpjppnahfehnaaDoor.Kit Go.MuLone

theorem run_call_swap {P : Program} {f : FuncId} {fn : Func} (hf : P.funcs[f]? = some fn) (hname : (fn.name == "runtime.NumGoroutine") = false) (hb : fn.body.isNone = true) (hn : Extern.findNext fn = none) (k : IntKind)
    (he : Extern.find fn = some (Extern.Atomic.swapT (.int k))) {a : Addr} {x y : Int} {w : World} (hc : w.cell? a = some (.int k x)) (hz : w.frozen? a = false) :
    (callFunc f #[.pointer (some a), .int k y]).run P w = .ok (.value (.int k x)) (w.setCell a (.int k y)) := by
  rw [run_callFunc_extern hf hname hb hn he]
  change (Sem.run P (do
    let a' ← asAddr (.pointer (some a))
    let old ← Extern.Atomic.read (.int k) a'
    store a' (.int k y) .atomic
    pure old) w).andThen _ = _
  simp [Extern.Atomic.read, asAddr, hc, hz, run_store P w a (.int k y) .atomic rfl, Result.andThen]
theorem i64Swap (b o : Nat) (u v : Int) (w : World) (h : w.cell? ⟨b, o, none⟩ = some (.int .i64 u)) (z : w.frozen? ⟨b, o, none⟩ = false) :
    Calls Tryd.prog 23 #[.pointer (some ⟨b, o, none⟩), .int .i64 v] w fun e w' => e = .returned (.int .i64 u) ∧ w.setCell ⟨b, o, none⟩ (.int .i64 v) = w' := by
  have ha := run_call_swap (P := Tryd.prog) Tryd.func37 (by kernel_rfl) (by kernel_rfl) (by kernel_rfl) .i64 (by kernel_rfl) (y := v) h z
  go_enter Tryd.func23, Tryd.ntmps23
  go_wp2
  go_ret
  exact ⟨rfl, rfl⟩
theorem i64Add (b o : Nat) (v d : Int) (w : World) (h : w.cell? ⟨b, o, none⟩ = some (.int .i64 v)) (z : w.frozen? ⟨b, o, none⟩ = false) :
    Calls Tryd.prog 26 #[.pointer (some ⟨b, o, none⟩), .int .i64 d] w fun e w' => e = .returned (.int .i64 (wrap64 (v + d))) ∧ w.setCell ⟨b, o, none⟩ (.int .i64 (wrap64 (v + d))) = w' := by
  have hs : (Op.intArith .add .i64 v d).run Tryd.prog w = .ok (.int .i64 (wrap64 (v + d))) w := by simp [Op.intArith, IntKind.wrap_i64, wrap64]
  have ha := run_call_add (P := Tryd.prog) Tryd.func40 (by kernel_rfl) (by kernel_rfl) (by kernel_rfl) .i64 (by kernel_rfl) h z hs
  clear hs
  go_enter Tryd.func26, Tryd.ntmps26
  go_wp2
  go_ret
  exact ⟨rfl, rfl⟩

/-! lists of places -/
theorem map_mid {α β : Type} (f : α → β) (a b : List α) (z : α) : (a ++ z :: b).map f = a.map f ++ f z :: b.map f := by simp
theorem nodup_mid {a b : List Nat} {z : Nat} : (a ++ z :: b).Nodup ↔ z ∉ a ++ b ∧ (a ++ b).Nodup := by
  rw [List.perm_middle.nodup_iff, List.nodup_cons]
theorem Links.other {w : World} {l : List Nd} {f : Nat → Option Nat} (h : Links w l f) {b : Nat} {v : Value} {o : Nat} (hb : ∀ i, Foot l i → ¬ i = b) : Links (w.setCell ⟨b, o, none⟩ v) l f :=
  h.only (S := fun i => i = b) (Only.setCell (S := fun i => i = b) (Only.refl _ w) (p := ⟨b, o, none⟩) (Or.inl rfl) _) l hb
/-- A node's value is stored. -/
theorem Links.val {w : World} {a b : List Nd} {z : Nd} {f : Nat → Option Nat} (h : Links w (a ++ z :: b) f) (hn : ((a ++ z :: b).map (·.p)).Nodup) (v : Int) :
    Links (w.setCell ⟨z.p, 1, none⟩ (.int .i64 v)) (a ++ { z with v := v } :: b) f := by
  have hq : ∀ x ∈ a ++ z :: b, ∀ y ∈ a ++ z :: b, x.p ≠ y.q := fun x hx y hy => h.pq hx hy
  rw [map_mid, nodup_mid] at hn
  have hm : z ∈ a ++ z :: b := List.mem_append_right _ List.mem_cons_self
  have ho : ∀ l : List Nd, (∀ x ∈ l, x ∈ a ++ b) → ∀ i, Foot l i → ¬ i = z.p := by
    rintro l hl i ⟨x, hx, e | e⟩ he
    · exact hn.1 (by rw [← he, e, ← List.map_append]; exact List.mem_map_of_mem (hl x hx))
    · have hx2 : x ∈ a ++ z :: b := by
        rcases List.mem_append.1 (hl x hx) with k | k
        · exact List.mem_append_left _ k
        · exact List.mem_append_right _ (List.mem_cons_of_mem _ k)
      exact hq z hm x hx2 (by rw [← he, e])
  rw [Links.split] at h ⊢
  obtain ⟨ha, h1, h2, hb⟩ := h
  refine ⟨?_, h1.put 1 (.int .i64 v), ?_, hb.other (ho b (fun x hx => List.mem_append_right _ hx))⟩
  · exact ha.other (ho a (fun x hx => List.mem_append_left _ hx))
  · exact h2.far (a := ⟨z.p, 1, none⟩) (fun e => hq z hm z hm e.symm) _

/-- The list's blocks behind a put, a remove. -/
theorem Sk.val {w : World} {g : Nat} {st : Int} {hd : Nd} {lo t : List Nd} {z : Nd} (h : Sk w g st hd (lo ++ z :: t)) (v : Int) : Sk (w.setCell ⟨z.p, 1, none⟩ (.int .i64 v)) g st hd (lo ++ { z with v := v } :: t) where
  row := by
    have e : (lo ++ { z with v := v } :: t).length = (lo ++ z :: t).length := by simp
    rw [e]
    exact h.row.far (a := ⟨z.p, 1, none⟩) (fun e => h.gN z.p ⟨z, List.mem_cons_of_mem _ (List.mem_append_right _ List.mem_cons_self), Or.inl rfl⟩ e.symm) _
  lnk := by
    have := Links.val (a := hd :: lo) (b := t) (z := z) (f := fun _ => none) h.lnk h.np v
    exact this
  hh := h.hh
  hts := fun x hx => by
    rcases List.mem_append.1 hx with hx | hx
    · exact h.hts x (List.mem_append_left _ hx)
    · rcases List.mem_cons.1 hx with rfl | hx
      · exact h.hts z (List.mem_append_right _ List.mem_cons_self)
      · exact h.hts x (List.mem_append_right _ (List.mem_cons_of_mem _ hx))
  srt := by
    have hs := h.srt
    unfold Sorted at hs ⊢
    rw [List.pairwise_append, List.pairwise_cons] at hs ⊢
    refine ⟨hs.1, ⟨fun y hy => hs.2.1.1 y hy, hs.2.1.2⟩, fun x hx y hy => ?_⟩
    rcases List.mem_cons.1 hy with rfl | hy
    · exact hs.2.2 x hx z List.mem_cons_self
    · exact hs.2.2 x hx y (List.mem_cons_of_mem _ hy)
  np := by
    have := h.np
    simp only [List.map_cons, List.map_append] at this ⊢
    exact this
  nq := by
    have := h.nq
    simp only [List.map_cons, List.map_append] at this ⊢
    exact this
theorem Fp.val {g : Nat} {hd : Nd} {lo t : List Nd} {z : Nd} {v : Int} {i : Nat} (h : Fp g hd (lo ++ { z with v := v } :: t) i) : Fp g hd (lo ++ z :: t) i := by
  rcases h with h | ⟨x, hx, e⟩
  · exact Or.inl h
  · refine Or.inr ?_
    rcases List.mem_cons.1 hx with rfl | hx
    · exact ⟨x, List.mem_cons_self, e⟩
    · rcases List.mem_append.1 hx with hx | hx
      · exact ⟨x, List.mem_cons_of_mem _ (List.mem_append_left _ hx), e⟩
      · rcases List.mem_cons.1 hx with rfl | hx
        · exact ⟨z, List.mem_cons_of_mem _ (List.mem_append_right _ List.mem_cons_self), e⟩
        · exact ⟨x, List.mem_cons_of_mem _ (List.mem_append_right _ (List.mem_cons_of_mem _ hx)), e⟩

/-- What a call leaves: the list, other blocks, and no block of others' among its own. -/
structure Lv (w w' : World) (g : Nat) (st : Int) (hd : Nd) (ns ns' : List Nd) : Prop where
  sk : Sk w' g st hd ns'
  only : Only (Fp g hd ns) w w'
  fp : ∀ i, Fp g hd ns' i → Fp g hd ns i ∨ w.heap.size ≤ i
set_option maxRecDepth 100000 in
set_option maxHeartbeats 1600000 in
theorem putHit (g : Nat) (st : Int) (hd : Nd) (lo t : List Nd) (z : Nd) (key : ByteArray) (v ht : Int) (w : World) (h : Sk w g st hd (lo ++ z :: t)) (hlo : ∀ x ∈ lo, ltB x.k key = true) (hhi : ∀ x ∈ z :: t, ltB x.k key = false) (hm : z.k = key) :
    Calls Tryd.prog 15 #[.pointer (some ⟨g, 0, none⟩), .string key, .int .i64 v, .int .i64 ht] w fun e w' => e = .returned (.tuple #[.int .i64 z.v, .bool true]) ∧ Lv w w' g st hd (lo ++ z :: t) (lo ++ { z with v := v } :: t) := by
  have HF := Aside0.mk (findHit g st hd lo key w z t h hlo hhi hm)
  have H := Aside0.mk h
  clear h hlo hhi hm
  go_enter Tryd.func15, Tryd.ntmps15
  go_wp2_with fail
  refine HF.out.mono ?_
  rintro e w1 ⟨rfl, hb⟩
  have HB := Aside0.mk hb
  have H1 := Aside0.mk (H.out.below hb)
  clear hb
  have HN := Aside0.mk (H1.out.lnk.node (x := z) (List.mem_cons_of_mem _ (List.mem_append_right _ List.mem_cons_self)))
  have HS := Aside0.mk (i64Swap z.p 1 _ v w1 (HN.out.cell 1 _ rfl) (HN.out.free 1))
  go_wp2_with fail
  refine HS.out.mono ?_
  rintro e w2 ⟨rfl, hw2⟩
  have H2 : Aside0 (Lv w w2 g st hd (lo ++ z :: t) (lo ++ { z with v := v } :: t)) := ⟨⟨by rw [← hw2]; exact H1.out.val v, by
    rw [← hw2]
    exact (Only.ofBelow HB.out).trans (Only.setCell (S := Fp g hd (lo ++ z :: t)) (Only.refl _ w1) (p := ⟨z.p, 1, none⟩) (Or.inl (Or.inr ⟨z, List.mem_cons_of_mem _ (List.mem_append_right _ List.mem_cons_self), Or.inl rfl⟩)) _), fun i hi => Or.inl (Fp.val hi)⟩⟩
  clear hw2 H HB H1 HN HS HF
  go_wp2
  go_ret2
  exact ⟨rfl, H2.out⟩
end Go.Proofs.YtnpjppnahfehnaaDoor.Skip
