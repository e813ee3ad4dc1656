/- Layer 12's list: Put, New. -/
import Derived.Test.YtnpjppnahfehnaaDoorSkipH
namespace Go.Proofs.YtnpjppnahfehnaaDoor.Skip
set_option linter.unusedVariables false
set_option linter.unusedSimpArgs false
open Go.RowKit Go.Proofs.YtnpjppnahfehnaaDoorW.PrintWords Go.Proofs.YtnpjppnahfehnaaDoor.Kit Go.MuLone

theorem Sk.lock {w : World} {g : Nat} {st : Int} {hd : Nd} {ns : List Nd} (h : Sk w g st hd ns) (st' : Int) : Sk (w.setCell ⟨g, 1, none⟩ (.int .i32 st')) g st' hd ns :=
  ⟨h.row.put 1 (.int .i32 st'), h.lnk.other (fun i hi => h.gN i hi), h.hh, h.hts, h.srt, h.np, h.nq⟩
theorem lockOnly (w : World) (g : Nat) (hd : Nd) (ns : List Nd) (v : Value) : Only (Fp g hd ns) w (w.setCell ⟨g, 1, none⟩ v) := Only.setCell (S := Fp g hd ns) (Only.refl _ w) (p := ⟨g, 1, none⟩) (Or.inl (Or.inl rfl)) _
theorem Lv.same {w w' : World} {g : Nat} {st : Int} {hd : Nd} {ns : List Nd} (h : Sk w g st hd ns) (hb : Below w.heap.size w w') : Lv w w' g st hd ns ns := ⟨h.below hb, Only.ofBelow hb, fun _ h => Or.inl h⟩
theorem Lv.wrap {w w1 w2 : World} {g : Nat} {hd : Nd} {ns ns' : List Nd} (h : Lv w1 w2 g 1 hd ns ns') (e : w1 = w.setCell ⟨g, 1, none⟩ (.int .i32 1)) : Lv w (w2.setCell ⟨g, 1, none⟩ (.int .i32 0)) g 0 hd ns ns' where
  sk := h.sk.lock 0
  only := by
    have o1 : Only (Fp g hd ns) w w1 := by rw [e]; exact lockOnly w g hd ns _
    exact (o1.trans h.only).trans (lockOnly w2 g hd ns _)
  fp := fun i hi => by
    have := h.fp i hi
    rw [e] at this
    simpa [World.setCell] using this

set_option maxRecDepth 100000 in
set_option maxHeartbeats 1600000 in
theorem putGen (g : Nat) (hd : Nd) (ns : List Nd) (Q : List Nd → Prop) (key : ByteArray) (v ht a : Int) (b : Bool) (w : World) (h : Sk w g 0 hd ns) (hk : (key.size : Int) ≤ 1025) (h1 : 1 ≤ ht) (h2 : ht ≤ 16)
    (HC : Aside0 (∀ W, Sk W g 1 hd ns → Calls Tryd.prog 15 #[.pointer (some ⟨g, 0, none⟩), .string key, .int .i64 v, .int .i64 ht] W fun e w' => ∃ ns', e = .returned (.tuple #[.int .i64 a, .bool b]) ∧ Q ns' ∧ Lv W w' g 1 hd ns ns')) :
    Calls Tryd.prog 9 #[.pointer (some ⟨g, 0, none⟩), .string key, .int .i64 v, .int .i64 ht] w fun e w' => ∃ ns', e = .returned (.tuple #[.int .i64 a, .bool b, .int .i64 0]) ∧ Q ns' ∧ Lv w w' g 0 hd ns ns' := by
  have HI := Aside0.mk (isTrue g 0 hd ns w h)
  have H := Aside0.mk h
  clear h
  go_enter_defers Tryd.func9, Tryd.ntmps9
  go_wp2_with fail
  refine HI.out.mono ?_
  rintro e w' ⟨rfl, rfl⟩
  go_wp2_with fail
  refine (lock_free muLib ⟨g, 1, none⟩ w (H.out.row.cell 1 _ rfl) (H.out.row.free 1)).mono ?_
  rintro e w1 ⟨rfl, hw1⟩
  have HW := Aside0.mk hw1
  have H1 : Aside0 (Sk w1 g 1 hd ns) := ⟨by rw [hw1]; exact H.out.lock 1⟩
  clear hw1 H HI
  go_wp2_with fail
  refine (HC.out w1 H1.out).mono ?_
  rintro e w2 ⟨ns', rfl, hq, h2⟩
  have HQ := Aside0.mk hq
  have H2 := Aside0.mk h2
  clear hq h2 HC H1
  go_wp2_with fail
  refine leaves_cons (f := 14) (args := #[.pointer (some ⟨g, 1, none⟩)]) (by simp) (by simp [go_sem]) ?_
  refine (unlock_deferred muLib ⟨g, 1, none⟩ .returning _ (H2.out.sk.row.cell 1 _ rfl) (H2.out.sk.row.free 1)).mono ?_
  rintro e u' w3 ⟨rfl, rfl, hw3⟩
  have H3 : Aside0 (Lv w w3 g 0 hd ns ns') := ⟨by rw [hw3]; exact H2.out.wrap HW.out⟩
  clear hw3 H2 HW
  exact ⟨_, results_tmp3 rfl _ _ _, ns', rfl, HQ.out, H3.out⟩

theorem putLong (g : Nat) (hd : Nd) (ns : List Nd) (key : ByteArray) (v ht : Int) (w : World) (h : Sk w g 0 hd ns) (hk : (1025 : Int) < key.size) :
    Calls Tryd.prog 9 #[.pointer (some ⟨g, 0, none⟩), .string key, .int .i64 v, .int .i64 ht] w fun e w' => e = .returned (.tuple #[.int .i64 0, .bool false, .int .i64 3]) ∧ w = w' := by
  have HI := Aside0.mk (isTrue g 0 hd ns w h)
  clear h
  go_enter_defers Tryd.func9, Tryd.ntmps9
  go_wp2_with fail
  refine HI.out.mono ?_
  rintro e w' ⟨rfl, rfl⟩
  go_wp2_with fail
  exact ⟨_, results_tmp3 rfl _ _ _, rfl, rfl⟩
theorem putHeight (g : Nat) (hd : Nd) (ns : List Nd) (key : ByteArray) (v ht : Int) (w : World) (h : Sk w g 0 hd ns) (hk : (key.size : Int) ≤ 1025) (hh : ht < 1 ∨ 16 < ht) :
    Calls Tryd.prog 9 #[.pointer (some ⟨g, 0, none⟩), .string key, .int .i64 v, .int .i64 ht] w fun e w' => e = .returned (.tuple #[.int .i64 0, .bool false, .int .i64 120]) ∧ w = w' := by
  have HI := Aside0.mk (isTrue g 0 hd ns w h)
  clear h
  by_cases h1 : ht < 1
  · clear hh
    go_enter_defers Tryd.func9, Tryd.ntmps9
    go_wp2_with fail
    refine HI.out.mono ?_
    rintro e w' ⟨rfl, rfl⟩
    go_wp2_with fail
    exact ⟨_, results_tmp3 rfl _ _ _, rfl, rfl⟩
  · have h2 : 16 < ht := by omega
    clear hh
    go_enter_defers Tryd.func9, Tryd.ntmps9
    go_wp2_with fail
    refine HI.out.mono ?_
    rintro e w' ⟨rfl, rfl⟩
    go_wp2_with fail
    exact ⟨_, results_tmp3 rfl _ _ _, rfl, rfl⟩
/-- Put of a key that is there, and of one that is not. -/
theorem putOld (g : Nat) (hd : Nd) (lo t : List Nd) (z : Nd) (key : ByteArray) (v ht : Int) (w : World) (h : Sk w g 0 hd (lo ++ z :: t)) (hlo : ∀ x ∈ lo, ltB x.k key = true) (hhi : ∀ x ∈ z :: t, ltB x.k key = false) (hm : z.k = key)
    (hk : (key.size : Int) ≤ 1025) (h1 : 1 ≤ ht) (h2 : ht ≤ 16) :
    Calls Tryd.prog 9 #[.pointer (some ⟨g, 0, none⟩), .string key, .int .i64 v, .int .i64 ht] w fun e w' => e = .returned (.tuple #[.int .i64 z.v, .bool true, .int .i64 0]) ∧ Lv w w' g 0 hd (lo ++ z :: t) (lo ++ { z with v := v } :: t) :=
  (putGen g hd _ (fun ns' => ns' = lo ++ { z with v := v } :: t) key v ht z.v true w h hk h1 h2 ⟨fun W hW => (putHit g 1 hd lo t z key v ht W hW hlo hhi hm).mono fun e w' ⟨he, hl⟩ => ⟨_, he, rfl, hl⟩⟩).mono fun e w' ⟨ns', he, hq, hl⟩ => ⟨he, hq ▸ hl⟩
theorem putNew (g : Nat) (hd : Nd) (lo hi : List Nd) (key : ByteArray) (v ht : Int) (w : World) (h : Sk w g 0 hd (lo ++ hi)) (hlo : ∀ x ∈ lo, ltB x.k key = true) (hhi : ∀ x ∈ hi, ltB x.k key = false) (hm : Miss hi key)
    (hk : (key.size : Int) ≤ 1025) (h1 : 1 ≤ ht) (h2 : ht ≤ 16) (hlen : (lo ++ hi).length < 4611686018427387904) :
    Calls Tryd.prog 9 #[.pointer (some ⟨g, 0, none⟩), .string key, .int .i64 v, .int .i64 ht] w fun e w' => ∃ N : Nd, e = .returned (.tuple #[.int .i64 0, .bool false, .int .i64 0]) ∧ N.k = key ∧ N.v = v ∧ (N.h : Int) = ht ∧ Lv w w' g 0 hd (lo ++ hi) (lo ++ N :: hi) := by
  obtain ⟨n, rfl⟩ : ∃ n : Nat, ht = n := ⟨ht.toNat, by omega⟩
  exact (putGen g hd _ (fun ns' => ∃ N : Nd, ns' = lo ++ N :: hi ∧ N.k = key ∧ N.v = v ∧ N.h = n) key v n 0 false w h hk h1 h2 ⟨fun W hW => (putMiss g 1 hd lo hi key v n W hW hlo hhi hm (by omega) (by omega) hlen).mono fun e w' ⟨N, he, a, b, c, hl⟩ => ⟨_, he, ⟨N, rfl, a, b, c⟩, hl⟩⟩).mono
    fun e w' ⟨ns', he, ⟨N, hq, a, b, c⟩, hl⟩ => ⟨N, he, a, b, by rw [c], hq ▸ hl⟩

/-! New -/
theorem newCalls (w : World) :
    Calls Tryd.prog 8 #[] w fun e w' => ∃ (g : Nat) (hd : Nd), e = .returned (.pointer (some ⟨g, 0, none⟩)) ∧ Sk w' g 0 hd [] ∧ Below w.heap.size w w' ∧ ∀ i, Fp g hd [] i → w.heap.size ≤ i := by
  have hmk : ∀ W : World, (Instr.makeSlice TS (.int .i64 16) (.int .i64 16)).run Tryd.prog W = .ok (.slice (some ⟨W.heap.size, 0, none⟩) 16 16) (W.alloc (.cells (List.replicate 16 (.pointer none)).toArray TP)) :=
    fun W => make_one (P := Tryd.prog) TS TP (.pointer none) 8 Tryd.underlying40 (by kernel_rfl) .i64 .i64 16 (by omega) (by omega) W
  obtain ⟨R, hR⟩ : ∃ R, R = (List.replicate 16 (Value.pointer none)).toArray := ⟨_, rfl⟩
  simp only [← hR] at hmk
  have HR := Aside0.mk hR
  clear hR
  go_enter Tryd.func8, Tryd.ntmps8
  go_wp2
  go_ret
  refine ⟨w.heap.size + 1 + 1, ⟨w.heap.size + 1, w.heap.size, (⟨#[]⟩ : ByteArray), 0, 16⟩, rfl, ?_, ?_, ?_⟩
  · refine ⟨?_, ⟨?_, ?_, trivial⟩, rfl, fun x hx => by simp at hx, List.Pairwise.nil, by simp, by simp⟩
    · have := Blk.newA ((w.alloc (.cells R TP)).alloc (.cells #[.string (⟨#[]⟩ : ByteArray), .int .i64 0, .slice (some ⟨w.heap.size, 0, none⟩) 16 16] TN)) #[.bool true, .int .i32 0, .int .u32 0, .pointer (some ⟨w.heap.size + 1, 0, none⟩), .int .i64 0] TL
      simpa using this
    · have := (Blk.newA (w.alloc (.cells R TP)) #[.string (⟨#[]⟩ : ByteArray), .int .i64 0, .slice (some ⟨w.heap.size, 0, none⟩) 16 16] TN).alloc (.cells #[.bool true, .int .i32 0, .int .u32 0, .pointer (some ⟨w.heap.size + 1, 0, none⟩), .int .i64 0] TL)
      unfold NodeB
      simpa using this
    · have := ((Blk.newA w R TP).alloc (.cells #[.string (⟨#[]⟩ : ByteArray), .int .i64 0, .slice (some ⟨w.heap.size, 0, none⟩) 16 16] TN)).alloc (.cells #[.bool true, .int .i32 0, .int .u32 0, .pointer (some ⟨w.heap.size + 1, 0, none⟩), .int .i64 0] TL)
      rw [HR.out] at this ⊢
      exact this
  · exact (((Below.refl _ _).alloc (Nat.le_refl _) _).alloc (by simp) _).alloc (by simp; omega) _
  · rintro i (rfl | ⟨x, hx, e⟩)
    · omega
    · rw [List.mem_singleton] at hx
      subst hx
      rcases e with rfl | rfl <;> simp only <;> omega
end Go.Proofs.YtnpjppnahfehnaaDoor.Skip
