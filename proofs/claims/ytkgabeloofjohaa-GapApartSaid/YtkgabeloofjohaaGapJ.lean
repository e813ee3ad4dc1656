/- Layer 13: the atomic's Add, the clone of a list of holds. -/
import Derived.Test.YtkgabeloofjohaaGapI
namespace Go.Proofs.Ytkgabeloofjohaa.Gap
set_option linter.unusedVariables false
set_option linter.unusedSimpArgs false
open Go.RowKit Go.Proofs.YtkgabeloofjohaaW.PrintWords Go.Proofs.Ytkgabeloofjohaa.Kit

theorem u64Add (b o : Nat) (v d : Int) (w : World) (h : w.cell? ⟨b, o, none⟩ = some (.int .u64 v)) (z : w.frozen? ⟨b, o, none⟩ = false) :
    Calls Try.prog 31 #[.pointer (some ⟨b, o, none⟩), .int .u64 d] w fun e w' => e = .returned (.int .u64 (IntKind.u64.wrap (v + d))) ∧ w.setCell ⟨b, o, none⟩ (.int .u64 (IntKind.u64.wrap (v + d))) = w' := by
  have hs : (Op.intArith .add .u64 v d).run Try.prog w = .ok (.int .u64 (IntKind.u64.wrap (v + d))) w := by simp [Op.intArith]
  have ha := run_call_add (P := Try.prog) Try.func41 (by kernel_rfl) (by kernel_rfl) (by kernel_rfl) .u64 (by kernel_rfl) h z hs
  clear hs
  generalize IntKind.u64.wrap (v + d) = s at *
  go_enter Try.func31, Try.ntmps31
  go_wp2
  go_ret
  exact ⟨rfl, rfl⟩

abbrev THs : TypeId := 32
theorem infoH : (Try.prog.info? TH).map (fun i => (i.zero, i.size, i.bytes)) = some (some (.agg #[.string ByteArray.empty, .string ByteArray.empty, .bool false, .bool false]), 4, 48) := by kernel_rfl
theorem kH_mkM (w : World) (base : Nat) (ok : Nat → Prop) (x : Hd) : kH.M w base ok x x.cells := ⟨[.string x.r.lo, .string x.r.hi, .bool x.r.opn], [.bool x.alone], rfl, ⟨[.string x.r.lo], [.string x.r.hi, .bool x.r.opn], rfl, rfl, [.string x.r.hi], [.bool x.r.opn], rfl, rfl, rfl⟩, rfl⟩
theorem kH_K_M {w : World} {base : Nat} {okp : Nat → Prop} {x : Hd} {cs : List Value} (h : kH.K w x cs) : kH.M w base okp x cs := by
  rw [kH_cells h]
  exact kH_mkM w base okp x
theorem kH_pos : 0 < kH.sz := by decide
theorem kH_lit0 (W : World) : kH.R TH (W.alloc (.cells #[] TH)) W.heap.size (fun _ => True) (.slice (some ⟨W.heap.size, 0, none⟩) 0 0) [] :=
  ⟨fun _ _ => trivial, OwnRow.lit W W.heap.size (ps := []) (inner := []) (Reps.none _ _) (Nat.le_refl _) (by simp)⟩
theorem kH_own {e base : Nat} {w : World} {ok ok' : Nat → Prop} {v : Value} {xs : List Hd} (h : kH.R e w base ok v xs) (h' : ∀ k, v.ownBlock = some k → ok' k) : kH.R e w base ok' v xs := ⟨h', h.2⟩

set_option maxRecDepth 100000 in
theorem cloneNil (n c : Nat) (w : World) (hn : n = 0) : Calls Try.prog 32 #[.slice none n c] w fun e w' => ∃ v1, e = .returned v1 ∧ kH.R TH w' w.heap.size (fun _ => True) v1 [] ∧ Below w.heap.size w w' := by
  subst hn
  have he : ∀ W : World, (binOp .eql THs (.slice none 0 c) (.slice none 0 0)).run Try.prog W = .ok (.bool true) W := fun _ => rfl
  go_enter Try.func32, Try.ntmps32
  go_wp2
  go_ret
  exact ⟨_, rfl, Kd.R_nil _ _ _ _ _, Below.refl _ _⟩
set_option maxRecDepth 100000 in
set_option maxHeartbeats 2000000 in
theorem cloneSome (a : Addr) (c : Nat) (xs : List Hd) (w : World) (hC : kH.C w (some a) xs.length xs) (hn : xs.length ≤ 3518437208) : Calls Try.prog 32 #[.slice (some a) xs.length c] w fun e w' => ∃ v1, e = .returned v1 ∧ kH.R TH w' w.heap.size (fun _ => True) v1 xs ∧ Below w.heap.size w w' := by
  obtain ⟨W, hW⟩ : ∃ W, W = w.alloc (.cells #[] TH) := ⟨_, rfl⟩
  have hb : Below w.heap.size w W := by rw [hW]; exact (Below.refl _ _).alloc (Nat.le_refl _) _
  have HB := Aside0.mk hb
  have HR : Aside0 (kH.R TH W w.heap.size (fun _ => True) (.slice (some ⟨w.heap.size, 0, none⟩) ([] : List Hd).length 0) []) := ⟨by rw [hW]; exact kH_lit0 w⟩
  have HC := Aside0.mk (Kd.C_below hC hb)
  have HN := Aside0.mk hn
  clear hC hn hb
  generalize hL : xs.length = L at *
  have he : ∀ W : World, (binOp .eql THs (.slice (some a) L c) (.slice none 0 0)).run Try.prog W = .ok (.bool false) W := fun _ => rfl
  go_enter Try.func32, Try.ntmps32
  go_upto_region 3 with (fail)
  iterate 7 go_step
  rw [← hW]
  clear hW
  refine Kd.R_append_rows kH (Rr := kH.K W) (w0 := w) w.heap.size rfl (.tmp 5) (.tmp 6) THs TH (.agg #[.string ByteArray.empty, .string ByteArray.empty, .bool false, .bool false]) 48 rfl Try.underlying32 infoH rfl kH_pos (by omega) (.slice (some ⟨w.heap.size, 0, none⟩) 0 0) [] xs (some a) L c (fun _ => True) (fun _ => False) rfl rfl ?aO ?aR ?aK (fun _ hk => hk.elim) (fun _ _ => trivial) ?aB ?aS ?aL ?_
  (case aO => exact HR.out)
  (case aR => exact HC.out)
  (case aK => exact fun _ _ h => kH_K_M h)
  (case aB => exact HB.out)
  (case aS => exact HB.out.size)
  (case aL => have := HN.out; simp only [List.length_nil]; omega)
  intro v1 w1 ho1 hb1 hg1 hat1
  have HO1 := Aside0.mk ho1
  have HB1 := Aside0.mk hb1
  clear ho1 hb1 hg1 hat1
  go_wp2
  go_ret
  exact ⟨_, rfl, HO1.out, HB1.out⟩
theorem cloneCalls (A : Option Addr) (n c : Nat) (xs : List Hd) (w : World) (hC : kH.C w A n xs) (hn : n ≤ 3518437208) : Calls Try.prog 32 #[.slice A n c] w fun e w' => ∃ v1, e = .returned v1 ∧ kH.R TH w' w.heap.size (fun _ => True) v1 xs ∧ Below w.heap.size w w' := by
  have hl := hC.1
  rcases A with _ | a
  · have h0 : n = 0 := by
      rcases Nat.eq_zero_or_pos n with h | h
      · exact h
      · obtain ⟨ad, e, _⟩ := hC.2.2 h
        cases e
    have : xs = [] := List.eq_nil_of_length_eq_zero (by omega)
    subst this
    exact cloneNil n c w h0
  · subst hl
    exact cloneSome a c xs w hC hn
theorem infoC : ∃ i, Try.prog.info? 56 = some i ∧ i.bytes = 0 := by
  have h : (Try.prog.info? 56).map (·.bytes) = some 0 := by kernel_rfl
  obtain ⟨i, hi, hb⟩ := Option.map_eq_some_iff.1 h
  exact ⟨i, hi, hb⟩
theorem mkChan (w : World) : (Instr.makeChan 75 (.int .i64 0)).run Try.prog w = .ok (.chan (some w.heap.size)) (w.alloc (.chan 0 #[] false 0 0 false)) := by
  obtain ⟨i, hi, hb⟩ := infoC
  simpa using Go.Conc.run_makeChan (P := Try.prog) (w := w) Try.underlying75 hi .i64 0 (by omega) (by rw [hb]; omega)
theorem zeroT (W : World) : (zeroValue TT).run Try.prog W = .ok (.agg #[.int .u64 0, .slice none 0 0, .bool false, .chan none]) W := by kernel_rfl
end Go.Proofs.Ytkgabeloofjohaa.Gap
