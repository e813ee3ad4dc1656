/- The law's own awake over layer 12. -/
import Derived.Test.YtnpjppnahfehnaaDoorSkipJ
namespace Go.Proofs.YtnpjppnahfehnaaDoor.Skip
set_option linter.unusedVariables false
set_option linter.unusedSimpArgs false
open Go.RowKit Go.Proofs.YtnpjppnahfehnaaDoorW.PrintWords Go.Proofs.YtnpjppnahfehnaaDoor.Kit Go.MuLone

/-- A list of the law's own. -/
structure Ol (w0 w : World) (g : Nat) (hd : Nd) (ns : List Nd) : Prop where
  sk : Sk w g 0 hd ns
  fp : ∀ i, Fp g hd ns i → w0.heap.size ≤ i
  below : Below w0.heap.size w0 w
theorem Ol.belowed {w0 w w' : World} {g : Nat} {hd : Nd} {ns : List Nd} (h : Ol w0 w g hd ns) (hb : Below w.heap.size w w') : Ol w0 w' g hd ns := ⟨h.sk.below hb, h.fp, h.below.trans (hb.mono h.below.size)⟩
theorem Ol.turned {w0 w w' : World} {g : Nat} {hd : Nd} {ns ns' : List Nd} (h : Ol w0 w g hd ns) (hl : Lv w w' g 0 hd ns ns') : Ol w0 w' g hd ns' :=
  ⟨hl.sk, fun i hi => by
    rcases hl.fp i hi with h1 | h1
    · exact h.fp i h1
    · exact Nat.le_trans h.below.size h1, h.below.trans (hl.only.below h.fp h.below.size)⟩
theorem Ol.new (w w' : World) (g : Nat) (hd : Nd) (h : Sk w' g 0 hd [] ∧ Below w.heap.size w w' ∧ ∀ i, Fp g hd [] i → w.heap.size ≤ i) : Ol w w' g hd [] := ⟨h.1, h.2.2, h.2.1⟩

abbrev kA : ByteArray := ⟨#[97]⟩
abbrev kB : ByteArray := ⟨#[98]⟩
set_option maxHeartbeats 1600000 in
theorem awakeCalls (w : World) : Calls Tryd.prog 6 #[] w fun e w' => e = .returned (.bool true) ∧ Below w.heap.size w w' := by
  have hz := zeroE
  go_enter Tryd.func6, Tryd.ntmps6
  go_wp2_with fail
  refine (newCalls w).mono ?_
  rintro e w1 ⟨g, hd, rfl, ha⟩
  have HA := Aside0.mk (Ol.new w w1 g hd ha)
  clear ha
  have HP1 := Aside0.mk (putNew g hd [] [] kB 2 1 w1 HA.out.sk (fun x h => by simp at h) (fun x h => by simp at h) (fun z t h => by cases h) (by decide) (by decide) (by decide) (by decide))
  go_wp2_with fail
  refine HP1.out.mono ?_
  rintro e w2 ⟨N1, rfl, hk1, hv1, hh1, hl1⟩
  have HA2 := Aside0.mk (HA.out.turned hl1)
  have hlt : ltB N1.k kA = false := by rw [hk1]; unfold ltB; rw [ByteArray.toList_eq, ByteArray.toList_eq]; decide
  have hne : N1.k ≠ kA := by rw [hk1]; decide
  have HP2 := Aside0.mk (putNew g hd [] [N1] kA 1 3 w2 HA2.out.sk (fun x h => by simp at h) (fun x h => by rw [List.mem_singleton] at h; rw [h]; exact hlt) (fun z t h => by injection h with h1 h2; rw [← h1]; exact hne) (by decide) (by decide) (by decide) (by simp))
  clear hk1 hv1 hh1 hl1 hlt hne HA HP1
  go_wp2_with fail
  refine HP2.out.mono ?_
  rintro e w3 ⟨N2, rfl, hk2, hv2, hh2, hl2⟩
  have HA3 := Aside0.mk (HA2.out.turned hl2)
  have HSk : Aside0 (Calls Tryd.prog 10 #[.pointer (some ⟨g, 0, none⟩), .string ⟨#[]⟩, .bool false] w3 fun e w' => e = .returned (.tuple #[.agg #[.string kA, .int .i64 N2.v, .int .i64 N2.h], .bool true]) ∧ Below w3.heap.size w3 w') := ⟨by
    have := seekCalls g hd [] (N2 :: [N1]) ⟨#[]⟩ false w3 HA3.out.sk (fun x h => by simp at h) (fun x h => by unfold ltB; rw [ByteArray.toList_eq, ByteArray.toList_eq]; exact bl_nil _)
    rw [← hk2]
    exact this⟩
  clear hk2 hv2 hh2 hl2 HA2 HP2
  go_wp2_with fail
  refine HSk.out.mono ?_
  rintro e w4 ⟨rfl, hb4⟩
  have HA4 := Aside0.mk (HA3.out.belowed hb4)
  clear hb4 HA3 HSk
  go_upto_region 7 with (fail)
  obtain ⟨W, hW⟩ : ∃ W, W = w4.alloc (.cells #[.string kA, .int .i64 N2.v, .int .i64 N2.h] TE) := ⟨_, rfl⟩
  have hbW : Below w4.heap.size w4 W := by rw [hW]; exact (Below.refl _ _).alloc (Nat.le_refl _) _
  have HX : Aside0 (Blk W w4.heap.size [.string kA, .int .i64 N2.v, .int .i64 N2.h] TE) := ⟨by rw [hW]; exact Blk.newA w4 _ _⟩
  have HA5 := Aside0.mk (HA4.out.belowed hbW)
  have HLn := Aside0.mk (lenCalls g hd _ W HA5.out.sk)
  rw [← hW]
  clear hW hbW HA4
  have x0 := HX.out.cell 0 _ rfl
  go_wp2_with fail
  refine HLn.out.mono ?_
  rintro e w' ⟨rfl, rfl⟩
  simp only [List.nil_append, List.length_cons, List.length_nil]
  go_wp2
  go_ret
  exact ⟨rfl, HA5.out.below⟩
end Go.Proofs.YtnpjppnahfehnaaDoor.Skip
