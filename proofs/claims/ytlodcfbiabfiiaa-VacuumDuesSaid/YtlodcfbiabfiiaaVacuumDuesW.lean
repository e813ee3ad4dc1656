/- The walk of the law VacuumDues. -/
import Derived.Test.YtlodcfbiabfiiaaDuesD
namespace Go.Proofs.Ytlodcfbiabfiiaa.Dues
set_option linter.unusedVariables false
set_option linter.unusedSimpArgs false
open Go.RowKit Go.Proofs.YtlodcfbiabfiiaaW.PrintWords Go.Proofs.Ytlodcfbiabfiiaa.Kit

theorem zeroW (W : World) : (zeroValue TW).run Try.prog W = .ok (.agg #[.int .i64 0, .int .i64 0, .int .i64 0, .int .i64 0, .int .i64 0]) W := by kernel_rfl
theorem C_two (w : World) (b : Nat) (x y : S) (h : Blk w b [.int .i64 x.f0, .int .i64 x.f1, .int .i64 x.f2, .int .i64 x.f3, .int .i64 x.f4, .int .i64 y.f0, .int .i64 y.f1, .int .i64 y.f2, .int .i64 y.f3, .int .i64 y.f4] TW) : PVacuumDues.k31.C w (some ⟨b, 0, none⟩) 2 [x, y] := by
  refine ⟨rfl, by decide, fun _ => ⟨_, rfl, fun j p hj => ?_⟩⟩
  match j, hj with
  | 0, hj =>
    injection hj with hj
    subst hj
    exact ⟨_, rfl, PVacuumDues.k31_mk w x, fun i u hi => by
      rw [plainAdd]
      match i, hi with
      | 0, hi => exact h.cell 0 u hi
      | 1, hi => exact h.cell 1 u hi
      | 2, hi => exact h.cell 2 u hi
      | 3, hi => exact h.cell 3 u hi
      | 4, hi => exact h.cell 4 u hi
      | n + 5, hi => simp at hi⟩
  | 1, hj =>
    injection hj with hj
    subst hj
    exact ⟨_, rfl, PVacuumDues.k31_mk w y, fun i u hi => by
      rw [plainAdd]
      match i, hi with
      | 0, hi => exact h.cell 5 u hi
      | 1, hi => exact h.cell 6 u hi
      | 2, hi => exact h.cell 7 u hi
      | 3, hi => exact h.cell 8 u hi
      | 4, hi => exact h.cell 9 u hi
      | n + 5, hi => simp at hi⟩
  | n + 2, hj => simp at hj
def two : List S := [⟨5, 0, 0, 0, 0⟩, ⟨5, 0, 6, 0, 0⟩]
theorem two_due : dueTo two 0 1000 2 = [1] := by decide +kernel
theorem two_ok : ∀ i : Nat, i < two.length → (toWs (PVacuumDues.rd_T31 two (i : Int))).ok := fun i hi => by
  match i, hi with
  | 0, _ => exact ⟨by unfold R64; decide, by unfold R64; decide⟩
  | 1, _ => exact ⟨by unfold R64; decide, by unfold R64; decide⟩
  | n + 2, hi => have h : two.length = 2 := rfl; omega

set_option maxRecDepth 100000 in
set_option maxHeartbeats 1600000 in
theorem awakeCalls (w : World) : Calls Try.prog 7 #[] w fun e w' => e = .returned (.bool true) ∧ Below w.heap.size w w' := by
  have hz := zeroW
  go_enter Try.func7, Try.ntmps7
  go_wp2_with fail
  obtain ⟨W, hW⟩ : ∃ W, W = w.alloc (.cells #[.int .i64 5, .int .i64 0, .int .i64 0, .int .i64 0, .int .i64 0, .int .i64 5, .int .i64 0, .int .i64 6, .int .i64 0, .int .i64 0] TW) := ⟨_, rfl⟩
  have HB : Aside0 (Below w.heap.size w W) := ⟨by rw [hW]; exact (Below.refl _ _).alloc (Nat.le_refl _) _⟩
  have HC : Aside0 (PVacuumDues.k31.C W (some ⟨w.heap.size, 0, none⟩) two.length two) := ⟨C_two W _ ⟨5, 0, 0, 0, 0⟩ ⟨5, 0, 6, 0, 0⟩ (by rw [hW]; exact Blk.newA w _ _)⟩
  rw [← hW]
  clear hW hz
  refine (dueAll (some ⟨w.heap.size, 0, none⟩) 2 two 0 1000 (by decide) (by decide) (by decide) two_ok W HC.out).mono ?_
  rintro e w2 ⟨v, rfl, hR, hb⟩
  have hd : dueTo two 0 1000 two.length = [1] := two_due
  rw [hd] at hR
  obtain ⟨g, cap, rfl, hg1, hg2, cells, hg3⟩ := Kd.R_form hR (by decide)
  have hy := (Kd.R_celln 0 hR 0 (by decide) (by decide)).1
  have HB2 := Aside0.mk (HB.out.trans (hb.mono HB.out.size))
  have hy2 : w2.cell? ⟨g, 0, none⟩ = some (.int .i64 1) := hy
  clear hR hb hg1 hg2 hg3 HB HC hy hd
  go_wp2
  go_ret
  exact ⟨rfl, HB2.out⟩

theorem dueArg (A : Option Addr) (n c : Nat) (base th : Int) (h : base < 0 ∨ th < 0) (w : World) :
    Calls Try.prog 4 #[.slice A n c, .int .i64 base, .int .i64 th] w fun e w' => e = .returned (.tuple #[.slice none 0 0, .int .i64 1]) ∧ w = w' := by
  by_cases h0 : base < 0
  · clear h
    go_enter Try.func4, Try.ntmps4
    go_wp2
    go_ret2
    exact ⟨rfl, rfl⟩
  · have h1 : th < 0 := by omega
    clear h
    go_enter Try.func4, Try.ntmps4
    go_wp2
    go_ret2
    exact ⟨rfl, rfl⟩
theorem same_l (x0 : List Int) (h2 : x0.length ≤ 17592186044000) (d : Nat) : ∀ (k i : Nat), i + d = x0.length → d < k → PVacuumDues.vellumlaw22_same.l0 k x0 x0 i = some true := by
  induction d with
  | zero =>
    intro k i hi hk
    obtain ⟨k, rfl⟩ : ∃ m, k = m + 1 := ⟨k - 1, by omega⟩
    simp only [PVacuumDues.vellumlaw22_same.l0]
    rw [if_neg (by omega)]
  | succ d ih =>
    intro k i hi hk
    obtain ⟨k, rfl⟩ : ∃ m, k = m + 1 := ⟨k - 1, by omega⟩
    simp only [PVacuumDues.vellumlaw22_same.l0]
    simp only [wrap_next i (by omega), ih k (i + 1) (by omega) (by omega)]
    simp
theorem same_is (x0 : List Int) (h2 : x0.length ≤ 17592186044000) : PVacuumDues.vellumlaw22_same.f (x0.length + 1) x0 x0 = some true := by
  have := same_l x0 h2 x0.length (x0.length + 1) 0 (by omega) (by omega)
  simp only [PVacuumDues.vellumlaw22_same.f]
  simpa using this
theorem kWs_opens : Opens Try.prog 22 (Kd.slice TW PVacuumDues.k31) (fun xs => xs.length * 40 ≤ 140737488351232 ∧ ∀ x ∈ xs, (Lit.int .i64 x.f0).wf = true ∧ (Lit.int .i64 x.f1).wf = true ∧ (Lit.int .i64 x.f2).wf = true ∧ (Lit.int .i64 x.f3).wf = true ∧ (Lit.int .i64 x.f4).wf = true) :=
  opens_slice Try.underlying22 (by kernel_rfl) 40 (by kernel_rfl)
    (opens_struct (fun x : S => (x.f0, x.f1, x.f2, x.f3, x.f4)) (fun a => ⟨a.1, a.2.1, a.2.2.1, a.2.2.2.1, a.2.2.2.2⟩) (fun _ => rfl) Try.underlying31 5 (by kernel_rfl) _ rfl
      (opensFs_cons rfl (opens_int .i64 Try.underlying3) (opensFs_cons (by kernel_rfl) (opens_int .i64 Try.underlying3) (opensFs_cons (by kernel_rfl) (opens_int .i64 Try.underlying3) (opensFs_cons (by kernel_rfl) (opens_int .i64 Try.underlying3) (opensFs_one (by kernel_rfl) (by kernel_rfl) (opens_int .i64 Try.underlying3)))))))
theorem i64_range {x : Int} (h : (Lit.int .i64 x).wf = true) : R64 x := by
  simp [Lit.wf, IntKind.min, IntKind.max, IntKind.signed, IntKind.bits] at h
  unfold R64
  omega

/-- Both answer with one list. -/
theorem duesGen (A : Option Addr) (c : Nat) (l : List S) (base th : Int) (os : List Int) (er : Int) (w : World)
    (HP : Aside0 (∀ W, PVacuumDues.k31.C W A l.length l → Calls Try.prog 4 #[.slice A l.length c, .int .i64 base, .int .i64 th] W fun e w' => ∃ v, e = .returned (.tuple #[v, .int .i64 er]) ∧ (Kd.int .i64).R 3 w' W.heap.size (fun _ => True) v os ∧ Below W.heap.size W w'))
    (k : Nat) (HRf : Aside0 (PVacuumDues.vellumref22_Due.f k l base th = some (os, er))) (hos : os.length ≤ 17592186044000) (hle : l.length ≤ c) (hC : PVacuumDues.k31.C w A l.length l) :
    Calls Try.prog 3 #[.slice A l.length c, .int .i64 base, .int .i64 th] w fun e w' => e = .returned (.bool true) ∧ Below w.heap.size w w' := by
  have HC := Aside0.mk hC
  have HLe := Aside0.mk hle
  have HSm := Aside0.mk (same_is os hos)
  have HOs := Aside0.mk hos
  clear hC hle hos
  go_enter Try.func3, Try.ntmps3
  go_wp2_with fail
  refine (HP.out w HC.out).mono ?_
  rintro e w1 ⟨v1, rfl, hR1, hb1⟩
  obtain ⟨A1, c1, rfl⟩ := Kd.R_slice hR1
  have HR1 := Aside0.mk hR1
  have HB1 := Aside0.mk hb1
  clear hR1 hb1
  go_wp2_with fail
  refine (PVacuumDues.vellumref22_Due.calls k A c l base th os er w1 (Kd.C_below HC.out HB1.out) HLe.out HRf.out).mono ?_
  rintro e w2 ⟨v2, rfl, hR2, hb2⟩
  obtain ⟨A2, c2, rfl⟩ := Kd.R_slice hR2
  have HRa := Aside0.mk (Kd.R_reads' (Kd.R_below HR1.out hb2))
  have HRb := Aside0.mk (Kd.R_reads' hR2)
  have HB2 := Aside0.mk (HB1.out.trans (hb2.mono HB1.out.size))
  clear hR2 hb2 HR1 HB1 HP
  go_wp2_with fail
  refine (PVacuumDues.vellumlaw22_same.calls (os.length + 1) A1 c1 os A2 c2 os true w2 HRa.out.2.2 HRa.out.2.1 HRb.out.2.2 HRb.out.2.1 HSm.out).mono ?_
  rintro e w3 ⟨rfl, ⟨nd, rfl⟩⟩
  have HB3 := Aside0.mk (pw_below_drewN HB2.out nd)
  clear HRa HRb HB2
  go_wp2_with fail
  refine (awakeCalls _).mono ?_
  rintro e w4 ⟨rfl, hb4⟩
  have HB4 := Aside0.mk (HB3.out.trans (hb4.mono HB3.out.size))
  clear hb4 HB3
  go_wp2
  go_ret
  exact ⟨rfl, HB4.out⟩
theorem vacuumDues_walk (A : Option Addr) (c : Nat) (l : List S) (base th : Int) (w : World) (hC : PVacuumDues.k31.C w A l.length l) (hle : l.length ≤ c) (hl : l.length * 40 ≤ 140737488351232) (hok : ∀ x ∈ l, R64 x.f0 ∧ R64 x.f2) (hb : R64 base) (ht : R64 th) :
    Calls Try.prog 3 #[.slice A l.length c, .int .i64 base, .int .i64 th] w fun e w' => e = .returned (.bool true) ∧ Below w.heap.size w w' := by
  by_cases h : base < 0 ∨ th < 0
  · exact duesGen A c l base th [] 1 w ⟨fun W _ => (dueArg A l.length c base th h W).mono fun e w' ⟨he, hw⟩ => ⟨_, he, Kd.R_nil _ _ _ _ _, hw ▸ Below.refl _ _⟩⟩ 1 ⟨ref_arg l base th 0 h⟩ (by decide) hle hC
  · unfold R64 at hb ht
    obtain ⟨b, rfl⟩ : ∃ b : Nat, base = b := ⟨base.toNat, by omega⟩
    obtain ⟨t, rfl⟩ : ∃ t : Nat, th = t := ⟨th.toNat, by omega⟩
    have hokr : ∀ i : Nat, i < l.length → R64 (PVacuumDues.rd_T31 l (i : Int)).f0 ∧ R64 (PVacuumDues.rd_T31 l (i : Int)).f2 := fun i hi => by
      have e : PVacuumDues.rd_T31 l (i : Int) = l[i] := by unfold PVacuumDues.rd_T31; simp [hi]
      rw [e]
      exact hok _ (List.getElem_mem hi)
    have hd := dueTo_len l b t l.length
    exact duesGen A c l b t (dueTo l b t l.length) 0 w ⟨fun W hW => dueAll A c l b t (by omega) (by omega) (by omega) (fun i hi => ⟨(hokr i hi).1, (hokr i hi).2⟩) W hW⟩ _ ⟨ref_all l b t (by omega) (by omega) (by omega) hokr⟩ (by omega) hle hC
end Go.Proofs.Ytlodcfbiabfiiaa.Dues
