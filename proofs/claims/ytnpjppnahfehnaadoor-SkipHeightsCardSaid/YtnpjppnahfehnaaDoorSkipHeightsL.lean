/- The law vellumlaw12.SkipHeights: for every input the call returns true, and the argument reads behind it as it read before; the table that math/bits reads is tied to the program's text (the card).
No condition beyond the row's own: the table holds what its initialiser lays. -/
import Derived.Test.YtnpjppnahfehnaaDoorHgtB
import Derived.Test.YtnpjppnahfehnaaDoorOpen
import Derived.Test.YtnpjppnahfehnaaDoorRows
import Derived.Test.YtnpjppnahfehnaaDoorTie
import Derived.Test.YtnpjppnahfehnaaDoorCards
import Derived.WalkKit
import Derived.ProofKit
import Derived.OpenShut
import Derived.ShutString
import Derived.ChangeOld
import Derived.Below
import Derived.SizedLaws
import Derived.LaidMore
import Derived.Stop.Joined
import Derived.SevenTiedAt
namespace Go.Proofs.YtnpjppnahfehnaaDoor.skipHeights
open Go.ChangeShapes Go.WideShapes Go.ChangeAt Go.RowKit Go.Proofs.YtnpjppnahfehnaaDoorW.PrintWords Go.Proofs.YtnpjppnahfehnaaDoor.Kit Skip
open Go.ChangeMaps (open_string shut_string)
set_option linter.unusedVariables false
noncomputable abbrev F : Func := Tryd.f3
theorem own : ownKnob Tryd.prog.godebug = none := by kernel_rfl
theorem laidOut : laidOutB Tryd.prog = true := by kernel_rfl
theorem gTab : Tryd.prog.globalNamed "math/bits.deBruijn64tab" = some 0 := by kernel_rfl
theorem tTab : (Tryd.prog.globals[0]?).map (·.type) = some 38 := by kernel_rfl
abbrev LD : List (String × DataW Unit) := Rows.skipHeightsRow.laid
theorem door_met (os : Os) (args : Array Value) : laidMetH Tryd.prog LD ((World.doorLaid Tryd.prog 400 os).forCall (fun _ _ => 0) ⟨#[], args, []⟩).memory :=
  laidMetH_of_parts3 (fuel := 8) (laidMet_of_run' 8 (by kernel_rfl) (by kernel_rfl)) (by kernel_rfl) (by kernel_rfl)
theorem of_laid {W : World} (h : laidMetH Tryd.prog LD W) : TabAt W := by
  rw [MakeChecks.laidMetH_plain _ _ _ (by kernel_rfl)] at h
  obtain ⟨ps, ⟨g0, t0, cs0, f0, p0, q0, hg0, ht0, hv0, hd0, _, _⟩, _, _⟩ := h
  obtain rfl := Option.some.inj (gTab.symm.trans hg0)
  obtain rfl := Option.some.inj (tTab.symm.trans ht0)
  obtain ⟨xs, m1, rfl, hx1, hlen, hn3, hel⟩ := DataW.trod_array Tryd.underlying38 hd0
  have c8 : Tryd.prog.cellsOf 5 = 1 := by kernel_rfl
  simp only [Prod.mk.injEq] at hx1
  obtain ⟨hx1, _⟩ := hx1
  have hx2 : (Lib.deBruijn64tab.map (fun n : Nat => (DataW.lit (.int .u8 (n : Int)) : DataW Unit))) = xs.map (·.1) := by
    have e : (Rows.laid_math_bits_deBruijn64tab : DataW Unit) = .agg (Lib.deBruijn64tab.map (fun n : Nat => (DataW.lit (.int .u8 (n : Int)) : DataW Unit))) := rfl
    rw [e] at hx1
    injection hx1
  intro j hj
  have hxl : xs.length = 64 := hn3
  have h0 := hel j (by omega)
  rw [List.getElem?_eq_getElem (by omega)] at h0
  have h1 : (xs.map (·.1))[j]? = some (xs[j]'(by omega)).1 := by rw [List.getElem?_map, List.getElem?_eq_getElem (by omega)]; rfl
  rw [← hx2, List.getElem?_map] at h1
  have hjt : j < Lib.deBruijn64tab.length := hj
  rw [List.getElem?_eq_getElem hjt] at h1
  simp only [Option.map_some, Option.some.injEq] at h1
  obtain ⟨k, e1, e2, _⟩ := DataW.trod_int Tryd.underlying5 h0
  rw [e2] at h1
  have hk : k = (Lib.deBruijn64tab[j] : Nat) := by simpa using h1.symm
  have hc := World.var?_cell hg0 hv0 j
  rw [c8] at e1
  obtain ⟨l1⟩ := cs0
  have hj1 : l1[j]? = some (.int .u8 k) := by
    have hh : ((l1.drop (j * 1)).take 1)[0]? = some (.int .u8 k) := by rw [e1]; rfl
    rw [List.getElem?_take_of_lt (by omega), List.getElem?_drop] at hh
    simpa using hh
  rw [show (List.getD Lib.deBruijn64tab j 0) = Lib.deBruijn64tab[j] by simp [hjt], ← hk]
  rw [hc]
  simpa using hj1

set_option maxRecDepth 100000 in
theorem lifted (os : Os) (started : os.Started) (H : Type) (enc : TypeId × Value → H) :
    ReturnsInHanded {} Tryd.checked os 3 .any (fun w args => (Rows.skipHeightsSpec.pre enc Tryd.prog F [] false w args ∧ laidMetH Tryd.prog LD w) ∧ sizedMet enc Tryd.prog F (OpenSpec.ofChange Rows.skipHeightsSpec) false w args)
      (Rows.skipHeightsSpec.post enc Tryd.prog F false true false false) := by
  refine returnsInHanded_of_change_and (C := Tryd.checked) (X := fun w _ => laidMetH Tryd.prog LD w) (fun _ _ _ hh h => h.of_heap hh) own started (by kernel_rfl) Tryd.func3
    (ChangeSpec.witness_shaped (enc := enc) (C := Tryd.checked) (os := os) (X := fun w _ => laidMetH Tryd.prog LD w) false (World.doorLaid Tryd.prog 400 os) #[.string ByteArray.empty] 8 rfl (World.shaped_of_RefB (by kernel_rfl) (by kernel_rfl)) (by kernel_rfl) (by kernel_rfl) (by kernel_rfl) (door_met os _)) ?_
  intro W base args ds gs before hval0 hW hcnd hsz0 hL _
  have hsz : (DataW.weightsEach Tryd.prog (F.params.toList ++ Rows.skipHeightsSpec.plain.varTypes Tryd.prog) (ds ++ gs)).all (· ≤ reachBytes) = true := hsz0
  have hval : ∀ (j : Nat) t v, F.params[j]? = some t → args[j]? = some v → Value.okWide Tryd.prog W .any base t v := hval0
  have hW' := hW
  obtain ⟨p, q, hA0, hV, rfl, hfz, hnd⟩ := hW
  have hA : DataW.TrodAll enc Tryd.prog W 0 (fun _ => true) true F.params.toList args.toList ds p := hA0
  rw [Tryd.params3] at hA hval hsz
  obtain ⟨v0, vs0, d0, ds0, p0, q0, hargs, rfl, rfl, h0, r0⟩ := trodAll_cons hA
  obtain ⟨rfl, rfl, rfl⟩ := trodAll_nil r0
  obtain rfl : args = #[v0] := by cases args; simp_all
  obtain ⟨rfl, rfl⟩ := trodVars_none hV
  obtain ⟨a0, rfl, rfl, rfl, y0⟩ := open_string Tryd.underlying9 (hval 0 9 v0 rfl rfl) h0
  have ws0 : a0.size ≤ 140737488351232 := by
    have z := sized_string hsz (j := 0) (t := 9) rfl rfl
    rw [Array.length_toList] at z
    exact z
  have hT := of_laid hL
  clear hA0 hval0 hsz0 hsz
  refine (Skip.skipHeights_walk a0 ws0 W hT).mono fun e W' ⟨he, bel⟩ => ?_
  subst he
  exact ⟨_, rfl, _, _, _, [], _, [], hW', trodAll_mk1 (shut_bool Tryd.underlying4 _), (trodAll_cons_mk (shut_string Tryd.underlying9 y0) trodAll_mk0), rfl, bel.frame _, fun h => by cases h⟩
theorem over : Rows.skipHeightsRow.holds Tryd.pinned (OpenSpec.ofChange Rows.skipHeightsSpec) :=
  OpenClaim.holds_of_wide 3 F rfl rfl rfl rfl rfl rfl rfl ⟨rfl, rfl, rfl, rfl, rfl⟩ rfl rfl rfl rfl rfl (by kernel_rfl) Tryd.func3 (by kernel_rfl)
    (of_decide_eq_true (by kernel_rfl)) (by unfold Func.isWrapper; first | (rw [if_pos (by decide +kernel)]; kernel_rfl) | (rw [if_neg (by decide +kernel)]; exact ⟨rfl, rfl⟩))
    (fun os started H enc _ => lifted os started H enc)
theorem card : Rows.SkipHeightsCardSaid :=
  Claim7.holds_tied_plain_at .later [] [.data] true (true, "a9f3a3bf29865aafb157323a57bbde56c993f3205a5d39b73a912438e3d9de96") false
    over (fun _ h => by cases h) (by kernel_rfl) (fun _ h => by cases h) skipHeights_row_tie rfl ⟨rfl, rfl⟩ (by kernel_rfl) rfl
    (fun f fn hf hfn => by
      obtain rfl : f = 3 := Option.some.inj ((show Tryd.prog.funcNamed "vellum/vellumlaw12.SkipHeights" = some 3 by kernel_rfl).symm.trans hf) |>.symm
      obtain rfl : fn = F := (Option.some.inj (Tryd.func3.symm.trans hfn)).symm
      exact ⟨by kernel_rfl, fun j t ht => by
        rw [Tryd.params3] at ht
        have hm : t ∈ [9] := by simpa using Array.mem_of_getElem? ht
        have hall : ([9].all fun u => !Tryd.prog.wantsStandIn u) = true := by kernel_rfl
        exact (show Tryd.prog.wantsStandIn t = false by simpa using List.all_eq_true.1 hall t hm)⟩)
    (by kernel_rfl)
#print axioms card
end Go.Proofs.YtnpjppnahfehnaaDoor.skipHeights
