/- Layer 13: taker, Has, Ahead, Tickets. -/
import Derived.Test.YtkgabeloofjohaaGapK
import Derived.Deep.RegionHeld3
import Derived.Deep.DeepCutAuto
import Derived.Conc.MuLone
namespace Go.Proofs.Ytkgabeloofjohaa.Gap
set_option linter.unusedVariables false
set_option linter.unusedSimpArgs false
open Go.RowKit Go.Proofs.YtkgabeloofjohaaW.PrintWords Go.Proofs.Ytkgabeloofjohaa.Kit Go.MuLone

theorem findT_mem {ts : List Tk} {n : Int} {k : Tk} (h : findT ts n = some k) : k ∈ ts ∧ k.t = n := by
  unfold findT at h
  exact ⟨List.mem_of_find?_eq_some h, by simpa using List.find?_some h⟩

set_option maxRecDepth 100000 in
set_option maxHeartbeats 4000000 in
theorem takerCalls (g : Nat) (v : Value) (ts : List Tk) (last n : Int) (w : World) (h : Ga w g 0 v ts last) :
    Calls Try.prog 24 #[ptrV g, .int .u64 n] w fun e w' => e = .returned (tkV (findT ts n)) ∧ Ga w' g 0 v ts last ∧ Only (use g v ts) w w' := by
  have H := Aside0.mk h
  clear h
  obtain ⟨q, hq⟩ : ∃ q, q = tkV (findT ts n) := ⟨_, rfl⟩
  rw [← hq]
  have HQ := Aside0.mk hq
  clear hq
  go_enter_defers Try.func24, Try.ntmps24
  go_wp2_with fail
  refine (lock_free muLib ⟨g, 0, none⟩ w H.out.cell0 (H.out.gb.free 0)).mono ?_
  rintro e w1 ⟨rfl, hw1⟩
  have H1 : Aside0 (Ga w1 g 1 v ts last) := ⟨by rw [hw1]; exact H.out.lock 1⟩
  have HO1 : Aside0 (Only (use g v ts) w w1) := ⟨by rw [hw1]; exact lockOnly w g _ ts _⟩
  clear hw1 H
  go_wp2_with fail
  refine (findCalls g 1 v ts last n w1 H1.out).mono ?_
  rintro e w2 ⟨rfl, hb2⟩
  rw [← HQ.out]
  have H2 := Aside0.mk (H1.out.below hb2)
  have HO2 := Aside0.mk (HO1.out.trans (Only.ofBelow hb2))
  clear hb2 H1 HO1
  go_wp2_with fail
  refine leaves_cons (f := 21) (args := #[.pointer (some ⟨g, 0, none⟩)]) (by simp) (by simp [go_sem]) ?_
  refine (unlock_deferred muLib ⟨g, 0, none⟩ .returning _ H2.out.cell0 (H2.out.gb.free 0)).mono ?_
  rintro e u' w3 ⟨rfl, rfl, hw3⟩
  have H3 : Aside0 (Ga w3 g 0 v ts last) := ⟨by rw [hw3]; exact H2.out.lock 0⟩
  have HO3 : Aside0 (Only (use g v ts) w w3) := ⟨by rw [hw3]; exact HO2.out.trans (lockOnly w2 g _ ts _)⟩
  clear hw3 H2 HO2
  exact ⟨_, results_tmp rfl _ _ _, rfl, H3.out, HO3.out⟩

theorem R_keep {S : Nat → Prop} {e base : Nat} {w w' : World} {v : Value} {xs : List Int} (ho : Only S w w') (h : (Kd.int .u64).R e w base (fun _ => True) v xs) (hS : ∀ i, base ≤ i → ¬ S i) : (Kd.int .u64).R e w' base (fun _ => True) v xs := by
  have h' : (Kd.int .u64).R e w base (fun i => v.ownBlock = some i) v xs := ⟨fun _ h => h, h.2⟩
  have h2 := ho.R h' (fun i hb _ => hS i hb)
  exact ⟨fun _ _ => trivial, h2.2⟩

def hasV (ts : List Tk) (n : Int) : Value := match findT ts n with | some k => .tuple #[.bool k.gr, .int .i64 0] | none => .tuple #[.bool false, .int .i64 130]

set_option maxRecDepth 100000 in
set_option maxHeartbeats 4000000 in
theorem hasCalls (g : Nat) (v : Value) (ts : List Tk) (last n : Int) (w : World) (h : Ga w g 0 v ts last) :
    Calls Try.prog 8 #[ptrV g, .int .u64 n] w fun e w' => e = .returned (hasV ts n) ∧ Ga w' g 0 v ts last ∧ Only (use g v ts) w w' := by
  have H := Aside0.mk h
  clear h
  go_enter_defers Try.func8, Try.ntmps8
  go_wp2_with fail
  refine (lock_free muLib ⟨g, 0, none⟩ w H.out.cell0 (H.out.gb.free 0)).mono ?_
  rintro e w1 ⟨rfl, hw1⟩
  have H1 : Aside0 (Ga w1 g 1 v ts last) := ⟨by rw [hw1]; exact H.out.lock 1⟩
  have HO1 : Aside0 (Only (use g v ts) w w1) := ⟨by rw [hw1]; exact lockOnly w g _ ts _⟩
  clear hw1 H
  go_wp2_with fail
  refine (findCalls g 1 v ts last n w1 H1.out).mono ?_
  rintro e w2 ⟨rfl, hb2⟩
  have H2 := Aside0.mk (H1.out.below hb2)
  have HO2 := Aside0.mk (HO1.out.trans (Only.ofBelow hb2))
  clear hb2 H1 HO1
  cases hf : findT ts n with
  | none =>
    have HV : Aside0 (hasV ts n = .tuple #[.bool false, .int .i64 130]) := ⟨by unfold hasV; rw [hf]⟩
    clear hf
    simp only [tkV]
    go_wp2_with fail
    refine leaves_cons (f := 21) (args := #[.pointer (some ⟨g, 0, none⟩)]) (by simp) (by simp [go_sem]) ?_
    refine (unlock_deferred muLib ⟨g, 0, none⟩ .returning _ H2.out.cell0 (H2.out.gb.free 0)).mono ?_
    rintro e u' w3 ⟨rfl, rfl, hw3⟩
    have H3 : Aside0 (Ga w3 g 0 v ts last) := ⟨by rw [hw3]; exact H2.out.lock 0⟩
    have HO3 : Aside0 (Only (use g v ts) w w3) := ⟨by rw [hw3]; exact HO2.out.trans (lockOnly w2 g _ ts _)⟩
    clear hw3 H2 HO2
    exact ⟨_, results_tmp2 rfl _ _ _, by rw [HV.out]; rfl, H3.out, HO3.out⟩
  | some k =>
    have HV : Aside0 (hasV ts n = .tuple #[.bool k.gr, .int .i64 0]) := ⟨by unfold hasV; rw [hf]⟩
    have k2 := (H2.out.tk k (findT_mem hf).1).blk.cell 2 _ rfl
    clear hf
    simp only [tkV]
    go_wp2_with fail
    clear k2
    refine leaves_cons (f := 21) (args := #[.pointer (some ⟨g, 0, none⟩)]) (by simp) (by simp [go_sem]) ?_
    refine (unlock_deferred muLib ⟨g, 0, none⟩ .returning _ H2.out.cell0 (H2.out.gb.free 0)).mono ?_
    rintro e u' w3 ⟨rfl, rfl, hw3⟩
    have H3 : Aside0 (Ga w3 g 0 v ts last) := ⟨by rw [hw3]; exact H2.out.lock 0⟩
    have HO3 : Aside0 (Only (use g v ts) w w3) := ⟨by rw [hw3]; exact HO2.out.trans (lockOnly w2 g _ ts _)⟩
    clear hw3 H2 HO2
    exact ⟨_, results_tmp2 rfl _ _ _, by rw [HV.out]; rfl, H3.out, HO3.out⟩

/-- What Ahead tells. -/
def aheadE (ts : List Tk) (n : Int) : List Int × Int := match findT ts n with | some k => (aheadK ts k, 0) | none => ([], 130)

set_option maxRecDepth 100000 in
set_option maxHeartbeats 4000000 in
theorem AheadCalls (g : Nat) (v : Value) (ts : List Tk) (last n : Int) (w : World) (h : Ga w g 0 v ts last) :
    Calls Try.prog 30 #[ptrV g, .int .u64 n] w fun e w' => ∃ v1, e = .returned (.tuple #[v1, .int .i64 (aheadE ts n).2]) ∧ (Kd.int .u64).R TU w' w.heap.size (fun _ => True) v1 (aheadE ts n).1 ∧ Ga w' g 0 v ts last ∧ Only (use g v ts) w w' := by
  have H := Aside0.mk h
  clear h
  go_enter_defers Try.func30, Try.ntmps30
  go_wp2_with fail
  refine (lock_free muLib ⟨g, 0, none⟩ w H.out.cell0 (H.out.gb.free 0)).mono ?_
  rintro e w1 ⟨rfl, hw1⟩
  have H1 : Aside0 (Ga w1 g 1 v ts last) := ⟨by rw [hw1]; exact H.out.lock 1⟩
  have HO1 : Aside0 (Only (use g v ts) w w1) := ⟨by rw [hw1]; exact lockOnly w g _ ts _⟩
  clear hw1
  go_wp2_with fail
  refine (findCalls g 1 v ts last n w1 H1.out).mono ?_
  rintro e w2 ⟨rfl, hb2⟩
  have H2 := Aside0.mk (H1.out.below hb2)
  have HO2 := Aside0.mk (HO1.out.trans (Only.ofBelow hb2))
  clear hb2 H1 HO1
  cases hf : findT ts n with
  | none =>
    have HV : Aside0 (aheadE ts n = ([], 130)) := ⟨by unfold aheadE; rw [hf]⟩
    clear hf
    simp only [tkV]
    go_wp2_with fail
    refine leaves_cons (f := 21) (args := #[.pointer (some ⟨g, 0, none⟩)]) (by simp) (by simp [go_sem]) ?_
    refine (unlock_deferred muLib ⟨g, 0, none⟩ .returning _ H2.out.cell0 (H2.out.gb.free 0)).mono ?_
    rintro e u' w3 ⟨rfl, rfl, hw3⟩
    have H3 : Aside0 (Ga w3 g 0 v ts last) := ⟨by rw [hw3]; exact H2.out.lock 0⟩
    have HO3 : Aside0 (Only (use g v ts) w w3) := ⟨by rw [hw3]; exact HO2.out.trans (lockOnly w2 g _ ts _)⟩
    clear hw3 H2 HO2
    exact ⟨_, results_tmp2 rfl _ _ _, _, by rw [HV.out]; rfl, by rw [HV.out]; exact Kd.R_nil _ _ _ _ _, H3.out, HO3.out⟩
  | some k =>
    have HV : Aside0 (aheadE ts n = (aheadK ts k, 0)) := ⟨by unfold aheadE; rw [hf]⟩
    have HA := Aside0.mk (aheadCalls g 1 v ts last k w2 H2.out (H2.out.tk k (findT_mem hf).1))
    clear hf
    simp only [tkV]
    generalize aheadK ts k = L at *
    go_wp2_with fail
    refine HA.out.mono ?_
    rintro e w4 ⟨v1, rfl, hr, hb4⟩
    have H4 := Aside0.mk (H2.out.below hb4)
    have HO4 := Aside0.mk (HO2.out.trans (Only.ofBelow hb4))
    have HR := Aside0.mk (Kd.R_lower hr HO2.out.size)
    clear hr hb4 HA H2 HO2
    go_wp2_with fail
    refine leaves_cons (f := 21) (args := #[.pointer (some ⟨g, 0, none⟩)]) (by simp) (by simp [go_sem]) ?_
    refine (unlock_deferred muLib ⟨g, 0, none⟩ .returning _ H4.out.cell0 (H4.out.gb.free 0)).mono ?_
    rintro e u' w3 ⟨rfl, rfl, hw3⟩
    have H3 : Aside0 (Ga w3 g 0 v ts last) := ⟨by rw [hw3]; exact H4.out.lock 0⟩
    have HO3 : Aside0 (Only (use g v ts) w w3) := ⟨by rw [hw3]; exact HO4.out.trans (lockOnly w4 g _ ts _)⟩
    have HR3 : Aside0 ((Kd.int .u64).R TU w3 w.heap.size (fun _ => True) v1 L) := ⟨by
      rw [hw3]
      refine R_keep (onlyG (Only.refl _ w4)) HR.out (fun i h1 e => ?_)
      have h2 := H.out.gb.lt
      omega⟩
    clear hw3 H4 HO4
    exact ⟨_, results_tmp2 rfl _ _ _, v1, by rw [HV.out]; rfl, by rw [HV.out]; exact HR3.out, H3.out, HO3.out⟩

def tickets (ts : List Tk) : List Int := ts.map (·.t)
theorem tickets_succ {ts : List Tk} {i : Nat} {k : Tk} (h : ts[i]? = some k) : tickets (ts.take (i + 1)) = tickets (ts.take i) ++ [k.t] := by
  unfold tickets
  rw [List.take_add_one, h, Option.toList_some, List.map_append]
  rfl

set_option maxRecDepth 100000 in
set_option maxHeartbeats 4000000 in
theorem TicketsCalls (g : Nat) (v : Value) (ts : List Tk) (last : Int) (w : World) (h : Ga w g 0 v ts last) :
    Calls Try.prog 10 #[ptrV g] w fun e w' => ∃ v1, e = .returned v1 ∧ (Kd.int .u64).R TU w' w.heap.size (fun _ => True) v1 (tickets ts) ∧ Ga w' g 0 v ts last ∧ Only (use g v ts) w w' := by
  obtain ⟨A, c, rfl, _⟩ := h.slice
  have H := Aside0.mk h
  have HS := Aside0.mk h.small
  clear h
  go_enter_defers Try.func10, Try.ntmps10
  go_wp2_with fail
  refine (lock_free muLib ⟨g, 0, none⟩ w H.out.cell0 (H.out.gb.free 0)).mono ?_
  rintro e w1 ⟨rfl, hw1⟩
  have H1 : Aside0 (Ga w1 g 1 (.slice A ts.length c) ts last) := ⟨by rw [hw1]; exact H.out.lock 1⟩
  have HO1 : Aside0 (Only (use g (.slice A ts.length c) ts) w w1) := ⟨by rw [hw1]; exact lockOnly w g _ ts _⟩
  clear hw1
  have c3 := H1.out.cell3
  go_wp2_with fail
  clear c3
  go_loopw [18, 3] (fun x u wr => ∃ i : Nat, i ≤ ts.length ∧ x = .int .i64 i ∧ Aside0 ((Kd.int .u64).R TU wr w1.heap.size (fun _ => True) u (tickets (ts.take i))) ∧ Aside0 (Below w1.heap.size w1 wr)) (fun x u _ => ts.length - (intOf x).toNat)
  case atStart => exact ⟨0, Nat.zero_le _, rfl, ⟨Kd.R_nil _ _ _ _ _⟩, ⟨Below.refl _ _⟩⟩
  case round =>
    obtain ⟨i, hi, rfl, HR, HB⟩ := hrel
    have hs := HS.out
    by_cases hlt : i < ts.length
    · have HI := Aside0.mk (H1.out.below HB.out)
      obtain ⟨A', c', ee, hC⟩ := HI.out.slice
      injection ee with e1 e2 e3
      subst e1 e3
      obtain ⟨b, o, x, rfl, hx, c0⟩ := kP_at hC i hlt
      obtain ⟨k, hk, rfl⟩ := map_at _ hx
      have i1 : (i : Int) < (ts.length : Int) := by omega
      have HT2 := Aside0.mk (tickets_succ hk)
      have k0 := (HI.out.tk k (List.mem_of_getElem? hk)).blk.cell 0 _ rfl
      have hll : (tickets (ts.take i)).length ≤ i := by simp [tickets]; omega
      have HL := Aside0.mk hll
      clear hx hk hll HI hC
      generalize tickets (ts.take i) = L0 at *
      generalize k.id = kid at *
      generalize k.t = kt at *
      go_wp2_with ((with_reducible refine gate_builtin (b := .append) (xs := #[.tmp 22, .tmp 27]) rfl ?_); at_builtin; refine Kd.R_append (Kd.int .u64) (w0 := w1) w1.heap.size rfl (.tmp 22) (.tmp 27) TUs TU (.int .u64 0) 8 rfl Try.underlying29 (by kernel_rfl) rfl (by decide) (by omega) _ L0 kt [.int .u64 kt] (fun _ => True) (fun _ => False) rfl rfl ?aP (fun _ hk => hk.elim) ?aF ?aO ?aB ?aS ?aL ?_; (case aP => rfl); (case aF => exact fun _ _ => trivial); (case aO => exact HR.out); (case aB => exact HB.out); (case aS => exact HB.out.size); (case aL => have := HL.out; omega); intro v1 w2 ho hb hg hat; have HO2 := Aside0.mk ho; have HB2 := Aside0.mk hb; clear ho hb hg hat HR k0 c0)
      go_roundw
      case rel => exact ⟨i + 1, by omega, by go_num, ⟨by rw [HT2.out]; exact HO2.out⟩, HB2⟩
      case measure => simp [intOf]; omega
    · obtain rfl : i = ts.length := by omega
      clear hi
      rw [List.take_length] at HR
      have H2 := Aside0.mk (H1.out.below HB.out)
      have HO2 := Aside0.mk (HO1.out.trans (Only.ofBelow HB.out))
      go_wp2_with fail
      refine leaves_cons (f := 21) (args := #[.pointer (some ⟨g, 0, none⟩)]) (by simp) (by simp [go_sem]) ?_
      refine (unlock_deferred muLib ⟨g, 0, none⟩ .returning _ H2.out.cell0 (H2.out.gb.free 0)).mono ?_
      rintro e u' w3 ⟨rfl, rfl, hw3⟩
      have H3 : Aside0 (Ga w3 g 0 _ ts last) := ⟨by rw [hw3]; exact H2.out.lock 0⟩
      have HO3 : Aside0 (Only (use g (.slice A ts.length c) ts) w w3) := ⟨by rw [hw3]; exact HO2.out.trans (lockOnly wr g _ ts _)⟩
      have HR3 : Aside0 ((Kd.int .u64).R TU w3 w.heap.size (fun _ => True) u3 (tickets ts)) := ⟨by
        rw [hw3]
        refine R_keep (onlyG (Only.refl _ wr)) (Kd.R_lower HR.out HO1.out.size) (fun i h1 e => ?_)
        have h2 := H.out.gb.lt
        omega⟩
      clear hw3 H2 HO2
      exact ⟨_, results_tmp rfl _ _ _, u3, rfl, HR3.out, H3.out, HO3.out⟩
end Go.Proofs.Ytkgabeloofjohaa.Gap
