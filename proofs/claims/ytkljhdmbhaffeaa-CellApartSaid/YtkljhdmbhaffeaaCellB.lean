/- Layer 7's place of int64: New, top, Load, Push, All. -/
import Derived.Test.YtkljhdmbhaffeaaCellA
namespace Go.Proofs.Ytkljhdmbhaffeaa.Cell
set_option linter.unusedVariables false
set_option linter.unusedSimpArgs false
open Go.RowKit Go.Proofs.YtkljhdmbhaffeaaW.PrintWords Go.Proofs.Ytkljhdmbhaffeaa.Kit

theorem zeroC (W : World) : (zeroValue TC).run Try.prog W = .ok (.agg #[.pointer none]) W := by kernel_rfl
theorem zeroN (W : World) : (zeroValue TN).run Try.prog W = .ok (.agg #[.int .i64 0, .int .u64 0, .pointer none]) W := by kernel_rfl

theorem newCalls (w : World) : Calls Try.prog 6 #[] w fun e w' => e = .returned (.pointer (some ⟨w.heap.size, 0, none⟩)) ∧ At encI TC TN w' w.heap.size [] 0 ∧ Below w.heap.size w w' := by
  have hz := zeroC
  go_enter Try.func6, Try.ntmps6
  go_wp2
  go_ret
  exact ⟨rfl, ⟨none, Blk.newA w _ _, rfl, rfl⟩, (Below.refl _ _).alloc (Nat.le_refl _) _⟩

set_option maxHeartbeats 400000 in
theorem topCalls (p : Nat) (q : Option Addr) (vs : List Int) (n : Int) (w : World) (h : Blk w p [.pointer q] TC) (hc : Chain encI TN w q vs n) :
    Calls Try.prog 25 #[.pointer (some ⟨p, 0, none⟩)] w fun e w' => e = .returned (.tuple #[.pointer q, .int .u64 n]) ∧ Drawn0 w w' := by
  have hp := h.cell 0 _ rfl
  cases vs with
  | nil =>
    have HL := Aside0.mk (pload p 0 q [] n w hp hc)
    obtain ⟨rfl, rfl⟩ := hc
    go_enter Try.func25, Try.ntmps25
    go_wp2_with (go_at_call 21; refine HL.out.mono ?_; rintro e w' ⟨rfl, rfl⟩)
    go_ret2
    exact ⟨rfl, Drawn0.refl _⟩
  | cons v vs =>
    have HL := Aside0.mk (pload p 0 q (v :: vs) n w hp hc)
    obtain ⟨b, q', n', rfl, hb, _⟩ := hc
    have h1 := hb.cell 1 _ rfl
    clear hb
    go_enter Try.func25, Try.ntmps25
    go_wp2_with (go_at_call 21; refine HL.out.mono ?_; rintro e w' ⟨rfl, rfl⟩)
    go_quiet (fail)
    go_wp2
    go_ret2
    exact ⟨rfl, (Drawn0.refl _).step _⟩

def newest (vs : List Int) : Int := vs.headD 0
set_option maxHeartbeats 400000 in
theorem loadCalls (p : Nat) (vs : List Int) (n : Int) (w : World) (h : At encI TC TN w p vs n) :
    Calls Try.prog 15 #[.pointer (some ⟨p, 0, none⟩)] w fun e w' => e = .returned (.tuple #[.int .i64 (newest vs), .int .u64 n]) ∧ Drawn0 w w' := by
  obtain ⟨q, hp, hc⟩ := h.out
  have HT := Aside0.mk (topCalls p q vs n w hp hc)
  clear h hp
  cases vs with
  | nil =>
    obtain ⟨rfl, rfl⟩ := hc
    go_enter Try.func15, Try.ntmps15
    go_wp2_with (go_at_call 25; refine HT.out.mono ?_; rintro e w' ⟨rfl, ⟨nd, rfl⟩⟩)
    go_ret2
    exact ⟨rfl, (Drawn0.refl _).step _⟩
  | cons v vs =>
    obtain ⟨b, q', n', rfl, hb, _⟩ := hc
    have h0 := hb.cell 0 _ rfl
    clear hb
    go_enter Try.func15, Try.ntmps15
    go_wp2_with (go_at_call 25; refine HT.out.mono ?_; rintro e w' ⟨rfl, ⟨nd, rfl⟩⟩)
    go_ret2
    exact ⟨rfl, (Drawn0.refl _).step _⟩

set_option maxHeartbeats 400000 in
theorem pushMiss (p : Nat) (vs : List Int) (n k v : Int) (hne : k ≠ n) (w : World) (h : At encI TC TN w p vs n) :
    Calls Try.prog 20 #[.pointer (some ⟨p, 0, none⟩), .int .u64 k, .int .i64 v] w fun e w' => e = .returned (.bool false) ∧ Drawn0 w w' := by
  obtain ⟨q, hp, hc⟩ := h.out
  have HT := Aside0.mk (topCalls p q vs n w hp hc)
  have hb : (n == k) = false := by rw [beq_eq_false_iff_ne]; exact fun e => hne e.symm
  clear h hp hc hne
  go_enter Try.func20, Try.ntmps20
  go_wp2_with (go_at_call 25; refine HT.out.mono ?_; rintro e w' ⟨rfl, ⟨nd, rfl⟩⟩)
  go_ret
  exact ⟨rfl, (Drawn0.refl _).step _⟩

set_option maxHeartbeats 800000 in
theorem pushHit (p : Nat) (vs : List Int) (n v : Int) (w : World) (h : At encI TC TN w p vs n) :
    Calls Try.prog 20 #[.pointer (some ⟨p, 0, none⟩), .int .u64 n, .int .i64 v] w fun e w' => e = .returned (.bool true) ∧ At encI TC TN w' p (v :: vs) (IntKind.u64.wrap (n + 1)) ∧ Only (fun i => i = p) w w' := by
  obtain ⟨q, hp, hc⟩ := h.out
  have HT := Aside0.mk (topCalls p q vs n w hp hc)
  have HP := Aside0.mk hp
  have HC := Aside0.mk hc
  have hz := zeroN
  clear h hp hc
  go_enter Try.func20, Try.ntmps20
  go_wp2_with (go_at_call 25; refine HT.out.mono ?_; rintro e w' ⟨rfl, ⟨nd, rfl⟩⟩)
  obtain ⟨W, hW⟩ : ∃ W, W = (w.drewN nd).alloc (.cells #[.int .i64 v, .int .u64 (IntKind.u64.wrap (n + 1)), .pointer q] TN) := ⟨_, rfl⟩
  have hB : Below w.heap.size w W := by rw [hW]; exact (pw_below_drewN (Below.refl _ _) nd).alloc (Nat.le_refl _) _
  have hNode : Blk W w.heap.size [.int .i64 v, .int .u64 (IntKind.u64.wrap (n + 1)), .pointer q] TN := by rw [hW]; exact Blk.newA (w.drewN nd) _ _
  have hP := HP.out.belowSize hB
  have hCh := HC.out.below hB
  have hCn : Chain encI TN W (some ⟨w.heap.size, 0, none⟩) (v :: vs) (IntKind.u64.wrap (n + 1)) := ⟨_, _, _, rfl, hNode, hCh⟩
  rw [← hW]
  refine (pcas p 0 q _ W (hP.cell 0 _ rfl) (hP.free 0) (toUnsafe q vs n W hCh) (toUnsafe _ _ _ W hCn)).mono ?_
  rintro e w' ⟨rfl, hw'⟩
  have ho : Only (fun i => i = p) W w' := by
    rw [← hw']
    exact Only.setCell (S := fun i => i = p) (Only.refl _ W) (p := ⟨p, 0, none⟩) (Or.inl rfl) _
  have hP' : Blk w' p [.pointer (some ⟨w.heap.size, 0, none⟩)] TC := by rw [← hw']; exact hP.put 0 _
  have HA : Aside0 (At encI TC TN w' p (v :: vs) (IntKind.u64.wrap (n + 1))) := ⟨⟨_, hP', hCn.only ho (Off.one hP (by decide))⟩⟩
  have HO : Aside0 (Only (fun i => i = p) w w') := ⟨(Only.ofBelow hB).trans ho⟩
  clear hw' ho hP' hCn hCh hP hNode hB hz
  clear hW
  go_wp2
  go_ret
  exact ⟨rfl, HA.out, HO.out⟩

theorem info64 : (Try.prog.info? 2).map (fun i => (i.zero, i.size, i.bytes)) = some (some (.int .i64 0), 1, 8) := by kernel_rfl

set_option maxHeartbeats 800000 in
theorem allCalls (p : Nat) (vs : List Int) (n : Int) (w : World) (h : At encI TC TN w p vs n) (hl : vs.length ≤ 17592186044000) :
    Calls Try.prog 10 #[.pointer (some ⟨p, 0, none⟩)] w fun e w' => ∃ v, e = .returned v ∧ Kd.R (Kd.int .i64) 2 w' w.heap.size (fun _ => True) v vs ∧ Below w.heap.size w w' := by
  obtain ⟨q, hp, hc⟩ := h.out
  have HT := Aside0.mk (pload p 0 q vs n w (hp.cell 0 _ rfl) hc)
  have HC := Aside0.mk hc
  have HL := Aside0.mk hl
  clear h hp hc hl
  go_enter Try.func10, Try.ntmps10
  go_wp2_with fail
  refine HT.out.mono ?_
  rintro e w' ⟨rfl, rfl⟩
  go_wp2_with fail
  go_loopg [3, 4] vs.length (fun k v x wr => ∃ (done rest : List Int) (r : Option Addr) (m : Int), x = .pointer r ∧ Aside0 (vs = done ++ rest) ∧ Aside0 (rest.length = k) ∧ Aside0 (Chain encI TN w r rest m) ∧ Aside0 (Kd.R (Kd.int .i64) 2 wr w.heap.size (fun _ => True) v done) ∧ Aside0 (Below w.heap.size w wr))
  case atStart => exact ⟨[], vs, q, n, rfl, ⟨rfl⟩, ⟨rfl⟩, HC, ⟨Kd.R_nil _ _ _ _ _⟩, ⟨Below.refl _ _⟩⟩
  case round =>
    obtain ⟨done, rest, r, m, rfl, HV, HK, HR, HO, HB⟩ := hrel
    cases rest with
    | nil =>
      obtain ⟨rfl, _⟩ := HR.out
      have HE : Aside0 (vs = done) := ⟨by rw [HV.out, List.append_nil]⟩
      go_wp2
      go_ret
      exact ⟨_, rfl, by rw [HE.out]; exact HO.out, HB.out⟩
    | cons x rest =>
      obtain ⟨b, q', n', rfl, hb, hc'⟩ := HR.out
      have HR' := Aside0.mk hc'
      have h0 : wr.cell? ⟨b, 0, none⟩ = some (.int .i64 x) := (hb.belowSize HB.out).cell 0 _ rfl
      have HN := Aside0.mk hb
      have HV' : Aside0 (vs = (done ++ [x]) ++ rest) := ⟨by rw [HV.out]; simp⟩
      have HLn : Aside0 (done.length + 1 ≤ 17592186044000) := ⟨by have := HL.out; rw [HV.out] at this; simp at this; omega⟩
      clear hb hc' HR HV
      go_wp2_with ((with_reducible refine gate_builtin (b := .append) (xs := #[.tmp 15, .tmp 20]) rfl ?_); at_builtin; refine Kd.R_append (Kd.int .i64) (w0 := w) w.heap.size rfl (.tmp 15) (.tmp 20) 25 2 (.int .i64 0) 8 rfl Try.underlying25 info64 rfl (by decide) (by omega) u3 done x [.int .i64 x] (fun _ => True) (fun _ => False) rfl rfl ?aP (fun _ hk => hk.elim) ?aF ?aO ?aB ?aS ?aL ?_; (case aP => exact rfl); (case aF => exact fun _ _ => trivial); (case aO => exact HO.out); (case aB => exact HB.out); (case aS => exact below_size HB.out); (case aL => have := HLn.out; omega); intro v1 w1 ho hb hg hat; have HO1 := Aside0.mk ho; have HB1 := Aside0.mk hb; clear ho hb hg hat HO HB; have h2 := (HN.out.belowSize HB1.out).cell 2 _ rfl)
      simp only [List.length_cons] at HK
      cases gk with
      | zero => exact absurd HK.out (by omega)
      | succ k1 =>
        go_roundg k1
        case measure => omega
        case rel => exact ⟨done ++ [x], rest, q', n', rfl, HV', ⟨by have := HK.out; omega⟩, HR', HO1, HB1⟩
end Go.Proofs.Ytkljhdmbhaffeaa.Cell
