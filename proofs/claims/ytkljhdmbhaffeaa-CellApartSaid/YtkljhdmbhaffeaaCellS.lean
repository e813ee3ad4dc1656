/- Layer 7's place of string: New, top, Push, All. -/
import Derived.Test.YtkljhdmbhaffeaaCellB
namespace Go.Proofs.Ytkljhdmbhaffeaa.CellS
set_option linter.unusedVariables false
set_option linter.unusedSimpArgs false
open Go.RowKit Go.Proofs.YtkljhdmbhaffeaaW.PrintWords Go.Proofs.Ytkljhdmbhaffeaa.Kit

abbrev TCs : TypeId := 69
abbrev TNs : TypeId := 74
abbrev encS : ByteArray → Value := fun v => .string v

theorem ploadNil (b o : Nat) (w : World) (h : w.cell? ⟨b, o, none⟩ = some (.pointer none)) :
    Calls Try.prog 24 #[.pointer (some ⟨b, o, none⟩)] w fun e w' => e = .returned (.pointer none) ∧ w = w' := by
  have ha := run_call_loadp (P := Try.prog) Try.func28 (by kernel_rfl) (by kernel_rfl) (by kernel_rfl) (by kernel_rfl) h
  have hv := run_convert_nil_from (P := Try.prog) Try.underlying49 Try.underlying64
  go_enter Try.func24, Try.ntmps24
  go_wp2
  go_ret
  exact ⟨rfl, rfl⟩
theorem infoN : ∃ i, Try.prog.info? TNs = some i := Option.isSome_iff_exists.1 (by kernel_rfl)
theorem ploadSome (b o : Nat) (g : Nat) (x y z : Value) (w : World) (h : w.cell? ⟨b, o, none⟩ = some (.pointer (some ⟨g, 0, none⟩))) (hb : Blk w g [x, y, z] TNs) :
    Calls Try.prog 24 #[.pointer (some ⟨b, o, none⟩)] w fun e w' => e = .returned (.pointer (some ⟨g, 0, none⟩)) ∧ w = w' := by
  have ha := run_call_loadp (P := Try.prog) Try.func28 (by kernel_rfl) (by kernel_rfl) (by kernel_rfl) (by kernel_rfl) h
  obtain ⟨i, hi⟩ := infoN
  have hv := run_convert_from (P := Try.prog) Try.underlying49 Try.underlying64 hi hb (by kernel_rfl)
  clear hi
  go_enter Try.func24, Try.ntmps24
  go_wp2
  go_ret
  exact ⟨rfl, rfl⟩
/-- The pointer of a chain, loaded. -/
theorem pload (b o : Nat) (q : Option Addr) (vs : List ByteArray) (n : Int) (w : World) (h : w.cell? ⟨b, o, none⟩ = some (.pointer q)) (hc : Cell.Chain encS TNs w q vs n) :
    Calls Try.prog 24 #[.pointer (some ⟨b, o, none⟩)] w fun e w' => e = .returned (.pointer q) ∧ w = w' := by
  cases vs with
  | nil =>
    obtain ⟨rfl, _⟩ := hc
    exact ploadNil b o w h
  | cons v vs =>
    obtain ⟨g, q', n', rfl, hb, _⟩ := hc
    exact ploadSome b o g _ _ _ w h hb

/-- unsafe.Pointer of a chain's pointer is that pointer. -/
theorem toUnsafe (q : Option Addr) (vs : List ByteArray) (n : Int) (w : World) (hc : Cell.Chain encS TNs w q vs n) : (convert 64 49 (.pointer q)).run Try.prog w = .ok (.pointer q) w := by
  cases vs with
  | nil =>
    obtain ⟨rfl, _⟩ := hc
    exact run_convert_nil_to (P := Try.prog) Try.underlying64 Try.underlying49 w
  | cons v vs =>
    obtain ⟨g, q', n', rfl, hb, _⟩ := hc
    exact run_convert_to_unsafe (P := Try.prog) Try.underlying64 Try.underlying49 (by kernel_rfl) (hb.cell 0 _ rfl)

theorem pcas (b o : Nat) (q r : Option Addr) (w : World) (h : w.cell? ⟨b, o, none⟩ = some (.pointer q)) (hf : w.frozen? ⟨b, o, none⟩ = false)
    (h1 : (convert 64 49 (.pointer q)).run Try.prog w = .ok (.pointer q) w) (h2 : (convert 64 49 (.pointer r)).run Try.prog w = .ok (.pointer r) w) :
    Calls Try.prog 23 #[.pointer (some ⟨b, o, none⟩), .pointer q, .pointer r] w fun e w' => e = .returned (.bool true) ∧ w.setCell ⟨b, o, none⟩ (.pointer r) = w' := by
  have ha := run_call_casp_hit (P := Try.prog) Try.func29 (by kernel_rfl) (by kernel_rfl) (by kernel_rfl) (by kernel_rfl) (r := r) h hf
  go_enter Try.func23, Try.ntmps23
  go_wp2
  go_ret
  exact ⟨rfl, rfl⟩
theorem zeroC (W : World) : (zeroValue TCs).run Try.prog W = .ok (.agg #[.pointer none]) W := by kernel_rfl
theorem zeroN (W : World) : (zeroValue TNs).run Try.prog W = .ok (.agg #[.string ByteArray.empty, .int .u64 0, .pointer none]) W := by kernel_rfl

theorem newCalls (w : World) : Calls Try.prog 12 #[] w fun e w' => e = .returned (.pointer (some ⟨w.heap.size, 0, none⟩)) ∧ Cell.At encS TCs TNs w' w.heap.size [] 0 ∧ Below w.heap.size w w' := by
  have hz := zeroC
  go_enter Try.func12, Try.ntmps12
  go_wp2
  go_ret
  exact ⟨rfl, ⟨none, Blk.newA w _ _, rfl, rfl⟩, (Below.refl _ _).alloc (Nat.le_refl _) _⟩

set_option maxHeartbeats 400000 in
theorem topCalls (p : Nat) (q : Option Addr) (vs : List ByteArray) (n : Int) (w : World) (h : Blk w p [.pointer q] TCs) (hc : Cell.Chain encS TNs w q vs n) :
    Calls Try.prog 22 #[.pointer (some ⟨p, 0, none⟩)] w fun e w' => e = .returned (.tuple #[.pointer q, .int .u64 n]) ∧ Drawn0 w w' := by
  have hp := h.cell 0 _ rfl
  cases vs with
  | nil =>
    have HL := Aside0.mk (pload p 0 q [] n w hp hc)
    obtain ⟨rfl, rfl⟩ := hc
    go_enter Try.func22, Try.ntmps22
    go_wp2_with (go_at_call 24; refine HL.out.mono ?_; rintro e w' ⟨rfl, rfl⟩)
    go_ret2
    exact ⟨rfl, Drawn0.refl _⟩
  | cons v vs =>
    have HL := Aside0.mk (pload p 0 q (v :: vs) n w hp hc)
    obtain ⟨b, q', n', rfl, hb, _⟩ := hc
    have h1 := hb.cell 1 _ rfl
    clear hb
    go_enter Try.func22, Try.ntmps22
    go_wp2_with (go_at_call 24; refine HL.out.mono ?_; rintro e w' ⟨rfl, rfl⟩)
    go_quiet (fail)
    go_wp2
    go_ret2
    exact ⟨rfl, (Drawn0.refl _).step _⟩

set_option maxHeartbeats 800000 in
theorem pushHit (p : Nat) (vs : List ByteArray) (n : Int) (v : ByteArray) (w : World) (h : Cell.At encS TCs TNs w p vs n) :
    Calls Try.prog 13 #[.pointer (some ⟨p, 0, none⟩), .int .u64 n, .string v] w fun e w' => e = .returned (.bool true) ∧ Cell.At encS TCs TNs w' p (v :: vs) (IntKind.u64.wrap (n + 1)) ∧ Only (fun i => i = p) w w' := by
  obtain ⟨q, hp, hc⟩ := h.out
  have HT := Aside0.mk (topCalls p q vs n w hp hc)
  have HP := Aside0.mk hp
  have HC := Aside0.mk hc
  have hz := zeroN
  clear h hp hc
  go_enter Try.func13, Try.ntmps13
  go_wp2_with (go_at_call 22; refine HT.out.mono ?_; rintro e w' ⟨rfl, ⟨nd, rfl⟩⟩)
  obtain ⟨W, hW⟩ : ∃ W, W = (w.drewN nd).alloc (.cells #[.string v, .int .u64 (IntKind.u64.wrap (n + 1)), .pointer q] TNs) := ⟨_, rfl⟩
  have hB : Below w.heap.size w W := by rw [hW]; exact (pw_below_drewN (Below.refl _ _) nd).alloc (Nat.le_refl _) _
  have hNode : Blk W w.heap.size [.string v, .int .u64 (IntKind.u64.wrap (n + 1)), .pointer q] TNs := by rw [hW]; exact Blk.newA (w.drewN nd) _ _
  have hP := HP.out.belowSize hB
  have hCh := HC.out.below hB
  have hCn : Cell.Chain encS TNs W (some ⟨w.heap.size, 0, none⟩) (v :: vs) (IntKind.u64.wrap (n + 1)) := ⟨_, _, _, rfl, hNode, hCh⟩
  rw [← hW]
  refine (pcas p 0 q _ W (hP.cell 0 _ rfl) (hP.free 0) (toUnsafe q vs n W hCh) (toUnsafe _ _ _ W hCn)).mono ?_
  rintro e w' ⟨rfl, hw'⟩
  have ho : Only (fun i => i = p) W w' := by
    rw [← hw']
    exact Only.setCell (S := fun i => i = p) (Only.refl _ W) (p := ⟨p, 0, none⟩) (Or.inl rfl) _
  have hP' : Blk w' p [.pointer (some ⟨w.heap.size, 0, none⟩)] TCs := by rw [← hw']; exact hP.put 0 _
  have HA : Aside0 (Cell.At encS TCs TNs w' p (v :: vs) (IntKind.u64.wrap (n + 1))) := ⟨⟨_, hP', hCn.only ho (Cell.Off.one hP (by decide))⟩⟩
  have HO : Aside0 (Only (fun i => i = p) w w') := ⟨(Only.ofBelow hB).trans ho⟩
  clear hw' ho hP' hCn hCh hP hNode hB hz
  clear hW
  go_wp2
  go_ret
  exact ⟨rfl, HA.out, HO.out⟩

theorem info64 : (Try.prog.info? 9).map (fun i => (i.zero, i.size, i.bytes)) = some (some (.string ByteArray.empty), 1, 16) := by kernel_rfl

set_option maxHeartbeats 800000 in
theorem allCalls (p : Nat) (vs : List ByteArray) (n : Int) (w : World) (h : Cell.At encS TCs TNs w p vs n) (hl : vs.length ≤ 8796093022000) :
    Calls Try.prog 14 #[.pointer (some ⟨p, 0, none⟩)] w fun e w' => ∃ v, e = .returned v ∧ Kd.R (Kd.string) 9 w' w.heap.size (fun _ => True) v vs ∧ Below w.heap.size w w' := by
  obtain ⟨q, hp, hc⟩ := h.out
  have HT := Aside0.mk (pload p 0 q vs n w (hp.cell 0 _ rfl) hc)
  have HC := Aside0.mk hc
  have HL := Aside0.mk hl
  clear h hp hc hl
  go_enter Try.func14, Try.ntmps14
  go_wp2_with fail
  refine HT.out.mono ?_
  rintro e w' ⟨rfl, rfl⟩
  go_wp2_with fail
  go_loopg [3, 4] vs.length (fun k v x wr => ∃ (done rest : List ByteArray) (r : Option Addr) (m : Int), x = .pointer r ∧ Aside0 (vs = done ++ rest) ∧ Aside0 (rest.length = k) ∧ Aside0 (Cell.Chain encS TNs w r rest m) ∧ Aside0 (Kd.R (Kd.string) 9 wr w.heap.size (fun _ => True) v done) ∧ Aside0 (Below w.heap.size w wr))
  case atStart => exact ⟨[], vs, q, n, rfl, ⟨rfl⟩, ⟨rfl⟩, HC, ⟨Kd.R_nil _ _ _ _ _⟩, ⟨Below.refl _ _⟩⟩
  case round =>
    obtain ⟨done, rest, r, m, rfl, HV, HK, HR, HO, HB⟩ := hrel
    cases rest with
    | nil =>
      obtain ⟨rfl, _⟩ := HR.out
      have HE : Aside0 (vs = done) := ⟨by rw [HV.out, List.append_nil]⟩
      go_wp2
      go_ret
      exact ⟨_, rfl, by rw [HE.out]; exact HO.out, HB.out⟩
    | cons x rest =>
      obtain ⟨b, q', n', rfl, hb, hc'⟩ := HR.out
      have HR' := Aside0.mk hc'
      have h0 : wr.cell? ⟨b, 0, none⟩ = some (.string x) := (hb.belowSize HB.out).cell 0 _ rfl
      have HN := Aside0.mk hb
      have HV' : Aside0 (vs = (done ++ [x]) ++ rest) := ⟨by rw [HV.out]; simp⟩
      have HLn : Aside0 (done.length + 1 ≤ 8796093022000) := ⟨by have := HL.out; rw [HV.out] at this; simp at this; omega⟩
      clear hb hc' HR HV
      go_wp2_with ((with_reducible refine gate_builtin (b := .append) (xs := #[.tmp 15, .tmp 20]) rfl ?_); at_builtin; refine Kd.R_append (Kd.string) (w0 := w) w.heap.size rfl (.tmp 15) (.tmp 20) 39 9 (.string ByteArray.empty) 16 rfl Try.underlying39 info64 rfl (by decide) (by omega) u3 done x [.string x] (fun _ => True) (fun _ => False) rfl rfl ?aP (fun _ hk => hk.elim) ?aF ?aO ?aB ?aS ?aL ?_; (case aP => exact rfl); (case aF => exact fun _ _ => trivial); (case aO => exact HO.out); (case aB => exact HB.out); (case aS => exact below_size HB.out); (case aL => have := HLn.out; omega); intro v1 w1 ho hb hg hat; have HO1 := Aside0.mk ho; have HB1 := Aside0.mk hb; clear ho hb hg hat HO HB; have h2 := (HN.out.belowSize HB1.out).cell 2 _ rfl)
      simp only [List.length_cons] at HK
      cases gk with
      | zero => exact absurd HK.out (by omega)
      | succ k1 =>
        go_roundg k1
        case measure => omega
        case rel => exact ⟨done ++ [x], rest, q', n', rfl, HV', ⟨by have := HK.out; omega⟩, HR', HO1, HB1⟩
end Go.Proofs.Ytkljhdmbhaffeaa.CellS
