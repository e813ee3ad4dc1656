/- Layer 7's document: Push and Keep of the reference: nothing that was there is written. -/
import Derived.Test.YtkljhdmbhaffeaaCellA
import Derived.Deep.CutBlock
import Derived.Deep.DeepCutAuto
import Derived.Test.YtkljhdmbhaffeaaPCellPlaysx1
namespace Go.Proofs.Ytkljhdmbhaffeaa.Cell
set_option linter.unusedVariables false
set_option linter.unusedSimpArgs false
open Go.RowKit Go.Proofs.YtkljhdmbhaffeaaW.PrintWords Go.Proofs.Ytkljhdmbhaffeaa.Kit

abbrev TM : TypeId := 28
theorem zeroM (W : World) : (zeroValue TM).run Try.prog W = .ok (.agg #[.slice none 0 0, .int .u64 0]) W := by kernel_rfl
theorem infoI : (Try.prog.info? 2).map (fun i => (i.zero, i.size, i.bytes)) = some (some (.int .i64 0), 1, 8) := by kernel_rfl

theorem refPushMiss (s : Value) (n k v : Int) (hne : k ≠ n) (A : Option Addr) (l c : Nat) (hs : s = .slice A l c) (w : World) :
    Calls Try.prog 19 #[.agg #[s, .int .u64 n], .int .u64 k, .int .i64 v] w fun e w' => e = .returned (.tuple #[.agg #[s, .int .u64 n], .bool false]) ∧ Below w.heap.size w w' := by
  subst hs
  have hb : (k != n) = true := by rw [bne_iff_ne]; exact hne
  have hz := zeroM
  clear hne
  go_enter Try.func19, Try.ntmps19
  go_wp2
  exact bodyPost_ret (v := .tuple #[.agg #[.slice A l c, .int .u64 n], .bool false]) (by simp [results, Try.results19, go_sem]) rfl ⟨rfl, ((Below.refl _ _).alloc (Nat.le_refl _) _).alloc (by simp) _⟩

theorem R_lit (w : World) (base : Nat) (hb : base ≤ w.heap.size) (v : Int) : (Kd.int .i64).R 2 (w.alloc (.cells #[.int .i64 v] 2)) base (fun _ => True) (.slice (some ⟨w.heap.size, 0, none⟩) 1 1) [v] :=
  Kd.R_of_own (own_lit w base 2 .i64 [v] hb (by simp)) (fun _ _ => trivial)
theorem Blk.grown {w w' : World} {row : Option Nat} {b : Nat} {cs : List Value} {t : TypeId} (h : Blk w b cs t) (hg : w.grownBy w' row) (hne : some b ≠ row) : Blk w' b cs t := h.move (hg.block b h.lt hne)

set_option maxHeartbeats 1600000 in
theorem refPushHit (A : Option Addr) (c : Nat) (l : List Int) (n v : Int) (w : World) (hC : (Kd.int .i64).C w A l.length l) (hc : l.length ≤ c) (hl : l.length ≤ 17592186044000) :
    Calls Try.prog 19 #[.agg #[.slice A l.length c, .int .u64 n], .int .u64 n, .int .i64 v] w fun e w' => ∃ s, e = .returned (.tuple #[.agg #[s, .int .u64 (IntKind.u64.wrap (n + 1))], .bool true]) ∧ (Kd.int .i64).R 2 w' w.heap.size (fun _ => True) s (v :: l) ∧ Below w.heap.size w w' := by
  have HC := Aside0.mk hC
  obtain ⟨m, hm⟩ : ∃ m, m = l.length := ⟨_, rfl⟩
  have Hm := Aside0.mk hm
  rw [← hm] at hl hc ⊢
  have hz := zeroM
  clear hm hC
  go_enter Try.func19, Try.ntmps19
  go_wp2_with fail
  obtain ⟨W, hW⟩ : ∃ W, W = (w.alloc (.cells #[.slice A m c, .int .u64 n] TM)).alloc (.cells #[.slice none 0 0, .int .u64 0] TM) := ⟨_, rfl⟩
  have HB0 : Aside0 (Below w.heap.size w (W.alloc (.cells #[.int .i64 v] 2))) := ⟨by rw [hW]; exact (((Below.refl _ _).alloc (Nat.le_refl _) _).alloc (by simp) _).alloc (by simp; omega) _⟩
  have HX : Aside0 (Blk (W.alloc (.cells #[.int .i64 v] 2)) w.heap.size [.slice A m c, .int .u64 n] TM) := ⟨by rw [hW]; exact ((Blk.newA w _ _).alloc _).alloc _⟩
  have HY : Aside0 (Blk (W.alloc (.cells #[.int .i64 v] 2)) (w.heap.size + 1) [.slice none 0 0, .int .u64 0] TM) := ⟨by rw [hW]; have := (Blk.newA (w.alloc (.cells #[.slice A m c, .int .u64 n] TM)) #[.slice none 0 0, .int .u64 0] TM).alloc (.cells #[.int .i64 v] 2); simpa using this⟩
  have hWs : W.heap.size = w.heap.size + 1 + 1 := by rw [hW]; simp
  have HR : Aside0 ((Kd.int .i64).R 2 (W.alloc (.cells #[.int .i64 v] 2)) w.heap.size (fun _ => True) (.slice (some ⟨w.heap.size + 1 + 1, 0, none⟩) 1 1) (v :: l.take 0)) := ⟨by have := R_lit W w.heap.size (by omega) v; rw [hWs] at this; exact this⟩
  rw [← hW]
  generalize W.alloc (.cells #[.int .i64 v] 2) = w3 at *
  clear hW hWs
  go_loopw [8, 9] (fun s i wr => ∃ j : Nat, j ≤ m ∧ i = .int .i64 j ∧ Aside0 ((Kd.int .i64).R 2 wr w.heap.size (fun _ => True) s (v :: l.take j)) ∧ Aside0 (Blk wr w.heap.size [.slice A m c, .int .u64 n] TM) ∧ Aside0 (Blk wr (w.heap.size + 1) [.slice none 0 0, .int .u64 0] TM) ∧ Aside0 (Below w.heap.size w wr)) (fun _ i _ => m - (intOf i).toNat)
  case atStart => exact ⟨0, Nat.zero_le _, rfl, HR, HX, HY, HB0⟩
  case round =>
    clear HR HX HY HB0
    obtain ⟨j, hj, rfl, HR, HX, HY, HB⟩ := hrel
    have x0 := HX.out.cell 0 _ rfl
    have x1 := HX.out.cell 1 _ rfl
    by_cases hlt : j < m
    · obtain ⟨ad, e, hx⟩ := Kd.at_int HC.out (j : Int) (by omega) (by rw [← Hm.out]; omega)
      subst e
      simp only [Int.toNat_natCast] at hx
      have hx := pw_cell_below HB.out hx
      have HT : Aside0 (v :: l.take (j + 1) = (v :: l.take j) ++ [rd l j]) := ⟨by rw [List.take_succ_eq_append_getElem (by rw [← Hm.out]; exact hlt)]; simp [rd, show j < l.length by rw [← Hm.out]; exact hlt]⟩
      have HLn : Aside0 ((v :: l.take j).length = j + 1) := ⟨by rw [List.length_cons, List.length_take, ← Hm.out]; omega⟩
      generalize rd l j = y at *
      go_wp2_with ((with_reducible refine gate_builtin (b := .append) (xs := #[.tmp 24, .tmp 30]) rfl ?_); at_builtin; refine Kd.R_append (Kd.int .i64) (w0 := w) w.heap.size rfl (.tmp 24) (.tmp 30) 25 2 (.int .i64 0) 8 rfl Try.underlying25 infoI rfl (by decide) (by omega) u8 (v :: l.take j) y [.int .i64 y] (fun _ => True) (fun _ => False) rfl rfl ?aP (fun _ hk => hk.elim) ?aF ?aO ?aB ?aS ?aL ?_; (case aP => exact rfl); (case aF => exact fun _ _ => trivial); (case aO => exact HR.out); (case aB => exact HB.out); (case aS => exact below_size HB.out); (case aL => have := HLn.out; omega); intro v1 w1 ho hb hg hat; have HR1 := Aside0.mk ho; have HB1 := Aside0.mk hb; have HX1 := Aside0.mk (Blk.grown HX.out hg (Kd.R_ne HR.out HX.out.out (by decide))); have HY1 := Aside0.mk (Blk.grown HY.out hg (Kd.R_ne HR.out HY.out.out (by decide))); clear ho hb hg hat HR HB HX HY x0 x1)
      go_roundw
      case rel => exact ⟨j + 1, by omega, by go_num, ⟨by rw [HT.out]; exact HR1.out⟩, HX1, HY1, HB1⟩
      case measure => simp [intOf]; omega
    · have HE : Aside0 (v :: l.take j = v :: l) := ⟨by rw [List.take_of_length_le]; rw [← Hm.out]; omega⟩
      have y0 := HY.out.cell 0 _ rfl
      have y1 := HY.out.cell 1 _ rfl
      have yf0 := HY.out.free 0
      have yf1 := HY.out.free 1
      rw [HE.out] at HR
      obtain ⟨A8, c8, rfl⟩ := Kd.R_slice HR.out
      obtain ⟨L, HR⟩ : ∃ L, Aside0 ((Kd.int .i64).R 2 wr w.heap.size (fun _ => True) (.slice A8 L c8) (v :: l)) ∧ Aside0 ((v :: l).length = L) := ⟨_, HR, ⟨rfl⟩⟩
      obtain ⟨HR, HLe⟩ := HR
      rw [HLe.out]
      have HRf := Aside0.mk (Kd.R_set (Kd.R_set HR.out HY.out.out (by decide) 0 (.slice A8 L c8)) (HY.out.put 0 (.slice A8 L c8)).out (by decide) 1 (.int .u64 (IntKind.u64.wrap (n + 1))))
      have HYf := Aside0.mk ((HY.out.put 0 (.slice A8 L c8)).put 1 (.int .u64 (IntKind.u64.wrap (n + 1))))
      have HBf := Aside0.mk ((HB.out.setCell (p := ⟨w.heap.size + 1, 0, none⟩) (Nat.le_succ _) (.slice A8 L c8)).setCell (p := ⟨w.heap.size + 1, 1, none⟩) (Nat.le_succ _) (.int .u64 (IntKind.u64.wrap (n + 1))))
      go_wp2
      have z0 := HYf.out.cell 0 _ rfl
      have z1 := HYf.out.cell 1 _ rfl
      generalize (wr.setCell ⟨w.heap.size + 1, 0, none⟩ (.slice A8 L c8)).setCell ⟨w.heap.size + 1, 1, none⟩ (.int .u64 (IntKind.u64.wrap (n + 1))) = wf at *
      clear y0 y1 yf0 yf1 HY HB HR x0 x1 HX
      exact bodyPost_ret (v := .tuple #[.agg #[.slice A8 L c8, .int .u64 (IntKind.u64.wrap (n + 1))], .bool true]) (by simp [results, Try.results19, go_sem, z0, z1]) rfl ⟨_, rfl, HRf.out, HBf.out⟩
theorem wrap_next (i : Nat) (h : i < 140737488355329) : wrap64 ((i : Int) + 1) = ((i + 1 : Nat) : Int) := by unfold wrap64; omega
theorem take_rd (xs : List Int) (j : Nat) (h : j < xs.length) : xs.take (j + 1) = xs.take j ++ [rd xs j] := by
  rw [List.take_succ_eq_append_getElem h]
  simp [rd, h]
theorem copied_l (x0 : List Int) (h2 : x0.length ≤ 17592186044000) (d : Nat) : ∀ (k i : Nat), i + d = x0.length → d < k → PCellPlays.vellumref07_copied.l0 k x0 (x0.take i) i = some x0 := by
  induction d with
  | zero =>
    intro k i hi hk
    obtain ⟨k, rfl⟩ : ∃ m, k = m + 1 := ⟨k - 1, by omega⟩
    simp only [PCellPlays.vellumref07_copied.l0]
    rw [if_neg (by omega), List.take_of_length_le (by omega)]
  | succ d ih =>
    intro k i hi hk
    obtain ⟨k, rfl⟩ : ∃ m, k = m + 1 := ⟨k - 1, by omega⟩
    simp only [PCellPlays.vellumref07_copied.l0]
    rw [if_pos (by omega), if_pos (by omega), if_pos (by rw [List.length_take]; omega), ← take_rd x0 i (by omega), wrap_next i (by omega)]
    exact ih k (i + 1) (by omega) (by omega)
theorem copied_is (x0 : List Int) (h2 : x0.length ≤ 17592186044000) : PCellPlays.vellumref07_copied.f (x0.length + 1) x0 = some x0 := by
  have := copied_l x0 h2 x0.length (x0.length + 1) 0 (by omega) (by omega)
  simpa [PCellPlays.vellumref07_copied.f] using this

theorem refKeepMiss (s : Value) (n k v : Int) (hne : k ≠ n) (A : Option Addr) (l c : Nat) (hs : s = .slice A l c) (w : World) :
    Calls Try.prog 17 #[.agg #[s, .int .u64 n], .int .u64 k, .int .i64 v] w fun e w' => e = .returned (.tuple #[.agg #[s, .int .u64 n], .bool false]) ∧ Below w.heap.size w w' := by
  subst hs
  have hb : (k != n) = true := by rw [bne_iff_ne]; exact hne
  have hz := zeroM
  clear hne
  go_enter Try.func17, Try.ntmps17
  go_wp2
  exact bodyPost_ret (v := .tuple #[.agg #[.slice A l c, .int .u64 n], .bool false]) (by simp [results, Try.results17, go_sem]) rfl ⟨rfl, ((Below.refl _ _).alloc (Nat.le_refl _) _).alloc (by simp) _⟩

set_option maxHeartbeats 1600000 in
theorem refKeepHit (A : Option Addr) (c : Nat) (l : List Int) (n m : Int) (M : Nat) (hM : (m < 1 ∧ M = 1) ∨ (1 ≤ m ∧ m = M)) (w : World) (hC : (Kd.int .i64).C w A l.length l) (hc : l.length ≤ c) (hl : l.length ≤ 17592186044000) :
    Calls Try.prog 17 #[.agg #[.slice A l.length c, .int .u64 n], .int .u64 n, .int .i64 m] w fun e w' => ∃ s, e = .returned (.tuple #[.agg #[s, .int .u64 n], .bool true]) ∧ (Kd.int .i64).R 2 w' w.heap.size (fun _ => True) s (l.take M) ∧ Below w.heap.size w w' := by
  have HC := Aside0.mk hC
  have HM := Aside0.mk hM
  have hz := zeroM
  have HCp := Aside0.mk (copied_is l hl)
  obtain ⟨W, hW⟩ : ∃ W, W = (w.alloc (.cells #[.slice A l.length c, .int .u64 n] TM)).alloc (.cells #[.slice none 0 0, .int .u64 0] TM) := ⟨_, rfl⟩
  have HB0 : Aside0 (Below w.heap.size w W) := ⟨by rw [hW]; exact ((Below.refl _ _).alloc (Nat.le_refl _) _).alloc (by simp) _⟩
  have HX : Aside0 (Blk W w.heap.size [.slice A l.length c, .int .u64 n] TM) := ⟨by rw [hW]; exact (Blk.newA w _ _).alloc _⟩
  have HY : Aside0 (Blk W (w.heap.size + 1) [.slice none 0 0, .int .u64 0] TM) := ⟨by rw [hW]; have := Blk.newA (w.alloc (.cells #[.slice A l.length c, .int .u64 n] TM)) #[.slice none 0 0, .int .u64 0] TM; simpa using this⟩
  have HCW : Aside0 ((Kd.int .i64).C W A l.length l) := ⟨Kd.C_below HC.out HB0.out⟩
  have HW := Aside0.mk hW
  have hlb : l.length ≤ 17592186044000 := hl
  have HcL := Aside0.mk hc
  clear hC hM hW hl hc
  go_enter Try.func17, Try.ntmps17
  go_upto_if 15 with (fail)
  go_cut [2] (fun v2 wc => v2 = .int .i64 M ∧ W = wc)
  case first =>
    rcases HM.out with ⟨h, h'⟩ | ⟨h, h'⟩
    · subst h'
      go_wp2
      go_meet
      exact ⟨rfl, HW.out⟩
    · have HM' := Aside0.mk h'
      clear h'
      go_wp2
      go_meet
      exact ⟨by rw [HM'.out], HW.out⟩
  case rest =>
    clear HM HW
    obtain ⟨rfl, rfl⟩ := hcut
    have x0 := HX.out.cell 0 _ rfl
    go_wp2_with fail
    refine (PCellPlays.vellumref07_copied.calls _ A c l l W HCW.out HcL.out HCp.out).mono ?_
    rintro e w1 ⟨v1, rfl, hR, hB⟩
    have HB1 : Aside0 (Below w.heap.size w w1) := ⟨HB0.out.trans (hB.mono HB0.out.size)⟩
    have HX1 := Aside0.mk (HX.out.belowSize hB)
    have HY1 := Aside0.mk (HY.out.belowSize hB)
    have HR1 := Aside0.mk (Kd.R_lower hR HB0.out.size)
    clear hR hB HB0 HX HY HCW x0
    obtain ⟨A8, c8, rfl⟩ := Kd.R_slice HR1.out
    have hcc : l.length ≤ c8 := (Kd.R_reads' HR1.out).2.1
    have x1 := HX1.out.cell 1 _ rfl
    have y0 := HY1.out.cell 0 _ rfl
    have y1 := HY1.out.cell 1 _ rfl
    have yf0 := HY1.out.free 0
    have yf1 := HY1.out.free 1
    by_cases hlt : M < l.length
    · have HRt := Aside0.mk (Kd.R_take HR1.out (m := M) (by omega))
      have HRf := Aside0.mk (Kd.R_set (Kd.R_set HRt.out HY1.out.out (by decide) 0 (.slice A8 M c8)) (HY1.out.put 0 (.slice A8 M c8)).out (by decide) 1 (.int .u64 n))
      have HYf := Aside0.mk ((HY1.out.put 0 (.slice A8 M c8)).put 1 (.int .u64 n))
      have HBf := Aside0.mk ((HB1.out.setCell (p := ⟨w.heap.size + 1, 0, none⟩) (Nat.le_succ _) (.slice A8 M c8)).setCell (p := ⟨w.heap.size + 1, 1, none⟩) (Nat.le_succ _) (.int .u64 n))
      go_wp2
      have z0 := HYf.out.cell 0 _ rfl
      have z1 := HYf.out.cell 1 _ rfl
      generalize (w1.setCell ⟨w.heap.size + 1, 0, none⟩ (.slice A8 M c8)).setCell ⟨w.heap.size + 1, 1, none⟩ (.int .u64 n) = wf at *
      clear y0 y1 yf0 yf1 x1
      exact bodyPost_ret (v := .tuple #[.agg #[.slice A8 M c8, .int .u64 n], .bool true]) (by simp [results, Try.results17, go_sem, z0, z1]) rfl ⟨_, rfl, HRf.out, HBf.out⟩
    · have HE : Aside0 (l.take M = l) := ⟨List.take_of_length_le (by omega)⟩
      have HRf := Aside0.mk (Kd.R_set (Kd.R_set HR1.out HY1.out.out (by decide) 0 (.slice A8 l.length c8)) (HY1.out.put 0 (.slice A8 l.length c8)).out (by decide) 1 (.int .u64 n))
      have HYf := Aside0.mk ((HY1.out.put 0 (.slice A8 l.length c8)).put 1 (.int .u64 n))
      have HBf := Aside0.mk ((HB1.out.setCell (p := ⟨w.heap.size + 1, 0, none⟩) (Nat.le_succ _) (.slice A8 l.length c8)).setCell (p := ⟨w.heap.size + 1, 1, none⟩) (Nat.le_succ _) (.int .u64 n))
      go_wp2
      have z0 := HYf.out.cell 0 _ rfl
      have z1 := HYf.out.cell 1 _ rfl
      generalize (w1.setCell ⟨w.heap.size + 1, 0, none⟩ (.slice A8 l.length c8)).setCell ⟨w.heap.size + 1, 1, none⟩ (.int .u64 n) = wf at *
      clear y0 y1 yf0 yf1 x1
      exact bodyPost_ret (v := .tuple #[.agg #[.slice A8 l.length c8, .int .u64 n], .bool true]) (by simp [results, Try.results17, go_sem, z0, z1]) rfl ⟨_, rfl, by rw [HE.out]; exact HRf.out, HBf.out⟩

theorem same_l (x0 : List Int) (h2 : x0.length ≤ 17592186044000) (d : Nat) : ∀ (k i : Nat), i + d = x0.length → d < k → PCellPlays.vellumref07_Same.l0 k x0 x0 i = some true := by
  induction d with
  | zero =>
    intro k i hi hk
    obtain ⟨k, rfl⟩ : ∃ m, k = m + 1 := ⟨k - 1, by omega⟩
    simp only [PCellPlays.vellumref07_Same.l0]
    rw [if_neg (by omega)]
  | succ d ih =>
    intro k i hi hk
    obtain ⟨k, rfl⟩ : ∃ m, k = m + 1 := ⟨k - 1, by omega⟩
    simp only [PCellPlays.vellumref07_Same.l0]
    simp only [wrap_next i (by omega), ih k (i + 1) (by omega) (by omega)]
    simp
theorem same_is (x0 : List Int) (h2 : x0.length ≤ 17592186044000) : PCellPlays.vellumref07_Same.f (x0.length + 1) x0 x0 = some true := by
  have := same_l x0 h2 x0.length (x0.length + 1) 0 (by omega) (by omega)
  simp only [PCellPlays.vellumref07_Same.f]
  simpa using this
end Go.Proofs.Ytkljhdmbhaffeaa.Cell
