/- Layer 13: slices.DeleteFunc of one pointer of a row. -/
import Derived.Test.YtkgabeloofjohaaGapM
import Derived.Lib.SliceRun
import Derived.LaidEqlPtr
namespace Go.Proofs.Ytkgabeloofjohaa.Gap
set_option linter.unusedVariables false
set_option linter.unusedSimpArgs false
open Go.RowKit Go.Proofs.YtkgabeloofjohaaW.PrintWords Go.Proofs.Ytkgabeloofjohaa.Kit

theorem enterGive1 : ∀ args w, (callFunc 26 args).run Try.prog w = .ok (.enter 26 args) w := fun args w => by
  simp [go_sem, Try.func26]
def Tb (w : World) (i : Nat) : Prop := ∃ cs, w.heap[i]? = some (.cells cs TT (0, 0))
theorem eqlP {x pid : Nat} {w : World} (hx : Tb w x) (hp : Tb w pid) : (binOp .eql TP (ptrV x) (ptrV pid)).run Try.prog w = .ok (.bool (decide (x = pid))) w := by
  obtain ⟨ip, hip, hsz⟩ : ∃ ip, Try.prog.info? TT = some ip ∧ ip.size = 4 := by
    have h : (Try.prog.info? TT).map (·.size) = some 4 := by kernel_rfl
    obtain ⟨ip, hi, hb⟩ := Option.map_eq_some_iff.1 h
    exact ⟨ip, hi, hb⟩
  by_cases h : x = pid
  · subst h
    rw [decide_eq_true rfl]
    exact run_eql_ptr_same w _ Try.underlying73 hip
  · rw [decide_eq_false h]
    obtain ⟨c1, h1⟩ := hx
    obtain ⟨c2, h2⟩ := hp
    exact run_eql_ptr_other w Try.underlying73 hip (by omega) (by intro e; injection e with e; exact h e) h1 h2
set_option maxRecDepth 100000 in
theorem give1 (x p pid : Nat) (w : World) (h1 : w.cell? ⟨p, 0, none⟩ = some (ptrV pid)) (hx : Tb w x) (hp : Tb w pid) :
    Calls Try.prog 26 #[ptrV x, ptrV p] w fun e w' => e = .returned (.bool (decide (x = pid))) ∧ Below w.heap.size w w' := by
  have he := eqlP hx hp
  clear hx hp
  go_enter Try.func26, Try.ntmps26
  go_wp2_with fail
  go_ret
  exact ⟨rfl, Below.refl _ _⟩

set_option maxHeartbeats 2000000 in
theorem indexG (A : Option Addr) (n c p pid m : Nat) (ids : List Nat) (w : World) (hC : kP.C w A n ids) (hp : w.cell? ⟨p, 0, none⟩ = some (ptrV pid)) (hm : ids[m]? = some pid) (hno : ∀ j, j < m → ids[j]? ≠ some pid) (hB : ∀ q, q ∈ ids → Tb w q) (hs : n ≤ 256) :
    Calls Try.prog 37 #[.slice A n c, .func (.func 26) #[] #[ptrV p]] w fun e w' => e = .returned (.int .i64 m) ∧ Below w.heap.size w w' := by
  have hent := enterGive1
  have hmn : m < n := by
    have := (List.getElem?_eq_some_iff.1 hm).1
    rw [← hC.1]
    exact this
  have HC := Aside0.mk hC
  have HP0 := Aside0.mk hp
  have HM := Aside0.mk hm
  have HN := Aside0.mk hno
  have HTb := Aside0.mk hB
  clear hC hp hm hno hB
  go_enter Try.func37, Try.ntmps37
  go_wp2_with fail
  go_loopw [8] (fun v wr => ∃ i : Nat, i ≤ m ∧ v = .int .i64 i ∧ Aside0 (Below w.heap.size w wr)) (fun v _ => n - (intOf v).toNat)
  case atStart => exact ⟨0, Nat.zero_le _, rfl, ⟨Below.refl _ _⟩⟩
  case round =>
    obtain ⟨i, hi, rfl, HB⟩ := hrel
    have hlt : i < n := by omega
    obtain ⟨b, o, x, rfl, hx, c0⟩ := kP_at (Kd.C_below HC.out HB.out) i hlt
    have HK := Aside0.mk hx
    have i1 : (i : Int) < (n : Int) := by omega
    have hTb : ∀ q, q ∈ ids → Tb wr q := fun q hq => by
      obtain ⟨cs, hcs⟩ := HTb.out q hq
      exact ⟨cs, blk_below hcs HB.out⟩
    have HF := Aside0.mk (give1 x p pid wr (pw_cell_below HB.out HP0.out) (hTb x (List.mem_of_getElem? hx)) (hTb pid (List.mem_of_getElem? HM.out)))
    clear hTb
    clear hx
    by_cases hxp : x = pid
    · have HIM : Aside0 (i = m) := ⟨by
        rcases Nat.lt_or_ge i m with h | h
        · exact absurd (by rw [HK.out, hxp]) (HN.out i h)
        · omega⟩
      rw [decide_eq_true hxp] at HF
      clear hxp
      go_wp2_with fail
      refine HF.out.mono ?_
      rintro e w1 ⟨rfl, hb1⟩
      have HB1 := Aside0.mk (HB.out.trans (hb1.mono HB.out.size))
      clear hb1 HF HB c0
      go_wp2
      go_ret
      exact ⟨by rw [HIM.out]; rfl, HB1.out⟩
    · have him : i ≠ m := by
        rintro rfl
        rw [HM.out] at HK
        exact hxp (Option.some.inj HK.out).symm
      rw [decide_eq_false hxp] at HF
      clear hxp
      go_wp2_with fail
      refine HF.out.mono ?_
      rintro e w1 ⟨rfl, hb1⟩
      have HB1 := Aside0.mk (HB.out.trans (hb1.mono HB.out.size))
      clear hb1 HF HB c0
      go_wp2
      go_roundw
      case rel => exact ⟨i + 1, by omega, by go_num, HB1⟩
      case measure => simp [intOf]; omega

/-- The row while the later ones are drawn one place nearer. -/
def mvd (ids : List Nat) (m : Nat) : Nat → List Nat
  | 0 => ids
  | s + 1 => (mvd ids m s).set (m + s) (ids[m + s + 1]?.getD 0)
theorem mvd_len (ids : List Nat) (m s : Nat) : (mvd ids m s).length = ids.length := by
  induction s with
  | zero => rfl
  | succ s ih => simp [mvd, ih]
theorem mvd_at (ids : List Nat) (m : Nat) : ∀ s, m + s < ids.length → ∀ q, (mvd ids m s)[q]? = if m ≤ q ∧ q < m + s then ids[q + 1]? else ids[q]? := by
  intro s
  induction s with
  | zero =>
    intro _ q
    rw [if_neg (by omega)]
    rfl
  | succ s ih =>
    intro hs q
    simp only [mvd]
    rw [List.getElem?_set]
    by_cases h : m + s = q
    · subst h
      rw [if_pos rfl, if_pos (by rw [mvd_len]; omega), if_pos (by omega), List.getElem?_eq_getElem (show m + s + 1 < ids.length by omega)]
      rfl
    · rw [if_neg h, ih (by omega)]
      by_cases h2 : m ≤ q ∧ q < m + s
      · rw [if_pos h2, if_pos (by omega)]
      · rw [if_neg h2, if_neg (by omega)]
theorem mvd_end (ids : List Nat) (m : Nat) (h : m < ids.length) : (mvd ids m (ids.length - 1 - m)).take (ids.length - 1) = ids.eraseIdx m := by
  apply List.ext_getElem?
  intro q
  rw [List.getElem?_take, List.getElem?_eraseIdx]
  by_cases hq : q < ids.length - 1
  · rw [if_pos hq, mvd_at ids m _ (by omega)]
    by_cases h2 : q < m
    · rw [if_neg (by omega), if_pos h2]
    · rw [if_pos (by omega), if_neg h2]
  · rw [if_neg hq]
    by_cases h2 : q < m
    · omega
    · rw [if_neg h2, List.getElem?_eq_none (by omega)]
theorem kP_clear {w : World} {base g cap m idx : Nat} {ok : Nat → Prop} {xs : List Nat} (h : kP.R TP w base ok (.slice (some ⟨g, 0, none⟩) xs.length cap) xs) (hm : m ≤ idx) (hx : m ≤ xs.length) (u : Value) :
    kP.R TP (w.setCell ⟨g, idx, none⟩ u) base ok (.slice (some ⟨g, 0, none⟩) m cap) (xs.take m) := by
  obtain ⟨h0, inner, ho, hr⟩ := h
  have hs := (ho.stored idx u).1
  have ht := own_take hs hx
  have e : (inner.set idx u).take (m * 1) = inner.take (m * 1) := List.take_set_of_le (by omega)
  have hlen : (xs.take m).length = m := by rw [List.length_take]; omega
  refine ⟨h0, inner.take (m * 1), ?_, ?_⟩
  · rw [hlen, ← e]
    exact ht
  · exact Kd.reps_take hr hx
theorem zeroP (W : World) : (zeroValue TP).run Try.prog W = .ok (.pointer none) W := by kernel_rfl
theorem onlyR {a w : World} {g o : Nat} {u : Value} (h : Only (fun i => i = g) a w) : Only (fun i => i = g) a (w.setCell ⟨g, o, none⟩ u) := Only.setCell (S := fun i => i = g) h (p := ⟨g, o, none⟩) (Or.inl rfl) u

set_option maxRecDepth 100000 in
set_option maxHeartbeats 4000000 in
theorem deleteCalls (rb cap p pid m : Nat) (ids : List Nat) (w : World) (hR : kP.R TP w 0 (fun i => i = rb) (.slice (some ⟨rb, 0, none⟩) ids.length cap) ids) (hp : w.cell? ⟨p, 0, none⟩ = some (ptrV pid)) (hpr : p ≠ rb) (hplt : p < w.heap.size)
    (hm : ids[m]? = some pid) (hno : ∀ j, ids[j]? = some pid → j = m) (hB : ∀ q, q ∈ ids → Tb w q) (hs : ids.length ≤ 256) :
    Calls Try.prog 25 #[.slice (some ⟨rb, 0, none⟩) ids.length cap, .func (.func 26) #[] #[ptrV p]] w fun e w' => e = .returned (.slice (some ⟨rb, 0, none⟩) (ids.length - 1) cap) ∧ kP.R TP w' 0 (fun i => i = rb) (.slice (some ⟨rb, 0, none⟩) (ids.length - 1) cap) (ids.eraseIdx m) ∧ Only (fun i => i = rb) w w' := by
  have hent := enterGive1
  have hmn : m < ids.length := (List.getElem?_eq_some_iff.1 hm).1
  obtain ⟨A', c', ee, hcap, hC⟩ := Kd.R_reads hR
  injection ee with e1 e2 e3
  subst e1 e3
  have HI := Aside0.mk (indexG _ _ cap p pid m ids w hC hp hm (fun j hj h => absurd (hno j h) (by omega)) hB hs)
  have HR := Aside0.mk hR
  have HP := Aside0.mk hp
  have HM := Aside0.mk hm
  have HN := Aside0.mk hno
  have HPr := Aside0.mk hpr
  have HTb : Aside0 (∀ W, Only (fun i => i = rb) w W → ∀ q, q ∈ ids → Tb W q) := ⟨fun W hW q hq => by
    obtain ⟨cs, hcs⟩ := hB q hq
    obtain ⟨inner, ho, _⟩ := hR.2
    obtain ⟨cs', hc'⟩ := own_typed ho rb rfl
    exact ⟨cs, (hW.block q (lt_of_block hcs) (ne_heap hcs hc' (cells_ne (by decide)))).trans hcs⟩⟩
  have HPl := Aside0.mk hplt
  have HE := Aside0.mk (mvd_end ids m hmn)
  have HL := Aside0.mk (mvd_len ids m)
  have HA := Aside0.mk (mvd_at ids m)
  clear hR hp hm hno hpr hplt hC hB
  generalize hn : ids.length = n at *
  have HMn := Aside0.mk hn
  clear hn
  go_enter Try.func25, Try.ntmps25
  go_wp2_with fail
  refine HI.out.mono ?_
  rintro e w1 ⟨rfl, hb1⟩
  have HO1 : Aside0 (Only (fun i => i = rb) w w1) := ⟨Only.ofBelow hb1⟩
  have HR1 := Aside0.mk (Kd.R_below HR.out hb1)
  clear hb1 HI HR
  have hm1 : ((m : Int) == -1) = false := by simp
  go_wp2_with fail
  go_loopw [5, 6] (fun u v wr => ∃ s i j : Nat, Aside0 (i = m + s) ∧ Aside0 (j = m + s + 1) ∧ j ≤ n ∧ u = .int .i64 i ∧ v = .int .i64 j ∧ Aside0 (kP.R TP wr 0 (fun i => i = rb) (.slice (some ⟨rb, 0, none⟩) n cap) (mvd ids m s)) ∧ Aside0 (Only (fun i => i = rb) w wr)) (fun u v _ => n - (intOf v).toNat)
  case atStart => exact ⟨0, m, m + 1, ⟨rfl⟩, ⟨rfl⟩, by omega, rfl, by go_num, HR1, HO1⟩
  case round =>
    obtain ⟨s, i, j, HIi, HJ, hj, rfl, rfl, HR, HO⟩ := hrel
    clear HR1 HO1
    by_cases hlt : j < n
    · have hl := HL.out s
      obtain ⟨A', c', ee, _, hC⟩ := Kd.R_reads HR.out
      injection ee with e1 e2 e3
      subst e1 e3
      rw [hl] at hC
      obtain ⟨b, o, x, ee, hx, c0⟩ := kP_at hC j hlt
      injection ee with ee
      injection ee with e1 e3 _
      subst e1 e3
      have hx2 : ids[m + s + 1]? = some x := by
        rw [HA.out s (by rw [HJ.out] at hlt; omega), if_neg (by rw [HJ.out]; omega), HJ.out] at hx
        exact hx
      have HX : Aside0 (x ≠ pid) := ⟨fun h => by
        have := HN.out _ (by rw [hx2, h])
        omega⟩
      have HX2 := Aside0.mk hx2
      have HF := Aside0.mk (give1 x p pid wr ((cell_block (HO.out.block p HPl.out (fun e => HPr.out e))).trans HP.out) (HTb.out wr HO.out x (List.mem_of_getElem? hx2)) (HTb.out wr HO.out pid (List.mem_of_getElem? HM.out)))
      rw [decide_eq_false HX.out] at HF
      have i1 : (j : Int) < (n : Int) := by omega
      rw [Nat.zero_add] at c0
      clear hx hx2 hl hC e2
      go_wp2_with fail
      refine HF.out.mono ?_
      rintro e w2 ⟨rfl, hb2⟩
      have HR2 := Aside0.mk (Kd.R_below HR.out hb2)
      have HO2 : Aside0 (Only (fun i => i = rb) w w2) := ⟨HO.out.trans (Only.ofBelow hb2)⟩
      clear hb2 HR HO HF c0
      have i3 : i < n := by have := HIi.out; have := HJ.out; omega
      have i2 : (i : Int) < (n : Int) := by omega
      have hcf := Kd.R_celln (enc := ptrV) 0 HR2.out (i : Int) (by omega) (by omega)
      rw [Int.toNat_natCast] at hcf
      obtain ⟨ci, fi⟩ := hcf
      have HPut : Aside0 (kP.R TP (w2.setCell ⟨rb, i, none⟩ (ptrV x)) 0 (fun i => i = rb) (.slice (some ⟨rb, 0, none⟩) n cap) (mvd ids m (s + 1))) := ⟨by
        have := Kd.R_putn (enc := ptrV) HR2.out (i : Int) x
        rw [Int.toNat_natCast, HIi.out] at this
        rw [HIi.out]
        simp only [mvd, HX2.out, Option.getD_some]
        exact this⟩
      have HO3 : Aside0 (Only (fun i => i = rb) w (w2.setCell ⟨rb, i, none⟩ (ptrV x))) := ⟨onlyR HO2.out⟩
      generalize rdOf 0 (mvd ids m s) (i : Int) = old at *
      clear HR2 HO2
      go_wp2
      go_roundw
      case rel => exact ⟨s + 1, i + 1, j + 1, ⟨by have := HIi.out; omega⟩, ⟨by have := HJ.out; omega⟩, by omega, by go_num, by go_num, HPut, HO3⟩
      case measure => simp [intOf]; omega
    · have HN1 : Aside0 (i = n - 1 ∧ s = n - 1 - m) := ⟨by have := HIi.out; have := HJ.out; omega⟩
      have i3 : i < n := by have := HN1.out; omega
      have hcf := Kd.R_celln (enc := ptrV) 0 HR.out (i : Int) (by omega) (by omega)
      rw [Int.toNat_natCast] at hcf
      obtain ⟨ci, fi⟩ := hcf
      have HCut : Aside0 (kP.R TP (wr.setCell ⟨rb, i, none⟩ (.pointer none)) 0 (fun i => i = rb) (.slice (some ⟨rb, 0, none⟩) (n - 1) cap) (ids.eraseIdx m)) := ⟨by
        have hR' : kP.R TP wr 0 (fun i => i = rb) (.slice (some ⟨rb, 0, none⟩) (mvd ids m s).length cap) (mvd ids m s) := by rw [HL.out s]; exact HR.out
        have := kP_clear (idx := i) hR' (m := n - 1) (by have := HN1.out; omega) (by rw [HL.out s]; omega) (.pointer none)
        rw [HN1.out.2, HE.out] at this
        exact this⟩
      have HO3 : Aside0 (Only (fun i => i = rb) w (wr.setCell ⟨rb, i, none⟩ (.pointer none))) := ⟨onlyR HO.out⟩
      obtain ⟨ip, hip, hisz⟩ : ∃ ip, Try.prog.info? TP = some ip ∧ ip.size = 1 := by
        have h : (Try.prog.info? TP).map (·.size) = some 1 := by kernel_rfl
        obtain ⟨ip, hi, hb⟩ := Option.map_eq_some_iff.1 h
        exact ⟨ip, hi, hb⟩
      have hc1 := cut_from (P := Try.prog) TPs TP .i64 Try.underlying67 hip 1 hisz (some ⟨rb, 0, none⟩) n cap (i : Int) (by omega) (by omega)
      have hc2 := cut_to (P := Try.prog) TPs TP .i64 Try.underlying67 hip (some ⟨rb, 0, none⟩) n cap (i : Int) (by omega) (by omega) hcap
      rw [Int.toNat_natCast] at hc1 hc2
      rw [if_neg (by omega)] at hc1
      have hadd : (Option.map (fun x : Addr => x.add (i * 1)) (some ⟨rb, 0, none⟩)) = some ⟨rb, i, none⟩ := by simp [Addr.add]; exact fun h => h.symm
      rw [hadd, show n - i = 1 by have := HN1.out; omega] at hc1
      have hclr : ∀ ty, (Builtin.clear_ #[TPs] ty #[.slice (some ⟨rb, i, none⟩) 1 (cap - i)]).run Try.prog wr = .ok (.tuple #[]) (wr.setCell ⟨rb, i, none⟩ (.pointer none)) := fun ty =>
        Lib.run_clear_slice wr TPs TP ty _ Try.underlying67 zeroP rfl rfl rb i 1 (cap - i) (by omega) (fun q hq => by
          obtain rfl : q = 0 := by omega
          rw [Nat.add_zero, ci]; rfl) (fun q hq => by
          obtain rfl : q = 0 := by omega
          rw [Nat.add_zero]; exact fi)
      clear hcap hip hisz hadd ci fi HR HO i3
      go_wp2_with fail
      go_ret
      exact ⟨by rw [HN1.out.1]; rfl, HCut.out, HO3.out⟩
end Go.Proofs.Ytkgabeloofjohaa.Gap
