/- Layer 6's clock: what Open, advance and Done do. -/
import Derived.Test.YtmbekkndjkegdaaClockA
namespace Go.Proofs.Ytmbekkndjkegdaa.Clock
set_option linter.unusedVariables false
set_option linter.unusedSimpArgs false
open Go.RowKit Go.Proofs.YtmbekkndjkegdaaW.PrintWords Go.Proofs.Ytmbekkndjkegdaa.Kit

/-- What the ring holds at a stamp's place. -/
def at_ (rs : List Int) (s : Int) : Int := rd rs ((s.toNat % 4096 : Nat) : Int)
def open1 (rs : List Int) (s : Int) : List Int := if at_ rs s < s then [s] else []
def openTo (rs : List Int) (f : Int) : Nat → List Int
  | 0 => []
  | j + 1 => openTo rs f j ++ open1 rs (f + 1 + j)
/-- The stamps that are open: behind the frontier, up to the last one, not marked in the ring. -/
def openL (rs : List Int) (f l : Int) : List Int := openTo rs f (l - f).toNat
theorem open1_len (rs : List Int) (s : Int) : (open1 rs s).length ≤ 1 := by unfold open1; split <;> simp
theorem openTo_len (rs : List Int) (f : Int) (j : Nat) : (openTo rs f j).length ≤ j := by
  induction j with
  | zero => simp [openTo]
  | succ j ih =>
    have := open1_len rs (f + 1 + j)
    simp only [openTo, List.length_append]
    omega
theorem info64 : (Try.prog.info? 22).map (fun i => (i.zero, i.size, i.bytes)) = some (some (.int .u64 0), 1, 8) := by kernel_rfl

set_option maxRecDepth 100000 in
set_option maxHeartbeats 1600000 in
theorem openCalls (p : Nat) (l f : Int) (rs : List Int) (w : World) (h : Clk w p l f rs) :
    Calls Try.prog 14 #[.pointer (some ⟨p, 0, none⟩)] w fun e w' => ∃ v, e = .returned v ∧ Kd.R (Kd.int .u64) 22 w' w.heap.size (fun _ => True) v (openL rs f l) ∧ Below w.heap.size w w' := by
  have HI := Aside0.mk (isCalls p _ f rs w h)
  have HL := Aside0.mk (u64Load p 1 _ w h.c1)
  have HF := Aside0.mk (u64Load p 2 _ w h.c2)
  have hf0 := h.f0
  have hfl := h.fl
  have hgap := h.gap
  have hlM := h.lM
  have H := Aside0.mk h
  clear h
  obtain ⟨n, hn⟩ : ∃ n : Nat, n = (l - f).toNat := ⟨_, rfl⟩
  have hl : l = f + n := by omega
  have HN : Aside0 (openL rs f l = openTo rs f n) := ⟨by unfold openL; rw [← hn]⟩
  clear hn
  subst hl
  go_enter Try.func14, Try.ntmps14
  go_wp2_with fail
  refine HI.out.mono ?_
  rintro e w' ⟨rfl, rfl⟩
  go_wp2_with fail
  refine HL.out.mono ?_
  rintro e w' ⟨rfl, rfl⟩
  go_wp2_with fail
  refine HF.out.mono ?_
  rintro e w' ⟨rfl, rfl⟩
  go_wp2_with fail
  clear HI HL HF
  go_loopw [3, 5] (fun v x wr => ∃ j : Nat, j ≤ n ∧ x = .int .u64 (f + 1 + j) ∧ Aside0 (Kd.R (Kd.int .u64) 22 wr w.heap.size (fun _ => True) v (openTo rs f j)) ∧ Aside0 (Below w.heap.size w wr)) (fun _ x _ => (f + 1 + n - intOf x).toNat)
  case atStart => exact ⟨0, Nat.zero_le _, by simp, ⟨Kd.R_nil _ _ _ _ _⟩, ⟨Below.refl _ _⟩⟩
  case round =>
    obtain ⟨j, hj, rfl, HR, HB⟩ := hrel
    by_cases hlt : j < n
    · have HW := Aside0.mk (H.out.below HB.out)
      have HP := Aside0.mk (placeCalls p _ f (f + 1 + j) rs wr HW.out (by omega))
      have HL := Aside0.mk (u64Load p (3 + (f + 1 + (j : Int)).toNat % 4096) _ wr (HW.out.cr _ (Nat.mod_lt _ (by decide))))
      have HT : Aside0 (openTo rs f (j + 1) = openTo rs f j ++ open1 rs (f + 1 + j)) := ⟨rfl⟩
      have HS := Aside0.mk (openTo_len rs f j)
      generalize hat : rd rs (((f + 1 + (j : Int)).toNat % 4096 : Nat) : Int) = r at *
      have HA : Aside0 (open1 rs (f + 1 + j) = if r < f + 1 + j then [f + 1 + (j : Int)] else []) := ⟨by unfold open1 at_; rw [hat]⟩
      clear hat
      go_wp2_with fail
      refine HP.out.mono ?_
      rintro e w' ⟨rfl, rfl⟩
      go_wp2_with fail
      refine HL.out.mono ?_
      rintro e w' ⟨rfl, rfl⟩
      clear HP HL HW
      by_cases hr : r < f + 1 + j
      · rw [if_pos hr] at HA
        go_wp2_with ((with_reducible refine gate_builtin (b := .append) (xs := #[.tmp 29, .tmp 31]) rfl ?_); at_builtin; refine Kd.R_append (Kd.int .u64) (w0 := w) w.heap.size rfl (.tmp 29) (.tmp 31) 27 22 (.int .u64 0) 8 rfl Try.underlying27 info64 rfl (by decide) (by omega) u3 (openTo rs f j) (f + 1 + j) [.int .u64 (f + 1 + j)] (fun _ => True) (fun _ => False) rfl rfl ?aP (fun _ hk => hk.elim) ?aF ?aO ?aB ?aS ?aL ?_; (case aP => exact rfl); (case aF => exact fun _ _ => trivial); (case aO => exact HR.out); (case aB => exact HB.out); (case aS => exact below_size HB.out); (case aL => have := HS.out; omega); intro v1 w1 ho hb hg hat; have HO1 := Aside0.mk ho; have HB1 := Aside0.mk hb; clear ho hb hg hat HR HB)
        go_roundw
        case rel => exact ⟨j + 1, by omega, by congr 1; omega, ⟨by rw [HT.out, HA.out]; exact HO1.out⟩, HB1⟩
        case measure => simp [intOf]; omega
      · rw [if_neg hr] at HA
        go_wp2
        go_roundw
        case rel => exact ⟨j + 1, by omega, by congr 1; omega, ⟨by rw [HT.out, HA.out, List.append_nil]; exact HR.out⟩, HB⟩
        case measure => simp [intOf]; omega
    · have e : j = n := by omega
      subst e
      go_wp2
      go_ret
      exact ⟨_, rfl, by rw [HN.out]; exact HR.out, HB.out⟩
end Go.Proofs.Ytmbekkndjkegdaa.Clock
