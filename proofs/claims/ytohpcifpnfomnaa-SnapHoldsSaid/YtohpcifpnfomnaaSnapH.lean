/- Layer 10's readers: those that are there. -/
import Derived.Test.YtohpcifpnfomnaaSnapG
import Derived.Test.YtohpcifpnfomnaaPSnapPlaysx0
namespace Go.Proofs.Ytohpcifpnfomnaa.Snap
set_option linter.unusedVariables false
set_option linter.unusedSimpArgs false
open Go.RowKit Go.Proofs.YtohpcifpnfomnaaW.PrintWords Go.Proofs.Ytohpcifpnfomnaa.Kit Go.MuLone

abbrev TR : TypeId := 39
abbrev RS := PSnapPlays.S39
abbrev rk : Kd RS := PSnapPlays.k39
/-- What a slot tells. -/
def one (i : Nat) (v : Int) : List RS := if 0 < v then [⟨(i : Int), v - 1⟩] else []
def rdsFrom : Nat → List Int → List RS
  | _, [] => []
  | i, v :: t => one i v ++ rdsFrom (i + 1) t
def rds (rs : List Int) : List RS := rdsFrom 0 rs
theorem one_len (i : Nat) (v : Int) : (one i v).length ≤ 1 := by unfold one; split <;> simp
theorem rdsFrom_len (l : List Int) : ∀ i, (rdsFrom i l).length ≤ l.length := by
  induction l with
  | nil => intro i; simp [rdsFrom]
  | cons v t ih =>
    intro i
    have := ih (i + 1)
    have := one_len i v
    simp only [rdsFrom, List.length_append, List.length_cons]
    omega
theorem rdsFrom_app (a b : List Int) : ∀ i, rdsFrom i (a ++ b) = rdsFrom i a ++ rdsFrom (i + a.length) b := by
  induction a with
  | nil => intro i; simp [rdsFrom]
  | cons v t ih =>
    intro i
    have e : i + (t.length + 1) = i + 1 + t.length := by omega
    simp only [List.cons_append, rdsFrom, ih, List.append_assoc, List.length_cons, e]
theorem rds_take (rs : List Int) (j : Nat) (h : j < rs.length) : rdsFrom 0 (rs.take (j + 1)) = rdsFrom 0 (rs.take j) ++ one j (rd rs j) := by
  have e : rs.take (j + 1) = rs.take j ++ [rd rs j] := by
    rw [List.take_succ_eq_append_getElem h]
    simp [rd, h]
  rw [e, rdsFrom_app]
  simp only [rdsFrom, List.append_nil, List.length_take, Nat.zero_add]
  rw [Nat.min_eq_left (by omega)]

set_option maxRecDepth 100000 in
set_option maxHeartbeats 1600000 in
theorem readersCalls (p : Nat) (fl : Int) (rs : List Int) (w : World) (h : Sn w p 0 fl rs) :
    Calls Try.prog 10 #[.pointer (some ⟨p, 0, none⟩)] w fun e w' => ∃ v, e = .returned v ∧ Kd.R rk TR w' w.heap.size (fun _ => True) v (rds rs) ∧ Sn w' p 0 fl rs ∧ Only (fun i => i = p) w w' := by
  have HI := Aside0.mk (isCalls p 0 fl rs w h)
  have H := Aside0.mk h
  have HL := Aside0.mk h.len
  have HP := Aside0.mk h.row.lt
  clear h
  go_enter_defers Try.func10, Try.ntmps10
  go_wp2_with fail
  refine HI.out.mono ?_
  rintro e w' ⟨rfl, rfl⟩
  go_wp2_with fail
  refine (lock_free muLib ⟨p, 1, none⟩ w H.out.c1 (H.out.row.free 1)).mono ?_
  rintro e w1 ⟨rfl, hw1⟩
  have H1 : Aside0 (Sn w1 p 1 fl rs) := ⟨by rw [hw1]; exact H.out.lock 1⟩
  have HO1 : Aside0 (Only (fun i => i = p) w w1) := ⟨by rw [hw1]; exact lockOnly w p _⟩
  have HZ : Aside0 (w1.heap.size = w.heap.size) := ⟨by rw [hw1]; simp [World.setCell]⟩
  clear hw1 H HI
  go_wp2_with fail
  go_loopw [3, 16] (fun v x wr => ∃ j : Nat, j ≤ 256 ∧ x = .int .i64 j ∧ Aside0 (Kd.R rk TR wr w1.heap.size (fun _ => True) v (rdsFrom 0 (rs.take j))) ∧ Aside0 (Below w1.heap.size w1 wr)) (fun _ x _ => 256 - (intOf x).toNat)
  case atStart => exact ⟨0, Nat.zero_le _, rfl, ⟨Kd.R_nil _ _ _ _ _⟩, ⟨Below.refl _ _⟩⟩
  case round =>
    obtain ⟨j, hj, rfl, HR, HB⟩ := hrel
    by_cases hlt : j < 256
    · have HW := Aside0.mk (H1.out.below HB.out)
      have HC := Aside0.mk (u64Load p (4 + j) _ wr (HW.out.cr j hlt))
      have HT := Aside0.mk (rds_take rs j (by rw [HL.out]; exact hlt))
      have HS := Aside0.mk (Nat.le_trans (rdsFrom_len (rs.take j) 0) (List.length_take_le _ _))
      have hr := HW.out.r0 j hlt
      generalize rd rs (j : Int) = r at *
      go_wp2_with fail
      refine HC.out.mono ?_
      rintro e w' ⟨rfl, rfl⟩
      clear HC HW
      by_cases hv : 0 < r
      · have HA : Aside0 (one j r = [⟨(j : Int), r - 1⟩]) := ⟨by unfold one; rw [if_pos hv]⟩
        go_wp2_with ((with_reducible refine gate_builtin (b := .append) (xs := #[.tmp 27, .tmp 32]) rfl ?_); at_builtin; refine Kd.R_append rk (w0 := w1) w1.heap.size rfl (.tmp 27) (.tmp 32) 30 TR (.agg #[.int .i64 0, .int .u64 0]) 16 rfl Try.underlying30 PSnapPlays.info39 rfl (by decide) (by omega) u3 (rdsFrom 0 (rs.take j)) ⟨(j : Int), r - 1⟩ [.int .i64 (j : Int), .int .u64 (r - 1)] (fun _ => True) (fun _ => False) rfl rfl ?aP (fun _ hk => hk.elim) ?aF ?aO ?aB ?aS ?aL ?_; (case aP => exact PSnapPlays.k39_mkM _ _ _ ⟨(j : Int), r - 1⟩); (case aF => exact fun _ _ => trivial); (case aO => exact HR.out); (case aB => exact HB.out); (case aS => exact below_size HB.out); (case aL => have := HS.out; omega); intro v1 w2 ho hb hg hat; have HO2 := Aside0.mk ho; have HB2 := Aside0.mk hb; clear ho hb hg hat HR HB)
        go_roundw
        case rel => exact ⟨j + 1, by omega, by go_num, ⟨by rw [HT.out, HA.out]; exact HO2.out⟩, HB2⟩
        case measure => simp [intOf]; omega
      · have HA : Aside0 (one j r = []) := ⟨by unfold one; rw [if_neg hv]⟩
        go_wp2
        go_roundw
        case rel => exact ⟨j + 1, by omega, by go_num, ⟨by rw [HT.out, HA.out, List.append_nil]; exact HR.out⟩, HB⟩
        case measure => simp [intOf]; omega
    · have e : j = 256 := by omega
      subst e
      have H2 := Aside0.mk (H1.out.below HB.out)
      have HO2 : Aside0 (Only (fun i => i = p) w wr) := ⟨HO1.out.trans (Only.ofBelow HB.out)⟩
      have HR2 : Aside0 (Kd.R rk TR wr w.heap.size (fun _ => True) u3 (rds rs)) := ⟨by
        have := HR.out
        rw [List.take_of_length_le (by rw [HL.out]; exact Nat.le_refl _), HZ.out] at this
        exact this⟩
      clear HR HB HO1 H1
      go_wp2_with fail
      refine leaves_cons (f := 20) (args := #[.pointer (some ⟨p, 1, none⟩)]) (by simp) (by simp [go_sem]) ?_
      refine (unlock_deferred muLib ⟨p, 1, none⟩ .returning _ H2.out.c1 (H2.out.row.free 1)).mono ?_
      rintro e u' w3 ⟨rfl, rfl, hw3⟩
      have H3 : Aside0 (Sn w3 p 0 fl rs) := ⟨by rw [hw3]; exact H2.out.lock 0⟩
      have HO3 : Aside0 (Only (fun i => i = p) wr w3) := ⟨by rw [hw3]; exact lockOnly wr p _⟩
      clear hw3 H2
      exact ⟨_, results_tmp rfl _ _ _, u3, rfl, HO3.out.R HR2.out (fun i hi _ (e : i = p) => by have := HP.out; omega), H3.out, HO2.out.trans HO3.out⟩
end Go.Proofs.Ytohpcifpnfomnaa.Snap
