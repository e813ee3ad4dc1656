/- Layer 12's list: Levels. -/
import Derived.Test.YtnpjppnahfehnaaSkipP
import Derived.Deep.CutBlock
import Derived.Deep.DeepCutAuto
namespace Go.Proofs.Ytnpjppnahfehnaa.Skip
set_option linter.unusedVariables false
set_option linter.unusedSimpArgs false
open Go.RowKit Go.Proofs.YtnpjppnahfehnaaW.PrintWords Go.Proofs.Ytnpjppnahfehnaa.Kit Go.MuLone

abbrev TStr : TypeId := 9
abbrev TStrs : TypeId := 40
theorem infoS : (Try.prog.info? TStr).map (fun i => (i.zero, i.size, i.bytes)) = some (some (.string ⟨#[]⟩), 1, 16) := by kernel_rfl
theorem infoSs : (Try.prog.info? TStrs).map (fun i => (i.zero, i.size, i.bytes)) = some (some (.slice none 0 0), 1, 24) := by kernel_rfl
abbrev LS (w : World) (base : Nat) (v : Value) (l : List (List ByteArray)) : Prop := Kd.S (Kd.slice TStr Kd.string) TStrs w base (fun _ => True) v l

/-- The keys on a level. -/
def lvl (i : Nat) (ns : List Nd) : List ByteArray := (ns.filter (fun x => decide (i < x.h))).map (·.k)
def lvFrom (ns : List Nd) : Nat → Nat → List (List ByteArray)
  | 0, _ => []
  | n + 1, i => if lvl i ns = [] then [] else lvl i ns :: lvFrom ns n (i + 1)
theorem lvFrom_zero (ns : List Nd) (i : Nat) : lvFrom ns 0 i = [] := rfl
theorem lvFrom_succ (ns : List Nd) (n i : Nat) : lvFrom ns (n + 1) i = if lvl i ns = [] then [] else lvl i ns :: lvFrom ns n (i + 1) := rfl
theorem skipTo (i : Nat) : ∀ l : List Nd, ∃ pre t, l = pre ++ t ∧ fst? i l (fun _ => none) = t.head?.map (·.p) ∧ lvl i l = lvl i t ∧ ∀ y ∈ t.head?, i < y.h
  | [] => ⟨[], [], rfl, rfl, rfl, fun y h => by cases h⟩
  | y :: l => by
    by_cases hy : i < y.h
    · exact ⟨[], y :: l, rfl, by rw [fst?, if_pos hy]; rfl, rfl, fun z hz => by simp at hz; rw [← hz]; exact hy⟩
    · obtain ⟨pre, t, h1, h2, h3, h4⟩ := skipTo i l
      refine ⟨y :: pre, t, by rw [h1]; rfl, by rw [fst?, if_neg hy]; exact h2, ?_, h4⟩
      rw [← h3]
      unfold lvl
      rw [List.filter_cons_of_neg (by simp [hy])]
theorem lvl_cons {i : Nat} {y : Nd} {l : List Nd} (h : i < y.h) : lvl i (y :: l) = y.k :: lvl i l := by
  unfold lvl
  rw [List.filter_cons_of_pos (by simp [h]), List.map_cons]
theorem lvl_len (i : Nat) (l : List Nd) : (lvl i l).length ≤ l.length := by
  unfold lvl
  rw [List.length_map]
  exact List.length_filter_le _ _
theorem Sk.nextLv {w : World} {g : Nat} {st : Int} {hd : Nd} {ns pre t : List Nd} {y : Nd} (h : Sk w g st hd ns) (e : ns = pre ++ y :: t) (i : Nat) (hi : i < y.h) :
    NodeB w y ∧ w.cell? ⟨y.q, i, none⟩ = some (ptr (fst? i t (fun _ => none))) ∧ IsN w (fst? i t (fun _ => none)) := by
  subst e
  have hl := h.lnk
  rw [← List.cons_append, Links.split] at hl
  obtain ⟨_, k1, k2, k3⟩ := hl
  exact ⟨k1, k2.cell i _ (by rw [List.getElem?_map, List.getElem?_range hi]; rfl), k3.isN i (IsN.nil w)⟩

set_option maxRecDepth 100000 in
set_option maxHeartbeats 8000000 in
theorem levelsCalls (g : Nat) (hd : Nd) (ns : List Nd) (w : World) (h : Sk w g 0 hd ns) (hlen : ns.length ≤ 3518437208780) :
    Calls Try.prog 12 #[.pointer (some ⟨g, 0, none⟩)] w fun e w' => ∃ v, e = .returned v ∧ LS w' w.heap.size v (lvFrom ns 16 0) ∧ Below w.heap.size w w' := by
  have HLen := Aside0.mk hlen
  have H := Aside0.mk h
  obtain ⟨F, hF⟩ : ∃ F, lvFrom ns 16 0 = F := ⟨_, rfl⟩
  rw [hF]
  have HFe := Aside0.mk hF
  clear hF
  have HI := Aside0.mk (isTrue g 0 hd ns w h)
  clear h hlen
  go_enter Try.func12, Try.ntmps12
  go_wp2_with fail
  refine HI.out.mono ?_
  rintro e w' ⟨rfl, rfl⟩
  clear HI
  go_wp2_with fail
  have HR0 : Aside0 (LS w w.heap.size (.slice none 0 0) []) := ⟨Kd.S_nil _ _ _ _ _⟩
  go_loopg [3, 10] 17 (fun n o v wz => ∃ (i : Nat) (L : List (List ByteArray)), n = 17 - i ∧ i ≤ 16 ∧ v = .int .i64 i ∧ Aside0 (LS wz w.heap.size o L) ∧ Aside0 (L.length = i) ∧ Aside0 (L ++ lvFrom ns (16 - i) i = F) ∧ Aside0 (Below w.heap.size w wz))
  case atStart => exact ⟨0, [], rfl, by omega, rfl, HR0, ⟨rfl⟩, HFe, ⟨Below.refl _ _⟩⟩
  case round =>
    clear HR0
    obtain ⟨i, L, rfl, hi, rfl, HR, HLi, HF, HB⟩ := hrel
    by_cases hlt : i < 16
    · have Hz := Aside0.mk (H.out.below HB.out)
      obtain ⟨n, hn⟩ : ∃ n, 16 - i = n + 1 := ⟨15 - i, by omega⟩
      have HF2 := HF.out
      rw [hn, lvFrom_succ] at HF2
      have HF3 := Aside0.mk HF2
      clear HF HF2
      have y3 := Hz.out.c3
      have hhd := Hz.out.at0 (lo := []) i hlt
      obtain ⟨hdn, hdl, hdc, _, hdi⟩ := hhd
      rw [show lastAt i hd [] = hd from rfl] at hdn hdl hdc
      have hn2 := hdn.cell 2 _ rfl
      have hlt2 : (i : Int) < (hd.h : Int) := by omega
      have hi16 : (i : Int) < 16 := by omega
      obtain ⟨pre0, t0, e1, e2, e3, e4⟩ := skipTo i ns
      rw [e2] at hdc hdi
      have HLd := Aside0.mk (pload hd.q i _ _ hdc hdi)
      have HE1 := Aside0.mk e1
      have HE3 := Aside0.mk e3
      have HE4 := Aside0.mk e4
      have HHi := Aside0.mk hi16
      clear hdn hdc hdi e1 e2 e3 e4
      go_wp2_with fail
      refine HLd.out.mono ?_
      rintro e w' ⟨rfl, rfl⟩
      clear HLd y3 hn2 hlt2 hdl Hz hi16
      go_wp2_with fail
      go_loopg [5, 6] t0.length (fun m k5 v6 wz => ∃ (pre t : List Nd) (K : List ByteArray), m = t.length ∧ v6 = ptr (t.head?.map (·.p)) ∧ Aside0 (ns = pre ++ t) ∧ Aside0 (∀ y ∈ t.head?, i < y.h) ∧ Aside0 (Kd.S (Kd.slice TStr Kd.string) TStrs wz w.heap.size (fun k_ => some k_ ≠ (k5 : Value).ownBlock) u3 L) ∧ Aside0 (Kd.R Kd.string TStr wz w.heap.size (fun _ => True) k5 K) ∧ Aside0 (K ++ lvl i t = lvl i ns) ∧ Aside0 (K.length ≤ pre.length) ∧ Aside0 (Below w.heap.size w wz))
      case atStart => exact ⟨pre0, t0, [], rfl, rfl, HE1, HE4, ⟨Kd.S_mono HR.out (fun _ hk => (by simp [Value.ownBlock]))⟩, ⟨Kd.R_nil _ _ _ _ _⟩, ⟨HE3.out.symm⟩, ⟨Nat.zero_le _⟩, HB⟩
      case round =>
        clear HR HE1 HE3 HE4
        have HBo := HB
        clear HB
        obtain ⟨pre, t, K, rfl, rfl, HE1, HE4, HS, HK, HKe, HKl, HB⟩ := hrel
        cases t with
        | nil =>
          rw [List.head?_nil, Option.map_none, show ptr none = .pointer none from rfl]
          have hK : K = lvl i ns := by
            have := HKe.out
            rw [show lvl i [] = [] from rfl, List.append_nil] at this
            exact this
          obtain ⟨A5, c5, e5⟩ := Kd.R_slice HK.out
          subst e5
          by_cases hn0 : lvl i ns = []
          · have hK0 : K.length = 0 := by rw [hK, hn0]; rfl
            have HV : Aside0 (LS wr w.heap.size u3 F) := ⟨by
              have := HF3.out
              rw [if_pos hn0, List.append_nil] at this
              rw [← this]
              exact Kd.S_mono HS.out (fun _ hk => trivial)⟩
            obtain rfl : K = [] := hK.trans hn0
            clear HF3 HS HK HKe HE1 HE4 HKl hK hn0 HBo hK0
            go_wp2
            go_ret
            exact ⟨_, rfl, HV.out, HB.out⟩
          · have hF4 : (L ++ [K]) ++ lvFrom ns n (i + 1) = F := by
              have := HF3.out
              rw [if_neg hn0, ← hK] at this
              rw [← this, List.append_assoc]
              rfl
            have HF4 := Aside0.mk hF4
            have hKp : 0 < K.length := by
              rcases K with _ | ⟨a, b⟩
              · exact absurd hK.symm hn0
              · simp
            have d0 : decide ((K.length : Int) = 0) = false := decide_eq_false (by omega)
            have d1 : decide (K.length = 0) = false := decide_eq_false (by omega)
            have d2 : (K.length == 0) = false := beq_eq_false_iff_ne.2 (by omega)
            have d3 : ((K.length : Int) == 0) = false := beq_eq_false_iff_ne.2 (by omega)
            have d4 : (K = []) = False := eq_false (by rintro rfl; simp at hKp)
            have d5 : (K.length = 0) = False := eq_false (by omega)
            have d6 : ((K.length : Int) = 0) = False := eq_false (by omega)
            have HLb : Aside0 (L.length < 5864062014805) := ⟨by have := HLi.out; omega⟩
            clear HF3 hF4 HKe HE1 HE4 HKl hK hn0 HBo hKp
            go_upto_region 14 with (first | ((with_reducible refine gate_builtin (b := .append) (xs := #[.tmp 42, .tmp 44]) rfl ?_); at_builtin; refine Kd.S_append (Kd.slice TStr Kd.string) (w0 := w) w.heap.size rfl (.tmp 42) (.tmp 44) 38 TStrs (.slice none 0 0) 24 rfl Try.underlying38 infoSs rfl (by decide) (by omega) u3 L K [.slice A5 K.length c5] (fun _ => True) (fun k_ => some k_ = (.slice A5 K.length c5 : Value).ownBlock) rfl rfl ?aP (fun k_ hk_ => ((Kd.R_mono (ok' := fun k_ => ((fun _ => True)) k_ ∧ some k_ ≠ (u3 : Value).ownBlock) (Kd.R_apart' (HK.out) (Kd.S_typed HS.out) (by decide)) (fun k_ hk => ⟨trivial, hk.2⟩))).1 k_ hk_.symm) ?aF ?aO ?aB ?aS ?aL ?_; (case aP => exact Kd.M_row (Kd.R_mono (Kd.R_tight rfl (Kd.R_mono (ok' := fun k_ => ((fun _ => True)) k_ ∧ some k_ ≠ (u3 : Value).ownBlock) (Kd.R_apart' (HK.out) (Kd.S_typed HS.out) (by decide)) (fun k_ hk => ⟨trivial, hk.2⟩))) (fun _ h_ => h_))); (case aB => exact HB.out); (case aF => exact (fun _ _ => trivial)); (case aO => exact (Kd.S_mono HS.out (fun k_ hk => ⟨trivial, fun e_ => hk e_⟩))); (case aS => exact (below_size HB.out)); (case aL => have := HLb.out; omega); intro v7 w7 ho hb hg hat; have HB7 := Aside0.mk hb; have HS7 := Aside0.mk ho; clear ho hb hg hat HS HK HB))
            clear d0 d1 d2 d3 d4 d5 d6
            have i1 : IntKind.i64.wrap ((i : Int) + 1) = ((i + 1 : Nat) : Int) := IntWalk.i64_in _ (by omega)
            go_wp2
            go_roundg (16 - i)
            case measure => omega
            case rel => exact ⟨i + 1, L ++ [K], by omega, by omega, by go_num, HS7, ⟨by have := HLi.out; simp; omega⟩, ⟨by rw [show 16 - (i + 1) = n by omega]; exact HF4.out⟩, HB7⟩
        | cons y t =>
          have Hz := Aside0.mk (H.out.below HB.out)
          have hyh : i < y.h := HE4.out y rfl
          obtain ⟨hyn, _, _⟩ := Hz.out.nextLv HE1.out i hyh
          have hyk := hyn.cell 0 _ rfl
          have HYh := Aside0.mk hyh
          rw [List.head?_cons, Option.map_some, show ptr (some y.p) = .pointer (some ⟨y.p, 0, none⟩) from rfl]
          have HKb : Aside0 (K.length < 8796093022208) := ⟨by
            have h1 := HKl.out
            have h2 := HLen.out
            rw [HE1.out, List.length_append] at h2
            omega⟩
          clear hyn hyh Hz
          go_upto_region 10 with (first | ((with_reducible refine gate_builtin (b := .append) (xs := #[.tmp 32, .tmp 37]) rfl ?_); at_builtin; refine Kd.R_append Kd.string (w0 := w) w.heap.size rfl (.tmp 32) (.tmp 37) TStrs TStr (.string ⟨#[]⟩) 16 rfl Try.underlying40 infoS rfl (by decide) (by omega) u5 K y.k [.string y.k] (fun _ => True) (fun _ => False) rfl rfl ?aP (fun _ hk => hk.elim) ?aF ?aO ?aB ?aS ?aL ?_; (case aP => exact rfl); (case aB => exact HB.out); (case aF => exact (fun _ _ => trivial)); (case aO => exact HK.out); (case aS => exact (below_size HB.out)); (case aL => have := HKb.out; omega); intro v6 w6 ho hb hg hat; have HS6 := Aside0.mk (Kd.S_after (ok := (fun _ => True)) (Kd.S_mono HS.out (fun _ hk => ⟨trivial, hk⟩)) hg hat); have HB6 := Aside0.mk hb; have HK6 := Aside0.mk ho; clear ho hb hg hat HS HK HB hyk))
          obtain ⟨zn, zc, zi⟩ := (H.out.below HB6.out).nextLv HE1.out i HYh.out
          obtain ⟨pre2, t2, e1, e2, e3, e4⟩ := skipTo i t
          rw [e2] at zc zi
          have z2 := zn.cell 2 _ rfl
          have hlt3 : (i : Int) < (y.h : Int) := by have := HYh.out; omega
          have HLz := Aside0.mk (pload y.q i _ _ zc zi)
          have HX1 := Aside0.mk e1
          have HX3 := Aside0.mk e3
          have HX4 := Aside0.mk e4
          clear zn zc zi e1 e2 e3 e4
          go_wp2_with fail
          refine HLz.out.mono ?_
          rintro e w' ⟨rfl, rfl⟩
          clear HLz z2 hlt3
          go_wp2
          go_roundg t2.length
          case measure => rw [HX1.out]; simp; omega
          case rel => exact ⟨pre ++ y :: pre2, t2, K ++ [y.k], rfl, rfl, ⟨by rw [HE1.out, HX1.out]; simp⟩, HX4, ⟨Kd.S_mono HS6.out (fun _ hk => hk.2)⟩, HK6, ⟨by
            rw [← HKe.out, lvl_cons HYh.out, HX3.out, List.append_assoc]
            rfl⟩, ⟨by have := HKl.out; simp; omega⟩, HB6⟩
    · obtain rfl : i = 16 := by omega
      have HV : Aside0 (LS wr w.heap.size u3 F) := ⟨by
        have := HF.out
        rw [Nat.sub_self, lvFrom_zero, List.append_nil] at this
        rw [← this]
        exact HR.out⟩
      clear HF HR
      go_wp2
      go_ret
      exact ⟨_, rfl, HV.out, HB.out⟩
end Go.Proofs.Ytnpjppnahfehnaa.Skip
