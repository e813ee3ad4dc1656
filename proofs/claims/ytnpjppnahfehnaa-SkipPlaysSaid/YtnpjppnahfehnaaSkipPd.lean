/- Merged by wip/tools/merge.py: SkipX SkipY SkipZ SkipPlaysW. -/
import Derived.Test.YtnpjppnahfehnaaSkipPc
import Derived.Test.YtnpjppnahfehnaaPSamex2
import Derived.Test.YtnpjppnahfehnaaPLevelsx1
import Derived.Test.YtnpjppnahfehnaaPSameLevelsx1
import Derived.Test.YtnpjppnahfehnaaPHeightx1
import Derived.Deep.RegionHeld3
/- The document's answer for layer 12: what Same, Levels, SameLevels (printed) come to. -/
namespace Go.Proofs.Ytnpjppnahfehnaa.Skip
set_option linter.unusedVariables false
set_option linter.unusedSimpArgs false
open Go.RowKit Go.Proofs.YtnpjppnahfehnaaW.PrintWords Go.Proofs.Ytnpjppnahfehnaa.Kit Go.MuLone

def toS (x : En) : PSame.S33 := ⟨x.k, x.v, x.h⟩
def toL (x : En) : PLevels.S33 := ⟨x.k, x.v, x.h⟩
theorem C_toS {w : World} {A : Option Addr} {n : Nat} {es : List En} (h : kE.C w A n es) : PSame.k33.C w A n (es.map toS) := by
  obtain ⟨h1, h2, h3⟩ := h
  refine ⟨by rw [List.length_map]; exact h1, h2, fun h0 => ?_⟩
  obtain ⟨ad, e, hc⟩ := h3 h0
  refine ⟨ad, e, fun j p hj => ?_⟩
  rw [List.getElem?_map] at hj
  obtain ⟨x, hx, rfl⟩ := Option.map_eq_some_iff.1 hj
  exact hc j x hx
theorem C_toL {w : World} {A : Option Addr} {n : Nat} {es : List En} (h : kE.C w A n es) : PLevels.k33.C w A n (es.map toL) := by
  obtain ⟨h1, h2, h3⟩ := h
  refine ⟨by rw [List.length_map]; exact h1, h2, fun h0 => ?_⟩
  obtain ⟨ad, e, hc⟩ := h3 h0
  refine ⟨ad, e, fun j p hj => ?_⟩
  rw [List.getElem?_map] at hj
  obtain ⟨x, hx, rfl⟩ := Option.map_eq_some_iff.1 hj
  exact hc j x hx

theorem same_l0 (l : List PSame.S33) (hl : l.length ≤ 3518437208780) : ∀ (d i : Nat), i + d = l.length → PSame.vellumref12_Same.l0 (d + 1) l l (i : Int) = some true
  | 0, i, h => by
    rw [PSame.vellumref12_Same.l0, if_neg (by omega)]
  | d + 1, i, h => by
    rw [PSame.vellumref12_Same.l0, if_pos (by omega), if_pos (by omega), if_pos (by omega), if_neg (by simp)]
    have : wrap64 ((i : Int) + 1) = ((i + 1 : Nat) : Int) := by unfold wrap64; omega
    rw [this]
    exact same_l0 l hl d (i + 1) (by omega)
theorem same_f (l : List PSame.S33) (hl : l.length ≤ 3518437208780) : PSame.vellumref12_Same.f (l.length + 1) l l = some true := by
  rw [PSame.vellumref12_Same.f, if_pos rfl]
  exact same_l0 l hl l.length 0 (by omega)
theorem sameCalls (A B : Option Addr) (c d : Nat) (es : List En) (w : World) (hA : kE.C w A es.length es) (hB : kE.C w B es.length es) (hc : es.length ≤ c) (hd : es.length ≤ d) (hl : es.length ≤ 3518437208780) :
    Calls Try.prog 32 #[.slice A es.length c, .slice B es.length d] w fun e w' => e = .returned (.bool true) ∧ Drawn0 w w' := by
  have := PSame.vellumref12_Same.calls (es.length + 1) A c (es.map toS) B d (es.map toS) true w (by rw [List.length_map]; exact C_toS hA) (by rw [List.length_map]; exact hc) (by rw [List.length_map]; exact C_toS hB) (by rw [List.length_map]; exact hd) (by
    have h := same_f (es.map toS) (by rw [List.length_map]; exact hl)
    rw [List.length_map] at h
    exact h)
  rw [List.length_map] at this
  exact this

/-! Levels -/
def keysL (n : Int) (l : List PLevels.S33) : List ByteArray := (l.filter (fun x => decide (x.f2 ≥ n))).map (·.f0)
def lvsL (l : List PLevels.S33) : Nat → Nat → List (List ByteArray)
  | 0, _ => []
  | m + 1, n => (if keysL (n : Int) l = [] then [] else [keysL (n : Int) l]) ++ lvsL l m (n + 1)
theorem keysL_len (n : Int) (l : List PLevels.S33) : (keysL n l).length ≤ l.length := by
  unfold keysL
  rw [List.length_map]
  exact List.length_filter_le _ _
theorem rdL_at (l : List PLevels.S33) (i : Nat) (h : i < l.length) : PLevels.rd_T33 l (i : Int) = l[i] := by
  unfold PLevels.rd_T33
  simp [h]
theorem keysL_drop (n : Int) (l : List PLevels.S33) (i : Nat) (h : i < l.length) : keysL n (l.drop i) = (if l[i].f2 ≥ n then [l[i].f0] else []) ++ keysL n (l.drop (i + 1)) := by
  rw [List.drop_eq_getElem_cons h]
  unfold keysL
  by_cases hh : l[i].f2 ≥ n
  · rw [if_pos hh, List.filter_cons_of_pos (by simpa using hh)]; rfl
  · rw [if_neg hh, List.filter_cons_of_neg (by simpa using hh)]; rfl
theorem levels_l1 (l : List PLevels.S33) (hl : l.length ≤ 3518437208780) (out : List (List ByteArray)) (ho : out.length ≤ 100) (n : Nat) (hn : n ≤ 16) (k : Nat) :
    ∀ (d i : Nat) (acc : List ByteArray), i + d = l.length → acc.length ≤ i →
      PLevels.vellumref12_Levels.l1 (k + d + 1) l out (n : Int) acc (i : Int) = PLevels.vellumref12_Levels.l0 k l (out ++ if acc ++ keysL (n : Int) (l.drop i) = [] then [] else [acc ++ keysL (n : Int) (l.drop i)]) ((n + 1 : Nat) : Int)
  | 0, i, acc, h, ha => by
    have hw : wrap64 ((n : Int) + 1) = ((n + 1 : Nat) : Int) := by unfold wrap64; omega
    have hd : keysL (n : Int) (l.drop i) = [] := by rw [List.drop_of_length_le (by omega)]; rfl
    rw [PLevels.vellumref12_Levels.l1, if_neg (by omega), hd, List.append_nil, hw]
    by_cases ha0 : acc = []
    · rw [if_neg (by rw [ha0]; simp), if_pos ha0, List.append_nil]
    · have : 0 < acc.length := List.length_pos_iff.2 ha0
      rw [if_pos (by omega), if_pos (by omega), if_neg ha0]
  | d + 1, i, acc, h, ha => by
    have hw : wrap64 ((i : Int) + 1) = ((i + 1 : Nat) : Int) := by unfold wrap64; omega
    have hi : i < l.length := by omega
    rw [show k + (d + 1) + 1 = (k + d + 1) + 1 by omega, PLevels.vellumref12_Levels.l1, if_pos (by omega), if_pos (by omega), rdL_at l i hi, keysL_drop _ l i hi, hw]
    by_cases hh : l[i].f2 ≥ (n : Int)
    · rw [if_pos hh, if_pos (by omega), if_pos hh, levels_l1 l hl out ho n hn k d (i + 1) _ (by omega) (by rw [List.length_append, List.length_singleton]; omega), List.append_assoc]
    · rw [if_neg hh, if_neg hh, levels_l1 l hl out ho n hn k d (i + 1) acc (by omega) (by omega), List.nil_append]
theorem levels_l0 (l : List PLevels.S33) (hl : l.length ≤ 3518437208780) : ∀ (m n : Nat) (out : List (List ByteArray)), n + m = 17 → out.length ≤ n →
    ∃ k, PLevels.vellumref12_Levels.l0 k l out (n : Int) = some (out ++ lvsL l m n)
  | 0, n, out, h, ho => ⟨1, by rw [PLevels.vellumref12_Levels.l0, if_neg (by omega), lvsL, List.append_nil]⟩
  | m + 1, n, out, h, ho => by
    obtain ⟨k, hk⟩ := levels_l0 l hl m (n + 1) (out ++ if keysL (n : Int) l = [] then [] else [keysL (n : Int) l]) (by omega) (by
      rw [List.length_append]
      split <;> simp <;> omega)
    refine ⟨(k + l.length + 1) + 1, ?_⟩
    rw [PLevels.vellumref12_Levels.l0, if_pos (by omega)]
    have := levels_l1 l hl out (by omega) n (by omega) k l.length 0 [] (by omega) (by simp)
    rw [List.nil_append, List.drop_zero] at this
    rw [show (0 : Int) = ((0 : Nat) : Int) from rfl, this, hk, lvsL, List.append_assoc]
theorem keysL_lvl (n : Nat) (ns : List Nd) : keysL ((n + 1 : Nat) : Int) ((ns.map en).map toL) = lvl n ns := by
  unfold keysL lvl
  induction ns with
  | nil => rfl
  | cons y t ih =>
    simp only [List.map_cons]
    by_cases h : n < y.h
    · rw [List.filter_cons_of_pos (by show decide ((y.h : Int) ≥ _) = true; exact decide_eq_true (by omega)), List.filter_cons_of_pos (by simpa using h), List.map_cons, List.map_cons, ih]; rfl
    · rw [List.filter_cons_of_neg (by show ¬ decide ((y.h : Int) ≥ _) = true; simp; omega), List.filter_cons_of_neg (by simpa using h), ih]
theorem lvl_nil_up {ns : List Nd} {i j : Nat} (hij : i ≤ j) (h : lvl i ns = []) : lvl j ns = [] := by
  unfold lvl at h ⊢
  rw [List.map_eq_nil_iff, List.filter_eq_nil_iff] at h ⊢
  intro x hx
  have := h x hx
  simp at this ⊢
  omega
theorem lvsL_nil (ns : List Nd) : ∀ (m i : Nat), lvl i ns = [] → lvsL ((ns.map en).map toL) m (i + 1) = []
  | 0, _, _ => rfl
  | m + 1, i, h => by rw [lvsL, keysL_lvl, if_pos h, List.nil_append]; exact lvsL_nil ns m (i + 1) (lvl_nil_up (by omega) h)
theorem lvsL_lvFrom (ns : List Nd) : ∀ (m i : Nat), lvsL ((ns.map en).map toL) m (i + 1) = lvFrom ns m i
  | 0, _ => rfl
  | m + 1, i => by
    rw [lvsL, keysL_lvl, lvFrom_succ]
    by_cases h : lvl i ns = []
    · rw [if_pos h, if_pos h, List.nil_append]; exact lvsL_nil ns m (i + 1) (lvl_nil_up (by omega) h)
    · rw [if_neg h, if_neg h, lvsL_lvFrom ns m (i + 1)]; rfl
theorem refLevelsCalls (A : Option Addr) (c : Nat) (ns : List Nd) (w : World) (hA : kE.C w A (ns.map en).length (ns.map en)) (hc : (ns.map en).length ≤ c) (hl : ns.length ≤ 3518437208780) :
    Calls Try.prog 17 #[.slice A (ns.map en).length c] w fun e w' => ∃ v, e = .returned v ∧ LS w' w.heap.size v (lvFrom ns 16 0) ∧ Below w.heap.size w w' := by
  obtain ⟨k, hk⟩ := levels_l0 ((ns.map en).map toL) (by rw [List.length_map, List.length_map]; exact hl) 16 1 [] rfl (by simp)
  rw [List.nil_append, lvsL_lvFrom ns 16 0] at hk
  have := PLevels.vellumref12_Levels.calls k A c ((ns.map en).map toL) _ w (by rw [List.length_map]; exact C_toL hA) (by rw [List.length_map]; exact hc) hk
  rw [List.length_map] at this
  exact this

/-! SameLevels -/
theorem sameLv_l1 (r : List (List ByteArray)) (hr : r.length ≤ 100) (hk : ∀ K ∈ r, K.length ≤ 3518437208780) (i : Nat) (hi : i < r.length) (k : Nat) : ∀ (d j : Nat), j + d = r[i].length →
    PSameLevels.vellumref12_SameLevels.l1 (k + d + 1) r r (i : Int) (j : Int) = PSameLevels.vellumref12_SameLevels.l0 k r r ((i + 1 : Nat) : Int)
  | 0, j, h => by
    have hw : wrap64 ((i : Int) + 1) = ((i + 1 : Nat) : Int) := by unfold wrap64; omega
    have hg : PSameLevels.rd_L1 r (i : Int) = r[i] := by unfold PSameLevels.rd_L1; simp [hi]
    rw [PSameLevels.vellumref12_SameLevels.l1, if_pos (by omega), if_pos (by omega), hg, if_neg (by omega), hw]
  | d + 1, j, h => by
    have hb := hk _ (List.getElem_mem hi)
    have hw : wrap64 ((j : Int) + 1) = ((j + 1 : Nat) : Int) := by unfold wrap64; omega
    have hg : PSameLevels.rd_L1 r (i : Int) = r[i] := by unfold PSameLevels.rd_L1; simp [hi]
    rw [show k + (d + 1) + 1 = (k + d + 1) + 1 by omega, PSameLevels.vellumref12_SameLevels.l1, if_pos (by omega), if_pos (by omega), hg, if_pos (by omega), if_pos (by omega), if_pos (by omega), if_pos (by omega), if_pos rfl, hw]
    exact sameLv_l1 r hr hk i hi k d (j + 1) (by omega)
theorem sameLv_l0 (r : List (List ByteArray)) (hr : r.length ≤ 100) (hk : ∀ K ∈ r, K.length ≤ 3518437208780) : ∀ (m i : Nat), i + m = r.length → ∃ k, PSameLevels.vellumref12_SameLevels.l0 k r r (i : Int) = some true
  | 0, i, h => ⟨1, by rw [PSameLevels.vellumref12_SameLevels.l0, if_neg (by omega)]⟩
  | m + 1, i, h => by
    obtain ⟨k, hk'⟩ := sameLv_l0 r hr hk m (i + 1) (by omega)
    refine ⟨(k + r[i].length + 1) + 1, ?_⟩
    rw [PSameLevels.vellumref12_SameLevels.l0, if_pos (by omega), if_pos (by omega), if_pos (by omega), if_pos rfl]
    have := sameLv_l1 r hr hk i (by omega) k r[i].length 0 (by omega)
    rw [show (0 : Int) = ((0 : Nat) : Int) from rfl, this, hk']
theorem sameLvCalls (A B : Option Addr) (c d : Nat) (r : List (List ByteArray)) (w : World) (hA : (Kd.slice TStr Kd.string).C w A r.length r) (hB : (Kd.slice TStr Kd.string).C w B r.length r) (hc : r.length ≤ c) (hd : r.length ≤ d) (hr : r.length ≤ 100) (hk : ∀ K ∈ r, K.length ≤ 3518437208780) :
    Calls Try.prog 16 #[.slice A r.length c, .slice B r.length d] w fun e w' => e = .returned (.bool true) ∧ Drawn0 w w' := by
  obtain ⟨k, h⟩ := sameLv_l0 r hr hk r.length 0 (by omega)
  exact PSameLevels.vellumref12_SameLevels.calls k A c r B d r true w hA hc hB hd (by rw [PSameLevels.vellumref12_SameLevels.f, if_pos rfl]; exact h)
theorem lvFrom_mem (ns : List Nd) : ∀ (m i : Nat), ∀ K ∈ lvFrom ns m i, K.length ≤ ns.length
  | 0, _, K, h => by rw [lvFrom_zero] at h; simp at h
  | m + 1, i, K, h => by
    rw [lvFrom_succ] at h
    split at h
    · simp at h
    · rcases List.mem_cons.1 h with rfl | h
      · exact lvl_len i ns
      · exact lvFrom_mem ns m (i + 1) K h
end Go.Proofs.Ytnpjppnahfehnaa.Skip
/- Layer 12's law SkipPlays: a call of both. -/
namespace Go.Proofs.Ytnpjppnahfehnaa.Skip
set_option linter.unusedVariables false
set_option linter.unusedSimpArgs false
open Go.RowKit Go.Proofs.YtnpjppnahfehnaaW.PrintWords Go.Proofs.Ytnpjppnahfehnaa.Kit Go.MuLone

/-! Height answers. -/
theorem height_l1 (x : Int) : ∀ (d n : Nat), n + d = 64 → ∃ k r, PHeight.vellumref12_Height.l1 k x (n : Int) = some r
  | 0, n, h => ⟨1, _, by
      rw [PHeight.vellumref12_Height.l1, if_neg (by omega), show wrap64 (1 + wrap64 (Int.tdiv (n : Int) 2)) = 33 by rw [show n = 64 by omega]; decide +kernel, if_pos (by omega)]⟩
  | d + 1, n, h => by
    obtain ⟨k, r, hk⟩ := height_l1 x d (n + 1) (by omega)
    have hw : wrap64 ((n : Int) + 1) = ((n + 1 : Nat) : Int) := by unfold wrap64; omega
    have h0 : 0 ≤ IntKind.u64.wrap (n : Int) := by
      have : IntKind.u64.wrap (n : Int) = n := by rw [IntKind.wrap_u64]; omega
      omega
    by_cases hb : Go.bits .and .u64 (shr .u64 x (IntKind.u64.wrap (n : Int))) 1 = 0
    · exact ⟨k + 1, r, by rw [PHeight.vellumref12_Height.l1, if_pos (by omega), if_pos h0, if_pos hb, hw, hk]⟩
    · by_cases hg : wrap64 (1 + wrap64 (Int.tdiv (n : Int) 2)) > 16
      · exact ⟨1, 16, by rw [PHeight.vellumref12_Height.l1, if_pos (by omega), if_pos h0, if_neg hb, if_pos hg]⟩
      · exact ⟨1, _, by rw [PHeight.vellumref12_Height.l1, if_pos (by omega), if_pos h0, if_neg hb, if_neg hg]⟩
theorem height_l0 (key : ByteArray) (hs : key.size ≤ 140737488351232) : ∀ (d i : Nat) (x : Int), i + d = key.size → ∃ k r, PHeight.vellumref12_Height.l0 k key x (i : Int) = some r
  | 0, i, x, h => by
    obtain ⟨k, r, hk⟩ := height_l1 x 64 0 rfl
    exact ⟨k + 1, r, by rw [PHeight.vellumref12_Height.l0, if_neg (by omega)]; exact hk⟩
  | d + 1, i, x, h => by
    have hw : wrap64 ((i : Int) + 1) = ((i + 1 : Nat) : Int) := by unfold wrap64; omega
    obtain ⟨k, r, hk⟩ := height_l0 key hs d (i + 1) (IntKind.u64.wrap ((Go.bits .xor .u64 x (IntKind.u64.wrap (bt key i))) * 1099511628211)) (by omega)
    exact ⟨k + 1, r, by rw [PHeight.vellumref12_Height.l0, if_pos (by omega), if_pos (by omega), hw, hk]⟩
theorem heightCalls (key : ByteArray) (hs : key.size ≤ 140737488351232) : ∃ r : Int, ∀ w, Calls Try.prog 27 #[.string key] w fun e w' => e = .returned (.int .i64 r) ∧ Drawn0 w w' := by
  obtain ⟨k, r, h⟩ := height_l0 key hs key.size 0 14695981039346656037 (by omega)
  exact ⟨r, fun w => PHeight.vellumref12_Height.calls k key r w h⟩

/-! Put, by both -/
def putA (l : List En) (key : ByteArray) (ht : Int) : Int × Bool × Int := if (key.size : Int) ≤ 1025 then (if 1 ≤ ht ∧ ht ≤ 16 then (resV (getE l key), (getE l key).isSome, 0) else (0, false, 120)) else (0, false, 3)
def putN (l : List En) (key : ByteArray) (v ht : Int) : List En := if (key.size : Int) ≤ 1025 then (if 1 ≤ ht ∧ ht ≤ 16 then putE l key v ht else l) else l
theorem putN_len (l : List En) (key : ByteArray) (v ht : Int) : (putN l key v ht).length ≤ l.length + 1 := by
  unfold putN
  split
  · split
    · exact putE_len _ _ _ _
    · omega
  · omega
theorem putBoth (g : Nat) (hd : Nd) (ns : List Nd) (key : ByteArray) (v ht : Int) (w : World) (h : Sk w g 0 hd ns) (hlen : ns.length < 4611686018427387904) :
    Calls Try.prog 18 #[.pointer (some ⟨g, 0, none⟩), .string key, .int .i64 v, .int .i64 ht] w fun e w' => ∃ ns', e = .returned (.tuple #[.int .i64 (putA (ns.map en) key ht).1, .bool (putA (ns.map en) key ht).2.1, .int .i64 (putA (ns.map en) key ht).2.2]) ∧ ns'.map en = putN (ns.map en) key v ht ∧ Lv w w' g 0 hd ns ns' := by
  unfold putA putN
  by_cases hk : (key.size : Int) ≤ 1025
  · rw [if_pos hk, if_pos hk]
    by_cases hh : 1 ≤ ht ∧ ht ≤ 16
    · rw [if_pos hh, if_pos hh]
      exact putAll g hd ns key v ht w h hk hh.1 hh.2 hlen
    · rw [if_neg hh, if_neg hh]
      exact (putHeight g hd ns key v ht w h hk (by omega)).mono fun e w' ⟨he, hw⟩ => ⟨ns, he, rfl, hw ▸ Lv.same h (Below.refl _ _)⟩
  · rw [if_neg hk, if_neg hk]
    exact (putLong g hd ns key v ht w h (by omega)).mono fun e w' ⟨he, hw⟩ => ⟨ns, he, rfl, hw ▸ Lv.same h (Below.refl _ _)⟩

set_option maxRecDepth 100000 in
set_option maxHeartbeats 4000000 in
theorem refPutLong (V : Value) (key : ByteArray) (v ht : Int) (w : World) (hk : (1025 : Int) < key.size) :
    Calls Try.prog 28 #[V, .string key, .int .i64 v, .int .i64 ht] w fun e w' => e = .returned (.tuple #[V, .int .i64 0, .bool false, .int .i64 3]) ∧ w = w' := by
  go_enter Try.func28, Try.ntmps28
  go_wp2
  exact bodyPost_ret (v := .tuple #[V, .int .i64 0, .bool false, .int .i64 3]) (by simp [results, Try.results28, go_sem]) rfl ⟨rfl, rfl⟩
set_option maxRecDepth 100000 in
set_option maxHeartbeats 4000000 in
theorem refPutHeight (V : Value) (key : ByteArray) (v ht : Int) (w : World) (hk : (key.size : Int) ≤ 1025) (hh : ht < 1 ∨ 16 < ht) :
    Calls Try.prog 28 #[V, .string key, .int .i64 v, .int .i64 ht] w fun e w' => e = .returned (.tuple #[V, .int .i64 0, .bool false, .int .i64 120]) ∧ w = w' := by
  have j1 : ¬ (1025 : Int) < (key.size : Int) := by omega
  by_cases h1 : ht < 1
  · have d1 : decide (ht < 1) = true := decide_eq_true h1
    clear hh hk
    go_enter Try.func28, Try.ntmps28
    go_wp2
    exact bodyPost_ret (v := .tuple #[V, .int .i64 0, .bool false, .int .i64 120]) (by simp [results, Try.results28, go_sem]) rfl ⟨rfl, rfl⟩
  · have h2 : 16 < ht := by omega
    have d1 : decide (ht < 1) = false := decide_eq_false h1
    have d2 : decide (16 < ht) = true := decide_eq_true h2
    clear hh hk
    go_enter Try.func28, Try.ntmps28
    go_wp2
    exact bodyPost_ret (v := .tuple #[V, .int .i64 0, .bool false, .int .i64 120]) (by simp [results, Try.results28, go_sem]) rfl ⟨rfl, rfl⟩
theorem miss_en {hi : List Nd} {key : ByteArray} (h : Miss hi key) : ∀ z t, hi.map en = z :: t → z.k ≠ key := by
  intro z t e
  cases hi with
  | nil => cases e
  | cons y u =>
    rw [List.map_cons] at e
    injection e with e1 e2
    subst e1
    exact h y u rfl
theorem en_hi {hi : List Nd} {key : ByteArray} (h : ∀ x ∈ hi, ltB x.k key = false) : ∀ x ∈ hi.map en, ltB x.k key = false := by
  intro x hx
  obtain ⟨y, hy, rfl⟩ := List.mem_map.1 hx
  exact h y hy
theorem putE_hit {lo t : List En} {z : En} {key : ByteArray} {v ht : Int} (hlo : ∀ x ∈ lo, ltB x.k key = true) (hm : z.k = key) : putE (lo ++ z :: t) key v ht = lo ++ ⟨key, v, z.h⟩ :: t := by
  rw [putE_lo _ _ _ _ _ hlo, putE, if_neg (by rw [hm, lt_irrefl]; simp), if_pos hm, hm]
theorem putE_miss {lo hi : List En} {key : ByteArray} {v ht : Int} (hlo : ∀ x ∈ lo, ltB x.k key = true) (hhi : ∀ x ∈ hi, ltB x.k key = false) (hm : ∀ z t, hi = z :: t → z.k ≠ key) : putE (lo ++ hi) key v ht = lo ++ ⟨key, v, ht⟩ :: hi := by
  rw [putE_lo _ _ _ _ _ hlo]
  congr 1
  cases hi with
  | nil => rfl
  | cons z t => rw [putE, if_neg (by rw [hhi z List.mem_cons_self]; simp), if_neg (hm z t rfl)]
theorem refPutBoth (A : Option Addr) (c base : Nat) (ns : List Nd) (hs : Sorted ns) (key : ByteArray) (v ht : Int) (w : World) (hR : MR w base (.slice A (ns.map en).length c) (ns.map en)) (hB : base ≤ w.heap.size) (hlen : ns.length ≤ 3518437208780) :
    Calls Try.prog 28 #[.slice A (ns.map en).length c, .string key, .int .i64 v, .int .i64 ht] w fun e w' => ∃ r, e = .returned (.tuple #[r, .int .i64 (putA (ns.map en) key ht).1, .bool (putA (ns.map en) key ht).2.1, .int .i64 (putA (ns.map en) key ht).2.2]) ∧ MR w' base r (putN (ns.map en) key v ht) ∧ Below w.heap.size w w' := by
  unfold putA putN
  by_cases hk : (key.size : Int) ≤ 1025
  · rw [if_pos hk, if_pos hk]
    by_cases hh : 1 ≤ ht ∧ ht ≤ 16
    · rw [if_pos hh, if_pos hh]
      obtain ⟨_, hc, hC⟩ := Kd.R_reads' hR
      obtain ⟨lo, hi, rfl, hlo, hhi⟩ := parts key ns hs
      have hs2 : Sorted hi := by unfold Sorted at hs; rw [List.pairwise_append] at hs; exact hs.2.1
      rcases hit_or_miss hi key with ⟨z, t, rfl, hm⟩ | hm
      · rw [getE_hit hlo hm]
        simp only [List.map_append, List.map_cons] at hC hc ⊢
        rw [putE_hit (en_lo hlo) (show (en z).k = key from hm)]
        exact (refPutHit A c (lo.map en) (t.map en) (en z) key v ht w hC (en_lo hlo) (by have := en_hi hhi; simpa using this) (by simp at hlen ⊢; omega) hc hm hk hh.1 hh.2).mono fun e w' ⟨r, he, hr, hb⟩ => ⟨r, he, Kd.R_lower hr hB, hb⟩
      · rw [getE_miss hs2 hlo hhi hm]
        simp only [List.map_append] at hC hc ⊢
        rw [putE_miss (en_lo hlo) (en_hi hhi) (miss_en hm)]
        exact (refPutMiss A c (lo.map en) (hi.map en) key v ht w hC (en_lo hlo) (en_hi hhi) (by simp at hlen ⊢; omega) hc (miss_en hm) hk hh.1 hh.2).mono fun e w' ⟨r, he, hr, hb⟩ => ⟨r, he, Kd.R_lower hr hB, hb⟩
    · rw [if_neg hh, if_neg hh]
      exact (refPutHeight _ key v ht w hk (by omega)).mono fun e w' ⟨he, hw⟩ => ⟨_, he, hw ▸ hR, hw ▸ Below.refl _ _⟩
  · rw [if_neg hk, if_neg hk]
    exact (refPutLong _ key v ht w (by omega)).mono fun e w' ⟨he, hw⟩ => ⟨_, he, hw ▸ hR, hw ▸ Below.refl _ _⟩

/-! Delete, Get -/
set_option maxRecDepth 100000 in
set_option maxHeartbeats 4000000 in
theorem refDelMiss (A : Option Addr) (c : Nat) (lo hi : List En) (key : ByteArray) (w : World) (hC : kE.C w A (lo ++ hi).length (lo ++ hi)) (hlo : ∀ x ∈ lo, ltB x.k key = true) (hhi : ∀ x ∈ hi, ltB x.k key = false) (hlen : (lo ++ hi).length ≤ 3518437208780) (hm : ∀ z t, hi = z :: t → z.k ≠ key) :
    Calls Try.prog 29 #[.slice A (lo ++ hi).length c, .string key] w fun e w' => e = .returned (.tuple #[.slice A (lo ++ hi).length c, .int .i64 0, .bool false]) ∧ w = w' := by
  have HG := Aside0.mk (refGetMiss A c lo hi key w hC hlo hhi hlen hm)
  generalize (lo ++ hi).length = n at *
  clear hC hlo hhi hlen hm
  go_enter Try.func29, Try.ntmps29
  go_wp2_with fail
  refine HG.out.mono ?_
  rintro e w' ⟨rfl, rfl⟩
  go_wp2
  exact bodyPost_ret (v := .tuple #[.slice A n c, .int .i64 0, .bool false]) (by simp [results, Try.results29, go_sem]) rfl ⟨rfl, rfl⟩
theorem delE_hitE {lo t : List Nd} {z : Nd} {key : ByteArray} (hs : Sorted (z :: t)) (hlo : ∀ x ∈ lo, ltB x.k key = true) (hm : z.k = key) : delE (lo.map en ++ en z :: t.map en) key = lo.map en ++ t.map en := by
  have := delE_hit hs hlo hm
  rw [List.map_append, List.map_append, List.map_cons] at this
  exact this.symm
theorem refDelBoth (A : Option Addr) (c base : Nat) (ns : List Nd) (hs : Sorted ns) (key : ByteArray) (w : World) (hR : MR w base (.slice A (ns.map en).length c) (ns.map en)) (hB : base ≤ w.heap.size) (hlen : ns.length ≤ 3518437208780) :
    Calls Try.prog 29 #[.slice A (ns.map en).length c, .string key] w fun e w' => ∃ r, e = .returned (.tuple #[r, .int .i64 (resV (getE (ns.map en) key)), .bool (getE (ns.map en) key).isSome]) ∧ MR w' base r (delE (ns.map en) key) ∧ Below w.heap.size w w' := by
  obtain ⟨_, hc, hC⟩ := Kd.R_reads' hR
  obtain ⟨lo, hi, rfl, hlo, hhi⟩ := parts key ns hs
  have hs2 : Sorted hi := by unfold Sorted at hs; rw [List.pairwise_append] at hs; exact hs.2.1
  rcases hit_or_miss hi key with ⟨z, t, rfl, hm⟩ | hm
  · rw [getE_hit hlo hm]
    simp only [List.map_append, List.map_cons] at hC hc ⊢
    rw [delE_hitE hs2 hlo hm]
    exact (refDelHit A c (lo.map en) (t.map en) (en z) key w hC (en_lo hlo) (by have := en_hi hhi; simpa using this) (by simp at hlen ⊢; omega) hc hm).mono fun e w' ⟨r, he, hr, hb⟩ => ⟨r, he, Kd.R_lower hr hB, hb⟩
  · have hg := getE_miss hs2 hlo hhi hm
    rw [hg, delE_miss hg]
    simp only [List.map_append] at hC hc hR ⊢
    exact (refDelMiss A c (lo.map en) (hi.map en) key w hC (en_lo hlo) (en_hi hhi) (by simp at hlen ⊢; omega) (miss_en hm)).mono fun e w' ⟨he, hw⟩ => ⟨_, he, hw ▸ hR, hw ▸ Below.refl _ _⟩
theorem refGetBoth (A : Option Addr) (c : Nat) (ns : List Nd) (hs : Sorted ns) (key : ByteArray) (w : World) (hC : kE.C w A (ns.map en).length (ns.map en)) (hlen : ns.length ≤ 3518437208780) :
    Calls Try.prog 30 #[.slice A (ns.map en).length c, .string key] w fun e w' => e = .returned (.tuple #[.int .i64 (resV (getE (ns.map en) key)), .bool (getE (ns.map en) key).isSome]) ∧ w = w' := by
  obtain ⟨lo, hi, rfl, hlo, hhi⟩ := parts key ns hs
  have hs2 : Sorted hi := by unfold Sorted at hs; rw [List.pairwise_append] at hs; exact hs.2.1
  rcases hit_or_miss hi key with ⟨z, t, rfl, hm⟩ | hm
  · rw [getE_hit hlo hm]
    simp only [List.map_append, List.map_cons] at hC ⊢
    exact refGetHit A c (lo.map en) (t.map en) (en z) key w hC (en_lo hlo) (by have := en_hi hhi; simpa using this) (by simp at hlen ⊢; omega) hm
  · rw [getE_miss hs2 hlo hhi hm]
    simp only [List.map_append] at hC ⊢
    exact refGetMiss A c (lo.map en) (hi.map en) key w hC (en_lo hlo) (en_hi hhi) (by simp at hlen ⊢; omega) (miss_en hm)
theorem refSeekBoth (g : Nat) (hd : Nd) (A : Option Addr) (c : Nat) (ns : List Nd) (key : ByteArray) (back : Bool) (w : World) (h : Sk w g 0 hd ns) (hC : kE.C w A (ns.map en).length (ns.map en)) (hlen : ns.length ≤ 3518437208780) :
    Calls Try.prog 31 #[.slice A (ns.map en).length c, .string key, .bool back] w fun e w' => e = .returned (seekW (seekE (ns.map en) key back)) ∧ Below w.heap.size w w' := by
  obtain ⟨lo, hi, rfl, hlo, hhi⟩ := parts key ns h.srt
  rw [← seekO_E h key hlo hhi back, seekO_ER]
  simp only [List.map_append] at hC ⊢
  exact refSeekCalls A c (lo.map en) (hi.map en) key back w hC (en_lo hlo) (en_hi hhi) (by simp at hlen ⊢; omega)

/-- A row stays, where blocks of the list's are written. -/
theorem R_list {w w' : World} {g : Nat} {st : Int} {hd : Nd} {ns : List Nd} {base : Nat} {v : Value} {l : List En} (h : Sk w g st hd ns) (ho : Only (Fp g hd ns) w w') (hR : MR w base v l) : MR w' base v l := by
  have h1 := Kd.R_bound hR
  have h2 : kE.R TE w base (fun k => k < w.heap.size ∧ ¬ Fp g hd ns k) v l := Kd.R_mono h1 (fun k hk => ⟨hk.2.2.1, fun hf => by
    obtain ⟨q, hq, cells, hc⟩ := hk.2.2.2
    obtain ⟨cs, t, hb, ht⟩ := h.typed hf
    have := hb.out.symm.trans hc
    injection this with this
    injection this with _ ht'
    have he : q = TE := by
      rcases List.mem_cons.1 hq with h | h
      · exact h
      · exact absurd h (List.not_mem_nil)
    rw [ht', he] at ht
    revert ht
    decide⟩)
  exact Kd.R_mono (Kd.R_step h2 (fun k hk hl => ho.block k hl hk.2)) (fun _ _ => trivial)


set_option maxRecDepth 100000 in
set_option maxHeartbeats 8000000 in
theorem playCalls (g : Nat) (hd : Nd) (ns : List Nd) (A : Option Addr) (c : Nat) (o : Op) (w0 w : World) (base : Nat) (hA : Ol w0 w g hd ns) (hR : MR w base (.slice A (ns.map en).length c) (ns.map en)) (hB : base ≤ w.heap.size) (hlen : ns.length ≤ 3518437208780) (hks : o.op.key.size ≤ 140737488351232) :
    Calls Try.prog 14 #[.pointer (some ⟨g, 0, none⟩), .slice A (ns.map en).length c, .agg #[.int .i64 o.op.kind, .string o.op.key, .int .i64 o.op.value, .int .i64 o.height]] w fun e w' => ∃ (ns' : List Nd) (v : Value), e = .returned (.tuple #[v, .bool true]) ∧ ns'.length ≤ ns.length + 1 ∧ Ol w0 w' g hd ns' ∧ MR w' base v (ns'.map en) := by
  obtain ⟨⟨kind, key, val⟩, ht⟩ := o
  simp only at hks ⊢
  obtain ⟨W, hW⟩ : ∃ W, W = w.alloc (.cells #[.int .i64 kind, .string key, .int .i64 val, .int .i64 ht] TOp) := ⟨_, rfl⟩
  have hb : Below w.heap.size w W := by rw [hW]; exact (Below.refl _ _).alloc (Nat.le_refl _) _
  have HX : Aside0 (Blk W w.heap.size [.int .i64 kind, .string key, .int .i64 val, .int .i64 ht] TOp) := ⟨by rw [hW]; exact Blk.newA w _ _⟩
  have HA := Aside0.mk (hA.belowed hb)
  have HR := Aside0.mk (Kd.R_below hR hb)
  have HB := Aside0.mk (Nat.le_trans hB hb.size)
  have HLn := Aside0.mk hlen
  obtain ⟨n, hn⟩ : ∃ n, n = (ns.map en).length := ⟨_, rfl⟩
  rw [← hn] at HR ⊢
  have HN := Aside0.mk hn
  have HH := Aside0.mk (heightCalls key hks)
  clear hA hb hR hB hlen hn hks
  have x0 := HX.out.cell 0 _ rfl
  have x1 := HX.out.cell 1 _ rfl
  have x2 := HX.out.cell 2 _ rfl
  have x3 := HX.out.cell 3 _ rfl
  by_cases hk : kind = 1 ∨ kind = 2
  · -- a put: whatever the height
    have HPut : Aside0 (∀ (h : Int) (V : World), Drawn0 W V → Calls Try.prog 18 #[.pointer (some ⟨g, 0, none⟩), .string key, .int .i64 val, .int .i64 h] V fun e w' => ∃ ns', e = .returned (.tuple #[.int .i64 (putA (ns.map en) key h).1, .bool (putA (ns.map en) key h).2.1, .int .i64 (putA (ns.map en) key h).2.2]) ∧ ns'.map en = putN (ns.map en) key val h ∧ ns'.length ≤ ns.length + 1 ∧ Ol w0 w' g hd ns' ∧ MR w' base (.slice A n c) (ns.map en) ∧ W.heap.size ≤ w'.heap.size ∧ Blk w' w.heap.size [.int .i64 kind, .string key, .int .i64 val, .int .i64 ht] TOp) := ⟨fun h V hV => by
      have hAV := HA.out.belowed hV.below
      refine (putBoth g hd ns key val h V hAV.sk (by have := HLn.out; omega)).mono fun e w' ⟨ns', he, hq, hl⟩ => ⟨ns', he, hq, ?_, hAV.turned hl, R_list hAV.sk hl.only (Kd.R_below HR.out hV.below), Nat.le_trans hV.below.size hl.only.size, ?_⟩
      · have := putN_len (ns.map en) key val h
        rw [← hq, List.length_map, List.length_map] at this
        exact this
      · exact hl.only.blk (HX.out.belowSize hV.below) (fun hf => by
          obtain ⟨cs, t, hb, ht⟩ := hAV.sk.typed hf
          have := Blk.uniq hb (HX.out.belowSize hV.below)
          rw [this] at ht
          revert ht
          decide)⟩
    have HRef : Aside0 (∀ (h : Int) (V : World), MR V base (.slice A n c) (ns.map en) → W.heap.size ≤ V.heap.size → Calls Try.prog 28 #[.slice A n c, .string key, .int .i64 val, .int .i64 h] V fun e w' => ∃ r, e = .returned (.tuple #[r, .int .i64 (putA (ns.map en) key h).1, .bool (putA (ns.map en) key h).2.1, .int .i64 (putA (ns.map en) key h).2.2]) ∧ MR w' base r (putN (ns.map en) key val h) ∧ Below V.heap.size V w') := ⟨fun h V hR hs => by
      have := HN.out
      subst this
      exact refPutBoth A c base ns HA.out.sk.srt key val h V hR (Nat.le_trans HB.out hs) HLn.out⟩
    rcases hk with rfl | rfl
    · clear HH
      go_enter Try.func14, Try.ntmps14
      go_wp2_with fail
      rw [← hW]
      clear hW
      go_wp2_with fail
      refine (HPut.out ht W (Drawn0.refl W)).mono ?_
      rintro e w5 ⟨ns', rfl, hq, hlen5, ha5, hr5, hs5, hx5⟩
      have HQ := Aside0.mk hq
      have HL5 := Aside0.mk hlen5
      have HA5 := Aside0.mk ha5
      have HX5 := Aside0.mk hx5
      have HRf := Aside0.mk (HRef.out ht w5 hr5 hs5)
      clear hq hlen5 ha5 hr5 hs5 hx5 HPut HRef x0 x1 x2 x3
      have y2 := HX5.out.cell 2 _ rfl
      generalize putA (ns.map en) key ht = pa at *
      generalize putN (ns.map en) key val ht = pn at *
      go_wp2_with fail
      refine HRf.out.mono ?_
      rintro e w6 ⟨r, rfl, hr6, hb6⟩
      have HA6 := Aside0.mk (HA5.out.belowed hb6)
      have HR6 : Aside0 (MR w6 base r (ns'.map en)) := ⟨by rw [HQ.out]; exact hr6⟩
      clear hr6 hb6 y2 HRf HA5 HX5
      go_wp2
      exact bodyPost_ret (v := .tuple #[r, .bool true]) (by simp [results, Try.results14, go_sem]) rfl ⟨ns', r, rfl, HL5.out, HA6.out, HR6.out⟩
    · obtain ⟨h, hh⟩ := HH.out
      have HHc := Aside0.mk (hh W)
      clear HH hh
      go_enter Try.func14, Try.ntmps14
      go_wp2_with fail
      rw [← hW]
      clear hW
      go_wp2_with fail
      refine HHc.out.mono ?_
      rintro e V ⟨rfl, hV⟩
      have HP := Aside0.mk (HPut.out h V hV)
      obtain ⟨nq, rfl⟩ := hV.out
      clear HHc hV
      go_wp2_with fail
      refine HP.out.mono ?_
      clear HP
      rintro e w5 ⟨ns', rfl, hq, hlen5, ha5, hr5, hs5, hx5⟩
      have HQ := Aside0.mk hq
      have HL5 := Aside0.mk hlen5
      have HA5 := Aside0.mk ha5
      have HX5 := Aside0.mk hx5
      have HRf := Aside0.mk (HRef.out h w5 hr5 hs5)
      clear hq hlen5 ha5 hr5 hs5 hx5 HPut HRef x0 x1 x2 x3
      have y2 := HX5.out.cell 2 _ rfl
      generalize putA (ns.map en) key h = pa at *
      generalize putN (ns.map en) key val h = pn at *
      go_wp2_with fail
      refine HRf.out.mono ?_
      rintro e w6 ⟨r, rfl, hr6, hb6⟩
      have HA6 := Aside0.mk (HA5.out.belowed hb6)
      have HR6 : Aside0 (MR w6 base r (ns'.map en)) := ⟨by rw [HQ.out]; exact hr6⟩
      clear hr6 hb6 y2 HRf HA5 HX5
      go_wp2
      exact bodyPost_ret (v := .tuple #[r, .bool true]) (by simp [results, Try.results14, go_sem]) rfl ⟨ns', r, rfl, HL5.out, HA6.out, HR6.out⟩
  · have b1 : (kind == 1) = false := by rw [beq_eq_false_iff_ne]; exact fun e => hk (Or.inl e)
    have b2 : (kind == 2) = false := by rw [beq_eq_false_iff_ne]; exact fun e => hk (Or.inr e)
    clear hk HH
    by_cases hk3 : kind = 3
    · subst hk3
      clear b1 b2
      have HDl := Aside0.mk (deleteAll g hd ns key W HA.out.sk (by have := HLn.out; omega))
      go_enter Try.func14, Try.ntmps14
      go_wp2_with fail
      rw [← hW]
      clear hW
      go_wp2_with fail
      refine HDl.out.mono ?_
      rintro e w5 ⟨ns', rfl, hq, hl⟩
      have HQ := Aside0.mk hq
      have HA5 := Aside0.mk (HA.out.turned hl)
      have HL5 : Aside0 (ns'.length ≤ ns.length + 1) := ⟨by
        have := delE_len (ns.map en) key
        rw [← hq, List.length_map, List.length_map] at this
        omega⟩
      have HRf : Aside0 (Calls Try.prog 29 #[.slice A n c, .string key] w5 fun e w' => ∃ r, e = .returned (.tuple #[r, .int .i64 (resV (getE (ns.map en) key)), .bool (getE (ns.map en) key).isSome]) ∧ MR w' base r (delE (ns.map en) key) ∧ Below w5.heap.size w5 w') := ⟨by
        have hR5 := R_list HA.out.sk hl.only HR.out
        have := HN.out
        subst this
        exact refDelBoth A c base ns HA.out.sk.srt key w5 hR5 (Nat.le_trans HB.out hl.only.size) HLn.out⟩
      clear hq hl HDl x0 x1 x2 x3
      generalize resV (getE (ns.map en) key) = ra at *
      generalize (getE (ns.map en) key).isSome = rb at *
      generalize delE (ns.map en) key = pn at *
      go_wp2_with fail
      refine HRf.out.mono ?_
      rintro e w6 ⟨r, rfl, hr6, hb6⟩
      have HA6 := Aside0.mk (HA5.out.belowed hb6)
      have HR6 : Aside0 (MR w6 base r (ns'.map en)) := ⟨by rw [HQ.out]; exact hr6⟩
      clear hr6 hb6 HRf HA5
      go_wp2
      exact bodyPost_ret (v := .tuple #[r, .bool true]) (by simp [results, Try.results14, go_sem]) rfl ⟨ns', r, rfl, HL5.out, HA6.out, HR6.out⟩
    · have b3 : (kind == 3) = false := by rw [beq_eq_false_iff_ne]; exact hk3
      clear hk3
      have HGl := Aside0.mk (getAll g hd ns key W HA.out.sk)
      go_enter Try.func14, Try.ntmps14
      go_wp2_with fail
      rw [← hW]
      clear hW
      go_wp2_with fail
      refine HGl.out.mono ?_
      rintro e w5 ⟨rfl, hb5⟩
      have HA5 := Aside0.mk (HA.out.belowed hb5)
      have HR5 := Aside0.mk (Kd.R_below HR.out hb5)
      have HRf : Aside0 (Calls Try.prog 30 #[.slice A n c, .string key] w5 fun e w' => e = .returned (.tuple #[.int .i64 (resV (getE (ns.map en) key)), .bool (getE (ns.map en) key).isSome]) ∧ w5 = w') := ⟨by
        have hC5 := (Kd.R_reads' HR5.out).2.2
        have := HN.out
        subst this
        exact refGetBoth A c ns HA.out.sk.srt key w5 hC5 HLn.out⟩
      clear hb5 HGl x0 x1 x2 x3
      generalize resV (getE (ns.map en) key) = ra at *
      generalize (getE (ns.map en) key).isSome = rb at *
      go_wp2_with fail
      refine HRf.out.mono ?_
      rintro e w6 ⟨rfl, rfl⟩
      clear HRf
      go_wp2
      exact bodyPost_ret (v := .tuple #[.slice A n c, .bool true]) (by simp [results, Try.results14, go_sem]) rfl ⟨ns, _, rfl, Nat.le_succ _, HA5.out, HR5.out⟩
end Go.Proofs.Ytnpjppnahfehnaa.Skip
/- Layer 12's law SkipPlays: what is asked of both. -/
namespace Go.Proofs.Ytnpjppnahfehnaa.Skip
set_option linter.unusedVariables false
set_option linter.unusedSimpArgs false
open Go.RowKit Go.Proofs.YtnpjppnahfehnaaW.PrintWords Go.Proofs.Ytnpjppnahfehnaa.Kit Go.MuLone
attribute [local go_sem high] PSame.eqA33

theorem seekW_form (o : Option En) : ∃ (k : ByteArray) (v h : Int) (b : Bool), seekW o = .tuple #[.agg #[.string k, .int .i64 v, .int .i64 h], .bool b] := by
  cases o with
  | none => exact ⟨_, _, _, _, rfl⟩
  | some x => exact ⟨_, _, _, _, rfl⟩

set_option maxRecDepth 100000 in
set_option maxHeartbeats 8000000 in
theorem askedCalls (g : Nat) (hd : Nd) (ns : List Nd) (A : Option Addr) (c : Nat) (xk rlo rhi : ByteArray) (opn bk : Bool) (most : Int) (w0 w : World) (base : Nat) (hA : Ol w0 w g hd ns) (hR : MR w base (.slice A (ns.map en).length c) (ns.map en)) (hlen : ns.length ≤ 3518437208780) :
    Calls Try.prog 15 #[.pointer (some ⟨g, 0, none⟩), .slice A (ns.map en).length c, .agg #[.string xk, .string rlo, .string rhi, .bool opn, .bool bk, .int .i64 most]] w fun e w' => e = .returned (.bool true) ∧ Below w.heap.size w w' := by
  have hz := zeroE
  obtain ⟨W, hW⟩ : ∃ W, W = w.alloc (.cells #[.string xk, .string rlo, .string rhi, .bool opn, .bool bk, .int .i64 most] TLook) := ⟨_, rfl⟩
  have hb : Below w.heap.size w W := by rw [hW]; exact (Below.refl _ _).alloc (Nat.le_refl _) _
  have HX : Aside0 (Blk W w.heap.size [.string xk, .string rlo, .string rhi, .bool opn, .bool bk, .int .i64 most] TLook) := ⟨by rw [hW]; exact Blk.newA w _ _⟩
  have HA := Aside0.mk (hA.belowed hb).sk
  have HC := Aside0.mk (Kd.R_reads' (Kd.R_below hR hb)).2.2
  have HB := Aside0.mk hb
  have HLn := Aside0.mk hlen
  have hcap := (Kd.R_reads' hR).2.1
  obtain ⟨n, hn⟩ : ∃ n, n = (ns.map en).length := ⟨_, rfl⟩
  have HSk1 := Aside0.mk (seekAll g hd ns xk bk W HA.out)
  have HSk2 : Aside0 (∀ V, Below W.heap.size W V → Calls Try.prog 31 #[.slice A n c, .string xk, .bool bk] V fun e w' => e = .returned (seekW (seekE (ns.map en) xk bk)) ∧ Below V.heap.size V w') := ⟨fun V h => by
    rw [hn]
    exact refSeekBoth g hd A c ns xk bk V (HA.out.below h) (Kd.C_below HC.out h) HLn.out⟩
  have HSc1 : Aside0 (∀ V, Below W.heap.size W V → Calls Try.prog 8 #[.pointer (some ⟨g, 0, none⟩), .agg #[.string rlo, .string rhi, .bool opn], .bool bk, .int .i64 most] V fun e w' => ∃ v, e = .returned v ∧ MR w' V.heap.size v (pick (ns.map en) rlo rhi opn bk most) ∧ Below V.heap.size V w') := ⟨fun V h => scanCalls g hd ns rlo rhi opn bk most V (HA.out.below h) HLn.out⟩
  have HSc2 : Aside0 (∀ V, Below W.heap.size W V → Calls Try.prog 33 #[.slice A n c, .agg #[.string rlo, .string rhi, .bool opn], .bool bk, .int .i64 most] V fun e w' => ∃ v, e = .returned v ∧ MR w' V.heap.size v (pick (ns.map en) rlo rhi opn bk most) ∧ Below V.heap.size V w') := ⟨fun V h => by
    rw [hn]
    exact refScanCalls A c (ns.map en) rlo rhi opn bk most V (Kd.C_below HC.out h) (by rw [List.length_map]; exact HLn.out)⟩
  have HPl : Aside0 ((pick (ns.map en) rlo rhi opn bk most).length ≤ 3518437208780) := ⟨by
    have h1 := HLn.out
    have h2 : (pick (ns.map en) rlo rhi opn bk most).length ≤ (ns.map en).length := by
      unfold pick
      rw [List.length_take]
      refine Nat.le_trans (Nat.min_le_right _ _) ?_
      cases bk
      · exact List.length_filter_le _ _
      · simp only [cond_true, List.length_reverse]; exact List.length_filter_le _ _
    rw [List.length_map] at h2
    omega⟩
  obtain ⟨sk, sv, sh, sb, hsw⟩ := seekW_form (seekE (ns.map en) xk bk)
  rw [hsw] at HSk1 HSk2
  rw [← hn]
  generalize pick (ns.map en) rlo rhi opn bk most = P at *
  have HSm : Aside0 (∀ V vA vB bA bB, MR V bA vA P → MR V bB vB P → Calls Try.prog 32 #[vA, vB] V fun e w' => e = .returned (.bool true) ∧ Drawn0 V w') := ⟨fun V vA vB bA bB h1 h2 => by
    obtain ⟨A1, c1, rfl⟩ := Kd.R_slice h1
    obtain ⟨A2, c2, rfl⟩ := Kd.R_slice h2
    exact sameCalls A1 A2 c1 c2 P V (Kd.R_reads' h1).2.2 (Kd.R_reads' h2).2.2 (Kd.R_reads' h1).2.1 (Kd.R_reads' h2).2.1 HPl.out⟩
  clear hA hb hR hlen hn hcap hsw HC
  have x0 := HX.out.cell 0 _ rfl
  have x4 := HX.out.cell 4 _ rfl
  go_enter Try.func15, Try.ntmps15
  go_wp2_with fail
  rw [← hW]
  clear hW
  go_wp2_with fail
  refine HSk1.out.mono ?_
  rintro e w5 ⟨rfl, hb5⟩
  have HX5 := Aside0.mk (HX.out.belowSize hb5)
  have HB5 := Aside0.mk hb5
  clear hb5 HSk1 x0 x4
  go_upto_region 2 with (fail)
  have hb6 : Below w5.heap.size w5 (w5.alloc (.cells #[.string sk, .int .i64 sv, .int .i64 sh] TE)) := (Below.refl _ _).alloc (Nat.le_refl _) _
  have HE6 : Aside0 (Blk (w5.alloc (.cells #[.string sk, .int .i64 sv, .int .i64 sh] TE)) w5.heap.size [.string sk, .int .i64 sv, .int .i64 sh] TE) := ⟨Blk.newA w5 _ _⟩
  generalize w5.alloc (.cells #[.string sk, .int .i64 sv, .int .i64 sh] TE) = w6 at *
  have HX6 := Aside0.mk (HX5.out.belowSize hb6)
  have HB6 := Aside0.mk (HB5.out.trans (hb6.mono HB5.out.size))
  have HS2 := Aside0.mk (HSk2.out w6 HB6.out)
  clear hb6 HX5 HB5 HSk2
  have x0 := HX6.out.cell 0 _ rfl
  have x4 := HX6.out.cell 4 _ rfl
  go_wp2_with fail
  refine HS2.out.mono ?_
  rintro e w7 ⟨rfl, hb7⟩
  have HX7 := Aside0.mk (HX6.out.belowSize hb7)
  have HE7 := Aside0.mk (HE6.out.belowSize hb7)
  have HB7 := Aside0.mk (HB6.out.trans (hb7.mono HB6.out.size))
  clear hb7 HS2 x0 x4 HX6 HE6 HB6
  go_upto_region 3 with (fail)
  have hb8 : Below w7.heap.size w7 (w7.alloc (.cells #[.string sk, .int .i64 sv, .int .i64 sh] TE)) := (Below.refl _ _).alloc (Nat.le_refl _) _
  have HF8 : Aside0 (Blk (w7.alloc (.cells #[.string sk, .int .i64 sv, .int .i64 sh] TE)) w7.heap.size [.string sk, .int .i64 sv, .int .i64 sh] TE) := ⟨Blk.newA w7 _ _⟩
  generalize w7.alloc (.cells #[.string sk, .int .i64 sv, .int .i64 sh] TE) = V at *
  have HX8 := Aside0.mk (HX7.out.belowSize hb8)
  have HE8 := Aside0.mk (HE7.out.belowSize hb8)
  have HB8 := Aside0.mk (HB7.out.trans (hb8.mono HB7.out.size))
  clear hb8 HX7 HE7 HB7
  generalize w7.heap.size = p9 at *
  generalize w5.heap.size = p7 at *
  have HK : Aside0 (∀ w', Below V.heap.size V w' → Below V.heap.size V w' ∧ w'.cell? ⟨p7, 0, none⟩ = some (.string sk) ∧ w'.cell? ⟨p7, 1, none⟩ = some (.int .i64 sv) ∧ w'.cell? ⟨p7, 2, none⟩ = some (.int .i64 sh) ∧ w'.cell? ⟨p9, 0, none⟩ = some (.string sk) ∧ w'.cell? ⟨p9, 1, none⟩ = some (.int .i64 sv) ∧ w'.cell? ⟨p9, 2, none⟩ = some (.int .i64 sh) ∧ w'.cell? ⟨w.heap.size, 1, none⟩ = some (.string rlo) ∧ w'.cell? ⟨w.heap.size, 2, none⟩ = some (.string rhi) ∧ w'.cell? ⟨w.heap.size, 3, none⟩ = some (.bool opn) ∧ w'.cell? ⟨w.heap.size, 4, none⟩ = some (.bool bk) ∧ w'.cell? ⟨w.heap.size, 5, none⟩ = some (.int .i64 most)) := ⟨fun w' h => ⟨h, (HE8.out.belowSize h).cell 0 _ rfl, (HE8.out.belowSize h).cell 1 _ rfl, (HE8.out.belowSize h).cell 2 _ rfl, (HF8.out.belowSize h).cell 0 _ rfl, (HF8.out.belowSize h).cell 1 _ rfl, (HF8.out.belowSize h).cell 2 _ rfl, (HX8.out.belowSize h).cell 1 _ rfl, (HX8.out.belowSize h).cell 2 _ rfl, (HX8.out.belowSize h).cell 3 _ rfl, (HX8.out.belowSize h).cell 4 _ rfl, (HX8.out.belowSize h).cell 5 _ rfl⟩⟩
  have hv0 : Below V.heap.size V V := Below.refl _ _
  have HSc1V : Aside0 (∀ V', Below V.heap.size V V' → _) := ⟨fun V' h => HSc1.out V' (HB8.out.trans (h.mono HB8.out.size))⟩
  have HSc2V : Aside0 (∀ V', Below V.heap.size V V' → _) := ⟨fun V' h => HSc2.out V' (HB8.out.trans (h.mono HB8.out.size))⟩
  clear HSc1 HSc2
  go_region_held3 (fun w' => Below V.heap.size V w' ∧ w'.cell? ⟨p7, 0, none⟩ = some (.string sk) ∧ w'.cell? ⟨p7, 1, none⟩ = some (.int .i64 sv) ∧ w'.cell? ⟨p7, 2, none⟩ = some (.int .i64 sh) ∧ w'.cell? ⟨p9, 0, none⟩ = some (.string sk) ∧ w'.cell? ⟨p9, 1, none⟩ = some (.int .i64 sv) ∧ w'.cell? ⟨p9, 2, none⟩ = some (.int .i64 sh) ∧ w'.cell? ⟨w.heap.size, 1, none⟩ = some (.string rlo) ∧ w'.cell? ⟨w.heap.size, 2, none⟩ = some (.string rhi) ∧ w'.cell? ⟨w.heap.size, 3, none⟩ = some (.bool opn) ∧ w'.cell? ⟨w.heap.size, 4, none⟩ = some (.bool bk) ∧ w'.cell? ⟨w.heap.size, 5, none⟩ = some (.int .i64 most))
    (first | exact HK.out _ ‹_› | exact HK.out _ (Below.drew ‹_›))
    (first
      | (go_at_call 8; refine (HSc1V.out _ (Below.drew hv0)).mono ?_; rintro e w9 ⟨v9, rfl, hr9, hb9⟩; have hB9 : Below V.heap.size V w9 := (Below.drew hv0).trans hb9)
      | (go_at_call 33; refine (HSc2V.out _ hB9).mono ?_; rintro e w10 ⟨v10, rfl, hr10, hb10⟩; have hB10 : Below V.heap.size V w10 := hB9.trans (hb10.mono hB9.size); have hr9' := Kd.R_below hr9 hb10)
      | (go_at_call 32; refine (HSm.out _ _ _ _ _ hr9' hr10).mono ?_; rintro e w11 ⟨rfl, hd11⟩; have hB11 : Below V.heap.size V w11 := hB10.trans (hd11.below.mono hB10.size)))
  all_goals
    have HB11 : Aside0 (Below w.heap.size w w11) := ⟨HB.out.trans ((HB8.out.trans (hB11.mono HB8.out.size)).mono HB.out.size)⟩
    clear hB11 hd11 hr9' hB10 hr10 hb10 hB9 hr9 hb9
    go_wp2
    go_ret
    exact ⟨rfl, HB11.out⟩
end Go.Proofs.Ytnpjppnahfehnaa.Skip
/- The walk of the law SkipPlays. -/
namespace Go.Proofs.Ytnpjppnahfehnaa.Skip
set_option linter.unusedVariables false
set_option linter.unusedSimpArgs false
open Go.RowKit Go.Proofs.YtnpjppnahfehnaaW.PrintWords Go.Proofs.Ytnpjppnahfehnaa.Kit Go.MuLone

theorem kLooks_opens : Opens Try.prog 41 (Kd.slice TLook kLook) (fun xs => xs.length * 72 ≤ 140737488351232 ∧ ∀ x ∈ xs, okLook x) :=
  opens_slice Try.underlying41 (by kernel_rfl) 72 (by kernel_rfl) kLook_opens
theorem kLook_at {w : World} {A : Option Addr} {n : Nat} {xs : List Look} (h : kLook.C w A n xs) (i : Nat) (hi : i < n) : ∃ b o x, A = some ⟨b, o, none⟩ ∧ xs[i]? = some x ∧ w.cell? ⟨b, o + i * 6, none⟩ = some (.string x.key) ∧ w.cell? ⟨b, o + i * 6 + 1, none⟩ = some (.string x.r.lo) ∧ w.cell? ⟨b, o + i * 6 + 2, none⟩ = some (.string x.r.hi) ∧ w.cell? ⟨b, o + i * 6 + 3, none⟩ = some (.bool x.r.opn) ∧ w.cell? ⟨b, o + i * 6 + 4, none⟩ = some (.bool x.back) ∧ w.cell? ⟨b, o + i * 6 + 5, none⟩ = some (.int .i64 x.most) := by
  obtain ⟨b, o, x, cs, rfl, hx, hK, hc⟩ := C_at (s := 6) rfl (by omega) h i hi
  have := kLook_cells hK
  subst this
  exact ⟨b, o, x, rfl, hx, hc 0 _ rfl, hc 1 _ rfl, hc 2 _ rfl, hc 3 _ rfl, hc 4 _ rfl, hc 5 _ rfl⟩

set_option maxRecDepth 100000 in
set_option maxHeartbeats 8000000 in
theorem skipPlays_walk (A : Option Addr) (c : Nat) (xs : List Op) (B : Option Addr) (d : Nat) (ys : List Look) (w : World) (hC : kOp.C w A xs.length xs) (hxl : xs.length * 40 ≤ 140737488351232) (hok : ∀ x ∈ xs, okOp x) (hD : kLook.C w B ys.length ys) (hyl : ys.length * 72 ≤ 140737488351232) :
    Calls Try.prog 5 #[.slice A xs.length c, .slice B ys.length d] w fun e w' => e = .returned (.bool true) ∧ Below w.heap.size w w' := by
  have HC := Aside0.mk hC
  have HD := Aside0.mk hD
  have HOk := Aside0.mk hok
  obtain ⟨m, hm'⟩ : ∃ m, m = xs.length := ⟨_, rfl⟩
  have Hm := Aside0.mk hm'
  rw [← hm'] at hxl ⊢
  obtain ⟨q, hq'⟩ : ∃ q, q = ys.length := ⟨_, rfl⟩
  have Hq := Aside0.mk hq'
  rw [← hq'] at hyl ⊢
  have HMl := Aside0.mk (show m ≤ 3518437208780 by omega)
  have HQl := Aside0.mk (show q ≤ 3518437208780 by omega)
  clear hm' hq' hC hD hok hxl hyl
  go_enter Try.func5, Try.ntmps5
  go_wp2_with fail
  refine (newCalls w).mono ?_
  rintro e w1 ⟨g, hd, rfl, ha⟩
  have HA0 := Aside0.mk (Ol.new w w1 g hd ha)
  clear ha
  have HR0 : Aside0 (MR w1 w.heap.size (.slice none 0 0) (([] : List Nd).map en)) := ⟨Kd.R_nil _ _ _ _ _⟩
  go_wp2_with fail
  go_loopw [6, 7, 8] (fun v6 v7 v8 wr => ∃ (i : Nat) (ns : List Nd), i ≤ m ∧ ns.length ≤ i ∧ v8 = .int .i64 i ∧ v7 = .bool true ∧ Aside0 (Ol w wr g hd ns) ∧ Aside0 (MR wr w.heap.size v6 (ns.map en))) (fun _ _ v8 _ => m - (intOf v8).toNat)
  case atStart => exact ⟨0, [], Nat.zero_le _, Nat.le_refl _, rfl, rfl, HA0, HR0⟩
  case round =>
    clear HA0 HR0
    obtain ⟨i, ns, hi, hnl, rfl, rfl, HA, HR⟩ := hrel
    have HNl := Aside0.mk hnl
    obtain ⟨A3, c3, e3⟩ := Kd.R_slice HR.out
    subst e3
    have hml := HMl.out
    have HNs : Aside0 (ns.length ≤ 3518437208780) := ⟨by omega⟩
    clear hnl
    by_cases hlt : i < m
    · have hxs : i < xs.length := by rw [← Hm.out]; exact hlt
      obtain ⟨b, o, x, rfl, hx, p0, p1, p2, p3⟩ := kOp_at (Kd.C_below HC.out HA.out.below) i hxs
      have i1 : (i : Int) < (m : Int) := by omega
      have i2 : IntKind.i64.wrap ((i : Int) + 1) = ((i + 1 : Nat) : Int) := IntWalk.i64_in _ (by omega)
      have HPl := Aside0.mk (playCalls g hd ns A3 c3 x w wr w.heap.size HA.out HR.out HA.out.below.size HNs.out (HOk.out x (List.mem_of_getElem? hx)).1.2.1)
      generalize (ns.map en).length = k3 at *
      clear hx hxs
      go_wp2_with fail
      refine HPl.out.mono ?_
      rintro e w5 ⟨ns', v', rfl, hl5, ha5, hr5⟩
      obtain ⟨A5, c5, e5⟩ := Kd.R_slice hr5
      subst e5
      have HA5 := Aside0.mk ha5
      have HR5 := Aside0.mk hr5
      have HL5 : Aside0 (ns'.length ≤ i + 1) := ⟨by have := HNl.out; omega⟩
      have HLe := Aside0.mk (lenCalls g hd ns' w5 ha5.sk)
      have hml5 : (ns'.map en).length = ns'.length := List.length_map _
      rw [hml5]
      have HR5' : Aside0 (MR w5 w.heap.size (.slice A5 ns'.length c5) (ns'.map en)) := ⟨by rw [← hml5]; exact hr5⟩
      clear hl5 ha5 hr5 hml5 HPl p0 p1 p2 p3 HR5 HA HR HNs HNl
      go_upto_region 10 with (fail)
      go_wp2_with fail
      refine HLe.out.mono ?_
      rintro e w6 ⟨rfl, rfl⟩
      clear HLe
      by_cases hq : i < q
      · have hys : i < ys.length := by rw [← Hq.out]; exact hq
        obtain ⟨b', o', y, rfl, hy, q0, q1, q2, q3, q4, q5⟩ := kLook_at (Kd.C_below HD.out HA5.out.below) i hys
        have i3 : (i : Int) < (q : Int) := by omega
        have HAs : Aside0 (Calls Try.prog 15 #[.pointer (some ⟨g, 0, none⟩), .slice A5 ns'.length c5, .agg #[.string y.key, .string y.r.lo, .string y.r.hi, .bool y.r.opn, .bool y.back, .int .i64 y.most]] w5 fun e w' => e = .returned (.bool true) ∧ Below w5.heap.size w5 w') := ⟨by
          have := askedCalls g hd ns' A5 c5 y.key y.r.lo y.r.hi y.r.opn y.back y.most w w5 w.heap.size HA5.out (by rw [List.length_map]; exact HR5'.out) (by have := HL5.out; omega)
          rw [List.length_map] at this
          exact this⟩
        clear hy hys
        go_wp2_with fail
        refine HAs.out.mono ?_
        rintro e w7 ⟨rfl, hb7⟩
        have HA7 := Aside0.mk (HA5.out.belowed hb7)
        have HR7 := Aside0.mk (Kd.R_below HR5'.out hb7)
        clear hb7 HAs HA5 HR5' q0 q1 q2 q3 q4 q5
        go_wp2
        go_roundw
        case rel => exact ⟨i + 1, ns', by omega, HL5.out, by go_num, rfl, HA7, HR7⟩
        case measure => simp [intOf]; omega
      · have i3 : ¬ (i : Int) < (q : Int) := by omega
        go_wp2
        go_roundw
        case rel => exact ⟨i + 1, ns', by omega, HL5.out, by go_num, rfl, HA5, HR5'⟩
        case measure => simp [intOf]; omega
    · obtain rfl : i = m := by omega
      clear hi
      have HLv := Aside0.mk (levelsCalls g hd ns wr HA.out.sk HNs.out)
      have hnl3 : (ns.map en).length = ns.length := List.length_map _
      rw [hnl3]
      have HR' : Aside0 (MR wr w.heap.size (.slice A3 ns.length c3) (ns.map en)) := ⟨by rw [← hnl3]; exact HR.out⟩
      clear hnl3 HR
      go_upto_region 13 with (fail)
      go_wp2_with fail
      refine HLv.out.mono ?_
      rintro e w5 ⟨v5, rfl, hs5, hb5⟩
      have HA5 := Aside0.mk (HA.out.belowed hb5)
      have HR5 := Aside0.mk (Kd.R_below HR'.out hb5)
      obtain ⟨A5, c5, e5⟩ := Kd.S_slice hs5
      subst e5
      have HS5 := Aside0.mk (Kd.S_reads' hs5)
      have HRl : Aside0 (Calls Try.prog 17 #[.slice A3 ns.length c3] w5 fun e w' => ∃ v, e = .returned v ∧ LS w' w5.heap.size v (lvFrom ns 16 0) ∧ Below w5.heap.size w5 w') := ⟨by
        have h := Kd.R_reads' HR5.out
        have := refLevelsCalls A3 c3 ns w5 (by rw [List.length_map] at h ⊢; exact h.2.2) (by rw [List.length_map]; exact h.2.1) HNs.out
        rw [List.length_map] at this
        exact this⟩
      clear hs5 hb5 HA HR' HLv
      have HLl := Aside0.mk (lvFrom_len ns 16 0)
      have HLm : Aside0 (∀ K ∈ lvFrom ns 16 0, K.length ≤ 3518437208780) := ⟨fun K hK => Nat.le_trans (lvFrom_mem ns 16 0 K hK) HNs.out⟩
      generalize lvFrom ns 16 0 = L at *
      go_wp2_with fail
      refine HRl.out.mono ?_
      rintro e w6 ⟨v6, rfl, hs6, hb6⟩
      obtain ⟨A6, c6, e6⟩ := Kd.S_slice hs6
      subst e6
      have HS6 := Aside0.mk (Kd.S_reads' hs6)
      have HA6 := Aside0.mk (HA5.out.belowed hb6)
      have HSm := Aside0.mk (sameLvCalls A5 A6 c5 c6 L w6 (Kd.C_below HS5.out.2.2 hb6) HS6.out.2.2 HS5.out.2.1 HS6.out.2.1 (by have := HLl.out; omega) HLm.out)
      clear hs6 hb6 HRl HA5 HR5
      go_wp2_with fail
      refine HSm.out.mono ?_
      rintro e w7 ⟨rfl, hd7⟩
      have HB7 := Aside0.mk ((HA6.out.belowed hd7.below).below)
      clear hd7 HSm HA6
      go_wp2_with fail
      refine (awakeCalls w7).mono ?_
      rintro e w9 ⟨rfl, hb9⟩
      have HB9 : Aside0 (Below w.heap.size w w9) := ⟨HB7.out.trans (hb9.mono HB7.out.size)⟩
      clear hb9 HB7
      go_wp2
      go_ret
      exact ⟨rfl, HB9.out⟩
end Go.Proofs.Ytnpjppnahfehnaa.Skip
