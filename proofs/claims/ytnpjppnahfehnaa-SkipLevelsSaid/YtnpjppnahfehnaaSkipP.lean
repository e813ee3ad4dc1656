/- Layer 12's list as a sorted list of entries: what scans, seeks, puts and deletes are on it. -/
import Derived.Test.YtnpjppnahfehnaaSkipN
import Derived.Test.YtnpjppnahfehnaaSkipFG
import Derived.Test.YtnpjppnahfehnaaSkipJD
import Derived.Test.YtnpjppnahfehnaaSkipK
namespace Go.Proofs.Ytnpjppnahfehnaa.Skip
set_option linter.unusedVariables false
set_option linter.unusedSimpArgs false
open Go.RowKit Go.Proofs.YtnpjppnahfehnaaW.PrintWords Go.Proofs.Ytnpjppnahfehnaa.Kit Go.MuLone

/-! scans -/
def inR (rlo rhi : ByteArray) (opn : Bool) (k : ByteArray) : Bool := !ltB k rlo && (opn || ltB k rhi)
def mid (ns : List En) (rlo rhi : ByteArray) (opn : Bool) : List En := ns.filter (fun x => inR rlo rhi opn x.k)
def pick (ns : List En) (rlo rhi : ByteArray) (opn back : Bool) (most : Int) : List En := (cond back (mid ns rlo rhi opn).reverse (mid ns rlo rhi opn)).take most.toNat
theorem scanS_eq (rhi : ByteArray) (opn : Bool) (l : List Nd) (hs : Sorted l) : ∀ k : Int, scanS l rhi opn k = (l.filter (fun x => opn || ltB x.k rhi)).take k.toNat := by
  induction l with
  | nil => intro k; simp [scanS]
  | cons y t ih =>
    intro k
    obtain ⟨h1, h2⟩ := List.pairwise_cons.1 hs
    rw [scanS]
    by_cases hk : 0 < k
    · have hkn : k.toNat = (k - 1).toNat + 1 := by omega
      by_cases hp : opn = true ∨ ltB y.k rhi = true
      · have hb : (opn || ltB y.k rhi) = true := by simpa using hp
        rw [if_pos ⟨hk, hp⟩, List.filter_cons, if_pos hb, hkn, List.take_succ_cons, ih h2]
      · rw [if_neg (fun h => hp h.2)]
        have : (y :: t).filter (fun x => opn || ltB x.k rhi) = [] := by
          rw [List.filter_eq_nil_iff]
          intro x hx hb
          rw [Bool.or_eq_true] at hb
          rcases hb with hb | hb
          · exact hp (Or.inl hb)
          · rcases List.mem_cons.1 hx with rfl | hx
            · exact hp (Or.inr hb)
            · exact hp (Or.inr (lt_trans (h1 x hx) hb))
        rw [this, List.take_nil]
    · rw [if_neg (fun h => hk h.1), show k.toNat = 0 by omega, List.take_zero]
theorem fallS_eq (rlo : ByteArray) (l : List Nd) (hs : l.Pairwise (fun a b => ltB b.k a.k = true)) : ∀ k : Int, fallS l rlo k = (l.filter (fun x => !ltB x.k rlo)).take k.toNat := by
  induction l with
  | nil => intro k; simp [fallS]
  | cons y t ih =>
    intro k
    obtain ⟨h1, h2⟩ := List.pairwise_cons.1 hs
    rw [fallS]
    by_cases hk : 0 < k
    · have hkn : k.toNat = (k - 1).toNat + 1 := by omega
      cases hp : ltB y.k rlo with
      | false =>
        have hb : (!ltB y.k rlo) = true := by rw [hp]; rfl
        rw [if_pos ⟨rfl, hk⟩, List.filter_cons, if_pos hb, hkn, List.take_succ_cons, ih h2]
      | true =>
        rw [if_neg (fun h => by cases h.1)]
        have : (y :: t).filter (fun x => !ltB x.k rlo) = [] := by
          rw [List.filter_eq_nil_iff]
          intro x hx hb
          rw [Bool.not_eq_true'] at hb
          rcases List.mem_cons.1 hx with rfl | hx
          · rw [hp] at hb; cases hb
          · have := lt_trans (h1 x hx) hp
            rw [hb] at this; cases this
        rw [this, List.take_nil]
    · rw [if_neg (fun h => hk h.2), show k.toNat = 0 by omega, List.take_zero]
theorem filter_en (p : ByteArray → Bool) (l : List Nd) : (l.filter (fun x => p x.k)).map en = (l.map en).filter (fun x => p x.k) := by
  induction l with
  | nil => rfl
  | cons y t ih =>
    rw [List.map_cons]
    cases h : p y.k with
    | true => rw [List.filter_cons_of_pos (by simpa using h), List.filter_cons_of_pos (by simpa [en] using h), List.map_cons, ih]
    | false => rw [List.filter_cons_of_neg (by simp [h]), List.filter_cons_of_neg (by simp [en, h]), ih]
theorem Sk.sortedL {w : World} {g : Nat} {st : Int} {hd : Nd} {lo hi : List Nd} (h : Sk w g st hd (lo ++ hi)) : Sorted lo ∧ Sorted hi := by
  have hs := h.srt
  unfold Sorted at hs
  rw [List.pairwise_append] at hs
  exact ⟨hs.1, hs.2.1⟩
/-- Scan of a range, either way. -/
theorem scanCalls (g : Nat) (hd : Nd) (ns : List Nd) (rlo rhi : ByteArray) (opn back : Bool) (most : Int) (w : World) (h : Sk w g 0 hd ns) (hlen : ns.length ≤ 3518437208780) :
    Calls Try.prog 8 #[.pointer (some ⟨g, 0, none⟩), .agg #[.string rlo, .string rhi, .bool opn], .bool back, .int .i64 most] w fun e w' => ∃ v, e = .returned v ∧ MR w' w.heap.size v (pick (ns.map en) rlo rhi opn back most) ∧ Below w.heap.size w w' := by
  by_cases hm : most < 1
  · refine (scanNone g hd ns rlo rhi opn back most w h hm).mono fun e w' ⟨he, hb⟩ => ⟨_, he, ?_, hb⟩
    have : pick (ns.map en) rlo rhi opn back most = [] := by unfold pick; rw [show most.toNat = 0 by omega, List.take_zero]
    rw [this]
    exact Kd.R_nil _ _ _ _ _
  · cases back with
    | false =>
      obtain ⟨lo, hi, rfl, hlo, hhi⟩ := parts rlo ns h.srt
      refine (scanFore g hd lo hi rlo rhi opn most w h hlo hhi (by omega) hlen).mono fun e w' ⟨v, he, hr, hb⟩ => ⟨v, he, ?_, hb⟩
      have e : (scanS hi rhi opn most).map en = pick ((lo ++ hi).map en) rlo rhi opn false most := by
        rw [scanS_eq rhi opn hi h.sortedL.2, List.map_take]
        unfold pick mid
        rw [cond_false, ← filter_en (fun k => inR rlo rhi opn k), List.filter_append]
        have h1 : lo.filter (fun x => inR rlo rhi opn x.k) = [] := by
          rw [List.filter_eq_nil_iff]
          intro x hx
          unfold inR
          rw [hlo x hx]
          simp
        have h2 : hi.filter (fun x => inR rlo rhi opn x.k) = hi.filter (fun x => opn || ltB x.k rhi) := by
          apply List.filter_congr
          intro x hx
          unfold inR
          rw [hhi x hx]
          simp
        rw [h1, h2, List.nil_append]
      rw [← e]
      exact hr
    | true =>
      obtain ⟨lo, hi, rfl, he⟩ := ends ns rhi opn h.srt
      refine (scanBack g hd lo hi rlo rhi opn most w h he (by omega) hlen).mono fun e w' ⟨v, he', hr, hb⟩ => ⟨v, he', ?_, hb⟩
      have e : (fallS lo.reverse rlo most).map en = pick ((lo ++ hi).map en) rlo rhi opn true most := by
        rw [fallS_eq rlo lo.reverse (List.pairwise_reverse.2 h.sortedL.1), List.map_take, List.filter_reverse, List.map_reverse]
        unfold pick mid
        rw [cond_true, ← filter_en (fun k => inR rlo rhi opn k), List.filter_append]
        have h1 : hi.filter (fun x => inR rlo rhi opn x.k) = [] := by
          rw [List.filter_eq_nil_iff]
          intro x hx
          obtain ⟨a, b⟩ := he.hi x hx
          unfold inR
          rw [a, b]
          simp
        have h2 : lo.filter (fun x => inR rlo rhi opn x.k) = lo.filter (fun x => !ltB x.k rlo) := by
          apply List.filter_congr
          intro x hx
          unfold inR
          rcases he.lo x hx with a | a
          · rw [a]; simp
          · rw [a]; simp
        rw [h1, h2, List.append_nil]
      rw [← e]
      exact hr

/-! seeks -/
def seekE (l : List En) (key : ByteArray) (back : Bool) : Option En := cond back (l.filter (fun x => !ltB key x.k)).getLast? (l.filter (fun x => !ltB x.k key)).head?
def seekW : Option En → Value
  | none => .tuple #[zE, .bool false]
  | some x => .tuple #[.agg #[.string x.k, .int .i64 x.v, .int .i64 x.h], .bool true]
theorem seekV_W (o : Option Nd) : seekV o = seekW (o.map en) := by cases o <;> rfl
theorem seekO_E {w : World} {g : Nat} {st : Int} {hd : Nd} {lo hi : List Nd} (h : Sk w g st hd (lo ++ hi)) (key : ByteArray) (hlo : ∀ x ∈ lo, ltB x.k key = true) (hhi : ∀ x ∈ hi, ltB x.k key = false) (back : Bool) :
    (seekO lo hi key back).map en = seekE ((lo ++ hi).map en) key back := by
  cases back with
  | false =>
    unfold seekO seekE
    rw [cond_false, cond_false, ← filter_en (fun k => !ltB k key), List.filter_append]
    have h1 : lo.filter (fun x => !ltB x.k key) = [] := by
      rw [List.filter_eq_nil_iff]
      intro x hx
      rw [hlo x hx]
      simp
    have h2 : hi.filter (fun x => !ltB x.k key) = hi := by
      rw [List.filter_eq_self]
      intro x hx
      rw [hhi x hx]
      rfl
    rw [h1, h2, List.nil_append, List.head?_map]
  | true =>
    unfold seekO seekE
    rw [cond_true, cond_true, ← filter_en (fun k => !ltB key k), List.filter_append]
    have h1 : lo.filter (fun x => !ltB key x.k) = lo := by
      rw [List.filter_eq_self]
      intro x hx
      rw [lt_asymm (hlo x hx)]
      rfl
    have hab : ∀ x : Nd, ltB x.k key = false → x.k ≠ key → ltB key x.k = true := fun x h1 h2 => by
      rcases lt_total key x.k with h | h | h
      · exact h
      · exact absurd h.symm h2
      · rw [h1] at h; cases h
    rw [h1]
    cases hi with
    | nil => simp
    | cons z t =>
      have hs := (List.pairwise_cons.1 h.sortedL.2).1
      have h2 : t.filter (fun x => !ltB key x.k) = [] := by
        rw [List.filter_eq_nil_iff]
        intro x hx hb
        rw [Bool.not_eq_true'] at hb
        have hzx := hs x hx
        rcases lt_total key z.k with h | h | h
        · rw [lt_trans h hzx] at hb; cases hb
        · rw [h, hzx] at hb; cases hb
        · rw [hhi z List.mem_cons_self] at h; cases h
      simp only
      by_cases hk : z.k = key
      · rw [if_pos hk, List.filter_cons_of_pos (by rw [hk, lt_irrefl]; rfl), h2, List.map_append]
        simp
      · rw [if_neg hk, List.filter_cons_of_neg (by rw [hab z (hhi z List.mem_cons_self) hk]; simp), h2, List.append_nil, List.getLast?_map]
theorem seekAll (g : Nat) (hd : Nd) (ns : List Nd) (key : ByteArray) (back : Bool) (w : World) (h : Sk w g 0 hd ns) :
    Calls Try.prog 10 #[.pointer (some ⟨g, 0, none⟩), .string key, .bool back] w fun e w' => e = .returned (seekW (seekE (ns.map en) key back)) ∧ Below w.heap.size w w' := by
  obtain ⟨lo, hi, rfl, hlo, hhi⟩ := parts key ns h.srt
  have := seekCalls g hd lo hi key back w h hlo hhi
  rw [seekV_W, seekO_E h key hlo hhi back] at this
  exact this

/-! puts, deletes, gets -/
def putE : List En → ByteArray → Int → Int → List En
  | [], key, v, ht => [⟨key, v, ht⟩]
  | y :: t, key, v, ht => if ltB y.k key = true then y :: putE t key v ht else if y.k = key then ⟨y.k, v, y.h⟩ :: t else ⟨key, v, ht⟩ :: y :: t
def getE (l : List En) (key : ByteArray) : Option Int := (l.find? (fun x => decide (x.k = key))).map (·.v)
def delE (l : List En) (key : ByteArray) : List En := l.filter (fun x => decide (x.k ≠ key))
theorem putE_lo (lo : List En) (l : List En) (key : ByteArray) (v ht : Int) (h : ∀ x ∈ lo, ltB x.k key = true) : putE (lo ++ l) key v ht = lo ++ putE l key v ht := by
  induction lo with
  | nil => rfl
  | cons y t ih => rw [List.cons_append, putE, if_pos (h y List.mem_cons_self), ih (fun x hx => h x (List.mem_cons_of_mem _ hx))]; rfl
theorem lo_ne {lo : List Nd} {key : ByteArray} (h : ∀ x ∈ lo, ltB x.k key = true) : ∀ x ∈ lo, x.k ≠ key := fun x hx e => by
  have := h x hx
  rw [e, lt_irrefl] at this
  cases this
theorem en_lo {lo : List Nd} {key : ByteArray} (h : ∀ x ∈ lo, ltB x.k key = true) : ∀ x ∈ lo.map en, ltB x.k key = true := by
  intro x hx
  obtain ⟨y, hy, rfl⟩ := List.mem_map.1 hx
  exact h y hy
theorem putE_old {lo t : List Nd} {z : Nd} {key : ByteArray} {v ht : Int} (hlo : ∀ x ∈ lo, ltB x.k key = true) (hm : z.k = key) : (lo ++ { z with v := v } :: t).map en = putE ((lo ++ z :: t).map en) key v ht := by
  rw [List.map_append, List.map_append, putE_lo _ _ _ _ _ (en_lo hlo), List.map_cons, List.map_cons, putE, if_neg (by show ¬ ltB z.k key = true; rw [hm, lt_irrefl]; simp), if_pos (show (en z).k = key from hm)]
  rfl
theorem putE_new {lo hi : List Nd} {N : Nd} {key : ByteArray} {v ht : Int} (hlo : ∀ x ∈ lo, ltB x.k key = true) (hhi : ∀ x ∈ hi, ltB x.k key = false) (hm : Miss hi key) (h1 : N.k = key) (h2 : N.v = v) (h3 : (N.h : Int) = ht) : (lo ++ N :: hi).map en = putE ((lo ++ hi).map en) key v ht := by
  have eN : en N = ⟨key, v, ht⟩ := by unfold en; rw [h1, h2, h3]
  rw [List.map_append, List.map_append, putE_lo _ _ _ _ _ (en_lo hlo), List.map_cons, eN]
  congr 1
  cases hi with
  | nil => rfl
  | cons z t =>
    rw [List.map_cons, putE, if_neg (by show ¬ ltB z.k key = true; rw [hhi z List.mem_cons_self]; simp), if_neg (show ¬ (en z).k = key from hm z t rfl)]
theorem getE_hit {lo t : List Nd} {z : Nd} {key : ByteArray} (hlo : ∀ x ∈ lo, ltB x.k key = true) (hm : z.k = key) : getE ((lo ++ z :: t).map en) key = some z.v := by
  unfold getE
  rw [List.map_append, List.find?_append, List.find?_eq_none.2 (by
    intro x hx
    obtain ⟨y, hy, rfl⟩ := List.mem_map.1 hx
    exact fun hd => lo_ne hlo y hy (of_decide_eq_true hd)), List.map_cons, List.find?_cons_of_pos (p := fun x : En => decide (x.k = key)) (decide_eq_true (show (en z).k = key from hm))]
  rfl
theorem hi_ne {hi : List Nd} {key : ByteArray} (hs : Sorted hi) (hhi : ∀ x ∈ hi, ltB x.k key = false) (hm : Miss hi key) : ∀ x ∈ hi, x.k ≠ key := fun x hx e => by
  have := miss_above hs hhi hm x hx
  rw [e, lt_irrefl] at this
  cases this
theorem getE_miss {lo hi : List Nd} {key : ByteArray} (hs : Sorted hi) (hlo : ∀ x ∈ lo, ltB x.k key = true) (hhi : ∀ x ∈ hi, ltB x.k key = false) (hm : Miss hi key) : getE ((lo ++ hi).map en) key = none := by
  unfold getE
  rw [List.find?_eq_none.2, Option.map_none]
  intro x hx
  obtain ⟨y, hy, rfl⟩ := List.mem_map.1 hx
  rcases List.mem_append.1 hy with hy | hy
  · exact fun hd => lo_ne hlo y hy (of_decide_eq_true hd)
  · exact fun hd => hi_ne hs hhi hm y hy (of_decide_eq_true hd)
theorem delE_hit {lo t : List Nd} {z : Nd} {key : ByteArray} (hs : Sorted (z :: t)) (hlo : ∀ x ∈ lo, ltB x.k key = true) (hm : z.k = key) : (lo ++ t).map en = delE ((lo ++ z :: t).map en) key := by
  unfold delE
  rw [← filter_en (fun k => decide (k ≠ key)), List.filter_append, List.filter_cons_of_neg (by simpa using hm)]
  have h1 : lo.filter (fun x => decide (x.k ≠ key)) = lo := by
    rw [List.filter_eq_self]
    intro x hx
    simpa using lo_ne hlo x hx
  have h2 : t.filter (fun x => decide (x.k ≠ key)) = t := by
    rw [List.filter_eq_self]
    intro x hx
    have := (List.pairwise_cons.1 hs).1 x hx
    rw [hm] at this
    simp only [ne_eq, decide_not, Bool.not_eq_eq_eq_not, Bool.not_true, decide_eq_false_iff_not]
    intro e
    rw [e, lt_irrefl] at this
    cases this
  rw [h1, h2]
theorem delE_miss {l : List En} {key : ByteArray} (h : getE l key = none) : delE l key = l := by
  unfold getE at h
  rw [Option.map_eq_none_iff, List.find?_eq_none] at h
  unfold delE
  rw [List.filter_eq_self]
  intro x hx
  simpa using h x hx
/-- Put with a height that may be, and a key that is not too long. -/
def resV : Option Int → Int := fun o => o.getD 0
theorem putAll (g : Nat) (hd : Nd) (ns : List Nd) (key : ByteArray) (v ht : Int) (w : World) (h : Sk w g 0 hd ns) (hk : (key.size : Int) ≤ 1025) (h1 : 1 ≤ ht) (h2 : ht ≤ 16) (hlen : ns.length < 4611686018427387904) :
    Calls Try.prog 18 #[.pointer (some ⟨g, 0, none⟩), .string key, .int .i64 v, .int .i64 ht] w fun e w' => ∃ ns', e = .returned (.tuple #[.int .i64 (resV (getE (ns.map en) key)), .bool (getE (ns.map en) key).isSome, .int .i64 0]) ∧ ns'.map en = putE (ns.map en) key v ht ∧ Lv w w' g 0 hd ns ns' := by
  obtain ⟨lo, hi, rfl, hlo, hhi⟩ := parts key ns h.srt
  rcases hit_or_miss hi key with ⟨z, t, rfl, hm⟩ | hm
  · rw [getE_hit hlo hm]
    exact (putOld g hd lo t z key v ht w h hlo hhi hm hk h1 h2).mono fun e w' ⟨he, hl⟩ => ⟨_, he, putE_old hlo hm, hl⟩
  · rw [getE_miss h.sortedL.2 hlo hhi hm]
    exact (putNew g hd lo hi key v ht w h hlo hhi hm hk h1 h2 hlen).mono fun e w' ⟨N, he, a, b, c, hl⟩ => ⟨_, he, putE_new hlo hhi hm a b c, hl⟩
theorem deleteAll (g : Nat) (hd : Nd) (ns : List Nd) (key : ByteArray) (w : World) (h : Sk w g 0 hd ns) (hlen : ns.length < 4611686018427387904) :
    Calls Try.prog 19 #[.pointer (some ⟨g, 0, none⟩), .string key] w fun e w' => ∃ ns', e = .returned (.tuple #[.int .i64 (resV (getE (ns.map en) key)), .bool (getE (ns.map en) key).isSome]) ∧ ns'.map en = delE (ns.map en) key ∧ Lv w w' g 0 hd ns ns' := by
  obtain ⟨lo, hi, rfl, hlo, hhi⟩ := parts key ns h.srt
  rcases hit_or_miss hi key with ⟨z, t, rfl, hm⟩ | hm
  · rw [getE_hit hlo hm]
    exact (deleteOld g hd lo t z key w h hlo hhi hm hlen).mono fun e w' ⟨he, hl⟩ => ⟨_, he, delE_hit h.sortedL.2 hlo hm, hl⟩
  · have hg := getE_miss h.sortedL.2 hlo hhi hm
    rw [hg]
    exact (deleteNone g hd lo hi key w h hlo hhi hm).mono fun e w' ⟨he, hl⟩ => ⟨_, he, (delE_miss hg).symm, hl⟩
theorem getAll (g : Nat) (hd : Nd) (ns : List Nd) (key : ByteArray) (w : World) (h : Sk w g 0 hd ns) :
    Calls Try.prog 20 #[.pointer (some ⟨g, 0, none⟩), .string key] w fun e w' => e = .returned (.tuple #[.int .i64 (resV (getE (ns.map en) key)), .bool (getE (ns.map en) key).isSome]) ∧ Below w.heap.size w w' := by
  obtain ⟨lo, hi, rfl, hlo, hhi⟩ := parts key ns h.srt
  rcases hit_or_miss hi key with ⟨z, t, rfl, hm⟩ | hm
  · rw [getE_hit hlo hm]
    exact getHit g hd lo key w z t h hlo hhi hm
  · rw [getE_miss h.sortedL.2 hlo hhi hm]
    exact getMiss g hd lo hi key w h hlo hhi hm
theorem putE_len (l : List En) (key : ByteArray) (v ht : Int) : (putE l key v ht).length ≤ l.length + 1 := by
  induction l with
  | nil => simp [putE]
  | cons y t ih =>
    rw [putE]
    split
    · simp only [List.length_cons]; omega
    · split <;> simp
theorem delE_len (l : List En) (key : ByteArray) : (delE l key).length ≤ l.length := List.length_filter_le _ _
end Go.Proofs.Ytnpjppnahfehnaa.Skip
