/- Layer 7's place of int64: Keep. -/
import Derived.Test.YtkljhdmbhaffeaaCellB
import Derived.StillTailTactics
import Derived.Deep.CutBlock
import Derived.Deep.DeepCutAuto
namespace Go.Proofs.Ytkljhdmbhaffeaa.Cell
set_option linter.unusedVariables false
set_option linter.unusedSimpArgs false
open Go.RowKit Go.Proofs.YtkljhdmbhaffeaaW.PrintWords Go.Proofs.YtkljhdmbhaffeaaW.PrintMore Go.Proofs.Ytkljhdmbhaffeaa.Kit
attribute [local go_sem] max2_int min2_int max_two min_two

set_option maxHeartbeats 400000 in
theorem keepMiss (p : Nat) (vs : List Int) (n k m : Int) (hne : k ≠ n) (w : World) (h : At encI TC TN w p vs n) :
    Calls Try.prog 18 #[.pointer (some ⟨p, 0, none⟩), .int .u64 k, .int .i64 m] w fun e w' => e = .returned (.bool false) ∧ Drawn0 w w' := by
  obtain ⟨q, hp, hc⟩ := h.out
  have HT := Aside0.mk (topCalls p q vs n w hp hc)
  have hb : (n != k) = true := by rw [bne_iff_ne]; exact fun e => hne e.symm
  clear h hp hc hne
  go_enter Try.func18, Try.ntmps18
  go_wp2_with (go_at_call 25; refine HT.out.mono ?_; rintro e w' ⟨rfl, ⟨nd, rfl⟩⟩)
  go_ret
  exact ⟨rfl, (Drawn0.refl _).step _⟩

set_option maxHeartbeats 400000 in
theorem keepNone (p : Nat) (m : Int) (w : World) (h : At encI TC TN w p [] 0) :
    Calls Try.prog 18 #[.pointer (some ⟨p, 0, none⟩), .int .u64 0, .int .i64 m] w fun e w' => e = .returned (.bool true) ∧ Drawn0 w w' := by
  obtain ⟨q, hp, hc⟩ := h.out
  have HT := Aside0.mk (topCalls p q [] 0 w hp hc)
  obtain ⟨rfl, _⟩ := hc
  clear h hp
  go_enter Try.func18, Try.ntmps18
  go_wp2_with (go_at_call 25; refine HT.out.mono ?_; rintro e w' ⟨rfl, ⟨nd, rfl⟩⟩)
  go_ret
  exact ⟨rfl, (Drawn0.refl _).step _⟩

/-- A node that is kept: its block, its value, its number. -/
structure Nd where
  b : Nat
  v : Int
  n : Int
def kB : Kd Nat := Kd.scalar (fun b => .pointer (some ⟨b, 0, none⟩)) (fun _ => rfl)
def numAt (ds : List Nd) (k : Nat) : Int := match ds.drop k with | [] => 0 | d :: _ => d.n
theorem numAt_end (ds : List Nd) : numAt ds ds.length = 0 := by simp [numAt]
theorem drop_one (ds : List Nd) (k : Nat) (h : k < ds.length) : ds.drop k = ds[k] :: ds.drop (k + 1) := List.drop_eq_getElem_cons h
def Nodes (w : World) (ds : List Nd) : Prop := ∀ d ∈ ds, ∃ q', Blk w d.b [.int .i64 d.v, .int .u64 d.n, .pointer q'] TN
theorem infoP : (Try.prog.info? 45).map (fun i => (i.zero, i.size, i.bytes)) = some (some (.pointer none), 1, 8) := by kernel_rfl

set_option maxRecDepth 100000 in
set_option maxHeartbeats 4000000 in
theorem keepHit (p : Nat) (vs : List Int) (n m : Int) (M : Nat) (hM : (m < 1 ∧ M = 1) ∨ (1 ≤ m ∧ m = M)) (hv : vs ≠ []) (hl : vs.length ≤ 17592186044000) (w : World) (h : At encI TC TN w p vs n) :
    Calls Try.prog 18 #[.pointer (some ⟨p, 0, none⟩), .int .u64 n, .int .i64 m] w fun e w' => e = .returned (.bool true) ∧ At encI TC TN w' p (vs.take M) n ∧ Only (fun i => i = p) w w' := by
  obtain ⟨q, hp, hc⟩ := h.out
  have HT := Aside0.mk (topCalls p q vs n w hp hc)
  have HP := Aside0.mk hp
  have HC := Aside0.mk hc
  have HL := Aside0.mk hl
  have HV := Aside0.mk hv
  have HQ : Aside0 (∃ g, q = some ⟨g, 0, none⟩) := ⟨by
    cases vs with
    | nil => exact absurd rfl hv
    | cons v vs => obtain ⟨g, _, _, rfl, _⟩ := hc; exact ⟨g, rfl⟩⟩
  obtain ⟨⟨g, rfl⟩⟩ := HQ
  clear h hp hc hl hv
  have HM := Aside0.mk hM
  go_enter Try.func18, Try.ntmps18
  go_upto_block 0 with (go_at_call 25; refine HT.out.mono ?_; rintro e w' ⟨rfl, ⟨nd, rfl⟩⟩)
  have HB0 : Aside0 (Below w.heap.size w (w.drewN nd)) := ⟨pw_below_drewN (Below.refl _ _) nd⟩
  generalize w.drewN nd = w1 at *
  go_cut [9] (fun v wc => ∃ ds : List Nd, Aside0 (ds.map (·.v) = vs.take M) ∧ Aside0 (∃ d tl, ds = d :: tl ∧ d.n = n) ∧ Aside0 (Nodes w ds) ∧ Aside0 (kB.R 45 wc w.heap.size (fun _ => True) v (ds.map (·.b))) ∧ Aside0 (Below w.heap.size w wc))
  case first =>
    go_wp2_with fail
    go_loopg [9, 10] (vs.length + 1) (fun k v x wr => ∃ (ds : List Nd) (rest : List Int) (r : Option Addr) (z : Int), x = .pointer r ∧ Aside0 (vs = ds.map (·.v) ++ rest) ∧ Aside0 (rest.length + 1 = k) ∧ Aside0 (ds.length ≤ M) ∧ Aside0 (Chain encI TN w r rest z) ∧ Aside0 (Nodes w ds) ∧ Aside0 ((ds = [] ∧ z = n) ∨ ∃ d tl, ds = d :: tl ∧ d.n = n) ∧ Aside0 (kB.R 45 wr w.heap.size (fun _ => True) v (ds.map (·.b))) ∧ Aside0 (Below w.heap.size w wr))
    case atStart => exact ⟨[], vs, _, n, rfl, ⟨rfl⟩, ⟨rfl⟩, ⟨Nat.zero_le _⟩, HC, ⟨fun d hd => by simp at hd⟩, ⟨Or.inl ⟨rfl, rfl⟩⟩, ⟨Kd.R_nil _ _ _ _ _⟩, HB0⟩
    case round =>
      obtain ⟨ds, rest, r, z, rfl, HVs, HK, HDl, HR, HN, HNum, HO, HB⟩ := hrel
      have HHd : Aside0 (rest = [] ∨ ¬ ds.length < M → ∃ d tl, ds = d :: tl ∧ d.n = n) := ⟨fun hh => by
        rcases HNum.out with ⟨rfl, rfl⟩ | h
        · rcases hh with rfl | hh
          · exact absurd HVs.out HV.out
          · have := HM.out
            simp at hh
            omega
        · exact h⟩
      obtain ⟨A9, c9, rfl⟩ := Kd.R_slice HO.out
      simp only [List.length_map] at HO ⊢
      cases rest with
      | nil =>
        have HE : Aside0 (ds.map (·.v) = vs.take M) := ⟨by
          have := HVs.out
          rw [List.append_nil] at this
          rw [this, List.take_of_length_le (by simpa using HDl.out)]⟩
        have HH := Aside0.mk (HHd.out (Or.inl rfl))
        obtain ⟨rfl, _⟩ := HR.out
        go_wp2
        go_meet
        case rel => exact ⟨ds, HE, HH, HN, HO, HB⟩
      | cons x rest =>
        obtain ⟨b, q', n', rfl, hb, hc'⟩ := HR.out
        have HLn : Aside0 (ds.length + 1 ≤ 17592186044000) := ⟨by have := HL.out; rw [HVs.out] at this; simp at this; omega⟩
        by_cases hlt : ds.length < M
        · have HN' : Aside0 (Nodes w (ds ++ [⟨b, x, z⟩])) := ⟨fun d hd => by
            rcases List.mem_append.1 hd with hd | hd
            · exact HN.out d hd
            · rw [List.mem_singleton.1 hd]
              exact ⟨q', hb⟩⟩
          have HNum' : Aside0 (∃ d tl, ds ++ [⟨b, x, z⟩] = d :: tl ∧ d.n = n) := ⟨by
            rcases HNum.out with ⟨rfl, rfl⟩ | ⟨d, tl, rfl, hd⟩
            · exact ⟨_, [], rfl, rfl⟩
            · exact ⟨d, tl ++ [⟨b, x, z⟩], rfl, hd⟩⟩
          have HVs' : Aside0 (vs = (ds ++ [(⟨b, x, z⟩ : Nd)]).map (·.v) ++ rest) := ⟨by rw [HVs.out]; simp⟩
          have hdm : (if m < 1 then (1 : Int) else m) = M := by rcases HM.out with ⟨h, rfl⟩ | ⟨h, rfl⟩ <;> simp [h] <;> omega
          have HNb := Aside0.mk hb
          have HRn := Aside0.mk hc'
          clear hb hc' HR HN HNum HHd HDl HVs
          go_wp2_with ((with_reducible refine gate_builtin (b := .append) (xs := #[.tmp 37, .tmp 39]) rfl ?_); at_builtin; refine Kd.R_append kB (w0 := w) w.heap.size rfl (.tmp 37) (.tmp 39) 79 45 (.pointer none) 8 rfl Try.underlying79 infoP rfl (by decide) (by omega) (.slice A9 ds.length c9) (ds.map (·.b)) b [.pointer (some ⟨b, 0, none⟩)] (fun _ => True) (fun _ => False) rfl rfl ?aP (fun _ hk => hk.elim) ?aF ?aO ?aB ?aS ?aL ?_; (case aP => exact rfl); (case aF => exact fun _ _ => trivial); (case aO => exact HO.out); (case aB => exact HB.out); (case aS => exact below_size HB.out); (case aL => have := HLn.out; rw [List.length_map]; omega); intro v1 w1 ho hb hg hat; have HO1 := Aside0.mk ho; have HB1 := Aside0.mk hb; clear ho hb hg hat HO HB; have h2 := (HNb.out.belowSize HB1.out).cell 2 _ rfl)
          simp only [List.length_cons] at HK
          cases gk with
          | zero => exact absurd HK.out (by omega)
          | succ k1 =>
            go_roundg k1
            case measure => omega
            case rel => exact ⟨ds ++ [⟨b, x, z⟩], rest, q', n', rfl, HVs', ⟨by have := HK.out; omega⟩, ⟨by simp; omega⟩, HRn, HN', ⟨Or.inr HNum'.out⟩, ⟨by rw [List.map_append]; exact HO1.out⟩, HB1⟩
        · have HE : Aside0 (ds.map (·.v) = vs.take M) := ⟨by
            have h1 : ds.length = M := by have := HDl.out; omega
            rw [HVs.out, List.take_append_of_le_length (by simp; omega), List.take_of_length_le (by simp; omega)]⟩
          have HH := Aside0.mk (HHd.out (Or.inr hlt))
          have hdm : (if m < 1 then (1 : Int) else m) = M := by rcases HM.out with ⟨h, rfl⟩ | ⟨h, rfl⟩ <;> simp [h] <;> omega
          clear hb hc' HR HNum HHd HDl HVs
          go_wp2
          go_meet
          case rel => exact ⟨ds, HE, HH, HN, HO, HB⟩
  case rest =>
    clear HB0 HV HM
    obtain ⟨ds, HE, HH, HN, HO, HB⟩ := hcut
    have HDl : ds.length ≤ 17592186044000 := by
      have h1 : (ds.map (·.v)).length = (vs.take M).length := by rw [HE.out]
      rw [List.length_map, List.length_take] at h1
      have := HL.out
      omega
    have hd0 : 0 < (ds.map (·.b)).length := by
      obtain ⟨d, tl, rfl, _⟩ := HH.out
      simp
    obtain ⟨g9, c9, rfl, hg9, _⟩ := Kd.R_form HO.out hd0
    simp only [List.length_map] at HO ⊢
    clear HL hd0
    have hz := zeroN
    go_wp2_with fail
    go_loopg [11, 12] ds.length (fun k nx i wr => ∃ r : Option Addr, nx = .pointer r ∧ Aside0 (k ≤ ds.length) ∧ i = .int .i64 ((k : Int) - 1) ∧ Aside0 (Chain encI TN wr r ((ds.drop k).map (·.v)) (numAt ds k)) ∧ Aside0 (kB.R 45 wr w.heap.size (fun _ => True) (.slice (some ⟨g9, 0, none⟩) ds.length c9) (ds.map (·.b))) ∧ Aside0 (Below w.heap.size w wr))
    case atStart => exact ⟨none, rfl, ⟨Nat.le_refl _⟩, rfl, ⟨by rw [List.drop_length, numAt_end]; exact ⟨rfl, rfl⟩⟩, HO, HB⟩
    case round =>
      clear HO HB
      obtain ⟨r, rfl, HK, rfl, HCh, HO, HB⟩ := hrel
      cases gk with
      | zero =>
        have HCf : Aside0 (Chain encI TN wr r (vs.take M) n) := ⟨by
          have := HCh.out
          rw [List.drop_zero, HE.out] at this
          obtain ⟨d, tl, rfl, hd⟩ := HH.out
          rw [← hd]
          exact this⟩
        have HPw := Aside0.mk (HP.out.belowSize HB.out)
        have HCw := Aside0.mk (HC.out.below HB.out)
        clear HCh HO
        go_wp2_with fail
        refine (pcas p 0 _ r wr (HPw.out.cell 0 _ rfl) (HPw.out.free 0) (toUnsafe _ vs n wr HCw.out) (toUnsafe r _ n wr HCf.out)).mono ?_
        rintro e w' ⟨rfl, hw'⟩
        have ho : Only (fun i => i = p) wr w' := by
          rw [← hw']
          exact Only.setCell (S := fun i => i = p) (Only.refl _ wr) (p := ⟨p, 0, none⟩) (Or.inl rfl) _
        have hP' : Blk w' p [.pointer r] TC := by rw [← hw']; exact HPw.out.put 0 _
        have HA : Aside0 (At encI TC TN w' p (vs.take M) n) := ⟨⟨_, hP', HCf.out.only ho (Off.one HPw.out (by decide))⟩⟩
        have HO : Aside0 (Only (fun i => i = p) w w') := ⟨(Only.ofBelow HB.out).trans ho⟩
        clear hw' ho hP' HCf HPw HCw hz HB
        go_wp2
        go_ret
        exact ⟨rfl, HA.out, HO.out⟩
      | succ k1 =>
        have hk : k1 < ds.length := by have := HK.out; omega
        have hc := (Kd.R_celln 0 (show (Kd.scalar (fun b : Nat => Value.pointer (some ⟨b, 0, none⟩)) (fun _ => rfl)).R _ _ _ _ _ _ from HO.out) (k1 : Int) (by omega) (by omega)).1
        simp only [Int.toNat_natCast] at hc
        have hD : rdOf 0 (ds.map (·.b)) (k1 : Int) = ds[k1].b := by simp [rdOf, hk]
        rw [hD] at hc
        obtain ⟨q', hb⟩ := HN.out ds[k1] (List.getElem_mem hk)
        have hb' := hb.belowSize HB.out
        have h0 := hb'.cell 0 _ rfl
        have h1 := hb'.cell 1 _ rfl
        have HDr := Aside0.mk (drop_one ds k1 hk)
        have hki : ((k1 + 1 : Nat) : Int) - 1 = k1 := by omega
        rw [hki]
        clear hD hb hb' hki
        generalize ds[k1] = d at *
        go_wp2_with fail
        go_still_tail 16, (by kernel_rfl)
        change wpList _ _ _ _ _ wr.drew
        have HB2 : Aside0 (Below w.heap.size w (wr.drew.alloc (.cells #[.int .i64 d.v, .int .u64 d.n, .pointer r] TN))) := ⟨HB.out.drew.alloc (by have := HB.out.size; exact this) _⟩
        have HO2 := Aside0.mk (Kd.R_below HO.out ((Below.refl wr.heap.size wr).drew.alloc (Nat.le_refl _) (.cells #[.int .i64 d.v, .int .u64 d.n, .pointer r] TN)))
        have HCh2 : Aside0 (Chain encI TN (wr.drew.alloc (.cells #[.int .i64 d.v, .int .u64 d.n, .pointer r] TN)) (some ⟨wr.heap.size, 0, none⟩) ((ds.drop k1).map (·.v)) (numAt ds k1)) := ⟨by
          unfold numAt
          rw [HDr.out, List.map_cons]
          exact ⟨_, _, _, rfl, Blk.newA wr.drew _ _, Chain.below ((Below.refl wr.heap.size wr).drew.alloc (Nat.le_refl _) (.cells #[.int .i64 d.v, .int .u64 d.n, .pointer r] TN)) HCh.out⟩⟩
        clear HCh HO HB
        go_wp2
        go_roundg k1
        case measure => omega
        case rel => exact ⟨_, rfl, ⟨by omega⟩, rfl, HCh2, HO2, HB2⟩
theorem keepAny (p : Nat) (vs : List Int) (n m : Int) (M : Nat) (hM : (m < 1 ∧ M = 1) ∨ (1 ≤ m ∧ m = M)) (hl : vs.length ≤ 17592186044000) (w : World) (h : At encI TC TN w p vs n) :
    Calls Try.prog 18 #[.pointer (some ⟨p, 0, none⟩), .int .u64 n, .int .i64 m] w fun e w' => e = .returned (.bool true) ∧ At encI TC TN w' p (vs.take M) n ∧ Only (fun i => i = p) w w' := by
  by_cases hv : vs = []
  · subst hv
    obtain ⟨q, hp, hc⟩ := h.out
    obtain ⟨rfl, rfl⟩ := hc
    refine (keepNone p m w h).mono fun e w' ⟨he, hd⟩ => ⟨he, ?_, Only.ofBelow hd.below⟩
    rw [List.take_nil]
    exact h.below hd.below
  · exact keepHit p vs n m M hM hv hl w h
end Go.Proofs.Ytkljhdmbhaffeaa.Cell
