/- Layer 12's list: Scan, either way. -/
import Derived.Test.YtnpjppnahfehnaaSkipL
namespace Go.Proofs.Ytnpjppnahfehnaa.Skip
set_option linter.unusedVariables false
set_option linter.unusedSimpArgs false
open Go.RowKit Go.Proofs.YtnpjppnahfehnaaW.PrintWords Go.Proofs.Ytnpjppnahfehnaa.Kit Go.MuLone

structure En where
  k : ByteArray
  v : Int
  h : Int
def kE : Kd En := Kd.iso (Kd.pair Kd.string (Kd.pair (Kd.int .i64) (Kd.int .i64))) (fun x => (x.k, x.v, x.h))
theorem kE_mkM (w : World) (base : Nat) (ok : Nat → Prop) (x : En) : kE.M w base ok x [.string x.k, .int .i64 x.v, .int .i64 x.h] := ⟨[.string x.k], [.int .i64 x.v, .int .i64 x.h], rfl, rfl, ⟨[.int .i64 x.v], [.int .i64 x.h], rfl, rfl, rfl⟩⟩
theorem kE_pos : 0 < kE.sz := by show 0 < 3; omega
def en (x : Nd) : En := ⟨x.k, x.v, x.h⟩
theorem infoE : (Try.prog.info? TE).map (fun i => (i.zero, i.size, i.bytes)) = some (some (.agg #[.string ByteArray.empty, .int .i64 0, .int .i64 0]), 3, 32) := by kernel_rfl
abbrev MR (w : World) (base : Nat) (v : Value) (l : List En) : Prop := kE.R TE w base (fun _ => True) v l

def scanS : List Nd → ByteArray → Bool → Int → List Nd
  | [], _, _, _ => []
  | y :: t, rhi, opn, k => if 0 < k ∧ (opn = true ∨ ltB y.k rhi = true) then y :: scanS t rhi opn (k - 1) else []
def fallS : List Nd → ByteArray → Int → List Nd
  | [], _, _ => []
  | y :: t, rlo, k => if ltB y.k rlo = false ∧ 0 < k then y :: fallS t rlo (k - 1) else []
theorem Sk.nextAt {w : World} {g : Nat} {st : Int} {hd : Nd} {ns pre t : List Nd} {y : Nd} (h : Sk w g st hd ns) (e : ns = pre ++ y :: t) :
    NodeB w y ∧ 1 ≤ y.h ∧ w.cell? ⟨y.q, 0, none⟩ = some (ptr (t.head?.map (·.p))) ∧ IsN w (t.head?.map (·.p)) := by
  subst e
  have hy : y ∈ pre ++ y :: t := List.mem_append_right _ List.mem_cons_self
  have h1 := (h.hts y hy).1
  have hl := h.lnk
  rw [← List.cons_append, Links.split] at hl
  obtain ⟨_, k1, k2, k3⟩ := hl
  have hf : fst? 0 t (fun _ => none) = t.head?.map (·.p) := by
    cases t with
    | nil => rfl
    | cons z u =>
      have := (h.hts z (List.mem_append_right _ (List.mem_cons_of_mem _ List.mem_cons_self))).1
      rw [fst?, if_pos (by omega)]
      rfl
  refine ⟨k1, h1, ?_, ?_⟩
  · rw [← hf]
    exact k2.cell 0 _ (by rw [List.getElem?_map, List.getElem?_range (by omega)]; rfl)
  · rw [← hf]
    exact k3.isN 0 (IsN.nil w)

set_option maxRecDepth 100000 in
set_option maxHeartbeats 8000000 in
theorem scanFore (g : Nat) (hd : Nd) (lo hi : List Nd) (rlo rhi : ByteArray) (opn : Bool) (most : Int) (w : World) (h : Sk w g 0 hd (lo ++ hi)) (hlo : ∀ x ∈ lo, ltB x.k rlo = true) (hhi : ∀ x ∈ hi, ltB x.k rlo = false)
    (hm : 1 ≤ most) (hlen : (lo ++ hi).length ≤ 3518437208780) :
    Calls Try.prog 8 #[.pointer (some ⟨g, 0, none⟩), .agg #[.string rlo, .string rhi, .bool opn], .bool false, .int .i64 most] w fun e w' => ∃ v, e = .returned v ∧ MR w' w.heap.size v ((scanS hi rhi opn most).map en) ∧ Below w.heap.size w w' := by
  have HLen := Aside0.mk hlen
  obtain ⟨W, hW⟩ : ∃ W, W = w.alloc (.cells #[.string rlo, .string rhi, .bool opn] TRg) := ⟨_, rfl⟩
  have hb : Below w.heap.size w W := by rw [hW]; exact (Below.refl _ _).alloc (Nat.le_refl _) _
  have HX : Aside0 (Blk W w.heap.size [.string rlo, .string rhi, .bool opn] TRg) := ⟨by rw [hW]; exact Blk.newA w _ _⟩
  have HB := Aside0.mk hb
  have H := Aside0.mk (h.below hb)
  have HI := Aside0.mk (isTrue g 0 hd _ W H.out)
  have HBf := Aside0.mk (H.out.before rlo hlo hhi)
  have hix := index0 hd lo
  clear h hlo hhi hb hlen
  go_enter Try.func8, Try.ntmps8
  go_wp2_with fail
  rw [← hW]
  clear hW
  refine HI.out.mono ?_
  rintro e w' ⟨rfl, rfl⟩
  have x0 := HX.out.cell 0 _ rfl
  go_wp2_with fail
  refine HBf.out.mono ?_
  rintro e w1 ⟨rfl, hb1⟩
  have HB1 := Aside0.mk (HB.out.trans (hb1.mono HB.out.size))
  have H1 := Aside0.mk (H.out.below hb1)
  have HX1 := Aside0.mk (HX.out.belowSize hb1)
  clear hb1 HB H HX HI HBf x0
  obtain ⟨hn, hlt, hcell, _, hisn⟩ := H1.out.at0 0 (by decide)
  rw [H1.out.fst0] at hcell hisn
  generalize lastAt 0 hd lo = x at *
  have HL := Aside0.mk (pload x.q 0 _ _ hcell hisn)
  have hn2 := hn.cell 2 _ rfl
  have hlt2 : (0 : Int) < (x.h : Int) := by omega
  clear hcell hisn hn
  go_wp2_with fail
  refine HL.out.mono ?_
  rintro e w' ⟨rfl, rfl⟩
  clear HL hn2 hix hlt2 hlt
  go_wp2_with fail
  have HR0 : Aside0 (MR w1 w1.heap.size (.slice none 0 0) []) := ⟨Kd.R_nil _ _ _ _ _⟩
  go_loopg [9, 10] hi.length (fun n o v wz => ∃ (pre t : List Nd) (L : List En), n = t.length ∧ v = ptr (t.head?.map (·.p)) ∧ Aside0 (lo ++ hi = pre ++ t) ∧ Aside0 (MR wz w1.heap.size o L) ∧ Aside0 (L ++ (scanS t rhi opn (most - L.length)).map en = (scanS hi rhi opn most).map en) ∧ Aside0 (L.length ≤ pre.length) ∧ Aside0 (Below w1.heap.size w1 wz))
  case atStart => exact ⟨lo, hi, [], rfl, rfl, ⟨rfl⟩, HR0, ⟨by simp⟩, ⟨Nat.zero_le _⟩, ⟨Below.refl _ _⟩⟩
  case round =>
    clear HR0
    obtain ⟨pre, t, L, rfl, rfl, HE, HR, HF, HK, HBz⟩ := hrel
    obtain ⟨A3, c3, e3⟩ := Kd.R_slice HR.out
    subst e3
    have HXz := Aside0.mk (HX1.out.belowSize HBz.out)
    have q1 := HXz.out.cell 1 _ rfl
    have q2 := HXz.out.cell 2 _ rfl
    have hLl : L.length ≤ 3518437208780 := by
      have := HLen.out
      rw [HE.out, List.length_append] at this
      have := HK.out
      omega
    have HD : Aside0 (∀ v, scanS t rhi opn (most - L.length) = [] → MR wr w1.heap.size v L → MR wr w.heap.size v ((scanS hi rhi opn most).map en)) := ⟨fun v hs hr => by
      have := HF.out
      rw [hs, List.map_nil, List.append_nil] at this
      rw [← this]
      exact Kd.R_lower hr HB1.out.size⟩
    have HBe := Aside0.mk (HB1.out.trans (HBz.out.mono HB1.out.size))
    cases t with
    | nil =>
      have HV := Aside0.mk (HD.out _ rfl HR.out)
      rw [List.head?_nil, Option.map_none, show ptr none = .pointer none from rfl]
      clear HD HF HE HXz
      go_wp2
      go_ret
      exact ⟨_, rfl, HV.out, HBe.out⟩
    | cons y t =>
      have Hz := Aside0.mk (H1.out.below HBz.out)
      obtain ⟨hyn, hyh, hyc, hyi⟩ := Hz.out.nextAt HE.out
      rw [List.head?_cons, Option.map_some, show ptr (some y.p) = .pointer (some ⟨y.p, 0, none⟩) from rfl]
      by_cases hk : (L.length : Int) < most
      · have hyk := hyn.cell 0 _ rfl
        by_cases hst : opn = true ∨ ltB y.k rhi = true
        · have HS : Aside0 (scanS (y :: t) rhi opn (most - L.length) = y :: scanS t rhi opn (most - L.length - 1)) := ⟨by rw [scanS, if_pos ⟨by omega, hst⟩]⟩
          have HEn := Aside0.mk (entryCalls y)
          have HYn := Aside0.mk hyn
          clear hyn hyc hyi HD
          cases opn with
          | true =>
            clear hst
            go_wp2_with fail
            go_quiet (fail)
            have hbq : Below wr.heap.size wr (wr.drewN nq) := pw_below_drewN (Below.refl _ wr) nq
            have HRq := Aside0.mk (Kd.R_below HR.out hbq)
            have HBq := Aside0.mk (HBz.out.trans (hbq.mono HBz.out.size))
            have HYq : Aside0 (NodeB (wr.drewN nq) y) := ⟨HYn.out.belowSize hbq⟩
            clear hbq HR HBz HYn HXz q1 q2 hyk Hz
            generalize wr.drewN nq = wq at *
            go_wp2_with fail
            refine (HEn.out wq HYq.out).mono ?_
            rintro e w5 ⟨rfl, hb5⟩
            have HR5 := Aside0.mk (Kd.R_below HRq.out hb5)
            have HB5 := Aside0.mk (HBq.out.trans (hb5.mono HBq.out.size))
            clear hb5 HRq HBq HYq HEn
            simp only [eV]
            iterate 4 go_step
            refine Kd.R_append kE (w0 := w1) w1.heap.size rfl (.tmp 59) (.tmp 62) 29 TE (.agg #[.string ByteArray.empty, .int .i64 0, .int .i64 0]) 32 rfl Try.underlying29 infoE rfl kE_pos (by omega) (.slice A3 L.length c3) L (en y) [.string y.k, .int .i64 y.v, .int .i64 y.h] (fun _ => True) (fun _ => False) rfl rfl ?aP (fun _ hk => hk.elim) ?aF ?aO ?aB ?aS ?aL ?_
            (case aP => exact kE_mkM _ _ _ (en y))
            (case aF => exact fun _ _ => trivial)
            (case aO => exact HR5.out)
            (case aB => exact HB5.out)
            (case aS => exact below_size HB5.out)
            (case aL => omega)
            intro v1 w6 ho6 hb6 hg6 hat6
            have HO6 := Aside0.mk ho6
            have HB6 := Aside0.mk hb6
            clear ho6 hb6 hg6 hat6 HR5 HB5
            have H6 := Aside0.mk (H1.out.below HB6.out)
            obtain ⟨zyn, zyh, zyc, zyi⟩ := H6.out.nextAt HE.out
            have hz2 := zyn.cell 2 _ rfl
            have hlt3 : (0 : Int) < (y.h : Int) := by omega
            have HLz := Aside0.mk (pload y.q 0 _ _ zyc zyi)
            clear zyn zyc zyi
            go_wp2_with fail
            refine HLz.out.mono ?_
            rintro e w' ⟨rfl, rfl⟩
            clear HLz hz2 hlt3
            go_wp2
            go_roundg t.length
            case measure => simp
            case rel => exact ⟨pre ++ [y], t, L ++ [en y], rfl, rfl, ⟨by rw [HE.out]; simp⟩, HO6, ⟨by
              rw [← HF.out, HS.out, List.map_cons, List.append_assoc, List.singleton_append, List.length_append, List.length_singleton]
              congr 3
              congr 1
              omega⟩, ⟨by rw [List.length_append, List.length_append]; have := HK.out; simp; omega⟩, HB6⟩
          | false =>
            have hkb : Op.bytesLess y.k.toList rhi.toList = true := by
              rcases hst with h | h
              · cases h
              · exact h
            clear hst
            go_wp2_with fail
            go_quiet (fail)
            have hbq : Below wr.heap.size wr (wr.drewN nq) := pw_below_drewN (Below.refl _ wr) nq
            have HRq := Aside0.mk (Kd.R_below HR.out hbq)
            have HBq := Aside0.mk (HBz.out.trans (hbq.mono HBz.out.size))
            have HYq : Aside0 (NodeB (wr.drewN nq) y) := ⟨HYn.out.belowSize hbq⟩
            clear hbq HR HBz HYn HXz q1 q2 hyk Hz
            generalize wr.drewN nq = wq at *
            go_wp2_with fail
            refine (HEn.out wq HYq.out).mono ?_
            rintro e w5 ⟨rfl, hb5⟩
            have HR5 := Aside0.mk (Kd.R_below HRq.out hb5)
            have HB5 := Aside0.mk (HBq.out.trans (hb5.mono HBq.out.size))
            clear hb5 HRq HBq HYq HEn
            simp only [eV]
            iterate 4 go_step
            refine Kd.R_append kE (w0 := w1) w1.heap.size rfl (.tmp 59) (.tmp 62) 29 TE (.agg #[.string ByteArray.empty, .int .i64 0, .int .i64 0]) 32 rfl Try.underlying29 infoE rfl kE_pos (by omega) (.slice A3 L.length c3) L (en y) [.string y.k, .int .i64 y.v, .int .i64 y.h] (fun _ => True) (fun _ => False) rfl rfl ?aP (fun _ hk => hk.elim) ?aF ?aO ?aB ?aS ?aL ?_
            (case aP => exact kE_mkM _ _ _ (en y))
            (case aF => exact fun _ _ => trivial)
            (case aO => exact HR5.out)
            (case aB => exact HB5.out)
            (case aS => exact below_size HB5.out)
            (case aL => omega)
            intro v1 w6 ho6 hb6 hg6 hat6
            have HO6 := Aside0.mk ho6
            have HB6 := Aside0.mk hb6
            clear ho6 hb6 hg6 hat6 HR5 HB5
            have H6 := Aside0.mk (H1.out.below HB6.out)
            obtain ⟨zyn, zyh, zyc, zyi⟩ := H6.out.nextAt HE.out
            have hz2 := zyn.cell 2 _ rfl
            have hlt3 : (0 : Int) < (y.h : Int) := by omega
            have HLz := Aside0.mk (pload y.q 0 _ _ zyc zyi)
            clear zyn zyc zyi
            go_wp2_with fail
            refine HLz.out.mono ?_
            rintro e w' ⟨rfl, rfl⟩
            clear HLz hz2 hlt3
            go_wp2
            go_roundg t.length
            case measure => simp
            case rel => exact ⟨pre ++ [y], t, L ++ [en y], rfl, rfl, ⟨by rw [HE.out]; simp⟩, HO6, ⟨by
              rw [← HF.out, HS.out, List.map_cons, List.append_assoc, List.singleton_append, List.length_append, List.length_singleton]
              congr 3
              congr 1
              omega⟩, ⟨by rw [List.length_append, List.length_append]; have := HK.out; simp; omega⟩, HB6⟩
        · have hop : opn = false := by
            cases opn with
            | true => exact absurd (Or.inl rfl) hst
            | false => rfl
          have hkb : Op.bytesLess y.k.toList rhi.toList = false := by
            cases hb : Op.bytesLess y.k.toList rhi.toList with
            | false => rfl
            | true => exact absurd (Or.inr hb) hst
          have HV := Aside0.mk (fun nq => Kd.R_below (HD.out _ (by rw [scanS, if_neg (fun h => hst h.2)]) HR.out) (pw_below_drewN (Below.refl _ wr) nq))
          clear hst HD HF HE HXz hyn hyc hyi hyh Hz
          subst hop
          go_wp2_with fail
          go_quiet (fail)
          go_wp2
          go_ret
          exact ⟨_, rfl, HV.out nq, pw_below_drewN HBe.out nq⟩
      · have HV := Aside0.mk (HD.out _ (by rw [scanS, if_neg (fun h => hk (by omega))]) HR.out)
        clear HD HF HE HXz hyn hyc hyi hyh Hz
        go_wp2
        go_ret
        exact ⟨_, rfl, HV.out, HBe.out⟩
end Go.Proofs.Ytnpjppnahfehnaa.Skip
