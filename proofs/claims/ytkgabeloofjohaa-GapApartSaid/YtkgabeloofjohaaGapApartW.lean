/- The walk of the law GapApart (printed by wip/tools/gapap.py). -/
import Derived.Test.YtkgabeloofjohaaGapApartA
namespace Go.Proofs.Ytkgabeloofjohaa.Gap
set_option linter.unusedVariables false
set_option linter.unusedSimpArgs false
open Go.RowKit Go.Proofs.YtkgabeloofjohaaW.PrintWords Go.Proofs.YtkgabeloofjohaaW.PrintLast Go.Proofs.Ytkgabeloofjohaa.Kit

theorem P2.new {w w1 w2 W : World} {g1 g2 z1 z2 : Nat} (h1 : Ga w1 g1 0 (.slice none 0 0) [] 0) (h2 : Ga w2 g2 0 (.slice none 0 0) [] 0) (hb1 : Below w.heap.size w w1) (hb2 : Below w1.heap.size w1 w2)
    (hg1 : g1 = w.heap.size) (hg2 : g2 = w1.heap.size) (hz1 : z1 = w2.heap.size) (hz2 : z2 = w2.heap.size + 1)
    (hu1 : ∀ i, use g1 (.slice none 0 0) [] i → w.heap.size ≤ i) (hu2 : ∀ i, use g2 (.slice none 0 0) [] i → w1.heap.size ≤ i)
    (hW : W = (w2.alloc (.cells #[.slice none 0 0, .int .u64 0] TR)).alloc (.cells #[.slice none 0 0, .int .u64 0] TR)) : P2 w W z1 g1 (.slice none 0 0) [] 0 none 0 z2 g2 (.slice none 0 0) [] 0 none 0 := by
  have hbW : Below w2.heap.size w2 W := by rw [hW]; exact ((Below.refl _ w2).alloc (Nat.le_refl _) _).alloc (by rw [World.size_alloc]; omega) _
  have s1 := hb1.size
  have s2 := hb2.size
  have G1 := (h1.below hb2).below hbW
  have G2 := h2.below hbW
  have B1 : Blk W z1 [.slice none 0 0, .int .u64 0] TR := by rw [hW, hz1]; exact (Blk.newA w2 _ _).alloc _
  have B2 : Blk W z2 [.slice none 0 0, .int .u64 0] TR := by
    have := Blk.newA (w2.alloc (.cells #[.slice none 0 0, .int .u64 0] TR)) #[.slice none 0 0, .int .u64 0] TR
    rw [World.size_alloc] at this
    rw [hW, hz2]
    exact this
  have lt1 : ∀ i, use g1 (.slice none 0 0) [] i → i < w1.heap.size := fun i hi => h1.lt hi
  have lt2 : ∀ i, use g2 (.slice none 0 0) [] i → i < w2.heap.size := fun i hi => h2.lt hi
  have hbb : Below w.heap.size w W := (hb1.trans (hb2.mono s1)).trans (hbW.mono (by omega))
  refine ⟨⟨St.new (A := none) (c := 0) G1, B1, fun i hi => ⟨hu1 i hi, by have := lt1 i hi; omega⟩, by omega, hbb⟩, ⟨St.new (A := none) (c := 0) G2, B2, fun i hi => ⟨by have := hu2 i hi; omega, by have := lt2 i hi; omega⟩, by omega, hbb⟩, fun i hi hb => ?_⟩
  rcases hi with hi | hi
  · have := lt1 i hi
    rcases hb with hb | hb
    · have := hu2 i hb
      omega
    · omega
  · rcases hb with hb | hb
    · have := lt2 i hb
      omega
    · omega
/-- What the reference's Take makes of a state, told of the object's. -/
def RefT (k : Nat) (hs : List Hd) (ts : List Tk) (la : Int) (ts' : List Tk) (la' : Int) : Prop :=
  ((256 < k ∨ 256 ≤ ts.length) ∧ ts'.map toRT = ts.map toRT ∧ la' = la) ∨ (k ≤ 256 ∧ ts.length < 256 ∧ ts'.map toRT = ts.map toRT ++ [⟨la + 1, hs⟩] ∧ la' = la + 1)
section
variable {w0 w : World} {n0 za ga zb gb : Nat} {va vb : Value} {tsa tsb : List Tk} {la lb : Int} {Aa Ab : Option Addr} {ca cb : Nat}
theorem Mi.takeCalls (h : Mi w0 w n0 za ga tsa la Aa ca va tsa la zb gb vb tsb lb Ab cb) (A3 : Option Addr) (k c3 : Nat) (hs : List Hd) (hC : kH.C w A3 k hs) (hA : ∀ a, A3 = some a → ∃ cs, w.heap[a.block]? = some (.cells cs TH (0, 0))) (hk : k ≤ 2932031007317) (hl : la < 9223372036854775807) :
    Calls Try.prog 16 #[ptrV ga, .slice A3 k c3] w fun e w' => ∃ r va' tsa' la', e = .returned r ∧ la ≤ la' ∧ la' ≤ la + 1 ∧ Mi w0 w' n0 za ga tsa la Aa ca va' tsa' la' zb gb vb tsb lb Ab cb ∧ (∀ i, n0 ≤ i → i < w.heap.size → ¬ use ga va tsa i → ¬ use ga va' tsa' i) ∧ RefT k hs tsa la tsa' la' ∧ Only (use ga va tsa) w w' := by
  by_cases hf : 256 < k ∨ 256 ≤ tsa.length
  · exact (takeFull ga va A3 k c3 tsa la w h.gA hf hk).mono fun e w' ⟨he, hg, ho⟩ => ⟨_, va, tsa, la, he, Int.le_refl _, by omega, h.take hg h.gr h.pos h.last0 ho (fun i hi => Or.inl hi), fun i _ _ hn => hn, Or.inl ⟨hf, rfl, rfl⟩, ho⟩
  · refine (takeOk ga va A3 k c3 hs tsa la w h.gA hC hA (by omega) (by omega) h.last0 hl).mono fun e w' ⟨v', kk, he, hg, ht, hh, hgr, ho, hu⟩ => ?_
    have hus : ∀ i, use ga v' (regrant (tsa ++ [kk])) i → use ga va tsa i ∨ w.heap.size ≤ i := fun i hi => hu i (use_regrant _ _ _ _ hi)
    have hlt : ∀ x ∈ tsa, x.t < kk.t := fun x hx => by have := h.gA.le x hx; omega
    have hl0 := h.last0
    refine ⟨_, v', _, la + 1, he, by omega, Int.le_refl _, h.take hg (grInv_take h.gr hgr (fun x hx => Int.le_of_lt (hlt x hx))) (fun x hx => ?_) (by omega) ho hus, fun i _ h2 hn hx => ?_, Or.inr ⟨by omega, by omega, ?_, rfl⟩, ho⟩
    · obtain ⟨y, hy, rfl⟩ := List.mem_map.1 hx
      show 1 ≤ y.t
      rw [List.mem_append, List.mem_singleton] at hy
      rcases hy with hy | rfl
      · exact h.pos y hy
      · omega
    · rcases hus i hx with h3 | h3
      · exact hn h3
      · omega
    · rw [rt_regrant, List.map_append]
      show _ ++ [(⟨kk.t, kk.hs⟩ : RT)] = _
      rw [ht, hh]
theorem Mi.refCalls {va' : Value} {tsa' : List Tk} {la' : Int} (h : Mi w0 w n0 za ga tsa la Aa ca va' tsa' la' zb gb vb tsb lb Ab cb) (B : Option Addr) (k d : Nat) (hs : List Hd) (hC : kH.C w B k hs) (hR : RefT k hs tsa la tsa' la') (hsm : tsa.length ≤ 256) (h0 : 0 ≤ la) (hl : la < 9223372036854775807) :
    Calls Try.prog 17 #[.agg #[.slice Aa tsa.length ca, .int .u64 la], .slice B k d] w fun e w' => ∃ A1 c1 t2 e2, e = .returned (.tuple #[.agg #[.slice A1 tsa'.length c1, .int .u64 la'], t2, e2]) ∧ kT.R TK w' 0 (fun i => (((¬ use ga va' tsa' i ∧ ¬ UU gb vb tsb zb i) ∧ i < n0) ∧ i < w.heap.size) ∨ w.heap.size ≤ i) (.slice A1 tsa'.length c1) (tsa'.map toRT) ∧ Below w.heap.size w w' := by
  rcases hR with ⟨hf, hm, rfl⟩ | ⟨h1, h2, hm, rfl⟩
  · have hln : tsa'.length = tsa.length := by
      have := congrArg List.length hm
      simpa using this
    refine (refTakeFull Aa tsa.length ca la' B k d w hf hsm).mono fun e w' ⟨he, hb⟩ => ⟨Aa, ca, _, _, by rw [hln]; exact he, ?_, hb⟩
    rw [hln, hm]
    exact Kd.R_mono (Kd.R_bound (Kd.R_below h.row hb)) (fun i hi => Or.inl ⟨hi.1, by have := hi.1.2; have := h.n0w; omega⟩)
  · have hln : tsa'.length = tsa.length + 1 := by
      have := congrArg List.length hm
      simpa using this
    refine (refTakeOk _ Aa tsa.length ca (tsa.map toRT) la B k d hs w h.row hC h1 h2 (wrapL h0 hl)).mono fun e w' ⟨v', he, hr, hb⟩ => ?_
    obtain ⟨A1, c1, rfl⟩ := Kd.R_slice hr
    have h3 : (tsa.map toRT ++ [(⟨la + 1, hs⟩ : RT)]).length = tsa'.length := by rw [← hm, List.length_map]
    rw [h3] at he hr
    exact ⟨A1, c1, _, _, he, by rw [hm]; exact hr, hb⟩
end
abbrev R2 (w wr : World) (za g zb g2 : Nat) (n n2 : Int) : Prop := ∃ (va : Value) (tsa : List Tk) (la : Int) (Aa : Option Addr) (ca : Nat) (vb : Value) (tsb : List Tk) (lb : Int) (Ab : Option Addr) (cb : Nat), la ≤ n ∧ lb ≤ n2 ∧ P2 w wr za g va tsa la Aa ca zb g2 vb tsb lb Ab cb

set_option maxRecDepth 100000 in
set_option maxHeartbeats 8000000 in
theorem gapApart_walk (L : Option Addr) (d : Nat) (xs : List Ac) (L2 : Option Addr) (d2 : Nat) (ys : List Ac) (w : World) (hC : kA.C w L xs.length xs) (hxl : xs.length * 40 ≤ 140737488351232) (hok : ∀ x ∈ xs, okAc x) (hD : kA.C w L2 ys.length ys) (hyl : ys.length * 40 ≤ 140737488351232) (hok2 : ∀ x ∈ ys, okAc x) :
    Calls Try.prog 5 #[.slice L xs.length d, .slice L2 ys.length d2] w fun e w' => e = .returned (.bool true) ∧ Below w.heap.size w w' := by
  have hu := Try.underlying28
  have huA := Try.underlying34
  have hz := zeroTR
  have HC : Aside0 (∀ W', Below w.heap.size w W' → kA.C W' L xs.length xs) := ⟨fun W' h => Kd.C_below hC h⟩
  have HD : Aside0 (∀ W', Below w.heap.size w W' → kA.C W' L2 ys.length ys) := ⟨fun W' h => Kd.C_below hD h⟩
  have HOk := Aside0.mk hok
  have HOk2 := Aside0.mk hok2
  obtain ⟨m, hm'⟩ : ∃ m, m = xs.length := ⟨_, rfl⟩
  have Hm := Aside0.mk hm'
  rw [← hm'] at hxl HC ⊢
  have HMl := Aside0.mk (show m ≤ 3518437208780 by omega)
  obtain ⟨m2, hm2'⟩ : ∃ m, m = ys.length := ⟨_, rfl⟩
  have Hm2 := Aside0.mk hm2'
  rw [← hm2'] at hyl HD ⊢
  have HMl2 := Aside0.mk (show m2 ≤ 3518437208780 by omega)
  clear hm' hC hok hxl hm2' hD hok2 hyl
  go_enter Try.func5, Try.ntmps5
  go_wp2_with fail
  refine (newCalls w).mono ?_
  rintro e w1 ⟨rfl, hg1, hb1, hu1⟩
  have HG1 := Aside0.mk hg1
  have HB1 := Aside0.mk hb1
  have HU1 := Aside0.mk hu1
  clear hg1 hb1 hu1
  go_wp2_with fail
  refine (newCalls w1).mono ?_
  rintro e w2 ⟨rfl, hg2, hb2, hu2⟩
  have HG2 := Aside0.mk hg2
  have HB2 := Aside0.mk hb2
  have HU2 := Aside0.mk hu2
  clear hg2 hb2 hu2
  go_upto_region 5 with (fail)
  obtain ⟨W, hW⟩ : ∃ W, W = (w2.alloc (.cells #[.slice none 0 0, .int .u64 0] TR)).alloc (.cells #[.slice none 0 0, .int .u64 0] TR) := ⟨_, rfl⟩
  have HP0 := Aside0.mk (P2.new HG1.out HG2.out HB1.out HB2.out rfl rfl rfl rfl HU1.out HU2.out hW)
  rw [← hW]
  clear hW HG1 HG2 HB1 HB2 HU1 HU2
  generalize w2.heap.size = za at *
  generalize w1.heap.size = gb at *
  obtain ⟨mm, hmm⟩ : ∃ mm, mm = max m m2 := ⟨_, rfl⟩
  have HMm : Aside0 (m ≤ mm ∧ m2 ≤ mm ∧ mm ≤ 3518437208780 ∧ (mm = m ∨ mm = m2)) := ⟨by have := HMl.out; have := HMl2.out; omega⟩
  clear hmm
  go_wp2_with fail
  go_loopw [9] (fun v9 wr => ∃ i : Nat, i ≤ mm ∧ v9 = .int .i64 i ∧ Aside0 (R2 w wr za w.heap.size (za + 1) gb (i : Int) (i : Int))) (fun v9 _ => mm - (intOf v9).toNat)
  case atStart => exact ⟨0, Nat.zero_le _, rfl, ⟨_, _, _, _, _, _, _, _, _, _, Int.le_refl _, Int.le_refl _, HP0.out⟩⟩
  case round =>
    clear HP0
    obtain ⟨i, hi, rfl, HR⟩ := hrel
    have hml := HMm.out
    by_cases hc : i < m ∨ i < m2
    · have hbig : i < 3518437208780 := by omega
      have i2 : IntKind.i64.wrap ((i : Int) + 1) = ((i + 1 : Nat) : Int) := IntWalk.i64_in _ (by omega)
      by_cases hm1 : i < m
      · have i1 : (i : Int) < (m : Int) := by omega
        clear hc
        by_cases hm2 : i < m2
        · have i3 : (i : Int) < (m2 : Int) := by omega
          obtain ⟨va, tsa, la, Aa, ca, vb, tsb, lb, Ab, cb, hla, hlb, hp⟩ := HR.out
          have HP := Aside0.mk hp
          have HLa := Aside0.mk hla
          have HLb := Aside0.mk hlb
          clear hp hla hlb HR
          obtain ⟨b, o, x, B, dd, rfl, hx, z0, z1, z2, hcw⟩ := kA_at (HC.out w (Below.refl _ _)) i hm1
          have HXo := Aside0.mk (HOk.out x (List.mem_of_getElem? hx))
          have HCx : Aside0 (∀ W', Below w.heap.size w W' → kH.C W' B x.l.length x.l) := ⟨fun W' h => Kd.C_below hcw h⟩
          have HCc : Aside0 (∀ W', Below w.heap.size w W' → W'.cell? ⟨b, o + i * 3 + 1, none⟩ = some (.slice B x.l.length dd)) := ⟨fun W' h => pw_cell_below h z1⟩
          have c0 := pw_cell_below HP.out.a.below z0
          have c1' := pw_cell_below HP.out.a.below z1
          have c2 := pw_cell_below HP.out.a.below z2
          have hcx := HCx.out wr HP.out.a.below
          clear hx hcw z0 z1 z2
          have hFa : ∀ j, wr.drew.heap.size ≤ j → ¬ UU gb vb tsb (za + 1) j := fun j hj hu => by
            have h1 : wr.heap.size ≤ j := hj
            have := HP.out.b.uLt hu
            omega
          have HDo : Aside0 (Calls Try.prog 7 #[ptrV w.heap.size, .agg #[.slice Aa tsa.length ca, .int .u64 la], .agg #[.int .i64 x.kd, .slice B x.l.length dd, .int .i64 x.n]] wr.drew (DoesP (fun j => ¬ UU gb vb tsb (za + 1) j) w.heap.size va tsa la wr.drew)) := ⟨by
            have hb := (Below.refl wr.heap.size wr).drew
            have h48 := HXo.out.2.1.1
            have hl := HLa.out
            exact doesCalls w.heap.size va tsa la Aa ca x.kd x.n B x.l.length dd x.l wr.drew (HP.out.a.st.below hb) (Kd.C_below hcx hb) (by omega) (by omega) hFa⟩
          have g0 := HP.out.a.box.cell 0 _ rfl
          have g1 := HP.out.a.box.cell 1 _ rfl
          clear hcx hFa
          have HXl : Aside0 (x.l.length ≤ 2932031007317) := ⟨by have := HXo.out.2.1.1; omega⟩
          clear HXo
          obtain ⟨xk, xl, xn⟩ := x
          simp only [] at c0 c1' c2 HDo HCx HCc HXl
          have HLen : Aside0 (tsa.length ≤ 256 ∧ 0 ≤ la) := ⟨⟨HP.out.a.st.ga.small, HP.out.a.st.last0⟩⟩
          obtain ⟨nl, hnl⟩ : ∃ nl, nl = xl.length := ⟨_, rfl⟩
          rw [← hnl] at c1' HDo HCx HCc HXl
          have HNl := Aside0.mk hnl
          clear hnl
          obtain ⟨ln, hln⟩ : ∃ ln, ln = tsa.length := ⟨_, rfl⟩
          rw [← hln] at g0 HDo
          have HLn := Aside0.mk hln
          clear hln
          obtain ⟨kb, hkb⟩ : ∃ kb, (xk == 0) = kb := ⟨_, rfl⟩
          go_upto_if 47 with (fail)
          go_cut [11] (fun v wc => Aside0 (R2 w wc za w.heap.size (za + 1) gb ((i : Int) + 1) (i : Int)))
          case first =>
            cases kb with
            | true =>
              go_wp2_with fail
              refine (lawHolds B nl dd xl wr (HCx.out wr HP.out.a.below) HXl.out).mono ?_
              rintro e w3 ⟨v3, rfl, hr3, hb3⟩
              have HMd : Aside0 (Mi w w3 wr.heap.size za w.heap.size tsa la Aa ca va tsa la (za + 1) gb vb tsb lb Ab cb) := ⟨HP.out.mid.belowed hb3⟩
              have HIn := Aside0.mk hr3
              obtain ⟨A3, c3, e3, hC3, hA3⟩ := tk_of_R hr3
              subst e3
              rw [← HNl.out] at hC3 HIn ⊢
              have HTk := Aside0.mk (HMd.out.takeCalls A3 nl c3 xl hC3 (fun a ha => (hA3 a ha).1) HXl.out (by have := HLa.out; omega))
              have HNu : Aside0 (∀ j, wr.heap.size ≤ j → ¬ use w.heap.size va tsa j) := ⟨fun j hj hu => by have := HP.out.a.st.ga.lt hu; omega⟩
              have HBw : Aside0 (Below w.heap.size w wr) := ⟨HP.out.a.below⟩
              clear hr3 hb3 hC3 hA3 HMd HP g0 g1 c0 c1' c2 HDo
              go_wp2_with fail
              refine HTk.out.mono ?_
              rintro e w4 ⟨r4, va', tsa', la', rfl, hl1, hl2, hmi, hnu, hrt, ho4⟩
              have HMi0 := Aside0.mk hmi
              have HRt := Aside0.mk hrt
              have HL4 : Aside0 (la' ≤ la + 1) := ⟨hl2⟩
              have HIb : Aside0 (0 < nl → ∃ inb cs, A3 = some ⟨inb, 0, none⟩ ∧ Blk w4 inb cs TH ∧ nl * 4 ≤ cs.length ∧ wr.heap.size ≤ inb ∧ ¬ use w.heap.size va' tsa' inb) := ⟨fun h0 => by
                obtain ⟨inb, cs, e1, e2, e3, e4⟩ := R_blk HIn.out h0
                exact ⟨inb, cs, e1, ho4.blk e2 (HNu.out inb e4), e3, e4, hnu inb e4 e2.lt (HNu.out inb e4)⟩⟩
              clear hl1 hl2 hmi hnu hrt ho4 HTk HIn HNu
              generalize wr.heap.size = n0 at *
              have hxl2 := HXl.out
              go_wp2_with fail
              go_loopw [11] (fun v11 wr' => ∃ j : Nat, j ≤ nl ∧ v11 = .int .i64 j ∧ Aside0 (Mi w wr' n0 za w.heap.size tsa la Aa ca va' tsa' la' (za + 1) gb vb tsb lb Ab cb ∧ (0 < nl → ∃ inb cs, A3 = some ⟨inb, 0, none⟩ ∧ Blk wr' inb cs TH ∧ nl * 4 ≤ cs.length ∧ n0 ≤ inb ∧ ¬ use w.heap.size va' tsa' inb))) (fun v11 _ => nl - (intOf v11).toNat)
              case atStart => exact ⟨0, Nat.zero_le _, rfl, ⟨HMi0.out, HIb.out⟩⟩
              case round =>
                clear HMi0 HIb
                obtain ⟨j, hj, rfl, HMj⟩ := hrel
                by_cases hjlt : j < nl
                · obtain ⟨inb, cs, rfl, hbk, hcs, hin, hnu⟩ := HMj.out.2 (by omega)
                  have j1 : (j : Int) < (nl : Int) := by omega
                  obtain ⟨u0, hu0⟩ : ∃ u, cs[j * 4]? = some u := ⟨_, List.getElem?_eq_getElem (by omega)⟩
                  obtain ⟨u1, hu1⟩ : ∃ u, cs[j * 4 + 1]? = some u := ⟨_, List.getElem?_eq_getElem (by omega)⟩
                  obtain ⟨u2, hu2⟩ : ∃ u, cs[j * 4 + 2]? = some u := ⟨_, List.getElem?_eq_getElem (by omega)⟩
                  obtain ⟨u3, hu3⟩ : ∃ u, cs[j * 4 + 3]? = some u := ⟨_, List.getElem?_eq_getElem (by omega)⟩
                  have q0 := hbk.cell _ _ hu0
                  have q1 := hbk.cell _ _ hu1
                  have q2 := hbk.cell _ _ hu2
                  have q3 := hbk.cell _ _ hu3
                  have p1 := (hbk.put (j * 4) (.string ⟨#[]⟩)).cell (j * 4 + 1) u1 (by rw [List.getElem?_set_ne (by omega)]; exact hu1)
                  have p2 := ((hbk.put (j * 4) (.string ⟨#[]⟩)).put (j * 4 + 1) (.string ⟨#[]⟩)).cell (j * 4 + 2) u2 (by rw [List.getElem?_set_ne (by omega), List.getElem?_set_ne (by omega)]; exact hu2)
                  have p3 := (((hbk.put (j * 4) (.string ⟨#[]⟩)).put (j * 4 + 1) (.string ⟨#[]⟩)).put (j * 4 + 2) (.bool true)).cell (j * 4 + 3) u3 (by rw [List.getElem?_set_ne (by omega), List.getElem?_set_ne (by omega), List.getElem?_set_ne (by omega)]; exact hu3)
                  have f0 := hbk.free (j * 4)
                  have f1 := hbk.free (j * 4 + 1)
                  have f2 := hbk.free (j * 4 + 2)
                  have f3 := hbk.free (j * 4 + 3)
                  have k1 := (hbk.put (j * 4) (.string ⟨#[]⟩)).free (j * 4 + 1)
                  have k2 := ((hbk.put (j * 4) (.string ⟨#[]⟩)).put (j * 4 + 1) (.string ⟨#[]⟩)).free (j * 4 + 2)
                  have k3 := (((hbk.put (j * 4) (.string ⟨#[]⟩)).put (j * 4 + 1) (.string ⟨#[]⟩)).put (j * 4 + 2) (.bool true)).free (j * 4 + 3)
                  have HNx := Aside0.mk ((((hbk.put (j * 4) (.string ⟨#[]⟩)).put (j * 4 + 1) (.string ⟨#[]⟩)).put (j * 4 + 2) (.bool true)).put (j * 4 + 3) (.bool true))
                  have HMx := Aside0.mk (HMj.out.1.write (onlyR (o := j * 4 + 3) (u := .bool true) (onlyR (o := j * 4 + 2) (u := .bool true) (onlyR (o := j * 4 + 1) (u := .string ⟨#[]⟩) (onlyR (o := j * 4) (u := .string ⟨#[]⟩) (Only.refl _ wr))))) hin hnu)
                  have HLx : Aside0 (nl * 4 ≤ ((((cs.set (j * 4) (.string ⟨#[]⟩)).set (j * 4 + 1) (.string ⟨#[]⟩)).set (j * 4 + 2) (.bool true)).set (j * 4 + 3) (.bool true)).length) := ⟨by simp only [List.length_set]; exact hcs⟩
                  have HIn := Aside0.mk hin
                  have HNu := Aside0.mk hnu
                  clear hbk hcs hin hnu hu0 hu1 hu2 hu3 HMj
                  go_wp2
                  go_roundw
                  case rel => exact ⟨j + 1, by omega, by go_num, ⟨HMx.out, fun _ => ⟨inb, _, rfl, HNx.out, HLx.out, HIn.out, HNu.out⟩⟩⟩
                  case measure => simp [intOf]; omega
                · obtain rfl : nl = j := by omega
                  clear hj
                  have HMi := Aside0.mk HMj.out.1
                  have HRf : Aside0 (Calls Try.prog 17 #[.agg #[.slice Aa ln ca, .int .u64 la], .slice B nl dd] wr.drew fun e w' => ∃ A1 c1 t2 e2, e = .returned (.tuple #[.agg #[.slice A1 tsa'.length c1, .int .u64 la'], t2, e2]) ∧ kT.R TK w' 0 (fun i => (((¬ use w.heap.size va' tsa' i ∧ ¬ UU gb vb tsb (za + 1) i) ∧ i < n0) ∧ i < wr.heap.size) ∨ wr.heap.size ≤ i) (.slice A1 tsa'.length c1) (tsa'.map toRT) ∧ Below wr.heap.size wr w') := ⟨by
                    have hb := (Below.refl wr.heap.size wr).drew
                    have hm := HMi.out.belowed hb
                    have hcx := HCx.out wr.drew hm.b.below
                    rw [HLn.out]
                    exact (hm.refCalls B nl dd xl hcx HRt.out HLen.out.1 HLen.out.2 (by have := HLa.out; omega)).mono fun e w' ⟨A1, c1, t2, e2, he, hr, hbw⟩ => ⟨A1, c1, t2, e2, he, hr, hb.trans hbw⟩⟩
                  have g0 := HMi.out.box.cell 0 _ rfl
                  have g1 := HMi.out.box.cell 1 _ rfl
                  rw [← HLn.out] at g0
                  have c1' := HCc.out wr HMi.out.b.below
                  clear HMj
                  go_upto_region 15 with (fail)
                  refine start_ (n := 12) (S := fun w' => w'.cell? ⟨za, 0, none⟩ = some (.slice Aa ln ca) ∧ w'.cell? ⟨za, 1, none⟩ = some (.int .u64 la) ∧ w'.cell? ⟨b, o + i * 3 + 1, none⟩ = some (.slice B nl dd)) (ds := [6, 11]) #[false, false, false, false, false, false, false, false, false, false, false, false] (by kernel_rfl) rfl rfl ⟨g0, g1, c1'⟩ (fun hHeld => ?_)
                  refine pure_ (i := 1) (N := some 70) (v := ?_) (a' := ?_) #[false, true, false, false, false, false, false, false, false, false, false, false] rfl rfl (by kernel_rfl) (fun _ _ _ h => h) (Or.inl ⟨by rfl, ?_⟩) ?_ ?_
                  rotate_left
                  · intro w'
                    go_simp
                    with_reducible rfl
                  rotate_left
                  · simp only [Act.put, List.setIfInBounds_toArray, List.set_cons_zero, List.set_cons_succ, i64_w, i32_w]
                    rfl
                  refine pure_ (i := 2) (N := some 71) (v := ?_) (a' := ?_) #[false, true, true, false, false, false, false, false, false, false, false, false] rfl rfl (by kernel_rfl) (fun _ _ _ h => h) (Or.inl ⟨by rfl, ?_⟩) ?_ ?_
                  rotate_left
                  · intro w'
                    go_simp
                    with_reducible rfl
                  rotate_left
                  · simp only [Act.put, List.setIfInBounds_toArray, List.set_cons_zero, List.set_cons_succ, i64_w, i32_w]
                    rfl
                  refine pure_ (i := 3) (N := some 72) (v := ?_) (a' := ?_) #[false, true, true, true, false, false, false, false, false, false, false, false] rfl rfl (by kernel_rfl) (fun _ _ _ h => h) (Or.inl ⟨by rfl, ?_⟩) ?_ ?_
                  rotate_left
                  · intro w'
                    go_simp
                    with_reducible rfl
                  rotate_left
                  · simp only [Act.put, List.setIfInBounds_toArray, List.set_cons_zero, List.set_cons_succ, i64_w, i32_w]
                    rfl
                  refine pure_ (i := 4) (N := some 73) (v := ?_) (a' := ?_) #[false, true, true, true, true, false, false, false, false, false, false, false] rfl rfl (by kernel_rfl) (fun _ _ _ h => h) (Or.inl ⟨by rfl, ?_⟩) ?_ ?_
                  rotate_left
                  · intro w'
                    go_simp
                    with_reducible rfl
                  rotate_left
                  · simp only [Act.put, List.setIfInBounds_toArray, List.set_cons_zero, List.set_cons_succ, i64_w, i32_w]
                    rfl
                  refine take_ (i := 0) (N := some 69) (v := ?_) (a' := ?_) #[true, true, true, true, true, false, false, false, false, false, false, false] rfl rfl (by kernel_rfl) (fun _ _ _ h => h) (Or.inl ⟨by rfl, ?_⟩) hHeld ?_ ?_
                  rotate_left
                  · rintro w' ⟨s0, s1, s2⟩
                    go_simp
                    with_reducible rfl
                  rotate_left
                  · simp only [Act.put, List.setIfInBounds_toArray, List.set_cons_zero, List.set_cons_succ, i64_w, i32_w]
                    rfl
                  refine take_ (i := 5) (N := some 74) (v := ?_) (a' := ?_) #[true, true, true, true, true, true, false, false, false, false, false, false] rfl rfl (by kernel_rfl) (fun _ _ _ h => h) (Or.inl ⟨by rfl, ?_⟩) hHeld ?_ ?_
                  rotate_left
                  · rintro w' ⟨s0, s1, s2⟩
                    go_simp
                    with_reducible rfl
                  rotate_left
                  · simp only [Act.put, List.setIfInBounds_toArray, List.set_cons_zero, List.set_cons_succ, i64_w, i32_w]
                    rfl
                  refine last_ (i := 6) (N := some 75) #[true, true, true, true, true, true, true, false, false, false, false, false] rfl rfl (by kernel_rfl) (by decide) (fun K hK => ?_)
                  refine goes_ Try.func17 (by kernel_rfl) rfl #[.agg #[.slice Aa ln ca, .int .u64 la], .slice B nl dd] (by rfl) rfl rfl (by simp only [List.map_toArray, List.map_cons, List.map_nil]; rfl) ?_
                  with_reducible refine (HRf.out).mono ?_
                  rintro e w8 ⟨A1, c1, t2, e2, rfl, hr8, hb8⟩
                  have hp5 := HMi.out.done hb8 hr8
                  have h0 := hp5.2.cell 0 _ rfl
                  have h1 := hp5.2.cell 1 _ rfl
                  have h1' := (hp5.2.put 0 (.slice A1 tsa'.length c1)).cell 1 _ rfl
                  have f0 := hp5.2.free 0
                  have f1 := hp5.2.free 1
                  have f1' := (hp5.2.put 0 (.slice A1 tsa'.length c1)).free 1
                  refine ⟨_, rfl, ?_⟩
                  refine hK.out _ _ ?_
                  clear hK K
                  refine norm_ (a' := ?_) ?_ ?_
                  rotate_left
                  · show Act.put _ (some 75) _ = _
                    simp only [Act.put, List.setIfInBounds_toArray, List.set_cons_zero, List.set_cons_succ, i64_w, i32_w]
                    rfl
                  refine pure_ (i := 7) (N := some 68) (v := ?_) (a' := ?_) #[true, true, true, true, true, true, true, true, false, false, false, false] rfl rfl (by kernel_rfl) (fun _ _ _ h => h) (Or.inl ⟨by rfl, ?_⟩) ?_ ?_
                  rotate_left
                  · intro w'
                    go_simp
                    with_reducible rfl
                  rotate_left
                  · simp only [Act.put, List.setIfInBounds_toArray, List.set_cons_zero, List.set_cons_succ, i64_w, i32_w]
                    rfl
                  refine pure_ (i := 8) (N := some 76) (v := ?_) (a' := ?_) #[true, true, true, true, true, true, true, true, true, false, false, false] rfl rfl (by kernel_rfl) (fun _ _ _ h => h) (Or.inl ⟨by rfl, ?_⟩) ?_ ?_
                  rotate_left
                  · intro w'
                    go_simp
                    with_reducible rfl
                  rotate_left
                  · simp only [Act.put, List.setIfInBounds_toArray, List.set_cons_zero, List.set_cons_succ, i64_w, i32_w]
                    rfl
                  refine pure_ (i := 9) (N := some 77) (v := ?_) (a' := ?_) #[true, true, true, true, true, true, true, true, true, true, false, false] rfl rfl (by kernel_rfl) (fun _ _ _ h => h) (Or.inl ⟨by rfl, ?_⟩) ?_ ?_
                  rotate_left
                  · intro w'
                    go_simp
                    with_reducible rfl
                  rotate_left
                  · simp only [Act.put, List.setIfInBounds_toArray, List.set_cons_zero, List.set_cons_succ, i64_w, i32_w]
                    rfl
                  refine pure_ (i := 10) (N := some 78) (v := ?_) (a' := ?_) #[true, true, true, true, true, true, true, true, true, true, true, false] rfl rfl (by kernel_rfl) (fun _ _ _ h => h) (Or.inl ⟨by rfl, ?_⟩) ?_ ?_
                  rotate_left
                  · intro w'
                    go_simp
                    with_reducible rfl
                  rotate_left
                  · simp only [Act.put, List.setIfInBounds_toArray, List.set_cons_zero, List.set_cons_succ, i64_w, i32_w]
                    rfl
                  refine last_ (i := 11) (N := none) #[true, true, true, true, true, true, true, true, true, true, true, true] rfl rfl (by kernel_rfl) (by decide) (fun K hK => ?_)
                  refine skip_ (w1 := ?_) (by rfl) rfl ?_ ?_
                  rotate_left
                  · go_simp
                    rfl
                  refine hK.out _ _ ?_
                  clear hK K
                  refine done_ (by kernel_rfl) ?_
                  have HRz : Aside0 (R2 w ((w8.setCell ⟨za, 0, none⟩ (.slice A1 tsa'.length c1)).setCell ⟨za, 1, none⟩ (.int .u64 la')) za w.heap.size (za + 1) gb ((i : Int) + 1) (i : Int)) := ⟨⟨_, _, _, _, _, _, _, _, _, _, by have := HL4.out; have := HLa.out; omega, HLb.out, hp5.1⟩⟩
                  clear hp5 hr8 hb8 h0 h1 h1' f0 f1 f1' g0 g1 c1'
                  go_wp2
                  go_meet
                  exact HRz
            | false =>
              go_upto_region 17 with (fail)
              refine start_ (n := 11) (S := fun w' => w'.cell? ⟨za, 0, none⟩ = some (.slice Aa ln ca) ∧ w'.cell? ⟨za, 1, none⟩ = some (.int .u64 la) ∧ w'.cell? ⟨b, o + i * 3, none⟩ = some (.int .i64 xk) ∧ w'.cell? ⟨b, o + i * 3 + 1, none⟩ = some (.slice B nl dd) ∧ w'.cell? ⟨b, o + i * 3 + 2, none⟩ = some (.int .i64 xn)) (ds := [6, 10]) #[false, false, false, false, false, false, false, false, false, false, false] (by kernel_rfl) rfl rfl ⟨g0, g1, c0, c1', c2⟩ (fun hHeld => ?_)
              refine pure_ (i := 0) (N := some 84) (v := ?_) (a' := ?_) #[true, false, false, false, false, false, false, false, false, false, false] rfl rfl (by kernel_rfl) (fun _ _ _ h => h) (Or.inl ⟨by rfl, ?_⟩) ?_ ?_
              rotate_left
              · intro w'
                go_simp
                with_reducible rfl
              rotate_left
              · simp only [Act.put, List.setIfInBounds_toArray, List.set_cons_zero, List.set_cons_succ, i64_w, i32_w]
                rfl
              refine pure_ (i := 2) (N := some 86) (v := ?_) (a' := ?_) #[true, false, true, false, false, false, false, false, false, false, false] rfl rfl (by kernel_rfl) (fun _ _ _ h => h) (Or.inl ⟨by rfl, ?_⟩) ?_ ?_
              rotate_left
              · intro w'
                go_simp
                with_reducible rfl
              rotate_left
              · simp only [Act.put, List.setIfInBounds_toArray, List.set_cons_zero, List.set_cons_succ, i64_w, i32_w]
                rfl
              refine pure_ (i := 3) (N := some 87) (v := ?_) (a' := ?_) #[true, false, true, true, false, false, false, false, false, false, false] rfl rfl (by kernel_rfl) (fun _ _ _ h => h) (Or.inl ⟨by rfl, ?_⟩) ?_ ?_
              rotate_left
              · intro w'
                go_simp
                with_reducible rfl
              rotate_left
              · simp only [Act.put, List.setIfInBounds_toArray, List.set_cons_zero, List.set_cons_succ, i64_w, i32_w]
                rfl
              refine pure_ (i := 4) (N := some 88) (v := ?_) (a' := ?_) #[true, false, true, true, true, false, false, false, false, false, false] rfl rfl (by kernel_rfl) (fun _ _ _ h => h) (Or.inl ⟨by rfl, ?_⟩) ?_ ?_
              rotate_left
              · intro w'
                go_simp
                with_reducible rfl
              rotate_left
              · simp only [Act.put, List.setIfInBounds_toArray, List.set_cons_zero, List.set_cons_succ, i64_w, i32_w]
                rfl
              refine take_ (i := 1) (N := some 85) (v := ?_) (a' := ?_) #[true, true, true, true, true, false, false, false, false, false, false] rfl rfl (by kernel_rfl) (fun _ _ _ h => h) (Or.inl ⟨by rfl, ?_⟩) hHeld ?_ ?_
              rotate_left
              · rintro w' ⟨s0, s1, s2, s3, s4⟩
                go_simp
                with_reducible rfl
              rotate_left
              · simp only [Act.put, List.setIfInBounds_toArray, List.set_cons_zero, List.set_cons_succ, i64_w, i32_w]
                rfl
              refine take_ (i := 5) (N := some 89) (v := ?_) (a' := ?_) #[true, true, true, true, true, true, false, false, false, false, false] rfl rfl (by kernel_rfl) (fun _ _ _ h => h) (Or.inl ⟨by rfl, ?_⟩) hHeld ?_ ?_
              rotate_left
              · rintro w' ⟨s0, s1, s2, s3, s4⟩
                go_simp
                with_reducible rfl
              rotate_left
              · simp only [Act.put, List.setIfInBounds_toArray, List.set_cons_zero, List.set_cons_succ, i64_w, i32_w]
                rfl
              refine last_ (i := 6) (N := some 90) #[true, true, true, true, true, true, true, false, false, false, false] rfl rfl (by kernel_rfl) (by decide) (fun K hK => ?_)
              refine goes_ Try.func7 (by kernel_rfl) rfl #[ptrV w.heap.size, .agg #[.slice Aa ln ca, .int .u64 la], .agg #[.int .i64 xk, .slice B nl dd, .int .i64 xn]] (by rfl) rfl rfl (by simp only [List.map_toArray, List.map_cons, List.map_nil]; rfl) ?_
              with_reducible refine (HDo.out).mono ?_
              rintro e w4 ⟨v', ts', last', A', c', rfl, hst, ho, hu5, hl1, hl2, hsp⟩
              have hp5 := HP.out.acts hst ((Only.drew (Only.refl _ wr)).trans ho) hu5
              have h0 := hp5.2.cell 0 _ rfl
              have h1 := hp5.2.cell 1 _ rfl
              have h1' := (hp5.2.put 0 (.slice A' ts'.length c')).cell 1 _ rfl
              have f0 := hp5.2.free 0
              have f1 := hp5.2.free 1
              have f1' := (hp5.2.put 0 (.slice A' ts'.length c')).free 1
              refine ⟨_, rfl, ?_⟩
              refine hK.out _ _ ?_
              clear hK K
              refine norm_ (a' := ?_) ?_ ?_
              rotate_left
              · show Act.put _ (some 90) _ = _
                simp only [Act.put, List.setIfInBounds_toArray, List.set_cons_zero, List.set_cons_succ, i64_w, i32_w]
                rfl
              refine pure_ (i := 7) (N := some 83) (v := ?_) (a' := ?_) #[true, true, true, true, true, true, true, true, false, false, false] rfl rfl (by kernel_rfl) (fun _ _ _ h => h) (Or.inl ⟨by rfl, ?_⟩) ?_ ?_
              rotate_left
              · intro w'
                go_simp
                with_reducible rfl
              rotate_left
              · simp only [Act.put, List.setIfInBounds_toArray, List.set_cons_zero, List.set_cons_succ, i64_w, i32_w]
                rfl
              refine pure_ (i := 8) (N := some 91) (v := ?_) (a' := ?_) #[true, true, true, true, true, true, true, true, true, false, false] rfl rfl (by kernel_rfl) (fun _ _ _ h => h) (Or.inl ⟨by rfl, ?_⟩) ?_ ?_
              rotate_left
              · intro w'
                go_simp
                with_reducible rfl
              rotate_left
              · simp only [Act.put, List.setIfInBounds_toArray, List.set_cons_zero, List.set_cons_succ, i64_w, i32_w]
                rfl
              refine pure_ (i := 9) (N := some 92) (v := ?_) (a' := ?_) #[true, true, true, true, true, true, true, true, true, true, false] rfl rfl (by kernel_rfl) (fun _ _ _ h => h) (Or.inl ⟨by rfl, ?_⟩) ?_ ?_
              rotate_left
              · intro w'
                go_simp
                with_reducible rfl
              rotate_left
              · simp only [Act.put, List.setIfInBounds_toArray, List.set_cons_zero, List.set_cons_succ, i64_w, i32_w]
                rfl
              refine last_ (i := 10) (N := none) #[true, true, true, true, true, true, true, true, true, true, true] rfl rfl (by kernel_rfl) (by decide) (fun K hK => ?_)
              refine skip_ (w1 := ?_) (by rfl) rfl ?_ ?_
              rotate_left
              · go_simp
                rfl
              refine hK.out _ _ ?_
              clear hK K
              refine done_ (by kernel_rfl) ?_
              have HRz : Aside0 (R2 w ((w4.setCell ⟨za, 0, none⟩ (.slice A' ts'.length c')).setCell ⟨za, 1, none⟩ (.int .u64 last')) za w.heap.size (za + 1) gb ((i : Int) + 1) (i : Int)) := ⟨⟨_, _, _, _, _, _, _, _, _, _, by have := HLa.out; omega, HLb.out, hp5.1⟩⟩
              clear hp5 hst ho hu5 h0 h1 h1' f0 f1 f1' g0 g1 c0 c1' c2
              go_wp2
              go_meet
              exact HRz
          case rest =>
            clear HP HLa HLb HDo HCx HCc HXl HLen HNl HLn g0 g1 c0 c1' c2 hkb
            have HR := hcut
            clear hcut
            obtain ⟨va, tsa, la, Aa, ca, vb, tsb, lb, Ab, cb, hla, hlb, hp⟩ := HR.out
            have HP := Aside0.mk hp
            have HLa := Aside0.mk hla
            have HLb := Aside0.mk hlb
            clear hp hla hlb HR
            obtain ⟨b, o, x, B, dd, rfl, hx, z0, z1, z2, hcw⟩ := kA_at (HD.out w (Below.refl _ _)) i hm2
            have HXo := Aside0.mk (HOk2.out x (List.mem_of_getElem? hx))
            have c0 := pw_cell_below HP.out.a.below z0
            have c1' := pw_cell_below HP.out.a.below z1
            have c2 := pw_cell_below HP.out.a.below z2
            have hcx := Kd.C_below hcw HP.out.a.below
            clear hx hcw z0 z1 z2
            have hFa : ∀ j, wc.drew.heap.size ≤ j → ¬ UU w.heap.size va tsa za j := fun j hj hu => by
              have h1 : wc.heap.size ≤ j := hj
              have := HP.out.a.uLt hu
              omega
            have HDo : Aside0 (Calls Try.prog 7 #[ptrV gb, .agg #[.slice Ab tsb.length cb, .int .u64 lb], .agg #[.int .i64 x.kd, .slice B x.l.length dd, .int .i64 x.n]] wc.drew (DoesP (fun j => ¬ UU w.heap.size va tsa za j) gb vb tsb lb wc.drew)) := ⟨by
              have hb := (Below.refl wc.heap.size wc).drew
              have h48 := HXo.out.2.1.1
              have hl := HLb.out
              exact doesCalls gb vb tsb lb Ab cb x.kd x.n B x.l.length dd x.l wc.drew (HP.out.b.st.below hb) (Kd.C_below hcx hb) (by omega) (by omega) hFa⟩
            have g0 := HP.out.b.box.cell 0 _ rfl
            have g1 := HP.out.b.box.cell 1 _ rfl
            clear hcx hFa HXo
            obtain ⟨xk, xl, xn⟩ := x
            simp only [] at c0 c1' c2 HDo
            generalize xl.length = nl at *
            generalize hln : tsb.length = ln at *
            go_upto_region 19 with (fail)
            refine start_ (n := 11) (S := fun w' => w'.cell? ⟨za + 1, 0, none⟩ = some (.slice Ab ln cb) ∧ w'.cell? ⟨za + 1, 1, none⟩ = some (.int .u64 lb) ∧ w'.cell? ⟨b, o + i * 3, none⟩ = some (.int .i64 xk) ∧ w'.cell? ⟨b, o + i * 3 + 1, none⟩ = some (.slice B nl dd) ∧ w'.cell? ⟨b, o + i * 3 + 2, none⟩ = some (.int .i64 xn)) (ds := [6, 10]) #[false, false, false, false, false, false, false, false, false, false, false] (by kernel_rfl) rfl rfl ⟨g0, g1, c0, c1', c2⟩ (fun hHeld => ?_)
            refine pure_ (i := 0) (N := some 98) (v := ?_) (a' := ?_) #[true, false, false, false, false, false, false, false, false, false, false] rfl rfl (by kernel_rfl) (fun _ _ _ h => h) (Or.inl ⟨by rfl, ?_⟩) ?_ ?_
            rotate_left
            · intro w'
              go_simp
              with_reducible rfl
            rotate_left
            · simp only [Act.put, List.setIfInBounds_toArray, List.set_cons_zero, List.set_cons_succ, i64_w, i32_w]
              rfl
            refine pure_ (i := 2) (N := some 100) (v := ?_) (a' := ?_) #[true, false, true, false, false, false, false, false, false, false, false] rfl rfl (by kernel_rfl) (fun _ _ _ h => h) (Or.inl ⟨by rfl, ?_⟩) ?_ ?_
            rotate_left
            · intro w'
              go_simp
              with_reducible rfl
            rotate_left
            · simp only [Act.put, List.setIfInBounds_toArray, List.set_cons_zero, List.set_cons_succ, i64_w, i32_w]
              rfl
            refine pure_ (i := 3) (N := some 101) (v := ?_) (a' := ?_) #[true, false, true, true, false, false, false, false, false, false, false] rfl rfl (by kernel_rfl) (fun _ _ _ h => h) (Or.inl ⟨by rfl, ?_⟩) ?_ ?_
            rotate_left
            · intro w'
              go_simp
              with_reducible rfl
            rotate_left
            · simp only [Act.put, List.setIfInBounds_toArray, List.set_cons_zero, List.set_cons_succ, i64_w, i32_w]
              rfl
            refine pure_ (i := 4) (N := some 102) (v := ?_) (a' := ?_) #[true, false, true, true, true, false, false, false, false, false, false] rfl rfl (by kernel_rfl) (fun _ _ _ h => h) (Or.inl ⟨by rfl, ?_⟩) ?_ ?_
            rotate_left
            · intro w'
              go_simp
              with_reducible rfl
            rotate_left
            · simp only [Act.put, List.setIfInBounds_toArray, List.set_cons_zero, List.set_cons_succ, i64_w, i32_w]
              rfl
            refine take_ (i := 1) (N := some 99) (v := ?_) (a' := ?_) #[true, true, true, true, true, false, false, false, false, false, false] rfl rfl (by kernel_rfl) (fun _ _ _ h => h) (Or.inl ⟨by rfl, ?_⟩) hHeld ?_ ?_
            rotate_left
            · rintro w' ⟨s0, s1, s2, s3, s4⟩
              go_simp
              with_reducible rfl
            rotate_left
            · simp only [Act.put, List.setIfInBounds_toArray, List.set_cons_zero, List.set_cons_succ, i64_w, i32_w]
              rfl
            refine take_ (i := 5) (N := some 103) (v := ?_) (a' := ?_) #[true, true, true, true, true, true, false, false, false, false, false] rfl rfl (by kernel_rfl) (fun _ _ _ h => h) (Or.inl ⟨by rfl, ?_⟩) hHeld ?_ ?_
            rotate_left
            · rintro w' ⟨s0, s1, s2, s3, s4⟩
              go_simp
              with_reducible rfl
            rotate_left
            · simp only [Act.put, List.setIfInBounds_toArray, List.set_cons_zero, List.set_cons_succ, i64_w, i32_w]
              rfl
            refine last_ (i := 6) (N := some 104) #[true, true, true, true, true, true, true, false, false, false, false] rfl rfl (by kernel_rfl) (by decide) (fun K hK => ?_)
            refine goes_ Try.func7 (by kernel_rfl) rfl #[ptrV gb, .agg #[.slice Ab ln cb, .int .u64 lb], .agg #[.int .i64 xk, .slice B nl dd, .int .i64 xn]] (by rfl) rfl rfl (by simp only [List.map_toArray, List.map_cons, List.map_nil]; rfl) ?_
            with_reducible refine (HDo.out).mono ?_
            rintro e w4 ⟨v', ts', last', A', c', rfl, hst, ho, hu5, hl1, hl2, hsp⟩
            have hp5 := HP.out.symm.acts hst ((Only.drew (Only.refl _ wc)).trans ho) hu5
            have h0 := hp5.2.cell 0 _ rfl
            have h1 := hp5.2.cell 1 _ rfl
            have h1' := (hp5.2.put 0 (.slice A' ts'.length c')).cell 1 _ rfl
            have f0 := hp5.2.free 0
            have f1 := hp5.2.free 1
            have f1' := (hp5.2.put 0 (.slice A' ts'.length c')).free 1
            refine ⟨_, rfl, ?_⟩
            refine hK.out _ _ ?_
            clear hK K
            refine norm_ (a' := ?_) ?_ ?_
            rotate_left
            · show Act.put _ (some 104) _ = _
              simp only [Act.put, List.setIfInBounds_toArray, List.set_cons_zero, List.set_cons_succ, i64_w, i32_w]
              rfl
            refine pure_ (i := 7) (N := some 97) (v := ?_) (a' := ?_) #[true, true, true, true, true, true, true, true, false, false, false] rfl rfl (by kernel_rfl) (fun _ _ _ h => h) (Or.inl ⟨by rfl, ?_⟩) ?_ ?_
            rotate_left
            · intro w'
              go_simp
              with_reducible rfl
            rotate_left
            · simp only [Act.put, List.setIfInBounds_toArray, List.set_cons_zero, List.set_cons_succ, i64_w, i32_w]
              rfl
            refine pure_ (i := 8) (N := some 105) (v := ?_) (a' := ?_) #[true, true, true, true, true, true, true, true, true, false, false] rfl rfl (by kernel_rfl) (fun _ _ _ h => h) (Or.inl ⟨by rfl, ?_⟩) ?_ ?_
            rotate_left
            · intro w'
              go_simp
              with_reducible rfl
            rotate_left
            · simp only [Act.put, List.setIfInBounds_toArray, List.set_cons_zero, List.set_cons_succ, i64_w, i32_w]
              rfl
            refine pure_ (i := 9) (N := some 106) (v := ?_) (a' := ?_) #[true, true, true, true, true, true, true, true, true, true, false] rfl rfl (by kernel_rfl) (fun _ _ _ h => h) (Or.inl ⟨by rfl, ?_⟩) ?_ ?_
            rotate_left
            · intro w'
              go_simp
              with_reducible rfl
            rotate_left
            · simp only [Act.put, List.setIfInBounds_toArray, List.set_cons_zero, List.set_cons_succ, i64_w, i32_w]
              rfl
            refine last_ (i := 10) (N := none) #[true, true, true, true, true, true, true, true, true, true, true] rfl rfl (by kernel_rfl) (by decide) (fun K hK => ?_)
            refine skip_ (w1 := ?_) (by rfl) rfl ?_ ?_
            rotate_left
            · go_simp
              rfl
            refine hK.out _ _ ?_
            clear hK K
            refine done_ (by kernel_rfl) ?_
            have HR2 : Aside0 (R2 w ((w4.setCell ⟨za + 1, 0, none⟩ (.slice A' ts'.length c')).setCell ⟨za + 1, 1, none⟩ (.int .u64 last')) za w.heap.size (za + 1) gb ((i : Int) + 1) ((i : Int) + 1)) := ⟨⟨_, _, _, _, _, _, _, _, _, _, by have := HLa.out; omega, by have := HLb.out; omega, hp5.1.symm⟩⟩
            clear hp5 hst ho hu5 h0 h1 h1' f0 f1 f1' g0 g1 c0 c1' c2 HDo HP HLa HLb hln hl1 hl2 hsp
            generalize (w4.setCell ⟨za + 1, 0, none⟩ (.slice A' ts'.length c')).setCell ⟨za + 1, 1, none⟩ (.int .u64 last') = wz at *
            obtain ⟨va, tsa, la, Aa, ca, vb, tsb, lb, Ab, cb, hla, hlb, hp⟩ := HR2.out
            have HP := Aside0.mk hp
            have HLa := Aside0.mk hla
            have HLb := Aside0.mk hlb
            clear hp hla hlb HR2
            go_wp2_with fail
            refine (TicketsCalls w.heap.size va tsa la wz HP.out.a.st.ga).mono ?_
            rintro e wt ⟨vt, rfl, hrt, hgt, hot⟩
            have HPt := Aside0.mk (HP.out.prog hgt hot)
            have HSm := Aside0.mk HP.out.a.st.ga.small
            obtain ⟨At, ct, rfl⟩ := Kd.R_slice hrt
            rw [tickets_len] at hrt ⊢
            have HRt : Aside0 ((Kd.int .u64).R TU wt w.heap.size (fun _ => True) (.slice At tsa.length ct) (tickets tsa)) := ⟨Kd.R_lower hrt HP.out.a.below.size⟩
            clear hrt hgt hot HP
            have hsm := HSm.out
            go_wp2_with fail
            go_loopw [13] (fun v13 wr' => ∃ j : Nat, j ≤ tsa.length ∧ v13 = .int .i64 j ∧ Aside0 (P2 w wr' za w.heap.size va tsa la Aa ca (za + 1) gb vb tsb lb Ab cb ∧ ∃ lst, (Kd.int .u64).R TU wr' w.heap.size (fun _ => True) (.slice At tsa.length ct) lst)) (fun v13 _ => tsa.length - (intOf v13).toNat)
            case atStart => exact ⟨0, Nat.zero_le _, rfl, ⟨HPt.out, _, HRt.out⟩⟩
            case round =>
              clear HPt HRt
              obtain ⟨j, hj, rfl, HJ⟩ := hrel
              by_cases hjlt : j < tsa.length
              · obtain ⟨hp, lst, hr⟩ := HJ.out
                have hll : lst.length = tsa.length := by
                  obtain ⟨A'', c'', e, _⟩ := Kd.R_reads hr
                  injection e with _ e _
                  exact e.symm
                obtain ⟨tb, cap, ev⟩ := R_form hr (by omega)
                rw [hll] at ev
                injection ev with ev1 ev2 ev3
                subst ev1 ev3
                have j1 : (j : Int) < (tsa.length : Int) := by omega
                have hcf := Kd.R_celln (enc := Value.int .u64) 0 hr (j : Int) (by omega) (by omega)
                rw [Int.toNat_natCast] at hcf
                obtain ⟨cj, fj⟩ := hcf
                have hpt := Kd.R_putn (enc := Value.int .u64) hr (j : Int) 77
                rw [Int.toNat_natCast] at hpt
                have HPx : Aside0 (P2 w (wr.setCell ⟨tb, j, none⟩ (.int .u64 77)) za w.heap.size va tsa la Aa ca (za + 1) gb vb tsb lb Ab cb) := ⟨by
                  obtain ⟨inner, ho, _⟩ := hr.2
                  obtain ⟨cs, hcs⟩ := own_typed ho tb rfl
                  exact hp.told (cs := cs.toList) ⟨by rw [Array.toArray_toList]; exact hcs⟩ (own_base ho tb rfl) _⟩
                have HRx : Aside0 (∃ lst, (Kd.int .u64).R TU (wr.setCell ⟨tb, j, none⟩ (.int .u64 77)) w.heap.size (fun _ => True) (.slice (some ⟨tb, 0, none⟩) tsa.length ct) lst) := ⟨⟨_, hpt⟩⟩
                generalize rdOf 0 lst (j : Int) = old at *
                clear hp hr hll hpt ev2 HJ
                go_wp2
                go_roundw
                case rel => exact ⟨j + 1, by omega, by go_num, ⟨HPx.out, HRx.out⟩⟩
                case measure => simp [intOf]; omega
              · obtain rfl : j = tsa.length := by omega
                clear hj
                have hmlx := HMm.out
                go_wp2
                go_roundw
                case rel => exact ⟨i + 1, by omega, by go_num, ⟨_, _, _, _, _, _, _, _, _, _, by have := HLa.out; omega, by have := HLb.out; omega, HJ.out.1⟩⟩
                case measure => simp [intOf]; omega
        · have i3 : ¬ (i : Int) < (m2 : Int) := by omega
          obtain ⟨va, tsa, la, Aa, ca, vb, tsb, lb, Ab, cb, hla, hlb, hp⟩ := HR.out
          have HP := Aside0.mk hp
          have HLa := Aside0.mk hla
          have HLb := Aside0.mk hlb
          clear hp hla hlb HR
          obtain ⟨b, o, x, B, dd, rfl, hx, z0, z1, z2, hcw⟩ := kA_at (HC.out w (Below.refl _ _)) i hm1
          have HXo := Aside0.mk (HOk.out x (List.mem_of_getElem? hx))
          have HCx : Aside0 (∀ W', Below w.heap.size w W' → kH.C W' B x.l.length x.l) := ⟨fun W' h => Kd.C_below hcw h⟩
          have HCc : Aside0 (∀ W', Below w.heap.size w W' → W'.cell? ⟨b, o + i * 3 + 1, none⟩ = some (.slice B x.l.length dd)) := ⟨fun W' h => pw_cell_below h z1⟩
          have c0 := pw_cell_below HP.out.a.below z0
          have c1' := pw_cell_below HP.out.a.below z1
          have c2 := pw_cell_below HP.out.a.below z2
          have hcx := HCx.out wr HP.out.a.below
          clear hx hcw z0 z1 z2
          have hFa : ∀ j, wr.drew.heap.size ≤ j → ¬ UU gb vb tsb (za + 1) j := fun j hj hu => by
            have h1 : wr.heap.size ≤ j := hj
            have := HP.out.b.uLt hu
            omega
          have HDo : Aside0 (Calls Try.prog 7 #[ptrV w.heap.size, .agg #[.slice Aa tsa.length ca, .int .u64 la], .agg #[.int .i64 x.kd, .slice B x.l.length dd, .int .i64 x.n]] wr.drew (DoesP (fun j => ¬ UU gb vb tsb (za + 1) j) w.heap.size va tsa la wr.drew)) := ⟨by
            have hb := (Below.refl wr.heap.size wr).drew
            have h48 := HXo.out.2.1.1
            have hl := HLa.out
            exact doesCalls w.heap.size va tsa la Aa ca x.kd x.n B x.l.length dd x.l wr.drew (HP.out.a.st.below hb) (Kd.C_below hcx hb) (by omega) (by omega) hFa⟩
          have g0 := HP.out.a.box.cell 0 _ rfl
          have g1 := HP.out.a.box.cell 1 _ rfl
          clear hcx hFa
          have HXl : Aside0 (x.l.length ≤ 2932031007317) := ⟨by have := HXo.out.2.1.1; omega⟩
          clear HXo
          obtain ⟨xk, xl, xn⟩ := x
          simp only [] at c0 c1' c2 HDo HCx HCc HXl
          have HLen : Aside0 (tsa.length ≤ 256 ∧ 0 ≤ la) := ⟨⟨HP.out.a.st.ga.small, HP.out.a.st.last0⟩⟩
          obtain ⟨nl, hnl⟩ : ∃ nl, nl = xl.length := ⟨_, rfl⟩
          rw [← hnl] at c1' HDo HCx HCc HXl
          have HNl := Aside0.mk hnl
          clear hnl
          obtain ⟨ln, hln⟩ : ∃ ln, ln = tsa.length := ⟨_, rfl⟩
          rw [← hln] at g0 HDo
          have HLn := Aside0.mk hln
          clear hln
          obtain ⟨kb, hkb⟩ : ∃ kb, (xk == 0) = kb := ⟨_, rfl⟩
          go_upto_if 47 with (fail)
          go_cut [11] (fun v wc => Aside0 (R2 w wc za w.heap.size (za + 1) gb ((i : Int) + 1) (i : Int)))
          case first =>
            cases kb with
            | true =>
              go_wp2_with fail
              refine (lawHolds B nl dd xl wr (HCx.out wr HP.out.a.below) HXl.out).mono ?_
              rintro e w3 ⟨v3, rfl, hr3, hb3⟩
              have HMd : Aside0 (Mi w w3 wr.heap.size za w.heap.size tsa la Aa ca va tsa la (za + 1) gb vb tsb lb Ab cb) := ⟨HP.out.mid.belowed hb3⟩
              have HIn := Aside0.mk hr3
              obtain ⟨A3, c3, e3, hC3, hA3⟩ := tk_of_R hr3
              subst e3
              rw [← HNl.out] at hC3 HIn ⊢
              have HTk := Aside0.mk (HMd.out.takeCalls A3 nl c3 xl hC3 (fun a ha => (hA3 a ha).1) HXl.out (by have := HLa.out; omega))
              have HNu : Aside0 (∀ j, wr.heap.size ≤ j → ¬ use w.heap.size va tsa j) := ⟨fun j hj hu => by have := HP.out.a.st.ga.lt hu; omega⟩
              have HBw : Aside0 (Below w.heap.size w wr) := ⟨HP.out.a.below⟩
              clear hr3 hb3 hC3 hA3 HMd HP g0 g1 c0 c1' c2 HDo
              go_wp2_with fail
              refine HTk.out.mono ?_
              rintro e w4 ⟨r4, va', tsa', la', rfl, hl1, hl2, hmi, hnu, hrt, ho4⟩
              have HMi0 := Aside0.mk hmi
              have HRt := Aside0.mk hrt
              have HL4 : Aside0 (la' ≤ la + 1) := ⟨hl2⟩
              have HIb : Aside0 (0 < nl → ∃ inb cs, A3 = some ⟨inb, 0, none⟩ ∧ Blk w4 inb cs TH ∧ nl * 4 ≤ cs.length ∧ wr.heap.size ≤ inb ∧ ¬ use w.heap.size va' tsa' inb) := ⟨fun h0 => by
                obtain ⟨inb, cs, e1, e2, e3, e4⟩ := R_blk HIn.out h0
                exact ⟨inb, cs, e1, ho4.blk e2 (HNu.out inb e4), e3, e4, hnu inb e4 e2.lt (HNu.out inb e4)⟩⟩
              clear hl1 hl2 hmi hnu hrt ho4 HTk HIn HNu
              generalize wr.heap.size = n0 at *
              have hxl2 := HXl.out
              go_wp2_with fail
              go_loopw [11] (fun v11 wr' => ∃ j : Nat, j ≤ nl ∧ v11 = .int .i64 j ∧ Aside0 (Mi w wr' n0 za w.heap.size tsa la Aa ca va' tsa' la' (za + 1) gb vb tsb lb Ab cb ∧ (0 < nl → ∃ inb cs, A3 = some ⟨inb, 0, none⟩ ∧ Blk wr' inb cs TH ∧ nl * 4 ≤ cs.length ∧ n0 ≤ inb ∧ ¬ use w.heap.size va' tsa' inb))) (fun v11 _ => nl - (intOf v11).toNat)
              case atStart => exact ⟨0, Nat.zero_le _, rfl, ⟨HMi0.out, HIb.out⟩⟩
              case round =>
                clear HMi0 HIb
                obtain ⟨j, hj, rfl, HMj⟩ := hrel
                by_cases hjlt : j < nl
                · obtain ⟨inb, cs, rfl, hbk, hcs, hin, hnu⟩ := HMj.out.2 (by omega)
                  have j1 : (j : Int) < (nl : Int) := by omega
                  obtain ⟨u0, hu0⟩ : ∃ u, cs[j * 4]? = some u := ⟨_, List.getElem?_eq_getElem (by omega)⟩
                  obtain ⟨u1, hu1⟩ : ∃ u, cs[j * 4 + 1]? = some u := ⟨_, List.getElem?_eq_getElem (by omega)⟩
                  obtain ⟨u2, hu2⟩ : ∃ u, cs[j * 4 + 2]? = some u := ⟨_, List.getElem?_eq_getElem (by omega)⟩
                  obtain ⟨u3, hu3⟩ : ∃ u, cs[j * 4 + 3]? = some u := ⟨_, List.getElem?_eq_getElem (by omega)⟩
                  have q0 := hbk.cell _ _ hu0
                  have q1 := hbk.cell _ _ hu1
                  have q2 := hbk.cell _ _ hu2
                  have q3 := hbk.cell _ _ hu3
                  have p1 := (hbk.put (j * 4) (.string ⟨#[]⟩)).cell (j * 4 + 1) u1 (by rw [List.getElem?_set_ne (by omega)]; exact hu1)
                  have p2 := ((hbk.put (j * 4) (.string ⟨#[]⟩)).put (j * 4 + 1) (.string ⟨#[]⟩)).cell (j * 4 + 2) u2 (by rw [List.getElem?_set_ne (by omega), List.getElem?_set_ne (by omega)]; exact hu2)
                  have p3 := (((hbk.put (j * 4) (.string ⟨#[]⟩)).put (j * 4 + 1) (.string ⟨#[]⟩)).put (j * 4 + 2) (.bool true)).cell (j * 4 + 3) u3 (by rw [List.getElem?_set_ne (by omega), List.getElem?_set_ne (by omega), List.getElem?_set_ne (by omega)]; exact hu3)
                  have f0 := hbk.free (j * 4)
                  have f1 := hbk.free (j * 4 + 1)
                  have f2 := hbk.free (j * 4 + 2)
                  have f3 := hbk.free (j * 4 + 3)
                  have k1 := (hbk.put (j * 4) (.string ⟨#[]⟩)).free (j * 4 + 1)
                  have k2 := ((hbk.put (j * 4) (.string ⟨#[]⟩)).put (j * 4 + 1) (.string ⟨#[]⟩)).free (j * 4 + 2)
                  have k3 := (((hbk.put (j * 4) (.string ⟨#[]⟩)).put (j * 4 + 1) (.string ⟨#[]⟩)).put (j * 4 + 2) (.bool true)).free (j * 4 + 3)
                  have HNx := Aside0.mk ((((hbk.put (j * 4) (.string ⟨#[]⟩)).put (j * 4 + 1) (.string ⟨#[]⟩)).put (j * 4 + 2) (.bool true)).put (j * 4 + 3) (.bool true))
                  have HMx := Aside0.mk (HMj.out.1.write (onlyR (o := j * 4 + 3) (u := .bool true) (onlyR (o := j * 4 + 2) (u := .bool true) (onlyR (o := j * 4 + 1) (u := .string ⟨#[]⟩) (onlyR (o := j * 4) (u := .string ⟨#[]⟩) (Only.refl _ wr))))) hin hnu)
                  have HLx : Aside0 (nl * 4 ≤ ((((cs.set (j * 4) (.string ⟨#[]⟩)).set (j * 4 + 1) (.string ⟨#[]⟩)).set (j * 4 + 2) (.bool true)).set (j * 4 + 3) (.bool true)).length) := ⟨by simp only [List.length_set]; exact hcs⟩
                  have HIn := Aside0.mk hin
                  have HNu := Aside0.mk hnu
                  clear hbk hcs hin hnu hu0 hu1 hu2 hu3 HMj
                  go_wp2
                  go_roundw
                  case rel => exact ⟨j + 1, by omega, by go_num, ⟨HMx.out, fun _ => ⟨inb, _, rfl, HNx.out, HLx.out, HIn.out, HNu.out⟩⟩⟩
                  case measure => simp [intOf]; omega
                · obtain rfl : nl = j := by omega
                  clear hj
                  have HMi := Aside0.mk HMj.out.1
                  have HRf : Aside0 (Calls Try.prog 17 #[.agg #[.slice Aa ln ca, .int .u64 la], .slice B nl dd] wr.drew fun e w' => ∃ A1 c1 t2 e2, e = .returned (.tuple #[.agg #[.slice A1 tsa'.length c1, .int .u64 la'], t2, e2]) ∧ kT.R TK w' 0 (fun i => (((¬ use w.heap.size va' tsa' i ∧ ¬ UU gb vb tsb (za + 1) i) ∧ i < n0) ∧ i < wr.heap.size) ∨ wr.heap.size ≤ i) (.slice A1 tsa'.length c1) (tsa'.map toRT) ∧ Below wr.heap.size wr w') := ⟨by
                    have hb := (Below.refl wr.heap.size wr).drew
                    have hm := HMi.out.belowed hb
                    have hcx := HCx.out wr.drew hm.b.below
                    rw [HLn.out]
                    exact (hm.refCalls B nl dd xl hcx HRt.out HLen.out.1 HLen.out.2 (by have := HLa.out; omega)).mono fun e w' ⟨A1, c1, t2, e2, he, hr, hbw⟩ => ⟨A1, c1, t2, e2, he, hr, hb.trans hbw⟩⟩
                  have g0 := HMi.out.box.cell 0 _ rfl
                  have g1 := HMi.out.box.cell 1 _ rfl
                  rw [← HLn.out] at g0
                  have c1' := HCc.out wr HMi.out.b.below
                  clear HMj
                  go_upto_region 15 with (fail)
                  refine start_ (n := 12) (S := fun w' => w'.cell? ⟨za, 0, none⟩ = some (.slice Aa ln ca) ∧ w'.cell? ⟨za, 1, none⟩ = some (.int .u64 la) ∧ w'.cell? ⟨b, o + i * 3 + 1, none⟩ = some (.slice B nl dd)) (ds := [6, 11]) #[false, false, false, false, false, false, false, false, false, false, false, false] (by kernel_rfl) rfl rfl ⟨g0, g1, c1'⟩ (fun hHeld => ?_)
                  refine pure_ (i := 1) (N := some 70) (v := ?_) (a' := ?_) #[false, true, false, false, false, false, false, false, false, false, false, false] rfl rfl (by kernel_rfl) (fun _ _ _ h => h) (Or.inl ⟨by rfl, ?_⟩) ?_ ?_
                  rotate_left
                  · intro w'
                    go_simp
                    with_reducible rfl
                  rotate_left
                  · simp only [Act.put, List.setIfInBounds_toArray, List.set_cons_zero, List.set_cons_succ, i64_w, i32_w]
                    rfl
                  refine pure_ (i := 2) (N := some 71) (v := ?_) (a' := ?_) #[false, true, true, false, false, false, false, false, false, false, false, false] rfl rfl (by kernel_rfl) (fun _ _ _ h => h) (Or.inl ⟨by rfl, ?_⟩) ?_ ?_
                  rotate_left
                  · intro w'
                    go_simp
                    with_reducible rfl
                  rotate_left
                  · simp only [Act.put, List.setIfInBounds_toArray, List.set_cons_zero, List.set_cons_succ, i64_w, i32_w]
                    rfl
                  refine pure_ (i := 3) (N := some 72) (v := ?_) (a' := ?_) #[false, true, true, true, false, false, false, false, false, false, false, false] rfl rfl (by kernel_rfl) (fun _ _ _ h => h) (Or.inl ⟨by rfl, ?_⟩) ?_ ?_
                  rotate_left
                  · intro w'
                    go_simp
                    with_reducible rfl
                  rotate_left
                  · simp only [Act.put, List.setIfInBounds_toArray, List.set_cons_zero, List.set_cons_succ, i64_w, i32_w]
                    rfl
                  refine pure_ (i := 4) (N := some 73) (v := ?_) (a' := ?_) #[false, true, true, true, true, false, false, false, false, false, false, false] rfl rfl (by kernel_rfl) (fun _ _ _ h => h) (Or.inl ⟨by rfl, ?_⟩) ?_ ?_
                  rotate_left
                  · intro w'
                    go_simp
                    with_reducible rfl
                  rotate_left
                  · simp only [Act.put, List.setIfInBounds_toArray, List.set_cons_zero, List.set_cons_succ, i64_w, i32_w]
                    rfl
                  refine take_ (i := 0) (N := some 69) (v := ?_) (a' := ?_) #[true, true, true, true, true, false, false, false, false, false, false, false] rfl rfl (by kernel_rfl) (fun _ _ _ h => h) (Or.inl ⟨by rfl, ?_⟩) hHeld ?_ ?_
                  rotate_left
                  · rintro w' ⟨s0, s1, s2⟩
                    go_simp
                    with_reducible rfl
                  rotate_left
                  · simp only [Act.put, List.setIfInBounds_toArray, List.set_cons_zero, List.set_cons_succ, i64_w, i32_w]
                    rfl
                  refine take_ (i := 5) (N := some 74) (v := ?_) (a' := ?_) #[true, true, true, true, true, true, false, false, false, false, false, false] rfl rfl (by kernel_rfl) (fun _ _ _ h => h) (Or.inl ⟨by rfl, ?_⟩) hHeld ?_ ?_
                  rotate_left
                  · rintro w' ⟨s0, s1, s2⟩
                    go_simp
                    with_reducible rfl
                  rotate_left
                  · simp only [Act.put, List.setIfInBounds_toArray, List.set_cons_zero, List.set_cons_succ, i64_w, i32_w]
                    rfl
                  refine last_ (i := 6) (N := some 75) #[true, true, true, true, true, true, true, false, false, false, false, false] rfl rfl (by kernel_rfl) (by decide) (fun K hK => ?_)
                  refine goes_ Try.func17 (by kernel_rfl) rfl #[.agg #[.slice Aa ln ca, .int .u64 la], .slice B nl dd] (by rfl) rfl rfl (by simp only [List.map_toArray, List.map_cons, List.map_nil]; rfl) ?_
                  with_reducible refine (HRf.out).mono ?_
                  rintro e w8 ⟨A1, c1, t2, e2, rfl, hr8, hb8⟩
                  have hp5 := HMi.out.done hb8 hr8
                  have h0 := hp5.2.cell 0 _ rfl
                  have h1 := hp5.2.cell 1 _ rfl
                  have h1' := (hp5.2.put 0 (.slice A1 tsa'.length c1)).cell 1 _ rfl
                  have f0 := hp5.2.free 0
                  have f1 := hp5.2.free 1
                  have f1' := (hp5.2.put 0 (.slice A1 tsa'.length c1)).free 1
                  refine ⟨_, rfl, ?_⟩
                  refine hK.out _ _ ?_
                  clear hK K
                  refine norm_ (a' := ?_) ?_ ?_
                  rotate_left
                  · show Act.put _ (some 75) _ = _
                    simp only [Act.put, List.setIfInBounds_toArray, List.set_cons_zero, List.set_cons_succ, i64_w, i32_w]
                    rfl
                  refine pure_ (i := 7) (N := some 68) (v := ?_) (a' := ?_) #[true, true, true, true, true, true, true, true, false, false, false, false] rfl rfl (by kernel_rfl) (fun _ _ _ h => h) (Or.inl ⟨by rfl, ?_⟩) ?_ ?_
                  rotate_left
                  · intro w'
                    go_simp
                    with_reducible rfl
                  rotate_left
                  · simp only [Act.put, List.setIfInBounds_toArray, List.set_cons_zero, List.set_cons_succ, i64_w, i32_w]
                    rfl
                  refine pure_ (i := 8) (N := some 76) (v := ?_) (a' := ?_) #[true, true, true, true, true, true, true, true, true, false, false, false] rfl rfl (by kernel_rfl) (fun _ _ _ h => h) (Or.inl ⟨by rfl, ?_⟩) ?_ ?_
                  rotate_left
                  · intro w'
                    go_simp
                    with_reducible rfl
                  rotate_left
                  · simp only [Act.put, List.setIfInBounds_toArray, List.set_cons_zero, List.set_cons_succ, i64_w, i32_w]
                    rfl
                  refine pure_ (i := 9) (N := some 77) (v := ?_) (a' := ?_) #[true, true, true, true, true, true, true, true, true, true, false, false] rfl rfl (by kernel_rfl) (fun _ _ _ h => h) (Or.inl ⟨by rfl, ?_⟩) ?_ ?_
                  rotate_left
                  · intro w'
                    go_simp
                    with_reducible rfl
                  rotate_left
                  · simp only [Act.put, List.setIfInBounds_toArray, List.set_cons_zero, List.set_cons_succ, i64_w, i32_w]
                    rfl
                  refine pure_ (i := 10) (N := some 78) (v := ?_) (a' := ?_) #[true, true, true, true, true, true, true, true, true, true, true, false] rfl rfl (by kernel_rfl) (fun _ _ _ h => h) (Or.inl ⟨by rfl, ?_⟩) ?_ ?_
                  rotate_left
                  · intro w'
                    go_simp
                    with_reducible rfl
                  rotate_left
                  · simp only [Act.put, List.setIfInBounds_toArray, List.set_cons_zero, List.set_cons_succ, i64_w, i32_w]
                    rfl
                  refine last_ (i := 11) (N := none) #[true, true, true, true, true, true, true, true, true, true, true, true] rfl rfl (by kernel_rfl) (by decide) (fun K hK => ?_)
                  refine skip_ (w1 := ?_) (by rfl) rfl ?_ ?_
                  rotate_left
                  · go_simp
                    rfl
                  refine hK.out _ _ ?_
                  clear hK K
                  refine done_ (by kernel_rfl) ?_
                  have HRz : Aside0 (R2 w ((w8.setCell ⟨za, 0, none⟩ (.slice A1 tsa'.length c1)).setCell ⟨za, 1, none⟩ (.int .u64 la')) za w.heap.size (za + 1) gb ((i : Int) + 1) (i : Int)) := ⟨⟨_, _, _, _, _, _, _, _, _, _, by have := HL4.out; have := HLa.out; omega, HLb.out, hp5.1⟩⟩
                  clear hp5 hr8 hb8 h0 h1 h1' f0 f1 f1' g0 g1 c1'
                  go_wp2
                  go_meet
                  exact HRz
            | false =>
              go_upto_region 17 with (fail)
              refine start_ (n := 11) (S := fun w' => w'.cell? ⟨za, 0, none⟩ = some (.slice Aa ln ca) ∧ w'.cell? ⟨za, 1, none⟩ = some (.int .u64 la) ∧ w'.cell? ⟨b, o + i * 3, none⟩ = some (.int .i64 xk) ∧ w'.cell? ⟨b, o + i * 3 + 1, none⟩ = some (.slice B nl dd) ∧ w'.cell? ⟨b, o + i * 3 + 2, none⟩ = some (.int .i64 xn)) (ds := [6, 10]) #[false, false, false, false, false, false, false, false, false, false, false] (by kernel_rfl) rfl rfl ⟨g0, g1, c0, c1', c2⟩ (fun hHeld => ?_)
              refine pure_ (i := 0) (N := some 84) (v := ?_) (a' := ?_) #[true, false, false, false, false, false, false, false, false, false, false] rfl rfl (by kernel_rfl) (fun _ _ _ h => h) (Or.inl ⟨by rfl, ?_⟩) ?_ ?_
              rotate_left
              · intro w'
                go_simp
                with_reducible rfl
              rotate_left
              · simp only [Act.put, List.setIfInBounds_toArray, List.set_cons_zero, List.set_cons_succ, i64_w, i32_w]
                rfl
              refine pure_ (i := 2) (N := some 86) (v := ?_) (a' := ?_) #[true, false, true, false, false, false, false, false, false, false, false] rfl rfl (by kernel_rfl) (fun _ _ _ h => h) (Or.inl ⟨by rfl, ?_⟩) ?_ ?_
              rotate_left
              · intro w'
                go_simp
                with_reducible rfl
              rotate_left
              · simp only [Act.put, List.setIfInBounds_toArray, List.set_cons_zero, List.set_cons_succ, i64_w, i32_w]
                rfl
              refine pure_ (i := 3) (N := some 87) (v := ?_) (a' := ?_) #[true, false, true, true, false, false, false, false, false, false, false] rfl rfl (by kernel_rfl) (fun _ _ _ h => h) (Or.inl ⟨by rfl, ?_⟩) ?_ ?_
              rotate_left
              · intro w'
                go_simp
                with_reducible rfl
              rotate_left
              · simp only [Act.put, List.setIfInBounds_toArray, List.set_cons_zero, List.set_cons_succ, i64_w, i32_w]
                rfl
              refine pure_ (i := 4) (N := some 88) (v := ?_) (a' := ?_) #[true, false, true, true, true, false, false, false, false, false, false] rfl rfl (by kernel_rfl) (fun _ _ _ h => h) (Or.inl ⟨by rfl, ?_⟩) ?_ ?_
              rotate_left
              · intro w'
                go_simp
                with_reducible rfl
              rotate_left
              · simp only [Act.put, List.setIfInBounds_toArray, List.set_cons_zero, List.set_cons_succ, i64_w, i32_w]
                rfl
              refine take_ (i := 1) (N := some 85) (v := ?_) (a' := ?_) #[true, true, true, true, true, false, false, false, false, false, false] rfl rfl (by kernel_rfl) (fun _ _ _ h => h) (Or.inl ⟨by rfl, ?_⟩) hHeld ?_ ?_
              rotate_left
              · rintro w' ⟨s0, s1, s2, s3, s4⟩
                go_simp
                with_reducible rfl
              rotate_left
              · simp only [Act.put, List.setIfInBounds_toArray, List.set_cons_zero, List.set_cons_succ, i64_w, i32_w]
                rfl
              refine take_ (i := 5) (N := some 89) (v := ?_) (a' := ?_) #[true, true, true, true, true, true, false, false, false, false, false] rfl rfl (by kernel_rfl) (fun _ _ _ h => h) (Or.inl ⟨by rfl, ?_⟩) hHeld ?_ ?_
              rotate_left
              · rintro w' ⟨s0, s1, s2, s3, s4⟩
                go_simp
                with_reducible rfl
              rotate_left
              · simp only [Act.put, List.setIfInBounds_toArray, List.set_cons_zero, List.set_cons_succ, i64_w, i32_w]
                rfl
              refine last_ (i := 6) (N := some 90) #[true, true, true, true, true, true, true, false, false, false, false] rfl rfl (by kernel_rfl) (by decide) (fun K hK => ?_)
              refine goes_ Try.func7 (by kernel_rfl) rfl #[ptrV w.heap.size, .agg #[.slice Aa ln ca, .int .u64 la], .agg #[.int .i64 xk, .slice B nl dd, .int .i64 xn]] (by rfl) rfl rfl (by simp only [List.map_toArray, List.map_cons, List.map_nil]; rfl) ?_
              with_reducible refine (HDo.out).mono ?_
              rintro e w4 ⟨v', ts', last', A', c', rfl, hst, ho, hu5, hl1, hl2, hsp⟩
              have hp5 := HP.out.acts hst ((Only.drew (Only.refl _ wr)).trans ho) hu5
              have h0 := hp5.2.cell 0 _ rfl
              have h1 := hp5.2.cell 1 _ rfl
              have h1' := (hp5.2.put 0 (.slice A' ts'.length c')).cell 1 _ rfl
              have f0 := hp5.2.free 0
              have f1 := hp5.2.free 1
              have f1' := (hp5.2.put 0 (.slice A' ts'.length c')).free 1
              refine ⟨_, rfl, ?_⟩
              refine hK.out _ _ ?_
              clear hK K
              refine norm_ (a' := ?_) ?_ ?_
              rotate_left
              · show Act.put _ (some 90) _ = _
                simp only [Act.put, List.setIfInBounds_toArray, List.set_cons_zero, List.set_cons_succ, i64_w, i32_w]
                rfl
              refine pure_ (i := 7) (N := some 83) (v := ?_) (a' := ?_) #[true, true, true, true, true, true, true, true, false, false, false] rfl rfl (by kernel_rfl) (fun _ _ _ h => h) (Or.inl ⟨by rfl, ?_⟩) ?_ ?_
              rotate_left
              · intro w'
                go_simp
                with_reducible rfl
              rotate_left
              · simp only [Act.put, List.setIfInBounds_toArray, List.set_cons_zero, List.set_cons_succ, i64_w, i32_w]
                rfl
              refine pure_ (i := 8) (N := some 91) (v := ?_) (a' := ?_) #[true, true, true, true, true, true, true, true, true, false, false] rfl rfl (by kernel_rfl) (fun _ _ _ h => h) (Or.inl ⟨by rfl, ?_⟩) ?_ ?_
              rotate_left
              · intro w'
                go_simp
                with_reducible rfl
              rotate_left
              · simp only [Act.put, List.setIfInBounds_toArray, List.set_cons_zero, List.set_cons_succ, i64_w, i32_w]
                rfl
              refine pure_ (i := 9) (N := some 92) (v := ?_) (a' := ?_) #[true, true, true, true, true, true, true, true, true, true, false] rfl rfl (by kernel_rfl) (fun _ _ _ h => h) (Or.inl ⟨by rfl, ?_⟩) ?_ ?_
              rotate_left
              · intro w'
                go_simp
                with_reducible rfl
              rotate_left
              · simp only [Act.put, List.setIfInBounds_toArray, List.set_cons_zero, List.set_cons_succ, i64_w, i32_w]
                rfl
              refine last_ (i := 10) (N := none) #[true, true, true, true, true, true, true, true, true, true, true] rfl rfl (by kernel_rfl) (by decide) (fun K hK => ?_)
              refine skip_ (w1 := ?_) (by rfl) rfl ?_ ?_
              rotate_left
              · go_simp
                rfl
              refine hK.out _ _ ?_
              clear hK K
              refine done_ (by kernel_rfl) ?_
              have HRz : Aside0 (R2 w ((w4.setCell ⟨za, 0, none⟩ (.slice A' ts'.length c')).setCell ⟨za, 1, none⟩ (.int .u64 last')) za w.heap.size (za + 1) gb ((i : Int) + 1) (i : Int)) := ⟨⟨_, _, _, _, _, _, _, _, _, _, by have := HLa.out; omega, HLb.out, hp5.1⟩⟩
              clear hp5 hst ho hu5 h0 h1 h1' f0 f1 f1' g0 g1 c0 c1' c2
              go_wp2
              go_meet
              exact HRz
          case rest =>
            clear HP HLa HLb HDo HCx HCc HXl HLen HNl HLn g0 g1 c0 c1' c2 hkb
            have HR := hcut
            clear hcut
            obtain ⟨va, tsa, la, Aa, ca, vb, tsb, lb, Ab, cb, hla, hlb, hp⟩ := HR.out
            have HP := Aside0.mk hp
            have HLa := Aside0.mk hla
            have HLb := Aside0.mk hlb
            clear hp hla hlb HR
            have HR2 : Aside0 (R2 w wc za w.heap.size (za + 1) gb ((i : Int) + 1) ((i : Int) + 1)) := ⟨⟨_, _, _, _, _, _, _, _, _, _, by have := HLa.out; omega, by have := HLb.out; omega, HP.out⟩⟩
            clear HP HLa HLb
            obtain ⟨va, tsa, la, Aa, ca, vb, tsb, lb, Ab, cb, hla, hlb, hp⟩ := HR2.out
            have HP := Aside0.mk hp
            have HLa := Aside0.mk hla
            have HLb := Aside0.mk hlb
            clear hp hla hlb HR2
            go_wp2_with fail
            refine (TicketsCalls w.heap.size va tsa la wc HP.out.a.st.ga).mono ?_
            rintro e wt ⟨vt, rfl, hrt, hgt, hot⟩
            have HPt := Aside0.mk (HP.out.prog hgt hot)
            have HSm := Aside0.mk HP.out.a.st.ga.small
            obtain ⟨At, ct, rfl⟩ := Kd.R_slice hrt
            rw [tickets_len] at hrt ⊢
            have HRt : Aside0 ((Kd.int .u64).R TU wt w.heap.size (fun _ => True) (.slice At tsa.length ct) (tickets tsa)) := ⟨Kd.R_lower hrt HP.out.a.below.size⟩
            clear hrt hgt hot HP
            have hsm := HSm.out
            go_wp2_with fail
            go_loopw [13] (fun v13 wr' => ∃ j : Nat, j ≤ tsa.length ∧ v13 = .int .i64 j ∧ Aside0 (P2 w wr' za w.heap.size va tsa la Aa ca (za + 1) gb vb tsb lb Ab cb ∧ ∃ lst, (Kd.int .u64).R TU wr' w.heap.size (fun _ => True) (.slice At tsa.length ct) lst)) (fun v13 _ => tsa.length - (intOf v13).toNat)
            case atStart => exact ⟨0, Nat.zero_le _, rfl, ⟨HPt.out, _, HRt.out⟩⟩
            case round =>
              clear HPt HRt
              obtain ⟨j, hj, rfl, HJ⟩ := hrel
              by_cases hjlt : j < tsa.length
              · obtain ⟨hp, lst, hr⟩ := HJ.out
                have hll : lst.length = tsa.length := by
                  obtain ⟨A'', c'', e, _⟩ := Kd.R_reads hr
                  injection e with _ e _
                  exact e.symm
                obtain ⟨tb, cap, ev⟩ := R_form hr (by omega)
                rw [hll] at ev
                injection ev with ev1 ev2 ev3
                subst ev1 ev3
                have j1 : (j : Int) < (tsa.length : Int) := by omega
                have hcf := Kd.R_celln (enc := Value.int .u64) 0 hr (j : Int) (by omega) (by omega)
                rw [Int.toNat_natCast] at hcf
                obtain ⟨cj, fj⟩ := hcf
                have hpt := Kd.R_putn (enc := Value.int .u64) hr (j : Int) 77
                rw [Int.toNat_natCast] at hpt
                have HPx : Aside0 (P2 w (wr.setCell ⟨tb, j, none⟩ (.int .u64 77)) za w.heap.size va tsa la Aa ca (za + 1) gb vb tsb lb Ab cb) := ⟨by
                  obtain ⟨inner, ho, _⟩ := hr.2
                  obtain ⟨cs, hcs⟩ := own_typed ho tb rfl
                  exact hp.told (cs := cs.toList) ⟨by rw [Array.toArray_toList]; exact hcs⟩ (own_base ho tb rfl) _⟩
                have HRx : Aside0 (∃ lst, (Kd.int .u64).R TU (wr.setCell ⟨tb, j, none⟩ (.int .u64 77)) w.heap.size (fun _ => True) (.slice (some ⟨tb, 0, none⟩) tsa.length ct) lst) := ⟨⟨_, hpt⟩⟩
                generalize rdOf 0 lst (j : Int) = old at *
                clear hp hr hll hpt ev2 HJ
                go_wp2
                go_roundw
                case rel => exact ⟨j + 1, by omega, by go_num, ⟨HPx.out, HRx.out⟩⟩
                case measure => simp [intOf]; omega
              · obtain rfl : j = tsa.length := by omega
                clear hj
                have hmlx := HMm.out
                go_wp2
                go_roundw
                case rel => exact ⟨i + 1, by omega, by go_num, ⟨_, _, _, _, _, _, _, _, _, _, by have := HLa.out; omega, by have := HLb.out; omega, HJ.out.1⟩⟩
                case measure => simp [intOf]; omega
      · have i1 : ¬ (i : Int) < (m : Int) := by omega
        have hm2 : i < m2 := by omega
        have i3 : (i : Int) < (m2 : Int) := by omega
        clear hc
        obtain ⟨va, tsa, la, Aa, ca, vb, tsb, lb, Ab, cb, hla, hlb, hp⟩ := HR.out
        have HP := Aside0.mk hp
        have HLa := Aside0.mk hla
        have HLb := Aside0.mk hlb
        clear hp hla hlb HR
        obtain ⟨b, o, x, B, dd, rfl, hx, z0, z1, z2, hcw⟩ := kA_at (HD.out w (Below.refl _ _)) i hm2
        have HXo := Aside0.mk (HOk2.out x (List.mem_of_getElem? hx))
        have c0 := pw_cell_below HP.out.a.below z0
        have c1' := pw_cell_below HP.out.a.below z1
        have c2 := pw_cell_below HP.out.a.below z2
        have hcx := Kd.C_below hcw HP.out.a.below
        clear hx hcw z0 z1 z2
        have hFa : ∀ j, wr.drew.heap.size ≤ j → ¬ UU w.heap.size va tsa za j := fun j hj hu => by
          have h1 : wr.heap.size ≤ j := hj
          have := HP.out.a.uLt hu
          omega
        have HDo : Aside0 (Calls Try.prog 7 #[ptrV gb, .agg #[.slice Ab tsb.length cb, .int .u64 lb], .agg #[.int .i64 x.kd, .slice B x.l.length dd, .int .i64 x.n]] wr.drew (DoesP (fun j => ¬ UU w.heap.size va tsa za j) gb vb tsb lb wr.drew)) := ⟨by
          have hb := (Below.refl wr.heap.size wr).drew
          have h48 := HXo.out.2.1.1
          have hl := HLb.out
          exact doesCalls gb vb tsb lb Ab cb x.kd x.n B x.l.length dd x.l wr.drew (HP.out.b.st.below hb) (Kd.C_below hcx hb) (by omega) (by omega) hFa⟩
        have g0 := HP.out.b.box.cell 0 _ rfl
        have g1 := HP.out.b.box.cell 1 _ rfl
        clear hcx hFa HXo
        obtain ⟨xk, xl, xn⟩ := x
        simp only [] at c0 c1' c2 HDo
        generalize xl.length = nl at *
        generalize hln : tsb.length = ln at *
        go_upto_region 19 with (fail)
        refine start_ (n := 11) (S := fun w' => w'.cell? ⟨za + 1, 0, none⟩ = some (.slice Ab ln cb) ∧ w'.cell? ⟨za + 1, 1, none⟩ = some (.int .u64 lb) ∧ w'.cell? ⟨b, o + i * 3, none⟩ = some (.int .i64 xk) ∧ w'.cell? ⟨b, o + i * 3 + 1, none⟩ = some (.slice B nl dd) ∧ w'.cell? ⟨b, o + i * 3 + 2, none⟩ = some (.int .i64 xn)) (ds := [6, 10]) #[false, false, false, false, false, false, false, false, false, false, false] (by kernel_rfl) rfl rfl ⟨g0, g1, c0, c1', c2⟩ (fun hHeld => ?_)
        refine pure_ (i := 0) (N := some 98) (v := ?_) (a' := ?_) #[true, false, false, false, false, false, false, false, false, false, false] rfl rfl (by kernel_rfl) (fun _ _ _ h => h) (Or.inl ⟨by rfl, ?_⟩) ?_ ?_
        rotate_left
        · intro w'
          go_simp
          with_reducible rfl
        rotate_left
        · simp only [Act.put, List.setIfInBounds_toArray, List.set_cons_zero, List.set_cons_succ, i64_w, i32_w]
          rfl
        refine pure_ (i := 2) (N := some 100) (v := ?_) (a' := ?_) #[true, false, true, false, false, false, false, false, false, false, false] rfl rfl (by kernel_rfl) (fun _ _ _ h => h) (Or.inl ⟨by rfl, ?_⟩) ?_ ?_
        rotate_left
        · intro w'
          go_simp
          with_reducible rfl
        rotate_left
        · simp only [Act.put, List.setIfInBounds_toArray, List.set_cons_zero, List.set_cons_succ, i64_w, i32_w]
          rfl
        refine pure_ (i := 3) (N := some 101) (v := ?_) (a' := ?_) #[true, false, true, true, false, false, false, false, false, false, false] rfl rfl (by kernel_rfl) (fun _ _ _ h => h) (Or.inl ⟨by rfl, ?_⟩) ?_ ?_
        rotate_left
        · intro w'
          go_simp
          with_reducible rfl
        rotate_left
        · simp only [Act.put, List.setIfInBounds_toArray, List.set_cons_zero, List.set_cons_succ, i64_w, i32_w]
          rfl
        refine pure_ (i := 4) (N := some 102) (v := ?_) (a' := ?_) #[true, false, true, true, true, false, false, false, false, false, false] rfl rfl (by kernel_rfl) (fun _ _ _ h => h) (Or.inl ⟨by rfl, ?_⟩) ?_ ?_
        rotate_left
        · intro w'
          go_simp
          with_reducible rfl
        rotate_left
        · simp only [Act.put, List.setIfInBounds_toArray, List.set_cons_zero, List.set_cons_succ, i64_w, i32_w]
          rfl
        refine take_ (i := 1) (N := some 99) (v := ?_) (a' := ?_) #[true, true, true, true, true, false, false, false, false, false, false] rfl rfl (by kernel_rfl) (fun _ _ _ h => h) (Or.inl ⟨by rfl, ?_⟩) hHeld ?_ ?_
        rotate_left
        · rintro w' ⟨s0, s1, s2, s3, s4⟩
          go_simp
          with_reducible rfl
        rotate_left
        · simp only [Act.put, List.setIfInBounds_toArray, List.set_cons_zero, List.set_cons_succ, i64_w, i32_w]
          rfl
        refine take_ (i := 5) (N := some 103) (v := ?_) (a' := ?_) #[true, true, true, true, true, true, false, false, false, false, false] rfl rfl (by kernel_rfl) (fun _ _ _ h => h) (Or.inl ⟨by rfl, ?_⟩) hHeld ?_ ?_
        rotate_left
        · rintro w' ⟨s0, s1, s2, s3, s4⟩
          go_simp
          with_reducible rfl
        rotate_left
        · simp only [Act.put, List.setIfInBounds_toArray, List.set_cons_zero, List.set_cons_succ, i64_w, i32_w]
          rfl
        refine last_ (i := 6) (N := some 104) #[true, true, true, true, true, true, true, false, false, false, false] rfl rfl (by kernel_rfl) (by decide) (fun K hK => ?_)
        refine goes_ Try.func7 (by kernel_rfl) rfl #[ptrV gb, .agg #[.slice Ab ln cb, .int .u64 lb], .agg #[.int .i64 xk, .slice B nl dd, .int .i64 xn]] (by rfl) rfl rfl (by simp only [List.map_toArray, List.map_cons, List.map_nil]; rfl) ?_
        with_reducible refine (HDo.out).mono ?_
        rintro e w4 ⟨v', ts', last', A', c', rfl, hst, ho, hu5, hl1, hl2, hsp⟩
        have hp5 := HP.out.symm.acts hst ((Only.drew (Only.refl _ wr)).trans ho) hu5
        have h0 := hp5.2.cell 0 _ rfl
        have h1 := hp5.2.cell 1 _ rfl
        have h1' := (hp5.2.put 0 (.slice A' ts'.length c')).cell 1 _ rfl
        have f0 := hp5.2.free 0
        have f1 := hp5.2.free 1
        have f1' := (hp5.2.put 0 (.slice A' ts'.length c')).free 1
        refine ⟨_, rfl, ?_⟩
        refine hK.out _ _ ?_
        clear hK K
        refine norm_ (a' := ?_) ?_ ?_
        rotate_left
        · show Act.put _ (some 104) _ = _
          simp only [Act.put, List.setIfInBounds_toArray, List.set_cons_zero, List.set_cons_succ, i64_w, i32_w]
          rfl
        refine pure_ (i := 7) (N := some 97) (v := ?_) (a' := ?_) #[true, true, true, true, true, true, true, true, false, false, false] rfl rfl (by kernel_rfl) (fun _ _ _ h => h) (Or.inl ⟨by rfl, ?_⟩) ?_ ?_
        rotate_left
        · intro w'
          go_simp
          with_reducible rfl
        rotate_left
        · simp only [Act.put, List.setIfInBounds_toArray, List.set_cons_zero, List.set_cons_succ, i64_w, i32_w]
          rfl
        refine pure_ (i := 8) (N := some 105) (v := ?_) (a' := ?_) #[true, true, true, true, true, true, true, true, true, false, false] rfl rfl (by kernel_rfl) (fun _ _ _ h => h) (Or.inl ⟨by rfl, ?_⟩) ?_ ?_
        rotate_left
        · intro w'
          go_simp
          with_reducible rfl
        rotate_left
        · simp only [Act.put, List.setIfInBounds_toArray, List.set_cons_zero, List.set_cons_succ, i64_w, i32_w]
          rfl
        refine pure_ (i := 9) (N := some 106) (v := ?_) (a' := ?_) #[true, true, true, true, true, true, true, true, true, true, false] rfl rfl (by kernel_rfl) (fun _ _ _ h => h) (Or.inl ⟨by rfl, ?_⟩) ?_ ?_
        rotate_left
        · intro w'
          go_simp
          with_reducible rfl
        rotate_left
        · simp only [Act.put, List.setIfInBounds_toArray, List.set_cons_zero, List.set_cons_succ, i64_w, i32_w]
          rfl
        refine last_ (i := 10) (N := none) #[true, true, true, true, true, true, true, true, true, true, true] rfl rfl (by kernel_rfl) (by decide) (fun K hK => ?_)
        refine skip_ (w1 := ?_) (by rfl) rfl ?_ ?_
        rotate_left
        · go_simp
          rfl
        refine hK.out _ _ ?_
        clear hK K
        refine done_ (by kernel_rfl) ?_
        have HR2 : Aside0 (R2 w ((w4.setCell ⟨za + 1, 0, none⟩ (.slice A' ts'.length c')).setCell ⟨za + 1, 1, none⟩ (.int .u64 last')) za w.heap.size (za + 1) gb ((i : Int) + 1) ((i : Int) + 1)) := ⟨⟨_, _, _, _, _, _, _, _, _, _, by have := HLa.out; omega, by have := HLb.out; omega, hp5.1.symm⟩⟩
        clear hp5 hst ho hu5 h0 h1 h1' f0 f1 f1' g0 g1 c0 c1' c2 HDo HP HLa HLb hln hl1 hl2 hsp
        generalize (w4.setCell ⟨za + 1, 0, none⟩ (.slice A' ts'.length c')).setCell ⟨za + 1, 1, none⟩ (.int .u64 last') = wz at *
        obtain ⟨va, tsa, la, Aa, ca, vb, tsb, lb, Ab, cb, hla, hlb, hp⟩ := HR2.out
        have HP := Aside0.mk hp
        have HLa := Aside0.mk hla
        have HLb := Aside0.mk hlb
        clear hp hla hlb HR2
        go_wp2_with fail
        refine (TicketsCalls w.heap.size va tsa la wz HP.out.a.st.ga).mono ?_
        rintro e wt ⟨vt, rfl, hrt, hgt, hot⟩
        have HPt := Aside0.mk (HP.out.prog hgt hot)
        have HSm := Aside0.mk HP.out.a.st.ga.small
        obtain ⟨At, ct, rfl⟩ := Kd.R_slice hrt
        rw [tickets_len] at hrt ⊢
        have HRt : Aside0 ((Kd.int .u64).R TU wt w.heap.size (fun _ => True) (.slice At tsa.length ct) (tickets tsa)) := ⟨Kd.R_lower hrt HP.out.a.below.size⟩
        clear hrt hgt hot HP
        have hsm := HSm.out
        go_wp2_with fail
        go_loopw [13] (fun v13 wr' => ∃ j : Nat, j ≤ tsa.length ∧ v13 = .int .i64 j ∧ Aside0 (P2 w wr' za w.heap.size va tsa la Aa ca (za + 1) gb vb tsb lb Ab cb ∧ ∃ lst, (Kd.int .u64).R TU wr' w.heap.size (fun _ => True) (.slice At tsa.length ct) lst)) (fun v13 _ => tsa.length - (intOf v13).toNat)
        case atStart => exact ⟨0, Nat.zero_le _, rfl, ⟨HPt.out, _, HRt.out⟩⟩
        case round =>
          clear HPt HRt
          obtain ⟨j, hj, rfl, HJ⟩ := hrel
          by_cases hjlt : j < tsa.length
          · obtain ⟨hp, lst, hr⟩ := HJ.out
            have hll : lst.length = tsa.length := by
              obtain ⟨A'', c'', e, _⟩ := Kd.R_reads hr
              injection e with _ e _
              exact e.symm
            obtain ⟨tb, cap, ev⟩ := R_form hr (by omega)
            rw [hll] at ev
            injection ev with ev1 ev2 ev3
            subst ev1 ev3
            have j1 : (j : Int) < (tsa.length : Int) := by omega
            have hcf := Kd.R_celln (enc := Value.int .u64) 0 hr (j : Int) (by omega) (by omega)
            rw [Int.toNat_natCast] at hcf
            obtain ⟨cj, fj⟩ := hcf
            have hpt := Kd.R_putn (enc := Value.int .u64) hr (j : Int) 77
            rw [Int.toNat_natCast] at hpt
            have HPx : Aside0 (P2 w (wr.setCell ⟨tb, j, none⟩ (.int .u64 77)) za w.heap.size va tsa la Aa ca (za + 1) gb vb tsb lb Ab cb) := ⟨by
              obtain ⟨inner, ho, _⟩ := hr.2
              obtain ⟨cs, hcs⟩ := own_typed ho tb rfl
              exact hp.told (cs := cs.toList) ⟨by rw [Array.toArray_toList]; exact hcs⟩ (own_base ho tb rfl) _⟩
            have HRx : Aside0 (∃ lst, (Kd.int .u64).R TU (wr.setCell ⟨tb, j, none⟩ (.int .u64 77)) w.heap.size (fun _ => True) (.slice (some ⟨tb, 0, none⟩) tsa.length ct) lst) := ⟨⟨_, hpt⟩⟩
            generalize rdOf 0 lst (j : Int) = old at *
            clear hp hr hll hpt ev2 HJ
            go_wp2
            go_roundw
            case rel => exact ⟨j + 1, by omega, by go_num, ⟨HPx.out, HRx.out⟩⟩
            case measure => simp [intOf]; omega
          · obtain rfl : j = tsa.length := by omega
            clear hj
            have hmlx := HMm.out
            go_wp2
            go_roundw
            case rel => exact ⟨i + 1, by omega, by go_num, ⟨_, _, _, _, _, _, _, _, _, _, by have := HLa.out; omega, by have := HLb.out; omega, HJ.out.1⟩⟩
            case measure => simp [intOf]; omega
    · have n1 : ¬ (i : Int) < (m : Int) := by omega
      have n2 : ¬ (i : Int) < (m2 : Int) := by omega
      obtain ⟨va, tsa, la, Aa, ca, vb, tsb, lb, Ab, cb, hla, hlb, hp⟩ := HR.out
      have HP := Aside0.mk hp
      have HLa := Aside0.mk hla
      have HLb := Aside0.mk hlb
      clear hp hla hlb HR hc
      have g0 := HP.out.a.box.cell 0 _ rfl
      have g1 := HP.out.a.box.cell 1 _ rfl
      go_wp2_with fail
      refine (isCalls w.heap.size va tsa la Aa ca wr HP.out.a.st (by have := HLa.out; omega)).mono ?_
      rintro e w6 ⟨rfl, hs6, ho6⟩
      have HP6 := Aside0.mk (HP.out.prog hs6.ga ho6)
      clear hs6 ho6 HP g0 g1
      have g0 := HP6.out.b.box.cell 0 _ rfl
      have g1 := HP6.out.b.box.cell 1 _ rfl
      go_wp2_with fail
      refine (isCalls gb vb tsb lb Ab cb w6 HP6.out.b.st (by have := HLb.out; omega)).mono ?_
      rintro e w7 ⟨rfl, hs7, ho7⟩
      have HP7 := Aside0.mk (HP6.out.symm.prog hs7.ga ho7)
      clear hs7 ho7 HP6 g0 g1
      go_wp2_with fail
      refine (awakeCalls w7).mono ?_
      rintro e w9 ⟨rfl, hb9⟩
      have HB9 : Aside0 (Below w.heap.size w w9) := ⟨HP7.out.a.below.trans (hb9.mono HP7.out.a.below.size)⟩
      clear hb9 HP7
      go_wp2
      go_ret
      exact ⟨rfl, HB9.out⟩
end Go.Proofs.Ytkgabeloofjohaa.Gap

