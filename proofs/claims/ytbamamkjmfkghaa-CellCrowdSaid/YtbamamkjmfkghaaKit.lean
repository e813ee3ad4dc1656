/- Small words on blocks of memory, and on what a call leaves alone. -/
import Derived.Test.YtbamamkjmfkghaaProg
import Derived.WalkKit
import Derived.KernelRfl
import Derived.OneCell
import Derived.Lib.Hide
import Derived.Deep.OwnRows
import Derived.Test.YtbamamkjmfkghaaWMore
namespace Go.Proofs.Ytbamamkjmfkghaa.Kit
set_option linter.unusedVariables false
set_option linter.unusedSimpArgs false
open Go.RowKit Go.Proofs.YtbamamkjmfkghaaW.PrintWords

/-- A block of cells, its own row. -/
structure Blk (w : World) (b : Nat) (cs : List Value) (t : TypeId) : Prop where mk :: (out : w.heap[b]? = some (.cells cs.toArray t (0, 0)))

theorem Blk.lt {w : World} {b : Nat} {cs : List Value} {t : TypeId} (h : Blk w b cs t) : b < w.heap.size := lt_of_block h.out
theorem Blk.cell {w : World} {b : Nat} {cs : List Value} {t : TypeId} (h : Blk w b cs t) (i : Nat) (v : Value) (hi : cs[i]? = some v) : w.cell? ⟨b, i, none⟩ = some v := by
  have := h.out
  simp [World.cell?, this, hi]
theorem Blk.free {w : World} {b : Nat} {cs : List Value} {t : TypeId} (h : Blk w b cs t) (i : Nat) : w.frozen? ⟨b, i, none⟩ = false := by
  have := h.out
  simp [World.frozen?, this]
theorem Blk.move {w w' : World} {b : Nat} {cs : List Value} {t : TypeId} (h : Blk w b cs t) (e : w'.heap[b]? = w.heap[b]?) : Blk w' b cs t := ⟨e.trans h.out⟩
theorem Blk.below {B : Nat} {w w' : World} {b : Nat} {cs : List Value} {t : TypeId} (h : Blk w b cs t) (hb : Below B w w') (hB : b < B) : Blk w' b cs t := h.move (hb.block b hB)
theorem Blk.belowSize {w w' : World} {b : Nat} {cs : List Value} {t : TypeId} (h : Blk w b cs t) (hb : Below w.heap.size w w') : Blk w' b cs t := h.below hb h.lt
theorem Blk.alloc {w : World} {b : Nat} {cs : List Value} {t : TypeId} (h : Blk w b cs t) (o : Obj) : Blk (w.alloc o) b cs t := h.move (Below.heap_alloc w o b h.lt)
theorem Blk.new (w : World) (cs : List Value) (t : TypeId) : Blk (w.alloc (.cells cs.toArray t)) w.heap.size cs t := ⟨heap_alloc_new w _⟩
theorem Blk.newA (w : World) (cs : Array Value) (t : TypeId) : Blk (w.alloc (.cells cs t)) w.heap.size cs.toList t := ⟨by rw [heap_alloc_new w _]⟩
theorem Blk.drew {w : World} {b : Nat} {cs : List Value} {t : TypeId} (h : Blk w b cs t) : Blk w.drew b cs t := ⟨h.out⟩
theorem Blk.drewN {w : World} {b : Nat} {cs : List Value} {t : TypeId} (h : Blk w b cs t) (n : Nat) : Blk (w.drewN n) b cs t := ⟨h.out⟩
theorem Blk.put {w : World} {b : Nat} {cs : List Value} {t : TypeId} (h : Blk w b cs t) (i : Nat) (v : Value) : Blk (w.setCell ⟨b, i, none⟩ v) b (cs.set i v) t := by
  constructor
  rw [heap_setCell_same w b i _ t v h.out]
  simp
theorem Blk.far {w : World} {b : Nat} {cs : List Value} {t : TypeId} (h : Blk w b cs t) {a : Addr} (ha : b ≠ a.block) (v : Value) : Blk (w.setCell a v) b cs t := h.move (Below.heap_setCell w a v b ha)

/-- What a call leaves alone: all old blocks but those of S. -/
structure Only (S : Nat → Prop) (w w' : World) : Prop where
  os : w'.os = w.os
  tape : w'.tape = w.tape
  output : w'.output = w.output
  size : w.heap.size ≤ w'.heap.size
  block : ∀ k, k < w.heap.size → ¬ S k → w'.heap[k]? = w.heap[k]?

theorem Only.refl (S : Nat → Prop) (w : World) : Only S w w := ⟨rfl, rfl, rfl, Nat.le_refl _, fun _ _ _ => rfl⟩
theorem Only.trans {S : Nat → Prop} {a b c : World} (h : Only S a b) (k : Only S b c) : Only S a c :=
  ⟨k.os.trans h.os, k.tape.trans h.tape, k.output.trans h.output, Nat.le_trans h.size k.size, fun i hi hn => (k.block i (Nat.lt_of_lt_of_le hi h.size) hn).trans (h.block i hi hn)⟩
/-- The second step may write what was new behind the first. -/
theorem Only.then {S T : Nat → Prop} {a b c : World} (h : Only S a b) (k : Only T b c) (hT : ∀ i, T i → i < a.heap.size → S i) : Only S a c :=
  ⟨k.os.trans h.os, k.tape.trans h.tape, k.output.trans h.output, Nat.le_trans h.size k.size, fun i hi hn => (k.block i (Nat.lt_of_lt_of_le hi h.size) (fun ht => hn (hT i ht hi))).trans (h.block i hi hn)⟩
theorem Only.mono {S T : Nat → Prop} {a b : World} (h : Only S a b) (hS : ∀ i, S i → T i) : Only T a b := ⟨h.os, h.tape, h.output, h.size, fun i hi hn => h.block i hi (fun s => hn (hS i s))⟩
theorem Only.ofBelow {S : Nat → Prop} {w w' : World} (h : Below w.heap.size w w') : Only S w w' := ⟨h.os, h.tape, h.output, h.size, fun k hk _ => h.block k hk⟩
theorem Only.ofGrown {w w' : World} {g : Nat} (h : w.grownBy w' (some g)) : Only (· = g) w w' := ⟨h.os, h.tape, h.output, h.size, fun k hk hn => h.block k hk (fun e => hn (by injection e))⟩
theorem Only.alloc {S : Nat → Prop} {a w : World} (h : Only S a w) (o : Obj) : Only S a (w.alloc o) :=
  ⟨h.os, h.tape, h.output, Nat.le_trans h.size (by simp), fun i hi hn => (Below.heap_alloc w o i (Nat.lt_of_lt_of_le hi h.size)).trans (h.block i hi hn)⟩
theorem Only.drew {S : Nat → Prop} {a w : World} (h : Only S a w) : Only S a w.drew := ⟨h.os, h.tape, h.output, h.size, h.block⟩
theorem Only.drewN {S : Nat → Prop} {a w : World} (h : Only S a w) (n : Nat) : Only S a (w.drewN n) := ⟨h.os, h.tape, h.output, h.size, h.block⟩
theorem Only.setCell {S : Nat → Prop} {a w : World} (h : Only S a w) {p : Addr} (hp : S p.block ∨ a.heap.size ≤ p.block) (u : Value) : Only S a (w.setCell p u) :=
  ⟨h.os, h.tape, h.output, by simpa [World.setCell] using h.size, fun i hi hn => (Below.heap_setCell w p u i (by
    rintro rfl
    rcases hp with hp | hp
    · exact hn hp
    · omega)).trans (h.block i hi hn)⟩
theorem Only.below {S : Nat → Prop} {w w' : World} (h : Only S w w') {B : Nat} (hS : ∀ i, S i → B ≤ i) (hB : B ≤ w.heap.size) : Below B w w' :=
  ⟨h.os, h.tape, h.output, h.size, fun k hk => h.block k (by omega) (fun s => by have := hS k s; omega)⟩
theorem Only.blk {S : Nat → Prop} {w w' : World} (h : Only S w w') {b : Nat} {cs : List Value} {t : TypeId} (k : Blk w b cs t) (hn : ¬ S b) : Blk w' b cs t := k.move (h.block b k.lt hn)
theorem Only.R {α : Type} {d : Kd α} {e base : Nat} {ok : Nat → Prop} {v : Value} {xs : List α} {S : Nat → Prop} {w w' : World} (h : Only S w w') (k : d.R e w base ok v xs) (hn : ∀ i, base ≤ i → ok i → ¬ S i) : d.R e w' base ok v xs :=
  Kd.R_mono (Kd.R_step (Kd.R_bound k) (fun i hi hl => h.block i hl (hn i hi.2.1 hi.1))) (fun _ hk => hk.1)
theorem Only.C {α : Type} {d : Kd α} {A : Option Addr} {n : Nat} {xs : List α} {w w' : World} (h : Only (fun _ => False) w w') (k : d.C w A n xs) : d.C w' A n xs := Kd.C_below k (h.below (fun _ => False.elim) (Nat.le_refl _))

/-- A row stays, where a block of another type is written. -/
theorem Only.Rt {α : Type} {d : Kd α} {e base : Nat} {ok : Nat → Prop} {v : Value} {xs : List α} {w w' : World} {g : Nat} {cs : List Value} {t : TypeId} (ho : Only (fun i => i = g) w w') (hb : Blk w g cs t) (ht : ∀ q, q ∈ e :: d.E → q ≠ t) (h : d.R e w base ok v xs) : d.R e w' base ok v xs :=
  Kd.R_mono (ho.R (Kd.R_types h hb.out ht) (fun i _ hk (he : i = g) => hk.2 he)) (fun _ hk => hk.1)

/-! make of elements of any size -/
theorem run_make_rowN {P : Program} (t e : TypeId) (i : TypeInfo) (z : Value) (ht : P.underlying t = some (.slice e)) (hi : P.info? e = some i) (hz : i.zero = some z)
    (kl kc : IntKind) (n c : Nat) (hnc : n ≤ c) (hbytes : i.bytes * c ≤ 281474976710656) (h63 : c ≤ 9223372036854775807) (w : World) :
    (Instr.makeSlice t (.int kl (n : Int)) (.int kc (c : Int))).run P w = .ok (.slice (some ⟨w.heap.size, 0, none⟩) n c) (w.alloc (.cells (madeCells z.cells (c * i.size)) e)) := by
  have hb : (i.bytes : Int) * (c : Int) ≤ 281474976710656 := by
    have h : ((i.bytes * c : Nat) : Int) ≤ 281474976710656 := by omega
    rwa [Int.natCast_mul] at h
  have hr := run_make (P := P) w t e i z ht hi hz kl kc n c (by omega) (by omega) hb (by omega)
  simp only [Int.toNat_natCast] at hr
  exact hr
theorem madeOne (v : Value) (n : Nat) : madeCells #[v] n = (List.replicate n v).toArray := by
  apply Array.ext
  · simp [madeCells]
  · intro i h1 h2
    simp [madeCells, Nat.mod_one]
theorem make_one {P : Program} (t e : TypeId) (v : Value) (by_ : Nat) (ht : P.underlying t = some (.slice e)) (hinfo : (P.info? e).map (fun i => (i.zero.map (·.cells), i.size, i.bytes)) = some (some #[v], 1, by_))
    (kl kc : IntKind) (n : Nat) (hbytes : by_ * n ≤ 281474976710656) (h63 : n ≤ 9223372036854775807) (w : World) :
    (Instr.makeSlice t (.int kl (n : Int)) (.int kc (n : Int))).run P w = .ok (.slice (some ⟨w.heap.size, 0, none⟩) n n) (w.alloc (.cells (List.replicate n v).toArray e)) := by
  obtain ⟨i, hi, hzz⟩ := Option.map_eq_some_iff.1 hinfo
  simp only [Prod.mk.injEq] at hzz
  obtain ⟨hz, hs, hb⟩ := hzz
  obtain ⟨z, hz, hzc⟩ := Option.map_eq_some_iff.1 hz
  rw [run_make_rowN t e i z ht hi hz kl kc n n (Nat.le_refl _) (by rw [hb]; exact hbytes) h63 w, hs, hzc, Nat.mul_one, madeOne]
/-- What make gave, as a row of the call's own. -/
theorem R_made (k : IntKind) (e : TypeId) (W : World) (base n : Nat) (hb : base ≤ W.heap.size) (hm : n ≤ 9223372036854775807) :
    (Kd.int k).R e (W.alloc (.cells (Array.replicate n (.int k 0)) e)) base (fun _ => True) (.slice (some ⟨W.heap.size, 0, none⟩) n n) (List.replicate n 0) := by
  have h := own_made' W base e k n hb hm
  have he : madeCells #[Value.int k 0] n = Array.replicate n (.int k 0) := by rw [madeOne]; simp
  rw [he] at h
  exact Kd.R_of_own h (fun _ _ => trivial)
/-- A block of numbers is a row of the call's own. -/
theorem Blk.R {w : World} {b : Nat} {k : IntKind} {xs : List Int} {e : TypeId} (h : Blk w b (nums k xs) e) (base : Nat) (hb : base ≤ b) (hm : xs.length ≤ 9223372036854775807) :
    (Kd.int k).R e w base (fun _ => True) (.slice (some ⟨b, 0, none⟩) xs.length xs.length) xs :=
  Kd.R_of_own ⟨by simp [encs], .inr ⟨b, xs.length, (nums k xs).toArray, rfl, hb, h.out, Nat.le_refl _, by simpa [maxLen] using hm, by simp [nums], by
    have : (nums k xs).toArray.toList.take (xs.length * 1) = nums k xs := by
      rw [List.take_of_length_le (by simp [nums])]
    exact this⟩⟩ (fun _ _ => trivial)
end Go.Proofs.Ytbamamkjmfkghaa.Kit
