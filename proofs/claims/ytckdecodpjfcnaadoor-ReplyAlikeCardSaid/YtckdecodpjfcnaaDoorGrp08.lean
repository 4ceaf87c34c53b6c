/-
  What errors.As leaves behind; the library's own variable.
  The document's answers of layer 1 (rovingref01): what Put, Len give.
  The document's answer of layer 1, Get: what it gives.
  A world that is as another one was but for some blocks that were there.
-/
import Derived.Test.YtckdecodpjfcnaaDoorGrp07
import Derived.Test.YtckdecodpjfcnaaDoorGrp05
import Derived.Test.YtckdecodpjfcnaaDoorGrp06
import Derived.Test.YtckdecodpjfcnaaDoorGrp01
namespace Go.Proofs.YtckdecodpjfcnaaDoor
open Go.RowKit

theorem reads_new (w : World) (t : TypeId) (l : List UInt8) : Reads (w.alloc (.cells (cellsB l).toArray t)) (w.heap.size + 1) 1 (some ⟨w.heap.size, 0, none⟩) l.length (cellsB l) := by
  refine ⟨by rw [length_cellsB]; omega, fun _ => ⟨_, rfl, Nat.lt_succ_self _, fun j u hu => ?_⟩⟩
  rw [add_none, Nat.zero_add]
  have := (Blk.new w t (cellsB l).toArray).cell j
  rw [this]
  simpa using hu

theorem Len_any (n : Int) (w : World) :
    Calls Tryd.prog 55 #[.int .i64 n] w fun e w' => e = .returned (.int .i64 (if n < 0 ∨ 1099511627776 < n then 0 else (encLen n.toNat : Int))) ∧ w = w' := by
  by_cases h : n < 0 ∨ 1099511627776 < n
  · rw [if_pos h]; exact len_no n w h
  · obtain ⟨k, rfl⟩ := Int.eq_ofNat_of_zero_le (show 0 ≤ n by omega)
    rw [if_neg h, Int.toNat_natCast]
    exact len_ok k w (show k ≤ 1099511627776 by omega)
end Go.Proofs.YtckdecodpjfcnaaDoor
namespace Go.Proofs.YtckdecodpjfcnaaDoor
open Go.RowKit

theorem getOf_bad (L : List UInt8) (k : Nat) (h : dec (L.drop k) = none) (hk : k ≤ L.length) : getOf L k = (0, 0, 70) := by
  unfold getOf
  rw [if_neg (by omega), Int.toNat_natCast, h]
theorem getOf_ok (L : List UInt8) (k n m : Nat) (h : dec (L.drop k) = some (n, m)) (hk : k ≤ L.length) : getOf L k = ((n : Int), (k : Int) + m, 0) := by
  unfold getOf
  rw [if_neg (by omega), Int.toNat_natCast, h]

theorem acc_lt (acc P U : Nat) (h : acc < U) (h2 : P ≤ 127 * U) : acc + P < U * 128 := by omega

end Go.Proofs.YtckdecodpjfcnaaDoor
namespace Go.Proofs.YtckdecodpjfcnaaDoor
open Go.RowKit

structure Only (S : Nat → Prop) (a w : World) : Prop where
  os : w.os = a.os
  tape : w.tape = a.tape
  output : w.output = a.output
  size : a.heap.size ≤ w.heap.size
  block : ∀ k, k < a.heap.size → ¬ S k → w.heap[k]? = a.heap[k]?

section
variable {S S' : Nat → Prop} {a b w w' : World}
theorem Only.refl (S : Nat → Prop) (w : World) : Only S w w := ⟨rfl, rfl, rfl, Nat.le_refl _, fun _ _ _ => rfl⟩
theorem Only.trans (h : Only S a b) (k : Only S b w) : Only S a w :=
  ⟨k.os.trans h.os, k.tape.trans h.tape, k.output.trans h.output, Nat.le_trans h.size k.size, fun i hi hn => (k.block i (Nat.lt_of_lt_of_le hi h.size) hn).trans (h.block i hi hn)⟩
theorem Only.mono (h : Only S a w) (hS : ∀ g, g < a.heap.size → S g → S' g) : Only S' a w := ⟨h.os, h.tape, h.output, h.size, fun i hi hn => h.block i hi fun hs => hn (hS i hi hs)⟩
/-- What the second step turns is the first step's, or new. -/
theorem Only.step (h : Only S a b) (k : Only S' b w) (hS : ∀ g, g < a.heap.size → S' g → S g) : Only S a w :=
  ⟨k.os.trans h.os, k.tape.trans h.tape, k.output.trans h.output, Nat.le_trans h.size k.size, fun i hi hn => (k.block i (Nat.lt_of_lt_of_le hi h.size) (fun hs => hn (hS i hi hs))).trans (h.block i hi hn)⟩
theorem Only.of_below (S : Nat → Prop) (h : Below a.heap.size a w) : Only S a w := ⟨h.os, h.tape, h.output, h.size, fun i hi _ => h.block i hi⟩
theorem Only.below {B : Nat} (h : Only S a w) (hB : B ≤ a.heap.size) (hS : ∀ g, S g → B ≤ g) : Below B a w := ⟨h.os, h.tape, h.output, h.size, fun i hi => h.block i (by omega) fun hs => by have := hS i hs; omega⟩
theorem Only.then_below (h : Only S a b) (k : Below b.heap.size b w) : Only S a w := h.trans (Only.of_below S k)
theorem Only.drew (h : Only S a w) : Only S a w.drew := ⟨h.os, h.tape, h.output, h.size, h.block⟩
theorem Only.alloc (h : Only S a w) (o : Obj) : Only S a (w.alloc o) :=
  ⟨h.os, h.tape, h.output, Nat.le_trans h.size (by simp), fun i hi hn => (Below.heap_alloc w o i (Nat.lt_of_lt_of_le hi h.size)).trans (h.block i hi hn)⟩
theorem Only.set (h : Only S a w) {g o : Nat} (hp : S g ∨ a.heap.size ≤ g) (u : Value) : Only S a (w.setCell ⟨g, o, none⟩ u) :=
  ⟨h.os, h.tape, h.output, by simpa [World.setCell] using h.size, fun i hi hn => (Below.heap_setCell w ⟨g, o, none⟩ u i (by
    rintro rfl
    rcases hp with hp | hp
    · exact hn hp
    · exact absurd hi (by simpa using hp))).trans (h.block i hi hn)⟩
theorem Only.grown {row : Option Nat} (h : Only S a b) (hg : b.grownBy w row) (hr : ∀ k, row = some k → k < a.heap.size → S k) : Only S a w :=
  ⟨hg.os.trans h.os, hg.tape.trans h.tape, hg.output.trans h.output, Nat.le_trans h.size hg.size, fun i hi hn => (hg.block i (Nat.lt_of_lt_of_le hi h.size) (fun e => hn (hr i e.symm hi))).trans (h.block i hi hn)⟩
theorem Only.blk {g : Nat} {t : TypeId} {cs : Array Value} (h : Only S a w) (k : Blk a g t cs) (hn : ¬ S g) : Blk w g t cs := (h.block g k.lt hn).trans k
theorem Only.cell {p : Addr} (h : Only S a w) (hp : p.block < a.heap.size) (hn : ¬ S p.block) : w.cell? p = a.cell? p := World.cell?_of_block (h.block _ hp hn)
theorem Only.reads {B size n : Nat} {A : Option Addr} {xs : List Value} (h : Only S a w) (k : Reads a B size A n xs) (hB : B ≤ a.heap.size) (hn : ∀ g, g < B → ¬ S g) : Reads w B size A n xs :=
  k.keep fun p hp => h.cell (by omega) (hn _ hp)
theorem Only.own {base : Nat} {e : TypeId} {size n : Nat} {v : Value} {xs : List Value} (h : Only S a w) (k : a.ownsRow base e size v n xs) (hn : ∀ g, base ≤ g → ¬ S g) : w.ownsRow base e size v n xs := by
  refine ⟨k.1, ?_⟩
  rcases k.2 with h0 | ⟨g, cap, cur, hv, hg, hh, hr⟩
  · exact .inl h0
  · refine .inr ⟨g, cap, cur, hv, hg, ?_, hr⟩
    have hlt : g < a.heap.size := by
      rcases Nat.lt_or_ge g a.heap.size with h1 | h1
      · exact h1
      · rw [Array.getElem?_eq_none h1] at hh; cases hh
    exact (h.block g hlt (hn g hg)).trans hh
end
/-- A row of the call's own from a place on, read. -/
theorem own_set {w : World} {base : Nat} {e : TypeId} {size n : Nat} {v : Value} {xs : List Value} (k : w.ownsRow base e size v n xs) {g o : Nat} (hg : g < base) (u : Value) : (w.setCell ⟨g, o, none⟩ u).ownsRow base e size v n xs :=
  ((Only.refl (fun x => x = g) w).set (.inl rfl) u).own k (fun x hx hs => by omega)
end Go.Proofs.YtckdecodpjfcnaaDoor
namespace Go.Proofs.YtckdecodpjfcnaaDoor
open Go.RowKit

/-- The library's own variable holds the handle of the type error. -/
def HasET (w : World) : Prop := w.cell? ⟨0, 0, none⟩ = some (.iface 109 (.agg #[.pointer (some ⟨1, 41, none⟩)]))
theorem HasET.lt {w : World} (h : HasET w) : 0 < w.heap.size := by
  rcases Nat.lt_or_ge 0 w.heap.size with h1 | h1
  · exact h1
  · unfold HasET at h; simp [World.cell?, Array.getElem?_eq_none h1] at h
theorem HasET.below {w w' : World} (h : HasET w) {B : Nat} (hb : Below B w w') (hB : 0 < B) : HasET w' := (hb.cell (p := ⟨0, 0, none⟩) hB).trans h
theorem HasET.up {w w' : World} (h : HasET w) (hb : Below w.heap.size w w') : HasET w' := h.below hb h.lt

theorem asW_cell (w : World) (n : Int) : (asWorld (w.alloc (.cells #[.int .i64 0] 23)) w.heap.size n).cell? ⟨w.heap.size, 0, none⟩ = some (.int .i64 n) := by
  unfold asWorld
  refine World.cell?_setCell_same' _ _ _ ?_
  rw [World.cell?_alloc_lt _ _ ⟨w.heap.size, 0, none⟩ (by simp only [World.size_alloc]; omega), World.cell?_alloc_lt _ _ ⟨w.heap.size, 0, none⟩ (by simp only [World.size_alloc]; omega), World.cell?_alloc_lt _ _ ⟨w.heap.size, 0, none⟩ (by simp only [World.size_alloc]; omega), World.cell?_alloc_lt _ _ ⟨w.heap.size, 0, none⟩ (by simp only [World.size_alloc]; omega)]
  simp
theorem asW_below (w : World) (n : Int) : Below w.heap.size w (asWorld (w.alloc (.cells #[.int .i64 0] 23)) w.heap.size n) := by
  rw [asWorld]
  refine Below.setCell (p := ⟨w.heap.size, 0, none⟩) ?_ (Nat.le_refl _) _
  exact ((((((Below.refl _ w).alloc (Nat.le_refl _) _).alloc (by simp) _).alloc (by simp only [World.size_alloc]; omega) _).alloc (by simp only [World.size_alloc]; omega) _).alloc (by simp only [World.size_alloc]; omega) _)
theorem cell_lt {w : World} {b o : Nat} {v : Value} (h : w.cell? ⟨b, o, none⟩ = some v) : b < w.heap.size := by
  rcases Nat.lt_or_ge b w.heap.size with h1 | h1
  · exact h1
  · simp [World.cell?, Array.getElem?_eq_none h1] at h
end Go.Proofs.YtckdecodpjfcnaaDoor
