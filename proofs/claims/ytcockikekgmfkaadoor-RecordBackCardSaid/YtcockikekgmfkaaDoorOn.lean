/-
  A world that is as another one was but for some blocks that were there.
-/
import Derived.Test.YtcockikekgmfkaaDoorSm
namespace Go.Proofs.YtcockikekgmfkaaDoor
open Go.RowKit

structure Only (S : Nat → Prop) (a w : World) : Prop where
  os : w.os = a.os
  tape : w.tape = a.tape
  output : w.output = a.output
  size : a.heap.size ≤ w.heap.size
  block : ∀ k, k < a.heap.size → ¬ S k → w.heap[k]? = a.heap[k]?

section
variable {S S' : Nat → Prop} {a b w w' : World}
theorem Only.refl (S : Nat → Prop) (w : World) : Only S w w := ⟨rfl, rfl, rfl, Nat.le_refl _, fun _ _ _ => rfl⟩
theorem Only.trans (h : Only S a b) (k : Only S b w) : Only S a w :=
  ⟨k.os.trans h.os, k.tape.trans h.tape, k.output.trans h.output, Nat.le_trans h.size k.size, fun i hi hn => (k.block i (Nat.lt_of_lt_of_le hi h.size) hn).trans (h.block i hi hn)⟩
theorem Only.mono (h : Only S a w) (hS : ∀ g, g < a.heap.size → S g → S' g) : Only S' a w := ⟨h.os, h.tape, h.output, h.size, fun i hi hn => h.block i hi fun hs => hn (hS i hi hs)⟩
/-- What the second step turns is the first step's, or new. -/
theorem Only.step (h : Only S a b) (k : Only S' b w) (hS : ∀ g, g < a.heap.size → S' g → S g) : Only S a w :=
  ⟨k.os.trans h.os, k.tape.trans h.tape, k.output.trans h.output, Nat.le_trans h.size k.size, fun i hi hn => (k.block i (Nat.lt_of_lt_of_le hi h.size) (fun hs => hn (hS i hi hs))).trans (h.block i hi hn)⟩
theorem Only.of_below (S : Nat → Prop) (h : Below a.heap.size a w) : Only S a w := ⟨h.os, h.tape, h.output, h.size, fun i hi _ => h.block i hi⟩
theorem Only.below {B : Nat} (h : Only S a w) (hB : B ≤ a.heap.size) (hS : ∀ g, S g → B ≤ g) : Below B a w := ⟨h.os, h.tape, h.output, h.size, fun i hi => h.block i (by omega) fun hs => by have := hS i hs; omega⟩
theorem Only.then_below (h : Only S a b) (k : Below b.heap.size b w) : Only S a w := h.trans (Only.of_below S k)
theorem Only.drew (h : Only S a w) : Only S a w.drew := ⟨h.os, h.tape, h.output, h.size, h.block⟩
theorem Only.alloc (h : Only S a w) (o : Obj) : Only S a (w.alloc o) :=
  ⟨h.os, h.tape, h.output, Nat.le_trans h.size (by simp), fun i hi hn => (Below.heap_alloc w o i (Nat.lt_of_lt_of_le hi h.size)).trans (h.block i hi hn)⟩
theorem Only.set (h : Only S a w) {g o : Nat} (hp : S g ∨ a.heap.size ≤ g) (u : Value) : Only S a (w.setCell ⟨g, o, none⟩ u) :=
  ⟨h.os, h.tape, h.output, by simpa [World.setCell] using h.size, fun i hi hn => (Below.heap_setCell w ⟨g, o, none⟩ u i (by
    rintro rfl
    rcases hp with hp | hp
    · exact hn hp
    · exact absurd hi (by simpa using hp))).trans (h.block i hi hn)⟩
theorem Only.grown {row : Option Nat} (h : Only S a b) (hg : b.grownBy w row) (hr : ∀ k, row = some k → k < a.heap.size → S k) : Only S a w :=
  ⟨hg.os.trans h.os, hg.tape.trans h.tape, hg.output.trans h.output, Nat.le_trans h.size hg.size, fun i hi hn => (hg.block i (Nat.lt_of_lt_of_le hi h.size) (fun e => hn (hr i e.symm hi))).trans (h.block i hi hn)⟩
theorem Only.blk {g : Nat} {t : TypeId} {cs : Array Value} (h : Only S a w) (k : Blk a g t cs) (hn : ¬ S g) : Blk w g t cs := (h.block g k.lt hn).trans k
theorem Only.cell {p : Addr} (h : Only S a w) (hp : p.block < a.heap.size) (hn : ¬ S p.block) : w.cell? p = a.cell? p := World.cell?_of_block (h.block _ hp hn)
theorem Only.reads {B size n : Nat} {A : Option Addr} {xs : List Value} (h : Only S a w) (k : Reads a B size A n xs) (hB : B ≤ a.heap.size) (hn : ∀ g, g < B → ¬ S g) : Reads w B size A n xs :=
  k.keep fun p hp => h.cell (by omega) (hn _ hp)
theorem Only.own {base : Nat} {e : TypeId} {size n : Nat} {v : Value} {xs : List Value} (h : Only S a w) (k : a.ownsRow base e size v n xs) (hn : ∀ g, base ≤ g → ¬ S g) : w.ownsRow base e size v n xs := by
  refine ⟨k.1, ?_⟩
  rcases k.2 with h0 | ⟨g, cap, cur, hv, hg, hh, hr⟩
  · exact .inl h0
  · refine .inr ⟨g, cap, cur, hv, hg, ?_, hr⟩
    have hlt : g < a.heap.size := by
      rcases Nat.lt_or_ge g a.heap.size with h1 | h1
      · exact h1
      · rw [Array.getElem?_eq_none h1] at hh; cases hh
    exact (h.block g hlt (hn g hg)).trans hh
end
/-- A row of the call's own from a place on, read. -/
theorem own_set {w : World} {base : Nat} {e : TypeId} {size n : Nat} {v : Value} {xs : List Value} (k : w.ownsRow base e size v n xs) {g o : Nat} (hg : g < base) (u : Value) : (w.setCell ⟨g, o, none⟩ u).ownsRow base e size v n xs :=
  ((Only.refl (fun x => x = g) w).set (.inl rfl) u).own k (fun x hx hs => by omega)
end Go.Proofs.YtcockikekgmfkaaDoor
