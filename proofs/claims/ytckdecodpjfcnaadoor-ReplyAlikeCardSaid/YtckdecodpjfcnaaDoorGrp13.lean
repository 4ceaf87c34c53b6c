/-
  Words for readings that fill a block of the call's own: a reader whose place is known, in a world that goes on; both readers.
-/
import Derived.Test.YtckdecodpjfcnaaDoorGrp12
import Derived.Deep.RegionHeld3
import Derived.Deep.DrawnRows
namespace Go.Proofs.YtckdecodpjfcnaaDoor
open Go.RowKit

/-- A world that goes on: only block g, of those below B, is turned. -/
def Goes (B g : Nat) (w W : World) : Prop := Only (fun x => x = g) w W ∧ w.heap.size = B ∧ g < B
theorem Goes.refl {g : Nat} {w : World} (h : g < w.heap.size) : Goes w.heap.size g w w := ⟨Only.refl _ _, rfl, h⟩
section
variable {B g : Nat} {w W W' : World}
theorem Goes.only (h : Goes B g w W) (o : Only (fun x => x = g) W W') : Goes B g w W' := ⟨h.1.trans o, h.2⟩
theorem Goes.size (h : Goes B g w W) : B ≤ W.heap.size := by have := h.1.size; have := h.2.1; omega
theorem Goes.below (h : Goes B g w W) (k : Below B W W') : Goes B g w W' := ⟨h.1.then_b k (by have := h.2.1; omega), h.2⟩
theorem Goes.alloc (h : Goes B g w W) (o : Obj) : Goes B g w (W.alloc o) := ⟨h.1.alloc o, h.2⟩
theorem Goes.drew (h : Goes B g w W) : Goes B g w W.drew := ⟨h.1.drew, h.2⟩
theorem Goes.drewN (h : Goes B g w W) (n : Nat) : Goes B g w (W.drewN n) := h.below (below_drewN (Below.refl _ _) n)
theorem Goes.set (h : Goes B g w W) {b o : Nat} (hb : B ≤ b) (u : Value) : Goes B g w (W.setCell ⟨b, o, none⟩ u) := ⟨h.1.set (.inr (by have := h.2.1; omega)) u, h.2⟩
theorem Goes.grown {row : Option Nat} (h : Goes B g w W) (k : W.grownBy W' row) (hr : ∀ x, row = some x → B ≤ x) : Goes B g w W' :=
  ⟨h.1.grown k (fun x hx hl => by have := hr x hx; have := h.2.1; omega), h.2⟩
end

/-- The program's reader, at a place. -/
def RdOk (B : Nat) (W : World) (g : Nat) (s : ByteArray) (i : Nat) (b : Bool) : Prop :=
  RdB W g s i b ∧ i ≤ s.size ∧ HasET W ∧ s.size ≤ 100000 ∧ g < B ∧ 0 < B ∧ B ≤ W.heap.size
section
variable {B g : Nat} {W W' : World} {s : ByteArray} {i : Nat} {b : Bool}
theorem RdOk.below (h : RdOk B W g s i b) (k : Below B W W') : RdOk B W' g s i b :=
  ⟨h.1.below k h.2.2.2.2.1, h.2.1, h.2.2.1.below k h.2.2.2.2.2.1, h.2.2.2.1, h.2.2.2.2.1, h.2.2.2.2.2.1, by have := k.size; have := h.2.2.2.2.2.2; omega⟩
theorem RdOk.alloc (h : RdOk B W g s i b) (o : Obj) : RdOk B (W.alloc o) g s i b := h.below ((Below.refl B W).alloc h.2.2.2.2.2.2 o)
theorem RdOk.drew (h : RdOk B W g s i b) : RdOk B W.drew g s i b := h.below (Below.refl B W).drew
theorem RdOk.drewN (h : RdOk B W g s i b) (n : Nat) : RdOk B (W.drewN n) g s i b := h.below (below_drewN (Below.refl B W) n)
theorem RdOk.set (h : RdOk B W g s i b) {p o : Nat} (hb : B ≤ p) (u : Value) : RdOk B (W.setCell ⟨p, o, none⟩ u) g s i b := h.below ((Below.refl B W).setCell (p := ⟨p, o, none⟩) hb u)
theorem RdOk.grown {row : Option Nat} (h : RdOk B W g s i b) (k : W.grownBy W' row) (hr : ∀ x, row = some x → B ≤ x) : RdOk B W' g s i b := h.below ((Below.refl B W).grown k h.2.2.2.2.2.2 hr)
theorem RdOk.ne (h : RdOk B W g s i b) : ¬ 0 = g := by
  intro e
  have h1 := h.1.cell 0
  have h2 := h.2.2.1
  unfold HasET at h2
  rw [← e] at h1
  rw [h1] at h2
  simp at h2
/-- Behind a reading. -/
theorem RdOk.next {i' : Nat} {b' : Bool} (h : RdOk B W g s i b) (k : RdB W' g s i' b') (o : Only (fun x => x = g) W W') (hi : i' ≤ s.size) : RdOk B W' g s i' b' :=
  ⟨k, hi, (o.cell (p := ⟨0, 0, none⟩) h.2.2.1.lt h.ne).trans h.2.2.1, h.2.2.2.1, h.2.2.2.2.1, h.2.2.2.2.2.1, Nat.le_trans h.2.2.2.2.2.2 o.size⟩
end
def RdZ (B g : Nat) (s : ByteArray) (v : Value) (i : Nat) (b : Bool) (W : World) (e : Ending) (W' : World) : Prop :=
  e = .returned v ∧ RdOk B W' g s i b ∧ Only (fun x => x = g) W W'
section
variable {B g : Nat} {W : World} {s : ByteArray} {i j : Nat} {b b' : Bool}
theorem RNum_z {lo hi v : Int} (hz : rdNum (lb s) i b lo hi = (v, j, b')) (h : RdOk B W g s i b) : Calls Tryd.prog 17 #[.pointer (some ⟨g, 0, none⟩), .int .i64 lo, .int .i64 hi] W (RdZ B g s (.int .i64 v) j b' W) := by
  have hj := rdNum_le (l := lb s) b lo hi (by rw [length_lb]; exact h.2.1)
  have := RNum_any g s i b lo hi W h.1 h.2.2.1 (by have := h.2.2.2.1; omega) h.2.1
  rw [hz] at this hj
  rw [length_lb] at hj
  exact this.mono fun e W' ⟨h1, h2, h3⟩ => ⟨h1, h.next h2 h3 hj, h3⟩
theorem RTxt_z {most : Int} {v : List UInt8} (hz : rdTxt (lb s) i b most = (v, j, b')) (h : RdOk B W g s i b) : Calls Tryd.prog 58 #[.pointer (some ⟨g, 0, none⟩), .int .i64 most] W (RdZ B g s (.string (bs v)) j b' W) := by
  have hj := rdTxt_le (l := lb s) b most (by rw [length_lb]; exact h.2.1)
  have := RTxt_any g s i b most W h.1 h.2.2.1 (by have := h.2.2.2.1; omega) h.2.1
  rw [hz] at this hj
  rw [length_lb] at hj
  exact this.mono fun e W' ⟨h1, h2, h3⟩ => ⟨h1, h.next h2 h3 hj, h3⟩
end
theorem rdNum_rng {l : List UInt8} {i j : Nat} {b b' : Bool} {lo hi v : Int} (h : rdNum l i b lo hi = (v, j, b')) : v = 0 ∨ (lo ≤ v ∧ v ≤ hi) := by
  unfold rdNum at h
  split at h
  · injection h with h _; exact .inl h.symm
  · split at h
    · split at h
      · rename_i hr
        injection h with h _; subst h; exact .inr hr
      · injection h with h _; exact .inl h.symm
    · injection h with h _; exact .inl h.symm
/-- A reading function at work: the reader; the block of its result (the first that it makes); the block that it fills. -/
def TkW (w : World) (g bb : Nat) (s : ByteArray) (T : TypeId) (rz : Array Value) (i : Nat) (b : Bool) (cs : Array Value) (W : World) : Prop :=
  RdOk w.heap.size W g s i b ∧ Goes w.heap.size g w W ∧ Blk W w.heap.size T rz ∧ Blk W bb T cs ∧ w.heap.size < bb
section
variable {w W W' : World} {g bb : Nat} {s : ByteArray} {T : TypeId} {rz cs : Array Value} {i j : Nat} {b b' : Bool}
theorem TkW.ok (h : TkW w g bb s T rz i b cs W) : RdOk w.heap.size W g s i b := h.1
theorem TkW.ne (h : TkW w g bb s T rz i b cs W) : ¬ bb = g ∧ ¬ w.heap.size = g := by have := h.2.1.2.2; have := h.2.2.2.2; omega
theorem TkW.next (h : TkW w g bb s T rz i b cs W) (k : RdOk w.heap.size W' g s j b') (o : Only (fun x => x = g) W W') : TkW w g bb s T rz j b' cs W' :=
  ⟨k, h.2.1.only o, o.blk h.2.2.1 h.ne.2, o.blk h.2.2.2.1 h.ne.1, h.2.2.2.2⟩
theorem TkW.set (h : TkW w g bb s T rz i b cs W) (o : Nat) (u : Value) : TkW w g bb s T rz i b (cs.setIfInBounds o u) (W.setCell ⟨bb, o, none⟩ u) :=
  ⟨h.1.set (Nat.le_of_lt h.2.2.2.2) u, h.2.1.set (Nat.le_of_lt h.2.2.2.2) u, h.2.2.1.far (p := ⟨bb, o, none⟩) (Nat.ne_of_lt h.2.2.2.2) u, h.2.2.2.1.set_ o u, h.2.2.2.2⟩
theorem TkW.alloc (h : TkW w g bb s T rz i b cs W) (o : Obj) : TkW w g bb s T rz i b cs (W.alloc o) := ⟨h.1.alloc o, h.2.1.alloc o, h.2.2.1.alloc o, h.2.2.2.1.alloc o, h.2.2.2.2⟩
theorem TkW.drew (h : TkW w g bb s T rz i b cs W) : TkW w g bb s T rz i b cs W.drew := ⟨h.1.drew, h.2.1.drew, h.2.2.1.drew, h.2.2.2.1.drew, h.2.2.2.2⟩
theorem TkW.grown {row : Option Nat} (h : TkW w g bb s T rz i b cs W) (k : W.grownBy W' row) (hr : ∀ x, row = some x → w.heap.size < x ∧ x ≠ bb) : TkW w g bb s T rz i b cs W' :=
  ⟨h.1.grown k (fun x hx => Nat.le_of_lt (hr x hx).1), h.2.1.grown k (fun x hx => Nat.le_of_lt (hr x hx).1), h.2.2.1.grown k (fun e => by have := (hr _ e.symm).1; omega), h.2.2.2.1.grown k (fun e => (hr _ e.symm).2 rfl), h.2.2.2.2⟩
theorem TkW.below (h : TkW w g bb s T rz i b cs W) (k : Below W.heap.size W W') : TkW w g bb s T rz i b cs W' :=
  ⟨h.1.below (k.mono h.2.1.size), h.2.1.below (k.mono h.2.1.size), h.2.2.1.below k h.2.2.1.lt, h.2.2.2.1.below k h.2.2.2.1.lt, h.2.2.2.2⟩
end
section
variable {w W W' : World} {g bb : Nat} {s : ByteArray} {T : TypeId} {rz cs : Array Value} {i j : Nat} {b b' : Bool}
end
end Go.Proofs.YtckdecodpjfcnaaDoor
