/-
  Layer 2, writing: numbers, texts, flags behind bytes; of the program and of the document.
  Words for readings that fill a block of the call's own: a reader whose place is known, in a world that goes on; both readers.
-/
import Derived.Test.YtcockikekgmfkaaGreatDoorGrp11
import Derived.Deep.RegionHeld3
import Derived.Deep.DrawnRows
import Derived.Test.YtcockikekgmfkaaGreatDoorGrp07
import Derived.Test.YtcockikekgmfkaaGreatDoorGrp02
import Derived.Lib.AppendStr
import Derived.Lib.AppendZeros
import Derived.LoopN
import Derived.Outline
namespace Go.Proofs.YtcockikekgmfkaaGreatDoor
open Go.RowKit

/-- A world that goes on: only block g, of those below B, is turned. -/
def Goes (B g : Nat) (w W : World) : Prop := Only (fun x => x = g) w W ∧ w.heap.size = B ∧ g < B
theorem Goes.refl {g : Nat} {w : World} (h : g < w.heap.size) : Goes w.heap.size g w w := ⟨Only.refl _ _, rfl, h⟩
section
variable {B g : Nat} {w W W' : World}
theorem Goes.only (h : Goes B g w W) (o : Only (fun x => x = g) W W') : Goes B g w W' := ⟨h.1.trans o, h.2⟩
theorem Goes.size (h : Goes B g w W) : B ≤ W.heap.size := by have := h.1.size; have := h.2.1; omega
theorem Goes.below (h : Goes B g w W) (k : Below B W W') : Goes B g w W' := ⟨h.1.then_b k (by have := h.2.1; omega), h.2⟩
theorem Goes.alloc (h : Goes B g w W) (o : Obj) : Goes B g w (W.alloc o) := ⟨h.1.alloc o, h.2⟩
theorem Goes.drew (h : Goes B g w W) : Goes B g w W.drew := ⟨h.1.drew, h.2⟩
theorem Goes.drewN (h : Goes B g w W) (n : Nat) : Goes B g w (W.drewN n) := h.below (below_drewN (Below.refl _ _) n)
theorem Goes.set (h : Goes B g w W) {b o : Nat} (hb : B ≤ b) (u : Value) : Goes B g w (W.setCell ⟨b, o, none⟩ u) := ⟨h.1.set (.inr (by have := h.2.1; omega)) u, h.2⟩
theorem Goes.grown {row : Option Nat} (h : Goes B g w W) (k : W.grownBy W' row) (hr : ∀ x, row = some x → B ≤ x) : Goes B g w W' :=
  ⟨h.1.grown k (fun x hx hl => by have := hr x hx; have := h.2.1; omega), h.2⟩
end

/-- The program's reader, at a place. -/
def RdOk (B : Nat) (W : World) (g : Nat) (s : ByteArray) (i : Nat) (b : Bool) : Prop :=
  RdB W g s i b ∧ i ≤ s.size ∧ HasET W ∧ s.size ≤ 100000 ∧ g < B ∧ 0 < B ∧ B ≤ W.heap.size
/-- The document's reader, at a place. -/
def RrOk (B : Nat) (W : World) (g : Nat) (s : ByteArray) (i : Nat) (b : Bool) : Prop :=
  RdR W g s i b ∧ i ≤ s.size ∧ s.size ≤ 100000 ∧ g < B ∧ B ≤ W.heap.size
section
variable {B g : Nat} {W W' : World} {s : ByteArray} {i : Nat} {b : Bool}
theorem RdOk.below (h : RdOk B W g s i b) (k : Below B W W') : RdOk B W' g s i b :=
  ⟨h.1.below k h.2.2.2.2.1, h.2.1, h.2.2.1.below k h.2.2.2.2.2.1, h.2.2.2.1, h.2.2.2.2.1, h.2.2.2.2.2.1, by have := k.size; have := h.2.2.2.2.2.2; omega⟩
theorem RdOk.alloc (h : RdOk B W g s i b) (o : Obj) : RdOk B (W.alloc o) g s i b := h.below ((Below.refl B W).alloc h.2.2.2.2.2.2 o)
theorem RdOk.drew (h : RdOk B W g s i b) : RdOk B W.drew g s i b := h.below (Below.refl B W).drew
theorem RdOk.drewN (h : RdOk B W g s i b) (n : Nat) : RdOk B (W.drewN n) g s i b := h.below (below_drewN (Below.refl B W) n)
theorem RdOk.set (h : RdOk B W g s i b) {p o : Nat} (hb : B ≤ p) (u : Value) : RdOk B (W.setCell ⟨p, o, none⟩ u) g s i b := h.below ((Below.refl B W).setCell (p := ⟨p, o, none⟩) hb u)
theorem RdOk.grown {row : Option Nat} (h : RdOk B W g s i b) (k : W.grownBy W' row) (hr : ∀ x, row = some x → B ≤ x) : RdOk B W' g s i b := h.below ((Below.refl B W).grown k h.2.2.2.2.2.2 hr)
theorem RdOk.ne (h : RdOk B W g s i b) : ¬ 0 = g := by
  intro e
  have h1 := h.1.cell 0
  have h2 := h.2.2.1
  unfold HasET at h2
  rw [← e] at h1
  rw [h1] at h2
  simp at h2
/-- Behind a reading. -/
theorem RdOk.next {i' : Nat} {b' : Bool} (h : RdOk B W g s i b) (k : RdB W' g s i' b') (o : Only (fun x => x = g) W W') (hi : i' ≤ s.size) : RdOk B W' g s i' b' :=
  ⟨k, hi, (o.cell (p := ⟨0, 0, none⟩) h.2.2.1.lt h.ne).trans h.2.2.1, h.2.2.2.1, h.2.2.2.2.1, h.2.2.2.2.2.1, Nat.le_trans h.2.2.2.2.2.2 o.size⟩
theorem RrOk.below (h : RrOk B W g s i b) (k : Below B W W') : RrOk B W' g s i b :=
  ⟨h.1.below k h.2.2.2.1, h.2.1, h.2.2.1, h.2.2.2.1, by have := k.size; have := h.2.2.2.2; omega⟩
theorem RrOk.alloc (h : RrOk B W g s i b) (o : Obj) : RrOk B (W.alloc o) g s i b := h.below ((Below.refl B W).alloc h.2.2.2.2 o)
theorem RrOk.drew (h : RrOk B W g s i b) : RrOk B W.drew g s i b := h.below (Below.refl B W).drew
theorem RrOk.drewN (h : RrOk B W g s i b) (n : Nat) : RrOk B (W.drewN n) g s i b := h.below (below_drewN (Below.refl B W) n)
theorem RrOk.set (h : RrOk B W g s i b) {p o : Nat} (hb : B ≤ p) (u : Value) : RrOk B (W.setCell ⟨p, o, none⟩ u) g s i b := h.below ((Below.refl B W).setCell (p := ⟨p, o, none⟩) hb u)
theorem RrOk.grown {row : Option Nat} (h : RrOk B W g s i b) (k : W.grownBy W' row) (hr : ∀ x, row = some x → B ≤ x) : RrOk B W' g s i b := h.below ((Below.refl B W).grown k h.2.2.2.2 hr)
theorem RrOk.next {i' : Nat} {b' : Bool} (h : RrOk B W g s i b) (k : RdR W' g s i' b') (o : Only (fun x => x = g) W W') (hi : i' ≤ s.size) : RrOk B W' g s i' b' :=
  ⟨k, hi, h.2.2.1, h.2.2.2.1, Nat.le_trans h.2.2.2.2 o.size⟩
end
def RdZ (B g : Nat) (s : ByteArray) (v : Value) (i : Nat) (b : Bool) (W : World) (e : Ending) (W' : World) : Prop :=
  e = .returned v ∧ RdOk B W' g s i b ∧ Only (fun x => x = g) W W'
def RrZ (B g : Nat) (s : ByteArray) (v : Value) (i : Nat) (b : Bool) (W : World) (e : Ending) (W' : World) : Prop :=
  e = .returned v ∧ RrOk B W' g s i b ∧ Only (fun x => x = g) W W'
section
variable {B g : Nat} {W : World} {s : ByteArray} {i j : Nat} {b b' : Bool}
theorem RNum_z {lo hi v : Int} (hz : rdNum (lb s) i b lo hi = (v, j, b')) (h : RdOk B W g s i b) : Calls Tryz.prog 28 #[.pointer (some ⟨g, 0, none⟩), .int .i64 lo, .int .i64 hi] W (RdZ B g s (.int .i64 v) j b' W) := by
  have hj := rdNum_le (l := lb s) b lo hi (by rw [length_lb]; exact h.2.1)
  have := RNum_any g s i b lo hi W h.1 h.2.2.1 (by have := h.2.2.2.1; omega) h.2.1
  rw [hz] at this hj
  rw [length_lb] at hj
  exact this.mono fun e W' ⟨h1, h2, h3⟩ => ⟨h1, h.next h2 h3 hj, h3⟩
theorem RTxt_z {most : Int} {v : List UInt8} (hz : rdTxt (lb s) i b most = (v, j, b')) (h : RdOk B W g s i b) : Calls Tryz.prog 76 #[.pointer (some ⟨g, 0, none⟩), .int .i64 most] W (RdZ B g s (.string (bs v)) j b' W) := by
  have hj := rdTxt_le (l := lb s) b most (by rw [length_lb]; exact h.2.1)
  have := RTxt_any g s i b most W h.1 h.2.2.1 (by have := h.2.2.2.1; omega) h.2.1
  rw [hz] at this hj
  rw [length_lb] at hj
  exact this.mono fun e W' ⟨h1, h2, h3⟩ => ⟨h1, h.next h2 h3 hj, h3⟩
theorem RFlag_z {v : Bool} (hz : rdFlag (lb s) i b = (v, j, b')) (h : RdOk B W g s i b) : Calls Tryz.prog 79 #[.pointer (some ⟨g, 0, none⟩)] W (RdZ B g s (.bool v) j b' W) := by
  have hj := rdFlag_le (l := lb s) b (by rw [length_lb]; exact h.2.1)
  have := RFlag_any g s i b W h.1 (by have := h.2.2.2.1; omega) h.2.1
  rw [hz] at this hj
  rw [length_lb] at hj
  exact this.mono fun e W' ⟨h1, h2, h3⟩ => ⟨h1, h.next h2 h3 hj, h3⟩
theorem RWrong_z (h : RdOk B W g s i b) : Calls Tryz.prog 90 #[.pointer (some ⟨g, 0, none⟩)] W (RdZ B g s (.tuple #[]) i true W) :=
  (RWrong_any g s i b W h.1).mono fun e W' ⟨h1, h2, h3⟩ => ⟨h1, h.next h2 h3 h.2.1, h3⟩
theorem rRNum_z {lo hi v : Int} (hz : rdNum (lb s) i b lo hi = (v, j, b')) (h : RrOk B W g s i b) : Calls Tryz.prog 32 #[.pointer (some ⟨g, 0, none⟩), .int .i64 lo, .int .i64 hi] W (RrZ B g s (.int .i64 v) j b' W) := by
  have hj := rdNum_le (l := lb s) b lo hi (by rw [length_lb]; exact h.2.1)
  have := rRNum_any g s i b lo hi W h.1 h.2.2.1 h.2.1
  rw [hz] at this hj
  rw [length_lb] at hj
  exact this.mono fun e W' ⟨h1, h2, h3⟩ => ⟨h1, h.next h2 h3 hj, h3⟩
theorem rRTxt_z {most : Int} {v : List UInt8} (hz : rdTxt (lb s) i b most = (v, j, b')) (h : RrOk B W g s i b) : Calls Tryz.prog 34 #[.pointer (some ⟨g, 0, none⟩), .int .i64 most] W (RrZ B g s (.string (bs v)) j b' W) := by
  have hj := rdTxt_le (l := lb s) b most (by rw [length_lb]; exact h.2.1)
  have := rRTxt_any g s i b most W h.1 h.2.2.1 h.2.1
  rw [hz] at this hj
  rw [length_lb] at hj
  exact this.mono fun e W' ⟨h1, h2, h3⟩ => ⟨h1, h.next h2 h3 hj, h3⟩
theorem rRFlag_z {v : Bool} (hz : rdFlag (lb s) i b = (v, j, b')) (h : RrOk B W g s i b) : Calls Tryz.prog 35 #[.pointer (some ⟨g, 0, none⟩)] W (RrZ B g s (.bool v) j b' W) := by
  have hj := rdFlag_le (l := lb s) b (by rw [length_lb]; exact h.2.1)
  have := rRFlag_any g s i b W h.1 h.2.2.1 h.2.1
  rw [hz] at this hj
  rw [length_lb] at hj
  exact this.mono fun e W' ⟨h1, h2, h3⟩ => ⟨h1, h.next h2 h3 hj, h3⟩
theorem rRWrong_z (h : RrOk B W g s i b) : Calls Tryz.prog 69 #[.pointer (some ⟨g, 0, none⟩)] W (RrZ B g s (.tuple #[]) i true W) :=
  (rRWrong_any g s i b W h.1).mono fun e W' ⟨h1, h2, h3⟩ => ⟨h1, h.next h2 h3 h.2.1, h3⟩
end
theorem rdNum_rng {l : List UInt8} {i j : Nat} {b b' : Bool} {lo hi v : Int} (h : rdNum l i b lo hi = (v, j, b')) : v = 0 ∨ (lo ≤ v ∧ v ≤ hi) := by
  unfold rdNum at h
  split at h
  · injection h with h _; exact .inl h.symm
  · split at h
    · split at h
      · rename_i hr
        injection h with h _; subst h; exact .inr hr
      · injection h with h _; exact .inl h.symm
    · injection h with h _; exact .inl h.symm
/-- A reading function at work: the reader; the block of its result (the first that it makes); the block that it fills. -/
def TkW (w : World) (g bb : Nat) (s : ByteArray) (T : TypeId) (rz : Array Value) (i : Nat) (b : Bool) (cs : Array Value) (W : World) : Prop :=
  RdOk w.heap.size W g s i b ∧ Goes w.heap.size g w W ∧ Blk W w.heap.size T rz ∧ Blk W bb T cs ∧ w.heap.size < bb
section
variable {w W W' : World} {g bb : Nat} {s : ByteArray} {T : TypeId} {rz cs : Array Value} {i j : Nat} {b b' : Bool}
theorem TkW.ok (h : TkW w g bb s T rz i b cs W) : RdOk w.heap.size W g s i b := h.1
theorem TkW.ne (h : TkW w g bb s T rz i b cs W) : ¬ bb = g ∧ ¬ w.heap.size = g := by have := h.2.1.2.2; have := h.2.2.2.2; omega
theorem TkW.next (h : TkW w g bb s T rz i b cs W) (k : RdOk w.heap.size W' g s j b') (o : Only (fun x => x = g) W W') : TkW w g bb s T rz j b' cs W' :=
  ⟨k, h.2.1.only o, o.blk h.2.2.1 h.ne.2, o.blk h.2.2.2.1 h.ne.1, h.2.2.2.2⟩
theorem TkW.set (h : TkW w g bb s T rz i b cs W) (o : Nat) (u : Value) : TkW w g bb s T rz i b (cs.setIfInBounds o u) (W.setCell ⟨bb, o, none⟩ u) :=
  ⟨h.1.set (Nat.le_of_lt h.2.2.2.2) u, h.2.1.set (Nat.le_of_lt h.2.2.2.2) u, h.2.2.1.far (p := ⟨bb, o, none⟩) (Nat.ne_of_lt h.2.2.2.2) u, h.2.2.2.1.set_ o u, h.2.2.2.2⟩
theorem TkW.alloc (h : TkW w g bb s T rz i b cs W) (o : Obj) : TkW w g bb s T rz i b cs (W.alloc o) := ⟨h.1.alloc o, h.2.1.alloc o, h.2.2.1.alloc o, h.2.2.2.1.alloc o, h.2.2.2.2⟩
theorem TkW.drew (h : TkW w g bb s T rz i b cs W) : TkW w g bb s T rz i b cs W.drew := ⟨h.1.drew, h.2.1.drew, h.2.2.1.drew, h.2.2.2.1.drew, h.2.2.2.2⟩
theorem TkW.grown {row : Option Nat} (h : TkW w g bb s T rz i b cs W) (k : W.grownBy W' row) (hr : ∀ x, row = some x → w.heap.size < x ∧ x ≠ bb) : TkW w g bb s T rz i b cs W' :=
  ⟨h.1.grown k (fun x hx => Nat.le_of_lt (hr x hx).1), h.2.1.grown k (fun x hx => Nat.le_of_lt (hr x hx).1), h.2.2.1.grown k (fun e => by have := (hr _ e.symm).1; omega), h.2.2.2.1.grown k (fun e => (hr _ e.symm).2 rfl), h.2.2.2.2⟩
theorem TkW.below (h : TkW w g bb s T rz i b cs W) (k : Below W.heap.size W W') : TkW w g bb s T rz i b cs W' :=
  ⟨h.1.below (k.mono h.2.1.size), h.2.1.below (k.mono h.2.1.size), h.2.2.1.below k h.2.2.1.lt, h.2.2.2.1.below k h.2.2.2.1.lt, h.2.2.2.2⟩
end
/-- Likewise: the document's reader; the block of its result (the first that it makes); the block that it fills. -/
def TrW (w : World) (g bb : Nat) (s : ByteArray) (T : TypeId) (rz : Array Value) (i : Nat) (b : Bool) (cs : Array Value) (W : World) : Prop :=
  RrOk w.heap.size W g s i b ∧ Goes w.heap.size g w W ∧ Blk W w.heap.size T rz ∧ Blk W bb T cs ∧ w.heap.size < bb
section
variable {w W W' : World} {g bb : Nat} {s : ByteArray} {T : TypeId} {rz cs : Array Value} {i j : Nat} {b b' : Bool}
theorem TrW.ok (h : TrW w g bb s T rz i b cs W) : RrOk w.heap.size W g s i b := h.1
theorem TrW.ne (h : TrW w g bb s T rz i b cs W) : ¬ bb = g ∧ ¬ w.heap.size = g := by have := h.2.1.2.2; have := h.2.2.2.2; omega
theorem TrW.next (h : TrW w g bb s T rz i b cs W) (k : RrOk w.heap.size W' g s j b') (o : Only (fun x => x = g) W W') : TrW w g bb s T rz j b' cs W' :=
  ⟨k, h.2.1.only o, o.blk h.2.2.1 h.ne.2, o.blk h.2.2.2.1 h.ne.1, h.2.2.2.2⟩
theorem TrW.set (h : TrW w g bb s T rz i b cs W) (o : Nat) (u : Value) : TrW w g bb s T rz i b (cs.setIfInBounds o u) (W.setCell ⟨bb, o, none⟩ u) :=
  ⟨h.1.set (Nat.le_of_lt h.2.2.2.2) u, h.2.1.set (Nat.le_of_lt h.2.2.2.2) u, h.2.2.1.far (p := ⟨bb, o, none⟩) (Nat.ne_of_lt h.2.2.2.2) u, h.2.2.2.1.set_ o u, h.2.2.2.2⟩
theorem TrW.alloc (h : TrW w g bb s T rz i b cs W) (o : Obj) : TrW w g bb s T rz i b cs (W.alloc o) := ⟨h.1.alloc o, h.2.1.alloc o, h.2.2.1.alloc o, h.2.2.2.1.alloc o, h.2.2.2.2⟩
theorem TrW.drew (h : TrW w g bb s T rz i b cs W) : TrW w g bb s T rz i b cs W.drew := ⟨h.1.drew, h.2.1.drew, h.2.2.1.drew, h.2.2.2.1.drew, h.2.2.2.2⟩
theorem TrW.grown {row : Option Nat} (h : TrW w g bb s T rz i b cs W) (k : W.grownBy W' row) (hr : ∀ x, row = some x → w.heap.size < x ∧ x ≠ bb) : TrW w g bb s T rz i b cs W' :=
  ⟨h.1.grown k (fun x hx => Nat.le_of_lt (hr x hx).1), h.2.1.grown k (fun x hx => Nat.le_of_lt (hr x hx).1), h.2.2.1.grown k (fun e => by have := (hr _ e.symm).1; omega), h.2.2.2.1.grown k (fun e => (hr _ e.symm).2 rfl), h.2.2.2.2⟩
theorem TrW.below (h : TrW w g bb s T rz i b cs W) (k : Below W.heap.size W W') : TrW w g bb s T rz i b cs W' :=
  ⟨h.1.below (k.mono h.2.1.size), h.2.1.below (k.mono h.2.1.size), h.2.2.1.below k h.2.2.1.lt, h.2.2.2.1.below k h.2.2.2.1.lt, h.2.2.2.2⟩
end
end Go.Proofs.YtcockikekgmfkaaGreatDoor
namespace Go.Proofs.YtcockikekgmfkaaGreatDoor
open Go.RowKit

/-- A slice of bytes of the call's own. -/
def OwnVal (l : List UInt8) (w : World) (e : Ending) (w' : World) : Prop :=
  ∃ A c, e = .returned (.slice A l.length c) ∧ w'.ownsRow w.heap.size 5 1 (.slice A l.length c) l.length (cellsB l) ∧ l.length ≤ c ∧ Below w.heap.size w w'

theorem strCells_lb (s : ByteArray) : Lib.strCells s = cellsB (lb s) := rfl

set_option maxRecDepth 100000 in
set_option maxHeartbeats 400000 in
theorem Grow_any (n : Nat) (w : World) (h0 : 0 < n) (hn : n ≤ 200000) :
    Calls Tryz.prog 94 #[.slice none 0 0, .int .i64 n] w (OwnVal [] w) := by
  obtain ⟨i0, hi, hz0, hz1, hz2⟩ := info_parts infoByte
  have hrun := fun W => Lib.run_append_nil_zeros (P := Tryz.prog) W 30 3 30 5 i0 _ .i64 .i64 Tryz.underlying30 Tryz.underlying3 hi hz0 n h0 (by rw [hz1]; decide) (by omega) (by rw [hz2]; omega)
  have hcap := grownCap_ge w n 0 5
  have hcm := grownCap_le_maxLen w n 0 5 (by unfold maxLen; omega)
  have HRUN := Lib.hid (hrun w)
  generalize hgc : grownCap w n 0 5 = gc at *
  clear hrun
  have hnn : ¬ (n : Int) < 0 := by omega
  have hc2 := fun W => (cut_upto (P := Tryz.prog) (t := 30) (w := W) (B := W.heap.size) (A := none) (c := 0) (xs := []) Tryz.underlying30 (fun _ => by kernel_rfl) Reads.none_ 0 (Nat.le_refl _) (Nat.le_refl _)).1
  go_enter Tryz.func94, Tryz.ntmps94
  go_wp2_with (at_builtin; refine Lib.wpList_append_run _ rfl (.tmp 20) (.tmp 21) 30 3 rfl _ _ rfl rfl _ _ HRUN.out ?_)
  go_ret
  refine ⟨some ⟨w.heap.size, 0, none⟩, gc, rfl, ⟨by simp [cellsB], .inr ⟨w.heap.size, gc, _, rfl, Nat.le_refl _, heap_alloc_new w.drew _, Nat.zero_le _, hcm, ?_, by simp [cellsB]⟩⟩, Nat.zero_le _, (Below.refl _ w).drew.alloc (Nat.le_refl _) _⟩
  simp [size_zeroCells, Value.cells]
  omega

set_option maxRecDepth 100000 in
set_option maxHeartbeats 1000000 in
theorem Concat_any (b : Nat) (A A2 : Option Addr) (l l2 : List UInt8) (c c2 : Nat) (w : World) (h0 : w.cell? ⟨b, 0, none⟩ = some (.slice A l.length c)) (h1 : w.cell? ⟨b, 1, none⟩ = some (.slice A2 l2.length c2))
    (hr : Reads w w.heap.size 1 A l.length (cellsB l)) (hr2 : Reads w w.heap.size 1 A2 l2.length (cellsB l2)) (hl : l.length ≤ 90000) (hl2 : l2.length ≤ 90000) (hp : 0 < l2.length) :
    Calls Tryz.prog 88 #[.slice (some ⟨b, 0, none⟩) 2 2] w (OwnVal (l ++ l2) w) := by
  obtain ⟨i0, hi, hz0, hz1, hz2⟩ := info_parts infoByte
  have HG := Lib.hid (Grow_any (l.length + l2.length) w (by omega) (by omega))
  have HR := Lib.hid hr
  have HR2 := Lib.hid hr2
  have hbl := block_lt_of_cell h0
  have H0 := Lib.hid h0
  have H1 := Lib.hid h1
  clear hr hr2
  go_enter Tryz.func88, Tryz.ntmps88
  go_wp2_with fail
  refine wp_loop_rounds 3 ?_
  rw [rounds_succ]
  go_wp2_with fail
  rw [rounds_succ]
  go_wp2_with fail
  rw [rounds_succ]
  go_wp2_with fail
  refine HG.out.mono ?_
  rintro e w1 ⟨A1, c1, rfl, ho1, hc1, hb1⟩
  have hx0 := (hb1.cell (p := ⟨b, 0, none⟩) hbl).trans H0.out
  have hx1 := (hb1.cell (p := ⟨b, 1, none⟩) hbl).trans H1.out
  have hz3 := hb1.size
  clear h0 h1
  go_wp2_with fail
  refine wp_loop_rounds 3 ?_
  rw [rounds_succ]
  go_wp2_with (at_builtin; refine wpList_append_any _ rfl (.tmp 31) (.tmp 32) 30 rfl w.heap.size 5 i0 (.int .u8 0) 1 1 Tryz.underlying30 hi hz0 hz1 hz2 rfl (by decide) (.slice A1 0 c1) 0 ([]) rfl ho1 w1.heap.size A l.length c (cellsB l) rfl ((HR.out.below hb1).more hz3) (cellsB_one _) (by unfold maxLen; omega) (by omega) hz3 ?_; intro v2 w2 ho2 hg2 hat2)
  rw [Nat.zero_add, List.nil_append] at ho2
  have hb2 : Below w.heap.size w w2 := hb1.grown hg2 hz3 (fun g hg => (ho1.lt g hg).1)
  have hz4 := hb2.size
  have hy1 := (hb2.cell (p := ⟨b, 1, none⟩) hbl).trans H1.out
  have HO2 := Lib.hid ho2
  clear ho1 hg2 hat2 ho2 hx0 hx1
  rw [rounds_succ]
  go_wp2_with (at_builtin; refine wpList_append_any _ rfl (.tmp 31) (.tmp 32) 30 rfl w.heap.size 5 i0 (.int .u8 0) 1 1 Tryz.underlying30 hi hz0 hz1 hz2 rfl (by decide) (v2) l.length (cellsB l) rfl HO2.out w2.heap.size A2 l2.length c2 (cellsB l2) rfl ((HR2.out.below hb2).more hz4) (cellsB_one _) (by unfold maxLen; omega) (by omega) hz4 ?_; intro v3 w3 ho3 hg3 hat3)
  rw [rounds_succ]
  go_wp2_with fail
  have hb3 : Below w.heap.size w w3 := hb2.grown hg3 hz4 (fun g hg => (HO2.out.lt g hg).1)
  rw [← cellsB_append, ← List.length_append] at ho3
  obtain ⟨A3, c3, rfl, hc3⟩ := own_slice ho3
  go_ret
  exact ⟨A3, c3, rfl, ho3, hc3, hb3⟩

theorem Number_no (A : Option Addr) (k c : Nat) (n : Int) (w : World) (h : n < 0 ∨ 1099511627776 < n) :
    Calls Tryz.prog 81 #[.slice A k c, .int .i64 n] w (BytesPost [] 2 w) := by
  have HP := Lib.hid (Put_no A k c n w h)
  clear h
  go_enter Tryz.func81, Tryz.ntmps81
  go_wp2_with (go_at_call 86; refine HP.out.mono ?_; rintro e w1 ⟨A1, c1, rfl, hr1, hc1, hb1⟩)
  go_ret2
  exact ⟨A1, c1, rfl, hr1, hc1, hb1⟩
theorem Number_ok (A : Option Addr) (l : List UInt8) (c : Nat) (n : Nat) (w : World) (hr : Reads w w.heap.size 1 A l.length (cellsB l)) (hl : l.length ≤ 90000) (hn : n ≤ maxNum) :
    Calls Tryz.prog 81 #[.slice A l.length c, .int .i64 n] w (BytesPost (l ++ enc n) 0 w) := by
  have HP := Lib.hid (Put_ok A l c n w hr hl hn)
  clear hr
  generalize l ++ enc n = L at *
  go_enter Tryz.func81, Tryz.ntmps81
  go_wp2_with (go_at_call 86; refine HP.out.mono ?_; rintro e w1 ⟨A1, c1, rfl, hr1, hc1, hb1⟩)
  go_ret2
  exact ⟨A1, c1, rfl, hr1, hc1, hb1⟩
theorem rNumber_no (A : Option Addr) (k c : Nat) (n : Int) (w : World) (h : n < 0 ∨ 1099511627776 < n) :
    Calls Tryz.prog 38 #[.slice A k c, .int .i64 n] w (BytesPost [] 2 w) := by
  have HP := Lib.hid (rPut_no A k c n w h)
  clear h
  go_enter Tryz.func38, Tryz.ntmps38
  go_wp2_with (go_at_call 39; refine HP.out.mono ?_; rintro e w1 ⟨A1, c1, rfl, hr1, hc1, hb1⟩)
  go_ret2
  exact ⟨A1, c1, rfl, hr1, hc1, hb1⟩
theorem rNumber_ok (A : Option Addr) (l : List UInt8) (c : Nat) (n : Nat) (w : World) (hr : Reads w w.heap.size 1 A l.length (cellsB l)) (hl : l.length ≤ 90000) (hn : n ≤ maxNum) :
    Calls Tryz.prog 38 #[.slice A l.length c, .int .i64 n] w (BytesPost (l ++ enc n) 0 w) := by
  have HP := Lib.hid (rPut_ok A l c n w hr hl hn)
  clear hr
  generalize l ++ enc n = L at *
  go_enter Tryz.func38, Tryz.ntmps38
  go_wp2_with (go_at_call 39; refine HP.out.mono ?_; rintro e w1 ⟨A1, c1, rfl, hr1, hc1, hb1⟩)
  go_ret2
  exact ⟨A1, c1, rfl, hr1, hc1, hb1⟩

theorem Text_no (A : Option Addr) (k c : Nat) (t : ByteArray) (w : World) (h : 1024 < t.size) :
    Calls Tryz.prog 78 #[.slice A k c, .string t] w (BytesPost [] 2 w) := by
  have hd : decide ((1024 : Int) < (t.size : Int)) = true := by simp; omega
  go_enter Tryz.func78, Tryz.ntmps78
  go_wp2_with fail
  go_ret2
  exact ⟨none, 0, rfl, Reads.none_, Nat.le_refl _, Below.refl _ _⟩
set_option maxHeartbeats 400000 in
theorem Text_ok (A : Option Addr) (l : List UInt8) (c : Nat) (t : ByteArray) (w : World) (hr : Reads w w.heap.size 1 A l.length (cellsB l)) (hl : l.length ≤ 80000) (ht : t.size ≤ 1024) :
    Calls Tryz.prog 78 #[.slice A l.length c, .string t] w (OwnPost (l ++ (cTxt 1024).e (lb t)) 0 w) := by
  obtain ⟨i0, hi, hz0, hz1, hz2⟩ := info_parts infoByte
  have HP := Lib.hid (Put_own A l c t.size w hr (by omega) (by unfold maxNum; omega))
  have hle := encLen_le t.size (by unfold maxNum; omega)
  have hll : (l ++ enc t.size).length = l.length + encLen t.size := by rw [List.length_append]; rfl
  have hlb : (l ++ enc t.size).length ≤ 80006 := by omega
  have hd : decide ((1024 : Int) < (t.size : Int)) = false := by simp; omega
  have hfin : l ++ enc t.size ++ lb t = l ++ (cTxt 1024).e (lb t) := by
    rw [List.append_assoc]; show l ++ (enc t.size ++ lb t) = l ++ (enc (lb t).length ++ lb t); rw [length_lb]
  have HF := Lib.hid hfin
  clear hr hll hfin
  generalize l ++ enc t.size = L at *
  generalize l ++ (cTxt 1024).e (lb t) = M at *
  go_enter Tryz.func78, Tryz.ntmps78
  go_wp2_with (first | (go_at_call 86; refine HP.out.mono ?_; rintro e w1 ⟨A1, c1, rfl, ho1, hc1, hb1⟩) | (at_builtin; refine Lib.wpList_append_own_string _ rfl (.tmp 21) (.tmp 22) 30 9 rfl w.heap.size 5 i0 Tryz.underlying30 Tryz.underlying9 hi hz0 hz1 hz2 _ _ _ rfl ho1 t rfl (by unfold maxLen; omega) (by omega) hb1.size ?_; intro v2 w2 ho2 hg2 hat2))
  have hb2 : Below w.heap.size w w2 := hb1.grown hg2 hb1.size (fun g hg => (ho1.lt g hg).1)
  rw [strCells_lb, ← cellsB_append, ← length_lb t, ← List.length_append, HF.out] at ho2
  obtain ⟨A3, c3, rfl, hc3⟩ := own_slice ho2
  go_ret2
  exact ⟨A3, c3, rfl, ho2, hc3, hb2⟩

theorem rText_no (A : Option Addr) (k c : Nat) (t : ByteArray) (w : World) (h : 1024 < t.size) :
    Calls Tryz.prog 21 #[.slice A k c, .string t] w (BytesPost [] 2 w) := by
  have hd : decide ((1024 : Int) < (t.size : Int)) = true := by simp; omega
  go_enter Tryz.func21, Tryz.ntmps21
  go_wp2_with fail
  go_ret2
  exact ⟨none, 0, rfl, Reads.none_, Nat.le_refl _, Below.refl _ _⟩
set_option maxHeartbeats 400000 in
theorem rText_ok (A : Option Addr) (l : List UInt8) (c : Nat) (t : ByteArray) (w : World) (hr : Reads w w.heap.size 1 A l.length (cellsB l)) (hl : l.length ≤ 80000) (ht : t.size ≤ 1024) :
    Calls Tryz.prog 21 #[.slice A l.length c, .string t] w (OwnPost (l ++ (cTxt 1024).e (lb t)) 0 w) := by
  obtain ⟨i0, hi, hz0, hz1, hz2⟩ := info_parts infoByte
  have HP := Lib.hid (rPut_own A l c t.size w hr (by omega) (by unfold maxNum; omega))
  have hle := encLen_le t.size (by unfold maxNum; omega)
  have hll : (l ++ enc t.size).length = l.length + encLen t.size := by rw [List.length_append]; rfl
  have hlb : (l ++ enc t.size).length ≤ 80006 := by omega
  have hd : decide ((1024 : Int) < (t.size : Int)) = false := by simp; omega
  have hfin : l ++ enc t.size ++ lb t = l ++ (cTxt 1024).e (lb t) := by
    rw [List.append_assoc]; show l ++ (enc t.size ++ lb t) = l ++ (enc (lb t).length ++ lb t); rw [length_lb]
  have HF := Lib.hid hfin
  clear hr hll hfin
  generalize l ++ enc t.size = L at *
  generalize l ++ (cTxt 1024).e (lb t) = M at *
  go_enter Tryz.func21, Tryz.ntmps21
  go_wp2_with (first | (go_at_call 39; refine HP.out.mono ?_; rintro e w1 ⟨A1, c1, rfl, ho1, hc1, hb1⟩) | (at_builtin; refine Lib.wpList_append_own_string _ rfl (.tmp 18) (.tmp 19) 30 9 rfl w.heap.size 5 i0 Tryz.underlying30 Tryz.underlying9 hi hz0 hz1 hz2 _ _ _ rfl ho1 t rfl (by unfold maxLen; omega) (by omega) hb1.size ?_; intro v2 w2 ho2 hg2 hat2))
  have hb2 : Below w.heap.size w w2 := hb1.grown hg2 hb1.size (fun g hg => (ho1.lt g hg).1)
  rw [strCells_lb, ← cellsB_append, ← length_lb t, ← List.length_append, HF.out] at ho2
  obtain ⟨A3, c3, rfl, hc3⟩ := own_slice ho2
  go_ret2
  exact ⟨A3, c3, rfl, ho2, hc3, hb2⟩
end Go.Proofs.YtcockikekgmfkaaGreatDoor
