/-
  Layer 7, the document's: SameProd, Same, small functions.
  Words for readings that fill a block of the call's own: a reader whose place is known, in a world that goes on; both readers.
  Layer 7: small functions; equal lists of batches seen; SameProd.
  Layer 7: Same of entries.
-/
import Derived.Test.YtckdecodpjfcnaaGreatDoorEnRowsProofP06
import Derived.Deep.RegionHeld3
import Derived.Deep.DrawnRows
set_option linter.unusedVariables false
set_option linter.unusedSimpArgs false
namespace Go.Proofs.YtckdecodpjfcnaaGreatDoor
open Go.RowKit

/-- A world that goes on: only block g, of those below B, is turned. -/
def Goes (B g : Nat) (w W : World) : Prop := Only (fun x => x = g) w W ∧ w.heap.size = B ∧ g < B
theorem Goes.refl {g : Nat} {w : World} (h : g < w.heap.size) : Goes w.heap.size g w w := ⟨Only.refl _ _, rfl, h⟩
section
variable {B g : Nat} {w W W' : World}
theorem Goes.only (h : Goes B g w W) (o : Only (fun x => x = g) W W') : Goes B g w W' := ⟨h.1.trans o, h.2⟩
theorem Goes.size (h : Goes B g w W) : B ≤ W.heap.size := by have := h.1.size; have := h.2.1; omega
theorem Goes.below (h : Goes B g w W) (k : Below B W W') : Goes B g w W' := ⟨h.1.then_b k (by have := h.2.1; omega), h.2⟩
theorem Goes.alloc (h : Goes B g w W) (o : Obj) : Goes B g w (W.alloc o) := ⟨h.1.alloc o, h.2⟩
theorem Goes.drew (h : Goes B g w W) : Goes B g w W.drew := ⟨h.1.drew, h.2⟩
theorem Goes.drewN (h : Goes B g w W) (n : Nat) : Goes B g w (W.drewN n) := h.below (below_drewN (Below.refl _ _) n)
theorem Goes.set (h : Goes B g w W) {b o : Nat} (hb : B ≤ b) (u : Value) : Goes B g w (W.setCell ⟨b, o, none⟩ u) := ⟨h.1.set (.inr (by have := h.2.1; omega)) u, h.2⟩
theorem Goes.grown {row : Option Nat} (h : Goes B g w W) (k : W.grownBy W' row) (hr : ∀ x, row = some x → B ≤ x) : Goes B g w W' :=
  ⟨h.1.grown k (fun x hx hl => by have := hr x hx; have := h.2.1; omega), h.2⟩
end

/-- The program's reader, at a place. -/
def RdOk (B : Nat) (W : World) (g : Nat) (s : ByteArray) (i : Nat) (b : Bool) : Prop :=
  RdB W g s i b ∧ i ≤ s.size ∧ HasET W ∧ s.size ≤ 100000 ∧ g < B ∧ 0 < B ∧ B ≤ W.heap.size
/-- The document's reader, at a place. -/
def RrOk (B : Nat) (W : World) (g : Nat) (s : ByteArray) (i : Nat) (b : Bool) : Prop :=
  RdR W g s i b ∧ i ≤ s.size ∧ s.size ≤ 100000 ∧ g < B ∧ B ≤ W.heap.size
section
variable {B g : Nat} {W W' : World} {s : ByteArray} {i : Nat} {b : Bool}
theorem RdOk.below (h : RdOk B W g s i b) (k : Below B W W') : RdOk B W' g s i b :=
  ⟨h.1.below k h.2.2.2.2.1, h.2.1, h.2.2.1.below k h.2.2.2.2.2.1, h.2.2.2.1, h.2.2.2.2.1, h.2.2.2.2.2.1, by have := k.size; have := h.2.2.2.2.2.2; omega⟩
theorem RdOk.alloc (h : RdOk B W g s i b) (o : Obj) : RdOk B (W.alloc o) g s i b := h.below ((Below.refl B W).alloc h.2.2.2.2.2.2 o)
theorem RdOk.drew (h : RdOk B W g s i b) : RdOk B W.drew g s i b := h.below (Below.refl B W).drew
theorem RdOk.drewN (h : RdOk B W g s i b) (n : Nat) : RdOk B (W.drewN n) g s i b := h.below (below_drewN (Below.refl B W) n)
theorem RdOk.set (h : RdOk B W g s i b) {p o : Nat} (hb : B ≤ p) (u : Value) : RdOk B (W.setCell ⟨p, o, none⟩ u) g s i b := h.below ((Below.refl B W).setCell (p := ⟨p, o, none⟩) hb u)
theorem RdOk.grown {row : Option Nat} (h : RdOk B W g s i b) (k : W.grownBy W' row) (hr : ∀ x, row = some x → B ≤ x) : RdOk B W' g s i b := h.below ((Below.refl B W).grown k h.2.2.2.2.2.2 hr)
theorem RdOk.ne (h : RdOk B W g s i b) : ¬ 0 = g := by
  intro e
  have h1 := h.1.cell 0
  have h2 := h.2.2.1
  unfold HasET at h2
  rw [← e] at h1
  rw [h1] at h2
  simp at h2
/-- Behind a reading. -/
theorem RdOk.next {i' : Nat} {b' : Bool} (h : RdOk B W g s i b) (k : RdB W' g s i' b') (o : Only (fun x => x = g) W W') (hi : i' ≤ s.size) : RdOk B W' g s i' b' :=
  ⟨k, hi, (o.cell (p := ⟨0, 0, none⟩) h.2.2.1.lt h.ne).trans h.2.2.1, h.2.2.2.1, h.2.2.2.2.1, h.2.2.2.2.2.1, Nat.le_trans h.2.2.2.2.2.2 o.size⟩
theorem RrOk.below (h : RrOk B W g s i b) (k : Below B W W') : RrOk B W' g s i b :=
  ⟨h.1.below k h.2.2.2.1, h.2.1, h.2.2.1, h.2.2.2.1, by have := k.size; have := h.2.2.2.2; omega⟩
theorem RrOk.alloc (h : RrOk B W g s i b) (o : Obj) : RrOk B (W.alloc o) g s i b := h.below ((Below.refl B W).alloc h.2.2.2.2 o)
theorem RrOk.drew (h : RrOk B W g s i b) : RrOk B W.drew g s i b := h.below (Below.refl B W).drew
theorem RrOk.drewN (h : RrOk B W g s i b) (n : Nat) : RrOk B (W.drewN n) g s i b := h.below (below_drewN (Below.refl B W) n)
theorem RrOk.set (h : RrOk B W g s i b) {p o : Nat} (hb : B ≤ p) (u : Value) : RrOk B (W.setCell ⟨p, o, none⟩ u) g s i b := h.below ((Below.refl B W).setCell (p := ⟨p, o, none⟩) hb u)
theorem RrOk.grown {row : Option Nat} (h : RrOk B W g s i b) (k : W.grownBy W' row) (hr : ∀ x, row = some x → B ≤ x) : RrOk B W' g s i b := h.below ((Below.refl B W).grown k h.2.2.2.2 hr)
theorem RrOk.next {i' : Nat} {b' : Bool} (h : RrOk B W g s i b) (k : RdR W' g s i' b') (o : Only (fun x => x = g) W W') (hi : i' ≤ s.size) : RrOk B W' g s i' b' :=
  ⟨k, hi, h.2.2.1, h.2.2.2.1, Nat.le_trans h.2.2.2.2 o.size⟩
end
def RdZ (B g : Nat) (s : ByteArray) (v : Value) (i : Nat) (b : Bool) (W : World) (e : Ending) (W' : World) : Prop :=
  e = .returned v ∧ RdOk B W' g s i b ∧ Only (fun x => x = g) W W'
def RrZ (B g : Nat) (s : ByteArray) (v : Value) (i : Nat) (b : Bool) (W : World) (e : Ending) (W' : World) : Prop :=
  e = .returned v ∧ RrOk B W' g s i b ∧ Only (fun x => x = g) W W'
section
variable {B g : Nat} {W : World} {s : ByteArray} {i j : Nat} {b b' : Bool}
theorem RNum_z {lo hi v : Int} (hz : rdNum (lb s) i b lo hi = (v, j, b')) (h : RdOk B W g s i b) : Calls Tryz.prog 49 #[.pointer (some ⟨g, 0, none⟩), .int .i64 lo, .int .i64 hi] W (RdZ B g s (.int .i64 v) j b' W) := by
  have hj := rdNum_le (l := lb s) b lo hi (by rw [length_lb]; exact h.2.1)
  have := RNum_any g s i b lo hi W h.1 h.2.2.1 (by have := h.2.2.2.1; omega) h.2.1
  rw [hz] at this hj
  rw [length_lb] at hj
  exact this.mono fun e W' ⟨h1, h2, h3⟩ => ⟨h1, h.next h2 h3 hj, h3⟩
theorem RTxt_z {most : Int} {v : List UInt8} (hz : rdTxt (lb s) i b most = (v, j, b')) (h : RdOk B W g s i b) : Calls Tryz.prog 102 #[.pointer (some ⟨g, 0, none⟩), .int .i64 most] W (RdZ B g s (.string (bs v)) j b' W) := by
  have hj := rdTxt_le (l := lb s) b most (by rw [length_lb]; exact h.2.1)
  have := RTxt_any g s i b most W h.1 h.2.2.1 (by have := h.2.2.2.1; omega) h.2.1
  rw [hz] at this hj
  rw [length_lb] at hj
  exact this.mono fun e W' ⟨h1, h2, h3⟩ => ⟨h1, h.next h2 h3 hj, h3⟩
theorem RFlag_z {v : Bool} (hz : rdFlag (lb s) i b = (v, j, b')) (h : RdOk B W g s i b) : Calls Tryz.prog 101 #[.pointer (some ⟨g, 0, none⟩)] W (RdZ B g s (.bool v) j b' W) := by
  have hj := rdFlag_le (l := lb s) b (by rw [length_lb]; exact h.2.1)
  have := RFlag_any g s i b W h.1 (by have := h.2.2.2.1; omega) h.2.1
  rw [hz] at this hj
  rw [length_lb] at hj
  exact this.mono fun e W' ⟨h1, h2, h3⟩ => ⟨h1, h.next h2 h3 hj, h3⟩
theorem RWrong_z (h : RdOk B W g s i b) : Calls Tryz.prog 114 #[.pointer (some ⟨g, 0, none⟩)] W (RdZ B g s (.tuple #[]) i true W) :=
  (RWrong_any g s i b W h.1).mono fun e W' ⟨h1, h2, h3⟩ => ⟨h1, h.next h2 h3 h.2.1, h3⟩
theorem rRNum_z {lo hi v : Int} (hz : rdNum (lb s) i b lo hi = (v, j, b')) (h : RrOk B W g s i b) : Calls Tryz.prog 53 #[.pointer (some ⟨g, 0, none⟩), .int .i64 lo, .int .i64 hi] W (RrZ B g s (.int .i64 v) j b' W) := by
  have hj := rdNum_le (l := lb s) b lo hi (by rw [length_lb]; exact h.2.1)
  have := rRNum_any g s i b lo hi W h.1 h.2.2.1 h.2.1
  rw [hz] at this hj
  rw [length_lb] at hj
  exact this.mono fun e W' ⟨h1, h2, h3⟩ => ⟨h1, h.next h2 h3 hj, h3⟩
theorem rRTxt_z {most : Int} {v : List UInt8} (hz : rdTxt (lb s) i b most = (v, j, b')) (h : RrOk B W g s i b) : Calls Tryz.prog 56 #[.pointer (some ⟨g, 0, none⟩), .int .i64 most] W (RrZ B g s (.string (bs v)) j b' W) := by
  have hj := rdTxt_le (l := lb s) b most (by rw [length_lb]; exact h.2.1)
  have := rRTxt_any g s i b most W h.1 h.2.2.1 h.2.1
  rw [hz] at this hj
  rw [length_lb] at hj
  exact this.mono fun e W' ⟨h1, h2, h3⟩ => ⟨h1, h.next h2 h3 hj, h3⟩
theorem rRFlag_z {v : Bool} (hz : rdFlag (lb s) i b = (v, j, b')) (h : RrOk B W g s i b) : Calls Tryz.prog 55 #[.pointer (some ⟨g, 0, none⟩)] W (RrZ B g s (.bool v) j b' W) := by
  have hj := rdFlag_le (l := lb s) b (by rw [length_lb]; exact h.2.1)
  have := rRFlag_any g s i b W h.1 h.2.2.1 h.2.1
  rw [hz] at this hj
  rw [length_lb] at hj
  exact this.mono fun e W' ⟨h1, h2, h3⟩ => ⟨h1, h.next h2 h3 hj, h3⟩
theorem rRWrong_z (h : RrOk B W g s i b) : Calls Tryz.prog 86 #[.pointer (some ⟨g, 0, none⟩)] W (RrZ B g s (.tuple #[]) i true W) :=
  (rRWrong_any g s i b W h.1).mono fun e W' ⟨h1, h2, h3⟩ => ⟨h1, h.next h2 h3 h.2.1, h3⟩
end
theorem rdNum_rng {l : List UInt8} {i j : Nat} {b b' : Bool} {lo hi v : Int} (h : rdNum l i b lo hi = (v, j, b')) : v = 0 ∨ (lo ≤ v ∧ v ≤ hi) := by
  unfold rdNum at h
  split at h
  · injection h with h _; exact .inl h.symm
  · split at h
    · split at h
      · rename_i hr
        injection h with h _; subst h; exact .inr hr
      · injection h with h _; exact .inl h.symm
    · injection h with h _; exact .inl h.symm
/-- A reading function at work: the reader; the block of its result (the first that it makes); the block that it fills. -/
def TkW (w : World) (g bb : Nat) (s : ByteArray) (T : TypeId) (rz : Array Value) (i : Nat) (b : Bool) (cs : Array Value) (W : World) : Prop :=
  RdOk w.heap.size W g s i b ∧ Goes w.heap.size g w W ∧ Blk W w.heap.size T rz ∧ Blk W bb T cs ∧ w.heap.size < bb
section
variable {w W W' : World} {g bb : Nat} {s : ByteArray} {T : TypeId} {rz cs : Array Value} {i j : Nat} {b b' : Bool}
theorem TkW.ok (h : TkW w g bb s T rz i b cs W) : RdOk w.heap.size W g s i b := h.1
theorem TkW.ne (h : TkW w g bb s T rz i b cs W) : ¬ bb = g ∧ ¬ w.heap.size = g := by have := h.2.1.2.2; have := h.2.2.2.2; omega
theorem TkW.next (h : TkW w g bb s T rz i b cs W) (k : RdOk w.heap.size W' g s j b') (o : Only (fun x => x = g) W W') : TkW w g bb s T rz j b' cs W' :=
  ⟨k, h.2.1.only o, o.blk h.2.2.1 h.ne.2, o.blk h.2.2.2.1 h.ne.1, h.2.2.2.2⟩
theorem TkW.set (h : TkW w g bb s T rz i b cs W) (o : Nat) (u : Value) : TkW w g bb s T rz i b (cs.setIfInBounds o u) (W.setCell ⟨bb, o, none⟩ u) :=
  ⟨h.1.set (Nat.le_of_lt h.2.2.2.2) u, h.2.1.set (Nat.le_of_lt h.2.2.2.2) u, h.2.2.1.far (p := ⟨bb, o, none⟩) (Nat.ne_of_lt h.2.2.2.2) u, h.2.2.2.1.set_ o u, h.2.2.2.2⟩
theorem TkW.alloc (h : TkW w g bb s T rz i b cs W) (o : Obj) : TkW w g bb s T rz i b cs (W.alloc o) := ⟨h.1.alloc o, h.2.1.alloc o, h.2.2.1.alloc o, h.2.2.2.1.alloc o, h.2.2.2.2⟩
theorem TkW.drew (h : TkW w g bb s T rz i b cs W) : TkW w g bb s T rz i b cs W.drew := ⟨h.1.drew, h.2.1.drew, h.2.2.1.drew, h.2.2.2.1.drew, h.2.2.2.2⟩
theorem TkW.grown {row : Option Nat} (h : TkW w g bb s T rz i b cs W) (k : W.grownBy W' row) (hr : ∀ x, row = some x → w.heap.size < x ∧ x ≠ bb) : TkW w g bb s T rz i b cs W' :=
  ⟨h.1.grown k (fun x hx => Nat.le_of_lt (hr x hx).1), h.2.1.grown k (fun x hx => Nat.le_of_lt (hr x hx).1), h.2.2.1.grown k (fun e => by have := (hr _ e.symm).1; omega), h.2.2.2.1.grown k (fun e => (hr _ e.symm).2 rfl), h.2.2.2.2⟩
theorem TkW.below (h : TkW w g bb s T rz i b cs W) (k : Below W.heap.size W W') : TkW w g bb s T rz i b cs W' :=
  ⟨h.1.below (k.mono h.2.1.size), h.2.1.below (k.mono h.2.1.size), h.2.2.1.below k h.2.2.1.lt, h.2.2.2.1.below k h.2.2.2.1.lt, h.2.2.2.2⟩
end
/-- Likewise: the document's reader; the block of its result (the first that it makes); the block that it fills. -/
def TrW (w : World) (g bb : Nat) (s : ByteArray) (T : TypeId) (rz : Array Value) (i : Nat) (b : Bool) (cs : Array Value) (W : World) : Prop :=
  RrOk w.heap.size W g s i b ∧ Goes w.heap.size g w W ∧ Blk W w.heap.size T rz ∧ Blk W bb T cs ∧ w.heap.size < bb
section
variable {w W W' : World} {g bb : Nat} {s : ByteArray} {T : TypeId} {rz cs : Array Value} {i j : Nat} {b b' : Bool}
theorem TrW.ok (h : TrW w g bb s T rz i b cs W) : RrOk w.heap.size W g s i b := h.1
theorem TrW.ne (h : TrW w g bb s T rz i b cs W) : ¬ bb = g ∧ ¬ w.heap.size = g := by have := h.2.1.2.2; have := h.2.2.2.2; omega
theorem TrW.next (h : TrW w g bb s T rz i b cs W) (k : RrOk w.heap.size W' g s j b') (o : Only (fun x => x = g) W W') : TrW w g bb s T rz j b' cs W' :=
  ⟨k, h.2.1.only o, o.blk h.2.2.1 h.ne.2, o.blk h.2.2.2.1 h.ne.1, h.2.2.2.2⟩
theorem TrW.set (h : TrW w g bb s T rz i b cs W) (o : Nat) (u : Value) : TrW w g bb s T rz i b (cs.setIfInBounds o u) (W.setCell ⟨bb, o, none⟩ u) :=
  ⟨h.1.set (Nat.le_of_lt h.2.2.2.2) u, h.2.1.set (Nat.le_of_lt h.2.2.2.2) u, h.2.2.1.far (p := ⟨bb, o, none⟩) (Nat.ne_of_lt h.2.2.2.2) u, h.2.2.2.1.set_ o u, h.2.2.2.2⟩
theorem TrW.alloc (h : TrW w g bb s T rz i b cs W) (o : Obj) : TrW w g bb s T rz i b cs (W.alloc o) := ⟨h.1.alloc o, h.2.1.alloc o, h.2.2.1.alloc o, h.2.2.2.1.alloc o, h.2.2.2.2⟩
theorem TrW.drew (h : TrW w g bb s T rz i b cs W) : TrW w g bb s T rz i b cs W.drew := ⟨h.1.drew, h.2.1.drew, h.2.2.1.drew, h.2.2.2.1.drew, h.2.2.2.2⟩
theorem TrW.grown {row : Option Nat} (h : TrW w g bb s T rz i b cs W) (k : W.grownBy W' row) (hr : ∀ x, row = some x → w.heap.size < x ∧ x ≠ bb) : TrW w g bb s T rz i b cs W' :=
  ⟨h.1.grown k (fun x hx => Nat.le_of_lt (hr x hx).1), h.2.1.grown k (fun x hx => Nat.le_of_lt (hr x hx).1), h.2.2.1.grown k (fun e => by have := (hr _ e.symm).1; omega), h.2.2.2.1.grown k (fun e => (hr _ e.symm).2 rfl), h.2.2.2.2⟩
theorem TrW.below (h : TrW w g bb s T rz i b cs W) (k : Below W.heap.size W W') : TrW w g bb s T rz i b cs W' :=
  ⟨h.1.below (k.mono h.2.1.size), h.2.1.below (k.mono h.2.1.size), h.2.2.1.below k h.2.2.1.lt, h.2.2.2.1.below k h.2.2.2.1.lt, h.2.2.2.2⟩
end
end Go.Proofs.YtckdecodpjfcnaaGreatDoor
namespace Go.Proofs.YtckdecodpjfcnaaGreatDoor
open Go.RowKit

set_option maxRecDepth 100000 in
theorem producer_any (p e : Int) (w : World) : Calls Tryz.prog 37 #[.int .i64 p, .int .i64 e] w fun x w' => x = .returned (.bool (prodB p e)) ∧ w = w' := by
  have HP := Lib.hid (show prodB p e = (decide (1 ≤ p ∧ p ≤ 8) && decide (0 ≤ e ∧ e ≤ 100)) from rfl)
  go_enter Tryz.func37, Tryz.ntmps37
  by_cases h1 : 1 ≤ p
  · by_cases h2 : p ≤ 8
    · by_cases h3 : 0 ≤ e
      · by_cases h4 : e ≤ 100
        · go_wp2_with fail
          go_ret
          exact ⟨ret_bool (by rw [HP.out]; simp [h1, h2, h3, h4]), rfl⟩
        · go_wp2_with fail
          go_ret
          exact ⟨ret_bool (by rw [HP.out]; simp [h4]), rfl⟩
      · go_wp2_with fail
        go_ret
        have h9 : ¬ 0 ≤ e := by omega
        exact ⟨ret_bool (by rw [HP.out]; simp [h9]), rfl⟩
    · go_wp2_with fail
      go_ret
      exact ⟨ret_bool (by rw [HP.out, decide_eq_false (show ¬ (1 ≤ p ∧ p ≤ 8) by omega)]; rfl), rfl⟩
  · go_wp2_with fail
    go_ret
    have h9 : ¬ 1 ≤ p := by omega
    exact ⟨ret_bool (by rw [HP.out]; simp [h9]), rfl⟩
theorem sequence_any (x : Int) (w : World) : Calls Tryz.prog 35 #[.int .i64 x] w fun e w' => e = .returned (.bool (seqB x)) ∧ w = w' := by
  have HP := Lib.hid (show seqB x = decide (0 ≤ x ∧ x ≤ 1048576) from rfl)
  go_enter Tryz.func35, Tryz.ntmps35
  by_cases h1 : 0 ≤ x
  · by_cases h2 : x ≤ 1048576
    · go_wp2_with fail
      go_ret
      exact ⟨ret_bool (by rw [HP.out]; simp [h1, h2]), rfl⟩
    · go_wp2_with fail
      go_ret
      exact ⟨ret_bool (by rw [HP.out]; simp [h2]), rfl⟩
  · go_wp2_with fail
    go_ret
    have h9 : ¬ 0 ≤ x := by omega
    exact ⟨ret_bool (by rw [HP.out]; simp [h9]), rfl⟩

set_option maxRecDepth 100000 in
set_option maxHeartbeats 1000000 in
theorem rowE_any (r : Rw) (w : World) : Calls Tryz.prog 38 #[(.agg #[.int .i64 r.1, .int .i64 r.2.1, .int .i64 r.2.2.1, .string r.2.2.2.1, .string r.2.2.2.2])] w fun e w' => e = .returned (.bool (rowB r)) ∧ Below w.heap.size w w' := by
  have HB := Lib.hid (fun x => bal (Below.refl w.heap.size w) x)
  have HV := Lib.hid (show rowB r = (decide (r.1 = 0) && (decide (1 ≤ r.2.1 ∧ r.2.1 ≤ 8) && (decide (0 ≤ r.2.2.1 ∧ r.2.2.1 < 1048576) && (decide (r.2.2.2.1.size ≤ 16) && decide (r.2.2.2.2.size ≤ 16))))) from rfl)
  have PR := Lib.hid (fun W => producer_any r.2.1 0 W)
  have PB := Lib.hid (show prodB r.2.1 0 = decide (1 ≤ r.2.1 ∧ r.2.1 ≤ 8) by unfold prodB; simp)
  go_enter Tryz.func38, Tryz.ntmps38
  by_cases h0 : r.1 = 0
  case neg =>
    have e0 : (r.1 == 0) = false := by simpa using h0
    have hf : rowB r = false := by rw [HV.out, decide_eq_false h0]; rfl
    have HF := Lib.hid hf
    clear hf h0
    go_wp2_with fail
    go_ret
    exact ⟨ret_bool HF.out.symm, HB.out _⟩
  have e0 : (r.1 == 0) = true := by simpa using h0
  have HV1 := Lib.hid (show rowB r = (prodB r.2.1 0 && (decide (0 ≤ r.2.2.1 ∧ r.2.2.1 < 1048576) && (decide (r.2.2.2.1.size ≤ 16) && decide (r.2.2.2.2.size ≤ 16)))) by rw [HV.out, decide_eq_true h0, PB.out]; rfl)
  clear h0
  go_wp2_with fail
  refine (PR.out _).mono ?_
  rintro e w1 ⟨rfl, rfl⟩
  generalize prodB r.2.1 0 = d1 at *
  cases d1
  · go_wp2_with fail
    go_ret
    exact ⟨ret_bool (by rw [HV1.out]; rfl), HB.out _⟩
  by_cases h1 : 0 ≤ r.2.2.1
  case neg =>
    have e1 : decide (0 ≤ r.2.2.1) = false := decide_eq_false h1
    have hf : rowB r = false := by rw [HV1.out, decide_eq_false (fun h => h1 h.1)]; rfl
    have HF := Lib.hid hf
    clear hf h1
    go_wp2_with fail
    go_ret
    exact ⟨ret_bool HF.out.symm, HB.out _⟩
  have e1 : decide (0 ≤ r.2.2.1) = true := decide_eq_true h1
  by_cases h2 : r.2.2.1 < 1048576
  case neg =>
    have e2 : decide (r.2.2.1 < 1048576) = false := decide_eq_false h2
    have hf : rowB r = false := by rw [HV1.out, decide_eq_false (fun h => h2 h.2)]; rfl
    have HF := Lib.hid hf
    clear hf h1 h2
    go_wp2_with fail
    go_ret
    exact ⟨ret_bool HF.out.symm, HB.out _⟩
  have e2 : decide (r.2.2.1 < 1048576) = true := decide_eq_true h2
  by_cases h4 : r.2.2.2.1.size ≤ 16
  case neg =>
    have e4 : decide ((r.2.2.2.1.size : Int) ≤ 16) = false := by simp; omega
    have hf : rowB r = false := by rw [HV1.out]; simp [h4]
    have HF := Lib.hid hf
    clear hf h1 h2
    go_wp2_with fail
    go_ret
    exact ⟨ret_bool HF.out.symm, HB.out _⟩
  have e4 : decide ((r.2.2.2.1.size : Int) ≤ 16) = true := by simp; omega
  by_cases h5 : r.2.2.2.2.size ≤ 16
  · have e5 : decide ((r.2.2.2.2.size : Int) ≤ 16) = true := by simp; omega
    have hf : rowB r = true := by rw [HV1.out]; simp [h1, h2, h4, h5]
    have HF := Lib.hid hf
    clear hf h1 h2
    go_wp2_with fail
    go_ret
    exact ⟨ret_bool HF.out.symm, HB.out _⟩
  · have e5 : decide ((r.2.2.2.2.size : Int) ≤ 16) = false := by simp; omega
    have hf : rowB r = false := by rw [HV1.out]; simp [h5]
    have HF := Lib.hid hf
    clear hf h1 h2
    go_wp2_with fail
    go_ret
    exact ⟨ret_bool HF.out.symm, HB.out _⟩

theorem eqSn (a b : Sn) (w : World) : (Op.equalIn 10000 73 (.agg #[.int .i64 a.1, .int .i64 a.2.1, .int .i64 a.2.2]) (.agg #[.int .i64 b.1, .int .i64 b.2.1, .int .i64 b.2.2])).run Tryz.prog w = .ok (decide (a = b)) w := by
  have u4 := Tryz.underlying3
  have hS : Tryz.prog.underlying 73 = some (.struct (Tryz.prog.fieldsOf 73)) := by kernel_rfl
  have hp : Tryz.prog.stoodInHeld 73 = false := by kernel_rfl
  have a4 := Tryz.isAgg3
  have z4 := Tryz.sizeOf3
  obtain ⟨a1, a2, a3'⟩ := a
  obtain ⟨b1, b2, b3⟩ := b
  rw [show (10000 : Nat) = 9999 + 1 from rfl, run_equalIn_agg w 9999 73 _ _ hS hp]
  simp only [Program.fieldsOf, Tryz.underlying73]
  go_simp
  by_cases h1 : a1 = b1 <;> by_cases h2 : a2 = b2 <;> by_cases h3 : a3' = b3 <;> simp [h1, h2, h3]
theorem eqRw7 (a b : Rw) (w : World) : (Op.equalIn 10000 27 (.agg #[.int .i64 a.1, .int .i64 a.2.1, .int .i64 a.2.2.1, .string a.2.2.2.1, .string a.2.2.2.2]) (.agg #[.int .i64 b.1, .int .i64 b.2.1, .int .i64 b.2.2.1, .string b.2.2.2.1, .string b.2.2.2.2])).run Tryz.prog w = .ok (decide (a = b)) w := by
  have u3 := Tryz.underlying9
  have u4 := Tryz.underlying3
  have hS : Tryz.prog.underlying 27 = some (.struct (Tryz.prog.fieldsOf 27)) := by kernel_rfl
  have hp : Tryz.prog.stoodInHeld 27 = false := by kernel_rfl
  have a3 := Tryz.isAgg9
  have z3 := Tryz.sizeOf9
  have a4 := Tryz.isAgg3
  have z4 := Tryz.sizeOf3
  obtain ⟨a1, a2, a3', a4', a5'⟩ := a
  obtain ⟨b1, b2, b3, b4, b5⟩ := b
  rw [show (10000 : Nat) = 9999 + 1 from rfl, run_equalIn_agg w 9999 27 _ _ hS hp]
  simp only [Program.fieldsOf, Tryz.underlying27]
  go_simp
  by_cases h1 : a1 = b1 <;> by_cases h2 : a2 = b2 <;> by_cases h3 : a3' = b3 <;> by_cases h4 : a4' = b4 <;> by_cases h5 : a5' = b5 <;> simp [h1, h2, h3, h4, h5, toList_inj]
set_option maxRecDepth 100000 in
set_option maxHeartbeats 1000000 in
theorem EqualN_any (A1 A2 : Option Addr) (l1 l2 : List Sn) (c1 c2 B1 B2 : Nat) (w : World) (h1 : Reads w B1 3 A1 l1.length (cellsN l1)) (h2 : Reads w B2 3 A2 l2.length (cellsN l2)) (hl : l1.length ≤ 1000000) :
    Calls Tryz.prog 47 #[.slice A1 l1.length c1, .slice A2 l2.length c2] w fun e w' => e = .returned (.bool (decide (l1 = l2))) ∧ ∃ q, w' = w.drewN q := by
  have hm : Tryz.prog.eqGuardType Tryz.prog.depth 73 = false := by kernel_rfl
  by_cases hlen : l1.length = l2.length
  · have d0 : ((l1.length : Int) != (l2.length : Int)) = false := by rw [hlen]; simp
    have HH1 := Lib.hid h1
    have HH2 := Lib.hid h2
    have HLEN := Lib.hid hlen
    have hl2 : l1.length ≤ l2.length := by omega
    have hl3 : l2.length ≤ l1.length := by omega
    clear h1 h2 hlen
    go_enter Tryz.func47, Tryz.ntmps47
    go_wp2_with fail
    go_loopw [13] (fun y wr => ∃ k q : Nat, k ≤ l1.length ∧ y = .int .i64 k ∧ wr = w.drewN q ∧ l1.take k = l2.take k) (fun y _ => l1.length - (intOf y).toNat)
    case atStart => exact ⟨0, 0, Nat.zero_le _, rfl, rfl, by simp⟩
    case round =>
      obtain ⟨k, q, hk, rfl, rfl, htk⟩ := hrel
      have HTK := Lib.hid htk
      clear htk
      by_cases hlt : k < l1.length
      · have d1 : decide ((k : Int) < (l1.length : Int)) = true := by simp; omega
        obtain ⟨b1, o1, rfl, _, hc1⟩ := HH1.out.plain3 (by omega)
        obtain ⟨b2, o2, rfl, _, hc2⟩ := HH2.out.plain3 (by omega)
        obtain ⟨x, hx⟩ : ∃ z, l1[k]? = some z := ⟨_, List.getElem?_eq_getElem hlt⟩
        obtain ⟨y, hy⟩ : ∃ z, l2[k]? = some z := ⟨_, List.getElem?_eq_getElem (by omega)⟩
        obtain ⟨g1, g2, g3⟩ := hc1 k _ hx
        obtain ⟨k1, k2, k3⟩ := hc2 k _ hy
        have heq := fun W => eqSn x y W
        have i1 : (0 : Int) ≤ (k : Int) := by omega
        have i2 : (k : Int) < (l1.length : Int) := by omega
        have i3 : (k : Int) < (l2.length : Int) := by omega
        have hts := take_snoc_eq HTK.out hx hy
        have HTS := Lib.hid hts
        have HX := Lib.hid hx
        have HY := Lib.hid hy
        clear hc1 hc2 hx hy hts
        by_cases hxy : x = y
        · have HXY := Lib.hid hxy
          rw [decide_eq_true hxy] at heq
          clear hxy
          go_wp2_with fail
          go_quiet (fail)
          go_wp2_with fail
          go_roundw
          case rel => exact ⟨k + 1, _, by omega, by go_num, rfl, HTS.out.2 HXY.out⟩
          case measure => simp [intOf]; omega
        · rw [decide_eq_false hxy] at heq
          have hne : l1 ≠ l2 := ne_of_at HX.out HY.out hxy
          have hf : decide (l1 = l2) = false := by simpa using hne
          have HF := Lib.hid hf
          clear hne hf hxy
          go_wp2_with fail
          go_quiet (fail)
          go_wp2_with fail
          go_ret
          exact ⟨by rw [HF.out]; rfl, _, World.drewN_drewN ..⟩
      · obtain rfl : k = l1.length := by omega
        have d1 : decide ((l1.length : Int) < (l1.length : Int)) = false := by simp
        have he : l1 = l2 := by
          have h3 := HTK.out
          rw [List.take_length, HLEN.out, List.take_length] at h3
          exact h3
        have hf : decide (l1 = l2) = true := by simpa using he
        have HF := Lib.hid hf
        clear he hf
        go_wp2_with fail
        go_ret
        exact ⟨by rw [HF.out]; rfl, _, rfl⟩
  · have d0 : ((l1.length : Int) != (l2.length : Int)) = true := by simp; omega
    have hne : ¬ l1 = l2 := fun h => hlen (by rw [h])
    have hf : decide (l1 = l2) = false := by simpa using hne
    have HF := Lib.hid hf
    clear hf hne hlen h1 h2
    go_enter Tryz.func47, Tryz.ntmps47
    go_wp2_with fail
    go_ret
    exact ⟨by rw [HF.out]; rfl, 0, rfl⟩
set_option maxRecDepth 100000 in
set_option maxHeartbeats 1000000 in
theorem SamePd_any (a b : Pd) (D1 D2 : Option Addr) (e1 e2 : Nat) (w : World) (h1 : Reads w w.heap.size 3 D1 a.seen.length (cellsN a.seen)) (h2 : Reads w w.heap.size 3 D2 b.seen.length (cellsN b.seen)) (hl : a.seen.length ≤ 1000000) :
    Calls Tryz.prog 19 #[(.agg #[.int .i64 a.pid, .int .i64 a.ep, .int .i64 a.nx, .slice D1 a.seen.length e1]), (.agg #[.int .i64 b.pid, .int .i64 b.ep, .int .i64 b.nx, .slice D2 b.seen.length e2])] w fun e w' => e = .returned (.bool (samePd a b)) ∧ Below w.heap.size w w' := by
  have HB := Lib.hid (bal (bal (Below.refl w.heap.size w) (.cells #[.int .i64 a.pid, .int .i64 a.ep, .int .i64 a.nx, .slice D1 a.seen.length e1] 30)) (.cells #[.int .i64 b.pid, .int .i64 b.ep, .int .i64 b.nx, .slice D2 b.seen.length e2] 30))
  have EQ := Lib.hid (fun W (h : Below w.heap.size w W) => EqualN_any D1 D2 a.seen b.seen e1 e2 _ _ W ((h1.below h).more h.size) ((h2.below h).more h.size) hl)
  have HA := Lib.hid (show samePd a b = (decide (a.pid = b.pid) && (decide (a.ep = b.ep) && (decide (a.nx = b.nx) && decide (a.seen = b.seen)))) from rfl)
  clear h1 h2
  have q1 : (a.pid == b.pid) = decide (a.pid = b.pid) := by rw [Bool.eq_iff_iff]; simp
  have q2 : (a.ep == b.ep) = decide (a.ep = b.ep) := by rw [Bool.eq_iff_iff]; simp
  have q3 : (a.nx == b.nx) = decide (a.nx = b.nx) := by rw [Bool.eq_iff_iff]; simp
  generalize decide (a.pid = b.pid) = d1 at *
  generalize decide (a.ep = b.ep) = d2 at *
  generalize decide (a.nx = b.nx) = d3 at *
  generalize decide (a.seen = b.seen) = d6 at *
  go_enter Tryz.func19, Tryz.ntmps19
  cases d1
  · go_wp2_with fail
    go_ret
    exact ⟨ret_bool (by rw [HA.out]; rfl), HB.out⟩
  cases d2
  · go_wp2_with fail
    go_ret
    exact ⟨ret_bool (by rw [HA.out]; rfl), HB.out⟩
  cases d3
  · go_wp2_with fail
    go_ret
    exact ⟨ret_bool (by rw [HA.out]; rfl), HB.out⟩
  go_wp2_with fail
  refine (EQ.out _ HB.out).mono ?_
  rintro e w1 ⟨rfl, q, rfl⟩
  go_wp2_with fail
  go_ret
  exact ⟨ret_bool (by rw [HA.out]; rfl), below_drewN HB.out _⟩
end Go.Proofs.YtckdecodpjfcnaaGreatDoor
namespace Go.Proofs.YtckdecodpjfcnaaGreatDoor
open Go.RowKit

/-- What is known of an entry that was handed in: its rows in memory. -/
def EnR (w : World) (x : En) (A D : Option Addr) : Prop := Reads w w.heap.size 2 A x.b.rs.length (cellsR x.b.rs) ∧ Reads w w.heap.size 3 D x.prod.seen.length (cellsN x.prod.seen) ∧ x.b.rs.length ≤ 1000000 ∧ x.prod.seen.length ≤ 1000000
theorem EnR.up {w W : World} {x : En} {A D : Option Addr} (h : EnR w x A D) (k : Below w.heap.size w W) : EnR W x A D := ⟨(h.1.below k).more k.size, (h.2.1.below k).more k.size, h.2.2⟩
theorem enR_base (w : World) (kd : Int) : EnR w (baseEn kd) none none := ⟨Reads.none_, Reads.none_, Nat.zero_le _, Nat.zero_le _⟩

set_option maxRecDepth 100000 in
set_option maxHeartbeats 4000000 in
theorem EnSame_any (a b : En) (A1 D1 A2 D2 : Option Addr) (c1 e1 c2 e2 : Nat) (w : World) (h1 : EnR w a A1 D1) (h2 : EnR w b A2 D2) :
    Calls Tryz.prog 15 #[(.agg #[.int .i8 a.kd, .int .i64 a.b.pid, .int .i64 a.b.ep, .int .i64 a.b.seq, .bool a.b.txn, .slice A1 a.b.rs.length c1, .bool a.yes, .int .i64 a.nx, .int .i64 a.off, .int .i64 a.row.1, .int .i64 a.row.2.1, .int .i64 a.row.2.2.1, .string a.row.2.2.2.1, .string a.row.2.2.2.2, .int .i64 a.prod.pid, .int .i64 a.prod.ep, .int .i64 a.prod.nx, .slice D1 a.prod.seen.length e1]), (.agg #[.int .i8 b.kd, .int .i64 b.b.pid, .int .i64 b.b.ep, .int .i64 b.b.seq, .bool b.b.txn, .slice A2 b.b.rs.length c2, .bool b.yes, .int .i64 b.nx, .int .i64 b.off, .int .i64 b.row.1, .int .i64 b.row.2.1, .int .i64 b.row.2.2.1, .string b.row.2.2.2.1, .string b.row.2.2.2.2, .int .i64 b.prod.pid, .int .i64 b.prod.ep, .int .i64 b.prod.nx, .slice D2 b.prod.seen.length e2])] w fun e w' => e = .returned (.bool (sameEn a b)) ∧ Below w.heap.size w w' := by
  have HB := Lib.hid (bal (bal (Below.refl w.heap.size w) (.cells #[.int .i8 a.kd, .int .i64 a.b.pid, .int .i64 a.b.ep, .int .i64 a.b.seq, .bool a.b.txn, .slice A1 a.b.rs.length c1, .bool a.yes, .int .i64 a.nx, .int .i64 a.off, .int .i64 a.row.1, .int .i64 a.row.2.1, .int .i64 a.row.2.2.1, .string a.row.2.2.2.1, .string a.row.2.2.2.2, .int .i64 a.prod.pid, .int .i64 a.prod.ep, .int .i64 a.prod.nx, .slice D1 a.prod.seen.length e1] 32)) (.cells #[.int .i8 b.kd, .int .i64 b.b.pid, .int .i64 b.b.ep, .int .i64 b.b.seq, .bool b.b.txn, .slice A2 b.b.rs.length c2, .bool b.yes, .int .i64 b.nx, .int .i64 b.off, .int .i64 b.row.1, .int .i64 b.row.2.1, .int .i64 b.row.2.2.1, .string b.row.2.2.2.1, .string b.row.2.2.2.2, .int .i64 b.prod.pid, .int .i64 b.prod.ep, .int .i64 b.prod.nx, .slice D2 b.prod.seen.length e2] 32))
  have KA := Lib.hid ((Blk.new w 32 #[.int .i8 a.kd, .int .i64 a.b.pid, .int .i64 a.b.ep, .int .i64 a.b.seq, .bool a.b.txn, .slice A1 a.b.rs.length c1, .bool a.yes, .int .i64 a.nx, .int .i64 a.off, .int .i64 a.row.1, .int .i64 a.row.2.1, .int .i64 a.row.2.2.1, .string a.row.2.2.2.1, .string a.row.2.2.2.2, .int .i64 a.prod.pid, .int .i64 a.prod.ep, .int .i64 a.prod.nx, .slice D1 a.prod.seen.length e1]).alloc (.cells #[.int .i8 b.kd, .int .i64 b.b.pid, .int .i64 b.b.ep, .int .i64 b.b.seq, .bool b.b.txn, .slice A2 b.b.rs.length c2, .bool b.yes, .int .i64 b.nx, .int .i64 b.off, .int .i64 b.row.1, .int .i64 b.row.2.1, .int .i64 b.row.2.2.1, .string b.row.2.2.2.1, .string b.row.2.2.2.2, .int .i64 b.prod.pid, .int .i64 b.prod.ep, .int .i64 b.prod.nx, .slice D2 b.prod.seen.length e2] 32))
  have KB := Lib.hid (blk_new (w.alloc (.cells #[.int .i8 a.kd, .int .i64 a.b.pid, .int .i64 a.b.ep, .int .i64 a.b.seq, .bool a.b.txn, .slice A1 a.b.rs.length c1, .bool a.yes, .int .i64 a.nx, .int .i64 a.off, .int .i64 a.row.1, .int .i64 a.row.2.1, .int .i64 a.row.2.2.1, .string a.row.2.2.2.1, .string a.row.2.2.2.2, .int .i64 a.prod.pid, .int .i64 a.prod.ep, .int .i64 a.prod.nx, .slice D1 a.prod.seen.length e1] 32)) 32 #[.int .i8 b.kd, .int .i64 b.b.pid, .int .i64 b.b.ep, .int .i64 b.b.seq, .bool b.b.txn, .slice A2 b.b.rs.length c2, .bool b.yes, .int .i64 b.nx, .int .i64 b.off, .int .i64 b.row.1, .int .i64 b.row.2.1, .int .i64 b.row.2.2.1, .string b.row.2.2.2.1, .string b.row.2.2.2.2, .int .i64 b.prod.pid, .int .i64 b.prod.ep, .int .i64 b.prod.nx, .slice D2 b.prod.seen.length e2] (g := w.heap.size + 1) (by simp))
  have RS := Lib.hid (fun W (h : Below w.heap.size w W) => RcSame_any a.b b.b A1 A2 c1 c2 W (h1.up h).1 (h2.up h).1 h1.2.2.1)
  have PS := Lib.hid (fun W (h : Below w.heap.size w W) => SamePd_any a.prod b.prod D1 D2 e1 e2 W (h1.up h).2.1 (h2.up h).2.1 h1.2.2.2)
  have HA := Lib.hid (show sameEn a b = (decide (a.kd = b.kd) && (sameBt a.b b.b && ((a.yes == b.yes) && (decide (a.nx = b.nx) && (decide (a.off = b.off) && (decide (a.row = b.row) && samePd a.prod b.prod)))))) from rfl)
  have heq := fun W => eqRw7 a.row b.row W
  have hm : Tryz.prog.eqGuardType Tryz.prog.depth 27 = false := by kernel_rfl
  clear h1 h2
  have q1 : (a.kd == b.kd) = decide (a.kd = b.kd) := by rw [Bool.eq_iff_iff]; simp
  have q2 : (a.nx == b.nx) = decide (a.nx = b.nx) := by rw [Bool.eq_iff_iff]; simp
  have q3 : (a.off == b.off) = decide (a.off = b.off) := by rw [Bool.eq_iff_iff]; simp
  generalize decide (a.kd = b.kd) = d1 at *
  generalize sameBt a.b b.b = d2 at *
  generalize hy : (a.yes == b.yes) = d3 at *
  generalize decide (a.nx = b.nx) = d4 at *
  generalize decide (a.off = b.off) = d5 at *
  generalize decide (a.row = b.row) = d6 at *
  generalize samePd a.prod b.prod = d7 at *
  go_enter Tryz.func15, Tryz.ntmps15
  cases d1
  · go_wp2_with fail
    go_ret
    exact ⟨ret_bool (by rw [HA.out]; rfl), HB.out⟩
  have x1 := KA.out.cell 1
  have x2 := KA.out.cell 2
  have x3 := KA.out.cell 3
  have x4 := KA.out.cell 4
  have x5 := KA.out.cell 5
  have y1 := KB.out.cell 1
  have y2 := KB.out.cell 2
  have y3 := KB.out.cell 3
  have y4 := KB.out.cell 4
  have y5 := KB.out.cell 5
  go_wp2_with fail
  refine (RS.out _ HB.out).mono ?_
  rintro e w1 ⟨rfl, b1⟩
  have ka := KA.out.below b1 (by simp; omega)
  have kb := KB.out.below b1 (by simp)
  have B1 := Lib.hid (btrans HB.out b1)
  clear b1 x1 x2 x3 x4 x5 y1 y2 y3 y4 y5
  have x6 := ka.cell 6
  have x7 := ka.cell 7
  have x8 := ka.cell 8
  have x9 := ka.cell 9
  have x10 := ka.cell 10
  have x11 := ka.cell 11
  have x12 := ka.cell 12
  have x13 := ka.cell 13
  have x14 := ka.cell 14
  have x15 := ka.cell 15
  have x16 := ka.cell 16
  have x17 := ka.cell 17
  have y6 := kb.cell 6
  have y7 := kb.cell 7
  have y8 := kb.cell 8
  have y9 := kb.cell 9
  have y10 := kb.cell 10
  have y11 := kb.cell 11
  have y12 := kb.cell 12
  have y13 := kb.cell 13
  have y14 := kb.cell 14
  have y15 := kb.cell 15
  have y16 := kb.cell 16
  have y17 := kb.cell 17
  clear ka kb
  cases d2
  · go_wp2_with fail
    go_ret
    exact ⟨ret_bool (by rw [HA.out]; rfl), B1.out⟩
  cases d3
  · go_wp2_with fail
    go_ret
    exact ⟨ret_bool (by rw [HA.out]; rfl), B1.out⟩
  cases d4
  · go_wp2_with fail
    go_ret
    exact ⟨ret_bool (by rw [HA.out]; rfl), B1.out⟩
  cases d5
  · go_wp2_with fail
    go_ret
    exact ⟨ret_bool (by rw [HA.out]; rfl), B1.out⟩
  cases d6
  · go_wp2_with fail
    go_ret
    exact ⟨ret_bool (by rw [HA.out]; rfl), B1.out⟩
  go_wp2_with fail
  refine (PS.out _ B1.out).mono ?_
  rintro e w2 ⟨rfl, b2⟩
  go_wp2_with fail
  go_ret
  exact ⟨ret_bool (by rw [HA.out]; rfl), btrans B1.out b2⟩
end Go.Proofs.YtckdecodpjfcnaaGreatDoor
namespace Go.Proofs.YtckdecodpjfcnaaGreatDoor
open Go.RowKit

set_option maxRecDepth 100000 in
set_option maxHeartbeats 1000000 in
theorem rSamePd_any (a b : Pd) (D1 D2 : Option Addr) (e1 e2 : Nat) (w : World) (h1 : Reads w w.heap.size 3 D1 a.seen.length (cellsN a.seen)) (h2 : Reads w w.heap.size 3 D2 b.seen.length (cellsN b.seen)) (hl : a.seen.length ≤ 1000000) :
    Calls Tryz.prog 20 #[(.agg #[.int .i64 a.pid, .int .i64 a.ep, .int .i64 a.nx, .slice D1 a.seen.length e1]), (.agg #[.int .i64 b.pid, .int .i64 b.ep, .int .i64 b.nx, .slice D2 b.seen.length e2])] w fun e w' => e = .returned (.bool (samePd a b)) ∧ Below w.heap.size w w' := by
  have HA := Lib.hid (show samePd a b = (decide (a.pid = b.pid) && (decide (a.ep = b.ep) && (decide (a.nx = b.nx) && decide (a.seen = b.seen)))) from rfl)
  have HB := Lib.hid (bal (bal (Below.refl w.heap.size w) (.cells #[.int .i64 a.pid, .int .i64 a.ep, .int .i64 a.nx, .slice D1 a.seen.length e1] 30)) (.cells #[.int .i64 b.pid, .int .i64 b.ep, .int .i64 b.nx, .slice D2 b.seen.length e2] 30))
  by_cases hpid : a.pid = b.pid
  case neg =>
    have d0 : (a.pid != b.pid) = true := ne_true hpid
    have HF := Lib.hid (show samePd a b = false by rw [HA.out, decide_eq_false hpid]; rfl)
    clear h1 h2 hpid
    go_enter Tryz.func20, Tryz.ntmps20
    go_wp2_with fail
    go_ret
    exact ⟨ret_bool HF.out.symm, HB.out⟩
  have d0 : (a.pid != b.pid) = false := ne_false hpid
  by_cases hep : a.ep = b.ep
  case neg =>
    have d1 : (a.ep != b.ep) = true := ne_true hep
    have HF := Lib.hid (show samePd a b = false by rw [HA.out, decide_eq_false hep]; simp)
    clear h1 h2 hpid hep
    go_enter Tryz.func20, Tryz.ntmps20
    go_wp2_with fail
    go_ret
    exact ⟨ret_bool HF.out.symm, HB.out⟩
  have d1 : (a.ep != b.ep) = false := ne_false hep
  by_cases hnx : a.nx = b.nx
  case neg =>
    have d2 : (a.nx != b.nx) = true := ne_true hnx
    have HF := Lib.hid (show samePd a b = false by rw [HA.out, decide_eq_false hnx]; simp)
    clear h1 h2 hpid hep hnx
    go_enter Tryz.func20, Tryz.ntmps20
    go_wp2_with fail
    go_ret
    exact ⟨ret_bool HF.out.symm, HB.out⟩
  have d2 : (a.nx != b.nx) = false := ne_false hnx
  have HF := Lib.hid (show samePd a b = decide (a.seen = b.seen) by rw [HA.out, decide_eq_true hpid, decide_eq_true hep, decide_eq_true hnx]; rfl)
  by_cases hlen : a.seen.length = b.seen.length
  · have d5 : ((a.seen.length : Int) != (b.seen.length : Int)) = false := by rw [hlen]; simp
    have HH1 := Lib.hid ((h1.alloc (Nat.le_refl _) (.cells #[.int .i64 a.pid, .int .i64 a.ep, .int .i64 a.nx, .slice D1 a.seen.length e1] 30)).alloc (by simp) (.cells #[.int .i64 b.pid, .int .i64 b.ep, .int .i64 b.nx, .slice D2 b.seen.length e2] 30))
    have HH2 := Lib.hid ((h2.alloc (Nat.le_refl _) (.cells #[.int .i64 a.pid, .int .i64 a.ep, .int .i64 a.nx, .slice D1 a.seen.length e1] 30)).alloc (by simp) (.cells #[.int .i64 b.pid, .int .i64 b.ep, .int .i64 b.nx, .slice D2 b.seen.length e2] 30))
    have HLEN := Lib.hid hlen
    have hl2 : a.seen.length ≤ b.seen.length := by omega
    have hl3 : b.seen.length ≤ a.seen.length := by omega
    have x3 := ((Blk.new w 30 #[.int .i64 a.pid, .int .i64 a.ep, .int .i64 a.nx, .slice D1 a.seen.length e1]).alloc (.cells #[.int .i64 b.pid, .int .i64 b.ep, .int .i64 b.nx, .slice D2 b.seen.length e2] 30)).cell 3
    have kk := Blk.new (w.alloc (.cells #[.int .i64 a.pid, .int .i64 a.ep, .int .i64 a.nx, .slice D1 a.seen.length e1] 30)) 30 #[.int .i64 b.pid, .int .i64 b.ep, .int .i64 b.nx, .slice D2 b.seen.length e2]
    rw [World.size_alloc] at kk
    have y3 := kk.cell 3
    have hm : Tryz.prog.eqGuardType Tryz.prog.depth 73 = false := by kernel_rfl
    clear h1 h2 hlen hpid hep hnx kk
    go_enter Tryz.func20, Tryz.ntmps20
    go_wp2_with fail
    generalize hW : (w.alloc (.cells #[.int .i64 a.pid, .int .i64 a.ep, .int .i64 a.nx, .slice D1 a.seen.length e1] 30)).alloc (.cells #[.int .i64 b.pid, .int .i64 b.ep, .int .i64 b.nx, .slice D2 b.seen.length e2] 30) = W at *
    clear hW
    go_loopw [5] (fun y wr => ∃ k q : Nat, k ≤ a.seen.length ∧ y = .int .i64 k ∧ wr = W.drewN q ∧ a.seen.take k = b.seen.take k) (fun y _ => a.seen.length - (intOf y).toNat)
    case atStart => exact ⟨0, 0, Nat.zero_le _, rfl, rfl, by simp⟩
    case round =>
      obtain ⟨k, q, hk, rfl, rfl, htk⟩ := hrel
      have HTK := Lib.hid htk
      clear htk
      by_cases hlt : k < a.seen.length
      · have d1' : decide ((k : Int) < (a.seen.length : Int)) = true := by simp; omega
        obtain ⟨b1, o1, rfl, _, hc1⟩ := HH1.out.plain3 (by omega)
        obtain ⟨b2, o2, rfl, _, hc2⟩ := HH2.out.plain3 (by omega)
        obtain ⟨x, hx⟩ : ∃ z, a.seen[k]? = some z := ⟨_, List.getElem?_eq_getElem hlt⟩
        obtain ⟨y, hy⟩ : ∃ z, b.seen[k]? = some z := ⟨_, List.getElem?_eq_getElem (by omega)⟩
        obtain ⟨g1, g2, g3⟩ := hc1 k _ hx
        obtain ⟨g4, g5, g6⟩ := hc2 k _ hy
        have heq := fun W => eqSn x y W
        have i1 : (0 : Int) ≤ (k : Int) := by omega
        have i2 : (k : Int) < (a.seen.length : Int) := by omega
        have i3 : (k : Int) < (b.seen.length : Int) := by omega
        have HTS := Lib.hid (take_snoc_eq HTK.out hx hy)
        have HX := Lib.hid hx
        have HY := Lib.hid hy
        clear hc1 hc2 hx hy
        by_cases hxy : x = y
        · have HXY := Lib.hid hxy
          rw [decide_eq_true hxy] at heq
          clear hxy
          go_wp2_with fail
          go_quiet (fail)
          go_wp2_with fail
          go_roundw
          case rel => exact ⟨k + 1, _, by omega, by go_num, rfl, HTS.out.2 HXY.out⟩
          case measure => simp [intOf]; omega
        · rw [decide_eq_false hxy] at heq
          have hne : a.seen ≠ b.seen := ne_of_at HX.out HY.out hxy
          have HN := Lib.hid (decide_eq_false hne)
          clear hne hxy
          go_wp2_with fail
          go_quiet (fail)
          go_wp2_with fail
          go_ret
          exact ⟨ret_bool (by rw [HF.out, HN.out]), below_drewN (below_drewN HB.out _) _⟩
      · obtain rfl : k = a.seen.length := by omega
        have d1' : decide ((a.seen.length : Int) < (a.seen.length : Int)) = false := by simp
        have he : a.seen = b.seen := by
          have h3 := HTK.out
          rw [List.take_length, HLEN.out, List.take_length] at h3
          exact h3
        have HN := Lib.hid (decide_eq_true he)
        clear he
        go_wp2_with fail
        go_ret
        exact ⟨ret_bool (by rw [HF.out, HN.out]), below_drewN HB.out _⟩
  · have d5 : ((a.seen.length : Int) != (b.seen.length : Int)) = true := by simp; omega
    have hne : ¬ a.seen = b.seen := fun h => hlen (by rw [h])
    have HN := Lib.hid (decide_eq_false hne)
    clear h1 h2 hlen hpid hep hnx hne
    go_enter Tryz.func20, Tryz.ntmps20
    go_wp2_with fail
    go_ret
    exact ⟨ret_bool (by rw [HF.out, HN.out]), HB.out⟩

set_option maxRecDepth 100000 in
set_option maxHeartbeats 4000000 in
theorem rEnSame_any (a b : En) (A1 D1 A2 D2 : Option Addr) (c1 e1 c2 e2 : Nat) (w : World) (h1 : EnR w a A1 D1) (h2 : EnR w b A2 D2) :
    Calls Tryz.prog 16 #[(.agg #[.int .i8 a.kd, .int .i64 a.b.pid, .int .i64 a.b.ep, .int .i64 a.b.seq, .bool a.b.txn, .slice A1 a.b.rs.length c1, .bool a.yes, .int .i64 a.nx, .int .i64 a.off, .int .i64 a.row.1, .int .i64 a.row.2.1, .int .i64 a.row.2.2.1, .string a.row.2.2.2.1, .string a.row.2.2.2.2, .int .i64 a.prod.pid, .int .i64 a.prod.ep, .int .i64 a.prod.nx, .slice D1 a.prod.seen.length e1]), (.agg #[.int .i8 b.kd, .int .i64 b.b.pid, .int .i64 b.b.ep, .int .i64 b.b.seq, .bool b.b.txn, .slice A2 b.b.rs.length c2, .bool b.yes, .int .i64 b.nx, .int .i64 b.off, .int .i64 b.row.1, .int .i64 b.row.2.1, .int .i64 b.row.2.2.1, .string b.row.2.2.2.1, .string b.row.2.2.2.2, .int .i64 b.prod.pid, .int .i64 b.prod.ep, .int .i64 b.prod.nx, .slice D2 b.prod.seen.length e2])] w fun e w' => e = .returned (.bool (sameEn a b)) ∧ Below w.heap.size w w' := by
  have HB := Lib.hid (bal (bal (Below.refl w.heap.size w) (.cells #[.int .i8 a.kd, .int .i64 a.b.pid, .int .i64 a.b.ep, .int .i64 a.b.seq, .bool a.b.txn, .slice A1 a.b.rs.length c1, .bool a.yes, .int .i64 a.nx, .int .i64 a.off, .int .i64 a.row.1, .int .i64 a.row.2.1, .int .i64 a.row.2.2.1, .string a.row.2.2.2.1, .string a.row.2.2.2.2, .int .i64 a.prod.pid, .int .i64 a.prod.ep, .int .i64 a.prod.nx, .slice D1 a.prod.seen.length e1] 32)) (.cells #[.int .i8 b.kd, .int .i64 b.b.pid, .int .i64 b.b.ep, .int .i64 b.b.seq, .bool b.b.txn, .slice A2 b.b.rs.length c2, .bool b.yes, .int .i64 b.nx, .int .i64 b.off, .int .i64 b.row.1, .int .i64 b.row.2.1, .int .i64 b.row.2.2.1, .string b.row.2.2.2.1, .string b.row.2.2.2.2, .int .i64 b.prod.pid, .int .i64 b.prod.ep, .int .i64 b.prod.nx, .slice D2 b.prod.seen.length e2] 32))
  have KA := Lib.hid ((Blk.new w 32 #[.int .i8 a.kd, .int .i64 a.b.pid, .int .i64 a.b.ep, .int .i64 a.b.seq, .bool a.b.txn, .slice A1 a.b.rs.length c1, .bool a.yes, .int .i64 a.nx, .int .i64 a.off, .int .i64 a.row.1, .int .i64 a.row.2.1, .int .i64 a.row.2.2.1, .string a.row.2.2.2.1, .string a.row.2.2.2.2, .int .i64 a.prod.pid, .int .i64 a.prod.ep, .int .i64 a.prod.nx, .slice D1 a.prod.seen.length e1]).alloc (.cells #[.int .i8 b.kd, .int .i64 b.b.pid, .int .i64 b.b.ep, .int .i64 b.b.seq, .bool b.b.txn, .slice A2 b.b.rs.length c2, .bool b.yes, .int .i64 b.nx, .int .i64 b.off, .int .i64 b.row.1, .int .i64 b.row.2.1, .int .i64 b.row.2.2.1, .string b.row.2.2.2.1, .string b.row.2.2.2.2, .int .i64 b.prod.pid, .int .i64 b.prod.ep, .int .i64 b.prod.nx, .slice D2 b.prod.seen.length e2] 32))
  have KB := Lib.hid (blk_new (w.alloc (.cells #[.int .i8 a.kd, .int .i64 a.b.pid, .int .i64 a.b.ep, .int .i64 a.b.seq, .bool a.b.txn, .slice A1 a.b.rs.length c1, .bool a.yes, .int .i64 a.nx, .int .i64 a.off, .int .i64 a.row.1, .int .i64 a.row.2.1, .int .i64 a.row.2.2.1, .string a.row.2.2.2.1, .string a.row.2.2.2.2, .int .i64 a.prod.pid, .int .i64 a.prod.ep, .int .i64 a.prod.nx, .slice D1 a.prod.seen.length e1] 32)) 32 #[.int .i8 b.kd, .int .i64 b.b.pid, .int .i64 b.b.ep, .int .i64 b.b.seq, .bool b.b.txn, .slice A2 b.b.rs.length c2, .bool b.yes, .int .i64 b.nx, .int .i64 b.off, .int .i64 b.row.1, .int .i64 b.row.2.1, .int .i64 b.row.2.2.1, .string b.row.2.2.2.1, .string b.row.2.2.2.2, .int .i64 b.prod.pid, .int .i64 b.prod.ep, .int .i64 b.prod.nx, .slice D2 b.prod.seen.length e2] (g := w.heap.size + 1) (by simp))
  have RS := Lib.hid (fun W (h : Below w.heap.size w W) => rRcSame_any a.b b.b A1 A2 c1 c2 W (h1.up h).1 (h2.up h).1 h1.2.2.1)
  have PS := Lib.hid (fun W (h : Below w.heap.size w W) => rSamePd_any a.prod b.prod D1 D2 e1 e2 W (h1.up h).2.1 (h2.up h).2.1 h1.2.2.2)
  have HA := Lib.hid (show sameEn a b = (decide (a.kd = b.kd) && (sameBt a.b b.b && ((a.yes == b.yes) && (decide (a.nx = b.nx) && (decide (a.off = b.off) && (decide (a.row = b.row) && samePd a.prod b.prod)))))) from rfl)
  have heq := fun W => eqRw7 a.row b.row W
  have hm : Tryz.prog.eqGuardType Tryz.prog.depth 27 = false := by kernel_rfl
  clear h1 h2
  have q1 : (a.kd == b.kd) = decide (a.kd = b.kd) := by rw [Bool.eq_iff_iff]; simp
  have q2 : (a.nx == b.nx) = decide (a.nx = b.nx) := by rw [Bool.eq_iff_iff]; simp
  have q3 : (a.off == b.off) = decide (a.off = b.off) := by rw [Bool.eq_iff_iff]; simp
  generalize decide (a.kd = b.kd) = d1 at *
  generalize sameBt a.b b.b = d2 at *
  generalize hy : (a.yes == b.yes) = d3 at *
  generalize decide (a.nx = b.nx) = d4 at *
  generalize decide (a.off = b.off) = d5 at *
  generalize decide (a.row = b.row) = d6 at *
  generalize samePd a.prod b.prod = d7 at *
  go_enter Tryz.func16, Tryz.ntmps16
  cases d1
  · go_wp2_with fail
    go_ret
    exact ⟨ret_bool (by rw [HA.out]; rfl), HB.out⟩
  have x1 := KA.out.cell 1
  have x2 := KA.out.cell 2
  have x3 := KA.out.cell 3
  have x4 := KA.out.cell 4
  have x5 := KA.out.cell 5
  have y1 := KB.out.cell 1
  have y2 := KB.out.cell 2
  have y3 := KB.out.cell 3
  have y4 := KB.out.cell 4
  have y5 := KB.out.cell 5
  go_wp2_with fail
  refine (RS.out _ HB.out).mono ?_
  rintro e w1 ⟨rfl, b1⟩
  have ka := KA.out.below b1 (by simp; omega)
  have kb := KB.out.below b1 (by simp)
  have B1 := Lib.hid (btrans HB.out b1)
  clear b1 x1 x2 x3 x4 x5 y1 y2 y3 y4 y5
  have x6 := ka.cell 6
  have x7 := ka.cell 7
  have x8 := ka.cell 8
  have x9 := ka.cell 9
  have x10 := ka.cell 10
  have x11 := ka.cell 11
  have x12 := ka.cell 12
  have x13 := ka.cell 13
  have x14 := ka.cell 14
  have x15 := ka.cell 15
  have x16 := ka.cell 16
  have x17 := ka.cell 17
  have y6 := kb.cell 6
  have y7 := kb.cell 7
  have y8 := kb.cell 8
  have y9 := kb.cell 9
  have y10 := kb.cell 10
  have y11 := kb.cell 11
  have y12 := kb.cell 12
  have y13 := kb.cell 13
  have y14 := kb.cell 14
  have y15 := kb.cell 15
  have y16 := kb.cell 16
  have y17 := kb.cell 17
  clear ka kb
  cases d2
  · go_wp2_with fail
    go_ret
    exact ⟨ret_bool (by rw [HA.out]; rfl), B1.out⟩
  cases d3
  · go_wp2_with fail
    go_ret
    exact ⟨ret_bool (by rw [HA.out]; rfl), B1.out⟩
  cases d4
  · go_wp2_with fail
    go_ret
    exact ⟨ret_bool (by rw [HA.out]; rfl), B1.out⟩
  cases d5
  · go_wp2_with fail
    go_ret
    exact ⟨ret_bool (by rw [HA.out]; rfl), B1.out⟩
  cases d6
  · go_wp2_with fail
    go_ret
    exact ⟨ret_bool (by rw [HA.out]; rfl), B1.out⟩
  go_wp2_with fail
  refine (PS.out _ B1.out).mono ?_
  rintro e w2 ⟨rfl, b2⟩
  go_wp2_with fail
  go_ret
  exact ⟨ret_bool (by rw [HA.out]; rfl), btrans B1.out b2⟩

set_option maxRecDepth 100000 in
theorem rproducer_any (p e : Int) (w : World) : Calls Tryz.prog 41 #[.int .i64 p, .int .i64 e] w fun x w' => x = .returned (.bool (prodB p e)) ∧ w = w' := by
  have HP := Lib.hid (show prodB p e = (decide (1 ≤ p ∧ p ≤ 8) && decide (0 ≤ e ∧ e ≤ 100)) from rfl)
  go_enter Tryz.func41, Tryz.ntmps41
  by_cases h1 : 1 ≤ p
  · by_cases h2 : p ≤ 8
    · by_cases h3 : 0 ≤ e
      · by_cases h4 : e ≤ 100
        · go_wp2_with fail
          go_ret
          exact ⟨ret_bool (by rw [HP.out]; simp [h1, h2, h3, h4]), rfl⟩
        · go_wp2_with fail
          go_ret
          exact ⟨ret_bool (by rw [HP.out]; simp [h4]), rfl⟩
      · go_wp2_with fail
        go_ret
        have h9 : ¬ 0 ≤ e := by omega
        exact ⟨ret_bool (by rw [HP.out]; simp [h9]), rfl⟩
    · go_wp2_with fail
      go_ret
      exact ⟨ret_bool (by rw [HP.out, decide_eq_false (show ¬ (1 ≤ p ∧ p ≤ 8) by omega)]; rfl), rfl⟩
  · go_wp2_with fail
    go_ret
    have h9 : ¬ 1 ≤ p := by omega
    exact ⟨ret_bool (by rw [HP.out]; simp [h9]), rfl⟩
theorem within_any (x l m : Int) (w : World) : Calls Tryz.prog 42 #[.int .i64 x, .int .i64 l, .int .i64 m] w fun e w' => e = .returned (.bool (decide (l ≤ x ∧ x ≤ m))) ∧ w = w' := by
  go_enter Tryz.func42, Tryz.ntmps42
  by_cases h1 : l ≤ x
  · by_cases h2 : x ≤ m
    · go_wp2_with fail
      go_ret
      exact ⟨ret_bool (by simp [h1, h2]), rfl⟩
    · go_wp2_with fail
      go_ret
      exact ⟨ret_bool (by simp [h2]), rfl⟩
  · go_wp2_with fail
    go_ret
    have h9 : ¬ l ≤ x := by omega
    exact ⟨ret_bool (by simp [h9]), rfl⟩
set_option maxRecDepth 100000 in
set_option maxHeartbeats 1000000 in
/-- A row that may be, but for its offset. -/
theorem MayRow_any (r : Rw) (w : World) : Calls Tryz.prog 43 #[(.agg #[.int .i64 r.1, .int .i64 r.2.1, .int .i64 r.2.2.1, .string r.2.2.2.1, .string r.2.2.2.2])] w fun e w' => e = .returned (.bool (rowB (0, r.2.1, r.2.2.1, r.2.2.2.1, r.2.2.2.2))) ∧ Below w.heap.size w w' := by
  have HB := Lib.hid (fun x => bal (Below.refl w.heap.size w) x)
  have W1 := Lib.hid (fun W => within_any r.2.1 1 8 W)
  have W2 := Lib.hid (fun W => within_any r.2.2.1 0 1048575 W)
  have HV := Lib.hid (show rowB (0, r.2.1, r.2.2.1, r.2.2.2.1, r.2.2.2.2) = (decide (1 ≤ r.2.1 ∧ r.2.1 ≤ 8) && (decide (0 ≤ r.2.2.1 ∧ r.2.2.1 ≤ 1048575) && (decide ((r.2.2.2.1.size : Int) ≤ 16) && decide ((r.2.2.2.2.size : Int) ≤ 16)))) by
    have e1 : decide (0 ≤ r.2.2.1 ∧ r.2.2.1 < 1048576) = decide (0 ≤ r.2.2.1 ∧ r.2.2.1 ≤ 1048575) := by rw [decide_eq_decide]; omega
    have e2 : decide (r.2.2.2.1.size ≤ 16) = decide ((r.2.2.2.1.size : Int) ≤ 16) := by rw [decide_eq_decide]; omega
    have e3 : decide (r.2.2.2.2.size ≤ 16) = decide ((r.2.2.2.2.size : Int) ≤ 16) := by rw [decide_eq_decide]; omega
    unfold rowB
    simp only [e1, e2, e3, decide_true, Bool.true_and])
  generalize rowB (0, r.2.1, r.2.2.1, r.2.2.2.1, r.2.2.2.2) = R at *
  generalize decide (1 ≤ r.2.1 ∧ r.2.1 ≤ 8) = d1 at *
  generalize decide (0 ≤ r.2.2.1 ∧ r.2.2.1 ≤ 1048575) = d2 at *
  go_enter Tryz.func43, Tryz.ntmps43
  go_wp2_with fail
  refine (W1.out _).mono ?_
  rintro e w1 ⟨rfl, rfl⟩
  cases d1
  · go_wp2_with fail
    go_ret
    exact ⟨ret_bool (by rw [HV.out]; rfl), HB.out _⟩
  go_wp2_with fail
  refine (W2.out _).mono ?_
  rintro e w2 ⟨rfl, rfl⟩
  cases d2
  · go_wp2_with fail
    go_ret
    exact ⟨ret_bool (by rw [HV.out]; rfl), HB.out _⟩
  generalize hd3 : decide ((r.2.2.2.1.size : Int) ≤ 16) = d3 at *
  generalize hd4 : decide ((r.2.2.2.2.size : Int) ≤ 16) = d4 at *
  cases d3
  · go_wp2_with fail
    go_ret
    exact ⟨ret_bool (by rw [HV.out]; rfl), HB.out _⟩
  cases d4
  · go_wp2_with fail
    go_ret
    exact ⟨ret_bool (by rw [HV.out]; rfl), HB.out _⟩
  go_wp2_with fail
  go_ret
  exact ⟨ret_bool (by rw [HV.out]; rfl), HB.out _⟩
end Go.Proofs.YtckdecodpjfcnaaGreatDoor
