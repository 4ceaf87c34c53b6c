/-
  Layer 19: metalog's reader: how the fields of an entry are read.
  Layer 2, reading: the reader's Flag; New, End, Wrong; readers that are nil.
  Layer 2, the document's reader: Number.
  Words for readings that fill a block of the call's own: a reader whose place is known, in a world that goes on; both readers.
-/
import Derived.Test.YtbpkckahonmpkaaGreatDoorMlFramesProofP09
import Derived.Deep.RegionHeld
import Derived.Deep.RegionHeld3
import Derived.Deep.DrawnRows
import Derived.Handy
set_option linter.unusedVariables false
set_option linter.unusedSimpArgs false
namespace Go.Proofs.YtbpkckahonmpkaaGreatDoor
open Go.RowKit

theorem winL_one {s : ByteArray} {i : Nat} {c : UInt8} (h : (lb s)[i]? = some c) : winL s i 1 = [c] := by
  unfold winL
  obtain ⟨h1, h2⟩ := List.getElem?_eq_some_iff.1 h
  rw [List.drop_eq_getElem_cons h1, h2]; rfl
theorem winL_none {s : ByteArray} {i : Nat} (h : (lb s)[i]? = none) : winL s i 1 = [] := by
  unfold winL
  rw [List.drop_eq_nil_of_le (List.getElem?_eq_none_iff.1 h)]; rfl

set_option maxRecDepth 100000 in
set_option maxHeartbeats 1000000 in
theorem flag1_ok (g bx : Nat) (s : ByteArray) (i : Nat) (c : UInt8) (v0 : Value) (w : World) (h : RdB w g s i false) (hx : Blk w bx 4 #[v0])
    (hs : s.size ≤ 1000000) (hat : i ≤ s.size) (hc : (lb s)[i]? = some c) (hc1 : c.toNat ≤ 1) :
    Calls Tryz.prog 181 #[.pointer (some ⟨g, 0, none⟩), .pointer (some ⟨bx, 0, none⟩)] w fun e w' => e = .returned (.tuple #[]) ∧ OneOk g bx 4 s (i + 1) (.bool (decide (c.toNat = 1))) w w' := by
  have hw := window_any g s i 1 false w h hs hat (by omega)
  rw [winL_one hc] at hw
  have HW := Lib.hid hw
  have hne : ¬ bx = g := fun e => (h.ne_ hx (by decide)) e.symm
  have hne' : ¬ g = bx := fun e => hne e.symm
  have HX := Lib.hid hx
  have H := Lib.hid h
  obtain ⟨m, hm⟩ : ∃ m : Nat, m = c.toNat := ⟨_, rfl⟩
  have e1 : decide ((1 : Int) < (m : Int)) = false := by simp; omega
  have e2 : ((m : Int) == 1) = decide (m = 1) := by rw [Bool.eq_iff_iff]; simp; omega
  have e3 : cellsB [c] = [.int .u8 (m : Int)] := by rw [hm]; rfl
  rw [← hm]
  have E3 := Lib.hid e3
  have v1 : IntKind.i64.wrap ((i : Int) + 1) = (i : Int) + 1 := IntWalk.i64_in _ (by omega)
  clear h hx hw hc hm hc1 e3
  go_enter Tryz.func181, Tryz.ntmps181
  go_wp2_with fail
  refine HW.out.mono ?_
  rintro e w1 ⟨A, cp, rfl, r1, hcp, b1⟩
  rw [E3.out] at r1
  obtain ⟨b, off, rfl, hb, hcell⟩ := r1.plain (by simp)
  have q1 : w1.cell? ⟨b, off, none⟩ = some (.int .u8 (m : Int)) := hcell 0 _ rfl
  have kx := HX.out.below b1 HX.out.lt
  have k1 := H.out.below b1 H.out.lt
  have z1 := kx.cell 0
  have z2 := kx.frozen 0
  have y1 := k1.cell 1
  have y2 := k1.frozen 1
  have KX := Lib.hid kx
  have K1 := Lib.hid k1
  have B1 := Lib.hid b1
  clear r1 hcell kx k1 b1 hcp
  simp only [List.length_singleton]
  go_wp2_with fail
  go_end0
  have K3 := (K1.out.far (p := ⟨bx, 0, none⟩) hne' (.bool (decide (m = 1)))).set_ 1 (.int .i64 ((i : Int) + 1))
  exact ⟨rfl, K3, (KX.out.set_ 0 _).far hne _, (((Only.of_below (fun x => x = g ∨ x = bx) B1.out).set (.inl (.inr rfl)) _).set (.inl (.inl rfl)) _)⟩

set_option maxRecDepth 100000 in
set_option maxHeartbeats 1000000 in
theorem flag1_no (g bx : Nat) (s : ByteArray) (i : Nat) (w : World) (h : RdB w g s i false)
    (hs : s.size ≤ 1000000) (hat : i ≤ s.size) (hno : (lb s)[i]? = none ∨ ∃ c, (lb s)[i]? = some c ∧ 1 < c.toNat) :
    Calls Tryz.prog 181 #[.pointer (some ⟨g, 0, none⟩), .pointer (some ⟨bx, 0, none⟩)] w (StopPost g s w) := by
  have hw := window_any g s i 1 false w h hs hat (by omega)
  have H := Lib.hid h
  rcases hno with hc | ⟨c, hc, hc1⟩
  · rw [winL_none hc] at hw
    have HW := Lib.hid hw
    clear h hw hc
    go_enter Tryz.func181, Tryz.ntmps181
    go_wp2_with fail
    refine HW.out.mono ?_
    rintro e w1 ⟨A, cp, rfl, r1, hcp, b1⟩
    have B1 := Lib.hid b1
    clear r1 hcp b1
    simp only [List.length_nil]
    go_wp2_with fail
    exact ⟨rfl, w, Only.refl _ _, ⟨i, H.out⟩, w1.heap.size, rfl, B1.out.size, by simp, bal B1.out _⟩
  · rw [winL_one hc] at hw
    have HW := Lib.hid hw
    obtain ⟨m, hm⟩ : ∃ m : Nat, m = c.toNat := ⟨_, rfl⟩
    have e1 : decide ((1 : Int) < (m : Int)) = true := by simp; omega
    have e3 : cellsB [c] = [.int .u8 (m : Int)] := by rw [hm]; rfl
    have E3 := Lib.hid e3
    clear h hw hc hm hc1 e3
    go_enter Tryz.func181, Tryz.ntmps181
    go_wp2_with fail
    refine HW.out.mono ?_
    rintro e w1 ⟨A, cp, rfl, r1, hcp, b1⟩
    rw [E3.out] at r1
    obtain ⟨b, off, rfl, hb, hcell⟩ := r1.plain (by simp)
    have q1 : w1.cell? ⟨b, off, none⟩ = some (.int .u8 (m : Int)) := hcell 0 _ rfl
    have B1 := Lib.hid b1
    clear r1 hcp b1 hcell
    simp only [List.length_singleton]
    go_wp2_with fail
    exact ⟨rfl, w, Only.refl _ _, ⟨i, H.out⟩, w1.heap.size, rfl, B1.out.size, by simp, bal B1.out _⟩

theorem cf_flag1 (args : Array Value) (W : World) : (callFunc 181 args).run Tryz.prog W = .ok (.enter 181 args) W := by kernel_rfl

theorem rdFlag_bad (l : List UInt8) (i : Nat) : rdFlag l i true = (false, i, true) := by unfold rdFlag; rw [if_pos rfl]
theorem rdFlag_cases (l : List UInt8) (i : Nat) :
    (∃ c, l[i]? = some c ∧ c.toNat ≤ 1 ∧ rdFlag l i false = (decide (c.toNat = 1), i + 1, false)) ∨
    ((l[i]? = none ∨ ∃ c, l[i]? = some c ∧ 1 < c.toNat) ∧ rdFlag l i false = (false, i, true)) := by
  unfold rdFlag
  simp only [Bool.false_eq_true, if_false]
  cases hd : l[i]? with
  | none => exact .inr ⟨.inl rfl, rfl⟩
  | some c =>
    simp only
    by_cases h0 : c = 0
    · subst h0; exact .inl ⟨0, rfl, by decide, rfl⟩
    · rw [if_neg h0]
      by_cases h1 : c = 1
      · subst h1; exact .inl ⟨1, rfl, by decide, rfl⟩
      · rw [if_neg h1]
        refine .inr ⟨.inr ⟨c, rfl, ?_⟩, rfl⟩
        have a0 : ¬ c.toNat = 0 := fun e => h0 (UInt8.toNat_inj.1 (by rw [e]; rfl))
        have a1 : ¬ c.toNat = 1 := fun e => h1 (UInt8.toNat_inj.1 (by rw [e]; rfl))
        omega

theorem flag_end (g : Nat) (s : ByteArray) (i : Nat) (bad : Bool) (w : World) (h : RdB w g s i bad)
    (hf : ∀ W bx, RdB W g s i bad → Below w.heap.size w W →
      Calls Tryz.prog 134 #[.pointer (some ⟨g, 0, none⟩), .func (.func 181) #[] #[.pointer (some ⟨bx, 0, none⟩)]] W (FieldNo g s i W)) :
    Calls Tryz.prog 180 #[.pointer (some ⟨g, 0, none⟩)] w (RdPost g s (.bool false) i true w) := by
  have hmf : ∀ (fn : Fn) (first cap : Array Value) (w : World), (Instr.makeFunc fn first cap).run Tryz.prog w = .ok (.func fn first cap) w := fun _ _ _ _ => rfl
  have l3 := (Below.refl w.heap.size w).alloc (Nat.le_refl _) (.cells #[.bool false] 4)
  have HF := Lib.hid (hf _ w.heap.size (h.alloc _) l3)
  have L3 := Lib.hid l3
  clear h hf l3
  go_enter Tryz.func180, Tryz.ntmps180
  go_wp2_with fail
  refine HF.out.mono ?_
  rintro e w1 ⟨b, rfl, hb, k1, o1⟩
  have O1 := Lib.hid ((Only.of_below (fun x => x = g) L3.out).trans o1)
  have K1 := Lib.hid k1
  have HB := Lib.hid (is_stop b w1 hb)
  clear hb k1 o1
  go_wp2_with fail
  refine HB.out.mono ?_
  rintro e w2 ⟨rfl, rfl⟩
  go_wp2_with fail
  go_ret
  exact ⟨rfl, K1.out, O1.out⟩

set_option maxHeartbeats 400000 in
theorem RFlag_any (g : Nat) (s : ByteArray) (i : Nat) (bad : Bool) (w : World) (h : RdB w g s i bad) (hs : s.size ≤ 1000000) (hat : i ≤ s.size) :
    Calls Tryz.prog 180 #[.pointer (some ⟨g, 0, none⟩)] w (RdPost g s (.bool (rdFlag (lb s) i bad).1) (rdFlag (lb s) i bad).2.1 (rdFlag (lb s) i bad).2.2 w) := by
  cases bad
  · rcases rdFlag_cases (lb s) i with ⟨c, hc, hc1, he⟩ | ⟨hno, he⟩
    · rw [he]
      have hmf : ∀ (fn : Fn) (first cap : Array Value) (w : World), (Instr.makeFunc fn first cap).run Tryz.prog w = .ok (.func fn first cap) w := fun _ _ _ _ => rfl
      have a1 := blk_new w 4 #[.bool false] rfl
      have l3 := (Below.refl w.heap.size w).alloc (Nat.le_refl _) (.cells #[.bool false] 4)
      have hl := h.lt
      have HF := Lib.hid (field_ok g s i 181 #[.pointer (some ⟨w.heap.size, 0, none⟩)] (fun x => x = g ∨ x = w.heap.size) (OneOk g w.heap.size 4 s (i + 1) (.bool (decide (c.toNat = 1)))) _ (h.alloc _) cf_flag1 (fun W w' hq => hq.2.2) (fun x hx => by simp; omega)
        (fun W hW bW => flag1_ok g _ s i c _ W hW (a1.below bW a1.lt) hs hat hc hc1))
      have L3 := Lib.hid l3
      generalize decide (c.toNat = 1) = y at *
      clear h a1 l3 he hc hc1
      go_enter Tryz.func180, Tryz.ntmps180
      go_wp2_with fail
      refine HF.out.mono ?_
      rintro e w1 ⟨rfl, W, W1, bW, ⟨k1, k2, o1⟩, b1⟩
      simp only [World.size_alloc] at bW b1
      have k3 := k2.below b1 (by omega)
      have k4 := k1.below b1 (by omega)
      have z1 := k3.cell 0
      have O1 := Lib.hid (((((Only.of_below (fun x => x = g) L3.out).then_below (by simpa using bW)).step o1 (fun x hx hs => by omega))).then_b b1 (by omega))
      have K4 := Lib.hid k4
      clear k1 k2 k3 k4 o1 b1 bW
      go_wp2_with fail
      refine (is_nil 70 _).mono ?_
      rintro e w2 ⟨rfl, rfl⟩
      go_wp2_with fail
      go_ret
      exact ⟨rfl, K4.out, O1.out⟩
    · rw [he]
      exact flag_end g s i false w h (fun W bx hW bW => field_no g s i _ _ W hW cf_flag1 (fun W' hW' bW' => flag1_no g bx s i W' hW' hs hat hno))
  · rw [rdFlag_bad]
    exact flag_end g s i true w h (fun W bx hW _ => field_bad g s i _ _ W hW)

/-- Whether a reader is at the end. -/
def endOf (n i : Nat) (bad : Bool) : Int := if bad = true ∨ i ≠ n then 70 else 0
set_option maxRecDepth 100000 in
theorem REnd_any (g : Nat) (s : ByteArray) (i : Nat) (bad : Bool) (w : World) (h : RdB w g s i bad) :
    Calls Tryz.prog 85 #[.pointer (some ⟨g, 0, none⟩)] w fun e w' => e = .returned (.int .i64 (endOf s.size i bad)) ∧ ∃ n, w' = w.drewN n := by
  have x0 := h.cell 0
  have x1 := h.cell 1
  have x2 := h.cell 2
  clear h
  cases bad
  · by_cases hi : i = s.size
    · have he : endOf s.size i false = 0 := by unfold endOf; rw [if_neg (by simp [hi])]
      rw [he]
      subst hi
      clear he
      have e1 : ((s.size : Int) != (s.size : Int)) = false := by simp
      go_enter Tryz.func85, Tryz.ntmps85
      go_wp2_with fail
      go_quiet (fail)
      go_wp2_with fail
      go_ret
      exact ⟨rfl, _, rfl⟩
    · have he : endOf s.size i false = 70 := by unfold endOf; rw [if_pos (.inr hi)]
      rw [he]
      have e1 : ((i : Int) != (s.size : Int)) = true := by rw [bne_iff_ne]; omega
      clear he hi
      go_enter Tryz.func85, Tryz.ntmps85
      go_wp2_with fail
      go_quiet (fail)
      go_wp2_with fail
      go_ret
      exact ⟨rfl, _, rfl⟩
  · have he : endOf s.size i true = 70 := by unfold endOf; rw [if_pos (.inl rfl)]
    rw [he]
    clear he
    go_enter Tryz.func85, Tryz.ntmps85
    go_wp2_with fail
    go_quiet (fail)
    go_wp2_with fail
    go_ret
    exact ⟨rfl, _, rfl⟩

theorem RNew_any (s : ByteArray) (w : World) :
    Calls Tryz.prog 83 #[.string s] w fun e w' => e = .returned (.pointer (some ⟨w.heap.size, 0, none⟩)) ∧ w.alloc (.cells #[.string s, .int .i64 0, .bool false] 164) = w' := by
  go_enter Tryz.func83, Tryz.ntmps83
  go_wp2_with fail
  go_ret
  exact ⟨rfl, rfl⟩
end Go.Proofs.YtbpkckahonmpkaaGreatDoor
namespace Go.Proofs.YtbpkckahonmpkaaGreatDoor
open Go.RowKit

/-- The document's reader in memory. -/
abbrev RdR (w : World) (g : Nat) (s : ByteArray) (i : Nat) (bad : Bool) : Prop := Blk w g 130 #[.string s, .int .i64 (i : Int), .bool bad]
end Go.Proofs.YtbpkckahonmpkaaGreatDoor
namespace Go.Proofs.YtbpkckahonmpkaaGreatDoor
open Go.RowKit

/-- A world that goes on: only block g, of those below B, is turned. -/
def Goes (B g : Nat) (w W : World) : Prop := Only (fun x => x = g) w W ∧ w.heap.size = B ∧ g < B
theorem Goes.refl {g : Nat} {w : World} (h : g < w.heap.size) : Goes w.heap.size g w w := ⟨Only.refl _ _, rfl, h⟩
section
variable {B g : Nat} {w W W' : World}
theorem Goes.only (h : Goes B g w W) (o : Only (fun x => x = g) W W') : Goes B g w W' := ⟨h.1.trans o, h.2⟩
theorem Goes.size (h : Goes B g w W) : B ≤ W.heap.size := by have := h.1.size; have := h.2.1; omega
theorem Goes.below (h : Goes B g w W) (k : Below B W W') : Goes B g w W' := ⟨h.1.then_b k (by have := h.2.1; omega), h.2⟩
theorem Goes.alloc (h : Goes B g w W) (o : Obj) : Goes B g w (W.alloc o) := ⟨h.1.alloc o, h.2⟩
theorem Goes.drew (h : Goes B g w W) : Goes B g w W.drew := ⟨h.1.drew, h.2⟩
theorem Goes.drewN (h : Goes B g w W) (n : Nat) : Goes B g w (W.drewN n) := h.below (below_drewN (Below.refl _ _) n)
theorem Goes.set (h : Goes B g w W) {b o : Nat} (hb : B ≤ b) (u : Value) : Goes B g w (W.setCell ⟨b, o, none⟩ u) := ⟨h.1.set (.inr (by have := h.2.1; omega)) u, h.2⟩
theorem Goes.grown {row : Option Nat} (h : Goes B g w W) (k : W.grownBy W' row) (hr : ∀ x, row = some x → B ≤ x) : Goes B g w W' :=
  ⟨h.1.grown k (fun x hx hl => by have := hr x hx; have := h.2.1; omega), h.2⟩
end

/-- The program's reader, at a place. -/
def RdOk (B : Nat) (W : World) (g : Nat) (s : ByteArray) (i : Nat) (b : Bool) : Prop :=
  RdB W g s i b ∧ i ≤ s.size ∧ HasET W ∧ s.size ≤ 100000 ∧ g < B ∧ 0 < B ∧ B ≤ W.heap.size
/-- The document's reader, at a place. -/
def RrOk (B : Nat) (W : World) (g : Nat) (s : ByteArray) (i : Nat) (b : Bool) : Prop :=
  RdR W g s i b ∧ i ≤ s.size ∧ s.size ≤ 100000 ∧ g < B ∧ B ≤ W.heap.size
section
variable {B g : Nat} {W W' : World} {s : ByteArray} {i : Nat} {b : Bool}
theorem RdOk.below (h : RdOk B W g s i b) (k : Below B W W') : RdOk B W' g s i b :=
  ⟨h.1.below k h.2.2.2.2.1, h.2.1, h.2.2.1.below k h.2.2.2.2.2.1, h.2.2.2.1, h.2.2.2.2.1, h.2.2.2.2.2.1, by have := k.size; have := h.2.2.2.2.2.2; omega⟩
theorem RdOk.alloc (h : RdOk B W g s i b) (o : Obj) : RdOk B (W.alloc o) g s i b := h.below ((Below.refl B W).alloc h.2.2.2.2.2.2 o)
theorem RdOk.drew (h : RdOk B W g s i b) : RdOk B W.drew g s i b := h.below (Below.refl B W).drew
theorem RdOk.drewN (h : RdOk B W g s i b) (n : Nat) : RdOk B (W.drewN n) g s i b := h.below (below_drewN (Below.refl B W) n)
theorem RdOk.set (h : RdOk B W g s i b) {p o : Nat} (hb : B ≤ p) (u : Value) : RdOk B (W.setCell ⟨p, o, none⟩ u) g s i b := h.below ((Below.refl B W).setCell (p := ⟨p, o, none⟩) hb u)
theorem RdOk.grown {row : Option Nat} (h : RdOk B W g s i b) (k : W.grownBy W' row) (hr : ∀ x, row = some x → B ≤ x) : RdOk B W' g s i b := h.below ((Below.refl B W).grown k h.2.2.2.2.2.2 hr)
theorem RdOk.ne (h : RdOk B W g s i b) : ¬ 0 = g := by
  intro e
  have h1 := h.1.cell 0
  have h2 := h.2.2.1
  unfold HasET at h2
  rw [← e] at h1
  rw [h1] at h2
  simp at h2
/-- Behind a reading. -/
theorem RdOk.next {i' : Nat} {b' : Bool} (h : RdOk B W g s i b) (k : RdB W' g s i' b') (o : Only (fun x => x = g) W W') (hi : i' ≤ s.size) : RdOk B W' g s i' b' :=
  ⟨k, hi, (o.cell (p := ⟨0, 0, none⟩) h.2.2.1.lt h.ne).trans h.2.2.1, h.2.2.2.1, h.2.2.2.2.1, h.2.2.2.2.2.1, Nat.le_trans h.2.2.2.2.2.2 o.size⟩
theorem RrOk.below (h : RrOk B W g s i b) (k : Below B W W') : RrOk B W' g s i b :=
  ⟨h.1.below k h.2.2.2.1, h.2.1, h.2.2.1, h.2.2.2.1, by have := k.size; have := h.2.2.2.2; omega⟩
theorem RrOk.alloc (h : RrOk B W g s i b) (o : Obj) : RrOk B (W.alloc o) g s i b := h.below ((Below.refl B W).alloc h.2.2.2.2 o)
theorem RrOk.drew (h : RrOk B W g s i b) : RrOk B W.drew g s i b := h.below (Below.refl B W).drew
theorem RrOk.drewN (h : RrOk B W g s i b) (n : Nat) : RrOk B (W.drewN n) g s i b := h.below (below_drewN (Below.refl B W) n)
theorem RrOk.set (h : RrOk B W g s i b) {p o : Nat} (hb : B ≤ p) (u : Value) : RrOk B (W.setCell ⟨p, o, none⟩ u) g s i b := h.below ((Below.refl B W).setCell (p := ⟨p, o, none⟩) hb u)
theorem RrOk.grown {row : Option Nat} (h : RrOk B W g s i b) (k : W.grownBy W' row) (hr : ∀ x, row = some x → B ≤ x) : RrOk B W' g s i b := h.below ((Below.refl B W).grown k h.2.2.2.2 hr)
theorem RrOk.next {i' : Nat} {b' : Bool} (h : RrOk B W g s i b) (k : RdR W' g s i' b') (o : Only (fun x => x = g) W W') (hi : i' ≤ s.size) : RrOk B W' g s i' b' :=
  ⟨k, hi, h.2.2.1, h.2.2.2.1, Nat.le_trans h.2.2.2.2 o.size⟩
end
def RdZ (B g : Nat) (s : ByteArray) (v : Value) (i : Nat) (b : Bool) (W : World) (e : Ending) (W' : World) : Prop :=
  e = .returned v ∧ RdOk B W' g s i b ∧ Only (fun x => x = g) W W'
section
variable {B g : Nat} {W : World} {s : ByteArray} {i j : Nat} {b b' : Bool}
theorem RNum_z {lo hi v : Int} (hz : rdNum (lb s) i b lo hi = (v, j, b')) (h : RdOk B W g s i b) : Calls Tryz.prog 119 #[.pointer (some ⟨g, 0, none⟩), .int .i64 lo, .int .i64 hi] W (RdZ B g s (.int .i64 v) j b' W) := by
  have hj := rdNum_le (l := lb s) b lo hi (by rw [length_lb]; exact h.2.1)
  have := RNum_any g s i b lo hi W h.1 h.2.2.1 (by have := h.2.2.2.1; omega) h.2.1
  rw [hz] at this hj
  rw [length_lb] at hj
  exact this.mono fun e W' ⟨h1, h2, h3⟩ => ⟨h1, h.next h2 h3 hj, h3⟩
theorem RFlag_z {v : Bool} (hz : rdFlag (lb s) i b = (v, j, b')) (h : RdOk B W g s i b) : Calls Tryz.prog 180 #[.pointer (some ⟨g, 0, none⟩)] W (RdZ B g s (.bool v) j b' W) := by
  have hj := rdFlag_le (l := lb s) b (by rw [length_lb]; exact h.2.1)
  have := RFlag_any g s i b W h.1 (by have := h.2.2.2.1; omega) h.2.1
  rw [hz] at this hj
  rw [length_lb] at hj
  exact this.mono fun e W' ⟨h1, h2, h3⟩ => ⟨h1, h.next h2 h3 hj, h3⟩
end
theorem rdNum_rng {l : List UInt8} {i j : Nat} {b b' : Bool} {lo hi v : Int} (h : rdNum l i b lo hi = (v, j, b')) : v = 0 ∨ (lo ≤ v ∧ v ≤ hi) := by
  unfold rdNum at h
  split at h
  · injection h with h _; exact .inl h.symm
  · split at h
    · split at h
      · rename_i hr
        injection h with h _; subst h; exact .inr hr
      · injection h with h _; exact .inl h.symm
    · injection h with h _; exact .inl h.symm
/-- A reading function at work: the reader; the block of its result (the first that it makes); the block that it fills. -/
def TkW (w : World) (g bb : Nat) (s : ByteArray) (T : TypeId) (rz : Array Value) (i : Nat) (b : Bool) (cs : Array Value) (W : World) : Prop :=
  RdOk w.heap.size W g s i b ∧ Goes w.heap.size g w W ∧ Blk W w.heap.size T rz ∧ Blk W bb T cs ∧ w.heap.size < bb
section
variable {w W W' : World} {g bb : Nat} {s : ByteArray} {T : TypeId} {rz cs : Array Value} {i j : Nat} {b b' : Bool}
theorem TkW.ok (h : TkW w g bb s T rz i b cs W) : RdOk w.heap.size W g s i b := h.1
theorem TkW.ne (h : TkW w g bb s T rz i b cs W) : ¬ bb = g ∧ ¬ w.heap.size = g := by have := h.2.1.2.2; have := h.2.2.2.2; omega
theorem TkW.next (h : TkW w g bb s T rz i b cs W) (k : RdOk w.heap.size W' g s j b') (o : Only (fun x => x = g) W W') : TkW w g bb s T rz j b' cs W' :=
  ⟨k, h.2.1.only o, o.blk h.2.2.1 h.ne.2, o.blk h.2.2.2.1 h.ne.1, h.2.2.2.2⟩
theorem TkW.set (h : TkW w g bb s T rz i b cs W) (o : Nat) (u : Value) : TkW w g bb s T rz i b (cs.setIfInBounds o u) (W.setCell ⟨bb, o, none⟩ u) :=
  ⟨h.1.set (Nat.le_of_lt h.2.2.2.2) u, h.2.1.set (Nat.le_of_lt h.2.2.2.2) u, h.2.2.1.far (p := ⟨bb, o, none⟩) (Nat.ne_of_lt h.2.2.2.2) u, h.2.2.2.1.set_ o u, h.2.2.2.2⟩
theorem TkW.alloc (h : TkW w g bb s T rz i b cs W) (o : Obj) : TkW w g bb s T rz i b cs (W.alloc o) := ⟨h.1.alloc o, h.2.1.alloc o, h.2.2.1.alloc o, h.2.2.2.1.alloc o, h.2.2.2.2⟩
theorem TkW.drew (h : TkW w g bb s T rz i b cs W) : TkW w g bb s T rz i b cs W.drew := ⟨h.1.drew, h.2.1.drew, h.2.2.1.drew, h.2.2.2.1.drew, h.2.2.2.2⟩
theorem TkW.grown {row : Option Nat} (h : TkW w g bb s T rz i b cs W) (k : W.grownBy W' row) (hr : ∀ x, row = some x → w.heap.size < x ∧ x ≠ bb) : TkW w g bb s T rz i b cs W' :=
  ⟨h.1.grown k (fun x hx => Nat.le_of_lt (hr x hx).1), h.2.1.grown k (fun x hx => Nat.le_of_lt (hr x hx).1), h.2.2.1.grown k (fun e => by have := (hr _ e.symm).1; omega), h.2.2.2.1.grown k (fun e => (hr _ e.symm).2 rfl), h.2.2.2.2⟩
theorem TkW.below (h : TkW w g bb s T rz i b cs W) (k : Below W.heap.size W W') : TkW w g bb s T rz i b cs W' :=
  ⟨h.1.below (k.mono h.2.1.size), h.2.1.below (k.mono h.2.1.size), h.2.2.1.below k h.2.2.1.lt, h.2.2.2.1.below k h.2.2.2.1.lt, h.2.2.2.2⟩
end
/-- Likewise: the document's reader; the block of its result (the first that it makes); the block that it fills. -/
def TrW (w : World) (g bb : Nat) (s : ByteArray) (T : TypeId) (rz : Array Value) (i : Nat) (b : Bool) (cs : Array Value) (W : World) : Prop :=
  RrOk w.heap.size W g s i b ∧ Goes w.heap.size g w W ∧ Blk W w.heap.size T rz ∧ Blk W bb T cs ∧ w.heap.size < bb
section
variable {w W W' : World} {g bb : Nat} {s : ByteArray} {T : TypeId} {rz cs : Array Value} {i j : Nat} {b b' : Bool}
theorem TrW.ok (h : TrW w g bb s T rz i b cs W) : RrOk w.heap.size W g s i b := h.1
theorem TrW.ne (h : TrW w g bb s T rz i b cs W) : ¬ bb = g ∧ ¬ w.heap.size = g := by have := h.2.1.2.2; have := h.2.2.2.2; omega
theorem TrW.next (h : TrW w g bb s T rz i b cs W) (k : RrOk w.heap.size W' g s j b') (o : Only (fun x => x = g) W W') : TrW w g bb s T rz j b' cs W' :=
  ⟨k, h.2.1.only o, o.blk h.2.2.1 h.ne.2, o.blk h.2.2.2.1 h.ne.1, h.2.2.2.2⟩
theorem TrW.set (h : TrW w g bb s T rz i b cs W) (o : Nat) (u : Value) : TrW w g bb s T rz i b (cs.setIfInBounds o u) (W.setCell ⟨bb, o, none⟩ u) :=
  ⟨h.1.set (Nat.le_of_lt h.2.2.2.2) u, h.2.1.set (Nat.le_of_lt h.2.2.2.2) u, h.2.2.1.far (p := ⟨bb, o, none⟩) (Nat.ne_of_lt h.2.2.2.2) u, h.2.2.2.1.set_ o u, h.2.2.2.2⟩
theorem TrW.alloc (h : TrW w g bb s T rz i b cs W) (o : Obj) : TrW w g bb s T rz i b cs (W.alloc o) := ⟨h.1.alloc o, h.2.1.alloc o, h.2.2.1.alloc o, h.2.2.2.1.alloc o, h.2.2.2.2⟩
theorem TrW.drew (h : TrW w g bb s T rz i b cs W) : TrW w g bb s T rz i b cs W.drew := ⟨h.1.drew, h.2.1.drew, h.2.2.1.drew, h.2.2.2.1.drew, h.2.2.2.2⟩
theorem TrW.grown {row : Option Nat} (h : TrW w g bb s T rz i b cs W) (k : W.grownBy W' row) (hr : ∀ x, row = some x → w.heap.size < x ∧ x ≠ bb) : TrW w g bb s T rz i b cs W' :=
  ⟨h.1.grown k (fun x hx => Nat.le_of_lt (hr x hx).1), h.2.1.grown k (fun x hx => Nat.le_of_lt (hr x hx).1), h.2.2.1.grown k (fun e => by have := (hr _ e.symm).1; omega), h.2.2.2.1.grown k (fun e => (hr _ e.symm).2 rfl), h.2.2.2.2⟩
theorem TrW.below (h : TrW w g bb s T rz i b cs W) (k : Below W.heap.size W W') : TrW w g bb s T rz i b cs W' :=
  ⟨h.1.below (k.mono h.2.1.size), h.2.1.below (k.mono h.2.1.size), h.2.2.1.below k h.2.2.1.lt, h.2.2.2.1.below k h.2.2.2.1.lt, h.2.2.2.2⟩
end
end Go.Proofs.YtbpkckahonmpkaaGreatDoor
namespace Go.Proofs.YtbpkckahonmpkaaGreatDoor
open Go.RowKit
/-- The program's reader, in the world as it is. -/
abbrev ROk (W : World) (g : Nat) (s : ByteArray) (i : Nat) (b : Bool) : Prop := RdOk W.heap.size W g s i b
section
variable {B g i j : Nat} {W W' : World} {s : ByteArray} {b b' : Bool}
theorem rdok_up (h : RdOk B W g s i b) : ROk W g s i b := ⟨h.1, h.2.1, h.2.2.1, h.2.2.2.1, by have := h.2.2.2.2.1; have := h.2.2.2.2.2.2; omega, by have := h.2.2.2.2.2.1; have := h.2.2.2.2.2.2; omega, Nat.le_refl _⟩
theorem rok_below (h : ROk W g s i b) (k : Below W.heap.size W W') : ROk W' g s i b := rdok_up (RdOk.below h k)
theorem rok_alloc (h : ROk W g s i b) (o : Obj) : ROk (W.alloc o) g s i b := rdok_up (RdOk.alloc h o)
theorem rok_far (h : ROk W g s i b) {p : Nat} (hp : p ≠ g) (he : p ≠ 0) (o : Nat) (u : Value) : ROk (W.setCell ⟨p, o, none⟩ u) g s i b := by
  have ho : Only (fun x => x = p) W (W.setCell ⟨p, o, none⟩ u) := (Only.refl (fun x => x = p) W).set (.inl rfl) u
  have hs := ho.size
  refine ⟨h.1.far (p := ⟨p, o, none⟩) (Ne.symm hp) u, h.2.1, (ho.cell (p := ⟨0, 0, none⟩) h.2.2.2.2.2.1 (Ne.symm he)).trans h.2.2.1, h.2.2.2.1, ?_, ?_, Nat.le_refl _⟩
  · exact Nat.lt_of_lt_of_le h.2.2.2.2.1 hs
  · exact Nat.lt_of_lt_of_le h.2.2.2.2.2.1 hs
end
/-- Behind a reading into a block. -/
def RmE (g b : Nat) (t : TypeId) (cs : Array Value) (s : ByteArray) (j : Nat) (b' : Bool) (w : World) (e : Ending) (w' : World) : Prop :=
  e = .returned (.tuple #[]) ∧ ROk w' g s j b' ∧ Blk w' b t cs ∧ Only (fun x => x = g ∨ x = b) w w'
set_option maxRecDepth 100000 in
set_option maxHeartbeats 2000000 in
theorem rmnum (g b o : Nat) (t : TypeId) (cs : Array Value) (s : ByteArray) (i j : Nat) (bad b' : Bool) (lo hi v : Int) (w : World) (h : ROk w g s i bad) (hb : Blk w b t cs) (ho : o < cs.size) (hbg : b ≠ g) (hbe : b ≠ 0) (hz : rdNum (lb s) i bad lo hi = (v, j, b')) :
    Calls Tryz.prog 84 #[.agg #[.pointer (some ⟨g, 0, none⟩)], .pointer (some ⟨b, o, none⟩), .int .i64 lo, .int .i64 hi] w (RmE g b t (cs.setIfInBounds o (.int .i64 v)) s j b' w) := by
  obtain ⟨W0, hW0⟩ : ∃ W0, W0 = w.alloc (.cells #[.pointer (some ⟨g, 0, none⟩)] 128) := ⟨_, rfl⟩
  have KR : Blk W0 w.heap.size 128 #[.pointer (some ⟨g, 0, none⟩)] := by rw [hW0]; exact Blk.new w 128 _
  have x0 := KR.cell 0
  have HO := Lib.hid (show Only (fun x => x = g) w W0 by rw [hW0]; exact (Only.refl _ _).alloc _)
  have r0 : ROk W0 g s i bad := by rw [hW0]; exact rok_alloc h _
  have NM := Lib.hid (RNum_z hz r0)
  have KB := Lib.hid (show Blk W0 b t cs by rw [hW0]; exact hb.alloc _)
  have HW := Lib.hid hW0
  have HH := Lib.hid (And.intro ho (And.intro hbg hbe))
  clear hW0 KR r0 h hb ho hbg hbe hz
  go_enter Tryz.func84, Tryz.ntmps84
  go_upto_region 1 with (fail)
  rw [← HW.out]
  go_wp2_with fail
  refine NM.out.mono ?_
  rintro e w1 ⟨rfl, r1, o1⟩
  have k1 := o1.blk KB.out HH.out.2.1
  have y0 : w1.cell? ⟨b, o, none⟩ = some (cs[o]'HH.out.1) := by rw [k1.cell o, Array.getElem?_eq_getElem HH.out.1]
  have y1 := k1.frozen o
  have R := Lib.hid (show RmE g b t (cs.setIfInBounds o (.int .i64 v)) s j b' w (.returned (.tuple #[])) (w1.setCell ⟨b, o, none⟩ (.int .i64 v)) from ⟨rfl, rok_far (rdok_up r1) HH.out.2.1 HH.out.2.2 o _, k1.set_ o _, ((HO.out.trans o1).mono (fun x _ hx => .inl hx)).set (.inl (.inr rfl)) _⟩)
  clear k1 r1 o1
  go_wp2_with fail
  go_end0
  exact R.out
set_option maxRecDepth 100000 in
set_option maxHeartbeats 2000000 in
theorem rmflag (g b o : Nat) (t : TypeId) (cs : Array Value) (s : ByteArray) (i j : Nat) (bad b' v : Bool) (w : World) (h : ROk w g s i bad) (hb : Blk w b t cs) (ho : o < cs.size) (hbg : b ≠ g) (hbe : b ≠ 0) (hz : rdFlag (lb s) i bad = (v, j, b')) :
    Calls Tryz.prog 179 #[.agg #[.pointer (some ⟨g, 0, none⟩)], .pointer (some ⟨b, o, none⟩)] w (RmE g b t (cs.setIfInBounds o (.bool v)) s j b' w) := by
  obtain ⟨W0, hW0⟩ : ∃ W0, W0 = w.alloc (.cells #[.pointer (some ⟨g, 0, none⟩)] 128) := ⟨_, rfl⟩
  have KR : Blk W0 w.heap.size 128 #[.pointer (some ⟨g, 0, none⟩)] := by rw [hW0]; exact Blk.new w 128 _
  have x0 := KR.cell 0
  have HO := Lib.hid (show Only (fun x => x = g) w W0 by rw [hW0]; exact (Only.refl _ _).alloc _)
  have r0 : ROk W0 g s i bad := by rw [hW0]; exact rok_alloc h _
  have NM := Lib.hid (RFlag_z hz r0)
  have KB := Lib.hid (show Blk W0 b t cs by rw [hW0]; exact hb.alloc _)
  have HW := Lib.hid hW0
  have HH := Lib.hid (And.intro ho (And.intro hbg hbe))
  clear hW0 KR r0 h hb ho hbg hbe hz
  go_enter Tryz.func179, Tryz.ntmps179
  go_upto_region 1 with (fail)
  rw [← HW.out]
  go_wp2_with fail
  refine NM.out.mono ?_
  rintro e w1 ⟨rfl, r1, o1⟩
  have k1 := o1.blk KB.out HH.out.2.1
  have y0 : w1.cell? ⟨b, o, none⟩ = some (cs[o]'HH.out.1) := by rw [k1.cell o, Array.getElem?_eq_getElem HH.out.1]
  have y1 := k1.frozen o
  have R := Lib.hid (show RmE g b t (cs.setIfInBounds o (.bool v)) s j b' w (.returned (.tuple #[])) (w1.setCell ⟨b, o, none⟩ (.bool v)) from ⟨rfl, rok_far (rdok_up r1) HH.out.2.1 HH.out.2.2 o _, k1.set_ o _, ((HO.out.trans o1).mono (fun x _ hx => .inl hx)).set (.inl (.inr rfl)) _⟩)
  clear k1 r1 o1
  go_wp2_with fail
  go_end0
  exact R.out
set_option maxRecDepth 100000 in
set_option maxHeartbeats 2000000 in
theorem rmpend (g b o : Nat) (t : TypeId) (u : Value) (cs : Array Value) (s : ByteArray) (i j1 j2 j3 : Nat) (bad b1 b2 b3 : Bool) (v1 v2 v3 : Int) (w : World) (h : ROk w g s i bad) (hb : Blk w b t cs) (ho : o + 2 < cs.size) (hbg : b ≠ g) (hbe : b ≠ 0)
    (hz1 : rdNum (lb s) i bad 0 1 = (v1, j1, b1)) (hz2 : rdNum (lb s) j1 b1 0 2 = (v2, j2, b2)) (hz3 : rdNum (lb s) j2 b2 0 1048576 = (v3, j3, b3)) :
    Calls Tryz.prog 127 #[.agg #[.iface 128 (.agg #[.pointer (some ⟨g, 0, none⟩)]), u], .pointer (some ⟨b, o, none⟩)] w (RmE g b t (((cs.setIfInBounds o (.int .i64 v1)).setIfInBounds (o + 1) (.int .i64 v2)).setIfInBounds (o + 2) (.int .i64 v3)) s j3 b3 w) := by
  obtain ⟨W0, hW0⟩ : ∃ W0, W0 = w.alloc (.cells #[.iface 128 (.agg #[.pointer (some ⟨g, 0, none⟩)]), u] 114) := ⟨_, rfl⟩
  have KF0 := Lib.hid (show Blk W0 w.heap.size 114 #[.iface 128 (.agg #[.pointer (some ⟨g, 0, none⟩)]), u] by rw [hW0]; exact Blk.new w 114 _)
  have HS0 := Lib.hid (show ROk W0 g s i bad by rw [hW0]; exact rok_alloc h _)
  have KE0 := Lib.hid (show Blk W0 b t cs by rw [hW0]; exact hb.alloc _)
  have HO0 := Lib.hid (show Only (fun x => x = g ∨ x = b) w W0 by rw [hW0]; exact (Only.refl _ _).alloc _)
  have HBG := Lib.hid (And.intro hbg hbe)
  have HOB := Lib.hid ho
  have HW := Lib.hid hW0
  have HFG := Lib.hid (show w.heap.size ≠ g ∧ w.heap.size ≠ b by have := h.2.2.2.2.1; have := hb.lt; omega)
  have HZ1 := Lib.hid hz1
  have HZ2 := Lib.hid hz2
  have HZ3 := Lib.hid hz3
  clear hW0 h hb ho hbg hbe hz1 hz2 hz3
  go_enter Tryz.func127, Tryz.ntmps127
  go_upto_region 1 with (fail)
  rw [← HW.out]
  have xf0 : W0.drew.cell? ⟨w.heap.size, 0, none⟩ = some (.iface 128 (.agg #[.pointer (some ⟨g, 0, none⟩)])) := KF0.out.drew.cell 0
  have NM := Lib.hid (rmnum g b o t cs s i j1 bad b1 0 1 v1 W0.drew (RdOk.drew HS0.out) KE0.out.drew (by have := HOB.out; (try simp only [Array.size_setIfInBounds]); omega) HBG.out.1 HBG.out.2 HZ1.out)
  go_wp2_with fail
  refine wp_region_qtail 7 (by kernel_rfl) (by kernel_rfl) ?_
  simp only [List.take_succ_cons, List.take_zero, List.drop_succ_cons, List.drop_zero]
  repeat (go_big_quiet_step (fail))
  refine wpQuiet_nil ?_
  go_wp2_with fail
  refine NM.out.mono ?_
  rintro e w1 ⟨rfl, hs, hk, ho⟩
  have HS1 := Lib.hid hs
  have KE1 := Lib.hid hk
  have KF1 := Lib.hid (ho.blk KF0.out.drew (fun x => x.elim HFG.out.1 HFG.out.2))
  have HO1 := Lib.hid (HO0.out.drew.trans ho)
  clear hs hk ho xf0 NM
  have xf0 : w1.drew.cell? ⟨w.heap.size, 0, none⟩ = some (.iface 128 (.agg #[.pointer (some ⟨g, 0, none⟩)])) := KF1.out.drew.cell 0
  have NM := Lib.hid (rmnum g b (o + 1) t (cs.setIfInBounds o (.int .i64 v1)) s j1 j2 b1 b2 0 2 v2 w1.drew (RdOk.drew HS1.out) KE1.out.drew (by have := HOB.out; (try simp only [Array.size_setIfInBounds]); omega) HBG.out.1 HBG.out.2 HZ2.out)
  go_wp2_with fail
  refine wp_region_qtail 7 (by kernel_rfl) (by kernel_rfl) ?_
  simp only [List.take_succ_cons, List.take_zero, List.drop_succ_cons, List.drop_zero]
  repeat (go_big_quiet_step (fail))
  refine wpQuiet_nil ?_
  go_wp2_with fail
  refine NM.out.mono ?_
  rintro e w2 ⟨rfl, hs, hk, ho⟩
  have HS2 := Lib.hid hs
  have KE2 := Lib.hid hk
  have KF2 := Lib.hid (ho.blk KF1.out.drew (fun x => x.elim HFG.out.1 HFG.out.2))
  have HO2 := Lib.hid (HO1.out.drew.trans ho)
  clear hs hk ho xf0 NM
  have xf0 : w2.drew.cell? ⟨w.heap.size, 0, none⟩ = some (.iface 128 (.agg #[.pointer (some ⟨g, 0, none⟩)])) := KF2.out.drew.cell 0
  have NM := Lib.hid (rmnum g b (o + 2) t ((cs.setIfInBounds o (.int .i64 v1)).setIfInBounds (o + 1) (.int .i64 v2)) s j2 j3 b2 b3 0 1048576 v3 w2.drew (RdOk.drew HS2.out) KE2.out.drew (by have := HOB.out; (try simp only [Array.size_setIfInBounds]); omega) HBG.out.1 HBG.out.2 HZ3.out)
  go_wp2_with fail
  refine wp_region_qtail 7 (by kernel_rfl) (by kernel_rfl) ?_
  simp only [List.take_succ_cons, List.take_zero, List.drop_succ_cons, List.drop_zero]
  repeat (go_big_quiet_step (fail))
  refine wpQuiet_nil ?_
  go_wp2_with fail
  refine NM.out.mono ?_
  rintro e w3 ⟨rfl, hs, hk, ho⟩
  have HS3 := Lib.hid hs
  have KE3 := Lib.hid hk
  have KF3 := Lib.hid (ho.blk KF2.out.drew (fun x => x.elim HFG.out.1 HFG.out.2))
  have HO3 := Lib.hid (HO2.out.drew.trans ho)
  clear hs hk ho xf0 NM
  go_wp2_with fail
  go_end0
  exact ⟨rfl, HS3.out, KE3.out, HO3.out⟩
set_option maxRecDepth 100000 in
set_option maxHeartbeats 2000000 in
theorem rmtid (g b : Nat) (m : Mt) (A D : Option Addr) (c e : Nat) (s : ByteArray) (i : Nat) (bad : Bool) {v1 : Int} {j1 : Nat} {b1 : Bool} (hz1 : rdNum (lb s) i bad 0 2 = (v1, j1, b1))  (w : World) (h : ROk w g s i bad) (hE : Blk w b 42 (mtX m A D c e)) (hbg : b ≠ g) (hbe : b ≠ 0) :
    Calls Tryz.prog 102 #[.agg #[.iface 128 (.agg #[.pointer (some ⟨g, 0, none⟩)]), .pointer (some ⟨b, 0, none⟩)]] w (RmE g b 42 (mtX { m with tid := v1 } A D c e) s j1 b1 w) := by
  obtain ⟨W0, hW0⟩ : ∃ W0, W0 = w.alloc (.cells #[.iface 128 (.agg #[.pointer (some ⟨g, 0, none⟩)]), .pointer (some ⟨b, 0, none⟩)] 114) := ⟨_, rfl⟩
  have KF0 := Lib.hid (show Blk W0 w.heap.size 114 #[.iface 128 (.agg #[.pointer (some ⟨g, 0, none⟩)]), .pointer (some ⟨b, 0, none⟩)] by rw [hW0]; exact Blk.new w 114 #[.iface 128 (.agg #[.pointer (some ⟨g, 0, none⟩)]), .pointer (some ⟨b, 0, none⟩)])
  have HS0 := Lib.hid (show ROk W0 g s i bad by rw [hW0]; exact rok_alloc h _)
  have KE0 := Lib.hid (show Blk W0 b 42 (mtX m A D c e) by rw [hW0]; exact hE.alloc _)
  have HO0 := Lib.hid (show Only (fun x => x = g ∨ x = b) w W0 by rw [hW0]; exact (Only.refl _ _).alloc _)
  have HBG := Lib.hid (And.intro hbg hbe)
  have HW := Lib.hid hW0
  have HFG := Lib.hid (show w.heap.size ≠ g ∧ w.heap.size ≠ b by have := h.2.2.2.2.1; have := hE.lt; omega)
  have HZ1 := Lib.hid hz1
  clear hW0 h hE hbg hbe hz1
  go_enter Tryz.func102, Tryz.ntmps102
  go_upto_region 1 with (fail)
  rw [← HW.out]
  have xf0 : W0.drew.cell? ⟨w.heap.size, 0, none⟩ = some (.iface 128 (.agg #[.pointer (some ⟨g, 0, none⟩)])) := KF0.out.drew.cell 0
  have xf1 : W0.drew.cell? ⟨w.heap.size, 1, none⟩ = some (.pointer (some ⟨b, 0, none⟩)) := KF0.out.drew.cell 1
  have NM := Lib.hid (rmnum g b 1 42 (mtX m A D c e) s i j1 bad b1 0 2 v1 W0.drew (RdOk.drew HS0.out) KE0.out.drew (by rw [mtX_size]; decide) HBG.out.1 HBG.out.2 HZ1.out)
  go_wp2_with fail
  refine wp_region_qtail 8 (by kernel_rfl) (by kernel_rfl) ?_
  simp only [List.take_succ_cons, List.take_zero, List.drop_succ_cons, List.drop_zero]
  repeat (go_big_quiet_step (fail))
  refine wpQuiet_nil ?_
  go_wp2_with fail
  refine NM.out.mono ?_
  rintro e w1 ⟨rfl, hs, hk, ho⟩
  have HS1 := Lib.hid hs
  have KE1 := Lib.hid (show Blk w1 b 42 (mtX { m with tid := v1 } A D c e) from hk)
  have KF1 := Lib.hid (ho.blk KF0.out.drew (fun x => x.elim HFG.out.1 HFG.out.2))
  have HO1 := Lib.hid (HO0.out.drew.trans ho)
  clear hs hk ho xf0 xf1 NM
  go_wp2_with fail
  go_end0
  exact ⟨rfl, HS1.out, KE1.out, HO1.out⟩
set_option maxRecDepth 100000 in
set_option maxHeartbeats 2000000 in
theorem rmbegin (g b : Nat) (m : Mt) (A D : Option Addr) (c e : Nat) (s : ByteArray) (i : Nat) (bad : Bool) {v1 : Int} {j1 : Nat} {b1 : Bool} (hz1 : rdNum (lb s) i bad 0 2 = (v1, j1, b1)) {v2 : Int} {j2 : Nat} {b2 : Bool} (hz2 : rdNum (lb s) j1 b1 1 20 = (v2, j2, b2))  (w : World) (h : ROk w g s i bad) (hE : Blk w b 42 (mtX m A D c e)) (hbg : b ≠ g) (hbe : b ≠ 0) :
    Calls Tryz.prog 99 #[.agg #[.iface 128 (.agg #[.pointer (some ⟨g, 0, none⟩)]), .pointer (some ⟨b, 0, none⟩)]] w (RmE g b 42 (mtX { m with tid := v1, tm := v2 } A D c e) s j2 b2 w) := by
  obtain ⟨W0, hW0⟩ : ∃ W0, W0 = w.alloc (.cells #[.iface 128 (.agg #[.pointer (some ⟨g, 0, none⟩)]), .pointer (some ⟨b, 0, none⟩)] 114) := ⟨_, rfl⟩
  have KF0 := Lib.hid (show Blk W0 w.heap.size 114 #[.iface 128 (.agg #[.pointer (some ⟨g, 0, none⟩)]), .pointer (some ⟨b, 0, none⟩)] by rw [hW0]; exact Blk.new w 114 #[.iface 128 (.agg #[.pointer (some ⟨g, 0, none⟩)]), .pointer (some ⟨b, 0, none⟩)])
  have HS0 := Lib.hid (show ROk W0 g s i bad by rw [hW0]; exact rok_alloc h _)
  have KE0 := Lib.hid (show Blk W0 b 42 (mtX m A D c e) by rw [hW0]; exact hE.alloc _)
  have HO0 := Lib.hid (show Only (fun x => x = g ∨ x = b) w W0 by rw [hW0]; exact (Only.refl _ _).alloc _)
  have HBG := Lib.hid (And.intro hbg hbe)
  have HW := Lib.hid hW0
  have HFG := Lib.hid (show w.heap.size ≠ g ∧ w.heap.size ≠ b by have := h.2.2.2.2.1; have := hE.lt; omega)
  have HZ1 := Lib.hid hz1
  have HZ2 := Lib.hid hz2
  clear hW0 h hE hbg hbe hz1 hz2
  go_enter Tryz.func99, Tryz.ntmps99
  go_upto_region 1 with (fail)
  rw [← HW.out]
  have xf0 : W0.cell? ⟨w.heap.size, 0, none⟩ = some (.iface 128 (.agg #[.pointer (some ⟨g, 0, none⟩)])) := KF0.out.cell 0
  have xf1 : W0.cell? ⟨w.heap.size, 1, none⟩ = some (.pointer (some ⟨b, 0, none⟩)) := KF0.out.cell 1
  have NM := Lib.hid (rmtid g b m A D c e s i bad HZ1.out W0 HS0.out KE0.out HBG.out.1 HBG.out.2)
  go_wp2_with fail
  refine NM.out.mono ?_
  rintro e w1 ⟨rfl, hs, hk, ho⟩
  have HS1 := Lib.hid hs
  have KE1 := Lib.hid (show Blk w1 b 42 (mtX { m with tid := v1 } A D c e) from hk)
  have KF1 := Lib.hid (ho.blk KF0.out (fun x => x.elim HFG.out.1 HFG.out.2))
  have HO1 := Lib.hid (HO0.out.trans ho)
  clear hs hk ho xf0 xf1 NM
  have xf0 : w1.drew.cell? ⟨w.heap.size, 0, none⟩ = some (.iface 128 (.agg #[.pointer (some ⟨g, 0, none⟩)])) := KF1.out.drew.cell 0
  have xf1 : w1.drew.cell? ⟨w.heap.size, 1, none⟩ = some (.pointer (some ⟨b, 0, none⟩)) := KF1.out.drew.cell 1
  have NM := Lib.hid (rmnum g b 2 42 (mtX { m with tid := v1 } A D c e) s j1 j2 b1 b2 1 20 v2 w1.drew (RdOk.drew HS1.out) KE1.out.drew (by rw [mtX_size]; decide) HBG.out.1 HBG.out.2 HZ2.out)
  go_wp2_with fail
  refine wp_region_qtail 8 (by kernel_rfl) (by kernel_rfl) ?_
  simp only [List.take_succ_cons, List.take_zero, List.drop_succ_cons, List.drop_zero]
  repeat (go_big_quiet_step (fail))
  refine wpQuiet_nil ?_
  go_wp2_with fail
  refine NM.out.mono ?_
  rintro e w2 ⟨rfl, hs, hk, ho⟩
  have HS2 := Lib.hid hs
  have KE2 := Lib.hid (show Blk w2 b 42 (mtX { m with tid := v1, tm := v2 } A D c e) from hk)
  have KF2 := Lib.hid (ho.blk KF1.out.drew (fun x => x.elim HFG.out.1 HFG.out.2))
  have HO2 := Lib.hid (HO1.out.drew.trans ho)
  clear hs hk ho xf0 xf1 NM
  go_wp2_with fail
  go_end0
  exact ⟨rfl, HS2.out, KE2.out, HO2.out⟩
set_option maxRecDepth 100000 in
set_option maxHeartbeats 2000000 in
theorem rmnext (g b : Nat) (m : Mt) (A D : Option Addr) (c e : Nat) (s : ByteArray) (i : Nat) (bad : Bool) {v1 : Int} {j1 : Nat} {b1 : Bool} (hz1 : rdNum (lb s) i bad 0 8 = (v1, j1, b1))  (w : World) (h : ROk w g s i bad) (hE : Blk w b 42 (mtX m A D c e)) (hbg : b ≠ g) (hbe : b ≠ 0) :
    Calls Tryz.prog 105 #[.agg #[.iface 128 (.agg #[.pointer (some ⟨g, 0, none⟩)]), .pointer (some ⟨b, 0, none⟩)]] w (RmE g b 42 (mtX { m with nx := v1 } A D c e) s j1 b1 w) := by
  obtain ⟨W0, hW0⟩ : ∃ W0, W0 = w.alloc (.cells #[.iface 128 (.agg #[.pointer (some ⟨g, 0, none⟩)]), .pointer (some ⟨b, 0, none⟩)] 114) := ⟨_, rfl⟩
  have KF0 := Lib.hid (show Blk W0 w.heap.size 114 #[.iface 128 (.agg #[.pointer (some ⟨g, 0, none⟩)]), .pointer (some ⟨b, 0, none⟩)] by rw [hW0]; exact Blk.new w 114 #[.iface 128 (.agg #[.pointer (some ⟨g, 0, none⟩)]), .pointer (some ⟨b, 0, none⟩)])
  have HS0 := Lib.hid (show ROk W0 g s i bad by rw [hW0]; exact rok_alloc h _)
  have KE0 := Lib.hid (show Blk W0 b 42 (mtX m A D c e) by rw [hW0]; exact hE.alloc _)
  have HO0 := Lib.hid (show Only (fun x => x = g ∨ x = b) w W0 by rw [hW0]; exact (Only.refl _ _).alloc _)
  have HBG := Lib.hid (And.intro hbg hbe)
  have HW := Lib.hid hW0
  have HFG := Lib.hid (show w.heap.size ≠ g ∧ w.heap.size ≠ b by have := h.2.2.2.2.1; have := hE.lt; omega)
  have HZ1 := Lib.hid hz1
  clear hW0 h hE hbg hbe hz1
  go_enter Tryz.func105, Tryz.ntmps105
  go_upto_region 1 with (fail)
  rw [← HW.out]
  have xf0 : W0.drew.cell? ⟨w.heap.size, 0, none⟩ = some (.iface 128 (.agg #[.pointer (some ⟨g, 0, none⟩)])) := KF0.out.drew.cell 0
  have xf1 : W0.drew.cell? ⟨w.heap.size, 1, none⟩ = some (.pointer (some ⟨b, 0, none⟩)) := KF0.out.drew.cell 1
  have NM := Lib.hid (rmnum g b 16 42 (mtX m A D c e) s i j1 bad b1 0 8 v1 W0.drew (RdOk.drew HS0.out) KE0.out.drew (by rw [mtX_size]; decide) HBG.out.1 HBG.out.2 HZ1.out)
  go_wp2_with fail
  refine wp_region_qtail 8 (by kernel_rfl) (by kernel_rfl) ?_
  simp only [List.take_succ_cons, List.take_zero, List.drop_succ_cons, List.drop_zero]
  repeat (go_big_quiet_step (fail))
  refine wpQuiet_nil ?_
  go_wp2_with fail
  refine NM.out.mono ?_
  rintro e w1 ⟨rfl, hs, hk, ho⟩
  have HS1 := Lib.hid hs
  have KE1 := Lib.hid (show Blk w1 b 42 (mtX { m with nx := v1 } A D c e) from hk)
  have KF1 := Lib.hid (ho.blk KF0.out.drew (fun x => x.elim HFG.out.1 HFG.out.2))
  have HO1 := Lib.hid (HO0.out.drew.trans ho)
  clear hs hk ho xf0 xf1 NM
  go_wp2_with fail
  go_end0
  exact ⟨rfl, HS1.out, KE1.out, HO1.out⟩
set_option maxRecDepth 100000 in
set_option maxHeartbeats 2000000 in
theorem rmprep (g b : Nat) (m : Mt) (A D : Option Addr) (c e : Nat) (s : ByteArray) (i : Nat) (bad : Bool) {v1 : Int} {j1 : Nat} {b1 : Bool} (hz1 : rdNum (lb s) i bad 0 2 = (v1, j1, b1)) {v2 : Bool} {j2 : Nat} {b2 : Bool} (hz2 : rdFlag (lb s) j1 b1 = (v2, j2, b2)) {v3 : Int} {j3 : Nat} {b3 : Bool} (hz3 : rdNum (lb s) j2 b2 0 20 = (v3, j3, b3))  (w : World) (h : ROk w g s i bad) (hE : Blk w b 42 (mtX m A D c e)) (hbg : b ≠ g) (hbe : b ≠ 0) :
    Calls Tryz.prog 101 #[.agg #[.iface 128 (.agg #[.pointer (some ⟨g, 0, none⟩)]), .pointer (some ⟨b, 0, none⟩)]] w (RmE g b 42 (mtX { m with tid := v1, yes := v2, th := v3 } A D c e) s j3 b3 w) := by
  obtain ⟨W0, hW0⟩ : ∃ W0, W0 = w.alloc (.cells #[.iface 128 (.agg #[.pointer (some ⟨g, 0, none⟩)]), .pointer (some ⟨b, 0, none⟩)] 114) := ⟨_, rfl⟩
  have KF0 := Lib.hid (show Blk W0 w.heap.size 114 #[.iface 128 (.agg #[.pointer (some ⟨g, 0, none⟩)]), .pointer (some ⟨b, 0, none⟩)] by rw [hW0]; exact Blk.new w 114 #[.iface 128 (.agg #[.pointer (some ⟨g, 0, none⟩)]), .pointer (some ⟨b, 0, none⟩)])
  have HS0 := Lib.hid (show ROk W0 g s i bad by rw [hW0]; exact rok_alloc h _)
  have KE0 := Lib.hid (show Blk W0 b 42 (mtX m A D c e) by rw [hW0]; exact hE.alloc _)
  have HO0 := Lib.hid (show Only (fun x => x = g ∨ x = b) w W0 by rw [hW0]; exact (Only.refl _ _).alloc _)
  have HBG := Lib.hid (And.intro hbg hbe)
  have HW := Lib.hid hW0
  have HFG := Lib.hid (show w.heap.size ≠ g ∧ w.heap.size ≠ b by have := h.2.2.2.2.1; have := hE.lt; omega)
  have HZ1 := Lib.hid hz1
  have HZ2 := Lib.hid hz2
  have HZ3 := Lib.hid hz3
  clear hW0 h hE hbg hbe hz1 hz2 hz3
  go_enter Tryz.func101, Tryz.ntmps101
  go_upto_region 1 with (fail)
  rw [← HW.out]
  have xf0 : W0.cell? ⟨w.heap.size, 0, none⟩ = some (.iface 128 (.agg #[.pointer (some ⟨g, 0, none⟩)])) := KF0.out.cell 0
  have xf1 : W0.cell? ⟨w.heap.size, 1, none⟩ = some (.pointer (some ⟨b, 0, none⟩)) := KF0.out.cell 1
  have NM := Lib.hid (rmtid g b m A D c e s i bad HZ1.out W0 HS0.out KE0.out HBG.out.1 HBG.out.2)
  go_wp2_with fail
  refine NM.out.mono ?_
  rintro e w1 ⟨rfl, hs, hk, ho⟩
  have HS1 := Lib.hid hs
  have KE1 := Lib.hid (show Blk w1 b 42 (mtX { m with tid := v1 } A D c e) from hk)
  have KF1 := Lib.hid (ho.blk KF0.out (fun x => x.elim HFG.out.1 HFG.out.2))
  have HO1 := Lib.hid (HO0.out.trans ho)
  clear hs hk ho xf0 xf1 NM
  have xf0 : w1.drew.cell? ⟨w.heap.size, 0, none⟩ = some (.iface 128 (.agg #[.pointer (some ⟨g, 0, none⟩)])) := KF1.out.drew.cell 0
  have xf1 : w1.drew.cell? ⟨w.heap.size, 1, none⟩ = some (.pointer (some ⟨b, 0, none⟩)) := KF1.out.drew.cell 1
  have NM := Lib.hid (rmflag g b 6 42 (mtX { m with tid := v1 } A D c e) s j1 j2 b1 b2 v2 w1.drew (RdOk.drew HS1.out) KE1.out.drew (by rw [mtX_size]; decide) HBG.out.1 HBG.out.2 HZ2.out)
  go_wp2_with fail
  refine wp_region_qtail 8 (by kernel_rfl) (by kernel_rfl) ?_
  simp only [List.take_succ_cons, List.take_zero, List.drop_succ_cons, List.drop_zero]
  repeat (go_big_quiet_step (fail))
  refine wpQuiet_nil ?_
  go_wp2_with fail
  refine NM.out.mono ?_
  rintro e w2 ⟨rfl, hs, hk, ho⟩
  have HS2 := Lib.hid hs
  have KE2 := Lib.hid (show Blk w2 b 42 (mtX { m with tid := v1, yes := v2 } A D c e) from hk)
  have KF2 := Lib.hid (ho.blk KF1.out.drew (fun x => x.elim HFG.out.1 HFG.out.2))
  have HO2 := Lib.hid (HO1.out.drew.trans ho)
  clear hs hk ho xf0 xf1 NM
  have xf0 : w2.drew.cell? ⟨w.heap.size, 0, none⟩ = some (.iface 128 (.agg #[.pointer (some ⟨g, 0, none⟩)])) := KF2.out.drew.cell 0
  have xf1 : w2.drew.cell? ⟨w.heap.size, 1, none⟩ = some (.pointer (some ⟨b, 0, none⟩)) := KF2.out.drew.cell 1
  have NM := Lib.hid (rmnum g b 7 42 (mtX { m with tid := v1, yes := v2 } A D c e) s j2 j3 b2 b3 0 20 v3 w2.drew (RdOk.drew HS2.out) KE2.out.drew (by rw [mtX_size]; decide) HBG.out.1 HBG.out.2 HZ3.out)
  go_wp2_with fail
  refine wp_region_qtail 8 (by kernel_rfl) (by kernel_rfl) ?_
  simp only [List.take_succ_cons, List.take_zero, List.drop_succ_cons, List.drop_zero]
  repeat (go_big_quiet_step (fail))
  refine wpQuiet_nil ?_
  go_wp2_with fail
  refine NM.out.mono ?_
  rintro e w3 ⟨rfl, hs, hk, ho⟩
  have HS3 := Lib.hid hs
  have KE3 := Lib.hid (show Blk w3 b 42 (mtX { m with tid := v1, yes := v2, th := v3 } A D c e) from hk)
  have KF3 := Lib.hid (ho.blk KF2.out.drew (fun x => x.elim HFG.out.1 HFG.out.2))
  have HO3 := Lib.hid (HO2.out.drew.trans ho)
  clear hs hk ho xf0 xf1 NM
  go_wp2_with fail
  go_end0
  exact ⟨rfl, HS3.out, KE3.out, HO3.out⟩
set_option maxRecDepth 100000 in
set_option maxHeartbeats 2000000 in
theorem rmcommit (g b : Nat) (m : Mt) (A D : Option Addr) (c e : Nat) (s : ByteArray) (i : Nat) (bad : Bool) {v1 : Int} {j1 : Nat} {b1 : Bool} (hz1 : rdNum (lb s) i bad 0 1 = (v1, j1, b1)) {v2 : Int} {j2 : Nat} {b2 : Bool} (hz2 : rdNum (lb s) j1 b1 0 2 = (v2, j2, b2)) {v3 : Int} {j3 : Nat} {b3 : Bool} (hz3 : rdNum (lb s) j2 b2 0 1048576 = (v3, j3, b3))  (w : World) (h : ROk w g s i bad) (hE : Blk w b 42 (mtX m A D c e)) (hbg : b ≠ g) (hbe : b ≠ 0) :
    Calls Tryz.prog 103 #[.agg #[.iface 128 (.agg #[.pointer (some ⟨g, 0, none⟩)]), .pointer (some ⟨b, 0, none⟩)]] w (RmE g b 42 (mtX { m with p := (v1, v2, v3) } A D c e) s j3 b3 w) := by
  obtain ⟨W0, hW0⟩ : ∃ W0, W0 = w.alloc (.cells #[.iface 128 (.agg #[.pointer (some ⟨g, 0, none⟩)]), .pointer (some ⟨b, 0, none⟩)] 114) := ⟨_, rfl⟩
  have KF0 := Lib.hid (show Blk W0 w.heap.size 114 #[.iface 128 (.agg #[.pointer (some ⟨g, 0, none⟩)]), .pointer (some ⟨b, 0, none⟩)] by rw [hW0]; exact Blk.new w 114 #[.iface 128 (.agg #[.pointer (some ⟨g, 0, none⟩)]), .pointer (some ⟨b, 0, none⟩)])
  have HS0 := Lib.hid (show ROk W0 g s i bad by rw [hW0]; exact rok_alloc h _)
  have KE0 := Lib.hid (show Blk W0 b 42 (mtX m A D c e) by rw [hW0]; exact hE.alloc _)
  have HO0 := Lib.hid (show Only (fun x => x = g ∨ x = b) w W0 by rw [hW0]; exact (Only.refl _ _).alloc _)
  have HBG := Lib.hid (And.intro hbg hbe)
  have HW := Lib.hid hW0
  have HFG := Lib.hid (show w.heap.size ≠ g ∧ w.heap.size ≠ b by have := h.2.2.2.2.1; have := hE.lt; omega)
  have HZ1 := Lib.hid hz1
  have HZ2 := Lib.hid hz2
  have HZ3 := Lib.hid hz3
  clear hW0 h hE hbg hbe hz1 hz2 hz3
  go_enter Tryz.func103, Tryz.ntmps103
  go_upto_region 1 with (fail)
  rw [← HW.out]
  have xf0 : W0.drew.cell? ⟨w.heap.size, 0, none⟩ = some (.iface 128 (.agg #[.pointer (some ⟨g, 0, none⟩)])) := KF0.out.drew.cell 0
  have xf1 : W0.drew.cell? ⟨w.heap.size, 1, none⟩ = some (.pointer (some ⟨b, 0, none⟩)) := KF0.out.drew.cell 1
  have NM := Lib.hid (rmpend g b 3 42 (.pointer (some ⟨b, 0, none⟩)) (mtX m A D c e) s i j1 j2 j3 bad b1 b2 b3 v1 v2 v3 W0.drew (RdOk.drew HS0.out) KE0.out.drew (by rw [mtX_size]; decide) HBG.out.1 HBG.out.2 HZ1.out HZ2.out HZ3.out)
  go_wp2_with fail
  refine wp_region_qtail 5 (by kernel_rfl) (by kernel_rfl) ?_
  simp only [List.take_succ_cons, List.take_zero, List.drop_succ_cons, List.drop_zero]
  repeat (go_big_quiet_step (fail))
  refine wpQuiet_nil ?_
  go_wp2_with fail
  refine NM.out.mono ?_
  rintro e w1 ⟨rfl, hs, hk, ho⟩
  have HS1 := Lib.hid hs
  have KE1 := Lib.hid (show Blk w1 b 42 (mtX { m with p := (v1, v2, v3) } A D c e) from hk)
  have KF1 := Lib.hid (ho.blk KF0.out.drew (fun x => x.elim HFG.out.1 HFG.out.2))
  have HO1 := Lib.hid (HO0.out.drew.trans ho)
  clear hs hk ho xf0 xf1 NM
  go_wp2_with fail
  go_end0
  exact ⟨rfl, HS1.out, KE1.out, HO1.out⟩
set_option maxRecDepth 100000 in
set_option maxHeartbeats 2000000 in
theorem rmoffset (g b : Nat) (m : Mt) (A D : Option Addr) (c e : Nat) (s : ByteArray) (i : Nat) (bad : Bool) {v1 : Int} {j1 : Nat} {b1 : Bool} (hz1 : rdNum (lb s) i bad 0 2 = (v1, j1, b1)) {v2 : Int} {j2 : Nat} {b2 : Bool} (hz2 : rdNum (lb s) j1 b1 0 1 = (v2, j2, b2)) {v3 : Int} {j3 : Nat} {b3 : Bool} (hz3 : rdNum (lb s) j2 b2 0 2 = (v3, j3, b3)) {v4 : Int} {j4 : Nat} {b4 : Bool} (hz4 : rdNum (lb s) j3 b3 0 1048576 = (v4, j4, b4))  (w : World) (h : ROk w g s i bad) (hE : Blk w b 42 (mtX m A D c e)) (hbg : b ≠ g) (hbe : b ≠ 0) :
    Calls Tryz.prog 100 #[.agg #[.iface 128 (.agg #[.pointer (some ⟨g, 0, none⟩)]), .pointer (some ⟨b, 0, none⟩)]] w (RmE g b 42 (mtX { m with tid := v1, p := (v2, v3, v4) } A D c e) s j4 b4 w) := by
  obtain ⟨W0, hW0⟩ : ∃ W0, W0 = w.alloc (.cells #[.iface 128 (.agg #[.pointer (some ⟨g, 0, none⟩)]), .pointer (some ⟨b, 0, none⟩)] 114) := ⟨_, rfl⟩
  have KF0 := Lib.hid (show Blk W0 w.heap.size 114 #[.iface 128 (.agg #[.pointer (some ⟨g, 0, none⟩)]), .pointer (some ⟨b, 0, none⟩)] by rw [hW0]; exact Blk.new w 114 #[.iface 128 (.agg #[.pointer (some ⟨g, 0, none⟩)]), .pointer (some ⟨b, 0, none⟩)])
  have HS0 := Lib.hid (show ROk W0 g s i bad by rw [hW0]; exact rok_alloc h _)
  have KE0 := Lib.hid (show Blk W0 b 42 (mtX m A D c e) by rw [hW0]; exact hE.alloc _)
  have HO0 := Lib.hid (show Only (fun x => x = g ∨ x = b) w W0 by rw [hW0]; exact (Only.refl _ _).alloc _)
  have HBG := Lib.hid (And.intro hbg hbe)
  have HW := Lib.hid hW0
  have HFG := Lib.hid (show w.heap.size ≠ g ∧ w.heap.size ≠ b by have := h.2.2.2.2.1; have := hE.lt; omega)
  have HZ1 := Lib.hid hz1
  have HZ2 := Lib.hid hz2
  have HZ3 := Lib.hid hz3
  have HZ4 := Lib.hid hz4
  clear hW0 h hE hbg hbe hz1 hz2 hz3 hz4
  go_enter Tryz.func100, Tryz.ntmps100
  go_upto_region 1 with (fail)
  rw [← HW.out]
  have xf0 : W0.cell? ⟨w.heap.size, 0, none⟩ = some (.iface 128 (.agg #[.pointer (some ⟨g, 0, none⟩)])) := KF0.out.cell 0
  have xf1 : W0.cell? ⟨w.heap.size, 1, none⟩ = some (.pointer (some ⟨b, 0, none⟩)) := KF0.out.cell 1
  have NM := Lib.hid (rmtid g b m A D c e s i bad HZ1.out W0 HS0.out KE0.out HBG.out.1 HBG.out.2)
  go_wp2_with fail
  refine NM.out.mono ?_
  rintro e w1 ⟨rfl, hs, hk, ho⟩
  have HS1 := Lib.hid hs
  have KE1 := Lib.hid (show Blk w1 b 42 (mtX { m with tid := v1 } A D c e) from hk)
  have KF1 := Lib.hid (ho.blk KF0.out (fun x => x.elim HFG.out.1 HFG.out.2))
  have HO1 := Lib.hid (HO0.out.trans ho)
  clear hs hk ho xf0 xf1 NM
  have xf0 : w1.drew.cell? ⟨w.heap.size, 0, none⟩ = some (.iface 128 (.agg #[.pointer (some ⟨g, 0, none⟩)])) := KF1.out.drew.cell 0
  have xf1 : w1.drew.cell? ⟨w.heap.size, 1, none⟩ = some (.pointer (some ⟨b, 0, none⟩)) := KF1.out.drew.cell 1
  have NM := Lib.hid (rmpend g b 3 42 (.pointer (some ⟨b, 0, none⟩)) (mtX { m with tid := v1 } A D c e) s j1 j2 j3 j4 b1 b2 b3 b4 v2 v3 v4 w1.drew (RdOk.drew HS1.out) KE1.out.drew (by rw [mtX_size]; decide) HBG.out.1 HBG.out.2 HZ2.out HZ3.out HZ4.out)
  go_wp2_with fail
  refine wp_region_qtail 5 (by kernel_rfl) (by kernel_rfl) ?_
  simp only [List.take_succ_cons, List.take_zero, List.drop_succ_cons, List.drop_zero]
  repeat (go_big_quiet_step (fail))
  refine wpQuiet_nil ?_
  go_wp2_with fail
  refine NM.out.mono ?_
  rintro e w2 ⟨rfl, hs, hk, ho⟩
  have HS2 := Lib.hid hs
  have KE2 := Lib.hid (show Blk w2 b 42 (mtX { m with tid := v1, p := (v2, v3, v4) } A D c e) from hk)
  have KF2 := Lib.hid (ho.blk KF1.out.drew (fun x => x.elim HFG.out.1 HFG.out.2))
  have HO2 := Lib.hid (HO1.out.drew.trans ho)
  clear hs hk ho xf0 xf1 NM
  go_wp2_with fail
  go_end0
  exact ⟨rfl, HS2.out, KE2.out, HO2.out⟩
end Go.Proofs.YtbpkckahonmpkaaGreatDoor
