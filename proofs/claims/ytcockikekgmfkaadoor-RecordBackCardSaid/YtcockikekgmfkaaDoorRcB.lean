/-
  Layer 6: record.write's closures.
-/
import Derived.Test.YtcockikekgmfkaaDoorRcA
import Derived.Test.YtcockikekgmfkaaDoorOn
import Derived.Test.YtcockikekgmfkaaDoorErRe
import Derived.Test.YtcockikekgmfkaaDoorErD
namespace Go.Proofs.YtcockikekgmfkaaDoor
open Go.RowKit

/-- What write has put so far: the variables out and e, and the bytes of its own. -/
def WSt (w : World) (bo be K : Nat) (l : List UInt8) : Prop :=
  ∃ A c, Blk w bo 50 #[.slice A l.length c] ∧ Blk w be 32 #[.int .i64 0] ∧ w.ownsRow K 5 1 (.slice A l.length c) l.length (cellsB l) ∧ bo < K ∧ be < K ∧ bo ≠ be ∧ K ≤ w.heap.size
theorem WSt.only {S : Nat → Prop} {w w' : World} {bo be K : Nat} {l : List UInt8} (h : WSt w bo be K l) (k : Only S w w') (hS : ∀ g, g = bo ∨ g = be ∨ K ≤ g → ¬ S g) : WSt w' bo be K l := by
  obtain ⟨A, c, h1, h2, h3, h4, h5, h6, h7⟩ := h
  exact ⟨A, c, k.blk h1 (hS _ (.inl rfl)), k.blk h2 (hS _ (.inr (.inl rfl))), k.own h3 (fun g hg => hS g (.inr (.inr hg))), h4, h5, h6, Nat.le_trans h7 k.size⟩
theorem WSt.below {w w' : World} {bo be K : Nat} {l : List UInt8} (h : WSt w bo be K l) (k : Below w.heap.size w w') : WSt w' bo be K l :=
  h.only (Only.of_below (fun _ => False) k) (fun _ _ h => h)

theorem Number_own (A : Option Addr) (l : List UInt8) (c : Nat) (n : Nat) (w : World) (hr : Reads w w.heap.size 1 A l.length (cellsB l)) (hl : l.length ≤ 90000) (hn : n ≤ maxNum) :
    Calls Tryd.prog 39 #[.slice A l.length c, .int .i64 n] w (OwnPost (l ++ enc n) 0 w) := by
  have HP := Lib.hid (Put_own A l c n w hr hl hn)
  clear hr
  generalize l ++ enc n = L at *
  go_enter Tryd.func39, Tryd.ntmps39
  go_wp2_with (go_at_call 71; refine HP.out.mono ?_; rintro e w1 ⟨A1, c1, rfl, hr1, hc1, hb1⟩)
  go_ret2
  exact ⟨A1, c1, rfl, hr1, hc1, hb1⟩

/-- Behind a closure's call: more bytes; but for the two variables all is as it was. -/
def PutsPost (bo be K : Nat) (l : List UInt8) (w : World) (e : Ending) (w' : World) : Prop :=
  e = .returned (.tuple #[]) ∧ WSt w' bo be K l ∧ Only (fun g => g = bo ∨ g = be) w w'
theorem puts_of {bo be K : Nat} {l L : List UInt8} {w w1 : World} {A1 : Option Addr} {c1 : Nat} (h : WSt w bo be K l) (ho : w1.ownsRow w.heap.size 5 1 (.slice A1 L.length c1) L.length (cellsB L)) (hb : Below w.heap.size w w1) :
    PutsPost bo be K L w (.returned (.tuple #[])) ((w1.setCell ⟨bo, 0, none⟩ (.slice A1 L.length c1)).setCell ⟨be, 0, none⟩ (.int .i64 0)) := by
  obtain ⟨A, c, h1, h2, h3, h4, h5, h6, h7⟩ := h
  refine ⟨rfl, ⟨A1, c1, ?_, ?_, ?_, h4, h5, h6, ?_⟩, ?_⟩
  · exact ((h1.below hb h1.lt).set_ 0 _).far h6 _
  · exact ((h2.below hb h2.lt).far (Ne.symm h6) _).set_ 0 _
  · exact own_set (own_set (own_base ho h7) h4 _) h5 _
  · have := hb.size
    simp [World.setCell]; omega
  · exact ((Only.of_below _ hb).set (.inl (.inl rfl)) _).set (.inl (.inr rfl)) _

set_option maxHeartbeats 400000 in
theorem wnumber_any (bo be K : Nat) (l : List UInt8) (n : Nat) (w : World) (h : WSt w bo be K l) (hl : l.length ≤ 80000) (hn : n ≤ maxNum) :
    Calls Tryd.prog 83 #[.int .i64 n, .pointer (some ⟨be, 0, none⟩), .pointer (some ⟨bo, 0, none⟩)] w (PutsPost bo be K (l ++ enc n) w) := by
  have HP := Lib.hid (fun A1 c1 w1 => puts_of (L := l ++ enc n) (A1 := A1) (c1 := c1) (w1 := w1) h)
  obtain ⟨A, c, h1, h2, h3, h4, h5, h6, h7⟩ := h
  have HN := Lib.hid (Number_own A l c n w (Reads.of_own h3) (by omega) hn)
  have x1 := h1.cell 0
  have x2 := h2.cell 0
  have K1 := Lib.hid h1
  have K2 := Lib.hid h2
  generalize l ++ enc n = L at *
  clear h1 h2 h3
  go_enter Tryd.func83, Tryd.ntmps83
  go_wp2_with fail
  refine HN.out.mono ?_
  rintro e w1 ⟨A1, c1, rfl, ho1, hc1, hb1⟩
  have y1 := (K1.out.below hb1 K1.out.lt).cell 0
  have y2 := (K1.out.below hb1 K1.out.lt).frozen 0
  have y3 := (K2.out.below hb1 K2.out.lt).cell 0
  have y4 := (K2.out.below hb1 K2.out.lt).frozen 0
  clear x1 x2
  go_wp2_with fail
  go_end0
  exact HP.out _ _ _ ho1 hb1

set_option maxHeartbeats 400000 in
theorem wtext_any (bo be K : Nat) (l : List UInt8) (t : ByteArray) (w : World) (h : WSt w bo be K l) (hl : l.length ≤ 70000) (ht : t.size ≤ 1024) :
    Calls Tryd.prog 84 #[.string t, .pointer (some ⟨be, 0, none⟩), .pointer (some ⟨bo, 0, none⟩)] w (PutsPost bo be K (l ++ (cTxt 1024).e (lb t)) w) := by
  have HP := Lib.hid (fun A1 c1 w1 => puts_of (L := l ++ (cTxt 1024).e (lb t)) (A1 := A1) (c1 := c1) (w1 := w1) h)
  obtain ⟨A, c, h1, h2, h3, h4, h5, h6, h7⟩ := h
  have HN := Lib.hid (Text_ok A l c t w (Reads.of_own h3) (by omega) ht)
  have x1 := h1.cell 0
  have x2 := h2.cell 0
  have K1 := Lib.hid h1
  have K2 := Lib.hid h2
  generalize l ++ (cTxt 1024).e (lb t) = L at *
  clear h1 h2 h3
  go_enter Tryd.func84, Tryd.ntmps84
  go_wp2_with fail
  refine HN.out.mono ?_
  rintro e w1 ⟨A1, c1, rfl, ho1, hc1, hb1⟩
  have y1 := (K1.out.below hb1 K1.out.lt).cell 0
  have y2 := (K1.out.below hb1 K1.out.lt).frozen 0
  have y3 := (K2.out.below hb1 K2.out.lt).cell 0
  have y4 := (K2.out.below hb1 K2.out.lt).frozen 0
  clear x1 x2
  go_wp2_with fail
  go_end0
  exact HP.out _ _ _ ho1 hb1
end Go.Proofs.YtcockikekgmfkaaDoor
