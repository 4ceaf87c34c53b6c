/-
  Package varint's Put: what it gives.
-/
import Derived.Test.YtcockikekgmfkaaDoorVaD
namespace Go.Proofs.YtcockikekgmfkaaDoor
open Go.RowKit

/-- A slice of bytes beside a code. -/
def BytesPost (l : List UInt8) (code : Int) (w : World) (e : Ending) (w' : World) : Prop :=
  ∃ A c, e = .returned (.tuple #[.slice A l.length c, .int .i64 code]) ∧ Reads w' w'.heap.size 1 A l.length (cellsB l) ∧ l.length ≤ c ∧ Below w.heap.size w w'

/-- The same, of the call's own. -/
def OwnPost (l : List UInt8) (code : Int) (w : World) (e : Ending) (w' : World) : Prop :=
  ∃ A c, e = .returned (.tuple #[.slice A l.length c, .int .i64 code]) ∧ w'.ownsRow w.heap.size 5 1 (.slice A l.length c) l.length (cellsB l) ∧ l.length ≤ c ∧ Below w.heap.size w w'
theorem OwnPost.bytes {l : List UInt8} {code : Int} {w : World} {e : Ending} {w' : World} (h : OwnPost l code w e w') : BytesPost l code w e w' := by
  obtain ⟨A, c, he, ho, hc, hb⟩ := h
  exact ⟨A, c, he, Reads.of_own ho, hc, hb⟩

set_option maxHeartbeats 400000 in
theorem Put_no (A : Option Addr) (k c : Nat) (n : Int) (w : World) (h : n < 0 ∨ 1099511627776 < n) :
    Calls Tryd.prog 71 #[.slice A k c, .int .i64 n] w (BytesPost [] 2 w) := by
  have HL := Lib.hid (len_no n w h)
  go_enter Tryd.func71, Tryd.ntmps71
  go_wp2_with (go_at_call 74; refine HL.out.mono ?_; rintro e w1 ⟨rfl, rfl⟩)
  go_ret2
  exact ⟨none, 0, rfl, Reads.none_, Nat.le_refl _, Below.refl _ _⟩

theorem made_len (n : Nat) : (madeCells (Value.int .u8 0).cells (n * 1)).toList.length = n := by
  simp [madeCells, Value.cells]

theorem sizeByte : (Tryd.prog.info? 5).map (·.size) = some 1 := by kernel_rfl

set_option maxRecDepth 100000 in
set_option maxHeartbeats 400000 in
theorem Put_own (A : Option Addr) (l : List UInt8) (c : Nat) (n : Nat) (w : World) (hr : Reads w w.heap.size 1 A l.length (cellsB l)) (hl : l.length ≤ 90000) (hn : n ≤ maxNum) :
    Calls Tryd.prog 71 #[.slice A l.length c, .int .i64 n] w (OwnPost (l ++ enc n) 0 w) := by
  obtain ⟨i0, hi, hz0, hz1, hz2⟩ := info_parts infoByte
  have hn' : n ≤ 1099511627776 := hn
  have HL := Lib.hid (len_ok n w hn)
  have hle := encLen_le n hn
  have hpos := encLen_pos n
  have hd : (((encLen n : Nat) : Int) == 0) = false := beq_eq_false_iff_ne.2 (by omega)
  have hmk : (Instr.makeSlice 50 (.int .i64 (l.length : Int)) (.int .i64 ((l.length : Int) + (encLen n : Int)))).run Tryd.prog w = .ok (.slice (some ⟨w.heap.size, 0, none⟩) l.length (l.length + encLen n)) (w.alloc (.cells (madeCells (Value.int .u8 0).cells ((l.length + encLen n) * 1)) 5)) := by
    have := run_make_rowN (P := Tryd.prog) 50 5 i0 _ Tryd.underlying50 hi hz0 .i64 .i64 l.length (l.length + encLen n) (by omega) (by rw [hz2]; omega) (by omega) w
    rw [hz1] at this
    exact this
  have hml := made_len (l.length + encLen n)
  generalize hmc : madeCells (Value.int .u8 0).cells ((l.length + encLen n) * 1) = mc at hmk hml
  obtain ⟨mcl⟩ := mc
  have HML := Lib.hid hml
  clear hml
  have hb0 : Below w.heap.size w (w.alloc (.cells ⟨mcl⟩ 5)) := (Below.refl _ _).alloc (Nat.le_refl _) _
  have hraw := hr.alloc (Nat.le_refl _) (.cells ⟨mcl⟩ 5)
  obtain ⟨W2, hcp, hblk, hg2⟩ := copy_ex (P := Tryd.prog) (sT := 50) 3 Tryd.underlying50 sizeByte (dLen := l.length) (l.length + encLen n) c (heap_alloc_new w (.cells ⟨mcl⟩ 5)) hraw (cellsB_one l) (Nat.le_refl _) (by rw [HML.out]; omega)
  have hown : W2.ownsRow w.heap.size 5 1 (.slice (some ⟨w.heap.size, 0, none⟩) l.length (l.length + encLen n)) l.length (cellsB l) := by
    refine ⟨by rw [length_cellsB]; omega, .inr ⟨w.heap.size, _, _, rfl, Nat.le_refl _, hblk, by omega, by unfold maxLen; omega, ?_, ?_⟩⟩
    · simp [length_cellsB, HML.out]
    · simp [length_cellsB]
  have hb2 : Below w.heap.size w W2 := hb0.grown hg2 (by simp) (fun k e => by cases e; exact Nat.le_refl _)
  have HP := Lib.hid (put_any w.heap.size _ l n W2 hn hown (by omega) hb2.size)
  clear hmc hr hraw hblk hg2 hown hb0
  go_enter Tryd.func71, Tryd.ntmps71
  go_wp2_with (first | (go_at_call 74; refine HL.out.mono ?_; rintro e w1 ⟨rfl, rfl⟩) | (go_at_call 87; refine HP.out.mono ?_; rintro e w3 ⟨v', rfl, ho3, hg3, _⟩; obtain ⟨A3, c3, rfl, hc3⟩ := own_slice ho3))
  go_ret2
  refine ⟨A3, c3, by rw [List.length_append]; rfl, ?_, by rw [List.length_append]; exact hc3, ?_⟩
  · rw [List.length_append]; exact ho3
  · exact hb2.grown hg3 hb2.size (fun k e => by simp [Value.ownBlock] at e; omega)
theorem Put_ok (A : Option Addr) (l : List UInt8) (c : Nat) (n : Nat) (w : World) (hr : Reads w w.heap.size 1 A l.length (cellsB l)) (hl : l.length ≤ 90000) (hn : n ≤ maxNum) :
    Calls Tryd.prog 71 #[.slice A l.length c, .int .i64 n] w (BytesPost (l ++ enc n) 0 w) := (Put_own A l c n w hr hl hn).mono fun _ _ h => h.bytes
end Go.Proofs.YtcockikekgmfkaaDoor
