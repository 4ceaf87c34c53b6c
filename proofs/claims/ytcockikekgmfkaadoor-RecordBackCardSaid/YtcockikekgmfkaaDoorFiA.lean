/-
  Layer 2, writing: numbers, texts, flags behind bytes; of the program and of the document.
-/
import Derived.Test.YtcockikekgmfkaaDoorVaI
import Derived.Test.YtcockikekgmfkaaDoorCd
import Derived.Lib.AppendStr
import Derived.Lib.AppendZeros
import Derived.LoopN
import Derived.Outline
namespace Go.Proofs.YtcockikekgmfkaaDoor
open Go.RowKit

/-- A slice of bytes of the call's own. -/
def OwnVal (l : List UInt8) (w : World) (e : Ending) (w' : World) : Prop :=
  ∃ A c, e = .returned (.slice A l.length c) ∧ w'.ownsRow w.heap.size 5 1 (.slice A l.length c) l.length (cellsB l) ∧ l.length ≤ c ∧ Below w.heap.size w w'

theorem strCells_lb (s : ByteArray) : Lib.strCells s = cellsB (lb s) := rfl

set_option maxRecDepth 100000 in
set_option maxHeartbeats 400000 in
theorem Grow_any (n : Nat) (w : World) (h0 : 0 < n) (hn : n ≤ 200000) :
    Calls Tryd.prog 88 #[.slice none 0 0, .int .i64 n] w (OwnVal [] w) := by
  obtain ⟨i0, hi, hz0, hz1, hz2⟩ := info_parts infoByte
  have hrun := fun W => Lib.run_append_nil_zeros (P := Tryd.prog) W 50 3 50 5 i0 _ .i64 .i64 Tryd.underlying50 Tryd.underlying3 hi hz0 n h0 (by rw [hz1]; decide) (by omega) (by rw [hz2]; omega)
  have hcap := grownCap_ge w n 0 5
  have hcm := grownCap_le_maxLen w n 0 5 (by unfold maxLen; omega)
  have HRUN := Lib.hid (hrun w)
  generalize hgc : grownCap w n 0 5 = gc at *
  clear hrun
  have hnn : ¬ (n : Int) < 0 := by omega
  have hc2 := fun W => (cut_upto (P := Tryd.prog) (t := 50) (w := W) (B := W.heap.size) (A := none) (c := 0) (xs := []) Tryd.underlying50 (fun _ => by kernel_rfl) Reads.none_ 0 (Nat.le_refl _) (Nat.le_refl _)).1
  go_enter Tryd.func88, Tryd.ntmps88
  go_wp2_with (at_builtin; refine Lib.wpList_append_run _ rfl (.tmp 20) (.tmp 21) 50 3 rfl _ _ rfl rfl _ _ HRUN.out ?_)
  go_ret
  refine ⟨some ⟨w.heap.size, 0, none⟩, gc, rfl, ⟨by simp [cellsB], .inr ⟨w.heap.size, gc, _, rfl, Nat.le_refl _, heap_alloc_new w.drew _, Nat.zero_le _, hcm, ?_, by simp [cellsB]⟩⟩, Nat.zero_le _, (Below.refl _ w).drew.alloc (Nat.le_refl _) _⟩
  simp [size_zeroCells, Value.cells]
  omega

set_option maxRecDepth 100000 in
set_option maxHeartbeats 1000000 in
theorem Concat_any (b : Nat) (A A2 : Option Addr) (l l2 : List UInt8) (c c2 : Nat) (w : World) (h0 : w.cell? ⟨b, 0, none⟩ = some (.slice A l.length c)) (h1 : w.cell? ⟨b, 1, none⟩ = some (.slice A2 l2.length c2))
    (hr : Reads w w.heap.size 1 A l.length (cellsB l)) (hr2 : Reads w w.heap.size 1 A2 l2.length (cellsB l2)) (hl : l.length ≤ 90000) (hl2 : l2.length ≤ 90000) (hp : 0 < l2.length) :
    Calls Tryd.prog 73 #[.slice (some ⟨b, 0, none⟩) 2 2] w (OwnVal (l ++ l2) w) := by
  obtain ⟨i0, hi, hz0, hz1, hz2⟩ := info_parts infoByte
  have HG := Lib.hid (Grow_any (l.length + l2.length) w (by omega) (by omega))
  have HR := Lib.hid hr
  have HR2 := Lib.hid hr2
  have hbl := block_lt_of_cell h0
  have H0 := Lib.hid h0
  have H1 := Lib.hid h1
  clear hr hr2
  go_enter Tryd.func73, Tryd.ntmps73
  go_wp2_with fail
  refine wp_loop_rounds 3 ?_
  rw [rounds_succ]
  go_wp2_with fail
  rw [rounds_succ]
  go_wp2_with fail
  rw [rounds_succ]
  go_wp2_with fail
  refine HG.out.mono ?_
  rintro e w1 ⟨A1, c1, rfl, ho1, hc1, hb1⟩
  have hx0 := (hb1.cell (p := ⟨b, 0, none⟩) hbl).trans H0.out
  have hx1 := (hb1.cell (p := ⟨b, 1, none⟩) hbl).trans H1.out
  have hz3 := hb1.size
  clear h0 h1
  go_wp2_with fail
  refine wp_loop_rounds 3 ?_
  rw [rounds_succ]
  go_wp2_with (at_builtin; refine wpList_append_any _ rfl (.tmp 31) (.tmp 32) 50 rfl w.heap.size 5 i0 (.int .u8 0) 1 1 Tryd.underlying50 hi hz0 hz1 hz2 rfl (by decide) (.slice A1 0 c1) 0 ([]) rfl ho1 w1.heap.size A l.length c (cellsB l) rfl ((HR.out.below hb1).more hz3) (cellsB_one _) (by unfold maxLen; omega) (by omega) hz3 ?_; intro v2 w2 ho2 hg2 hat2)
  rw [Nat.zero_add, List.nil_append] at ho2
  have hb2 : Below w.heap.size w w2 := hb1.grown hg2 hz3 (fun g hg => (ho1.lt g hg).1)
  have hz4 := hb2.size
  have hy1 := (hb2.cell (p := ⟨b, 1, none⟩) hbl).trans H1.out
  have HO2 := Lib.hid ho2
  clear ho1 hg2 hat2 ho2 hx0 hx1
  rw [rounds_succ]
  go_wp2_with (at_builtin; refine wpList_append_any _ rfl (.tmp 31) (.tmp 32) 50 rfl w.heap.size 5 i0 (.int .u8 0) 1 1 Tryd.underlying50 hi hz0 hz1 hz2 rfl (by decide) (v2) l.length (cellsB l) rfl HO2.out w2.heap.size A2 l2.length c2 (cellsB l2) rfl ((HR2.out.below hb2).more hz4) (cellsB_one _) (by unfold maxLen; omega) (by omega) hz4 ?_; intro v3 w3 ho3 hg3 hat3)
  rw [rounds_succ]
  go_wp2_with fail
  have hb3 : Below w.heap.size w w3 := hb2.grown hg3 hz4 (fun g hg => (HO2.out.lt g hg).1)
  rw [← cellsB_append, ← List.length_append] at ho3
  obtain ⟨A3, c3, rfl, hc3⟩ := own_slice ho3
  go_ret
  exact ⟨A3, c3, rfl, ho3, hc3, hb3⟩

theorem Number_no (A : Option Addr) (k c : Nat) (n : Int) (w : World) (h : n < 0 ∨ 1099511627776 < n) :
    Calls Tryd.prog 39 #[.slice A k c, .int .i64 n] w (BytesPost [] 2 w) := by
  have HP := Lib.hid (Put_no A k c n w h)
  clear h
  go_enter Tryd.func39, Tryd.ntmps39
  go_wp2_with (go_at_call 71; refine HP.out.mono ?_; rintro e w1 ⟨A1, c1, rfl, hr1, hc1, hb1⟩)
  go_ret2
  exact ⟨A1, c1, rfl, hr1, hc1, hb1⟩
theorem Number_ok (A : Option Addr) (l : List UInt8) (c : Nat) (n : Nat) (w : World) (hr : Reads w w.heap.size 1 A l.length (cellsB l)) (hl : l.length ≤ 90000) (hn : n ≤ maxNum) :
    Calls Tryd.prog 39 #[.slice A l.length c, .int .i64 n] w (BytesPost (l ++ enc n) 0 w) := by
  have HP := Lib.hid (Put_ok A l c n w hr hl hn)
  clear hr
  generalize l ++ enc n = L at *
  go_enter Tryd.func39, Tryd.ntmps39
  go_wp2_with (go_at_call 71; refine HP.out.mono ?_; rintro e w1 ⟨A1, c1, rfl, hr1, hc1, hb1⟩)
  go_ret2
  exact ⟨A1, c1, rfl, hr1, hc1, hb1⟩
theorem rNumber_no (A : Option Addr) (k c : Nat) (n : Int) (w : World) (h : n < 0 ∨ 1099511627776 < n) :
    Calls Tryd.prog 40 #[.slice A k c, .int .i64 n] w (BytesPost [] 2 w) := by
  have HP := Lib.hid (rPut_no A k c n w h)
  clear h
  go_enter Tryd.func40, Tryd.ntmps40
  go_wp2_with (go_at_call 72; refine HP.out.mono ?_; rintro e w1 ⟨A1, c1, rfl, hr1, hc1, hb1⟩)
  go_ret2
  exact ⟨A1, c1, rfl, hr1, hc1, hb1⟩
theorem rNumber_ok (A : Option Addr) (l : List UInt8) (c : Nat) (n : Nat) (w : World) (hr : Reads w w.heap.size 1 A l.length (cellsB l)) (hl : l.length ≤ 90000) (hn : n ≤ maxNum) :
    Calls Tryd.prog 40 #[.slice A l.length c, .int .i64 n] w (BytesPost (l ++ enc n) 0 w) := by
  have HP := Lib.hid (rPut_ok A l c n w hr hl hn)
  clear hr
  generalize l ++ enc n = L at *
  go_enter Tryd.func40, Tryd.ntmps40
  go_wp2_with (go_at_call 72; refine HP.out.mono ?_; rintro e w1 ⟨A1, c1, rfl, hr1, hc1, hb1⟩)
  go_ret2
  exact ⟨A1, c1, rfl, hr1, hc1, hb1⟩

theorem Text_no (A : Option Addr) (k c : Nat) (t : ByteArray) (w : World) (h : 1024 < t.size) :
    Calls Tryd.prog 41 #[.slice A k c, .string t] w (BytesPost [] 2 w) := by
  have hd : decide ((1024 : Int) < (t.size : Int)) = true := by simp; omega
  go_enter Tryd.func41, Tryd.ntmps41
  go_wp2_with fail
  go_ret2
  exact ⟨none, 0, rfl, Reads.none_, Nat.le_refl _, Below.refl _ _⟩
set_option maxHeartbeats 400000 in
theorem Text_ok (A : Option Addr) (l : List UInt8) (c : Nat) (t : ByteArray) (w : World) (hr : Reads w w.heap.size 1 A l.length (cellsB l)) (hl : l.length ≤ 80000) (ht : t.size ≤ 1024) :
    Calls Tryd.prog 41 #[.slice A l.length c, .string t] w (OwnPost (l ++ (cTxt 1024).e (lb t)) 0 w) := by
  obtain ⟨i0, hi, hz0, hz1, hz2⟩ := info_parts infoByte
  have HP := Lib.hid (Put_own A l c t.size w hr (by omega) (by unfold maxNum; omega))
  have hle := encLen_le t.size (by unfold maxNum; omega)
  have hll : (l ++ enc t.size).length = l.length + encLen t.size := by rw [List.length_append]; rfl
  have hlb : (l ++ enc t.size).length ≤ 80006 := by omega
  have hd : decide ((1024 : Int) < (t.size : Int)) = false := by simp; omega
  have hfin : l ++ enc t.size ++ lb t = l ++ (cTxt 1024).e (lb t) := by
    rw [List.append_assoc]; show l ++ (enc t.size ++ lb t) = l ++ (enc (lb t).length ++ lb t); rw [length_lb]
  have HF := Lib.hid hfin
  clear hr hll hfin
  generalize l ++ enc t.size = L at *
  generalize l ++ (cTxt 1024).e (lb t) = M at *
  go_enter Tryd.func41, Tryd.ntmps41
  go_wp2_with (first | (go_at_call 71; refine HP.out.mono ?_; rintro e w1 ⟨A1, c1, rfl, ho1, hc1, hb1⟩) | (at_builtin; refine Lib.wpList_append_own_string _ rfl (.tmp 21) (.tmp 22) 50 9 rfl w.heap.size 5 i0 Tryd.underlying50 Tryd.underlying9 hi hz0 hz1 hz2 _ _ _ rfl ho1 t rfl (by unfold maxLen; omega) (by omega) hb1.size ?_; intro v2 w2 ho2 hg2 hat2))
  have hb2 : Below w.heap.size w w2 := hb1.grown hg2 hb1.size (fun g hg => (ho1.lt g hg).1)
  rw [strCells_lb, ← cellsB_append, ← length_lb t, ← List.length_append, HF.out] at ho2
  obtain ⟨A3, c3, rfl, hc3⟩ := own_slice ho2
  go_ret2
  exact ⟨A3, c3, rfl, ho2, hc3, hb2⟩

theorem rText_no (A : Option Addr) (k c : Nat) (t : ByteArray) (w : World) (h : 1024 < t.size) :
    Calls Tryd.prog 42 #[.slice A k c, .string t] w (BytesPost [] 2 w) := by
  have hd : decide ((1024 : Int) < (t.size : Int)) = true := by simp; omega
  go_enter Tryd.func42, Tryd.ntmps42
  go_wp2_with fail
  go_ret2
  exact ⟨none, 0, rfl, Reads.none_, Nat.le_refl _, Below.refl _ _⟩
set_option maxHeartbeats 400000 in
theorem rText_ok (A : Option Addr) (l : List UInt8) (c : Nat) (t : ByteArray) (w : World) (hr : Reads w w.heap.size 1 A l.length (cellsB l)) (hl : l.length ≤ 80000) (ht : t.size ≤ 1024) :
    Calls Tryd.prog 42 #[.slice A l.length c, .string t] w (OwnPost (l ++ (cTxt 1024).e (lb t)) 0 w) := by
  obtain ⟨i0, hi, hz0, hz1, hz2⟩ := info_parts infoByte
  have HP := Lib.hid (rPut_own A l c t.size w hr (by omega) (by unfold maxNum; omega))
  have hle := encLen_le t.size (by unfold maxNum; omega)
  have hll : (l ++ enc t.size).length = l.length + encLen t.size := by rw [List.length_append]; rfl
  have hlb : (l ++ enc t.size).length ≤ 80006 := by omega
  have hd : decide ((1024 : Int) < (t.size : Int)) = false := by simp; omega
  have hfin : l ++ enc t.size ++ lb t = l ++ (cTxt 1024).e (lb t) := by
    rw [List.append_assoc]; show l ++ (enc t.size ++ lb t) = l ++ (enc (lb t).length ++ lb t); rw [length_lb]
  have HF := Lib.hid hfin
  clear hr hll hfin
  generalize l ++ enc t.size = L at *
  generalize l ++ (cTxt 1024).e (lb t) = M at *
  go_enter Tryd.func42, Tryd.ntmps42
  go_wp2_with (first | (go_at_call 72; refine HP.out.mono ?_; rintro e w1 ⟨A1, c1, rfl, ho1, hc1, hb1⟩) | (at_builtin; refine Lib.wpList_append_own_string _ rfl (.tmp 18) (.tmp 19) 50 9 rfl w.heap.size 5 i0 Tryd.underlying50 Tryd.underlying9 hi hz0 hz1 hz2 _ _ _ rfl ho1 t rfl (by unfold maxLen; omega) (by omega) hb1.size ?_; intro v2 w2 ho2 hg2 hat2))
  have hb2 : Below w.heap.size w w2 := hb1.grown hg2 hb1.size (fun g hg => (ho1.lt g hg).1)
  rw [strCells_lb, ← cellsB_append, ← length_lb t, ← List.length_append, HF.out] at ho2
  obtain ⟨A3, c3, rfl, hc3⟩ := own_slice ho2
  go_ret2
  exact ⟨A3, c3, rfl, ho2, hc3, hb2⟩
end Go.Proofs.YtcockikekgmfkaaDoor
