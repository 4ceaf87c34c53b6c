/-
  The statements' own example (wakes) holds; the document's answers of layer 1 (rovingref01): what Put, Len, Get give.
-/
import Derived.Test.YtlojphajdefkdaaDoorVaG
namespace Go.Proofs.YtlojphajdefkdaaDoor
open Go.RowKit

theorem get_w1 : getOf [128, 0] 0 = (0, 0, 70) := by decide +kernel
theorem get_w2 : getOf [9, 172, 2] 1 = (300, 3, 0) := by decide +kernel
theorem enc300 : enc 300 = [172, 2] := by decide +kernel
theorem reads_new (w : World) (t : TypeId) (l : List UInt8) : Reads (w.alloc (.cells (cellsB l).toArray t)) (w.heap.size + 1) 1 (some ⟨w.heap.size, 0, none⟩) l.length (cellsB l) := by
  refine ⟨by rw [length_cellsB]; omega, fun _ => ⟨_, rfl, Nat.lt_succ_self _, fun j u hu => ?_⟩⟩
  rw [add_none, Nat.zero_add]
  have := (Blk.new w t (cellsB l).toArray).cell j
  rw [this]
  simpa using hu

set_option maxRecDepth 100000 in
set_option maxHeartbeats 400000 in
theorem wakes_any (w : World) (hg : HasErr w) : Calls Tryd.prog 9 #[] w fun e w' => e = .returned (.bool true) ∧ Below w.heap.size w w' := by
  have hp : Calls Tryd.prog 10 #[.slice none 0 0, .int .i64 300] w (BytesPost [172, 2] 0 w) := by
    have := Put_ok none [] 0 300 w Reads.none_ (by decide) (by decide)
    rw [enc300] at this
    exact this
  have HP := Lib.hid hp
  have hlen0 : ∀ W, Calls Tryd.prog 14 #[.int .i64 0] W fun e w' => e = .returned (.int .i64 1) ∧ W = w' := fun W => by
    have := len_ok 0 W (by decide)
    rw [encLen_small 0 (by decide)] at this
    exact this
  have HL0 := Lib.hid hlen0
  have HG := Lib.hid hg
  clear hp hlen0 hg
  go_enter Tryd.func9, Tryd.ntmps9
  go_wp2_with fail
  refine HP.out.mono ?_
  rintro e w1 ⟨A1, c1, rfl, hr1, _, hb1⟩
  have hg1 := HG.out.below hb1 HG.out.lt
  have hrd : Reads (w1.alloc (.cells #[.int .u8 128, .int .u8 0] 5)) (w1.heap.size + 1) 1 (some ⟨w1.heap.size, 0, none⟩) 2 (cellsB [128, 0]) := reads_new w1 5 [128, 0]
  have hb1' : Below w1.heap.size w1 (w1.alloc (.cells #[.int .u8 128, .int .u8 0] 5)) := (Below.refl _ _).alloc (Nat.le_refl _) _
  have hge1 := Get_any (some ⟨w1.heap.size, 0, none⟩) [128, 0] 2 0 (w1.alloc (.cells #[.int .u8 128, .int .u8 0] 5)) (by decide) (hg1.below hb1' hg1.lt) (by simpa using hrd)
  unfold GetPost at hge1
  rw [get_w1] at hge1
  have HGE1 := Lib.hid hge1
  have HG1 := Lib.hid hg1
  clear hg1 hrd hge1
  go_wp2_with fail
  refine HGE1.out.mono ?_
  rintro e w2 ⟨rfl, hb2⟩
  have hb12 : Below w1.heap.size w1 w2 := hb1'.trans (hb2.mono hb1'.size)
  have hg2 := HG1.out.below hb12 HG1.out.lt
  have hrd : Reads (w2.alloc (.cells #[.int .u8 9, .int .u8 172, .int .u8 2] 5)) (w2.heap.size + 1) 1 (some ⟨w2.heap.size, 0, none⟩) 3 (cellsB [9, 172, 2]) := reads_new w2 5 [9, 172, 2]
  have hb2' : Below w2.heap.size w2 (w2.alloc (.cells #[.int .u8 9, .int .u8 172, .int .u8 2] 5)) := (Below.refl _ _).alloc (Nat.le_refl _) _
  have hge2 := Get_any (some ⟨w2.heap.size, 0, none⟩) [9, 172, 2] 3 1 (w2.alloc (.cells #[.int .u8 9, .int .u8 172, .int .u8 2] 5)) (by decide) (hg2.below hb2' hg2.lt) (by simpa using hrd)
  unfold GetPost at hge2
  rw [get_w2] at hge2
  have HGE2 := Lib.hid hge2
  clear hg2 hrd hge2
  go_wp2_with fail
  refine HGE2.out.mono ?_
  rintro e w3 ⟨rfl, hb3⟩
  have hb13 : Below w1.heap.size w1 w3 := hb12.trans ((hb2'.trans (hb3.mono hb2'.size)).mono hb12.size)
  have hcv : (convert 22 9 (.slice A1 2 c1)).run Tryd.prog w3 = .ok (.string ⟨#[172, 2]⟩) w3 := run_string_of (c := c1) Tryd.underlying22 Tryd.underlying5 Tryd.underlying9 (hr1.below hb13)
  clear hr1
  go_wp2_with (go_at_call 14; refine (HL0.out _).mono ?_; rintro e w4 ⟨rfl, rfl⟩)
  go_ret
  exact ⟨rfl, hb1.trans (hb13.mono hb1.size)⟩

set_option maxHeartbeats 400000 in
theorem rPut_no (A : Option Addr) (k c : Nat) (n : Int) (w : World) (h : n < 0 ∨ 1099511627776 < n) :
    Calls Tryd.prog 11 #[.slice A k c, .int .i64 n] w (BytesPost [] 2 w) := by
  rcases h with h | h
  · have hd : decide (n < 0) = true := by simpa using h
    go_enter Tryd.func11, Tryd.ntmps11
    go_wp2
    go_ret2
    exact ⟨none, 0, rfl, Reads.none_, Nat.le_refl _, Below.refl _ _⟩
  · have hd : decide (n < 0) = false := by simp; omega
    have hd2 : decide (1099511627776 < n) = true := by simpa using h
    go_enter Tryd.func11, Tryd.ntmps11
    go_wp2
    go_ret2
    exact ⟨none, 0, rfl, Reads.none_, Nat.le_refl _, Below.refl _ _⟩

set_option maxRecDepth 100000 in
set_option maxHeartbeats 1000000 in
theorem rPut_ok (A : Option Addr) (l : List UInt8) (c : Nat) (n : Nat) (w : World) (hr : Reads w w.heap.size 1 A l.length (cellsB l)) (hl : l.length ≤ 90000) (hn : n ≤ maxNum) :
    Calls Tryd.prog 11 #[.slice A l.length c, .int .i64 n] w (BytesPost (l ++ enc n) 0 w) := by
  obtain ⟨i0, hi, hz0, hz1, hz2⟩ := info_parts infoByte
  have hn' : n ≤ 1099511627776 := hn
  have hd : decide ((n : Int) < 0) = false := by simp
  have hd2 : decide ((1099511627776 : Int) < (n : Int)) = false := by simp; omega
  have HR := Lib.hid hr
  clear hr
  go_enter Tryd.func11, Tryd.ntmps11
  go_wp2_with (at_builtin; refine wpList_append_any _ rfl (.tmp 13) (.tmp 14) 22 rfl w.heap.size 5 i0 (.int .u8 0) 1 1 Tryd.underlying22 hi hz0 hz1 hz2 rfl (by decide) _ 0 [] rfl (World.ownsRow_nil _ _ _ _) w.heap.size A l.length c (cellsB l) rfl HR.out (cellsB_one l) (by unfold maxLen; omega) (by omega) (Nat.le_refl _) ?_; intro v1 w1 hown1 hg1 hat1)
  rw [Nat.zero_add, List.nil_append] at hown1
  have hb1 : Below w.heap.size w w1 := (Below.refl _ _).grown hg1 (Nat.le_refl _) (fun k hk => by cases hk)
  go_loopw [1, 6] (fun y x wr => ∃ (m : Nat) (done : List UInt8), m ≤ 1099511627776 ∧ y = .int .i64 m ∧ wr.ownsRow w.heap.size 5 1 x (l.length + done.length) (cellsB (l ++ done)) ∧ enc n = done ++ enc m ∧ Below w.heap.size w wr) (fun y _ _ => (intOf y).toNat)
  case atStart => exact ⟨n, [], hn', rfl, by simpa using hown1, rfl, hb1⟩
  case round =>
    obtain ⟨m, done, hm, rfl, hox, hen, hbw⟩ := hrel
    have hlen : done.length + encLen m = encLen n := by unfold encLen; rw [hen, List.length_append]
    have hle := encLen_le n hn
    have hpos := encLen_pos m
    have HO := Lib.hid hox
    have HE := Lib.hid hen
    have HL := Lib.hid hlen
    have hdl : done.length ≤ 6 := by omega
    clear hox hen hlen hpos hown1 hg1 hat1
    by_cases hb : 128 ≤ m
    · have hd3 : decide ((128 : Int) ≤ (m : Int)) = true := by simp; omega
      go_wp2_with (at_builtin; refine wpList_append_any _ rfl (.tmp 18) (.tmp 23) 22 rfl w.heap.size 5 i0 (.int .u8 0) 1 1 Tryd.underlying22 hi hz0 hz1 hz2 rfl (by decide) _ _ _ rfl (HO.out.alloc _) _ _ 1 1 [.int .u8 _] rfl (reads_new1 _ _ _) (by simp [Value.oneCell']) (by unfold maxLen; omega) (by omega) (by have := hbw.size; simp; omega) ?_; intro v' w4 hown' hgrow hat')
      go_roundw
      case rel =>
        refine ⟨m / 128, done ++ [UInt8.ofNat (m % 128 + 128)], by omega, by go_num, ?_, ?_, ?_⟩
        · rw [← List.append_assoc, cellsB_append, cellsB_high, List.length_append, ← Nat.add_assoc, Int.add_comm]
          exact hown'
        · rw [HE.out, enc_big m (by omega) hm]; simp
        · exact (hbw.alloc hbw.size _).grown hgrow (by have := hbw.size; simp; omega) (fun g hg => (HO.out.lt g hg).1)
      case measure => simp [intOf]; omega
    · have hd3 : decide ((128 : Int) ≤ (m : Int)) = false := by simp; omega
      go_wp2_with (at_builtin; refine wpList_append_any _ rfl (.tmp 27) (.tmp 30) 22 rfl w.heap.size 5 i0 (.int .u8 0) 1 1 Tryd.underlying22 hi hz0 hz1 hz2 rfl (by decide) _ _ _ rfl (HO.out.alloc _) _ _ 1 1 [.int .u8 _] rfl (reads_new1 _ _ _) (by simp [Value.oneCell']) (by unfold maxLen; omega) (by omega) (by have := hbw.size; simp; omega) ?_; intro v' w4 hown' hgrow hat')
      have hb4 : Below w.heap.size w w4 := (hbw.alloc hbw.size _).grown hgrow (by have := hbw.size; simp; omega) (fun g hg => (HO.out.lt g hg).1)
      have hown2 : w4.ownsRow w.heap.size 5 1 v' (l ++ enc n).length (cellsB (l ++ enc n)) := by
        rw [HE.out, enc_small m (by omega), ← List.append_assoc, cellsB_append, cellsB_low m (by omega), List.length_append, List.length_append]
        exact hown'
      clear hown' hgrow hat'
      go_ret2
      obtain ⟨A4, c4, rfl, hc4⟩ := own_slice hown2
      exact ⟨A4, c4, rfl, Reads.of_own hown2, hc4, hb4⟩

set_option maxHeartbeats 400000 in
theorem rLen_any (n : Int) (w : World) :
    Calls Tryd.prog 15 #[.int .i64 n] w fun e w' => e = .returned (.int .i64 (if n < 0 ∨ 1099511627776 < n then 0 else (encLen n.toNat : Int))) ∧ Below w.heap.size w w' := by
  by_cases h : n < 0 ∨ 1099511627776 < n
  · have HP := Lib.hid (rPut_no none 0 0 n w h)
    rw [if_pos h]
    clear h
    go_enter Tryd.func15, Tryd.ntmps15
    go_wp2_with (go_at_call 11; refine HP.out.mono ?_; rintro e w1 ⟨A, c, rfl, _, _, hb⟩)
    go_ret
    exact ⟨rfl, hb⟩
  · obtain ⟨k, rfl⟩ := Int.eq_ofNat_of_zero_le (show 0 ≤ n by omega)
    have HP := Lib.hid (rPut_ok none [] 0 k w Reads.none_ (by decide) (show k ≤ 1099511627776 by omega))
    rw [if_neg h, Int.toNat_natCast]
    clear h
    go_enter Tryd.func15, Tryd.ntmps15
    go_wp2_with (go_at_call 11; refine HP.out.mono ?_; rintro e w1 ⟨A, c, rfl, _, _, hb⟩)
    go_ret
    exact ⟨rfl, hb⟩

theorem Len_any (n : Int) (w : World) :
    Calls Tryd.prog 14 #[.int .i64 n] w fun e w' => e = .returned (.int .i64 (if n < 0 ∨ 1099511627776 < n then 0 else (encLen n.toNat : Int))) ∧ w = w' := by
  by_cases h : n < 0 ∨ 1099511627776 < n
  · rw [if_pos h]; exact len_no n w h
  · obtain ⟨k, rfl⟩ := Int.eq_ofNat_of_zero_le (show 0 ≤ n by omega)
    rw [if_neg h, Int.toNat_natCast]
    exact len_ok k w (show k ≤ 1099511627776 by omega)
end Go.Proofs.YtlojphajdefkdaaDoor
