/-
  The document's answers of layer 1 (rovingref01): what Put, Len give.
-/
import Derived.Test.YtcockikekgmfkaaDoorVaG
namespace Go.Proofs.YtcockikekgmfkaaDoor
open Go.RowKit

theorem reads_new (w : World) (t : TypeId) (l : List UInt8) : Reads (w.alloc (.cells (cellsB l).toArray t)) (w.heap.size + 1) 1 (some ⟨w.heap.size, 0, none⟩) l.length (cellsB l) := by
  refine ⟨by rw [length_cellsB]; omega, fun _ => ⟨_, rfl, Nat.lt_succ_self _, fun j u hu => ?_⟩⟩
  rw [add_none, Nat.zero_add]
  have := (Blk.new w t (cellsB l).toArray).cell j
  rw [this]
  simpa using hu

set_option maxHeartbeats 400000 in
theorem rPut_no (A : Option Addr) (k c : Nat) (n : Int) (w : World) (h : n < 0 ∨ 1099511627776 < n) :
    Calls Tryd.prog 72 #[.slice A k c, .int .i64 n] w (BytesPost [] 2 w) := by
  rcases h with h | h
  · have hd : decide (n < 0) = true := by simpa using h
    go_enter Tryd.func72, Tryd.ntmps72
    go_wp2
    go_ret2
    exact ⟨none, 0, rfl, Reads.none_, Nat.le_refl _, Below.refl _ _⟩
  · have hd : decide (n < 0) = false := by simp; omega
    have hd2 : decide (1099511627776 < n) = true := by simpa using h
    go_enter Tryd.func72, Tryd.ntmps72
    go_wp2
    go_ret2
    exact ⟨none, 0, rfl, Reads.none_, Nat.le_refl _, Below.refl _ _⟩

set_option maxRecDepth 100000 in
set_option maxHeartbeats 1000000 in
theorem rPut_own (A : Option Addr) (l : List UInt8) (c : Nat) (n : Nat) (w : World) (hr : Reads w w.heap.size 1 A l.length (cellsB l)) (hl : l.length ≤ 90000) (hn : n ≤ maxNum) :
    Calls Tryd.prog 72 #[.slice A l.length c, .int .i64 n] w (OwnPost (l ++ enc n) 0 w) := by
  obtain ⟨i0, hi, hz0, hz1, hz2⟩ := info_parts infoByte
  have hn' : n ≤ 1099511627776 := hn
  have hd : decide ((n : Int) < 0) = false := by simp
  have hd2 : decide ((1099511627776 : Int) < (n : Int)) = false := by simp; omega
  have HR := Lib.hid hr
  clear hr
  go_enter Tryd.func72, Tryd.ntmps72
  go_wp2_with (at_builtin; refine wpList_append_any _ rfl (.tmp 13) (.tmp 14) 50 rfl w.heap.size 5 i0 (.int .u8 0) 1 1 Tryd.underlying50 hi hz0 hz1 hz2 rfl (by decide) _ 0 [] rfl (World.ownsRow_nil _ _ _ _) w.heap.size A l.length c (cellsB l) rfl HR.out (cellsB_one l) (by unfold maxLen; omega) (by omega) (Nat.le_refl _) ?_; intro v1 w1 hown1 hg1 hat1)
  rw [Nat.zero_add, List.nil_append] at hown1
  have hb1 : Below w.heap.size w w1 := (Below.refl _ _).grown hg1 (Nat.le_refl _) (fun k hk => by cases hk)
  go_loopw [1, 6] (fun y x wr => ∃ (m : Nat) (done : List UInt8), m ≤ 1099511627776 ∧ y = .int .i64 m ∧ wr.ownsRow w.heap.size 5 1 x (l.length + done.length) (cellsB (l ++ done)) ∧ enc n = done ++ enc m ∧ Below w.heap.size w wr) (fun y _ _ => (intOf y).toNat)
  case atStart => exact ⟨n, [], hn', rfl, by simpa using hown1, rfl, hb1⟩
  case round =>
    obtain ⟨m, done, hm, rfl, hox, hen, hbw⟩ := hrel
    have hlen : done.length + encLen m = encLen n := by unfold encLen; rw [hen, List.length_append]
    have hle := encLen_le n hn
    have hpos := encLen_pos m
    have HO := Lib.hid hox
    have HE := Lib.hid hen
    have HL := Lib.hid hlen
    have hdl : done.length ≤ 6 := by omega
    clear hox hen hlen hpos hown1 hg1 hat1
    by_cases hb : 128 ≤ m
    · have hd3 : decide ((128 : Int) ≤ (m : Int)) = true := by simp; omega
      go_wp2_with (at_builtin; refine wpList_append_any _ rfl (.tmp 18) (.tmp 23) 50 rfl w.heap.size 5 i0 (.int .u8 0) 1 1 Tryd.underlying50 hi hz0 hz1 hz2 rfl (by decide) _ _ _ rfl (HO.out.alloc _) _ _ 1 1 [.int .u8 _] rfl (reads_new1 _ _ _) (by simp [Value.oneCell']) (by unfold maxLen; omega) (by omega) (by have := hbw.size; simp; omega) ?_; intro v' w4 hown' hgrow hat')
      go_roundw
      case rel =>
        refine ⟨m / 128, done ++ [UInt8.ofNat (m % 128 + 128)], by omega, by go_num, ?_, ?_, ?_⟩
        · rw [← List.append_assoc, cellsB_append, cellsB_high, List.length_append, ← Nat.add_assoc, Int.add_comm]
          exact hown'
        · rw [HE.out, enc_big m (by omega) hm]; simp
        · exact (hbw.alloc hbw.size _).grown hgrow (by have := hbw.size; simp; omega) (fun g hg => (HO.out.lt g hg).1)
      case measure => simp [intOf]; omega
    · have hd3 : decide ((128 : Int) ≤ (m : Int)) = false := by simp; omega
      go_wp2_with (at_builtin; refine wpList_append_any _ rfl (.tmp 27) (.tmp 30) 50 rfl w.heap.size 5 i0 (.int .u8 0) 1 1 Tryd.underlying50 hi hz0 hz1 hz2 rfl (by decide) _ _ _ rfl (HO.out.alloc _) _ _ 1 1 [.int .u8 _] rfl (reads_new1 _ _ _) (by simp [Value.oneCell']) (by unfold maxLen; omega) (by omega) (by have := hbw.size; simp; omega) ?_; intro v' w4 hown' hgrow hat')
      have hb4 : Below w.heap.size w w4 := (hbw.alloc hbw.size _).grown hgrow (by have := hbw.size; simp; omega) (fun g hg => (HO.out.lt g hg).1)
      have hown2 : w4.ownsRow w.heap.size 5 1 v' (l ++ enc n).length (cellsB (l ++ enc n)) := by
        rw [HE.out, enc_small m (by omega), ← List.append_assoc, cellsB_append, cellsB_low m (by omega), List.length_append, List.length_append]
        exact hown'
      clear hown' hgrow hat'
      go_ret2
      obtain ⟨A4, c4, rfl, hc4⟩ := own_slice hown2
      exact ⟨A4, c4, rfl, hown2, hc4, hb4⟩
theorem rPut_ok (A : Option Addr) (l : List UInt8) (c : Nat) (n : Nat) (w : World) (hr : Reads w w.heap.size 1 A l.length (cellsB l)) (hl : l.length ≤ 90000) (hn : n ≤ maxNum) :
    Calls Tryd.prog 72 #[.slice A l.length c, .int .i64 n] w (BytesPost (l ++ enc n) 0 w) := (rPut_own A l c n w hr hl hn).mono fun _ _ h => h.bytes

set_option maxHeartbeats 400000 in
theorem rLen_any (n : Int) (w : World) :
    Calls Tryd.prog 75 #[.int .i64 n] w fun e w' => e = .returned (.int .i64 (if n < 0 ∨ 1099511627776 < n then 0 else (encLen n.toNat : Int))) ∧ Below w.heap.size w w' := by
  by_cases h : n < 0 ∨ 1099511627776 < n
  · have HP := Lib.hid (rPut_no none 0 0 n w h)
    rw [if_pos h]
    clear h
    go_enter Tryd.func75, Tryd.ntmps75
    go_wp2_with (go_at_call 72; refine HP.out.mono ?_; rintro e w1 ⟨A, c, rfl, _, _, hb⟩)
    go_ret
    exact ⟨rfl, hb⟩
  · obtain ⟨k, rfl⟩ := Int.eq_ofNat_of_zero_le (show 0 ≤ n by omega)
    have HP := Lib.hid (rPut_ok none [] 0 k w Reads.none_ (by decide) (show k ≤ 1099511627776 by omega))
    rw [if_neg h, Int.toNat_natCast]
    clear h
    go_enter Tryd.func75, Tryd.ntmps75
    go_wp2_with (go_at_call 72; refine HP.out.mono ?_; rintro e w1 ⟨A, c, rfl, _, _, hb⟩)
    go_ret
    exact ⟨rfl, hb⟩

theorem Len_any (n : Int) (w : World) :
    Calls Tryd.prog 74 #[.int .i64 n] w fun e w' => e = .returned (.int .i64 (if n < 0 ∨ 1099511627776 < n then 0 else (encLen n.toNat : Int))) ∧ w = w' := by
  by_cases h : n < 0 ∨ 1099511627776 < n
  · rw [if_pos h]; exact len_no n w h
  · obtain ⟨k, rfl⟩ := Int.eq_ofNat_of_zero_le (show 0 ≤ n by omega)
    rw [if_neg h, Int.toNat_natCast]
    exact len_ok k w (show k ≤ 1099511627776 by omega)
end Go.Proofs.YtcockikekgmfkaaDoor
