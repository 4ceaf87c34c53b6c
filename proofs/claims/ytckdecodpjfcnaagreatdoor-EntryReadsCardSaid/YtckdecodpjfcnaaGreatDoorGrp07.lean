/-
  Layer 2, writing: numbers, texts, flags behind bytes; of the program and of the document.
  The document's answers of layer 1 (rovingref01): what Put, Len give.
  The document's answer of layer 1, Get: what it gives.
-/
import Derived.Test.YtckdecodpjfcnaaGreatDoorGrp06
import Derived.Test.YtckdecodpjfcnaaGreatDoorGrp02
import Derived.Lib.AppendStr
import Derived.Lib.AppendZeros
import Derived.LoopN
import Derived.Outline
set_option linter.unusedVariables false
set_option linter.unusedSimpArgs false
namespace Go.Proofs.YtckdecodpjfcnaaGreatDoor
open Go.RowKit

theorem reads_new (w : World) (t : TypeId) (l : List UInt8) : Reads (w.alloc (.cells (cellsB l).toArray t)) (w.heap.size + 1) 1 (some ⟨w.heap.size, 0, none⟩) l.length (cellsB l) := by
  refine ⟨by rw [length_cellsB]; omega, fun _ => ⟨_, rfl, Nat.lt_succ_self _, fun j u hu => ?_⟩⟩
  rw [add_none, Nat.zero_add]
  have := (Blk.new w t (cellsB l).toArray).cell j
  rw [this]
  simpa using hu

set_option maxHeartbeats 400000 in
theorem rPut_no (A : Option Addr) (k c : Nat) (n : Int) (w : World) (h : n < 0 ∨ 1099511627776 < n) :
    Calls Tryz.prog 69 #[.slice A k c, .int .i64 n] w (BytesPost [] 2 w) := by
  rcases h with h | h
  · have hd : decide (n < 0) = true := by simpa using h
    go_enter Tryz.func69, Tryz.ntmps69
    go_wp2
    go_ret2
    exact ⟨none, 0, rfl, Reads.none_, Nat.le_refl _, Below.refl _ _⟩
  · have hd : decide (n < 0) = false := by simp; omega
    have hd2 : decide (1099511627776 < n) = true := by simpa using h
    go_enter Tryz.func69, Tryz.ntmps69
    go_wp2
    go_ret2
    exact ⟨none, 0, rfl, Reads.none_, Nat.le_refl _, Below.refl _ _⟩

set_option maxRecDepth 100000 in
set_option maxHeartbeats 1000000 in
theorem rPut_own (A : Option Addr) (l : List UInt8) (c : Nat) (n : Nat) (w : World) (hr : Reads w w.heap.size 1 A l.length (cellsB l)) (hl : l.length ≤ 90000) (hn : n ≤ maxNum) :
    Calls Tryz.prog 69 #[.slice A l.length c, .int .i64 n] w (OwnPost (l ++ enc n) 0 w) := by
  obtain ⟨i0, hi, hz0, hz1, hz2⟩ := info_parts infoByte
  have hn' : n ≤ 1099511627776 := hn
  have hd : decide ((n : Int) < 0) = false := by simp
  have hd2 : decide ((1099511627776 : Int) < (n : Int)) = false := by simp; omega
  have HR := Lib.hid hr
  clear hr
  go_enter Tryz.func69, Tryz.ntmps69
  go_wp2_with (at_builtin; refine wpList_append_any _ rfl (.tmp 13) (.tmp 14) 46 rfl w.heap.size 5 i0 (.int .u8 0) 1 1 Tryz.underlying46 hi hz0 hz1 hz2 rfl (by decide) _ 0 [] rfl (World.ownsRow_nil _ _ _ _) w.heap.size A l.length c (cellsB l) rfl HR.out (cellsB_one l) (by unfold maxLen; omega) (by omega) (Nat.le_refl _) ?_; intro v1 w1 hown1 hg1 hat1)
  rw [Nat.zero_add, List.nil_append] at hown1
  have hb1 : Below w.heap.size w w1 := (Below.refl _ _).grown hg1 (Nat.le_refl _) (fun k hk => by cases hk)
  go_loopw [1, 6] (fun y x wr => ∃ (m : Nat) (done : List UInt8), m ≤ 1099511627776 ∧ y = .int .i64 m ∧ wr.ownsRow w.heap.size 5 1 x (l.length + done.length) (cellsB (l ++ done)) ∧ enc n = done ++ enc m ∧ Below w.heap.size w wr) (fun y _ _ => (intOf y).toNat)
  case atStart => exact ⟨n, [], hn', rfl, by simpa using hown1, rfl, hb1⟩
  case round =>
    obtain ⟨m, done, hm, rfl, hox, hen, hbw⟩ := hrel
    have hlen : done.length + encLen m = encLen n := by unfold encLen; rw [hen, List.length_append]
    have hle := encLen_le n hn
    have hpos := encLen_pos m
    have HO := Lib.hid hox
    have HE := Lib.hid hen
    have HL := Lib.hid hlen
    have hdl : done.length ≤ 6 := by omega
    clear hox hen hlen hpos hown1 hg1 hat1
    by_cases hb : 128 ≤ m
    · have hd3 : decide ((128 : Int) ≤ (m : Int)) = true := by simp; omega
      go_wp2_with (at_builtin; refine wpList_append_any _ rfl (.tmp 18) (.tmp 23) 46 rfl w.heap.size 5 i0 (.int .u8 0) 1 1 Tryz.underlying46 hi hz0 hz1 hz2 rfl (by decide) _ _ _ rfl (HO.out.alloc _) _ _ 1 1 [.int .u8 _] rfl (reads_new1 _ _ _) (by simp [Value.oneCell']) (by unfold maxLen; omega) (by omega) (by have := hbw.size; simp; omega) ?_; intro v' w4 hown' hgrow hat')
      go_roundw
      case rel =>
        refine ⟨m / 128, done ++ [UInt8.ofNat (m % 128 + 128)], by omega, by go_num, ?_, ?_, ?_⟩
        · rw [← List.append_assoc, cellsB_append, cellsB_high, List.length_append, ← Nat.add_assoc, Int.add_comm]
          exact hown'
        · rw [HE.out, enc_big m (by omega) hm]; simp
        · exact (hbw.alloc hbw.size _).grown hgrow (by have := hbw.size; simp; omega) (fun g hg => (HO.out.lt g hg).1)
      case measure => simp [intOf]; omega
    · have hd3 : decide ((128 : Int) ≤ (m : Int)) = false := by simp; omega
      go_wp2_with (at_builtin; refine wpList_append_any _ rfl (.tmp 27) (.tmp 30) 46 rfl w.heap.size 5 i0 (.int .u8 0) 1 1 Tryz.underlying46 hi hz0 hz1 hz2 rfl (by decide) _ _ _ rfl (HO.out.alloc _) _ _ 1 1 [.int .u8 _] rfl (reads_new1 _ _ _) (by simp [Value.oneCell']) (by unfold maxLen; omega) (by omega) (by have := hbw.size; simp; omega) ?_; intro v' w4 hown' hgrow hat')
      have hb4 : Below w.heap.size w w4 := (hbw.alloc hbw.size _).grown hgrow (by have := hbw.size; simp; omega) (fun g hg => (HO.out.lt g hg).1)
      have hown2 : w4.ownsRow w.heap.size 5 1 v' (l ++ enc n).length (cellsB (l ++ enc n)) := by
        rw [HE.out, enc_small m (by omega), ← List.append_assoc, cellsB_append, cellsB_low m (by omega), List.length_append, List.length_append]
        exact hown'
      clear hown' hgrow hat'
      go_ret2
      obtain ⟨A4, c4, rfl, hc4⟩ := own_slice hown2
      exact ⟨A4, c4, rfl, hown2, hc4, hb4⟩
theorem rPut_ok (A : Option Addr) (l : List UInt8) (c : Nat) (n : Nat) (w : World) (hr : Reads w w.heap.size 1 A l.length (cellsB l)) (hl : l.length ≤ 90000) (hn : n ≤ maxNum) :
    Calls Tryz.prog 69 #[.slice A l.length c, .int .i64 n] w (BytesPost (l ++ enc n) 0 w) := (rPut_own A l c n w hr hl hn).mono fun _ _ h => h.bytes

theorem Len_any (n : Int) (w : World) :
    Calls Tryz.prog 96 #[.int .i64 n] w fun e w' => e = .returned (.int .i64 (if n < 0 ∨ 1099511627776 < n then 0 else (encLen n.toNat : Int))) ∧ w = w' := by
  by_cases h : n < 0 ∨ 1099511627776 < n
  · rw [if_pos h]; exact len_no n w h
  · obtain ⟨k, rfl⟩ := Int.eq_ofNat_of_zero_le (show 0 ≤ n by omega)
    rw [if_neg h, Int.toNat_natCast]
    exact len_ok k w (show k ≤ 1099511627776 by omega)
end Go.Proofs.YtckdecodpjfcnaaGreatDoor
namespace Go.Proofs.YtckdecodpjfcnaaGreatDoor
open Go.RowKit

theorem getOf_bad (L : List UInt8) (k : Nat) (h : dec (L.drop k) = none) (hk : k ≤ L.length) : getOf L k = (0, 0, 70) := by
  unfold getOf
  rw [if_neg (by omega), Int.toNat_natCast, h]
theorem getOf_ok (L : List UInt8) (k n m : Nat) (h : dec (L.drop k) = some (n, m)) (hk : k ≤ L.length) : getOf L k = ((n : Int), (k : Int) + m, 0) := by
  unfold getOf
  rw [if_neg (by omega), Int.toNat_natCast, h]

theorem acc_lt (acc P U : Nat) (h : acc < U) (h2 : P ≤ 127 * U) : acc + P < U * 128 := by omega

set_option maxRecDepth 100000 in
set_option maxHeartbeats 1000000 in
theorem rGet_any (A : Option Addr) (L : List UInt8) (c B : Nat) (k : Int) (w : World) (hL : L.length ≤ 100000) (hr : Reads w B 1 A L.length (cellsB L)) :
    Calls Tryz.prog 85 #[.slice A L.length c, .int .i64 k] w fun e w' => e = .returned (.tuple #[.int .i64 (getOf L k).1, .int .i64 (getOf L k).2.1, .int .i64 (getOf L k).2.2]) ∧ w = w' := by
  by_cases h1 : k < 0
  · have hd : decide (k < 0) = true := by simpa using h1
    rw [show getOf L k = (0, 0, 70) by unfold getOf; rw [if_pos (.inl h1)]]
    go_enter Tryz.func85, Tryz.ntmps85
    go_wp2
    go_ret3
    exact ⟨rfl, rfl⟩
  · obtain ⟨k, rfl⟩ := Int.eq_ofNat_of_zero_le (show 0 ≤ k by omega)
    have hd : decide ((k : Int) < 0) = false := by simp
    by_cases h2 : L.length < k
    · have hd2 : decide (L.length < k) = true := by simpa using h2
      rw [show getOf L k = (0, 0, 70) by unfold getOf; rw [if_pos (.inr (by omega))]]
      clear h1
      go_enter Tryz.func85, Tryz.ntmps85
      go_wp2
      go_ret3
      exact ⟨rfl, rfl⟩
    · have hd2 : decide (L.length < k) = false := by simp; omega
      have hkl : k ≤ L.length := by omega
      clear h1 h2
      go_enter Tryz.func85, Tryz.ntmps85
      go_wp2
      go_loop [7, 8, 9] (fun x u y => ∃ j acc U : Nat, j ≤ 6 ∧ k + j ≤ L.length ∧ y = .int .i64 ((k + j : Nat) : Int) ∧ x = .int .i64 acc ∧ u = .int .i64 U ∧ U = 128 ^ j ∧ acc < 128 ^ j ∧ dec (L.drop k) = decF (6 - j) j acc (L.drop (k + j))) (fun _ _ y => L.length - (intOf y).toNat)
      case atStart => exact ⟨0, 0, 1, by omega, hkl, rfl, rfl, rfl, rfl, by decide, rfl⟩
      case round =>
        obtain ⟨j, acc, U, hj, hkj, rfl, rfl, rfl, hU, hacc, hdec⟩ := hrel
        have hU6 : U ≤ 4398046511104 := by
          rw [hU]
          have := Nat.pow_le_pow_right (show 0 < 128 by omega) hj
          have e6 : (128 : Nat) ^ 6 = 4398046511104 := by decide
          omega
        have haccU : acc < U := by rw [hU]; exact hacc
        have HU := Lib.hid hU
        by_cases hgo : k + j < L.length ∧ j < 6
        · obtain ⟨hlt, hj6⟩ := hgo
          obtain ⟨b1, o1, rfl, _, hc1⟩ := hr.plain (by omega)
          obtain ⟨ch, hch⟩ : ∃ ch, L[k + j]? = some ch := ⟨_, List.getElem?_eq_getElem hlt⟩
          have g1 : w.cell? ⟨b1, o1 + (k + j), none⟩ = some (.int .u8 (ch.toNat : Int)) := hc1 (k + j) _ (by rw [getElem?_cellsB, hch]; rfl)
          have hcl : ch.toNat < 256 := UInt8.toNat_lt ch
          have hdr : L.drop (k + j) = ch :: L.drop (k + (j + 1)) := by
            rw [List.drop_eq_getElem_cons hlt]
            congr 1
            exact (List.getElem?_eq_some_iff.1 hch).2
          obtain ⟨f, hf6, hf7⟩ : ∃ f, 6 - j = f + 1 ∧ 6 - (j + 1) = f := ⟨5 - j, by omega, by omega⟩
          have hU5 : U ≤ 34359738368 := by
            rw [hU]
            have := Nat.pow_le_pow_right (show 0 < 128 by omega) (show j ≤ 5 by omega)
            have e5 : (128 : Nat) ^ 5 = 34359738368 := by decide
            omega
          have hPm : ch.toNat % 128 * U ≤ 127 * U := Nat.mul_le_mul_right _ (by omega)
          generalize hP : ch.toNat % 128 * U = P at hPm
          have hPx : (U : Int) * ((ch.toNat : Int) % 128) = (P : Int) := by rw [← hP]; push_cast; rw [Int.mul_comm]
          have hmul : wrap64 ((U : Int) * ((ch.toNat : Int) % 128)) = (P : Int) := by rw [hPx]; exact IntWalk.wrap64_in _ ⟨by omega, by omega⟩
          have HD2 := hdec
          rw [hdr, hf6] at HD2
          have hAdd : acc + ch.toNat % 128 * 128 ^ j = acc + P := by rw [← hP, hU]
          have hacc2 : acc + P < 128 ^ (j + 1) := by rw [Nat.pow_succ, ← hU]; exact acc_lt acc P U haccU hPm
          have hd3 : decide (((k + j : Nat) : Int) < (L.length : Int)) = true := by simp; omega
          have hd4 : decide (((k + j : Nat) : Int) < (k : Int) + 6) = true := by simp; omega
          have HPX := Lib.hid hPx
          have HACC := Lib.hid hacc2
          have HF7 := Lib.hid hf7
          clear hPx hch hc1 hr hdr hf6 hf7 hacc2 hacc hdec hU hP
          by_cases h128 : 128 ≤ ch.toNat
          · have hst := decF_step f j acc ch (L.drop (k + (j + 1))) h128
            rw [hAdd] at hst
            rw [hst] at HD2
            have HDN := Lib.hid HD2
            have hd5 : decide ((ch.toNat : Int) < 128) = false := by simp; omega
            clear hst HD2 hAdd
            go_wp2
            go_round
            case rel => exact ⟨j + 1, acc + P, U * 128, by omega, by omega, by go_num, by go_num, by go_num, by rw [HU.out, Nat.pow_succ], HACC.out, by rw [HF7.out]; exact HDN.out⟩
            case measure => simp [intOf]; omega
          · have hst := decF_stop f j acc ch (L.drop (k + (j + 1))) (by omega)
            rw [hAdd] at hst
            rw [hst] at HD2
            have hd5 : decide ((ch.toNat : Int) < 128) = true := by simp; omega
            clear hst hAdd
            by_cases hbad : (ch.toNat = 0 ∧ 0 < j) ∨ maxNum < acc + P
            · rw [if_pos hbad] at HD2
              have HFIN := Lib.hid (getOf_bad L k HD2 hkl)
              clear HD2
              unfold maxNum at hbad
              by_cases hm1 : 1099511627776 < acc + P
              · have hm : decide ((1099511627776 : Int) < (acc : Int) + (P : Int)) = true := by simp; omega
                clear hbad
                go_wp2
                go_ret3
                exact ⟨by rw [HFIN.out]; rfl, rfl⟩
              · have hm : decide ((1099511627776 : Int) < (acc : Int) + (P : Int)) = false := by simp; omega
                have hz0 : ch.toNat = 0 := by omega
                have hj0 : 0 < j := by omega
                have g2 : w.cell? ⟨b1, o1 + (k + j), none⟩ = some (.int .u8 0) := by rw [g1, hz0]; rfl
                have hm2 : (P : Int) = 0 := by have := HPX.out; rw [← this, hz0]; simp
                have hd6 : decide ((k : Int) < ((k + j : Nat) : Int)) = true := by simp; omega
                clear hbad g1 hmul hz0
                go_wp2
                go_ret3
                exact ⟨by rw [HFIN.out]; rfl, rfl⟩
            · rw [if_neg hbad] at HD2
              have HFIN := Lib.hid (getOf_ok L k (acc + P) (j + 1) HD2 hkl)
              clear HD2
              unfold maxNum at hbad
              have hm : decide ((1099511627776 : Int) < (acc : Int) + (P : Int)) = false := by simp; omega
              have hfin : ∀ v, v = Ending.returned (.tuple #[.int .i64 ((acc : Int) + (P : Int)), .int .i64 ((k : Int) + (j : Int) + 1), .int .i64 0]) → v = .returned (.tuple #[.int .i64 (getOf L k).1, .int .i64 (getOf L k).2.1, .int .i64 (getOf L k).2.2]) := fun v hv => by
                have e1 : (k : Int) + ((j + 1 : Nat) : Int) = (k : Int) + (j : Int) + 1 := by omega
                have e2 : ((acc + P : Nat) : Int) = (acc : Int) + (P : Int) := by omega
                rw [hv, HFIN.out]
                simp only [e1, e2]
              have HFIN2 := Lib.hid hfin
              clear hfin
              by_cases hj0 : 0 < j
              · have hz1 : ((ch.toNat : Int) == 0) = false := beq_eq_false_iff_ne.2 (by omega)
                have hd6 : decide ((k : Int) < ((k + j : Nat) : Int)) = true := by simp; omega
                clear hbad
                go_wp2
                go_ret3
                exact ⟨HFIN2.out _ rfl, rfl⟩
              · have hd6 : decide ((k : Int) < ((k + j : Nat) : Int)) = false := by simp; omega
                clear hbad
                go_wp2
                go_ret3
                exact ⟨HFIN2.out _ rfl, rfl⟩
        · have hnone : dec (L.drop k) = none := by
            rw [hdec]
            rcases Nat.lt_or_ge j 6 with h6 | h6
            · rw [List.drop_eq_nil_of_le (by omega)]
              obtain ⟨f, hf⟩ : ∃ f, 6 - j = f + 1 := ⟨5 - j, by omega⟩
              rw [hf]; rfl
            · rw [show 6 - j = 0 by omega]; rfl
          have HFIN := Lib.hid (getOf_bad L k hnone hkl)
          clear hnone hdec hacc hU hr
          by_cases hlt : k + j < L.length
          · have hd3 : decide (((k + j : Nat) : Int) < (L.length : Int)) = true := by simp; omega
            obtain rfl : j = 6 := by omega
            clear hgo
            go_wp2
            go_ret3
            exact ⟨by rw [HFIN.out]; rfl, rfl⟩
          · have hd3 : decide (((k + j : Nat) : Int) < (L.length : Int)) = false := by simp; omega
            clear hgo
            go_wp2
            go_ret3
            exact ⟨by rw [HFIN.out]; rfl, rfl⟩
end Go.Proofs.YtckdecodpjfcnaaGreatDoor
namespace Go.Proofs.YtckdecodpjfcnaaGreatDoor
open Go.RowKit

/-- A slice of bytes of the call's own. -/
def OwnVal (l : List UInt8) (w : World) (e : Ending) (w' : World) : Prop :=
  ∃ A c, e = .returned (.slice A l.length c) ∧ w'.ownsRow w.heap.size 5 1 (.slice A l.length c) l.length (cellsB l) ∧ l.length ≤ c ∧ Below w.heap.size w w'

theorem strCells_lb (s : ByteArray) : Lib.strCells s = cellsB (lb s) := rfl

set_option maxRecDepth 100000 in
set_option maxHeartbeats 400000 in
theorem Grow_any (n : Nat) (w : World) (h0 : 0 < n) (hn : n ≤ 200000) :
    Calls Tryz.prog 122 #[.slice none 0 0, .int .i64 n] w (OwnVal [] w) := by
  obtain ⟨i0, hi, hz0, hz1, hz2⟩ := info_parts infoByte
  have hrun := fun W => Lib.run_append_nil_zeros (P := Tryz.prog) W 46 3 46 5 i0 _ .i64 .i64 Tryz.underlying46 Tryz.underlying3 hi hz0 n h0 (by rw [hz1]; decide) (by omega) (by rw [hz2]; omega)
  have hcap := grownCap_ge w n 0 5
  have hcm := grownCap_le_maxLen w n 0 5 (by unfold maxLen; omega)
  have HRUN := Lib.hid (hrun w)
  generalize hgc : grownCap w n 0 5 = gc at *
  clear hrun
  have hnn : ¬ (n : Int) < 0 := by omega
  have hc2 := fun W => (cut_upto (P := Tryz.prog) (t := 46) (w := W) (B := W.heap.size) (A := none) (c := 0) (xs := []) Tryz.underlying46 (fun _ => by kernel_rfl) Reads.none_ 0 (Nat.le_refl _) (Nat.le_refl _)).1
  go_enter Tryz.func122, Tryz.ntmps122
  go_wp2_with (at_builtin; refine Lib.wpList_append_run _ rfl (.tmp 20) (.tmp 21) 46 3 rfl _ _ rfl rfl _ _ HRUN.out ?_)
  go_ret
  refine ⟨some ⟨w.heap.size, 0, none⟩, gc, rfl, ⟨by simp [cellsB], .inr ⟨w.heap.size, gc, _, rfl, Nat.le_refl _, heap_alloc_new w.drew _, Nat.zero_le _, hcm, ?_, by simp [cellsB]⟩⟩, Nat.zero_le _, (Below.refl _ w).drew.alloc (Nat.le_refl _) _⟩
  simp [size_zeroCells, Value.cells]
  omega

set_option maxRecDepth 100000 in
set_option maxHeartbeats 1000000 in
theorem Concat_any (b : Nat) (A A2 : Option Addr) (l l2 : List UInt8) (c c2 : Nat) (w : World) (h0 : w.cell? ⟨b, 0, none⟩ = some (.slice A l.length c)) (h1 : w.cell? ⟨b, 1, none⟩ = some (.slice A2 l2.length c2))
    (hr : Reads w w.heap.size 1 A l.length (cellsB l)) (hr2 : Reads w w.heap.size 1 A2 l2.length (cellsB l2)) (hl : l.length ≤ 90000) (hl2 : l2.length ≤ 90000) (hp : 0 < l2.length) :
    Calls Tryz.prog 110 #[.slice (some ⟨b, 0, none⟩) 2 2] w (OwnVal (l ++ l2) w) := by
  obtain ⟨i0, hi, hz0, hz1, hz2⟩ := info_parts infoByte
  have HG := Lib.hid (Grow_any (l.length + l2.length) w (by omega) (by omega))
  have HR := Lib.hid hr
  have HR2 := Lib.hid hr2
  have hbl := block_lt_of_cell h0
  have H0 := Lib.hid h0
  have H1 := Lib.hid h1
  clear hr hr2
  go_enter Tryz.func110, Tryz.ntmps110
  go_wp2_with fail
  refine wp_loop_rounds 3 ?_
  rw [rounds_succ]
  go_wp2_with fail
  rw [rounds_succ]
  go_wp2_with fail
  rw [rounds_succ]
  go_wp2_with fail
  refine HG.out.mono ?_
  rintro e w1 ⟨A1, c1, rfl, ho1, hc1, hb1⟩
  have hx0 := (hb1.cell (p := ⟨b, 0, none⟩) hbl).trans H0.out
  have hx1 := (hb1.cell (p := ⟨b, 1, none⟩) hbl).trans H1.out
  have hz3 := hb1.size
  clear h0 h1
  go_wp2_with fail
  refine wp_loop_rounds 3 ?_
  rw [rounds_succ]
  go_wp2_with (at_builtin; refine wpList_append_any _ rfl (.tmp 31) (.tmp 32) 46 rfl w.heap.size 5 i0 (.int .u8 0) 1 1 Tryz.underlying46 hi hz0 hz1 hz2 rfl (by decide) (.slice A1 0 c1) 0 ([]) rfl ho1 w1.heap.size A l.length c (cellsB l) rfl ((HR.out.below hb1).more hz3) (cellsB_one _) (by unfold maxLen; omega) (by omega) hz3 ?_; intro v2 w2 ho2 hg2 hat2)
  rw [Nat.zero_add, List.nil_append] at ho2
  have hb2 : Below w.heap.size w w2 := hb1.grown hg2 hz3 (fun g hg => (ho1.lt g hg).1)
  have hz4 := hb2.size
  have hy1 := (hb2.cell (p := ⟨b, 1, none⟩) hbl).trans H1.out
  have HO2 := Lib.hid ho2
  clear ho1 hg2 hat2 ho2 hx0 hx1
  rw [rounds_succ]
  go_wp2_with (at_builtin; refine wpList_append_any _ rfl (.tmp 31) (.tmp 32) 46 rfl w.heap.size 5 i0 (.int .u8 0) 1 1 Tryz.underlying46 hi hz0 hz1 hz2 rfl (by decide) (v2) l.length (cellsB l) rfl HO2.out w2.heap.size A2 l2.length c2 (cellsB l2) rfl ((HR2.out.below hb2).more hz4) (cellsB_one _) (by unfold maxLen; omega) (by omega) hz4 ?_; intro v3 w3 ho3 hg3 hat3)
  rw [rounds_succ]
  go_wp2_with fail
  have hb3 : Below w.heap.size w w3 := hb2.grown hg3 hz4 (fun g hg => (HO2.out.lt g hg).1)
  rw [← cellsB_append, ← List.length_append] at ho3
  obtain ⟨A3, c3, rfl, hc3⟩ := own_slice ho3
  go_ret
  exact ⟨A3, c3, rfl, ho3, hc3, hb3⟩

theorem Number_no (A : Option Addr) (k c : Nat) (n : Int) (w : World) (h : n < 0 ∨ 1099511627776 < n) :
    Calls Tryz.prog 109 #[.slice A k c, .int .i64 n] w (BytesPost [] 2 w) := by
  have HP := Lib.hid (Put_no A k c n w h)
  clear h
  go_enter Tryz.func109, Tryz.ntmps109
  go_wp2_with (go_at_call 121; refine HP.out.mono ?_; rintro e w1 ⟨A1, c1, rfl, hr1, hc1, hb1⟩)
  go_ret2
  exact ⟨A1, c1, rfl, hr1, hc1, hb1⟩
theorem Number_ok (A : Option Addr) (l : List UInt8) (c : Nat) (n : Nat) (w : World) (hr : Reads w w.heap.size 1 A l.length (cellsB l)) (hl : l.length ≤ 90000) (hn : n ≤ maxNum) :
    Calls Tryz.prog 109 #[.slice A l.length c, .int .i64 n] w (BytesPost (l ++ enc n) 0 w) := by
  have HP := Lib.hid (Put_ok A l c n w hr hl hn)
  clear hr
  generalize l ++ enc n = L at *
  go_enter Tryz.func109, Tryz.ntmps109
  go_wp2_with (go_at_call 121; refine HP.out.mono ?_; rintro e w1 ⟨A1, c1, rfl, hr1, hc1, hb1⟩)
  go_ret2
  exact ⟨A1, c1, rfl, hr1, hc1, hb1⟩
theorem rNumber_no (A : Option Addr) (k c : Nat) (n : Int) (w : World) (h : n < 0 ∨ 1099511627776 < n) :
    Calls Tryz.prog 68 #[.slice A k c, .int .i64 n] w (BytesPost [] 2 w) := by
  have HP := Lib.hid (rPut_no A k c n w h)
  clear h
  go_enter Tryz.func68, Tryz.ntmps68
  go_wp2_with (go_at_call 69; refine HP.out.mono ?_; rintro e w1 ⟨A1, c1, rfl, hr1, hc1, hb1⟩)
  go_ret2
  exact ⟨A1, c1, rfl, hr1, hc1, hb1⟩
theorem rNumber_ok (A : Option Addr) (l : List UInt8) (c : Nat) (n : Nat) (w : World) (hr : Reads w w.heap.size 1 A l.length (cellsB l)) (hl : l.length ≤ 90000) (hn : n ≤ maxNum) :
    Calls Tryz.prog 68 #[.slice A l.length c, .int .i64 n] w (BytesPost (l ++ enc n) 0 w) := by
  have HP := Lib.hid (rPut_ok A l c n w hr hl hn)
  clear hr
  generalize l ++ enc n = L at *
  go_enter Tryz.func68, Tryz.ntmps68
  go_wp2_with (go_at_call 69; refine HP.out.mono ?_; rintro e w1 ⟨A1, c1, rfl, hr1, hc1, hb1⟩)
  go_ret2
  exact ⟨A1, c1, rfl, hr1, hc1, hb1⟩

theorem Text_no (A : Option Addr) (k c : Nat) (t : ByteArray) (w : World) (h : 1024 < t.size) :
    Calls Tryz.prog 111 #[.slice A k c, .string t] w (BytesPost [] 2 w) := by
  have hd : decide ((1024 : Int) < (t.size : Int)) = true := by simp; omega
  go_enter Tryz.func111, Tryz.ntmps111
  go_wp2_with fail
  go_ret2
  exact ⟨none, 0, rfl, Reads.none_, Nat.le_refl _, Below.refl _ _⟩
set_option maxHeartbeats 400000 in
theorem Text_ok (A : Option Addr) (l : List UInt8) (c : Nat) (t : ByteArray) (w : World) (hr : Reads w w.heap.size 1 A l.length (cellsB l)) (hl : l.length ≤ 80000) (ht : t.size ≤ 1024) :
    Calls Tryz.prog 111 #[.slice A l.length c, .string t] w (OwnPost (l ++ (cTxt 1024).e (lb t)) 0 w) := by
  obtain ⟨i0, hi, hz0, hz1, hz2⟩ := info_parts infoByte
  have HP := Lib.hid (Put_own A l c t.size w hr (by omega) (by unfold maxNum; omega))
  have hle := encLen_le t.size (by unfold maxNum; omega)
  have hll : (l ++ enc t.size).length = l.length + encLen t.size := by rw [List.length_append]; rfl
  have hlb : (l ++ enc t.size).length ≤ 80006 := by omega
  have hd : decide ((1024 : Int) < (t.size : Int)) = false := by simp; omega
  have hfin : l ++ enc t.size ++ lb t = l ++ (cTxt 1024).e (lb t) := by
    rw [List.append_assoc]; show l ++ (enc t.size ++ lb t) = l ++ (enc (lb t).length ++ lb t); rw [length_lb]
  have HF := Lib.hid hfin
  clear hr hll hfin
  generalize l ++ enc t.size = L at *
  generalize l ++ (cTxt 1024).e (lb t) = M at *
  go_enter Tryz.func111, Tryz.ntmps111
  go_wp2_with (first | (go_at_call 121; refine HP.out.mono ?_; rintro e w1 ⟨A1, c1, rfl, ho1, hc1, hb1⟩) | (at_builtin; refine Lib.wpList_append_own_string _ rfl (.tmp 21) (.tmp 22) 46 9 rfl w.heap.size 5 i0 Tryz.underlying46 Tryz.underlying9 hi hz0 hz1 hz2 _ _ _ rfl ho1 t rfl (by unfold maxLen; omega) (by omega) hb1.size ?_; intro v2 w2 ho2 hg2 hat2))
  have hb2 : Below w.heap.size w w2 := hb1.grown hg2 hb1.size (fun g hg => (ho1.lt g hg).1)
  rw [strCells_lb, ← cellsB_append, ← length_lb t, ← List.length_append, HF.out] at ho2
  obtain ⟨A3, c3, rfl, hc3⟩ := own_slice ho2
  go_ret2
  exact ⟨A3, c3, rfl, ho2, hc3, hb2⟩

theorem rText_no (A : Option Addr) (k c : Nat) (t : ByteArray) (w : World) (h : 1024 < t.size) :
    Calls Tryz.prog 34 #[.slice A k c, .string t] w (BytesPost [] 2 w) := by
  have hd : decide ((1024 : Int) < (t.size : Int)) = true := by simp; omega
  go_enter Tryz.func34, Tryz.ntmps34
  go_wp2_with fail
  go_ret2
  exact ⟨none, 0, rfl, Reads.none_, Nat.le_refl _, Below.refl _ _⟩
set_option maxHeartbeats 400000 in
theorem rText_ok (A : Option Addr) (l : List UInt8) (c : Nat) (t : ByteArray) (w : World) (hr : Reads w w.heap.size 1 A l.length (cellsB l)) (hl : l.length ≤ 80000) (ht : t.size ≤ 1024) :
    Calls Tryz.prog 34 #[.slice A l.length c, .string t] w (OwnPost (l ++ (cTxt 1024).e (lb t)) 0 w) := by
  obtain ⟨i0, hi, hz0, hz1, hz2⟩ := info_parts infoByte
  have HP := Lib.hid (rPut_own A l c t.size w hr (by omega) (by unfold maxNum; omega))
  have hle := encLen_le t.size (by unfold maxNum; omega)
  have hll : (l ++ enc t.size).length = l.length + encLen t.size := by rw [List.length_append]; rfl
  have hlb : (l ++ enc t.size).length ≤ 80006 := by omega
  have hd : decide ((1024 : Int) < (t.size : Int)) = false := by simp; omega
  have hfin : l ++ enc t.size ++ lb t = l ++ (cTxt 1024).e (lb t) := by
    rw [List.append_assoc]; show l ++ (enc t.size ++ lb t) = l ++ (enc (lb t).length ++ lb t); rw [length_lb]
  have HF := Lib.hid hfin
  clear hr hll hfin
  generalize l ++ enc t.size = L at *
  generalize l ++ (cTxt 1024).e (lb t) = M at *
  go_enter Tryz.func34, Tryz.ntmps34
  go_wp2_with (first | (go_at_call 69; refine HP.out.mono ?_; rintro e w1 ⟨A1, c1, rfl, ho1, hc1, hb1⟩) | (at_builtin; refine Lib.wpList_append_own_string _ rfl (.tmp 18) (.tmp 19) 46 9 rfl w.heap.size 5 i0 Tryz.underlying46 Tryz.underlying9 hi hz0 hz1 hz2 _ _ _ rfl ho1 t rfl (by unfold maxLen; omega) (by omega) hb1.size ?_; intro v2 w2 ho2 hg2 hat2))
  have hb2 : Below w.heap.size w w2 := hb1.grown hg2 hb1.size (fun g hg => (ho1.lt g hg).1)
  rw [strCells_lb, ← cellsB_append, ← length_lb t, ← List.length_append, HF.out] at ho2
  obtain ⟨A3, c3, rfl, hc3⟩ := own_slice ho2
  go_ret2
  exact ⟨A3, c3, rfl, ho2, hc3, hb2⟩
end Go.Proofs.YtckdecodpjfcnaaGreatDoor
