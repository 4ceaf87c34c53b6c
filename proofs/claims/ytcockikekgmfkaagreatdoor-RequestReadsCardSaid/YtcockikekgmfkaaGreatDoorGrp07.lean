/-
  What errors.As leaves behind; the library's own variable.
  The document's answers of layer 1 (rovingref01): what Put, Len give.
  The document's answer of layer 1, Get: what it gives.
  Small lemmas that many texts use.
  A world that is as another one was but for some blocks that were there.
  A region that draws its order, whose first operations only read (or call what leaves the world as it was): these are walked once, in the order of the text, by the cheap step of the quiet walk; the rest stands in one forced order.
-/
import Derived.Test.YtcockikekgmfkaaGreatDoorGrp06
import Derived.Test.YtcockikekgmfkaaGreatDoorGrp01
import Derived.StillTailTactics
import Derived.Deep.QuietTactic
import Derived.BigQuiet
import Derived.Test.YtcockikekgmfkaaGreatDoorGrp05
namespace Go.Proofs.YtcockikekgmfkaaGreatDoor
open Go.RowKit

theorem reads_new (w : World) (t : TypeId) (l : List UInt8) : Reads (w.alloc (.cells (cellsB l).toArray t)) (w.heap.size + 1) 1 (some ⟨w.heap.size, 0, none⟩) l.length (cellsB l) := by
  refine ⟨by rw [length_cellsB]; omega, fun _ => ⟨_, rfl, Nat.lt_succ_self _, fun j u hu => ?_⟩⟩
  rw [add_none, Nat.zero_add]
  have := (Blk.new w t (cellsB l).toArray).cell j
  rw [this]
  simpa using hu

set_option maxHeartbeats 400000 in
theorem rPut_no (A : Option Addr) (k c : Nat) (n : Int) (w : World) (h : n < 0 ∨ 1099511627776 < n) :
    Calls Tryz.prog 39 #[.slice A k c, .int .i64 n] w (BytesPost [] 2 w) := by
  rcases h with h | h
  · have hd : decide (n < 0) = true := by simpa using h
    go_enter Tryz.func39, Tryz.ntmps39
    go_wp2
    go_ret2
    exact ⟨none, 0, rfl, Reads.none_, Nat.le_refl _, Below.refl _ _⟩
  · have hd : decide (n < 0) = false := by simp; omega
    have hd2 : decide (1099511627776 < n) = true := by simpa using h
    go_enter Tryz.func39, Tryz.ntmps39
    go_wp2
    go_ret2
    exact ⟨none, 0, rfl, Reads.none_, Nat.le_refl _, Below.refl _ _⟩

set_option maxRecDepth 100000 in
set_option maxHeartbeats 1000000 in
theorem rPut_own (A : Option Addr) (l : List UInt8) (c : Nat) (n : Nat) (w : World) (hr : Reads w w.heap.size 1 A l.length (cellsB l)) (hl : l.length ≤ 90000) (hn : n ≤ maxNum) :
    Calls Tryz.prog 39 #[.slice A l.length c, .int .i64 n] w (OwnPost (l ++ enc n) 0 w) := by
  obtain ⟨i0, hi, hz0, hz1, hz2⟩ := info_parts infoByte
  have hn' : n ≤ 1099511627776 := hn
  have hd : decide ((n : Int) < 0) = false := by simp
  have hd2 : decide ((1099511627776 : Int) < (n : Int)) = false := by simp; omega
  have HR := Lib.hid hr
  clear hr
  go_enter Tryz.func39, Tryz.ntmps39
  go_wp2_with (at_builtin; refine wpList_append_any _ rfl (.tmp 13) (.tmp 14) 30 rfl w.heap.size 5 i0 (.int .u8 0) 1 1 Tryz.underlying30 hi hz0 hz1 hz2 rfl (by decide) _ 0 [] rfl (World.ownsRow_nil _ _ _ _) w.heap.size A l.length c (cellsB l) rfl HR.out (cellsB_one l) (by unfold maxLen; omega) (by omega) (Nat.le_refl _) ?_; intro v1 w1 hown1 hg1 hat1)
  rw [Nat.zero_add, List.nil_append] at hown1
  have hb1 : Below w.heap.size w w1 := (Below.refl _ _).grown hg1 (Nat.le_refl _) (fun k hk => by cases hk)
  go_loopw [1, 6] (fun y x wr => ∃ (m : Nat) (done : List UInt8), m ≤ 1099511627776 ∧ y = .int .i64 m ∧ wr.ownsRow w.heap.size 5 1 x (l.length + done.length) (cellsB (l ++ done)) ∧ enc n = done ++ enc m ∧ Below w.heap.size w wr) (fun y _ _ => (intOf y).toNat)
  case atStart => exact ⟨n, [], hn', rfl, by simpa using hown1, rfl, hb1⟩
  case round =>
    obtain ⟨m, done, hm, rfl, hox, hen, hbw⟩ := hrel
    have hlen : done.length + encLen m = encLen n := by unfold encLen; rw [hen, List.length_append]
    have hle := encLen_le n hn
    have hpos := encLen_pos m
    have HO := Lib.hid hox
    have HE := Lib.hid hen
    have HL := Lib.hid hlen
    have hdl : done.length ≤ 6 := by omega
    clear hox hen hlen hpos hown1 hg1 hat1
    by_cases hb : 128 ≤ m
    · have hd3 : decide ((128 : Int) ≤ (m : Int)) = true := by simp; omega
      go_wp2_with (at_builtin; refine wpList_append_any _ rfl (.tmp 18) (.tmp 23) 30 rfl w.heap.size 5 i0 (.int .u8 0) 1 1 Tryz.underlying30 hi hz0 hz1 hz2 rfl (by decide) _ _ _ rfl (HO.out.alloc _) _ _ 1 1 [.int .u8 _] rfl (reads_new1 _ _ _) (by simp [Value.oneCell']) (by unfold maxLen; omega) (by omega) (by have := hbw.size; simp; omega) ?_; intro v' w4 hown' hgrow hat')
      go_roundw
      case rel =>
        refine ⟨m / 128, done ++ [UInt8.ofNat (m % 128 + 128)], by omega, by go_num, ?_, ?_, ?_⟩
        · rw [← List.append_assoc, cellsB_append, cellsB_high, List.length_append, ← Nat.add_assoc, Int.add_comm]
          exact hown'
        · rw [HE.out, enc_big m (by omega) hm]; simp
        · exact (hbw.alloc hbw.size _).grown hgrow (by have := hbw.size; simp; omega) (fun g hg => (HO.out.lt g hg).1)
      case measure => simp [intOf]; omega
    · have hd3 : decide ((128 : Int) ≤ (m : Int)) = false := by simp; omega
      go_wp2_with (at_builtin; refine wpList_append_any _ rfl (.tmp 27) (.tmp 30) 30 rfl w.heap.size 5 i0 (.int .u8 0) 1 1 Tryz.underlying30 hi hz0 hz1 hz2 rfl (by decide) _ _ _ rfl (HO.out.alloc _) _ _ 1 1 [.int .u8 _] rfl (reads_new1 _ _ _) (by simp [Value.oneCell']) (by unfold maxLen; omega) (by omega) (by have := hbw.size; simp; omega) ?_; intro v' w4 hown' hgrow hat')
      have hb4 : Below w.heap.size w w4 := (hbw.alloc hbw.size _).grown hgrow (by have := hbw.size; simp; omega) (fun g hg => (HO.out.lt g hg).1)
      have hown2 : w4.ownsRow w.heap.size 5 1 v' (l ++ enc n).length (cellsB (l ++ enc n)) := by
        rw [HE.out, enc_small m (by omega), ← List.append_assoc, cellsB_append, cellsB_low m (by omega), List.length_append, List.length_append]
        exact hown'
      clear hown' hgrow hat'
      go_ret2
      obtain ⟨A4, c4, rfl, hc4⟩ := own_slice hown2
      exact ⟨A4, c4, rfl, hown2, hc4, hb4⟩
theorem rPut_ok (A : Option Addr) (l : List UInt8) (c : Nat) (n : Nat) (w : World) (hr : Reads w w.heap.size 1 A l.length (cellsB l)) (hl : l.length ≤ 90000) (hn : n ≤ maxNum) :
    Calls Tryz.prog 39 #[.slice A l.length c, .int .i64 n] w (BytesPost (l ++ enc n) 0 w) := (rPut_own A l c n w hr hl hn).mono fun _ _ h => h.bytes

theorem Len_any (n : Int) (w : World) :
    Calls Tryz.prog 55 #[.int .i64 n] w fun e w' => e = .returned (.int .i64 (if n < 0 ∨ 1099511627776 < n then 0 else (encLen n.toNat : Int))) ∧ w = w' := by
  by_cases h : n < 0 ∨ 1099511627776 < n
  · rw [if_pos h]; exact len_no n w h
  · obtain ⟨k, rfl⟩ := Int.eq_ofNat_of_zero_le (show 0 ≤ n by omega)
    rw [if_neg h, Int.toNat_natCast]
    exact len_ok k w (show k ≤ 1099511627776 by omega)
end Go.Proofs.YtcockikekgmfkaaGreatDoor
namespace Go.Proofs.YtcockikekgmfkaaGreatDoor
open Go.RowKit

theorem getOf_bad (L : List UInt8) (k : Nat) (h : dec (L.drop k) = none) (hk : k ≤ L.length) : getOf L k = (0, 0, 70) := by
  unfold getOf
  rw [if_neg (by omega), Int.toNat_natCast, h]
theorem getOf_ok (L : List UInt8) (k n m : Nat) (h : dec (L.drop k) = some (n, m)) (hk : k ≤ L.length) : getOf L k = ((n : Int), (k : Int) + m, 0) := by
  unfold getOf
  rw [if_neg (by omega), Int.toNat_natCast, h]

theorem acc_lt (acc P U : Nat) (h : acc < U) (h2 : P ≤ 127 * U) : acc + P < U * 128 := by omega

set_option maxRecDepth 100000 in
set_option maxHeartbeats 1000000 in
theorem rGet_any (A : Option Addr) (L : List UInt8) (c B : Nat) (k : Int) (w : World) (hL : L.length ≤ 100000) (hr : Reads w B 1 A L.length (cellsB L)) :
    Calls Tryz.prog 46 #[.slice A L.length c, .int .i64 k] w fun e w' => e = .returned (.tuple #[.int .i64 (getOf L k).1, .int .i64 (getOf L k).2.1, .int .i64 (getOf L k).2.2]) ∧ w = w' := by
  by_cases h1 : k < 0
  · have hd : decide (k < 0) = true := by simpa using h1
    rw [show getOf L k = (0, 0, 70) by unfold getOf; rw [if_pos (.inl h1)]]
    go_enter Tryz.func46, Tryz.ntmps46
    go_wp2
    go_ret3
    exact ⟨rfl, rfl⟩
  · obtain ⟨k, rfl⟩ := Int.eq_ofNat_of_zero_le (show 0 ≤ k by omega)
    have hd : decide ((k : Int) < 0) = false := by simp
    by_cases h2 : L.length < k
    · have hd2 : decide (L.length < k) = true := by simpa using h2
      rw [show getOf L k = (0, 0, 70) by unfold getOf; rw [if_pos (.inr (by omega))]]
      clear h1
      go_enter Tryz.func46, Tryz.ntmps46
      go_wp2
      go_ret3
      exact ⟨rfl, rfl⟩
    · have hd2 : decide (L.length < k) = false := by simp; omega
      have hkl : k ≤ L.length := by omega
      clear h1 h2
      go_enter Tryz.func46, Tryz.ntmps46
      go_wp2
      go_loop [7, 8, 9] (fun x u y => ∃ j acc U : Nat, j ≤ 6 ∧ k + j ≤ L.length ∧ y = .int .i64 ((k + j : Nat) : Int) ∧ x = .int .i64 acc ∧ u = .int .i64 U ∧ U = 128 ^ j ∧ acc < 128 ^ j ∧ dec (L.drop k) = decF (6 - j) j acc (L.drop (k + j))) (fun _ _ y => L.length - (intOf y).toNat)
      case atStart => exact ⟨0, 0, 1, by omega, hkl, rfl, rfl, rfl, rfl, by decide, rfl⟩
      case round =>
        obtain ⟨j, acc, U, hj, hkj, rfl, rfl, rfl, hU, hacc, hdec⟩ := hrel
        have hU6 : U ≤ 4398046511104 := by
          rw [hU]
          have := Nat.pow_le_pow_right (show 0 < 128 by omega) hj
          have e6 : (128 : Nat) ^ 6 = 4398046511104 := by decide
          omega
        have haccU : acc < U := by rw [hU]; exact hacc
        have HU := Lib.hid hU
        by_cases hgo : k + j < L.length ∧ j < 6
        · obtain ⟨hlt, hj6⟩ := hgo
          obtain ⟨b1, o1, rfl, _, hc1⟩ := hr.plain (by omega)
          obtain ⟨ch, hch⟩ : ∃ ch, L[k + j]? = some ch := ⟨_, List.getElem?_eq_getElem hlt⟩
          have g1 : w.cell? ⟨b1, o1 + (k + j), none⟩ = some (.int .u8 (ch.toNat : Int)) := hc1 (k + j) _ (by rw [getElem?_cellsB, hch]; rfl)
          have hcl : ch.toNat < 256 := UInt8.toNat_lt ch
          have hdr : L.drop (k + j) = ch :: L.drop (k + (j + 1)) := by
            rw [List.drop_eq_getElem_cons hlt]
            congr 1
            exact (List.getElem?_eq_some_iff.1 hch).2
          obtain ⟨f, hf6, hf7⟩ : ∃ f, 6 - j = f + 1 ∧ 6 - (j + 1) = f := ⟨5 - j, by omega, by omega⟩
          have hU5 : U ≤ 34359738368 := by
            rw [hU]
            have := Nat.pow_le_pow_right (show 0 < 128 by omega) (show j ≤ 5 by omega)
            have e5 : (128 : Nat) ^ 5 = 34359738368 := by decide
            omega
          have hPm : ch.toNat % 128 * U ≤ 127 * U := Nat.mul_le_mul_right _ (by omega)
          generalize hP : ch.toNat % 128 * U = P at hPm
          have hPx : (U : Int) * ((ch.toNat : Int) % 128) = (P : Int) := by rw [← hP]; push_cast; rw [Int.mul_comm]
          have hmul : wrap64 ((U : Int) * ((ch.toNat : Int) % 128)) = (P : Int) := by rw [hPx]; exact IntWalk.wrap64_in _ ⟨by omega, by omega⟩
          have HD2 := hdec
          rw [hdr, hf6] at HD2
          have hAdd : acc + ch.toNat % 128 * 128 ^ j = acc + P := by rw [← hP, hU]
          have hacc2 : acc + P < 128 ^ (j + 1) := by rw [Nat.pow_succ, ← hU]; exact acc_lt acc P U haccU hPm
          have hd3 : decide (((k + j : Nat) : Int) < (L.length : Int)) = true := by simp; omega
          have hd4 : decide (((k + j : Nat) : Int) < (k : Int) + 6) = true := by simp; omega
          have HPX := Lib.hid hPx
          have HACC := Lib.hid hacc2
          have HF7 := Lib.hid hf7
          clear hPx hch hc1 hr hdr hf6 hf7 hacc2 hacc hdec hU hP
          by_cases h128 : 128 ≤ ch.toNat
          · have hst := decF_step f j acc ch (L.drop (k + (j + 1))) h128
            rw [hAdd] at hst
            rw [hst] at HD2
            have HDN := Lib.hid HD2
            have hd5 : decide ((ch.toNat : Int) < 128) = false := by simp; omega
            clear hst HD2 hAdd
            go_wp2
            go_round
            case rel => exact ⟨j + 1, acc + P, U * 128, by omega, by omega, by go_num, by go_num, by go_num, by rw [HU.out, Nat.pow_succ], HACC.out, by rw [HF7.out]; exact HDN.out⟩
            case measure => simp [intOf]; omega
          · have hst := decF_stop f j acc ch (L.drop (k + (j + 1))) (by omega)
            rw [hAdd] at hst
            rw [hst] at HD2
            have hd5 : decide ((ch.toNat : Int) < 128) = true := by simp; omega
            clear hst hAdd
            by_cases hbad : (ch.toNat = 0 ∧ 0 < j) ∨ maxNum < acc + P
            · rw [if_pos hbad] at HD2
              have HFIN := Lib.hid (getOf_bad L k HD2 hkl)
              clear HD2
              unfold maxNum at hbad
              by_cases hm1 : 1099511627776 < acc + P
              · have hm : decide ((1099511627776 : Int) < (acc : Int) + (P : Int)) = true := by simp; omega
                clear hbad
                go_wp2
                go_ret3
                exact ⟨by rw [HFIN.out]; rfl, rfl⟩
              · have hm : decide ((1099511627776 : Int) < (acc : Int) + (P : Int)) = false := by simp; omega
                have hz0 : ch.toNat = 0 := by omega
                have hj0 : 0 < j := by omega
                have g2 : w.cell? ⟨b1, o1 + (k + j), none⟩ = some (.int .u8 0) := by rw [g1, hz0]; rfl
                have hm2 : (P : Int) = 0 := by have := HPX.out; rw [← this, hz0]; simp
                have hd6 : decide ((k : Int) < ((k + j : Nat) : Int)) = true := by simp; omega
                clear hbad g1 hmul hz0
                go_wp2
                go_ret3
                exact ⟨by rw [HFIN.out]; rfl, rfl⟩
            · rw [if_neg hbad] at HD2
              have HFIN := Lib.hid (getOf_ok L k (acc + P) (j + 1) HD2 hkl)
              clear HD2
              unfold maxNum at hbad
              have hm : decide ((1099511627776 : Int) < (acc : Int) + (P : Int)) = false := by simp; omega
              have hfin : ∀ v, v = Ending.returned (.tuple #[.int .i64 ((acc : Int) + (P : Int)), .int .i64 ((k : Int) + (j : Int) + 1), .int .i64 0]) → v = .returned (.tuple #[.int .i64 (getOf L k).1, .int .i64 (getOf L k).2.1, .int .i64 (getOf L k).2.2]) := fun v hv => by
                have e1 : (k : Int) + ((j + 1 : Nat) : Int) = (k : Int) + (j : Int) + 1 := by omega
                have e2 : ((acc + P : Nat) : Int) = (acc : Int) + (P : Int) := by omega
                rw [hv, HFIN.out]
                simp only [e1, e2]
              have HFIN2 := Lib.hid hfin
              clear hfin
              by_cases hj0 : 0 < j
              · have hz1 : ((ch.toNat : Int) == 0) = false := beq_eq_false_iff_ne.2 (by omega)
                have hd6 : decide ((k : Int) < ((k + j : Nat) : Int)) = true := by simp; omega
                clear hbad
                go_wp2
                go_ret3
                exact ⟨HFIN2.out _ rfl, rfl⟩
              · have hd6 : decide ((k : Int) < ((k + j : Nat) : Int)) = false := by simp; omega
                clear hbad
                go_wp2
                go_ret3
                exact ⟨HFIN2.out _ rfl, rfl⟩
        · have hnone : dec (L.drop k) = none := by
            rw [hdec]
            rcases Nat.lt_or_ge j 6 with h6 | h6
            · rw [List.drop_eq_nil_of_le (by omega)]
              obtain ⟨f, hf⟩ : ∃ f, 6 - j = f + 1 := ⟨5 - j, by omega⟩
              rw [hf]; rfl
            · rw [show 6 - j = 0 by omega]; rfl
          have HFIN := Lib.hid (getOf_bad L k hnone hkl)
          clear hnone hdec hacc hU hr
          by_cases hlt : k + j < L.length
          · have hd3 : decide (((k + j : Nat) : Int) < (L.length : Int)) = true := by simp; omega
            obtain rfl : j = 6 := by omega
            clear hgo
            go_wp2
            go_ret3
            exact ⟨by rw [HFIN.out]; rfl, rfl⟩
          · have hd3 : decide (((k + j : Nat) : Int) < (L.length : Int)) = false := by simp; omega
            clear hgo
            go_wp2
            go_ret3
            exact ⟨by rw [HFIN.out]; rfl, rfl⟩
end Go.Proofs.YtcockikekgmfkaaGreatDoor
namespace Go.Proofs.YtcockikekgmfkaaGreatDoor
open Go.RowKit

theorem ret_bool {a b : Bool} (h : a = b) : Ending.returned (.bool a) = .returned (.bool b) := by rw [h]
theorem ret_int {k : IntKind} {a b : Int} (h : a = b) : Ending.returned (.int k a) = .returned (.int k b) := by rw [h]
theorem bal {w w' : World} (h : Below w.heap.size w w') (o : Obj) : Below w.heap.size w (w'.alloc o) := h.alloc h.size o
theorem bset {w w' : World} (h : Below w.heap.size w w') {b o : Nat} (hb : w.heap.size ≤ b) (u : Value) : Below w.heap.size w (w'.setCell ⟨b, o, none⟩ u) := h.setCell (p := ⟨b, o, none⟩) hb u
theorem btrans {w w1 w2 : World} (h : Below w.heap.size w w1) (k : Below w1.heap.size w1 w2) : Below w.heap.size w w2 := h.trans (k.mono h.size)
theorem ne_true {a b : Int} (h : ¬ a = b) : (a != b) = true := by simpa using h
theorem ne_false {a b : Int} (h : a = b) : (a != b) = false := by simpa using h
theorem eqb_true {a b : Int} (h : a = b) : (a == b) = true := beq_iff_eq.2 h
theorem eqb_false {a b : Int} (h : ¬ a = b) : (a == b) = false := beq_eq_false_iff_ne.2 h
theorem dec_true {p : Prop} [Decidable p] (h : p) : decide p = true := decide_eq_true h
theorem dec_false {p : Prop} [Decidable p] (h : ¬ p) : decide p = false := decide_eq_false h
end Go.Proofs.YtcockikekgmfkaaGreatDoor
namespace Go.Proofs.YtcockikekgmfkaaGreatDoor
open Go.RowKit

structure Only (S : Nat → Prop) (a w : World) : Prop where
  os : w.os = a.os
  tape : w.tape = a.tape
  output : w.output = a.output
  size : a.heap.size ≤ w.heap.size
  block : ∀ k, k < a.heap.size → ¬ S k → w.heap[k]? = a.heap[k]?

section
variable {S S' : Nat → Prop} {a b w w' : World}
theorem Only.refl (S : Nat → Prop) (w : World) : Only S w w := ⟨rfl, rfl, rfl, Nat.le_refl _, fun _ _ _ => rfl⟩
theorem Only.trans (h : Only S a b) (k : Only S b w) : Only S a w :=
  ⟨k.os.trans h.os, k.tape.trans h.tape, k.output.trans h.output, Nat.le_trans h.size k.size, fun i hi hn => (k.block i (Nat.lt_of_lt_of_le hi h.size) hn).trans (h.block i hi hn)⟩
theorem Only.mono (h : Only S a w) (hS : ∀ g, g < a.heap.size → S g → S' g) : Only S' a w := ⟨h.os, h.tape, h.output, h.size, fun i hi hn => h.block i hi fun hs => hn (hS i hi hs)⟩
/-- What the second step turns is the first step's, or new. -/
theorem Only.step (h : Only S a b) (k : Only S' b w) (hS : ∀ g, g < a.heap.size → S' g → S g) : Only S a w :=
  ⟨k.os.trans h.os, k.tape.trans h.tape, k.output.trans h.output, Nat.le_trans h.size k.size, fun i hi hn => (k.block i (Nat.lt_of_lt_of_le hi h.size) (fun hs => hn (hS i hi hs))).trans (h.block i hi hn)⟩
theorem Only.of_below (S : Nat → Prop) (h : Below a.heap.size a w) : Only S a w := ⟨h.os, h.tape, h.output, h.size, fun i hi _ => h.block i hi⟩
theorem Only.below {B : Nat} (h : Only S a w) (hB : B ≤ a.heap.size) (hS : ∀ g, S g → B ≤ g) : Below B a w := ⟨h.os, h.tape, h.output, h.size, fun i hi => h.block i (by omega) fun hs => by have := hS i hs; omega⟩
theorem Only.then_below (h : Only S a b) (k : Below b.heap.size b w) : Only S a w := h.trans (Only.of_below S k)
theorem Only.drew (h : Only S a w) : Only S a w.drew := ⟨h.os, h.tape, h.output, h.size, h.block⟩
theorem Only.alloc (h : Only S a w) (o : Obj) : Only S a (w.alloc o) :=
  ⟨h.os, h.tape, h.output, Nat.le_trans h.size (by simp), fun i hi hn => (Below.heap_alloc w o i (Nat.lt_of_lt_of_le hi h.size)).trans (h.block i hi hn)⟩
theorem Only.set (h : Only S a w) {g o : Nat} (hp : S g ∨ a.heap.size ≤ g) (u : Value) : Only S a (w.setCell ⟨g, o, none⟩ u) :=
  ⟨h.os, h.tape, h.output, by simpa [World.setCell] using h.size, fun i hi hn => (Below.heap_setCell w ⟨g, o, none⟩ u i (by
    rintro rfl
    rcases hp with hp | hp
    · exact hn hp
    · exact absurd hi (by simpa using hp))).trans (h.block i hi hn)⟩
theorem Only.grown {row : Option Nat} (h : Only S a b) (hg : b.grownBy w row) (hr : ∀ k, row = some k → k < a.heap.size → S k) : Only S a w :=
  ⟨hg.os.trans h.os, hg.tape.trans h.tape, hg.output.trans h.output, Nat.le_trans h.size hg.size, fun i hi hn => (hg.block i (Nat.lt_of_lt_of_le hi h.size) (fun e => hn (hr i e.symm hi))).trans (h.block i hi hn)⟩
theorem Only.blk {g : Nat} {t : TypeId} {cs : Array Value} (h : Only S a w) (k : Blk a g t cs) (hn : ¬ S g) : Blk w g t cs := (h.block g k.lt hn).trans k
theorem Only.cell {p : Addr} (h : Only S a w) (hp : p.block < a.heap.size) (hn : ¬ S p.block) : w.cell? p = a.cell? p := World.cell?_of_block (h.block _ hp hn)
theorem Only.reads {B size n : Nat} {A : Option Addr} {xs : List Value} (h : Only S a w) (k : Reads a B size A n xs) (hB : B ≤ a.heap.size) (hn : ∀ g, g < B → ¬ S g) : Reads w B size A n xs :=
  k.keep fun p hp => h.cell (by omega) (hn _ hp)
theorem Only.own {base : Nat} {e : TypeId} {size n : Nat} {v : Value} {xs : List Value} (h : Only S a w) (k : a.ownsRow base e size v n xs) (hn : ∀ g, base ≤ g → ¬ S g) : w.ownsRow base e size v n xs := by
  refine ⟨k.1, ?_⟩
  rcases k.2 with h0 | ⟨g, cap, cur, hv, hg, hh, hr⟩
  · exact .inl h0
  · refine .inr ⟨g, cap, cur, hv, hg, ?_, hr⟩
    have hlt : g < a.heap.size := by
      rcases Nat.lt_or_ge g a.heap.size with h1 | h1
      · exact h1
      · rw [Array.getElem?_eq_none h1] at hh; cases hh
    exact (h.block g hlt (hn g hg)).trans hh
end
/-- A row of the call's own from a place on, read. -/
theorem own_set {w : World} {base : Nat} {e : TypeId} {size n : Nat} {v : Value} {xs : List Value} (k : w.ownsRow base e size v n xs) {g o : Nat} (hg : g < base) (u : Value) : (w.setCell ⟨g, o, none⟩ u).ownsRow base e size v n xs :=
  ((Only.refl (fun x => x = g) w).set (.inl rfl) u).own k (fun x hx hs => by omega)
end Go.Proofs.YtcockikekgmfkaaGreatDoor
namespace Go.Proofs.YtcockikekgmfkaaGreatDoor
open Go.RowKit

theorem still_of_quiet {P : Program} {o : Oper} {a : Act} {w : World} {K : Act → Prop} (h : o.quiet P a (fun W => W = w) K) : o.still P a w K := by
  obtain ⟨v, h1, h2⟩ := h
  have h3 := h1 w rfl
  unfold Oper.quietAt at h3
  unfold Oper.still
  generalize (execOp a.eval o).run P w = r at *
  cases r with
  | ok n w' =>
    cases n <;> simp only [Oper.quietUpon] at h3 <;> simp only [Oper.stillUpon]
    case value u =>
      obtain ⟨e1, e2⟩ := h3
      rw [e2]
      exact ⟨e1, h2⟩
    case skip =>
      obtain ⟨e1, e2⟩ := h3
      rw [← e2]
      exact ⟨e1, h2⟩
    case enter f args =>
      obtain ⟨e1, hc⟩ := h3
      exact ⟨e1, v, hc, h2⟩
  | halt x w' => simp only [Oper.quietUpon] at h3

theorem wpStill_of_quiet {P : Program} {ops : Array Oper} {w : World} {Q : Act → Prop} : ∀ (l : List Oper) (a : Act), wpQuiet P ops (fun W => W = w) Q l a → wpStill P ops w Q l a
  | [], _, h => h
  | o :: rest, a, h => by
    unfold wpQuiet at h
    unfold wpStill
    split
    · rename_i hw
      rw [if_pos hw] at h
      exact Oper.still_mono (fun a' h' => wpStill_of_quiet rest a' h') (still_of_quiet h)
    · rename_i hw
      rw [if_neg hw] at h
      exact wpStill_of_quiet rest _ h

theorem wp_region_qtail {P : Program} {id : Nat} {Q : Exit → Act → World → Prop} {a : Act} {w : World} {l : List Oper} (n : Nat) (hm : P.follows .mixedOrders = true) (hB : Region.lexTailB .any l.toArray n = true)
    (h : wpQuiet P l.toArray (fun W => W = w.drew) (fun a' => wpList P l.toArray Q (l.drop n) a' w.drew) (l.take n) a) : (Code.region id l.toArray true).wp P Q a w :=
  wp_region_still_tail n hm hB (wpStill_of_quiet _ _ h)
end Go.Proofs.YtcockikekgmfkaaGreatDoor
namespace Go.Proofs.YtcockikekgmfkaaGreatDoor
open Go.RowKit

/-- The library's own variable holds the handle of the type error. -/
def HasET (w : World) : Prop := w.cell? ⟨0, 0, none⟩ = some (.iface 108 (.agg #[.pointer (some ⟨1, 43, none⟩)]))
theorem HasET.lt {w : World} (h : HasET w) : 0 < w.heap.size := by
  rcases Nat.lt_or_ge 0 w.heap.size with h1 | h1
  · exact h1
  · unfold HasET at h; simp [World.cell?, Array.getElem?_eq_none h1] at h
theorem HasET.below {w w' : World} (h : HasET w) {B : Nat} (hb : Below B w w') (hB : 0 < B) : HasET w' := (hb.cell (p := ⟨0, 0, none⟩) hB).trans h
theorem HasET.up {w w' : World} (h : HasET w) (hb : Below w.heap.size w w') : HasET w' := h.below hb h.lt

theorem asW_cell (w : World) (n : Int) : (asWorld (w.alloc (.cells #[.int .i64 0] 31)) w.heap.size n).cell? ⟨w.heap.size, 0, none⟩ = some (.int .i64 n) := by
  unfold asWorld
  refine World.cell?_setCell_same' _ _ _ ?_
  rw [World.cell?_alloc_lt _ _ ⟨w.heap.size, 0, none⟩ (by simp only [World.size_alloc]; omega), World.cell?_alloc_lt _ _ ⟨w.heap.size, 0, none⟩ (by simp only [World.size_alloc]; omega), World.cell?_alloc_lt _ _ ⟨w.heap.size, 0, none⟩ (by simp only [World.size_alloc]; omega), World.cell?_alloc_lt _ _ ⟨w.heap.size, 0, none⟩ (by simp only [World.size_alloc]; omega)]
  simp
theorem asW_below (w : World) (n : Int) : Below w.heap.size w (asWorld (w.alloc (.cells #[.int .i64 0] 31)) w.heap.size n) := by
  rw [asWorld]
  refine Below.setCell (p := ⟨w.heap.size, 0, none⟩) ?_ (Nat.le_refl _) _
  exact ((((((Below.refl _ w).alloc (Nat.le_refl _) _).alloc (by simp) _).alloc (by simp only [World.size_alloc]; omega) _).alloc (by simp only [World.size_alloc]; omega) _).alloc (by simp only [World.size_alloc]; omega) _)
theorem cell_lt {w : World} {b o : Nat} {v : Value} (h : w.cell? ⟨b, o, none⟩ = some v) : b < w.heap.size := by
  rcases Nat.lt_or_ge b w.heap.size with h1 | h1
  · exact h1
  · simp [World.cell?, Array.getElem?_eq_none h1] at h
end Go.Proofs.YtcockikekgmfkaaGreatDoor
