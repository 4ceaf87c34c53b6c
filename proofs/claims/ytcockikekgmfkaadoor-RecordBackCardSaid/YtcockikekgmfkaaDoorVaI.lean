/-
  The document's answer of layer 1, Get: what it gives.
-/
import Derived.Test.YtcockikekgmfkaaDoorVaHr
namespace Go.Proofs.YtcockikekgmfkaaDoor
open Go.RowKit

theorem getOf_bad (L : List UInt8) (k : Nat) (h : dec (L.drop k) = none) (hk : k ≤ L.length) : getOf L k = (0, 0, 70) := by
  unfold getOf
  rw [if_neg (by omega), Int.toNat_natCast, h]
theorem getOf_ok (L : List UInt8) (k n m : Nat) (h : dec (L.drop k) = some (n, m)) (hk : k ≤ L.length) : getOf L k = ((n : Int), (k : Int) + m, 0) := by
  unfold getOf
  rw [if_neg (by omega), Int.toNat_natCast, h]

theorem acc_lt (acc P U : Nat) (h : acc < U) (h2 : P ≤ 127 * U) : acc + P < U * 128 := by omega

set_option maxRecDepth 100000 in
set_option maxHeartbeats 1000000 in
theorem rGet_any (A : Option Addr) (L : List UInt8) (c B : Nat) (k : Int) (w : World) (hL : L.length ≤ 100000) (hr : Reads w B 1 A L.length (cellsB L)) :
    Calls Tryd.prog 62 #[.slice A L.length c, .int .i64 k] w fun e w' => e = .returned (.tuple #[.int .i64 (getOf L k).1, .int .i64 (getOf L k).2.1, .int .i64 (getOf L k).2.2]) ∧ w = w' := by
  by_cases h1 : k < 0
  · have hd : decide (k < 0) = true := by simpa using h1
    rw [show getOf L k = (0, 0, 70) by unfold getOf; rw [if_pos (.inl h1)]]
    go_enter Tryd.func62, Tryd.ntmps62
    go_wp2
    go_ret3
    exact ⟨rfl, rfl⟩
  · obtain ⟨k, rfl⟩ := Int.eq_ofNat_of_zero_le (show 0 ≤ k by omega)
    have hd : decide ((k : Int) < 0) = false := by simp
    by_cases h2 : L.length < k
    · have hd2 : decide (L.length < k) = true := by simpa using h2
      rw [show getOf L k = (0, 0, 70) by unfold getOf; rw [if_pos (.inr (by omega))]]
      clear h1
      go_enter Tryd.func62, Tryd.ntmps62
      go_wp2
      go_ret3
      exact ⟨rfl, rfl⟩
    · have hd2 : decide (L.length < k) = false := by simp; omega
      have hkl : k ≤ L.length := by omega
      clear h1 h2
      go_enter Tryd.func62, Tryd.ntmps62
      go_wp2
      go_loop [7, 8, 9] (fun x u y => ∃ j acc U : Nat, j ≤ 6 ∧ k + j ≤ L.length ∧ y = .int .i64 ((k + j : Nat) : Int) ∧ x = .int .i64 acc ∧ u = .int .i64 U ∧ U = 128 ^ j ∧ acc < 128 ^ j ∧ dec (L.drop k) = decF (6 - j) j acc (L.drop (k + j))) (fun _ _ y => L.length - (intOf y).toNat)
      case atStart => exact ⟨0, 0, 1, by omega, hkl, rfl, rfl, rfl, rfl, by decide, rfl⟩
      case round =>
        obtain ⟨j, acc, U, hj, hkj, rfl, rfl, rfl, hU, hacc, hdec⟩ := hrel
        have hU6 : U ≤ 4398046511104 := by
          rw [hU]
          have := Nat.pow_le_pow_right (show 0 < 128 by omega) hj
          have e6 : (128 : Nat) ^ 6 = 4398046511104 := by decide
          omega
        have haccU : acc < U := by rw [hU]; exact hacc
        have HU := Lib.hid hU
        by_cases hgo : k + j < L.length ∧ j < 6
        · obtain ⟨hlt, hj6⟩ := hgo
          obtain ⟨b1, o1, rfl, _, hc1⟩ := hr.plain (by omega)
          obtain ⟨ch, hch⟩ : ∃ ch, L[k + j]? = some ch := ⟨_, List.getElem?_eq_getElem hlt⟩
          have g1 : w.cell? ⟨b1, o1 + (k + j), none⟩ = some (.int .u8 (ch.toNat : Int)) := hc1 (k + j) _ (by rw [getElem?_cellsB, hch]; rfl)
          have hcl : ch.toNat < 256 := UInt8.toNat_lt ch
          have hdr : L.drop (k + j) = ch :: L.drop (k + (j + 1)) := by
            rw [List.drop_eq_getElem_cons hlt]
            congr 1
            exact (List.getElem?_eq_some_iff.1 hch).2
          obtain ⟨f, hf6, hf7⟩ : ∃ f, 6 - j = f + 1 ∧ 6 - (j + 1) = f := ⟨5 - j, by omega, by omega⟩
          have hU5 : U ≤ 34359738368 := by
            rw [hU]
            have := Nat.pow_le_pow_right (show 0 < 128 by omega) (show j ≤ 5 by omega)
            have e5 : (128 : Nat) ^ 5 = 34359738368 := by decide
            omega
          have hPm : ch.toNat % 128 * U ≤ 127 * U := Nat.mul_le_mul_right _ (by omega)
          generalize hP : ch.toNat % 128 * U = P at hPm
          have hPx : (U : Int) * ((ch.toNat : Int) % 128) = (P : Int) := by rw [← hP]; push_cast; rw [Int.mul_comm]
          have hmul : wrap64 ((U : Int) * ((ch.toNat : Int) % 128)) = (P : Int) := by rw [hPx]; exact IntWalk.wrap64_in _ ⟨by omega, by omega⟩
          have HD2 := hdec
          rw [hdr, hf6] at HD2
          have hAdd : acc + ch.toNat % 128 * 128 ^ j = acc + P := by rw [← hP, hU]
          have hacc2 : acc + P < 128 ^ (j + 1) := by rw [Nat.pow_succ, ← hU]; exact acc_lt acc P U haccU hPm
          have hd3 : decide (((k + j : Nat) : Int) < (L.length : Int)) = true := by simp; omega
          have hd4 : decide (((k + j : Nat) : Int) < (k : Int) + 6) = true := by simp; omega
          have HPX := Lib.hid hPx
          have HACC := Lib.hid hacc2
          have HF7 := Lib.hid hf7
          clear hPx hch hc1 hr hdr hf6 hf7 hacc2 hacc hdec hU hP
          by_cases h128 : 128 ≤ ch.toNat
          · have hst := decF_step f j acc ch (L.drop (k + (j + 1))) h128
            rw [hAdd] at hst
            rw [hst] at HD2
            have HDN := Lib.hid HD2
            have hd5 : decide ((ch.toNat : Int) < 128) = false := by simp; omega
            clear hst HD2 hAdd
            go_wp2
            go_round
            case rel => exact ⟨j + 1, acc + P, U * 128, by omega, by omega, by go_num, by go_num, by go_num, by rw [HU.out, Nat.pow_succ], HACC.out, by rw [HF7.out]; exact HDN.out⟩
            case measure => simp [intOf]; omega
          · have hst := decF_stop f j acc ch (L.drop (k + (j + 1))) (by omega)
            rw [hAdd] at hst
            rw [hst] at HD2
            have hd5 : decide ((ch.toNat : Int) < 128) = true := by simp; omega
            clear hst hAdd
            by_cases hbad : (ch.toNat = 0 ∧ 0 < j) ∨ maxNum < acc + P
            · rw [if_pos hbad] at HD2
              have HFIN := Lib.hid (getOf_bad L k HD2 hkl)
              clear HD2
              unfold maxNum at hbad
              by_cases hm1 : 1099511627776 < acc + P
              · have hm : decide ((1099511627776 : Int) < (acc : Int) + (P : Int)) = true := by simp; omega
                clear hbad
                go_wp2
                go_ret3
                exact ⟨by rw [HFIN.out]; rfl, rfl⟩
              · have hm : decide ((1099511627776 : Int) < (acc : Int) + (P : Int)) = false := by simp; omega
                have hz0 : ch.toNat = 0 := by omega
                have hj0 : 0 < j := by omega
                have g2 : w.cell? ⟨b1, o1 + (k + j), none⟩ = some (.int .u8 0) := by rw [g1, hz0]; rfl
                have hm2 : (P : Int) = 0 := by have := HPX.out; rw [← this, hz0]; simp
                have hd6 : decide ((k : Int) < ((k + j : Nat) : Int)) = true := by simp; omega
                clear hbad g1 hmul hz0
                go_wp2
                go_ret3
                exact ⟨by rw [HFIN.out]; rfl, rfl⟩
            · rw [if_neg hbad] at HD2
              have HFIN := Lib.hid (getOf_ok L k (acc + P) (j + 1) HD2 hkl)
              clear HD2
              unfold maxNum at hbad
              have hm : decide ((1099511627776 : Int) < (acc : Int) + (P : Int)) = false := by simp; omega
              have hfin : ∀ v, v = Ending.returned (.tuple #[.int .i64 ((acc : Int) + (P : Int)), .int .i64 ((k : Int) + (j : Int) + 1), .int .i64 0]) → v = .returned (.tuple #[.int .i64 (getOf L k).1, .int .i64 (getOf L k).2.1, .int .i64 (getOf L k).2.2]) := fun v hv => by
                have e1 : (k : Int) + ((j + 1 : Nat) : Int) = (k : Int) + (j : Int) + 1 := by omega
                have e2 : ((acc + P : Nat) : Int) = (acc : Int) + (P : Int) := by omega
                rw [hv, HFIN.out]
                simp only [e1, e2]
              have HFIN2 := Lib.hid hfin
              clear hfin
              by_cases hj0 : 0 < j
              · have hz1 : ((ch.toNat : Int) == 0) = false := beq_eq_false_iff_ne.2 (by omega)
                have hd6 : decide ((k : Int) < ((k + j : Nat) : Int)) = true := by simp; omega
                clear hbad
                go_wp2
                go_ret3
                exact ⟨HFIN2.out _ rfl, rfl⟩
              · have hd6 : decide ((k : Int) < ((k + j : Nat) : Int)) = false := by simp; omega
                clear hbad
                go_wp2
                go_ret3
                exact ⟨HFIN2.out _ rfl, rfl⟩
        · have hnone : dec (L.drop k) = none := by
            rw [hdec]
            rcases Nat.lt_or_ge j 6 with h6 | h6
            · rw [List.drop_eq_nil_of_le (by omega)]
              obtain ⟨f, hf⟩ : ∃ f, 6 - j = f + 1 := ⟨5 - j, by omega⟩
              rw [hf]; rfl
            · rw [show 6 - j = 0 by omega]; rfl
          have HFIN := Lib.hid (getOf_bad L k hnone hkl)
          clear hnone hdec hacc hU hr
          by_cases hlt : k + j < L.length
          · have hd3 : decide (((k + j : Nat) : Int) < (L.length : Int)) = true := by simp; omega
            obtain rfl : j = 6 := by omega
            clear hgo
            go_wp2
            go_ret3
            exact ⟨by rw [HFIN.out]; rfl, rfl⟩
          · have hd3 : decide (((k + j : Nat) : Int) < (L.length : Int)) = false := by simp; omega
            clear hgo
            go_wp2
            go_ret3
            exact ⟨by rw [HFIN.out]; rfl, rfl⟩
end Go.Proofs.YtcockikekgmfkaaDoor
