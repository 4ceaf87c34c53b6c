/-
  Two rows of strings: are they the same? What the reference's Same gives.
-/
import Derived.Test.YtlojphajdefkdaaWords
import Derived.Test.YtlojphajdefkdaaRows
namespace Go.Proofs.Ytlojphajdefkdaa
open Go.RowKit

set_option maxRecDepth 100000 in
set_option maxHeartbeats 400000 in
theorem same_any (a b : List ByteArray) (A C : Option Addr) (n m c d B D : Nat) (w : World) (ha : Reads w B 1 A n (cellsS a)) (hb : Reads w D 1 C m (cellsS b)) (hn : n ≤ 100000) (hm : m ≤ 100000) :
    Calls Try.prog 10 #[.slice A n c, .slice C m d] w fun e w' => e = .returned (.bool (decide (a = b))) ∧ ∃ q, w' = w.drewN q := by
  have hla : a.length = n := by have := ha.1; rw [length_cellsS] at this; omega
  have hlb : b.length = m := by have := hb.1; rw [length_cellsS] at this; omega
  by_cases hnm : n = m
  · subst hnm
    have HA := Lib.hid hla
    have HB := Lib.hid hlb
    clear hla hlb
    go_enter Try.func10, Try.ntmps10
    go_wp2
    go_loopw [5] (fun i wr => ∃ k q : Nat, k ≤ n ∧ i = .int .i64 k ∧ a.take k = b.take k ∧ wr = w.drewN q) (fun i _ => n - (intOf i).toNat)
    case atStart => exact ⟨0, 0, Nat.zero_le _, rfl, rfl, rfl⟩
    case round =>
      obtain ⟨k, q, hk, rfl, heq, rfl⟩ := hrel
      have HE := Lib.hid heq
      clear heq
      by_cases hlt : k < n
      · obtain ⟨b1, o1, rfl, _, hc1⟩ := ha.plain (by omega)
        obtain ⟨b2, o2, rfl, _, hc2⟩ := hb.plain (by omega)
        obtain ⟨s, hs⟩ : ∃ s, a[k]? = some s := ⟨_, List.getElem?_eq_getElem (by rw [HA.out]; exact hlt)⟩
        obtain ⟨t, ht⟩ : ∃ t, b[k]? = some t := ⟨_, List.getElem?_eq_getElem (by rw [HB.out]; exact hlt)⟩
        have g1 := hc1 k _ (by rw [getElem?_cellsS, hs]; rfl)
        have g2 := hc2 k _ (by rw [getElem?_cellsS, ht]; rfl)
        have HS := Lib.hid hs
        have HT := Lib.hid ht
        clear hs ht hc1 hc2 ha hb
        have hd : decide ((k : Int) < (n : Int)) = true := by simp; omega
        by_cases hst : s = t
        · have hq : (s.toList == t.toList) = true := by rw [beq_str]; simpa using hst
          have HQ := Lib.hid hst
          clear hst
          go_wp2
          go_quiet (fail)
          go_wp2
          go_roundw
          case rel => exact ⟨k + 1, q + nq, by omega, by go_num, (take_snoc_eq HE.out HS.out HT.out).2 HQ.out, rfl⟩
          case measure => simp [intOf]; omega
        · have hq : (s.toList == t.toList) = false := by rw [beq_str]; simpa using hst
          have HQ := Lib.hid (ne_of_at HS.out HT.out hst)
          clear hst
          go_wp2
          go_quiet (fail)
          go_wp2
          go_ret
          exact ⟨by rw [decide_eq_false HQ.out]; rfl, q + nq, by rw [World.drewN_drewN]⟩
      · obtain rfl : k = n := by omega
        have hd : decide ((k : Int) < (k : Int)) = false := by simp
        have hfin : a = b := by
          have := HE.out
          rwa [List.take_of_length_le (by rw [HA.out]; exact Nat.le_refl _), List.take_of_length_le (by rw [HB.out]; exact Nat.le_refl _)] at this
        have HF := Lib.hid hfin
        clear hfin
        go_wp2
        go_ret
        exact ⟨by rw [decide_eq_true HF.out]; rfl, q, rfl⟩
  · have hne : a ≠ b := by rintro rfl; omega
    have HN := Lib.hid hne
    have hd : ((n : Int) != (m : Int)) = true := by rw [bne_iff_ne]; omega
    clear hla hlb hne
    go_enter Try.func10, Try.ntmps10
    go_wp2
    go_ret
    exact ⟨by rw [decide_eq_false HN.out]; rfl, 0, rfl⟩

theorem same_self (a : List ByteArray) (A C : Option Addr) (n c d B D : Nat) (w : World) (ha : Reads w B 1 A n (cellsS a)) (hb : Reads w D 1 C n (cellsS a)) (hn : n ≤ 100000) :
    Calls Try.prog 10 #[.slice A n c, .slice C n d] w fun e w' => e = .returned (.bool true) ∧ ∃ q, w' = w.drewN q :=
  (same_any a a A C n n c d B D w ha hb hn hn).mono fun e w' ⟨h1, h2⟩ => ⟨by rw [h1, decide_eq_true rfl], h2⟩
end Go.Proofs.Ytlojphajdefkdaa
