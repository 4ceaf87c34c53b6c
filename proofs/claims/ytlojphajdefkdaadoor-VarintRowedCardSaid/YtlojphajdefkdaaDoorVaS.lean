/-
  The document's Row, ReadRow, Ints, and package varint's ReadRow: what they give.
-/
import Derived.Test.YtlojphajdefkdaaDoorVaR
namespace Go.Proofs.YtlojphajdefkdaaDoor
open Go.RowKit

set_option maxRecDepth 100000 in
set_option maxHeartbeats 1000000 in
theorem rRow_any (A : Option Addr) (l : List Int) (c : Nat) (w : World) (hr : Reads w w.heap.size 1 A l.length (cellsI .i64 l)) (hl : l.length ≤ 300) :
    Calls Tryd.prog 17 #[.slice A l.length c] w (RowPost l w) := by
  have HR := Lib.hid hr
  have HC := Lib.hid (rPut_ok none [] 0 l.length w Reads.none_ (by decide) (show l.length ≤ 1099511627776 by omega))
  clear hr
  go_enter Tryd.func17, Tryd.ntmps17
  go_wp2_with fail
  refine HC.out.mono ?_
  rintro e w1 ⟨A1, c1, rfl, r1, hc1, b1⟩
  rw [List.nil_append] at r1 hc1
  rw [List.nil_append]
  have hx := rowX_zero l
  rw [← hx] at r1 hc1
  rw [← hx]
  have R1 := Lib.hid r1
  have B1 := Lib.hid b1
  have C1 := Lib.hid hc1
  clear hx r1 b1 hc1
  go_wp2_with fail
  go_loopw [4, 6] (fun x y wr => ∃ (k : Nat) (A2 : Option Addr) (c2 : Nat), k ≤ l.length ∧ y = .int .i64 k ∧ AllOk (l.take k) ∧ x = .slice A2 (rowX l k).length c2 ∧ (rowX l k).length ≤ c2 ∧ Reads wr wr.heap.size 1 A2 (rowX l k).length (cellsB (rowX l k)) ∧ Below w.heap.size w wr) (fun _ y _ => l.length - (intOf y).toNat)
  case atStart => exact ⟨0, A1, c1, Nat.zero_le _, rfl, by simp [AllOk], rfl, C1.out, R1.out, B1.out⟩
  case round =>
    obtain ⟨k, A2, c2, hk, rfl, hok, rfl, hc2, r2, b2⟩ := hrel
    have hxl := rowX_le l k hl hok
    have HOK := Lib.hid hok
    have R2 := Lib.hid r2
    have B2 := Lib.hid b2
    have C2 := Lib.hid hc2
    clear hok r2 b2 hc2
    by_cases hlt : k < l.length
    · have d1 : decide ((k : Int) < (l.length : Int)) = true := by simp; omega
      obtain ⟨b1, o1, rfl, _, hc1⟩ := (HR.out.below B2.out).plain (by omega)
      obtain ⟨z, hz⟩ : ∃ z, l[k]? = some z := ⟨_, List.getElem?_eq_getElem hlt⟩
      have g1 := hc1 k _ (by rw [getElem?_cellsI, hz]; rfl)
      have HZ := Lib.hid hz
      clear hc1 hz
      by_cases hzo : 0 ≤ z ∧ z ≤ 1099511627776
      · obtain ⟨n, rfl⟩ := Int.eq_ofNat_of_zero_le hzo.1
        have hn : n ≤ maxNum := show n ≤ 1099511627776 by omega
        have HC1 := Lib.hid (rPut_ok A2 (rowX l k) c2 n wr R2.out (by omega) hn)
        go_wp2_with fail
        refine HC1.out.mono ?_
        rintro e w2 ⟨A3, c3, rfl, r3, hc3, b3⟩
        have hx := rowX_succ l k n HZ.out
        rw [← hx] at r3 hc3
        rw [← hx]
        have R3 := Lib.hid r3
        have B3 := Lib.hid b3
        have C3 := Lib.hid hc3
        clear hx r3 hc3 b3
        go_wp2_with fail
        go_roundw
        case rel => exact ⟨k + 1, A3, c3, by omega, by go_num, allOk_take HOK.out HZ.out hzo, rfl, C3.out, R3.out, B2.out.trans (B3.out.mono B2.out.size)⟩
        case measure => simp [intOf]; omega
      · have HC1 := Lib.hid (rPut_no A2 (rowX l k).length c2 z wr (by omega))
        have hnot : ¬ AllOk l := fun h => hzo (h z (List.mem_of_getElem? HZ.out))
        have HN := Lib.hid hnot
        clear hzo hnot
        go_wp2_with fail
        refine HC1.out.mono ?_
        rintro e w2 ⟨A3, c3, rfl, r3, hc3, b3⟩
        have B3 := Lib.hid b3
        clear r3 hc3 b3
        go_wp2_with fail
        go_ret2
        exact .inr ⟨HN.out, none, 0, rfl, Reads.none_, Nat.le_refl _, B2.out.trans (B3.out.mono B2.out.size)⟩
    · obtain rfl : k = l.length := by omega
      have d1 : decide ((l.length : Int) < (l.length : Int)) = false := by simp
      have HF := Lib.hid (show BytesPost (rowBytes l) 0 w (.returned (.tuple #[.slice A2 (rowX l l.length).length c2, .int .i64 0])) wr from ⟨A2, c2, by rw [rowX_all], by have := R2.out; rwa [rowX_all] at this, by rw [← rowX_all]; exact C2.out, B2.out⟩)
      have hall : AllOk l := by have := HOK.out; rwa [List.take_length] at this
      have HALL := Lib.hid hall
      clear hall
      go_wp2_with fail
      go_ret2
      exact .inl ⟨HALL.out, HF.out⟩

set_option maxRecDepth 100000 in
set_option maxHeartbeats 1000000 in
/-- Ints: the same numbers? -/
theorem Ints_any (A1 A2 : Option Addr) (l1 l2 : List Int) (c1 c2 B1 B2 : Nat) (w : World) (h1 : Reads w B1 1 A1 l1.length (cellsI .i64 l1)) (h2 : Reads w B2 1 A2 l2.length (cellsI .i64 l2)) (hl : l1.length ≤ 1000000) :
    Calls Tryd.prog 20 #[.slice A1 l1.length c1, .slice A2 l2.length c2] w fun e w' => e = .returned (.bool (decide (l1 = l2))) ∧ ∃ q, w' = w.drewN q := by
  by_cases hlen : l1.length = l2.length
  · have d0 : ((l1.length : Int) != (l2.length : Int)) = false := by rw [hlen]; simp
    have HH1 := Lib.hid h1
    have HH2 := Lib.hid h2
    have HLEN := Lib.hid hlen
    have hl2 : l1.length ≤ l2.length := by omega
    have hl3 : l2.length ≤ l1.length := by omega
    clear h1 h2 hlen
    go_enter Tryd.func20, Tryd.ntmps20
    go_wp2_with fail
    go_loopw [5] (fun y wr => ∃ k q : Nat, k ≤ l1.length ∧ y = .int .i64 k ∧ wr = w.drewN q ∧ l1.take k = l2.take k) (fun y _ => l1.length - (intOf y).toNat)
    case atStart => exact ⟨0, 0, Nat.zero_le _, rfl, rfl, by simp⟩
    case round =>
      obtain ⟨k, q, hk, rfl, rfl, htk⟩ := hrel
      have HTK := Lib.hid htk
      clear htk
      by_cases hlt : k < l1.length
      · have d1 : decide ((k : Int) < (l1.length : Int)) = true := by simp; omega
        obtain ⟨b1, o1, rfl, _, hc1⟩ := HH1.out.plain (by omega)
        obtain ⟨b2, o2, rfl, _, hc2⟩ := HH2.out.plain (by omega)
        obtain ⟨x, hx⟩ : ∃ z, l1[k]? = some z := ⟨_, List.getElem?_eq_getElem hlt⟩
        obtain ⟨y, hy⟩ : ∃ z, l2[k]? = some z := ⟨_, List.getElem?_eq_getElem (by omega)⟩
        have g1 := hc1 k _ (by rw [getElem?_cellsI, hx]; rfl)
        have g2 := hc2 k _ (by rw [getElem?_cellsI, hy]; rfl)
        have i1 : (0 : Int) ≤ (k : Int) := by omega
        have i2 : (k : Int) < (l1.length : Int) := by omega
        have i3 : (k : Int) < (l2.length : Int) := by omega
        have hts := take_snoc_eq HTK.out hx hy
        have HTS := Lib.hid hts
        have HX := Lib.hid hx
        have HY := Lib.hid hy
        clear hc1 hc2 hx hy hts
        by_cases hxy : x = y
        · subst hxy
          have d2 : (x != x) = false := by simp
          go_wp2_with fail
          go_quiet (fail)
          go_wp2_with fail
          go_roundw
          case rel => exact ⟨k + 1, _, by omega, by go_num, rfl, HTS.out.2 trivial⟩
          case measure => simp [intOf]; omega
        · have d2 : (x != y) = true := by simpa using hxy
          have hne : l1 ≠ l2 := ne_of_at HX.out HY.out hxy
          have hf : decide (l1 = l2) = false := by simpa using hne
          have HF := Lib.hid hf
          clear hne hf hxy
          go_wp2_with fail
          go_quiet (fail)
          go_wp2_with fail
          go_ret
          exact ⟨by rw [HF.out]; rfl, _, World.drewN_drewN ..⟩
      · obtain rfl : k = l1.length := by omega
        have d1 : decide ((l1.length : Int) < (l1.length : Int)) = false := by simp
        have he : l1 = l2 := by
          have h3 := HTK.out
          rw [List.take_length, HLEN.out, List.take_length] at h3
          exact h3
        have hf : decide (l1 = l2) = true := by simpa using he
        have HF := Lib.hid hf
        clear he hf
        go_wp2_with fail
        go_ret
        exact ⟨by rw [HF.out]; rfl, _, rfl⟩
  · have d0 : ((l1.length : Int) != (l2.length : Int)) = true := by simp; omega
    have hne : ¬ l1 = l2 := fun h => hlen (by rw [h])
    have hf : decide (l1 = l2) = false := by simpa using hne
    have HF := Lib.hid hf
    clear hf hne hlen h1 h2
    go_enter Tryd.func20, Tryd.ntmps20
    go_wp2_with fail
    go_ret
    exact ⟨by rw [HF.out]; rfl, 0, rfl⟩
end Go.Proofs.YtlojphajdefkdaaDoor
