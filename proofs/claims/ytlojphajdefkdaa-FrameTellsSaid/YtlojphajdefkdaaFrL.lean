/-
  The document's answers of layer 4 (rovingref04): what each call gives.
-/
import Derived.Test.YtlojphajdefkdaaFrJ
namespace Go.Proofs.Ytlojphajdefkdaa
open Go.RowKit

set_option maxHeartbeats 400000 in
theorem rsize_any (n : Int) (w : World) :
    Calls Try.prog 17 #[.int .i64 n] w fun e w' => e = .returned (.int .i64 (frSize n)) ∧ w = w' := by
  by_cases h1 : n < 0
  · have hd : decide (n < 0) = true := by simpa using h1
    go_enter Try.func17, Try.ntmps17
    go_wp2
    go_ret
    exact ⟨by simp [frSize, h1], rfl⟩
  · have hd : decide (n < 0) = false := by simpa using h1
    by_cases h2 : 1024 < n
    · have hd2 : decide (1024 < n) = true := by simpa using h2
      go_enter Try.func17, Try.ntmps17
      go_wp2
      go_ret
      exact ⟨by simp [frSize, h2], rfl⟩
    · have hd2 : decide (1024 < n) = false := by simpa using h2
      go_enter Try.func17, Try.ntmps17
      go_wp2
      go_ret
      exact ⟨by rw [frSize, if_neg (by omega), Int.add_comm]; rfl, rfl⟩

set_option maxHeartbeats 400000 in
theorem rbytes_long (s : ByteArray) (w : World) (hs : s.size ≤ maxLen) (hl : 1024 < s.size) :
    Calls Try.prog 13 #[.string s] w fun e w' => e = .returned (.tuple #[.string ⟨#[]⟩, .int .i64 2]) ∧ w = w' := by
  unfold maxLen at hs
  go_enter Try.func13, Try.ntmps13
  go_wp2
  go_ret2
  exact ⟨rfl, rfl⟩

theorem and255 (x : Int) (h0 : 0 ≤ x) (h1 : x < 2 ^ 62) : bits .and .i64 x 255 = x % 256 :=
  bits_mask .i64 62 (by decide) wraps_i64 8 (by decide) x h0 h1

set_option maxHeartbeats 400000 in
theorem rbytes_ok (s : ByteArray) (w : World) (hl : s.size ≤ 1024) :
    Calls Try.prog 13 #[.string s] w fun e w' => e = .returned (.tuple #[.string (bs (headOf s.size ++ lb s)), .int .i64 0]) ∧ Below w.heap.size w w' := by
  have h1 : bits .and .i64 (s.size : Int) 255 = (s.size : Int) % 256 := and255 _ (by omega) (by omega)
  have h2 : bits .and .i64 ((s.size : Int) / 256) 255 = (s.size : Int) / 256 := by rw [and255 _ (by omega) (by omega)]; omega
  have hns : (bs (headOf s.size)).size = 4 := by rw [size_bs]; rfl
  have hcv := fun w => conv_head s.size hl w 5
  go_enter Try.func13, Try.ntmps13
  go_wp2
  go_ret2
  refine ⟨?_, (Below.refl _ _).alloc (Nat.le_refl _) _⟩
  rw [← bs_append, bs_lb]
  rfl

theorem byte_at (s : ByteArray) (i : Nat) (h : i < s.size) : (s[i].toNat : Int) = (byteAt (lb s) i : Int) := by
  have h1 : i < s.data.size := h
  unfold byteAt lb
  rw [List.getD_eq_getElem?_getD, Array.getElem?_toList, Array.getElem?_eq_getElem h1]
  rfl

set_option maxRecDepth 100000 in
set_option maxHeartbeats 400000 in
theorem rfirst_yes (s : ByteArray) (w : World) (hs : s.size ≤ 100000) (hf : FrameAt (lb s) 0) :
    Calls Try.prog 15 #[.string s] w fun e w' => e = .returned (.tuple #[.string (bs (((lb s).drop 4).take (lenAt (lb s) 0))), .int .i64 (4 + (lenAt (lb s) 0 : Int)), .bool true]) ∧ ∃ q, w' = w.drewN q := by
  unfold FrameAt at hf
  rw [length_lb] at hf
  obtain ⟨h4, hz, hw⟩ := hf
  have b0 := byte_at s 0 (by omega)
  have b1 := byte_at s 1 (by omega)
  have b2 := byte_at s 2 (by omega)
  have b3 := byte_at s 3 (by omega)
  have l0 := byteAt_lt (lb s) 0
  have l1 := byteAt_lt (lb s) 1
  have l2 := byteAt_lt (lb s) 2
  have l3 := byteAt_lt (lb s) 3
  have hsum : (byteAt (lb s) 0 : Int) + (byteAt (lb s) 1 : Int) * 256 + (byteAt (lb s) 2 : Int) * 65536 + (byteAt (lb s) 3 : Int) * 16777216 = (lenAt (lb s) 0 : Int) := by
    unfold lenAt; simp only [Nat.zero_add]; omega
  have HSUM := Lib.hid hsum
  clear hsum
  have hd1 : decide ((1024 : Int) < (lenAt (lb s) 0 : Int)) = false := by simp; omega
  have hd2 : decide ((s.size : Int) - 4 < (lenAt (lb s) 0 : Int)) = false := by simp; omega
  go_enter Try.func15, Try.ntmps15
  go_wp2
  go_quiet (fail)
  rw [HSUM.out]
  clear b0 b1 b2 b3
  go_wp2
  go_ret3
  refine ⟨?_, nq, rfl⟩
  have e : s.extract 4 (4 + lenAt (lb s) 0) = bs (((lb s).drop 4).take (lenAt (lb s) 0)) := by
    rw [← bs_lb (s.extract 4 (4 + lenAt (lb s) 0)), lb_extract, List.take_add]
    congr 1
    rw [List.drop_append, List.drop_eq_nil_of_le (by rw [List.length_take]; omega)]
    have h5 : 4 - (List.take 4 (lb s)).length = 0 := by rw [List.length_take, length_lb]; omega
    rw [h5]; rfl
  rw [← e]
  rfl

set_option maxRecDepth 100000 in
set_option maxHeartbeats 400000 in
theorem rfirst_no (s : ByteArray) (w : World) (hs : s.size ≤ 100000) (hf : ¬ FrameAt (lb s) 0) :
    Calls Try.prog 15 #[.string s] w fun e w' => e = .returned (.tuple #[.string ⟨#[]⟩, .int .i64 0, .bool false]) ∧ ∃ q, w' = w.drewN q := by
  unfold FrameAt at hf
  rw [length_lb] at hf
  by_cases h4 : s.size < 4
  · have hd0 : decide ((s.size : Int) < 4) = true := by simp; omega
    go_enter Try.func15, Try.ntmps15
    go_wp2
    go_ret3
    exact ⟨rfl, 0, rfl⟩
  · have hd0 : decide ((s.size : Int) < 4) = false := by simp; omega
    have b0 := byte_at s 0 (by omega)
    have b1 := byte_at s 1 (by omega)
    have b2 := byte_at s 2 (by omega)
    have b3 := byte_at s 3 (by omega)
    have l0 := byteAt_lt (lb s) 0
    have l1 := byteAt_lt (lb s) 1
    have l2 := byteAt_lt (lb s) 2
    have l3 := byteAt_lt (lb s) 3
    have hsum : (byteAt (lb s) 0 : Int) + (byteAt (lb s) 1 : Int) * 256 + (byteAt (lb s) 2 : Int) * 65536 + (byteAt (lb s) 3 : Int) * 16777216 = (lenAt (lb s) 0 : Int) := by
      unfold lenAt; simp only [Nat.zero_add]; omega
    have HSUM := Lib.hid hsum
    clear hsum
    by_cases hz : 1024 < lenAt (lb s) 0
    · have hd1 : decide ((1024 : Int) < (lenAt (lb s) 0 : Int)) = true := by simp; omega
      go_enter Try.func15, Try.ntmps15
      go_wp2
      go_quiet (fail)
      rw [HSUM.out]
      clear b0 b1 b2 b3
      go_wp2
      go_ret3
      exact ⟨rfl, nq, rfl⟩
    · have hd1 : decide ((1024 : Int) < (lenAt (lb s) 0 : Int)) = false := by simp; omega
      have hd2 : decide ((s.size : Int) - 4 < (lenAt (lb s) 0 : Int)) = true := by simp; omega
      go_enter Try.func15, Try.ntmps15
      go_wp2
      go_quiet (fail)
      rw [HSUM.out]
      clear b0 b1 b2 b3
      go_wp2
      go_ret3
      exact ⟨rfl, nq, rfl⟩

theorem drop_frame (L : List UInt8) (k : Nat) (hk : k ≤ L.length) : (FrameAt (L.drop k) 0 ↔ FrameAt L k) ∧ lenAt (L.drop k) 0 = lenAt L k := by
  have h1 := frameAt_append (L.take k) (L.drop k) 0
  have h2 := lenAt_append (L.take k) (L.drop k) 0
  rw [List.take_append_drop, List.length_take, Nat.min_eq_left hk, Nat.add_zero] at h1 h2
  exact ⟨h1.symm, h2.symm⟩

theorem infoStrR : (Try.prog.info? 9).map (fun i => (i.zero, i.size, i.bytes)) = some (some (.string ⟨#[]⟩), 1, 16) := by kernel_rfl

set_option maxRecDepth 100000 in
set_option maxHeartbeats 1000000 in
theorem rall_gives (s : ByteArray) (w : World) (hs : s.size ≤ 100000) :
    Calls Try.prog 16 #[.string s] w (AllGives (lb s) w) := by
  obtain ⟨i0, hi, hz0, hz1, hz2⟩ := info_parts infoStrR
  have HLB := Lib.hid (length_lb s)
  go_enter Try.func16, Try.ntmps16
  go_wp2
  go_loopw [4, 5] (fun v i wr => ∃ (k : Nat) (pre : List (List UInt8)), k ≤ s.size ∧ i = .int .i64 k ∧ wr.ownsRow w.heap.size 9 1 v pre.length (cellsS (pre.map bs)) ∧ loadsFrom (lb s) 0 = pre ++ loadsFrom (lb s) k ∧ endFrom (lb s) 0 = endFrom (lb s) k ∧ pre.length ≤ k ∧ Below w.heap.size w wr) (fun _ i _ => s.size - (intOf i).toNat)
  case atStart => exact ⟨0, [], Nat.zero_le _, rfl, World.ownsRow_nil _ _ _ _, rfl, rfl, Nat.le_refl _, Below.refl _ _⟩
  case round =>
    obtain ⟨k, pre, hk, rfl, hown, hlo, hen, hpl, hbw⟩ := hrel
    have HLO := Lib.hid hlo
    have HEN := Lib.hid hen
    have HOWN := Lib.hid hown
    clear hlo hen
    have hext : lb (s.extract k s.size) = (lb s).drop k := by
      rw [lb_extract, List.take_of_length_le (by rw [HLB.out]; exact Nat.le_refl _)]
    have hdf := drop_frame (lb s) k (by rw [HLB.out]; exact hk)
    have hexs : (s.extract k s.size).size ≤ 100000 := by rw [← length_lb, hext, List.length_drop, HLB.out]; omega
    by_cases hf : FrameAt (lb s) k
    · have hff := hf
      unfold FrameAt at hff
      rw [HLB.out] at hff
      obtain ⟨h4, hz, hw⟩ := hff
      have hd : decide ((k : Int) < (s.size : Int)) = true := by simp; omega
      have hcl := rfirst_yes (s.extract k s.size) wr hexs (by rw [hext]; exact hdf.1.2 hf)
      rw [hext, hdf.2, List.drop_drop] at hcl
      have HCL := Lib.hid hcl
      have HF := Lib.hid hf
      clear hcl hf hdf hext hexs hown
      go_wp2_with (first | (go_at_call 15; refine HCL.out.mono ?_; rintro e w2 ⟨rfl, q, rfl⟩) | (at_builtin; refine wpList_append_own _ rfl _ _ 23 rfl w.heap.size 9 i0 (.string ⟨#[]⟩) 1 16 Try.underlying23 hi hz0 hz1 hz2 rfl (by decide) _ _ _ rfl (World.ownsRow.alloc (w := wr.drewN q) HOWN.out _) ⟨wr.heap.size, 0, none⟩ 1 1 [.string (bs (((lb s).drop (k + 4)).take (lenAt (lb s) k)))] rfl rfl (cell_one_new _ _ _) (by simp [Value.oneCell']) (by unfold maxLen; omega) (by omega) (by have := hbw.size; simp; omega) ?_; intro v' w4 hown' hgrow _))
      go_roundw
      case rel =>
        refine ⟨k + 4 + lenAt (lb s) k, pre ++ [((lb s).drop (k + 4)).take (lenAt (lb s) k)], by omega, congrArg (Value.int .i64) (by omega), ?_, ?_, ?_, ?_, ?_⟩
        · simpa [cellsS] using hown'
        · rw [HLO.out, loadsFrom_frame _ _ HF.out]; simp
        · rw [HEN.out, endFrom_frame _ _ HF.out]
        · simp; omega
        · have k2 := below_drewN hbw q
          exact (k2.alloc k2.size _).grown hgrow (by have := hbw.size; simp; omega) (fun g hg => (HOWN.out.lt g hg).1)
      case measure => simp [intOf]; omega
    · have hfin : AllGives (lb s) w (.returned (.tuple #[u4, .int .i64 ((s.size : Int) - (k : Int))])) wr := by
        obtain ⟨A, c, rfl, hc⟩ := own_slice hown
        refine ⟨A, c, ?_, ?_, ?_, hbw⟩
        · rw [HLO.out, HEN.out, loadsFrom_none _ _ hf, endFrom_none _ _ hf, HLB.out, List.append_nil]
        · rw [HLO.out, loadsFrom_none _ _ hf, List.append_nil]; exact Reads.of_own hown
        · rw [HLO.out, loadsFrom_none _ _ hf, List.append_nil]; exact hc
      have hfin2 : ∀ q, AllGives (lb s) w (.returned (.tuple #[u4, .int .i64 ((s.size : Int) - (k : Int))])) (wr.drewN q) := fun q => by
        obtain ⟨A, c, h1, h2, h3, h4⟩ := hfin
        exact ⟨A, c, h1, h2.drewN q, h3, below_drewN h4 q⟩
      have HFIN := Lib.hid hfin
      have HFIN2 := Lib.hid hfin2
      by_cases hlt : k < s.size
      · have hd : decide ((k : Int) < (s.size : Int)) = true := by simp; omega
        have HCL := Lib.hid (rfirst_no (s.extract k s.size) wr hexs (by rw [hext]; exact fun h => hf (hdf.1.1 h)))
        clear hf hdf hext hexs hown hfin hfin2
        go_wp2_with (go_at_call 15; refine HCL.out.mono ?_; rintro e w2 ⟨rfl, q, rfl⟩)
        go_ret2
        exact HFIN2.out q
      · have hd : decide ((k : Int) < (s.size : Int)) = false := by simp; omega
        clear hf hdf hext hexs hown hfin hfin2
        go_wp2_with fail
        go_ret2
        exact HFIN.out

set_option maxHeartbeats 400000 in
theorem rwhole_any (s : ByteArray) (w : World) (hs : s.size ≤ 100000) :
    Calls Try.prog 18 #[.string s] w fun e w' => e = .returned (.bool ((endFrom (lb s) 0 : Int) == (s.size : Int))) ∧ Below w.heap.size w w' := by
  have hq : (((s.size : Int) - (endFrom (lb s) 0 : Int)) == 0) = ((endFrom (lb s) 0 : Int) == (s.size : Int)) := by
    rw [Bool.eq_iff_iff, beq_iff_eq, beq_iff_eq]; omega
  have HQ := Lib.hid hq
  have HLB := Lib.hid (length_lb s)
  have HAL := Lib.hid (rall_gives s w hs)
  clear hq
  go_enter Try.func18, Try.ntmps18
  go_wp2_with fail
  refine HAL.out.mono ?_
  rintro e w1 ⟨A, c, rfl, hr, hc, hb⟩
  rw [HLB.out]
  clear hr
  go_wp2
  go_ret
  exact ⟨by rw [← HQ.out]; rfl, hb⟩
end Go.Proofs.Ytlojphajdefkdaa
