/-
  Layer 6: record.write's closures.
  Package varint's Get: what it gives.
  The document's answers of layer 1 (rovingref01): what Put, Len give.
  The document's answer of layer 1, Get: what it gives.
  Layer 2, writing: numbers, texts, flags behind bytes; of the program and of the document.
  Layer 2, writing: flags; how long a text is.
  Small lemmas that many texts use.
  Layer 6: record.May; which batch is too great.
  A world that is as another one was but for some blocks that were there.
  errors.As and errors.Is at an error of type record.fault, which wraps its code.
  What errors.As leaves behind; the library's own variable.
-/
import Derived.Test.YtckdecodpjfcnaaGreatDoorEnRowsProofP02
import Derived.Lib.AppendStr
import Derived.Lib.AppendZeros
import Derived.LoopN
import Derived.Outline
set_option linter.unusedVariables false
set_option linter.unusedSimpArgs false
namespace Go.Proofs.YtckdecodpjfcnaaGreatDoor
open Go.RowKit

/-- The library's own variable holds the handle of the type error. -/
def HasErr (w : World) : Prop := w.cell? ⟨0, 0, none⟩ = some (.iface 162 (.agg #[.pointer (some ⟨1, 99, none⟩)]))
theorem HasErr.lt {w : World} (h : HasErr w) : 0 < w.heap.size := by
  rcases Nat.lt_or_ge 0 w.heap.size with h1 | h1
  · exact h1
  · unfold HasErr at h; simp [World.cell?, Array.getElem?_eq_none h1] at h
theorem HasErr.below {w w' : World} (h : HasErr w) {B : Nat} (hb : Below B w w') (hB : 0 < B) : HasErr w' := (hb.cell (p := ⟨0, 0, none⟩) hB).trans h

/-- What varint.Get says of bytes and a place. -/
def getOf (L : List UInt8) (k : Int) : Int × Int × Int :=
  if k < 0 ∨ (L.length : Int) < k then (0, 0, 70)
  else match dec (L.drop k.toNat) with
    | none => (0, 0, 70)
    | some (n, m) => (n, k + m, 0)

def GetPost (L : List UInt8) (k : Int) (w : World) (e : Ending) (w' : World) : Prop :=
  e = .returned (.tuple #[.int .i64 (getOf L k).1, .int .i64 (getOf L k).2.1, .int .i64 (getOf L k).2.2]) ∧ Below w.heap.size w w'

set_option maxRecDepth 100000 in
set_option maxHeartbeats 1000000 in
theorem Get_any (A : Option Addr) (L : List UInt8) (c : Nat) (k : Int) (w : World) (hL : L.length ≤ 100000) (hg : HasErr w) (hr : Reads w w.heap.size 1 A L.length (cellsB L)) :
    Calls Tryz.prog 94 #[.slice A L.length c, .int .i64 k] w (GetPost L k w) := by
  have hb0 : Below w.heap.size w (w.alloc (.cells #[.slice A L.length c, .int .i64 k] 157)) := (Below.refl _ _).alloc (Nat.le_refl _) _
  have hg1 := hg.below hb0 hg.lt
  have blk := Blk.new w 157 #[.slice A L.length c, .int .i64 k]
  have c0 := blk.cell 0
  have c1 := blk.cell 1
  have f1 := blk.frozen 1
  have hgl := hg.lt
  -- the ways on which it fails
  have bad : ∀ (hgo : getOf L k = (0, 0, 70)) (hn : Calls Tryz.prog 112 #[.pointer (some ⟨w.heap.size, 0, none⟩)] (w.alloc (.cells #[.slice A L.length c, .int .i64 k] 157)) (Broken (w.alloc (.cells #[.slice A L.length c, .int .i64 k] 157)))),
      Calls Tryz.prog 94 #[.slice A L.length c, .int .i64 k] w (GetPost L k w) := by
    intro hgo hn
    have HN := Lib.hid hn
    have HGO := Lib.hid hgo
    have HG1 := Lib.hid hg1
    clear hn hgo hg1 hg blk c0 c1 f1 hr
    go_enter Tryz.func94, Tryz.ntmps94
    go_wp2_with (first | (go_at_call 112; refine HN.out.mono ?_; rintro e w1 ⟨b, rfl, hc70, hbge, hb1⟩; have HC := Lib.hid (code_broken b 70 w1 (HG1.out.below hb1 (by simp only [World.size_alloc]; omega)) hc70)) | (go_at_call 113; refine HC.out.mono ?_; rintro e w2 ⟨rfl, hb2⟩))
    go_ret3
    unfold GetPost
    rw [HGO.out]
    refine ⟨rfl, ?_⟩
    have k1 := hb0.trans (hb1.mono (by simp))
    exact k1.trans (hb2.mono k1.size)
  by_cases hk : k < 0 ∨ (L.length : Int) < k
  · exact bad (by unfold getOf; rw [if_pos hk]) (next_out _ A L c k _ c0 c1 hk)
  · obtain ⟨n, rfl⟩ := Int.eq_ofNat_of_zero_le (show 0 ≤ k by omega)
    have hgo : getOf L (n : Int) = match dec (L.drop n) with
        | none => (0, 0, 70)
        | some (x, m) => ((x : Int), (n : Int) + m, 0) := by unfold getOf; rw [if_neg hk, Int.toNat_natCast]
    have hn := next_in w.heap.size A L c n w.heap.size _ c0 c1 f1 (by omega) hL (hr.alloc (Nat.le_refl _) _)
    unfold NextPost at hn
    cases hd : dec (L.drop n) with
    | none =>
      rw [hd] at hn hgo
      exact bad hgo hn
    | some r =>
      obtain ⟨x, m⟩ := r
      rw [hd] at hn hgo
      simp only at hn hgo
      have HN := Lib.hid hn
      have HGO := Lib.hid hgo
      clear bad hn hgo hg1 hg blk hr hd hk
      go_enter Tryz.func94, Tryz.ntmps94
      go_wp2_with (go_at_call 112; refine HN.out.mono ?_; rintro e w1 ⟨rfl, q, rfl⟩)
      go_quiet (fail)
      go_wp2
      go_ret3
      unfold GetPost
      rw [HGO.out]
      refine ⟨rfl, ?_⟩
      exact below_drewN ((below_drewN hb0 q).setCell (p := ⟨w.heap.size, 1, none⟩) (Nat.le_refl _) _) _
end Go.Proofs.YtckdecodpjfcnaaGreatDoor
namespace Go.Proofs.YtckdecodpjfcnaaGreatDoor
open Go.RowKit

theorem reads_new (w : World) (t : TypeId) (l : List UInt8) : Reads (w.alloc (.cells (cellsB l).toArray t)) (w.heap.size + 1) 1 (some ⟨w.heap.size, 0, none⟩) l.length (cellsB l) := by
  refine ⟨by rw [length_cellsB]; omega, fun _ => ⟨_, rfl, Nat.lt_succ_self _, fun j u hu => ?_⟩⟩
  rw [add_none, Nat.zero_add]
  have := (Blk.new w t (cellsB l).toArray).cell j
  rw [this]
  simpa using hu

set_option maxRecDepth 100000 in
set_option maxHeartbeats 1000000 in
theorem rPut_own (A : Option Addr) (l : List UInt8) (c : Nat) (n : Nat) (w : World) (hr : Reads w w.heap.size 1 A l.length (cellsB l)) (hl : l.length ≤ 90000) (hn : n ≤ maxNum) :
    Calls Tryz.prog 69 #[.slice A l.length c, .int .i64 n] w (OwnPost (l ++ enc n) 0 w) := by
  obtain ⟨i0, hi, hz0, hz1, hz2⟩ := info_parts infoByte
  have hn' : n ≤ 1099511627776 := hn
  have hd : decide ((n : Int) < 0) = false := by simp
  have hd2 : decide ((1099511627776 : Int) < (n : Int)) = false := by simp; omega
  have HR := Lib.hid hr
  clear hr
  go_enter Tryz.func69, Tryz.ntmps69
  go_wp2_with (at_builtin; refine wpList_append_any _ rfl (.tmp 13) (.tmp 14) 46 rfl w.heap.size 5 i0 (.int .u8 0) 1 1 Tryz.underlying46 hi hz0 hz1 hz2 rfl (by decide) _ 0 [] rfl (World.ownsRow_nil _ _ _ _) w.heap.size A l.length c (cellsB l) rfl HR.out (cellsB_one l) (by unfold maxLen; omega) (by omega) (Nat.le_refl _) ?_; intro v1 w1 hown1 hg1 hat1)
  rw [Nat.zero_add, List.nil_append] at hown1
  have hb1 : Below w.heap.size w w1 := (Below.refl _ _).grown hg1 (Nat.le_refl _) (fun k hk => by cases hk)
  go_loopw [1, 6] (fun y x wr => ∃ (m : Nat) (done : List UInt8), m ≤ 1099511627776 ∧ y = .int .i64 m ∧ wr.ownsRow w.heap.size 5 1 x (l.length + done.length) (cellsB (l ++ done)) ∧ enc n = done ++ enc m ∧ Below w.heap.size w wr) (fun y _ _ => (intOf y).toNat)
  case atStart => exact ⟨n, [], hn', rfl, by simpa using hown1, rfl, hb1⟩
  case round =>
    obtain ⟨m, done, hm, rfl, hox, hen, hbw⟩ := hrel
    have hlen : done.length + encLen m = encLen n := by unfold encLen; rw [hen, List.length_append]
    have hle := encLen_le n hn
    have hpos := encLen_pos m
    have HO := Lib.hid hox
    have HE := Lib.hid hen
    have HL := Lib.hid hlen
    have hdl : done.length ≤ 6 := by omega
    clear hox hen hlen hpos hown1 hg1 hat1
    by_cases hb : 128 ≤ m
    · have hd3 : decide ((128 : Int) ≤ (m : Int)) = true := by simp; omega
      go_wp2_with (at_builtin; refine wpList_append_any _ rfl (.tmp 18) (.tmp 23) 46 rfl w.heap.size 5 i0 (.int .u8 0) 1 1 Tryz.underlying46 hi hz0 hz1 hz2 rfl (by decide) _ _ _ rfl (HO.out.alloc _) _ _ 1 1 [.int .u8 _] rfl (reads_new1 _ _ _) (by simp [Value.oneCell']) (by unfold maxLen; omega) (by omega) (by have := hbw.size; simp; omega) ?_; intro v' w4 hown' hgrow hat')
      go_roundw
      case rel =>
        refine ⟨m / 128, done ++ [UInt8.ofNat (m % 128 + 128)], by omega, by go_num, ?_, ?_, ?_⟩
        · rw [← List.append_assoc, cellsB_append, cellsB_high, List.length_append, ← Nat.add_assoc, Int.add_comm]
          exact hown'
        · rw [HE.out, enc_big m (by omega) hm]; simp
        · exact (hbw.alloc hbw.size _).grown hgrow (by have := hbw.size; simp; omega) (fun g hg => (HO.out.lt g hg).1)
      case measure => simp [intOf]; omega
    · have hd3 : decide ((128 : Int) ≤ (m : Int)) = false := by simp; omega
      go_wp2_with (at_builtin; refine wpList_append_any _ rfl (.tmp 27) (.tmp 30) 46 rfl w.heap.size 5 i0 (.int .u8 0) 1 1 Tryz.underlying46 hi hz0 hz1 hz2 rfl (by decide) _ _ _ rfl (HO.out.alloc _) _ _ 1 1 [.int .u8 _] rfl (reads_new1 _ _ _) (by simp [Value.oneCell']) (by unfold maxLen; omega) (by omega) (by have := hbw.size; simp; omega) ?_; intro v' w4 hown' hgrow hat')
      have hb4 : Below w.heap.size w w4 := (hbw.alloc hbw.size _).grown hgrow (by have := hbw.size; simp; omega) (fun g hg => (HO.out.lt g hg).1)
      have hown2 : w4.ownsRow w.heap.size 5 1 v' (l ++ enc n).length (cellsB (l ++ enc n)) := by
        rw [HE.out, enc_small m (by omega), ← List.append_assoc, cellsB_append, cellsB_low m (by omega), List.length_append, List.length_append]
        exact hown'
      clear hown' hgrow hat'
      go_ret2
      obtain ⟨A4, c4, rfl, hc4⟩ := own_slice hown2
      exact ⟨A4, c4, rfl, hown2, hc4, hb4⟩
theorem rPut_ok (A : Option Addr) (l : List UInt8) (c : Nat) (n : Nat) (w : World) (hr : Reads w w.heap.size 1 A l.length (cellsB l)) (hl : l.length ≤ 90000) (hn : n ≤ maxNum) :
    Calls Tryz.prog 69 #[.slice A l.length c, .int .i64 n] w (BytesPost (l ++ enc n) 0 w) := (rPut_own A l c n w hr hl hn).mono fun _ _ h => h.bytes

end Go.Proofs.YtckdecodpjfcnaaGreatDoor
namespace Go.Proofs.YtckdecodpjfcnaaGreatDoor
open Go.RowKit

theorem getOf_bad (L : List UInt8) (k : Nat) (h : dec (L.drop k) = none) (hk : k ≤ L.length) : getOf L k = (0, 0, 70) := by
  unfold getOf
  rw [if_neg (by omega), Int.toNat_natCast, h]
theorem getOf_ok (L : List UInt8) (k n m : Nat) (h : dec (L.drop k) = some (n, m)) (hk : k ≤ L.length) : getOf L k = ((n : Int), (k : Int) + m, 0) := by
  unfold getOf
  rw [if_neg (by omega), Int.toNat_natCast, h]

theorem acc_lt (acc P U : Nat) (h : acc < U) (h2 : P ≤ 127 * U) : acc + P < U * 128 := by omega

set_option maxRecDepth 100000 in
set_option maxHeartbeats 1000000 in
theorem rGet_any (A : Option Addr) (L : List UInt8) (c B : Nat) (k : Int) (w : World) (hL : L.length ≤ 100000) (hr : Reads w B 1 A L.length (cellsB L)) :
    Calls Tryz.prog 85 #[.slice A L.length c, .int .i64 k] w fun e w' => e = .returned (.tuple #[.int .i64 (getOf L k).1, .int .i64 (getOf L k).2.1, .int .i64 (getOf L k).2.2]) ∧ w = w' := by
  by_cases h1 : k < 0
  · have hd : decide (k < 0) = true := by simpa using h1
    rw [show getOf L k = (0, 0, 70) by unfold getOf; rw [if_pos (.inl h1)]]
    go_enter Tryz.func85, Tryz.ntmps85
    go_wp2
    go_ret3
    exact ⟨rfl, rfl⟩
  · obtain ⟨k, rfl⟩ := Int.eq_ofNat_of_zero_le (show 0 ≤ k by omega)
    have hd : decide ((k : Int) < 0) = false := by simp
    by_cases h2 : L.length < k
    · have hd2 : decide (L.length < k) = true := by simpa using h2
      rw [show getOf L k = (0, 0, 70) by unfold getOf; rw [if_pos (.inr (by omega))]]
      clear h1
      go_enter Tryz.func85, Tryz.ntmps85
      go_wp2
      go_ret3
      exact ⟨rfl, rfl⟩
    · have hd2 : decide (L.length < k) = false := by simp; omega
      have hkl : k ≤ L.length := by omega
      clear h1 h2
      go_enter Tryz.func85, Tryz.ntmps85
      go_wp2
      go_loop [7, 8, 9] (fun x u y => ∃ j acc U : Nat, j ≤ 6 ∧ k + j ≤ L.length ∧ y = .int .i64 ((k + j : Nat) : Int) ∧ x = .int .i64 acc ∧ u = .int .i64 U ∧ U = 128 ^ j ∧ acc < 128 ^ j ∧ dec (L.drop k) = decF (6 - j) j acc (L.drop (k + j))) (fun _ _ y => L.length - (intOf y).toNat)
      case atStart => exact ⟨0, 0, 1, by omega, hkl, rfl, rfl, rfl, rfl, by decide, rfl⟩
      case round =>
        obtain ⟨j, acc, U, hj, hkj, rfl, rfl, rfl, hU, hacc, hdec⟩ := hrel
        have hU6 : U ≤ 4398046511104 := by
          rw [hU]
          have := Nat.pow_le_pow_right (show 0 < 128 by omega) hj
          have e6 : (128 : Nat) ^ 6 = 4398046511104 := by decide
          omega
        have haccU : acc < U := by rw [hU]; exact hacc
        have HU := Lib.hid hU
        by_cases hgo : k + j < L.length ∧ j < 6
        · obtain ⟨hlt, hj6⟩ := hgo
          obtain ⟨b1, o1, rfl, _, hc1⟩ := hr.plain (by omega)
          obtain ⟨ch, hch⟩ : ∃ ch, L[k + j]? = some ch := ⟨_, List.getElem?_eq_getElem hlt⟩
          have g1 : w.cell? ⟨b1, o1 + (k + j), none⟩ = some (.int .u8 (ch.toNat : Int)) := hc1 (k + j) _ (by rw [getElem?_cellsB, hch]; rfl)
          have hcl : ch.toNat < 256 := UInt8.toNat_lt ch
          have hdr : L.drop (k + j) = ch :: L.drop (k + (j + 1)) := by
            rw [List.drop_eq_getElem_cons hlt]
            congr 1
            exact (List.getElem?_eq_some_iff.1 hch).2
          obtain ⟨f, hf6, hf7⟩ : ∃ f, 6 - j = f + 1 ∧ 6 - (j + 1) = f := ⟨5 - j, by omega, by omega⟩
          have hU5 : U ≤ 34359738368 := by
            rw [hU]
            have := Nat.pow_le_pow_right (show 0 < 128 by omega) (show j ≤ 5 by omega)
            have e5 : (128 : Nat) ^ 5 = 34359738368 := by decide
            omega
          have hPm : ch.toNat % 128 * U ≤ 127 * U := Nat.mul_le_mul_right _ (by omega)
          generalize hP : ch.toNat % 128 * U = P at hPm
          have hPx : (U : Int) * ((ch.toNat : Int) % 128) = (P : Int) := by rw [← hP]; push_cast; rw [Int.mul_comm]
          have hmul : wrap64 ((U : Int) * ((ch.toNat : Int) % 128)) = (P : Int) := by rw [hPx]; exact IntWalk.wrap64_in _ ⟨by omega, by omega⟩
          have HD2 := hdec
          rw [hdr, hf6] at HD2
          have hAdd : acc + ch.toNat % 128 * 128 ^ j = acc + P := by rw [← hP, hU]
          have hacc2 : acc + P < 128 ^ (j + 1) := by rw [Nat.pow_succ, ← hU]; exact acc_lt acc P U haccU hPm
          have hd3 : decide (((k + j : Nat) : Int) < (L.length : Int)) = true := by simp; omega
          have hd4 : decide (((k + j : Nat) : Int) < (k : Int) + 6) = true := by simp; omega
          have HPX := Lib.hid hPx
          have HACC := Lib.hid hacc2
          have HF7 := Lib.hid hf7
          clear hPx hch hc1 hr hdr hf6 hf7 hacc2 hacc hdec hU hP
          by_cases h128 : 128 ≤ ch.toNat
          · have hst := decF_step f j acc ch (L.drop (k + (j + 1))) h128
            rw [hAdd] at hst
            rw [hst] at HD2
            have HDN := Lib.hid HD2
            have hd5 : decide ((ch.toNat : Int) < 128) = false := by simp; omega
            clear hst HD2 hAdd
            go_wp2
            go_round
            case rel => exact ⟨j + 1, acc + P, U * 128, by omega, by omega, by go_num, by go_num, by go_num, by rw [HU.out, Nat.pow_succ], HACC.out, by rw [HF7.out]; exact HDN.out⟩
            case measure => simp [intOf]; omega
          · have hst := decF_stop f j acc ch (L.drop (k + (j + 1))) (by omega)
            rw [hAdd] at hst
            rw [hst] at HD2
            have hd5 : decide ((ch.toNat : Int) < 128) = true := by simp; omega
            clear hst hAdd
            by_cases hbad : (ch.toNat = 0 ∧ 0 < j) ∨ maxNum < acc + P
            · rw [if_pos hbad] at HD2
              have HFIN := Lib.hid (getOf_bad L k HD2 hkl)
              clear HD2
              unfold maxNum at hbad
              by_cases hm1 : 1099511627776 < acc + P
              · have hm : decide ((1099511627776 : Int) < (acc : Int) + (P : Int)) = true := by simp; omega
                clear hbad
                go_wp2
                go_ret3
                exact ⟨by rw [HFIN.out]; rfl, rfl⟩
              · have hm : decide ((1099511627776 : Int) < (acc : Int) + (P : Int)) = false := by simp; omega
                have hz0 : ch.toNat = 0 := by omega
                have hj0 : 0 < j := by omega
                have g2 : w.cell? ⟨b1, o1 + (k + j), none⟩ = some (.int .u8 0) := by rw [g1, hz0]; rfl
                have hm2 : (P : Int) = 0 := by have := HPX.out; rw [← this, hz0]; simp
                have hd6 : decide ((k : Int) < ((k + j : Nat) : Int)) = true := by simp; omega
                clear hbad g1 hmul hz0
                go_wp2
                go_ret3
                exact ⟨by rw [HFIN.out]; rfl, rfl⟩
            · rw [if_neg hbad] at HD2
              have HFIN := Lib.hid (getOf_ok L k (acc + P) (j + 1) HD2 hkl)
              clear HD2
              unfold maxNum at hbad
              have hm : decide ((1099511627776 : Int) < (acc : Int) + (P : Int)) = false := by simp; omega
              have hfin : ∀ v, v = Ending.returned (.tuple #[.int .i64 ((acc : Int) + (P : Int)), .int .i64 ((k : Int) + (j : Int) + 1), .int .i64 0]) → v = .returned (.tuple #[.int .i64 (getOf L k).1, .int .i64 (getOf L k).2.1, .int .i64 (getOf L k).2.2]) := fun v hv => by
                have e1 : (k : Int) + ((j + 1 : Nat) : Int) = (k : Int) + (j : Int) + 1 := by omega
                have e2 : ((acc + P : Nat) : Int) = (acc : Int) + (P : Int) := by omega
                rw [hv, HFIN.out]
                simp only [e1, e2]
              have HFIN2 := Lib.hid hfin
              clear hfin
              by_cases hj0 : 0 < j
              · have hz1 : ((ch.toNat : Int) == 0) = false := beq_eq_false_iff_ne.2 (by omega)
                have hd6 : decide ((k : Int) < ((k + j : Nat) : Int)) = true := by simp; omega
                clear hbad
                go_wp2
                go_ret3
                exact ⟨HFIN2.out _ rfl, rfl⟩
              · have hd6 : decide ((k : Int) < ((k + j : Nat) : Int)) = false := by simp; omega
                clear hbad
                go_wp2
                go_ret3
                exact ⟨HFIN2.out _ rfl, rfl⟩
        · have hnone : dec (L.drop k) = none := by
            rw [hdec]
            rcases Nat.lt_or_ge j 6 with h6 | h6
            · rw [List.drop_eq_nil_of_le (by omega)]
              obtain ⟨f, hf⟩ : ∃ f, 6 - j = f + 1 := ⟨5 - j, by omega⟩
              rw [hf]; rfl
            · rw [show 6 - j = 0 by omega]; rfl
          have HFIN := Lib.hid (getOf_bad L k hnone hkl)
          clear hnone hdec hacc hU hr
          by_cases hlt : k + j < L.length
          · have hd3 : decide (((k + j : Nat) : Int) < (L.length : Int)) = true := by simp; omega
            obtain rfl : j = 6 := by omega
            clear hgo
            go_wp2
            go_ret3
            exact ⟨by rw [HFIN.out]; rfl, rfl⟩
          · have hd3 : decide (((k + j : Nat) : Int) < (L.length : Int)) = false := by simp; omega
            clear hgo
            go_wp2
            go_ret3
            exact ⟨by rw [HFIN.out]; rfl, rfl⟩
end Go.Proofs.YtckdecodpjfcnaaGreatDoor
namespace Go.Proofs.YtckdecodpjfcnaaGreatDoor
open Go.RowKit

/-- A slice of bytes of the call's own. -/
def OwnVal (l : List UInt8) (w : World) (e : Ending) (w' : World) : Prop :=
  ∃ A c, e = .returned (.slice A l.length c) ∧ w'.ownsRow w.heap.size 5 1 (.slice A l.length c) l.length (cellsB l) ∧ l.length ≤ c ∧ Below w.heap.size w w'

theorem strCells_lb (s : ByteArray) : Lib.strCells s = cellsB (lb s) := rfl

set_option maxRecDepth 100000 in
set_option maxHeartbeats 400000 in
theorem Grow_any (n : Nat) (w : World) (h0 : 0 < n) (hn : n ≤ 200000) :
    Calls Tryz.prog 122 #[.slice none 0 0, .int .i64 n] w (OwnVal [] w) := by
  obtain ⟨i0, hi, hz0, hz1, hz2⟩ := info_parts infoByte
  have hrun := fun W => Lib.run_append_nil_zeros (P := Tryz.prog) W 46 3 46 5 i0 _ .i64 .i64 Tryz.underlying46 Tryz.underlying3 hi hz0 n h0 (by rw [hz1]; decide) (by omega) (by rw [hz2]; omega)
  have hcap := grownCap_ge w n 0 5
  have hcm := grownCap_le_maxLen w n 0 5 (by unfold maxLen; omega)
  have HRUN := Lib.hid (hrun w)
  generalize hgc : grownCap w n 0 5 = gc at *
  clear hrun
  have hnn : ¬ (n : Int) < 0 := by omega
  have hc2 := fun W => (cut_upto (P := Tryz.prog) (t := 46) (w := W) (B := W.heap.size) (A := none) (c := 0) (xs := []) Tryz.underlying46 (fun _ => by kernel_rfl) Reads.none_ 0 (Nat.le_refl _) (Nat.le_refl _)).1
  go_enter Tryz.func122, Tryz.ntmps122
  go_wp2_with (at_builtin; refine Lib.wpList_append_run _ rfl (.tmp 20) (.tmp 21) 46 3 rfl _ _ rfl rfl _ _ HRUN.out ?_)
  go_ret
  refine ⟨some ⟨w.heap.size, 0, none⟩, gc, rfl, ⟨by simp [cellsB], .inr ⟨w.heap.size, gc, _, rfl, Nat.le_refl _, heap_alloc_new w.drew _, Nat.zero_le _, hcm, ?_, by simp [cellsB]⟩⟩, Nat.zero_le _, (Below.refl _ w).drew.alloc (Nat.le_refl _) _⟩
  simp [size_zeroCells, Value.cells]
  omega

set_option maxRecDepth 100000 in
set_option maxHeartbeats 1000000 in
theorem Concat_any (b : Nat) (A A2 : Option Addr) (l l2 : List UInt8) (c c2 : Nat) (w : World) (h0 : w.cell? ⟨b, 0, none⟩ = some (.slice A l.length c)) (h1 : w.cell? ⟨b, 1, none⟩ = some (.slice A2 l2.length c2))
    (hr : Reads w w.heap.size 1 A l.length (cellsB l)) (hr2 : Reads w w.heap.size 1 A2 l2.length (cellsB l2)) (hl : l.length ≤ 90000) (hl2 : l2.length ≤ 90000) (hp : 0 < l2.length) :
    Calls Tryz.prog 110 #[.slice (some ⟨b, 0, none⟩) 2 2] w (OwnVal (l ++ l2) w) := by
  obtain ⟨i0, hi, hz0, hz1, hz2⟩ := info_parts infoByte
  have HG := Lib.hid (Grow_any (l.length + l2.length) w (by omega) (by omega))
  have HR := Lib.hid hr
  have HR2 := Lib.hid hr2
  have hbl := block_lt_of_cell h0
  have H0 := Lib.hid h0
  have H1 := Lib.hid h1
  clear hr hr2
  go_enter Tryz.func110, Tryz.ntmps110
  go_wp2_with fail
  refine wp_loop_rounds 3 ?_
  rw [rounds_succ]
  go_wp2_with fail
  rw [rounds_succ]
  go_wp2_with fail
  rw [rounds_succ]
  go_wp2_with fail
  refine HG.out.mono ?_
  rintro e w1 ⟨A1, c1, rfl, ho1, hc1, hb1⟩
  have hx0 := (hb1.cell (p := ⟨b, 0, none⟩) hbl).trans H0.out
  have hx1 := (hb1.cell (p := ⟨b, 1, none⟩) hbl).trans H1.out
  have hz3 := hb1.size
  clear h0 h1
  go_wp2_with fail
  refine wp_loop_rounds 3 ?_
  rw [rounds_succ]
  go_wp2_with (at_builtin; refine wpList_append_any _ rfl (.tmp 31) (.tmp 32) 46 rfl w.heap.size 5 i0 (.int .u8 0) 1 1 Tryz.underlying46 hi hz0 hz1 hz2 rfl (by decide) (.slice A1 0 c1) 0 ([]) rfl ho1 w1.heap.size A l.length c (cellsB l) rfl ((HR.out.below hb1).more hz3) (cellsB_one _) (by unfold maxLen; omega) (by omega) hz3 ?_; intro v2 w2 ho2 hg2 hat2)
  rw [Nat.zero_add, List.nil_append] at ho2
  have hb2 : Below w.heap.size w w2 := hb1.grown hg2 hz3 (fun g hg => (ho1.lt g hg).1)
  have hz4 := hb2.size
  have hy1 := (hb2.cell (p := ⟨b, 1, none⟩) hbl).trans H1.out
  have HO2 := Lib.hid ho2
  clear ho1 hg2 hat2 ho2 hx0 hx1
  rw [rounds_succ]
  go_wp2_with (at_builtin; refine wpList_append_any _ rfl (.tmp 31) (.tmp 32) 46 rfl w.heap.size 5 i0 (.int .u8 0) 1 1 Tryz.underlying46 hi hz0 hz1 hz2 rfl (by decide) (v2) l.length (cellsB l) rfl HO2.out w2.heap.size A2 l2.length c2 (cellsB l2) rfl ((HR2.out.below hb2).more hz4) (cellsB_one _) (by unfold maxLen; omega) (by omega) hz4 ?_; intro v3 w3 ho3 hg3 hat3)
  rw [rounds_succ]
  go_wp2_with fail
  have hb3 : Below w.heap.size w w3 := hb2.grown hg3 hz4 (fun g hg => (HO2.out.lt g hg).1)
  rw [← cellsB_append, ← List.length_append] at ho3
  obtain ⟨A3, c3, rfl, hc3⟩ := own_slice ho3
  go_ret
  exact ⟨A3, c3, rfl, ho3, hc3, hb3⟩

theorem rNumber_ok (A : Option Addr) (l : List UInt8) (c : Nat) (n : Nat) (w : World) (hr : Reads w w.heap.size 1 A l.length (cellsB l)) (hl : l.length ≤ 90000) (hn : n ≤ maxNum) :
    Calls Tryz.prog 68 #[.slice A l.length c, .int .i64 n] w (BytesPost (l ++ enc n) 0 w) := by
  have HP := Lib.hid (rPut_ok A l c n w hr hl hn)
  clear hr
  generalize l ++ enc n = L at *
  go_enter Tryz.func68, Tryz.ntmps68
  go_wp2_with (go_at_call 69; refine HP.out.mono ?_; rintro e w1 ⟨A1, c1, rfl, hr1, hc1, hb1⟩)
  go_ret2
  exact ⟨A1, c1, rfl, hr1, hc1, hb1⟩

set_option maxHeartbeats 400000 in
theorem Text_ok (A : Option Addr) (l : List UInt8) (c : Nat) (t : ByteArray) (w : World) (hr : Reads w w.heap.size 1 A l.length (cellsB l)) (hl : l.length ≤ 80000) (ht : t.size ≤ 1024) :
    Calls Tryz.prog 111 #[.slice A l.length c, .string t] w (OwnPost (l ++ (cTxt 1024).e (lb t)) 0 w) := by
  obtain ⟨i0, hi, hz0, hz1, hz2⟩ := info_parts infoByte
  have HP := Lib.hid (Put_own A l c t.size w hr (by omega) (by unfold maxNum; omega))
  have hle := encLen_le t.size (by unfold maxNum; omega)
  have hll : (l ++ enc t.size).length = l.length + encLen t.size := by rw [List.length_append]; rfl
  have hlb : (l ++ enc t.size).length ≤ 80006 := by omega
  have hd : decide ((1024 : Int) < (t.size : Int)) = false := by simp; omega
  have hfin : l ++ enc t.size ++ lb t = l ++ (cTxt 1024).e (lb t) := by
    rw [List.append_assoc]; show l ++ (enc t.size ++ lb t) = l ++ (enc (lb t).length ++ lb t); rw [length_lb]
  have HF := Lib.hid hfin
  clear hr hll hfin
  generalize l ++ enc t.size = L at *
  generalize l ++ (cTxt 1024).e (lb t) = M at *
  go_enter Tryz.func111, Tryz.ntmps111
  go_wp2_with (first | (go_at_call 121; refine HP.out.mono ?_; rintro e w1 ⟨A1, c1, rfl, ho1, hc1, hb1⟩) | (at_builtin; refine Lib.wpList_append_own_string _ rfl (.tmp 21) (.tmp 22) 46 9 rfl w.heap.size 5 i0 Tryz.underlying46 Tryz.underlying9 hi hz0 hz1 hz2 _ _ _ rfl ho1 t rfl (by unfold maxLen; omega) (by omega) hb1.size ?_; intro v2 w2 ho2 hg2 hat2))
  have hb2 : Below w.heap.size w w2 := hb1.grown hg2 hb1.size (fun g hg => (ho1.lt g hg).1)
  rw [strCells_lb, ← cellsB_append, ← length_lb t, ← List.length_append, HF.out] at ho2
  obtain ⟨A3, c3, rfl, hc3⟩ := own_slice ho2
  go_ret2
  exact ⟨A3, c3, rfl, ho2, hc3, hb2⟩

set_option maxHeartbeats 400000 in
theorem rText_ok (A : Option Addr) (l : List UInt8) (c : Nat) (t : ByteArray) (w : World) (hr : Reads w w.heap.size 1 A l.length (cellsB l)) (hl : l.length ≤ 80000) (ht : t.size ≤ 1024) :
    Calls Tryz.prog 34 #[.slice A l.length c, .string t] w (OwnPost (l ++ (cTxt 1024).e (lb t)) 0 w) := by
  obtain ⟨i0, hi, hz0, hz1, hz2⟩ := info_parts infoByte
  have HP := Lib.hid (rPut_own A l c t.size w hr (by omega) (by unfold maxNum; omega))
  have hle := encLen_le t.size (by unfold maxNum; omega)
  have hll : (l ++ enc t.size).length = l.length + encLen t.size := by rw [List.length_append]; rfl
  have hlb : (l ++ enc t.size).length ≤ 80006 := by omega
  have hd : decide ((1024 : Int) < (t.size : Int)) = false := by simp; omega
  have hfin : l ++ enc t.size ++ lb t = l ++ (cTxt 1024).e (lb t) := by
    rw [List.append_assoc]; show l ++ (enc t.size ++ lb t) = l ++ (enc (lb t).length ++ lb t); rw [length_lb]
  have HF := Lib.hid hfin
  clear hr hll hfin
  generalize l ++ enc t.size = L at *
  generalize l ++ (cTxt 1024).e (lb t) = M at *
  go_enter Tryz.func34, Tryz.ntmps34
  go_wp2_with (first | (go_at_call 69; refine HP.out.mono ?_; rintro e w1 ⟨A1, c1, rfl, ho1, hc1, hb1⟩) | (at_builtin; refine Lib.wpList_append_own_string _ rfl (.tmp 18) (.tmp 19) 46 9 rfl w.heap.size 5 i0 Tryz.underlying46 Tryz.underlying9 hi hz0 hz1 hz2 _ _ _ rfl ho1 t rfl (by unfold maxLen; omega) (by omega) hb1.size ?_; intro v2 w2 ho2 hg2 hat2))
  have hb2 : Below w.heap.size w w2 := hb1.grown hg2 hb1.size (fun g hg => (ho1.lt g hg).1)
  rw [strCells_lb, ← cellsB_append, ← length_lb t, ← List.length_append, HF.out] at ho2
  obtain ⟨A3, c3, rfl, hc3⟩ := own_slice ho2
  go_ret2
  exact ⟨A3, c3, rfl, ho2, hc3, hb2⟩
end Go.Proofs.YtckdecodpjfcnaaGreatDoor
namespace Go.Proofs.YtckdecodpjfcnaaGreatDoor
open Go.RowKit

set_option maxRecDepth 100000 in
set_option maxHeartbeats 400000 in
theorem Flag_any (A : Option Addr) (l : List UInt8) (c : Nat) (y : Bool) (w : World) (hr : Reads w w.heap.size 1 A l.length (cellsB l)) (hl : l.length ≤ 80000) :
    Calls Tryz.prog 90 #[.slice A l.length c, .bool y] w (OwnVal (l ++ encY y) w) := by
  cases y
  · have HC := Lib.hid (Concat_any (w.heap.size + 1) A (some ⟨w.heap.size, 0, none⟩) l [0] c 1 ((w.alloc (.cells #[.int .u8 0] 5)).alloc (.cells #[.slice A l.length c, .slice (some ⟨w.heap.size, 0, none⟩) 1 1] 46)) (by simp) (by simp) ((((hr.alloc (Nat.le_refl _) _).more (by simp)).alloc (Nat.le_refl _) _).more (by simp)) (((reads_new w 5 [0]).alloc (by simp) _).more (by simp)) (by omega) (by simp) (by simp))
    have HB := Lib.hid (fun x y => ((Below.refl w.heap.size w).alloc (Nat.le_refl _) x).alloc (by simp) y)
    clear hr
    show Calls _ _ _ w (OwnVal (l ++ [0]) w)
    generalize l ++ [0] = L at *
    go_enter Tryz.func90, Tryz.ntmps90
    go_wp2_with fail
    refine HC.out.mono ?_
    rintro e w1 ⟨A1, c1, rfl, ho1, hc1, hb1⟩
    go_wp2_with fail
    go_ret
    exact ⟨A1, c1, rfl, own_base ho1 (by simp; omega), hc1, (HB.out _ _).trans (hb1.mono (by simp; omega))⟩
  · have HC := Lib.hid (Concat_any (w.heap.size + 1) A (some ⟨w.heap.size, 0, none⟩) l [1] c 1 ((w.alloc (.cells #[.int .u8 1] 5)).alloc (.cells #[.slice A l.length c, .slice (some ⟨w.heap.size, 0, none⟩) 1 1] 46)) (by simp) (by simp) ((((hr.alloc (Nat.le_refl _) _).more (by simp)).alloc (Nat.le_refl _) _).more (by simp)) (((reads_new w 5 [1]).alloc (by simp) _).more (by simp)) (by omega) (by simp) (by simp))
    have HB := Lib.hid (fun x y => ((Below.refl w.heap.size w).alloc (Nat.le_refl _) x).alloc (by simp) y)
    clear hr
    show Calls _ _ _ w (OwnVal (l ++ [1]) w)
    generalize l ++ [1] = L at *
    go_enter Tryz.func90, Tryz.ntmps90
    go_wp2_with fail
    refine HC.out.mono ?_
    rintro e w1 ⟨A1, c1, rfl, ho1, hc1, hb1⟩
    go_wp2_with fail
    go_ret
    exact ⟨A1, c1, rfl, own_base ho1 (by simp; omega), hc1, (HB.out _ _).trans (hb1.mono (by simp; omega))⟩

set_option maxRecDepth 100000 in
set_option maxHeartbeats 400000 in
theorem rFlag_any (A : Option Addr) (l : List UInt8) (c : Nat) (y : Bool) (w : World) (hr : Reads w w.heap.size 1 A l.length (cellsB l)) (hl : l.length ≤ 80000) :
    Calls Tryz.prog 33 #[.slice A l.length c, .bool y] w (OwnVal (l ++ encY y) w) := by
  obtain ⟨i0, hi, hz0, hz1, hz2⟩ := info_parts infoByte
  have HR := Lib.hid hr
  clear hr
  cases y
  · go_enter Tryz.func33, Tryz.ntmps33
    go_wp2_with (first | (at_builtin; refine wpList_append_any _ rfl (.tmp 6) (.tmp 7) 46 rfl w.heap.size 5 i0 (.int .u8 0) 1 1 Tryz.underlying46 hi hz0 hz1 hz2 rfl (by decide) (.slice none 0 0) 0 [] rfl (World.ownsRow_nil _ _ _ _) w.heap.size A l.length c (cellsB l) rfl HR.out (cellsB_one _) (by unfold maxLen; omega) (by omega) (Nat.le_refl _) ?_; intro v1 w1 ho1 hg1 hat1; rw [Nat.zero_add, List.nil_append] at ho1; have hb1 : Below w.heap.size w w1 := (Below.refl _ _).grown hg1 (Nat.le_refl _) (fun k hk => by cases hk); have HO := Lib.hid ho1; have hs1 := hb1.size; clear ho1 hg1 hat1) | (at_builtin; refine wpList_append_any _ rfl (.tmp 13) (.tmp 14) 46 rfl w.heap.size 5 i0 (.int .u8 0) 1 1 Tryz.underlying46 hi hz0 hz1 hz2 rfl (by decide) v1 l.length (cellsB l) rfl (HO.out.alloc _) _ _ 1 1 [.int .u8 0] rfl (reads_new1 _ _ _) (by simp [Value.oneCell']) (by unfold maxLen; omega) (by omega) (by simp; omega) ?_; intro v2 w2 ho2 hg2 hat2))
    have hb2 : Below w.heap.size w w2 := (hb1.alloc hs1 _).grown hg2 (by simp; omega) (fun g hg => (HO.out.lt g hg).1)
    have ho3 : w2.ownsRow w.heap.size 5 1 v2 (l ++ encY false).length (cellsB (l ++ encY false)) := by
      rw [cellsB_append, List.length_append]; exact ho2
    obtain ⟨A3, c3, rfl, hc3⟩ := own_slice ho3
    go_ret
    exact ⟨A3, c3, rfl, ho3, hc3, hb2⟩
  · go_enter Tryz.func33, Tryz.ntmps33
    go_wp2_with (first | (at_builtin; refine wpList_append_any _ rfl (.tmp 6) (.tmp 7) 46 rfl w.heap.size 5 i0 (.int .u8 0) 1 1 Tryz.underlying46 hi hz0 hz1 hz2 rfl (by decide) (.slice none 0 0) 0 [] rfl (World.ownsRow_nil _ _ _ _) w.heap.size A l.length c (cellsB l) rfl HR.out (cellsB_one _) (by unfold maxLen; omega) (by omega) (Nat.le_refl _) ?_; intro v1 w1 ho1 hg1 hat1; rw [Nat.zero_add, List.nil_append] at ho1; have hb1 : Below w.heap.size w w1 := (Below.refl _ _).grown hg1 (Nat.le_refl _) (fun k hk => by cases hk); have HO := Lib.hid ho1; have hs1 := hb1.size; clear ho1 hg1 hat1) | (at_builtin; refine wpList_append_any _ rfl (.tmp 10) (.tmp 11) 46 rfl w.heap.size 5 i0 (.int .u8 0) 1 1 Tryz.underlying46 hi hz0 hz1 hz2 rfl (by decide) v1 l.length (cellsB l) rfl (HO.out.alloc _) _ _ 1 1 [.int .u8 1] rfl (reads_new1 _ _ _) (by simp [Value.oneCell']) (by unfold maxLen; omega) (by omega) (by simp; omega) ?_; intro v2 w2 ho2 hg2 hat2))
    have hb2 : Below w.heap.size w w2 := (hb1.alloc hs1 _).grown hg2 (by simp; omega) (fun g hg => (HO.out.lt g hg).1)
    have ho3 : w2.ownsRow w.heap.size 5 1 v2 (l ++ encY true).length (cellsB (l ++ encY true)) := by
      rw [cellsB_append, List.length_append]; exact ho2
    obtain ⟨A3, c3, rfl, hc3⟩ := own_slice ho3
    go_ret
    exact ⟨A3, c3, rfl, ho3, hc3, hb2⟩

end Go.Proofs.YtckdecodpjfcnaaGreatDoor
namespace Go.Proofs.YtckdecodpjfcnaaGreatDoor
open Go.RowKit

theorem ret_bool {a b : Bool} (h : a = b) : Ending.returned (.bool a) = .returned (.bool b) := by rw [h]
theorem ret_int {k : IntKind} {a b : Int} (h : a = b) : Ending.returned (.int k a) = .returned (.int k b) := by rw [h]
theorem bal {w w' : World} (h : Below w.heap.size w w') (o : Obj) : Below w.heap.size w (w'.alloc o) := h.alloc h.size o
theorem bset {w w' : World} (h : Below w.heap.size w w') {b o : Nat} (hb : w.heap.size ≤ b) (u : Value) : Below w.heap.size w (w'.setCell ⟨b, o, none⟩ u) := h.setCell (p := ⟨b, o, none⟩) hb u
theorem btrans {w w1 w2 : World} (h : Below w.heap.size w w1) (k : Below w1.heap.size w1 w2) : Below w.heap.size w w2 := h.trans (k.mono h.size)
theorem ne_true {a b : Int} (h : ¬ a = b) : (a != b) = true := by simpa using h
theorem ne_false {a b : Int} (h : a = b) : (a != b) = false := by simpa using h
theorem eqb_true {a b : Int} (h : a = b) : (a == b) = true := beq_iff_eq.2 h
theorem eqb_false {a b : Int} (h : ¬ a = b) : (a == b) = false := beq_eq_false_iff_ne.2 h
end Go.Proofs.YtckdecodpjfcnaaGreatDoor
namespace Go.Proofs.YtckdecodpjfcnaaGreatDoor
open Go.RowKit

set_option maxHeartbeats 400000 in
theorem bad_any (r : Rec) (w : World) : Calls Tryz.prog 71 #[.agg #[.string r.1, .string r.2]] w fun e w' => e = .returned (.bool (badR r)) ∧ Below w.heap.size w w' := by
  have HB := Lib.hid (fun x => (Below.refl w.heap.size w).alloc (Nat.le_refl _) x)
  go_enter Tryz.func71, Tryz.ntmps71
  go_wp2
  all_goals (go_ret; exact ⟨ret_bool (by unfold badR; rw [Bool.eq_iff_iff]; simp; try omega), HB.out _⟩)

/-- The first bad record. -/
def idxR (l : List Rec) : Int := match l.findIdx? badR with | some k => k | none => -1
set_option maxRecDepth 100000 in
set_option maxHeartbeats 1000000 in
theorem IndexFunc_any (A : Option Addr) (l : List Rec) (c : Nat) (w : World) (hr : Reads w w.heap.size 2 A l.length (cellsR l)) (hl : l.length ≤ 1000000000000) :
    Calls Tryz.prog 92 #[.slice A l.length c, .func (.func 71) #[] #[]] w fun e w' => e = .returned (.int .i64 (idxR l)) ∧ Below w.heap.size w w' := by
  have HR := Lib.hid hr
  clear hr
  go_enter Tryz.func92, Tryz.ntmps92
  go_wp2_with fail
  go_loopw [8] (fun x wr => ∃ k : Nat, k ≤ l.length ∧ x = .int .i64 k ∧ Below w.heap.size w wr ∧ (l.take k).any badR = false) (fun x _ => l.length - (intOf x).toNat)
  case atStart => exact ⟨0, Nat.zero_le _, rfl, Below.refl _ _, by simp⟩
  case round =>
    obtain ⟨k, hk, rfl, hbel, hany⟩ := hrel
    have HBEL := Lib.hid hbel
    have HANY := Lib.hid hany
    clear hbel hany
    by_cases hlt : k < l.length
    · have d1 : decide ((k : Int) < (l.length : Int)) = true := by simp; omega
      obtain ⟨b1, o1, rfl, _, hc1⟩ := (HR.out.below HBEL.out).plain2 (by omega)
      obtain ⟨r, hx⟩ : ∃ z, l[k]? = some z := ⟨_, List.getElem?_eq_getElem hlt⟩
      obtain ⟨g1, g2⟩ := hc1 k _ hx
      have HBD := Lib.hid (fun W => bad_any r W)
      have hsn : (l.take (k + 1)).any badR = ((l.take k).any badR || badR r) := by
        rw [List.take_add_one, hx]; simp
      have HSN := Lib.hid hsn
      have HX := Lib.hid hx
      clear hc1 hx hsn
      cases hbr : badR r
      · have HBR := Lib.hid hbr
        rw [hbr] at HBD
        clear hbr
        go_wp2_with fail
        refine (HBD.out _).mono ?_
        rintro e w2 ⟨rfl, hb2⟩
        go_wp2_with fail
        go_roundw
        case rel => exact ⟨k + 1, by omega, by go_num, btrans HBEL.out hb2, by rw [HSN.out, HANY.out, HBR.out]; rfl⟩
        case measure => simp [intOf]; omega
      · have hfin : idxR l = k := by
          have h1 : l.findIdx? badR = some k := by
            rw [List.findIdx?_eq_some_iff_getElem]
            refine ⟨hlt, ?_, fun j hj => ?_⟩
            · rw [(List.getElem?_eq_some_iff.1 HX.out).2]; exact hbr
            · have h2 := List.any_eq_false.1 HANY.out (l[j]) (by rw [List.mem_take_iff_getElem]; exact ⟨j, by omega, rfl⟩)
              simpa using h2
          unfold idxR; rw [h1]
        have HF := Lib.hid hfin
        rw [hbr] at HBD
        clear hbr hfin
        go_wp2_with fail
        refine (HBD.out _).mono ?_
        rintro e w2 ⟨rfl, hb2⟩
        go_wp2_with fail
        go_ret
        exact ⟨ret_int HF.out.symm, btrans HBEL.out hb2⟩
    · have d1 : decide ((k : Int) < (l.length : Int)) = false := by simp; omega
      have hfin : idxR l = -1 := by
        have h1 : l.findIdx? badR = none := by
          rw [List.findIdx?_eq_none_iff]
          intro x hx
          have h2 := HANY.out
          rw [List.take_of_length_le (by omega)] at h2
          simpa using List.any_eq_false.1 h2 x hx
        unfold idxR; rw [h1]
      have HF := Lib.hid hfin
      clear hfin
      go_wp2_with fail
      go_ret
      exact ⟨ret_int HF.out.symm, HBEL.out⟩

theorem idxR_any (l : List Rec) : decide (0 ≤ idxR l) = l.any badR := by
  unfold idxR
  cases h : l.findIdx? badR with
  | none =>
    simp only
    have h2 : l.any badR = false := List.any_eq_false.2 fun x hx => by
      have := List.findIdx?_eq_none_iff.1 h x hx
      simp [this]
    rw [h2]; rfl
  | some k =>
    simp only
    obtain ⟨h1, h2, _⟩ := List.findIdx?_eq_some_iff_getElem.1 h
    have h3 : l.any badR = true := List.any_eq_true.2 ⟨_, List.getElem_mem h1, h2⟩
    rw [h3]
    simp

theorem ContainsFunc_any (A : Option Addr) (l : List Rec) (c : Nat) (w : World) (hr : Reads w w.heap.size 2 A l.length (cellsR l)) (hl : l.length ≤ 1000000000000) :
    Calls Tryz.prog 70 #[.slice A l.length c, .func (.func 71) #[] #[]] w fun e w' => e = .returned (.bool (l.any badR)) ∧ Below w.heap.size w w' := by
  have HI := Lib.hid (IndexFunc_any A l c w hr hl)
  have HA := Lib.hid (idxR_any l)
  clear hr
  go_enter Tryz.func70, Tryz.ntmps70
  go_wp2_with fail
  refine HI.out.mono ?_
  rintro e w2 ⟨rfl, hb2⟩
  go_wp2_with fail
  go_ret
  exact ⟨ret_bool HA.out, hb2⟩

set_option maxRecDepth 100000 in
set_option maxHeartbeats 1000000 in
theorem RcMay_any (b : Bat) (A1 : Option Addr) (c1 : Nat) (w : World) (hr : Reads w w.heap.size 2 A1 b.rs.length (cellsR b.rs)) :
    Calls Tryz.prog 36 #[(.agg #[.int .i64 b.pid, .int .i64 b.ep, .int .i64 b.seq, .bool b.txn, .slice A1 b.rs.length c1])] w fun e w' => e = .returned (.bool (mayBt b)) ∧ Below w.heap.size w w' := by
  have HB := Lib.hid (fun x => (Below.refl w.heap.size w).alloc (Nat.le_refl _) x)
  by_cases hh : headB b = true
  · have hd : 1 ≤ b.pid ∧ b.pid ≤ 8 ∧ 0 ≤ b.ep ∧ b.ep ≤ 100 ∧ 1 ≤ b.rs.length ∧ b.rs.length ≤ 4 ∧ 0 ≤ b.seq ∧ b.seq + b.rs.length ≤ 1048576 := by
      unfold headB at hh; simpa using hh
    have hfin : mayBt b = !(b.rs.any badR) := by unfold mayBt; rw [hh]; rfl
    have HF := Lib.hid hfin
    have HC := Lib.hid (ContainsFunc_any A1 b.rs c1 (w.alloc (.cells #[.int .i64 b.pid, .int .i64 b.ep, .int .i64 b.seq, .bool b.txn, .slice A1 b.rs.length c1] 25)) ((hr.alloc (Nat.le_refl _) _).more (by simp)) (by omega))
    obtain ⟨q1, q2, q3, q4, q5, q6, q7, q8⟩ := hd
    have d1 : ¬ b.pid < 1 := by omega
    have d2 : ¬ 8 < b.pid := by omega
    have d3 : ¬ b.ep < 0 := by omega
    have d4 : ¬ 100 < b.ep := by omega
    have d5 : ¬ (b.rs.length : Int) < 1 := by omega
    have d6 : ¬ 4 < (b.rs.length : Int) := by omega
    have d7 : ¬ b.seq < 0 := by omega
    have d8 : ¬ 1048576 - (b.rs.length : Int) < b.seq := by omega
    clear hr hfin hh
    go_enter Tryz.func36, Tryz.ntmps36
    go_wp2_with fail
    refine HC.out.mono ?_
    rintro e w2 ⟨rfl, hb2⟩
    go_wp2_with fail
    go_ret
    exact ⟨ret_bool HF.out.symm, btrans (HB.out _) hb2⟩
  · have hfin : mayBt b = false := by unfold mayBt; rw [Bool.not_eq_true] at hh; rw [hh]; rfl
    rw [hfin]
    have hd : ¬ (1 ≤ b.pid ∧ b.pid ≤ 8 ∧ 0 ≤ b.ep ∧ b.ep ≤ 100 ∧ 1 ≤ b.rs.length ∧ b.rs.length ≤ 4 ∧ 0 ≤ b.seq ∧ b.seq + b.rs.length ≤ 1048576) := by
      unfold headB at hh; simpa using hh
    have HD := Lib.hid hd
    clear hr hfin hh hd
    go_enter Tryz.func36, Tryz.ntmps36
    go_wp2_with fail
    all_goals first | (go_ret; exact ⟨rfl, HB.out _⟩) | (exfalso; have := HD.out; omega)
end Go.Proofs.YtckdecodpjfcnaaGreatDoor
namespace Go.Proofs.YtckdecodpjfcnaaGreatDoor
open Go.RowKit

structure Only (S : Nat → Prop) (a w : World) : Prop where
  os : w.os = a.os
  tape : w.tape = a.tape
  output : w.output = a.output
  size : a.heap.size ≤ w.heap.size
  block : ∀ k, k < a.heap.size → ¬ S k → w.heap[k]? = a.heap[k]?

section
variable {S S' : Nat → Prop} {a b w w' : World}
theorem Only.refl (S : Nat → Prop) (w : World) : Only S w w := ⟨rfl, rfl, rfl, Nat.le_refl _, fun _ _ _ => rfl⟩
theorem Only.trans (h : Only S a b) (k : Only S b w) : Only S a w :=
  ⟨k.os.trans h.os, k.tape.trans h.tape, k.output.trans h.output, Nat.le_trans h.size k.size, fun i hi hn => (k.block i (Nat.lt_of_lt_of_le hi h.size) hn).trans (h.block i hi hn)⟩
theorem Only.mono (h : Only S a w) (hS : ∀ g, g < a.heap.size → S g → S' g) : Only S' a w := ⟨h.os, h.tape, h.output, h.size, fun i hi hn => h.block i hi fun hs => hn (hS i hi hs)⟩
/-- What the second step turns is the first step's, or new. -/
theorem Only.step (h : Only S a b) (k : Only S' b w) (hS : ∀ g, g < a.heap.size → S' g → S g) : Only S a w :=
  ⟨k.os.trans h.os, k.tape.trans h.tape, k.output.trans h.output, Nat.le_trans h.size k.size, fun i hi hn => (k.block i (Nat.lt_of_lt_of_le hi h.size) (fun hs => hn (hS i hi hs))).trans (h.block i hi hn)⟩
theorem Only.of_below (S : Nat → Prop) (h : Below a.heap.size a w) : Only S a w := ⟨h.os, h.tape, h.output, h.size, fun i hi _ => h.block i hi⟩
theorem Only.below {B : Nat} (h : Only S a w) (hB : B ≤ a.heap.size) (hS : ∀ g, S g → B ≤ g) : Below B a w := ⟨h.os, h.tape, h.output, h.size, fun i hi => h.block i (by omega) fun hs => by have := hS i hs; omega⟩
theorem Only.then_below (h : Only S a b) (k : Below b.heap.size b w) : Only S a w := h.trans (Only.of_below S k)
theorem Only.drew (h : Only S a w) : Only S a w.drew := ⟨h.os, h.tape, h.output, h.size, h.block⟩
theorem Only.alloc (h : Only S a w) (o : Obj) : Only S a (w.alloc o) :=
  ⟨h.os, h.tape, h.output, Nat.le_trans h.size (by simp), fun i hi hn => (Below.heap_alloc w o i (Nat.lt_of_lt_of_le hi h.size)).trans (h.block i hi hn)⟩
theorem Only.set (h : Only S a w) {g o : Nat} (hp : S g ∨ a.heap.size ≤ g) (u : Value) : Only S a (w.setCell ⟨g, o, none⟩ u) :=
  ⟨h.os, h.tape, h.output, by simpa [World.setCell] using h.size, fun i hi hn => (Below.heap_setCell w ⟨g, o, none⟩ u i (by
    rintro rfl
    rcases hp with hp | hp
    · exact hn hp
    · exact absurd hi (by simpa using hp))).trans (h.block i hi hn)⟩
theorem Only.grown {row : Option Nat} (h : Only S a b) (hg : b.grownBy w row) (hr : ∀ k, row = some k → k < a.heap.size → S k) : Only S a w :=
  ⟨hg.os.trans h.os, hg.tape.trans h.tape, hg.output.trans h.output, Nat.le_trans h.size hg.size, fun i hi hn => (hg.block i (Nat.lt_of_lt_of_le hi h.size) (fun e => hn (hr i e.symm hi))).trans (h.block i hi hn)⟩
theorem Only.blk {g : Nat} {t : TypeId} {cs : Array Value} (h : Only S a w) (k : Blk a g t cs) (hn : ¬ S g) : Blk w g t cs := (h.block g k.lt hn).trans k
theorem Only.cell {p : Addr} (h : Only S a w) (hp : p.block < a.heap.size) (hn : ¬ S p.block) : w.cell? p = a.cell? p := World.cell?_of_block (h.block _ hp hn)
theorem Only.reads {B size n : Nat} {A : Option Addr} {xs : List Value} (h : Only S a w) (k : Reads a B size A n xs) (hB : B ≤ a.heap.size) (hn : ∀ g, g < B → ¬ S g) : Reads w B size A n xs :=
  k.keep fun p hp => h.cell (by omega) (hn _ hp)
theorem Only.own {base : Nat} {e : TypeId} {size n : Nat} {v : Value} {xs : List Value} (h : Only S a w) (k : a.ownsRow base e size v n xs) (hn : ∀ g, base ≤ g → ¬ S g) : w.ownsRow base e size v n xs := by
  refine ⟨k.1, ?_⟩
  rcases k.2 with h0 | ⟨g, cap, cur, hv, hg, hh, hr⟩
  · exact .inl h0
  · refine .inr ⟨g, cap, cur, hv, hg, ?_, hr⟩
    have hlt : g < a.heap.size := by
      rcases Nat.lt_or_ge g a.heap.size with h1 | h1
      · exact h1
      · rw [Array.getElem?_eq_none h1] at hh; cases hh
    exact (h.block g hlt (hn g hg)).trans hh
end
/-- A row of the call's own from a place on, read. -/
theorem own_set {w : World} {base : Nat} {e : TypeId} {size n : Nat} {v : Value} {xs : List Value} (k : w.ownsRow base e size v n xs) {g o : Nat} (hg : g < base) (u : Value) : (w.setCell ⟨g, o, none⟩ u).ownsRow base e size v n xs :=
  ((Only.refl (fun x => x = g) w).set (.inl rfl) u).own k (fun x hx hs => by omega)
end Go.Proofs.YtckdecodpjfcnaaGreatDoor
namespace Go.Proofs.YtckdecodpjfcnaaGreatDoor.ErRe
open Go.RowKit Go.Stop Go.Extern

theorem asTypeOfB (v : Value) (w : World) : (callFunc 97 #[.iface 177 v]).run Tryz.prog w = .ok (.value (.iface 162 (.agg #[.pointer (some ⟨1, 177, none⟩)]))) w := by kernel_rfl
theorem asAssignB (w : World) : (callFunc 150 #[.agg #[.pointer (some ⟨1, 177, none⟩)], .iface 162 (.agg #[.pointer (some ⟨1, 35, none⟩)])]).run Tryz.prog w = .ok (.value (.bool false)) w := by kernel_rfl
theorem asNoAs (v : Value) (xT : TypeId) (w : World) : (Instr.typeAssert (.iface 177 v) xT 174 true).run Tryz.prog w = .ok (.tuple #[.nilIface, .bool false]) w := run_typeAssert_lacksB Tryz.underlying174 (by kernel_rfl) (by kernel_rfl) v xT w
theorem asHasUnwrap (v : Value) (xT : TypeId) (w : World) : (Instr.typeAssert (.iface 177 v) xT 167 true).run Tryz.prog w = .ok (.tuple #[.iface 177 v, .bool true]) w := run_typeAssert_hasB Tryz.underlying167 (by kernel_rfl) v xT w
theorem asMethodUnwrap (k : Nat) (v : Value) (w : World) : (Go.method (k + 1) 177 v "Unwrap").run Tryz.prog w = .ok (161, v) w := by kernel_rfl
set_option maxHeartbeats 4000000 in
/-- errors.As(&error{.., n}, &e): true, and e is n. -/
theorem as_any (b t : Nat) (n : Int) (old : Value) (w : World) (hg : w.cell? ⟨0, 0, none⟩ = some (.iface 162 (.agg #[.pointer (some ⟨1, 99, none⟩)])))
    (hb1 : w.cell? ⟨b, 1, none⟩ = some (.int .i64 n)) (ht0 : w.cell? ⟨t, 0, none⟩ = some old) (hf0 : w.frozen? ⟨t, 0, none⟩ = false) :
    Calls Tryz.prog 87 #[.iface 177 (.pointer (some ⟨b, 0, none⟩)), .iface 125 (.pointer (some ⟨t, 0, none⟩))] w fun ev w' => ev = .returned (.bool true) ∧ asWorld w t n = w' := by
  have hlt : 0 < w.heap.size := by
    rcases Nat.lt_or_ge 0 w.heap.size with h | h
    · exact h
    · simp [World.cell?, Array.getElem?_eq_none h] at hg
  have hbl : b < w.heap.size := by
    rcases Nat.lt_or_ge b w.heap.size with h | h
    · exact h
    · simp [World.cell?, Array.getElem?_eq_none h] at hb1
  have htl : t < w.heap.size := by
    rcases Nat.lt_or_ge t w.heap.size with h | h
    · exact h
    · simp [World.cell?, Array.getElem?_eq_none h] at ht0
  have f1 := asValueOf
  have f2 := asType
  have f3 := asMethodKind
  have f4 := asKindP
  have f5 := asKindE
  have f6 := asMethodElem
  have f7 := asMethodImplements
  have f8 := asMethodAssignable
  have f9 := asElem
  have f10 := asImplements
  have f11 := asTypeOfB
  have f12 := asTypeOfE
  have f13 := asAssignB
  have f14 := asAssignE
  have f15 := asValueOfE
  have f16 := asNoAs
  have f17 := asHasUnwrap
  have f18 := asMethodUnwrap
  have n8 := asIsNil ⟨w.heap.size, 0, none⟩ ⟨t, 0, none⟩ ((w.alloc (.cells #[.pointer (some ⟨t, 0, none⟩)] 125)).alloc (.cells #[.pointer (some ⟨1, 125, none⟩), .pointer (some ⟨w.heap.size, 0, none⟩), .int .u64 150] 146)) (by simp)
  have hg2 : ((w.alloc (.cells #[.pointer (some ⟨t, 0, none⟩)] 125)).alloc (.cells #[.pointer (some ⟨1, 125, none⟩), .pointer (some ⟨w.heap.size, 0, none⟩), .int .u64 150] 146)).cell? ⟨0, 0, none⟩ = some (.iface 162 (.agg #[.pointer (some ⟨1, 99, none⟩)])) := by
    rw [World.cell?_alloc_lt _ _ ⟨0, 0, none⟩ (by simp only [World.size_alloc]; omega), World.cell?_alloc_lt _ _ ⟨0, 0, none⟩ hlt]; exact hg
  have hb2 : (((w.alloc (.cells #[.pointer (some ⟨t, 0, none⟩)] 125)).alloc (.cells #[.pointer (some ⟨1, 125, none⟩), .pointer (some ⟨w.heap.size, 0, none⟩), .int .u64 150] 146)).alloc (.cells #[.pointer (some ⟨1, 125, none⟩), .pointer (some ⟨w.heap.size, 0, none⟩), .int .u64 150] 146)).cell? ⟨b, 1, none⟩ = some (.int .i64 n) := by
    rw [World.cell?_alloc_lt _ _ ⟨b, 1, none⟩ (by simp only [World.size_alloc]; omega), World.cell?_alloc_lt _ _ ⟨b, 1, none⟩ (by simp only [World.size_alloc]; omega), World.cell?_alloc_lt _ _ ⟨b, 1, none⟩ hbl]; exact hb1
  have el := asElemV ⟨w.heap.size, 0, none⟩ ⟨t, 0, none⟩ (((w.alloc (.cells #[.pointer (some ⟨t, 0, none⟩)] 125)).alloc (.cells #[.pointer (some ⟨1, 125, none⟩), .pointer (some ⟨w.heap.size, 0, none⟩), .int .u64 150] 146)).alloc (.cells #[.pointer (some ⟨1, 125, none⟩), .pointer (some ⟨w.heap.size, 0, none⟩), .int .u64 150] 146)) (by rw [World.cell?_alloc_lt _ _ ⟨w.heap.size, 0, none⟩ (by simp only [World.size_alloc]; omega)]; simp)
  have st := asSet ⟨t, 0, none⟩ ⟨w.heap.size + 1 + 1 + 1, 0, none⟩ n old ((((w.alloc (.cells #[.pointer (some ⟨t, 0, none⟩)] 125)).alloc (.cells #[.pointer (some ⟨1, 125, none⟩), .pointer (some ⟨w.heap.size, 0, none⟩), .int .u64 150] 146)).alloc (.cells #[.pointer (some ⟨1, 125, none⟩), .pointer (some ⟨w.heap.size, 0, none⟩), .int .u64 150] 146)).alloc (.cells #[.int .i64 n] 35))
    (by rw [World.cell?_alloc_at _ _ _ _ (by simp)]; rfl)
    (by rw [World.cell?_alloc_lt _ _ ⟨t, 0, none⟩ (by simp only [World.size_alloc]; omega), World.cell?_alloc_lt _ _ ⟨t, 0, none⟩ (by simp only [World.size_alloc]; omega), World.cell?_alloc_lt _ _ ⟨t, 0, none⟩ (by simp only [World.size_alloc]; omega), World.cell?_alloc_lt _ _ ⟨t, 0, none⟩ htl]; exact ht0)
    (by rw [World.frozen?_alloc_old _ _ ⟨t, 0, none⟩ (by simp only [World.size_alloc]; omega), World.frozen?_alloc_old _ _ ⟨t, 0, none⟩ (by simp only [World.size_alloc]; omega), World.frozen?_alloc_old _ _ ⟨t, 0, none⟩ (by simp only [World.size_alloc]; omega), World.frozen?_alloc_old _ _ ⟨t, 0, none⟩ (Nat.ne_of_lt htl)]; exact hf0)
  go_enter Tryz.func87, Tryz.ntmps87
  go_wp2
  refine wp_loop_rounds 2 ?_
  iterate 2 (rw [rounds_succ]; go_wp2)
  go_ret
  exact ⟨rfl, rfl⟩

theorem isNoIs (v : Value) (xT : TypeId) (w : World) : (Instr.typeAssert (.iface 177 v) xT 164 true).run Tryz.prog w = .ok (.tuple #[.nilIface, .bool false]) w := run_typeAssert_lacksB Tryz.underlying164 (by kernel_rfl) (by kernel_rfl) v xT w
theorem eqOther (v : Value) (b : Int) (w : World) : (binOp .eql 99 (.iface 177 v) (.iface 35 (.int .i64 b))).run Tryz.prog w = .ok (.bool false) w := by kernel_rfl

set_option maxRecDepth 100000 in
set_option maxHeartbeats 4000000 in
/-- errors.Is(&error{.., n}, m): whether n is m. -/
theorem is_any (b : Nat) (n m : Int) (w : World) (hb1 : w.cell? ⟨b, 1, none⟩ = some (.int .i64 n)) :
    Calls Tryz.prog 77 #[.iface 177 (.pointer (some ⟨b, 0, none⟩)), .iface 35 (.int .i64 m)] w fun ev w' => ev = .returned (.bool (n == m)) ∧ w = w' := by
  have f6 := isMethodComparable
  have f7 := isComparableE
  have f8 := isNoIsE
  have f9 := isNoUnwrapE
  have f10 := isNoUnwrapsE
  have f11 := eqErrno
  have f12 := asTypeOfE
  have f16 := isNoIs
  have f17 := asHasUnwrap
  have f18 := asMethodUnwrap
  have f19 := eqOther
  by_cases hnm : n = m
  · subst hnm
    go_enter Tryz.func77, Tryz.ntmps77
    go_wp2
    refine wp_loop_rounds 2 ?_
    iterate 2 (rw [rounds_succ]; go_wp2)
    go_ret
    exact ⟨by simp, rfl⟩
  · have d1 : (n == m) = false := beq_eq_false_iff_ne.2 hnm
    have D1 := Lib.hid d1
    go_enter Tryz.func77, Tryz.ntmps77
    go_wp2
    refine wp_loop_rounds 2 ?_
    iterate 2 (rw [rounds_succ]; go_wp2)
    go_ret
    exact ⟨by rw [D1.out]; rfl, rfl⟩
end Go.Proofs.YtckdecodpjfcnaaGreatDoor.ErRe
namespace Go.Proofs.YtckdecodpjfcnaaGreatDoor
open Go.RowKit

/-- The library's own variable holds the handle of the type error. -/
def HasET (w : World) : Prop := w.cell? ⟨0, 0, none⟩ = some (.iface 162 (.agg #[.pointer (some ⟨1, 99, none⟩)]))
theorem HasET.lt {w : World} (h : HasET w) : 0 < w.heap.size := by
  rcases Nat.lt_or_ge 0 w.heap.size with h1 | h1
  · exact h1
  · unfold HasET at h; simp [World.cell?, Array.getElem?_eq_none h1] at h
theorem HasET.below {w w' : World} (h : HasET w) {B : Nat} (hb : Below B w w') (hB : 0 < B) : HasET w' := (hb.cell (p := ⟨0, 0, none⟩) hB).trans h
theorem HasET.up {w w' : World} (h : HasET w) (hb : Below w.heap.size w w') : HasET w' := h.below hb h.lt

theorem asW_cell (w : World) (n : Int) : (asWorld (w.alloc (.cells #[.int .i64 0] 35)) w.heap.size n).cell? ⟨w.heap.size, 0, none⟩ = some (.int .i64 n) := by
  unfold asWorld
  refine World.cell?_setCell_same' _ _ _ ?_
  rw [World.cell?_alloc_lt _ _ ⟨w.heap.size, 0, none⟩ (by simp only [World.size_alloc]; omega), World.cell?_alloc_lt _ _ ⟨w.heap.size, 0, none⟩ (by simp only [World.size_alloc]; omega), World.cell?_alloc_lt _ _ ⟨w.heap.size, 0, none⟩ (by simp only [World.size_alloc]; omega), World.cell?_alloc_lt _ _ ⟨w.heap.size, 0, none⟩ (by simp only [World.size_alloc]; omega)]
  simp
theorem asW_below (w : World) (n : Int) : Below w.heap.size w (asWorld (w.alloc (.cells #[.int .i64 0] 35)) w.heap.size n) := by
  rw [asWorld]
  refine Below.setCell (p := ⟨w.heap.size, 0, none⟩) ?_ (Nat.le_refl _) _
  exact ((((((Below.refl _ w).alloc (Nat.le_refl _) _).alloc (by simp) _).alloc (by simp only [World.size_alloc]; omega) _).alloc (by simp only [World.size_alloc]; omega) _).alloc (by simp only [World.size_alloc]; omega) _)
theorem cell_lt {w : World} {b o : Nat} {v : Value} (h : w.cell? ⟨b, o, none⟩ = some v) : b < w.heap.size := by
  rcases Nat.lt_or_ge b w.heap.size with h1 | h1
  · exact h1
  · simp [World.cell?, Array.getElem?_eq_none h1] at h
end Go.Proofs.YtckdecodpjfcnaaGreatDoor
namespace Go.Proofs.YtckdecodpjfcnaaGreatDoor
open Go.RowKit

/-- What write has put so far: the variables out and e, and the bytes of its own. -/
def WSt (w : World) (bo be K : Nat) (l : List UInt8) : Prop :=
  ∃ A c, Blk w bo 46 #[.slice A l.length c] ∧ Blk w be 35 #[.int .i64 0] ∧ w.ownsRow K 5 1 (.slice A l.length c) l.length (cellsB l) ∧ bo < K ∧ be < K ∧ bo ≠ be ∧ K ≤ w.heap.size
theorem WSt.only {S : Nat → Prop} {w w' : World} {bo be K : Nat} {l : List UInt8} (h : WSt w bo be K l) (k : Only S w w') (hS : ∀ g, g = bo ∨ g = be ∨ K ≤ g → ¬ S g) : WSt w' bo be K l := by
  obtain ⟨A, c, h1, h2, h3, h4, h5, h6, h7⟩ := h
  exact ⟨A, c, k.blk h1 (hS _ (.inl rfl)), k.blk h2 (hS _ (.inr (.inl rfl))), k.own h3 (fun g hg => hS g (.inr (.inr hg))), h4, h5, h6, Nat.le_trans h7 k.size⟩
theorem WSt.below {w w' : World} {bo be K : Nat} {l : List UInt8} (h : WSt w bo be K l) (k : Below w.heap.size w w') : WSt w' bo be K l :=
  h.only (Only.of_below (fun _ => False) k) (fun _ _ h => h)

theorem Number_own (A : Option Addr) (l : List UInt8) (c : Nat) (n : Nat) (w : World) (hr : Reads w w.heap.size 1 A l.length (cellsB l)) (hl : l.length ≤ 90000) (hn : n ≤ maxNum) :
    Calls Tryz.prog 109 #[.slice A l.length c, .int .i64 n] w (OwnPost (l ++ enc n) 0 w) := by
  have HP := Lib.hid (Put_own A l c n w hr hl hn)
  clear hr
  generalize l ++ enc n = L at *
  go_enter Tryz.func109, Tryz.ntmps109
  go_wp2_with (go_at_call 121; refine HP.out.mono ?_; rintro e w1 ⟨A1, c1, rfl, hr1, hc1, hb1⟩)
  go_ret2
  exact ⟨A1, c1, rfl, hr1, hc1, hb1⟩

/-- Behind a closure's call: more bytes; but for the two variables all is as it was. -/
def PutsPost (bo be K : Nat) (l : List UInt8) (w : World) (e : Ending) (w' : World) : Prop :=
  e = .returned (.tuple #[]) ∧ WSt w' bo be K l ∧ Only (fun g => g = bo ∨ g = be) w w'
theorem puts_of {bo be K : Nat} {l L : List UInt8} {w w1 : World} {A1 : Option Addr} {c1 : Nat} (h : WSt w bo be K l) (ho : w1.ownsRow w.heap.size 5 1 (.slice A1 L.length c1) L.length (cellsB L)) (hb : Below w.heap.size w w1) :
    PutsPost bo be K L w (.returned (.tuple #[])) ((w1.setCell ⟨bo, 0, none⟩ (.slice A1 L.length c1)).setCell ⟨be, 0, none⟩ (.int .i64 0)) := by
  obtain ⟨A, c, h1, h2, h3, h4, h5, h6, h7⟩ := h
  refine ⟨rfl, ⟨A1, c1, ?_, ?_, ?_, h4, h5, h6, ?_⟩, ?_⟩
  · exact ((h1.below hb h1.lt).set_ 0 _).far h6 _
  · exact ((h2.below hb h2.lt).far (Ne.symm h6) _).set_ 0 _
  · exact own_set (own_set (own_base ho h7) h4 _) h5 _
  · have := hb.size
    simp [World.setCell]; omega
  · exact ((Only.of_below _ hb).set (.inl (.inl rfl)) _).set (.inl (.inr rfl)) _

set_option maxHeartbeats 400000 in
theorem wnumber_any (bo be K : Nat) (l : List UInt8) (n : Nat) (w : World) (h : WSt w bo be K l) (hl : l.length ≤ 80000) (hn : n ≤ maxNum) :
    Calls Tryz.prog 119 #[.int .i64 n, .pointer (some ⟨be, 0, none⟩), .pointer (some ⟨bo, 0, none⟩)] w (PutsPost bo be K (l ++ enc n) w) := by
  have HP := Lib.hid (fun A1 c1 w1 => puts_of (L := l ++ enc n) (A1 := A1) (c1 := c1) (w1 := w1) h)
  obtain ⟨A, c, h1, h2, h3, h4, h5, h6, h7⟩ := h
  have HN := Lib.hid (Number_own A l c n w (Reads.of_own h3) (by omega) hn)
  have x1 := h1.cell 0
  have x2 := h2.cell 0
  have K1 := Lib.hid h1
  have K2 := Lib.hid h2
  generalize l ++ enc n = L at *
  clear h1 h2 h3
  go_enter Tryz.func119, Tryz.ntmps119
  go_wp2_with fail
  refine HN.out.mono ?_
  rintro e w1 ⟨A1, c1, rfl, ho1, hc1, hb1⟩
  have y1 := (K1.out.below hb1 K1.out.lt).cell 0
  have y2 := (K1.out.below hb1 K1.out.lt).frozen 0
  have y3 := (K2.out.below hb1 K2.out.lt).cell 0
  have y4 := (K2.out.below hb1 K2.out.lt).frozen 0
  clear x1 x2
  go_wp2_with fail
  go_end0
  exact HP.out _ _ _ ho1 hb1

set_option maxHeartbeats 400000 in
theorem wtext_any (bo be K : Nat) (l : List UInt8) (t : ByteArray) (w : World) (h : WSt w bo be K l) (hl : l.length ≤ 70000) (ht : t.size ≤ 1024) :
    Calls Tryz.prog 120 #[.string t, .pointer (some ⟨be, 0, none⟩), .pointer (some ⟨bo, 0, none⟩)] w (PutsPost bo be K (l ++ (cTxt 1024).e (lb t)) w) := by
  have HP := Lib.hid (fun A1 c1 w1 => puts_of (L := l ++ (cTxt 1024).e (lb t)) (A1 := A1) (c1 := c1) (w1 := w1) h)
  obtain ⟨A, c, h1, h2, h3, h4, h5, h6, h7⟩ := h
  have HN := Lib.hid (Text_ok A l c t w (Reads.of_own h3) (by omega) ht)
  have x1 := h1.cell 0
  have x2 := h2.cell 0
  have K1 := Lib.hid h1
  have K2 := Lib.hid h2
  generalize l ++ (cTxt 1024).e (lb t) = L at *
  clear h1 h2 h3
  go_enter Tryz.func120, Tryz.ntmps120
  go_wp2_with fail
  refine HN.out.mono ?_
  rintro e w1 ⟨A1, c1, rfl, ho1, hc1, hb1⟩
  have y1 := (K1.out.below hb1 K1.out.lt).cell 0
  have y2 := (K1.out.below hb1 K1.out.lt).frozen 0
  have y3 := (K2.out.below hb1 K2.out.lt).cell 0
  have y4 := (K2.out.below hb1 K2.out.lt).frozen 0
  clear x1 x2
  go_wp2_with fail
  go_end0
  exact HP.out _ _ _ ho1 hb1
end Go.Proofs.YtckdecodpjfcnaaGreatDoor
