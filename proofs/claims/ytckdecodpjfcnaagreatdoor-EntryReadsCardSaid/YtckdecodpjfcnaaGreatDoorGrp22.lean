/-
  Layer 6: what the statements' own test of life tells.
  Layer 6, the document's: May, Bytes.
  Layer 6, the document's Bytes.
  Layer 6, the document's Rows; two lists of rows.
-/
import Derived.Test.YtckdecodpjfcnaaGreatDoorGrp11
import Derived.Test.YtckdecodpjfcnaaGreatDoorGrp12
import Derived.Test.YtckdecodpjfcnaaGreatDoorGrp14
import Derived.Deep.RegionHeld3
set_option linter.unusedVariables false
set_option linter.unusedSimpArgs false
namespace Go.Proofs.YtckdecodpjfcnaaGreatDoor
open Go.RowKit

theorem any_take (rs : List Rec) (k : Nat) (r : Rec) (h : rs[k]? = some r) : (rs.take (k + 1)).any badR = ((rs.take k).any badR || badR r) := by
  rw [List.take_add_one, h]; simp
theorem any_of_at {rs : List Rec} {k : Nat} {r : Rec} (h : rs[k]? = some r) (hb : badR r = true) : rs.any badR = true := List.any_eq_true.2 ⟨r, List.mem_of_getElem? h, hb⟩

set_option maxRecDepth 100000 in
set_option maxHeartbeats 1000000 in
theorem rRcMay_any (b : Bat) (A1 : Option Addr) (c1 : Nat) (w : World) (hr : Reads w w.heap.size 2 A1 b.rs.length (cellsR b.rs)) :
    Calls Tryz.prog 40 #[(.agg #[.int .i64 b.pid, .int .i64 b.ep, .int .i64 b.seq, .bool b.txn, .slice A1 b.rs.length c1])] w fun e w' => e = .returned (.bool (mayBt b)) ∧ Below w.heap.size w w' := by
  have HB := Lib.hid ((Below.refl w.heap.size w).alloc (Nat.le_refl _) (.cells #[.int .i64 b.pid, .int .i64 b.ep, .int .i64 b.seq, .bool b.txn, .slice A1 b.rs.length c1] 25))
  by_cases hh : headB b = true
  · have hd : 1 ≤ b.pid ∧ b.pid ≤ 8 ∧ 0 ≤ b.ep ∧ b.ep ≤ 100 ∧ 1 ≤ b.rs.length ∧ b.rs.length ≤ 4 ∧ 0 ≤ b.seq ∧ b.seq + b.rs.length ≤ 1048576 := by
      unfold headB at hh; simpa using hh
    have hfin : mayBt b = !(b.rs.any badR) := by unfold mayBt; rw [hh]; rfl
    have HF := Lib.hid hfin
    have HR := Lib.hid (hr.alloc (Nat.le_refl _) (.cells #[.int .i64 b.pid, .int .i64 b.ep, .int .i64 b.seq, .bool b.txn, .slice A1 b.rs.length c1] 25))
    obtain ⟨q1, q2, q3, q4, q5, q6, q7, q8⟩ := hd
    have d1 : ¬ b.pid < 1 := by omega
    have d2 : ¬ 8 < b.pid := by omega
    have d3 : ¬ b.ep < 0 := by omega
    have d4 : ¬ 100 < b.ep := by omega
    have d5 : ¬ (b.rs.length : Int) < 1 := by omega
    have d6 : ¬ 4 < (b.rs.length : Int) := by omega
    have d7 : ¬ b.seq < 0 := by omega
    have d9 : ¬ 1048576 < b.seq := by omega
    have d8 : ¬ 1048576 < b.seq + (b.rs.length : Int) := by omega
    have x4 := (Blk.new w 25 #[.int .i64 b.pid, .int .i64 b.ep, .int .i64 b.seq, .bool b.txn, .slice A1 b.rs.length c1]).cell 4
    clear hr hfin hh
    go_enter Tryz.func40, Tryz.ntmps40
    go_wp2_with fail
    generalize hW : w.alloc (.cells #[.int .i64 b.pid, .int .i64 b.ep, .int .i64 b.seq, .bool b.txn, .slice A1 b.rs.length c1] 25) = W at *
    clear hW
    go_loop [3] (fun x => ∃ k : Nat, k ≤ b.rs.length ∧ x = .int .i64 k ∧ (b.rs.take k).any badR = false) (fun x => b.rs.length - (intOf x).toNat)
    case atStart => exact ⟨0, Nat.zero_le _, rfl, by simp⟩
    case round =>
      obtain ⟨k, hk, rfl, hany⟩ := hrel
      have HANY := Lib.hid hany
      clear hany
      by_cases hlt : k < b.rs.length
      · have e1 : decide ((k : Int) < (b.rs.length : Int)) = true := by simp; omega
        obtain ⟨b1, o1, rfl, _, hc1⟩ := HR.out.plain2 (by omega)
        obtain ⟨r, hx⟩ : ∃ z, b.rs[k]? = some z := ⟨_, List.getElem?_eq_getElem hlt⟩
        obtain ⟨g1, g2⟩ := hc1 k _ hx
        have HSN := Lib.hid (any_take b.rs k r hx)
        have HX := Lib.hid hx
        clear hc1 hx
        go_wp2_with fail
        all_goals first
          | (go_ret; exact ⟨ret_bool (by rw [HF.out, any_of_at HX.out (by unfold badR; simp; omega)]; rfl), HB.out⟩)
          | (go_round
             case rel => exact ⟨k + 1, by omega, by go_num, by rw [HSN.out, HANY.out]; unfold badR; simp; omega⟩
             case measure => simp [intOf]; omega)
      · have e1 : decide ((k : Int) < (b.rs.length : Int)) = false := by simp; omega
        have hfin : b.rs.any badR = false := by have h2 := HANY.out; rwa [List.take_of_length_le (by omega)] at h2
        have HF2 := Lib.hid hfin
        clear hfin
        go_wp2_with fail
        go_ret
        exact ⟨ret_bool (by rw [HF.out, HF2.out]; rfl), HB.out⟩
  · have hfin : mayBt b = false := by unfold mayBt; rw [Bool.not_eq_true] at hh; rw [hh]; rfl
    rw [hfin]
    have hd : ¬ (1 ≤ b.pid ∧ b.pid ≤ 8 ∧ 0 ≤ b.ep ∧ b.ep ≤ 100 ∧ 1 ≤ b.rs.length ∧ b.rs.length ≤ 4 ∧ 0 ≤ b.seq ∧ b.seq + b.rs.length ≤ 1048576) := by
      unfold headB at hh; simpa using hh
    have HD := Lib.hid hd
    clear hr hfin hh hd
    go_enter Tryz.func40, Tryz.ntmps40
    go_wp2_with fail
    all_goals first | (go_ret; exact ⟨rfl, HB.out⟩) | (exfalso; have := HD.out; omega)
end Go.Proofs.YtckdecodpjfcnaaGreatDoor
namespace Go.Proofs.YtckdecodpjfcnaaGreatDoor
open Go.RowKit

theorem rNumber_int (A : Option Addr) (l : List UInt8) (c : Nat) (n : Int) (w : World) (hr : Reads w w.heap.size 1 A l.length (cellsB l)) (hl : l.length ≤ 90000) (h0 : 0 ≤ n) (hn : n ≤ 1048576) :
    Calls Tryz.prog 68 #[.slice A l.length c, .int .i64 n] w (BytesPost (l ++ enc n.toNat) 0 w) := by
  obtain ⟨k, rfl⟩ := Int.eq_ofNat_of_zero_le h0
  exact rNumber_ok A l c k w hr hl (by unfold maxNum; omega)

set_option maxRecDepth 100000 in
set_option maxHeartbeats 2000000 in
theorem rRcBytes_ok (b : Bat) (A1 : Option Addr) (c1 : Nat) (w : World) (hr : Reads w w.heap.size 2 A1 b.rs.length (cellsR b.rs)) (hm : mayBt b = true) :
    Calls Tryz.prog 31 #[(.agg #[.int .i64 b.pid, .int .i64 b.ep, .int .i64 b.seq, .bool b.txn, .slice A1 b.rs.length c1])] w fun e w' => e = .returned (.tuple #[.string (bs (encBt b)), .int .i64 0]) ∧ Below w.heap.size w w' := by
  obtain ⟨hh, hrec⟩ := (mayBt_iff b).1 hm
  obtain ⟨q1, q2, q3, q4, q5, q6, q7, q8⟩ := hh
  have hmay := rRcMay_any b A1 c1 (w.alloc (.cells #[.int .i64 b.pid, .int .i64 b.ep, .int .i64 b.seq, .bool b.txn, .slice A1 b.rs.length c1] 25)) ((hr.alloc (Nat.le_refl _) _).more (by simp))
  rw [hm] at hmay
  have HMAY := Lib.hid hmay
  have HPL := Lib.hid (preBt_len b hm)
  have HPA := Lib.hid (preBt_all b)
  have HREC := Lib.hid hrec
  have HR := Lib.hid hr
  have HK := Lib.hid (Blk.new w 25 #[.int .i64 b.pid, .int .i64 b.ep, .int .i64 b.seq, .bool b.txn, .slice A1 b.rs.length c1])
  have HB := Lib.hid ((Below.refl w.heap.size w).alloc (Nat.le_refl _) (.cells #[.int .i64 b.pid, .int .i64 b.ep, .int .i64 b.seq, .bool b.txn, .slice A1 b.rs.length c1] 25))
  clear hr hmay hrec
  go_enter Tryz.func31, Tryz.ntmps31
  go_wp2_with fail
  refine HMAY.out.mono ?_
  rintro e w1 ⟨rfl, hb1⟩
  have k1 := HK.out.below hb1 (by simp)
  have BF1 := Lib.hid (btrans HB.out hb1)
  have hz := k1.lt
  have x0 := k1.cell 0
  have K1 := Lib.hid k1
  clear k1 hb1
  go_wp2_with fail
  refine (rNumber_int none [] 0 b.pid _ Reads.none_ (by simp) (by omega) (by omega)).mono ?_
  rw [List.nil_append]
  rintro e w2 ⟨A2, c2, rfl, r2, hc2, hb2⟩
  obtain ⟨L2, hL2⟩ : ∃ L, L = enc b.pid.toNat := ⟨_, rfl⟩
  have l2 : L2.length ≤ 3 := by rw [hL2]; exact enc_len3 b.pid.toNat (by omega)
  rw [← hL2] at r2
  rw [← hL2]
  have k2 := K1.out.below hb2 hz
  have BF2 := Lib.hid (btrans BF1.out hb2)
  have HL2 := Lib.hid hL2
  have R2 := Lib.hid r2
  have hz2 := k2.lt
  clear x0
  have x1 := k2.cell 1
  have K2 := Lib.hid k2
  clear k2 hb2 hL2 r2
  go_wp2_with fail
  refine (rNumber_int A2 L2 c2 b.ep _ R2.out (by omega) (by omega) (by omega)).mono ?_
  rintro e w3 ⟨A3, c3, rfl, r3, hc3, hb3⟩
  obtain ⟨L3, hL3⟩ : ∃ L, L = L2 ++ enc b.ep.toNat := ⟨_, rfl⟩
  have l3 : L3.length ≤ 6 := by rw [hL3]; exact len_of l2 (by omega) (by omega)
  rw [← hL3] at r3
  rw [← hL3]
  have k3 := K2.out.below hb3 hz2
  have BF3 := Lib.hid (btrans BF2.out hb3)
  have HL3 := Lib.hid hL3
  have R3 := Lib.hid r3
  have hz3 := k3.lt
  clear x1
  have x2 := k3.cell 2
  have K3 := Lib.hid k3
  clear k3 hb3 hL3 r3
  go_wp2_with fail
  refine (rNumber_int A3 L3 c3 b.seq _ R3.out (by omega) (by omega) (by omega)).mono ?_
  rintro e w4 ⟨A4, c4, rfl, r4, hc4, hb4⟩
  obtain ⟨L4, hL4⟩ : ∃ L, L = L3 ++ enc b.seq.toNat := ⟨_, rfl⟩
  have l4 : L4.length ≤ 9 := by rw [hL4]; exact len_of l3 (by omega) (by omega)
  rw [← hL4] at r4
  rw [← hL4]
  have k4 := K3.out.below hb4 hz3
  have BF4 := Lib.hid (btrans BF3.out hb4)
  have HL4 := Lib.hid hL4
  have R4 := Lib.hid r4
  have hz4 := k4.lt
  clear x2
  have x3 := k4.cell 3
  have K4 := Lib.hid k4
  clear k4 hb4 hL4 r4
  go_wp2_with fail
  refine (rFlag_any A4 L4 c4 b.txn _ R4.out (by omega)).mono ?_
  rintro e w5 ⟨A5, c5, rfl, o5, hc5, hb5⟩
  obtain ⟨L5, hL5⟩ : ∃ L, L = L4 ++ encY b.txn := ⟨_, rfl⟩
  have l5 : L5.length ≤ 10 := by rw [hL5, List.length_append]; have : (encY b.txn).length = 1 := rfl; omega
  rw [← hL5] at o5
  rw [← hL5]
  have k5 := K4.out.below hb5 hz4
  have BF5 := Lib.hid (btrans BF4.out hb5)
  have HL5 := Lib.hid hL5
  have R5 := Lib.hid (Reads.of_own o5)
  have hz5 := k5.lt
  clear x3
  have x4 := k5.cell 4
  have K5 := Lib.hid k5
  clear k5 hb5 hL5 o5
  go_wp2_with fail
  refine (rNumber_ok A5 L5 c5 b.rs.length _ R5.out (by omega) (by unfold maxNum; omega)).mono ?_
  rintro e w6 ⟨A6, c6, rfl, r6, hc6, hb6⟩
  have hpre : L5 ++ enc b.rs.length = preBt b := by rw [HL5.out, HL4.out, HL3.out, HL2.out]; rfl
  rw [hpre] at r6
  rw [hpre]
  have l6 : (preBt b).length ≤ 10 := HPL.out
  obtain ⟨LP, hLP⟩ : ∃ L, L = preBt b := ⟨_, rfl⟩
  rw [← hLP] at r6 l6
  rw [← hLP]
  have k6 := K5.out.below hb6 hz5
  have BF6 := Lib.hid (btrans BF5.out hb6)
  have HLP := Lib.hid hLP
  have R6 := Lib.hid r6
  have K6 := Lib.hid k6
  clear x4 k6 hb6 hLP r6 hpre hc2 hc3 hc4 hc5 hc6 hz hz2 hz3 hz4 hz5 l2 l3 l4 l5
  go_wp2_with fail
  go_loopw [4, 6] (fun v x wr => ∃ (k : Nat) (A : Option Addr) (c : Nat) (L : List UInt8), k ≤ b.rs.length ∧ x = .int .i64 k ∧ L = LP ++ (b.rs.take k).flatMap cRec.e ∧ v = .slice A L.length c ∧ Reads wr wr.heap.size 1 A L.length (cellsB L) ∧ Below w.heap.size w wr ∧ Blk wr w.heap.size 25 #[.int .i64 b.pid, .int .i64 b.ep, .int .i64 b.seq, .bool b.txn, .slice A1 b.rs.length c1]) (fun _ x _ => b.rs.length - (intOf x).toNat)
  case atStart => exact ⟨0, A6, c6, LP, Nat.zero_le _, rfl, by simp, rfl, R6.out, BF6.out, K6.out⟩
  case round =>
    obtain ⟨k, A, c, L, hk, rfl, hLL, rfl, hrd, hbel, hblk⟩ := hrel
    have RD := Lib.hid hrd
    have BEL := Lib.hid hbel
    have KB := Lib.hid hblk
    have x4 := hblk.cell 4
    have hz := hblk.lt
    have hfl := flat_len b.rs k HREC.out q6
    have hll : L.length ≤ 146 := by rw [hLL, List.length_append]; omega
    have HLL := Lib.hid hLL
    clear hrd hbel hfl hblk hLL
    by_cases hlt2 : k < b.rs.length
    · have d1 : decide ((k : Int) < (b.rs.length : Int)) = true := by simp; omega
      have HRW := Lib.hid (HR.out.below BEL.out)
      obtain ⟨b1, o1, rfl, hbl1, hc1⟩ := HRW.out.plain2 (by omega)
      obtain ⟨r, hx⟩ : ∃ z, b.rs[k]? = some z := ⟨_, List.getElem?_eq_getElem hlt2⟩
      obtain ⟨g1, g2⟩ := hc1 k _ hx
      have HT := Lib.hid (take_flat b.rs k r hx)
      obtain ⟨hr1, hr2⟩ := HREC.out r (List.mem_of_getElem? hx)
      have G2 := Lib.hid g2
      have X4 := Lib.hid x4
      clear hc1 hx
      go_wp2_with fail
      refine (rText_ok A L c r.1 _ RD.out (by omega) (by omega)).mono ?_
      rintro e w8 ⟨A8, c8, rfl, o8, hc8, hb8⟩
      have l8 : (L ++ (cTxt 1024).e (lb r.1)).length ≤ 163 := by rw [List.length_append]; have := (encT_len r.1 hr1).1; omega
      obtain ⟨L8, hL8⟩ : ∃ L', L' = L ++ (cTxt 1024).e (lb r.1) := ⟨_, rfl⟩
      rw [← hL8] at o8 l8
      rw [← hL8]
      have HL8 := Lib.hid hL8
      have R8 := Lib.hid (Reads.of_own o8)
      have k8 := KB.out.below hb8 hz
      have K8 := Lib.hid k8
      have BF8 := Lib.hid (btrans BEL.out hb8)
      have hb1 : b1 < wr.heap.size := by have := BEL.out.size; omega
      have y2 := (hb8.cell (p := ⟨b1, o1 + k * 2 + 1, none⟩) hb1).trans G2.out
      have y4 := k8.cell 4
      have hz8 := k8.lt
      clear o8 k8 hb8 hL8 g1 g2 x4
      go_wp2_with fail
      refine (rText_ok A8 L8 c8 r.2 _ R8.out (by omega) (by omega)).mono ?_
      rintro e w9 ⟨A9, c9, rfl, o9, hc9, hb9⟩
      have hfin : L8 ++ (cTxt 1024).e (lb r.2) = LP ++ (b.rs.take (k + 1)).flatMap cRec.e := by
        rw [HL8.out, HT.out, HLL.out, List.append_assoc, List.append_assoc, cRec_e]
      obtain ⟨L9, hL9⟩ : ∃ L', L' = L8 ++ (cTxt 1024).e (lb r.2) := ⟨_, rfl⟩
      rw [← hL9] at o9 hfin
      rw [← hL9]
      have HFIN := Lib.hid hfin
      have O9 := Lib.hid (Reads.of_own o9)
      have K9 := Lib.hid (K8.out.below hb9 hz8)
      have BF9 := Lib.hid (btrans BF8.out hb9)
      clear o9 hb9 hfin hL9 y2 y4
      go_wp2_with fail
      go_roundw
      case rel => exact ⟨k + 1, A9, c9, L9, by omega, by go_num, HFIN.out, rfl, O9.out, BF9.out, K9.out⟩
      case measure => simp [intOf]; omega
    · have d1 : decide ((k : Int) < (b.rs.length : Int)) = false := by simp; omega
      have hfin : L = encBt b := by
        rw [HLL.out, List.take_of_length_le (by omega), HLP.out]; exact HPA.out
      have HFIN := Lib.hid hfin
      clear hfin
      have hcv := run_string_of (P := Tryz.prog) (c := c) Tryz.underlying46 Tryz.underlying5 Tryz.underlying9 RD.out
      go_wp2_with fail
      go_ret2
      exact ⟨by rw [← HFIN.out]; rfl, BEL.out⟩

set_option maxHeartbeats 1000000 in
theorem rRcBytes_no (b : Bat) (A1 : Option Addr) (c1 : Nat) (w : World) (hr : Reads w w.heap.size 2 A1 b.rs.length (cellsR b.rs)) (hm : mayBt b = false) :
    Calls Tryz.prog 31 #[(.agg #[.int .i64 b.pid, .int .i64 b.ep, .int .i64 b.seq, .bool b.txn, .slice A1 b.rs.length c1])] w fun e w' => e = .returned (.tuple #[.string ByteArray.empty, .int .i64 2]) ∧ Below w.heap.size w w' := by
  have hmay := rRcMay_any b A1 c1 (w.alloc (.cells #[.int .i64 b.pid, .int .i64 b.ep, .int .i64 b.seq, .bool b.txn, .slice A1 b.rs.length c1] 25)) ((hr.alloc (Nat.le_refl _) _).more (by simp))
  rw [hm] at hmay
  have HMAY := Lib.hid hmay
  have HB := Lib.hid ((Below.refl w.heap.size w).alloc (Nat.le_refl _) (.cells #[.int .i64 b.pid, .int .i64 b.ep, .int .i64 b.seq, .bool b.txn, .slice A1 b.rs.length c1] 25))
  clear hr hmay hm
  go_enter Tryz.func31, Tryz.ntmps31
  go_wp2_with fail
  refine HMAY.out.mono ?_
  rintro e w1 ⟨rfl, hb1⟩
  go_wp2_with fail
  go_ret2
  exact ⟨rfl, btrans HB.out hb1⟩
end Go.Proofs.YtckdecodpjfcnaaGreatDoor
namespace Go.Proofs.YtckdecodpjfcnaaGreatDoor
open Go.RowKit

theorem eqRw (a b : Rw) (w : World) : (Op.equalIn 10000 27 (.agg #[.int .i64 a.1, .int .i64 a.2.1, .int .i64 a.2.2.1, .string a.2.2.2.1, .string a.2.2.2.2]) (.agg #[.int .i64 b.1, .int .i64 b.2.1, .int .i64 b.2.2.1, .string b.2.2.2.1, .string b.2.2.2.2])).run Tryz.prog w = .ok (decide (a = b)) w := by
  have u3 := Tryz.underlying9
  have u4 := Tryz.underlying3
  have hS : Tryz.prog.underlying 27 = some (.struct (Tryz.prog.fieldsOf 27)) := by kernel_rfl
  have hp : Tryz.prog.stoodInHeld 27 = false := by kernel_rfl
  have a3 := Tryz.isAgg9
  have z3 := Tryz.sizeOf9
  have a4 := Tryz.isAgg3
  have z4 := Tryz.sizeOf3
  obtain ⟨a1, a2, a3', a4', a5'⟩ := a
  obtain ⟨b1, b2, b3, b4, b5⟩ := b
  rw [show (10000 : Nat) = 9999 + 1 from rfl, run_equalIn_agg w 9999 27 _ _ hS hp]
  simp only [Program.fieldsOf, Tryz.underlying27]
  go_simp
  by_cases h1 : a1 = b1 <;> by_cases h2 : a2 = b2 <;> by_cases h3 : a3' = b3 <;> by_cases h4 : a4' = b4 <;> by_cases h5 : a5' = b5 <;> simp [h1, h2, h3, h4, h5, toList_inj]

end Go.Proofs.YtckdecodpjfcnaaGreatDoor
namespace Go.Proofs.YtckdecodpjfcnaaGreatDoor
open Go.RowKit

def bw6 : Bat := ⟨1, 0, 2, false, [(⟨#[97]⟩, ⟨#[98]⟩)]⟩
theorem bw6_may : mayBt bw6 = true := by decide
theorem bw6_enc : encBt bw6 = [1, 0, 2, 0, 1, 1, 97, 1, 98] := by decide
theorem bw6_rows : rowsBt bw6 7 = [(7, 1, 2, ⟨#[97]⟩, ⟨#[98]⟩)] := by kernel_rfl
theorem bw6_behind : behindB bw6 = 3 := by kernel_rfl

theorem reads_newR (w : World) (t : TypeId) (p : Rec) (g : Nat) (hg : w.heap.size = g) : Reads (w.alloc (.cells #[.string p.1, .string p.2] t)) (g + 1) 2 (some ⟨g, 0, none⟩) 1 (cellsR [p]) := by
  subst hg
  refine ⟨by rw [length_cellsR]; rfl, fun _ => ⟨_, rfl, Nat.lt_succ_self _, fun j u hu => ?_⟩⟩
  rw [add_none, Nat.zero_add]
  rw [(Blk.new w t _).cell j]
  have e : cellsR [p] = (#[.string p.1, .string p.2] : Array Value).toList := by rw [cellsR_cons]; rfl
  rw [e] at hu
  simpa using hu

end Go.Proofs.YtckdecodpjfcnaaGreatDoor
