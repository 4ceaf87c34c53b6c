/-
  Layer 6, the document's Bytes.
  Layer 6: record.Rows.
-/
import Derived.Test.YtcockikekgmfkaaGreatDoorGrp16
namespace Go.Proofs.YtcockikekgmfkaaGreatDoor
open Go.RowKit

abbrev Rw := Int × Int × Int × ByteArray × ByteArray
def cellsW (l : List Rw) : List Value := l.flatMap fun p => [.int .i64 p.1, .int .i64 p.2.1, .int .i64 p.2.2.1, .string p.2.2.2.1, .string p.2.2.2.2]
theorem cellsW_cons (p : Rw) (l : List Rw) : cellsW (p :: l) = .int .i64 p.1 :: .int .i64 p.2.1 :: .int .i64 p.2.2.1 :: .string p.2.2.2.1 :: .string p.2.2.2.2 :: cellsW l := by simp [cellsW]
theorem cellsW_append (l m : List Rw) : cellsW (l ++ m) = cellsW l ++ cellsW m := by simp [cellsW]
theorem length_cellsW : ∀ l : List Rw, (cellsW l).length = l.length * 5
  | [] => rfl
  | p :: l => by rw [cellsW_cons, List.length_cons, List.length_cons, List.length_cons, List.length_cons, List.length_cons, length_cellsW l, List.length_cons]; omega
theorem cellsW_at : ∀ (l : List Rw) (i : Nat) (p : Rw), l[i]? = some p → (cellsW l)[i * 5]? = some (.int .i64 p.1) ∧ (cellsW l)[i * 5 + 1]? = some (.int .i64 p.2.1) ∧ (cellsW l)[i * 5 + 2]? = some (.int .i64 p.2.2.1) ∧ (cellsW l)[i * 5 + 3]? = some (.string p.2.2.2.1) ∧ (cellsW l)[i * 5 + 4]? = some (.string p.2.2.2.2)
  | [], i, p, h => by simp at h
  | q :: l, 0, p, h => by
    simp at h
    subst h
    rw [cellsW_cons]
    exact ⟨rfl, rfl, rfl, rfl, rfl⟩
  | q :: l, i + 1, p, h => by
    have := cellsW_at l i p (by simpa using h)
    rw [cellsW_cons, show (i + 1) * 5 = i * 5 + 1 + 1 + 1 + 1 + 1 by omega]
    simpa using this
theorem cellsW_one (l : List Rw) : ∀ u ∈ cellsW l, u.oneCell' = true := by
  intro u hu
  simp only [cellsW, List.mem_flatMap] at hu
  obtain ⟨p, _, hu⟩ := hu
  simp at hu
  rcases hu with rfl | rfl | rfl | rfl | rfl <;> rfl
theorem Reads.plain5 {w : World} {B n : Nat} {A : Option Addr} {l : List Rw} (h : Reads w B 5 A n (cellsW l)) (hn : 0 < n) :
    ∃ b off, A = some ⟨b, off, none⟩ ∧ b < B ∧ ∀ i p, l[i]? = some p → w.cell? ⟨b, off + i * 5, none⟩ = some (.int .i64 p.1) ∧ w.cell? ⟨b, off + i * 5 + 1, none⟩ = some (.int .i64 p.2.1) ∧ w.cell? ⟨b, off + i * 5 + 2, none⟩ = some (.int .i64 p.2.2.1) ∧ w.cell? ⟨b, off + i * 5 + 3, none⟩ = some (.string p.2.2.2.1) ∧ w.cell? ⟨b, off + i * 5 + 4, none⟩ = some (.string p.2.2.2.2) := by
  obtain ⟨ad, rfl, hb, hc⟩ := h.2 hn
  obtain ⟨b, off, spot⟩ := ad
  have hl : 0 < (cellsW l).length := by have := h.1; omega
  have h0 := hc 0 _ (List.getElem?_eq_getElem hl)
  have hs : spot = none := by simpa [Addr.add] using World.cell?_spot h0
  subst hs
  refine ⟨b, off, rfl, hb, fun i p hp => ?_⟩
  obtain ⟨h1, h2, h3, h4, h5⟩ := cellsW_at l i p hp
  have k1 := hc _ _ h1
  have k2 := hc _ _ h2
  have k3 := hc _ _ h3
  have k4 := hc _ _ h4
  have k5 := hc _ _ h5
  rw [add_none] at k1 k2 k3 k4 k5
  exact ⟨k1, by rw [Nat.add_assoc]; exact k2, by rw [Nat.add_assoc]; exact k3, by rw [Nat.add_assoc]; exact k4, by rw [Nat.add_assoc]; exact k5⟩

/-- A record as a row. -/
def rowAt (b : Bat) (off : Int) (i : Nat) (r : Rec) : Rw := (if off = -1 then -1 else wrap64 (off + (i : Int)), b.pid, wrap64 (b.seq + (i : Int)), r.1, r.2)
def rowsTo (b : Bat) (off : Int) : Nat → List Rw
  | 0 => []
  | k + 1 => rowsTo b off k ++ (match b.rs[k]? with | some r => [rowAt b off k r] | none => [])
theorem rowsTo_succ (b : Bat) (off : Int) (k : Nat) (r : Rec) (h : b.rs[k]? = some r) : rowsTo b off (k + 1) = rowsTo b off k ++ [rowAt b off k r] := by rw [rowsTo, h]
theorem rowsTo_len (b : Bat) (off : Int) : ∀ k, k ≤ b.rs.length → (rowsTo b off k).length = k
  | 0, _ => rfl
  | k + 1, h => by
    have hk : b.rs[k]? = some b.rs[k] := List.getElem?_eq_getElem (by omega)
    rw [rowsTo_succ b off k _ hk, List.length_append, rowsTo_len b off k (by omega)]; rfl
def rowsBt (b : Bat) (off : Int) : List Rw := rowsTo b off b.rs.length
theorem rowsBt_len (b : Bat) (off : Int) : (rowsBt b off).length = b.rs.length := rowsTo_len b off _ (Nat.le_refl _)
theorem rowsTo_at (b : Bat) (off : Int) : ∀ (n k : Nat) (r : Rec), n ≤ b.rs.length → k < n → b.rs[k]? = some r → (rowsTo b off n)[k]? = some (rowAt b off k r)
  | 0, k, r, _, h, _ => by omega
  | n + 1, k, r, hn, h, hr => by
    have hk : b.rs[n]? = some b.rs[n] := List.getElem?_eq_getElem (by omega)
    rw [rowsTo_succ b off n _ hk]
    have hl := rowsTo_len b off n (by omega)
    rcases Nat.lt_or_ge k n with h1 | h1
    · rw [List.getElem?_append_left (by omega)]
      exact rowsTo_at b off n k r (by omega) h1 hr
    · obtain rfl : k = n := by omega
      rw [List.getElem?_append_right (by omega), hl, Nat.sub_self]
      rw [hk] at hr
      injection hr with hr
      rw [hr]; rfl

theorem reads_newW (w : World) (t : TypeId) (p : Rw) (g : Nat) (hg : w.heap.size = g) : Reads (w.alloc (.cells #[.int .i64 p.1, .int .i64 p.2.1, .int .i64 p.2.2.1, .string p.2.2.2.1, .string p.2.2.2.2] t)) (g + 1) 5 (some ⟨g, 0, none⟩) 1 (cellsW [p]) := by
  subst hg
  refine ⟨by rw [length_cellsW]; rfl, fun _ => ⟨_, rfl, Nat.lt_succ_self _, fun j u hu => ?_⟩⟩
  rw [add_none, Nat.zero_add]
  rw [(Blk.new w t _).cell j]
  have e : cellsW [p] = (#[.int .i64 p.1, .int .i64 p.2.1, .int .i64 p.2.2.1, .string p.2.2.2.1, .string p.2.2.2.2] : Array Value).toList := by rw [cellsW_cons]; rfl
  rw [e] at hu
  simpa using hu

/-- A list of rows, in new memory. -/
def RowsPost (l : List Rw) (w : World) (e : Ending) (w' : World) : Prop :=
  ∃ A c, e = .returned (.slice A l.length c) ∧ Reads w' w'.heap.size 5 A l.length (cellsW l) ∧ l.length ≤ c ∧ Below w.heap.size w w'

end Go.Proofs.YtcockikekgmfkaaGreatDoor
namespace Go.Proofs.YtcockikekgmfkaaGreatDoor
open Go.RowKit

theorem rNumber_int (A : Option Addr) (l : List UInt8) (c : Nat) (n : Int) (w : World) (hr : Reads w w.heap.size 1 A l.length (cellsB l)) (hl : l.length ≤ 90000) (h0 : 0 ≤ n) (hn : n ≤ 1048576) :
    Calls Tryz.prog 38 #[.slice A l.length c, .int .i64 n] w (BytesPost (l ++ enc n.toNat) 0 w) := by
  obtain ⟨k, rfl⟩ := Int.eq_ofNat_of_zero_le h0
  exact rNumber_ok A l c k w hr hl (by unfold maxNum; omega)

set_option maxRecDepth 100000 in
set_option maxHeartbeats 2000000 in
theorem rRcBytes_ok (b : Bat) (A1 : Option Addr) (c1 : Nat) (w : World) (hr : Reads w w.heap.size 2 A1 b.rs.length (cellsR b.rs)) (hm : mayBt b = true) :
    Calls Tryz.prog 20 #[(.agg #[.int .i64 b.pid, .int .i64 b.ep, .int .i64 b.seq, .bool b.txn, .slice A1 b.rs.length c1])] w fun e w' => e = .returned (.tuple #[.string (bs (encBt b)), .int .i64 0]) ∧ Below w.heap.size w w' := by
  obtain ⟨hh, hrec⟩ := (mayBt_iff b).1 hm
  obtain ⟨q1, q2, q3, q4, q5, q6, q7, q8⟩ := hh
  have hmay := rRcMay_any b A1 c1 (w.alloc (.cells #[.int .i64 b.pid, .int .i64 b.ep, .int .i64 b.seq, .bool b.txn, .slice A1 b.rs.length c1] 25)) ((hr.alloc (Nat.le_refl _) _).more (by simp))
  rw [hm] at hmay
  have HMAY := Lib.hid hmay
  have HPL := Lib.hid (preBt_len b hm)
  have HPA := Lib.hid (preBt_all b)
  have HREC := Lib.hid hrec
  have HR := Lib.hid hr
  have HK := Lib.hid (Blk.new w 25 #[.int .i64 b.pid, .int .i64 b.ep, .int .i64 b.seq, .bool b.txn, .slice A1 b.rs.length c1])
  have HB := Lib.hid ((Below.refl w.heap.size w).alloc (Nat.le_refl _) (.cells #[.int .i64 b.pid, .int .i64 b.ep, .int .i64 b.seq, .bool b.txn, .slice A1 b.rs.length c1] 25))
  clear hr hmay hrec
  go_enter Tryz.func20, Tryz.ntmps20
  go_wp2_with fail
  refine HMAY.out.mono ?_
  rintro e w1 ⟨rfl, hb1⟩
  have k1 := HK.out.below hb1 (by simp)
  have BF1 := Lib.hid (btrans HB.out hb1)
  have hz := k1.lt
  have x0 := k1.cell 0
  have K1 := Lib.hid k1
  clear k1 hb1
  go_wp2_with fail
  refine (rNumber_int none [] 0 b.pid _ Reads.none_ (by simp) (by omega) (by omega)).mono ?_
  rw [List.nil_append]
  rintro e w2 ⟨A2, c2, rfl, r2, hc2, hb2⟩
  obtain ⟨L2, hL2⟩ : ∃ L, L = enc b.pid.toNat := ⟨_, rfl⟩
  have l2 : L2.length ≤ 3 := by rw [hL2]; exact enc_len3 b.pid.toNat (by omega)
  rw [← hL2] at r2
  rw [← hL2]
  have k2 := K1.out.below hb2 hz
  have BF2 := Lib.hid (btrans BF1.out hb2)
  have HL2 := Lib.hid hL2
  have R2 := Lib.hid r2
  have hz2 := k2.lt
  clear x0
  have x1 := k2.cell 1
  have K2 := Lib.hid k2
  clear k2 hb2 hL2 r2
  go_wp2_with fail
  refine (rNumber_int A2 L2 c2 b.ep _ R2.out (by omega) (by omega) (by omega)).mono ?_
  rintro e w3 ⟨A3, c3, rfl, r3, hc3, hb3⟩
  obtain ⟨L3, hL3⟩ : ∃ L, L = L2 ++ enc b.ep.toNat := ⟨_, rfl⟩
  have l3 : L3.length ≤ 6 := by rw [hL3]; exact len_of l2 (by omega) (by omega)
  rw [← hL3] at r3
  rw [← hL3]
  have k3 := K2.out.below hb3 hz2
  have BF3 := Lib.hid (btrans BF2.out hb3)
  have HL3 := Lib.hid hL3
  have R3 := Lib.hid r3
  have hz3 := k3.lt
  clear x1
  have x2 := k3.cell 2
  have K3 := Lib.hid k3
  clear k3 hb3 hL3 r3
  go_wp2_with fail
  refine (rNumber_int A3 L3 c3 b.seq _ R3.out (by omega) (by omega) (by omega)).mono ?_
  rintro e w4 ⟨A4, c4, rfl, r4, hc4, hb4⟩
  obtain ⟨L4, hL4⟩ : ∃ L, L = L3 ++ enc b.seq.toNat := ⟨_, rfl⟩
  have l4 : L4.length ≤ 9 := by rw [hL4]; exact len_of l3 (by omega) (by omega)
  rw [← hL4] at r4
  rw [← hL4]
  have k4 := K3.out.below hb4 hz3
  have BF4 := Lib.hid (btrans BF3.out hb4)
  have HL4 := Lib.hid hL4
  have R4 := Lib.hid r4
  have hz4 := k4.lt
  clear x2
  have x3 := k4.cell 3
  have K4 := Lib.hid k4
  clear k4 hb4 hL4 r4
  go_wp2_with fail
  refine (rFlag_any A4 L4 c4 b.txn _ R4.out (by omega)).mono ?_
  rintro e w5 ⟨A5, c5, rfl, o5, hc5, hb5⟩
  obtain ⟨L5, hL5⟩ : ∃ L, L = L4 ++ encY b.txn := ⟨_, rfl⟩
  have l5 : L5.length ≤ 10 := by rw [hL5, List.length_append]; have : (encY b.txn).length = 1 := rfl; omega
  rw [← hL5] at o5
  rw [← hL5]
  have k5 := K4.out.below hb5 hz4
  have BF5 := Lib.hid (btrans BF4.out hb5)
  have HL5 := Lib.hid hL5
  have R5 := Lib.hid (Reads.of_own o5)
  have hz5 := k5.lt
  clear x3
  have x4 := k5.cell 4
  have K5 := Lib.hid k5
  clear k5 hb5 hL5 o5
  go_wp2_with fail
  refine (rNumber_ok A5 L5 c5 b.rs.length _ R5.out (by omega) (by unfold maxNum; omega)).mono ?_
  rintro e w6 ⟨A6, c6, rfl, r6, hc6, hb6⟩
  have hpre : L5 ++ enc b.rs.length = preBt b := by rw [HL5.out, HL4.out, HL3.out, HL2.out]; rfl
  rw [hpre] at r6
  rw [hpre]
  have l6 : (preBt b).length ≤ 10 := HPL.out
  obtain ⟨LP, hLP⟩ : ∃ L, L = preBt b := ⟨_, rfl⟩
  rw [← hLP] at r6 l6
  rw [← hLP]
  have k6 := K5.out.below hb6 hz5
  have BF6 := Lib.hid (btrans BF5.out hb6)
  have HLP := Lib.hid hLP
  have R6 := Lib.hid r6
  have K6 := Lib.hid k6
  clear x4 k6 hb6 hLP r6 hpre hc2 hc3 hc4 hc5 hc6 hz hz2 hz3 hz4 hz5 l2 l3 l4 l5
  go_wp2_with fail
  go_loopw [4, 6] (fun v x wr => ∃ (k : Nat) (A : Option Addr) (c : Nat) (L : List UInt8), k ≤ b.rs.length ∧ x = .int .i64 k ∧ L = LP ++ (b.rs.take k).flatMap cRec.e ∧ v = .slice A L.length c ∧ Reads wr wr.heap.size 1 A L.length (cellsB L) ∧ Below w.heap.size w wr ∧ Blk wr w.heap.size 25 #[.int .i64 b.pid, .int .i64 b.ep, .int .i64 b.seq, .bool b.txn, .slice A1 b.rs.length c1]) (fun _ x _ => b.rs.length - (intOf x).toNat)
  case atStart => exact ⟨0, A6, c6, LP, Nat.zero_le _, rfl, by simp, rfl, R6.out, BF6.out, K6.out⟩
  case round =>
    obtain ⟨k, A, c, L, hk, rfl, hLL, rfl, hrd, hbel, hblk⟩ := hrel
    have RD := Lib.hid hrd
    have BEL := Lib.hid hbel
    have KB := Lib.hid hblk
    have x4 := hblk.cell 4
    have hz := hblk.lt
    have hfl := flat_len b.rs k HREC.out q6
    have hll : L.length ≤ 146 := by rw [hLL, List.length_append]; omega
    have HLL := Lib.hid hLL
    clear hrd hbel hfl hblk hLL
    by_cases hlt2 : k < b.rs.length
    · have d1 : decide ((k : Int) < (b.rs.length : Int)) = true := by simp; omega
      have HRW := Lib.hid (HR.out.below BEL.out)
      obtain ⟨b1, o1, rfl, hbl1, hc1⟩ := HRW.out.plain2 (by omega)
      obtain ⟨r, hx⟩ : ∃ z, b.rs[k]? = some z := ⟨_, List.getElem?_eq_getElem hlt2⟩
      obtain ⟨g1, g2⟩ := hc1 k _ hx
      have HT := Lib.hid (take_flat b.rs k r hx)
      obtain ⟨hr1, hr2⟩ := HREC.out r (List.mem_of_getElem? hx)
      have G2 := Lib.hid g2
      have X4 := Lib.hid x4
      clear hc1 hx
      go_wp2_with fail
      refine (rText_ok A L c r.1 _ RD.out (by omega) (by omega)).mono ?_
      rintro e w8 ⟨A8, c8, rfl, o8, hc8, hb8⟩
      have l8 : (L ++ (cTxt 1024).e (lb r.1)).length ≤ 163 := by rw [List.length_append]; have := (encT_len r.1 hr1).1; omega
      obtain ⟨L8, hL8⟩ : ∃ L', L' = L ++ (cTxt 1024).e (lb r.1) := ⟨_, rfl⟩
      rw [← hL8] at o8 l8
      rw [← hL8]
      have HL8 := Lib.hid hL8
      have R8 := Lib.hid (Reads.of_own o8)
      have k8 := KB.out.below hb8 hz
      have K8 := Lib.hid k8
      have BF8 := Lib.hid (btrans BEL.out hb8)
      have hb1 : b1 < wr.heap.size := by have := BEL.out.size; omega
      have y2 := (hb8.cell (p := ⟨b1, o1 + k * 2 + 1, none⟩) hb1).trans G2.out
      have y4 := k8.cell 4
      have hz8 := k8.lt
      clear o8 k8 hb8 hL8 g1 g2 x4
      go_wp2_with fail
      refine (rText_ok A8 L8 c8 r.2 _ R8.out (by omega) (by omega)).mono ?_
      rintro e w9 ⟨A9, c9, rfl, o9, hc9, hb9⟩
      have hfin : L8 ++ (cTxt 1024).e (lb r.2) = LP ++ (b.rs.take (k + 1)).flatMap cRec.e := by
        rw [HL8.out, HT.out, HLL.out, List.append_assoc, List.append_assoc, cRec_e]
      obtain ⟨L9, hL9⟩ : ∃ L', L' = L8 ++ (cTxt 1024).e (lb r.2) := ⟨_, rfl⟩
      rw [← hL9] at o9 hfin
      rw [← hL9]
      have HFIN := Lib.hid hfin
      have O9 := Lib.hid (Reads.of_own o9)
      have K9 := Lib.hid (K8.out.below hb9 hz8)
      have BF9 := Lib.hid (btrans BF8.out hb9)
      clear o9 hb9 hfin hL9 y2 y4
      go_wp2_with fail
      go_roundw
      case rel => exact ⟨k + 1, A9, c9, L9, by omega, by go_num, HFIN.out, rfl, O9.out, BF9.out, K9.out⟩
      case measure => simp [intOf]; omega
    · have d1 : decide ((k : Int) < (b.rs.length : Int)) = false := by simp; omega
      have hfin : L = encBt b := by
        rw [HLL.out, List.take_of_length_le (by omega), HLP.out]; exact HPA.out
      have HFIN := Lib.hid hfin
      clear hfin
      have hcv := run_string_of (P := Tryz.prog) (c := c) Tryz.underlying30 Tryz.underlying5 Tryz.underlying9 RD.out
      go_wp2_with fail
      go_ret2
      exact ⟨by rw [← HFIN.out]; rfl, BEL.out⟩

set_option maxHeartbeats 1000000 in
theorem rRcBytes_no (b : Bat) (A1 : Option Addr) (c1 : Nat) (w : World) (hr : Reads w w.heap.size 2 A1 b.rs.length (cellsR b.rs)) (hm : mayBt b = false) :
    Calls Tryz.prog 20 #[(.agg #[.int .i64 b.pid, .int .i64 b.ep, .int .i64 b.seq, .bool b.txn, .slice A1 b.rs.length c1])] w fun e w' => e = .returned (.tuple #[.string ByteArray.empty, .int .i64 2]) ∧ Below w.heap.size w w' := by
  have hmay := rRcMay_any b A1 c1 (w.alloc (.cells #[.int .i64 b.pid, .int .i64 b.ep, .int .i64 b.seq, .bool b.txn, .slice A1 b.rs.length c1] 25)) ((hr.alloc (Nat.le_refl _) _).more (by simp))
  rw [hm] at hmay
  have HMAY := Lib.hid hmay
  have HB := Lib.hid ((Below.refl w.heap.size w).alloc (Nat.le_refl _) (.cells #[.int .i64 b.pid, .int .i64 b.ep, .int .i64 b.seq, .bool b.txn, .slice A1 b.rs.length c1] 25))
  clear hr hmay hm
  go_enter Tryz.func20, Tryz.ntmps20
  go_wp2_with fail
  refine HMAY.out.mono ?_
  rintro e w1 ⟨rfl, hb1⟩
  go_wp2_with fail
  go_ret2
  exact ⟨rfl, btrans HB.out hb1⟩
end Go.Proofs.YtcockikekgmfkaaGreatDoor
