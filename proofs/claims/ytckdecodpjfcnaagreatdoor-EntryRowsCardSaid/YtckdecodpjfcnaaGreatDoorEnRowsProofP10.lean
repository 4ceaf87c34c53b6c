/-
  Layer 7: how a producer's state is written.
  Layer 6, the document's Bytes.
  The statement RecordTells: its walk.
  Layer 7: the entry's writer.
  Layer 7: how the fields of a kind are written.
  Layer 7: how data, copies and states are written.
-/
import Derived.Test.YtckdecodpjfcnaaGreatDoorEnRowsProofP09
import Derived.Deep.RegionLaw
import Derived.Deep.LoopGhost
import Derived.Deep.DeepCutAuto
import Derived.Deep.CutBlock
set_option linter.unusedVariables false
set_option linter.unusedSimpArgs false
namespace Go.Proofs.YtckdecodpjfcnaaGreatDoor
open Go.RowKit

theorem rNumber_int (A : Option Addr) (l : List UInt8) (c : Nat) (n : Int) (w : World) (hr : Reads w w.heap.size 1 A l.length (cellsB l)) (hl : l.length ≤ 90000) (h0 : 0 ≤ n) (hn : n ≤ 1048576) :
    Calls Tryz.prog 68 #[.slice A l.length c, .int .i64 n] w (BytesPost (l ++ enc n.toNat) 0 w) := by
  obtain ⟨k, rfl⟩ := Int.eq_ofNat_of_zero_le h0
  exact rNumber_ok A l c k w hr hl (by unfold maxNum; omega)

set_option maxRecDepth 100000 in
set_option maxHeartbeats 2000000 in
theorem rRcBytes_ok (b : Bat) (A1 : Option Addr) (c1 : Nat) (w : World) (hr : Reads w w.heap.size 2 A1 b.rs.length (cellsR b.rs)) (hm : mayBt b = true) :
    Calls Tryz.prog 31 #[(.agg #[.int .i64 b.pid, .int .i64 b.ep, .int .i64 b.seq, .bool b.txn, .slice A1 b.rs.length c1])] w fun e w' => e = .returned (.tuple #[.string (bs (encBt b)), .int .i64 0]) ∧ Below w.heap.size w w' := by
  obtain ⟨hh, hrec⟩ := (mayBt_iff b).1 hm
  obtain ⟨q1, q2, q3, q4, q5, q6, q7, q8⟩ := hh
  have hmay := rRcMay_any b A1 c1 (w.alloc (.cells #[.int .i64 b.pid, .int .i64 b.ep, .int .i64 b.seq, .bool b.txn, .slice A1 b.rs.length c1] 25)) ((hr.alloc (Nat.le_refl _) _).more (by simp))
  rw [hm] at hmay
  have HMAY := Lib.hid hmay
  have HPL := Lib.hid (preBt_len b hm)
  have HPA := Lib.hid (preBt_all b)
  have HREC := Lib.hid hrec
  have HR := Lib.hid hr
  have HK := Lib.hid (Blk.new w 25 #[.int .i64 b.pid, .int .i64 b.ep, .int .i64 b.seq, .bool b.txn, .slice A1 b.rs.length c1])
  have HB := Lib.hid ((Below.refl w.heap.size w).alloc (Nat.le_refl _) (.cells #[.int .i64 b.pid, .int .i64 b.ep, .int .i64 b.seq, .bool b.txn, .slice A1 b.rs.length c1] 25))
  clear hr hmay hrec
  go_enter Tryz.func31, Tryz.ntmps31
  go_wp2_with fail
  refine HMAY.out.mono ?_
  rintro e w1 ⟨rfl, hb1⟩
  have k1 := HK.out.below hb1 (by simp)
  have BF1 := Lib.hid (btrans HB.out hb1)
  have hz := k1.lt
  have x0 := k1.cell 0
  have K1 := Lib.hid k1
  clear k1 hb1
  go_wp2_with fail
  refine (rNumber_int none [] 0 b.pid _ Reads.none_ (by simp) (by omega) (by omega)).mono ?_
  rw [List.nil_append]
  rintro e w2 ⟨A2, c2, rfl, r2, hc2, hb2⟩
  obtain ⟨L2, hL2⟩ : ∃ L, L = enc b.pid.toNat := ⟨_, rfl⟩
  have l2 : L2.length ≤ 3 := by rw [hL2]; exact enc_len3 b.pid.toNat (by omega)
  rw [← hL2] at r2
  rw [← hL2]
  have k2 := K1.out.below hb2 hz
  have BF2 := Lib.hid (btrans BF1.out hb2)
  have HL2 := Lib.hid hL2
  have R2 := Lib.hid r2
  have hz2 := k2.lt
  clear x0
  have x1 := k2.cell 1
  have K2 := Lib.hid k2
  clear k2 hb2 hL2 r2
  go_wp2_with fail
  refine (rNumber_int A2 L2 c2 b.ep _ R2.out (by omega) (by omega) (by omega)).mono ?_
  rintro e w3 ⟨A3, c3, rfl, r3, hc3, hb3⟩
  obtain ⟨L3, hL3⟩ : ∃ L, L = L2 ++ enc b.ep.toNat := ⟨_, rfl⟩
  have l3 : L3.length ≤ 6 := by rw [hL3]; exact len_of l2 (by omega) (by omega)
  rw [← hL3] at r3
  rw [← hL3]
  have k3 := K2.out.below hb3 hz2
  have BF3 := Lib.hid (btrans BF2.out hb3)
  have HL3 := Lib.hid hL3
  have R3 := Lib.hid r3
  have hz3 := k3.lt
  clear x1
  have x2 := k3.cell 2
  have K3 := Lib.hid k3
  clear k3 hb3 hL3 r3
  go_wp2_with fail
  refine (rNumber_int A3 L3 c3 b.seq _ R3.out (by omega) (by omega) (by omega)).mono ?_
  rintro e w4 ⟨A4, c4, rfl, r4, hc4, hb4⟩
  obtain ⟨L4, hL4⟩ : ∃ L, L = L3 ++ enc b.seq.toNat := ⟨_, rfl⟩
  have l4 : L4.length ≤ 9 := by rw [hL4]; exact len_of l3 (by omega) (by omega)
  rw [← hL4] at r4
  rw [← hL4]
  have k4 := K3.out.below hb4 hz3
  have BF4 := Lib.hid (btrans BF3.out hb4)
  have HL4 := Lib.hid hL4
  have R4 := Lib.hid r4
  have hz4 := k4.lt
  clear x2
  have x3 := k4.cell 3
  have K4 := Lib.hid k4
  clear k4 hb4 hL4 r4
  go_wp2_with fail
  refine (rFlag_any A4 L4 c4 b.txn _ R4.out (by omega)).mono ?_
  rintro e w5 ⟨A5, c5, rfl, o5, hc5, hb5⟩
  obtain ⟨L5, hL5⟩ : ∃ L, L = L4 ++ encY b.txn := ⟨_, rfl⟩
  have l5 : L5.length ≤ 10 := by rw [hL5, List.length_append]; have : (encY b.txn).length = 1 := rfl; omega
  rw [← hL5] at o5
  rw [← hL5]
  have k5 := K4.out.below hb5 hz4
  have BF5 := Lib.hid (btrans BF4.out hb5)
  have HL5 := Lib.hid hL5
  have R5 := Lib.hid (Reads.of_own o5)
  have hz5 := k5.lt
  clear x3
  have x4 := k5.cell 4
  have K5 := Lib.hid k5
  clear k5 hb5 hL5 o5
  go_wp2_with fail
  refine (rNumber_ok A5 L5 c5 b.rs.length _ R5.out (by omega) (by unfold maxNum; omega)).mono ?_
  rintro e w6 ⟨A6, c6, rfl, r6, hc6, hb6⟩
  have hpre : L5 ++ enc b.rs.length = preBt b := by rw [HL5.out, HL4.out, HL3.out, HL2.out]; rfl
  rw [hpre] at r6
  rw [hpre]
  have l6 : (preBt b).length ≤ 10 := HPL.out
  obtain ⟨LP, hLP⟩ : ∃ L, L = preBt b := ⟨_, rfl⟩
  rw [← hLP] at r6 l6
  rw [← hLP]
  have k6 := K5.out.below hb6 hz5
  have BF6 := Lib.hid (btrans BF5.out hb6)
  have HLP := Lib.hid hLP
  have R6 := Lib.hid r6
  have K6 := Lib.hid k6
  clear x4 k6 hb6 hLP r6 hpre hc2 hc3 hc4 hc5 hc6 hz hz2 hz3 hz4 hz5 l2 l3 l4 l5
  go_wp2_with fail
  go_loopw [4, 6] (fun v x wr => ∃ (k : Nat) (A : Option Addr) (c : Nat) (L : List UInt8), k ≤ b.rs.length ∧ x = .int .i64 k ∧ L = LP ++ (b.rs.take k).flatMap cRec.e ∧ v = .slice A L.length c ∧ Reads wr wr.heap.size 1 A L.length (cellsB L) ∧ Below w.heap.size w wr ∧ Blk wr w.heap.size 25 #[.int .i64 b.pid, .int .i64 b.ep, .int .i64 b.seq, .bool b.txn, .slice A1 b.rs.length c1]) (fun _ x _ => b.rs.length - (intOf x).toNat)
  case atStart => exact ⟨0, A6, c6, LP, Nat.zero_le _, rfl, by simp, rfl, R6.out, BF6.out, K6.out⟩
  case round =>
    obtain ⟨k, A, c, L, hk, rfl, hLL, rfl, hrd, hbel, hblk⟩ := hrel
    have RD := Lib.hid hrd
    have BEL := Lib.hid hbel
    have KB := Lib.hid hblk
    have x4 := hblk.cell 4
    have hz := hblk.lt
    have hfl := flat_len b.rs k HREC.out q6
    have hll : L.length ≤ 146 := by rw [hLL, List.length_append]; omega
    have HLL := Lib.hid hLL
    clear hrd hbel hfl hblk hLL
    by_cases hlt2 : k < b.rs.length
    · have d1 : decide ((k : Int) < (b.rs.length : Int)) = true := by simp; omega
      have HRW := Lib.hid (HR.out.below BEL.out)
      obtain ⟨b1, o1, rfl, hbl1, hc1⟩ := HRW.out.plain2 (by omega)
      obtain ⟨r, hx⟩ : ∃ z, b.rs[k]? = some z := ⟨_, List.getElem?_eq_getElem hlt2⟩
      obtain ⟨g1, g2⟩ := hc1 k _ hx
      have HT := Lib.hid (take_flat b.rs k r hx)
      obtain ⟨hr1, hr2⟩ := HREC.out r (List.mem_of_getElem? hx)
      have G2 := Lib.hid g2
      have X4 := Lib.hid x4
      clear hc1 hx
      go_wp2_with fail
      refine (rText_ok A L c r.1 _ RD.out (by omega) (by omega)).mono ?_
      rintro e w8 ⟨A8, c8, rfl, o8, hc8, hb8⟩
      have l8 : (L ++ (cTxt 1024).e (lb r.1)).length ≤ 163 := by rw [List.length_append]; have := (encT_len r.1 hr1).1; omega
      obtain ⟨L8, hL8⟩ : ∃ L', L' = L ++ (cTxt 1024).e (lb r.1) := ⟨_, rfl⟩
      rw [← hL8] at o8 l8
      rw [← hL8]
      have HL8 := Lib.hid hL8
      have R8 := Lib.hid (Reads.of_own o8)
      have k8 := KB.out.below hb8 hz
      have K8 := Lib.hid k8
      have BF8 := Lib.hid (btrans BEL.out hb8)
      have hb1 : b1 < wr.heap.size := by have := BEL.out.size; omega
      have y2 := (hb8.cell (p := ⟨b1, o1 + k * 2 + 1, none⟩) hb1).trans G2.out
      have y4 := k8.cell 4
      have hz8 := k8.lt
      clear o8 k8 hb8 hL8 g1 g2 x4
      go_wp2_with fail
      refine (rText_ok A8 L8 c8 r.2 _ R8.out (by omega) (by omega)).mono ?_
      rintro e w9 ⟨A9, c9, rfl, o9, hc9, hb9⟩
      have hfin : L8 ++ (cTxt 1024).e (lb r.2) = LP ++ (b.rs.take (k + 1)).flatMap cRec.e := by
        rw [HL8.out, HT.out, HLL.out, List.append_assoc, List.append_assoc, cRec_e]
      obtain ⟨L9, hL9⟩ : ∃ L', L' = L8 ++ (cTxt 1024).e (lb r.2) := ⟨_, rfl⟩
      rw [← hL9] at o9 hfin
      rw [← hL9]
      have HFIN := Lib.hid hfin
      have O9 := Lib.hid (Reads.of_own o9)
      have K9 := Lib.hid (K8.out.below hb9 hz8)
      have BF9 := Lib.hid (btrans BF8.out hb9)
      clear o9 hb9 hfin hL9 y2 y4
      go_wp2_with fail
      go_roundw
      case rel => exact ⟨k + 1, A9, c9, L9, by omega, by go_num, HFIN.out, rfl, O9.out, BF9.out, K9.out⟩
      case measure => simp [intOf]; omega
    · have d1 : decide ((k : Int) < (b.rs.length : Int)) = false := by simp; omega
      have hfin : L = encBt b := by
        rw [HLL.out, List.take_of_length_le (by omega), HLP.out]; exact HPA.out
      have HFIN := Lib.hid hfin
      clear hfin
      have hcv := run_string_of (P := Tryz.prog) (c := c) Tryz.underlying46 Tryz.underlying5 Tryz.underlying9 RD.out
      go_wp2_with fail
      go_ret2
      exact ⟨by rw [← HFIN.out]; rfl, BEL.out⟩

end Go.Proofs.YtckdecodpjfcnaaGreatDoor
namespace Go.Proofs.YtckdecodpjfcnaaGreatDoor
open Go.RowKit

/-- What a batch's bytes are, or that it has none. -/
def bytesBt (b : Bat) : ByteArray × Int := if mayBt b = true then (bs (encBt b), 0) else (ByteArray.empty, 2)
theorem RcBytes_any (b : Bat) (A1 : Option Addr) (c1 : Nat) (w : World) (hr : Reads w w.heap.size 2 A1 b.rs.length (cellsR b.rs)) (hg : HasET w) :
    Calls Tryz.prog 88 #[(.agg #[.int .i64 b.pid, .int .i64 b.ep, .int .i64 b.seq, .bool b.txn, .slice A1 b.rs.length c1])] w fun e w' => e = .returned (.tuple #[.string (bytesBt b).1, .int .i64 (bytesBt b).2]) ∧ Below w.heap.size w w' := by
  unfold bytesBt
  cases hm : mayBt b
  · exact RcBytes_no b A1 c1 w hr hg hm
  · exact RcBytes_ok b A1 c1 w hr hm
/-- A batch's records in memory, however many. -/
def BtRaw (w : World) (b : Bat) (A : Option Addr) : Prop :=
  Reads w w.heap.size 2 A b.rs.length (cellsR b.rs) ∧ b.rs.length ≤ 9223372036854775807 ∧ ∀ r ∈ b.rs, r.1.size ≤ 9223372036854775807 ∧ r.2.size ≤ 9223372036854775807

end Go.Proofs.YtckdecodpjfcnaaGreatDoor
namespace Go.Proofs.YtckdecodpjfcnaaGreatDoor
open Go.RowKit
attribute [local go_sem ↓] Go.wp_at_zero Go.wp_at_succ
/-- The writer: what is written; no error; blocks that stay as they are. -/
def WeSt (g K : Nat) (F : Nat → Prop) (l : List UInt8) (W : World) : Prop :=
  ∃ A c, Blk W g 63 #[.slice A l.length c, .int .i64 0] ∧ W.ownsRow K 5 1 (.slice A l.length c) l.length (cellsB l) ∧ K ≤ W.heap.size ∧ (∀ x, (Value.slice A l.length c).ownBlock = some x → ¬ F x) ∧ ¬ F g ∧ (∀ x, F x → x < W.heap.size)
section
variable {g K : Nat} {F F' : Nat → Prop} {l : List UInt8} {w w' : World}
theorem WeSt.below (h : WeSt g K F l w) (hb : Below w.heap.size w w') : WeSt g K F l w' := by
  obtain ⟨A, c, h1, h2, h3, h5, h6, h7⟩ := h
  exact ⟨A, c, h1.below hb h1.lt, own_below h2 hb, Nat.le_trans h3 hb.size, h5, h6, fun x hx => Nat.lt_of_lt_of_le (h7 x hx) hb.size⟩
theorem WeSt.lt (h : WeSt g K F l w) : g < w.heap.size := by
  obtain ⟨A, c, h1, _⟩ := h
  exact h1.lt
/-- A new block stays too. -/
theorem WeSt.add (h : WeSt g K F l w) (o : Obj) : WeSt g K (fun x => F x ∨ x = w.heap.size) l (w.alloc o) := by
  obtain ⟨A, c, h1, h2, h3, h5, h6, h7⟩ := h
  refine ⟨A, c, h1.alloc o, h2.alloc o, by simp; omega, ?_, ?_, ?_⟩
  · rintro x hx (hf | rfl)
    · exact h5 x hx hf
    · exact absurd (h2.lt _ hx).2 (Nat.lt_irrefl _)
  · rintro (hf | rfl)
    · exact h6 hf
    · exact absurd h1.lt (Nat.lt_irrefl _)
  · rintro x (hf | rfl)
    · have := h7 x hf; simp; omega
    · simp
theorem WeSt.sub (h : WeSt g K F l w) (hF : ∀ x, F' x → F x) : WeSt g K F' l w := by
  obtain ⟨A, c, h1, h2, h3, h5, h6, h7⟩ := h
  exact ⟨A, c, h1, h2, h3, fun x hx hf => h5 x hx (hF x hf), fun hf => h6 (hF g hf), fun x hf => h7 x (hF x hf)⟩
end
def WeOk (g K : Nat) (F : Nat → Prop) (l : List UInt8) (w : World) (e : Ending) (w' : World) : Prop := e = .returned (.tuple #[]) ∧ WeSt g K F l w' ∧ Only (fun x => ¬ F x) w w'
theorem WeOk.alloc {g K : Nat} {F : Nat → Prop} {l : List UInt8} {w w' : World} {e : Ending} {o : Obj} (h : WeOk g K (fun x => F x ∨ x = w.heap.size) l (w.alloc o) e w') : WeOk g K F l w e w' :=
  ⟨h.1, h.2.1.sub (fun x hx => .inl hx), ((Only.refl (fun x => ¬ F x) w).alloc o).step h.2.2 (fun x _ hs hf => hs (.inl hf))⟩
theorem WeOk.trans {g K : Nat} {F : Nat → Prop} {l l' : List UInt8} {w w1 w2 : World} {e e' : Ending} (h : WeOk g K F l w e w1) (k : WeOk g K F l' w1 e' w2) : WeOk g K F l' w e' w2 :=
  ⟨k.1, k.2.1, h.2.2.trans k.2.2⟩
theorem enc_len3x (n : Nat) (h : n < 2097152) : (enc n).length ≤ 3 := by
  have h1 : enc n = encF 2 n := encF_more 2 8 n (by have : (128 : Nat) ^ (2 + 1) = 2097152 := by decide
                                                    rw [this]; omega) (by omega)
  rw [h1]; exact (encF_len 2 n).2
/-- What a call that hands back new bytes leaves, stored into the writer. -/
theorem WeSt.put {g K : Nat} {F : Nat → Prop} {l L : List UInt8} {w w1 : World} {A1 : Option Addr} {c1 : Nat} (h : WeSt g K F l w) (o1 : w1.ownsRow w.heap.size 5 1 (.slice A1 L.length c1) L.length (cellsB L)) (b1 : Below w.heap.size w w1) :
    WeSt g K F L ((w1.setCell ⟨g, 0, none⟩ (.slice A1 L.length c1)).setCell ⟨g, 1, none⟩ (.int .i64 0)) ∧ Only (fun x => ¬ F x) w ((w1.setCell ⟨g, 0, none⟩ (.slice A1 L.length c1)).setCell ⟨g, 1, none⟩ (.int .i64 0)) := by
  obtain ⟨A, c, h1, h2, h3, h5, h6, h7⟩ := h
  have oo : Only (fun x => ¬ F x) w ((w1.setCell ⟨g, 0, none⟩ (.slice A1 L.length c1)).setCell ⟨g, 1, none⟩ (.int .i64 0)) := (((Only.of_below _ b1).set (.inl h6) _).set (.inl h6) _)
  have hs := oo.size
  refine ⟨⟨A1, c1, ((h1.below b1 h1.lt).set_ 0 _).set_ 1 _, own_base (own_set (own_set o1 h1.lt _) h1.lt _) h3, by omega, fun x hx hf => ?_, h6, fun x hx => by have := h7 x hx; omega⟩, oo⟩
  have := (o1.lt x hx).1
  have := h7 x hf
  omega
theorem WeSt.put1 {g K : Nat} {F : Nat → Prop} {l L : List UInt8} {w w1 : World} {A1 : Option Addr} {c1 : Nat} (h : WeSt g K F l w) (o1 : w1.ownsRow w.heap.size 5 1 (.slice A1 L.length c1) L.length (cellsB L)) (b1 : Below w.heap.size w w1) :
    WeSt g K F L (w1.setCell ⟨g, 0, none⟩ (.slice A1 L.length c1)) ∧ Only (fun x => ¬ F x) w (w1.setCell ⟨g, 0, none⟩ (.slice A1 L.length c1)) := by
  obtain ⟨A, c, h1, h2, h3, h5, h6, h7⟩ := h
  have oo : Only (fun x => ¬ F x) w (w1.setCell ⟨g, 0, none⟩ (.slice A1 L.length c1)) := (Only.of_below _ b1).set (.inl h6) _
  have hs := oo.size
  refine ⟨⟨A1, c1, (h1.below b1 h1.lt).set_ 0 _, own_base (own_set o1 h1.lt _) h3, by omega, fun x hx hf => ?_, h6, fun x hx => by have := h7 x hx; omega⟩, oo⟩
  have := (o1.lt x hx).1
  have := h7 x hf
  omega

set_option maxRecDepth 100000 in
set_option maxHeartbeats 2000000 in
theorem wenums_any (g K : Nat) (F : Nat → Prop) (l : List UInt8) (b : Nat) (ns : List Int) (c : Nat) (w : World) (h : WeSt g K F l w) (hb : F b) (hc : ∀ j z, ns[j]? = some z → w.cell? ⟨b, j, none⟩ = some (.int .i64 z)) (hn : ∀ z ∈ ns, 0 ≤ z ∧ z ≤ 1048577) (hl : l.length + 3 * ns.length ≤ 20000) :
    Calls Tryz.prog 89 #[.pointer (some ⟨g, 0, none⟩), .slice (some ⟨b, 0, none⟩) ns.length c] w (WeOk g K F (l ++ ns.flatMap fun z => enc z.toNat) w) := by
  have HC := Lib.hid hc
  have HN := Lib.hid hn
  have HB := Lib.hid hb
  have HH := Lib.hid h
  have hlen : ∀ k, (l ++ (ns.take k).flatMap fun z => enc z.toNat).length ≤ l.length + 3 * ns.length := fun k => by
    rw [List.length_append]
    have : ∀ (m : List Int), (∀ z ∈ m, 0 ≤ z ∧ z ≤ 1048577) → (m.flatMap fun z => enc z.toNat).length ≤ 3 * m.length := by
      intro m
      induction m with
      | nil => intro _; exact Nat.le_refl _
      | cons z m ih =>
        intro hm
        rw [List.flatMap_cons, List.length_append, List.length_cons]
        have h1 := enc_len3x z.toNat (by have := hm z (List.mem_cons_self ..); omega)
        have h2 := ih fun y hy => hm y (List.mem_cons_of_mem _ hy)
        omega
    have := this (ns.take k) (fun z hz => hn z (List.mem_of_mem_take hz))
    have h2 : (ns.take k).length ≤ ns.length := by rw [List.length_take]; omega
    omega
  have HLEN := Lib.hid hlen
  clear h hc hn hb hlen
  go_enter Tryz.func89, Tryz.ntmps89
  go_wp2_with fail
  go_loopw [8] (fun x wr => ∃ k : Nat, k ≤ ns.length ∧ x = .int .i64 k ∧ WeSt g K F (l ++ (ns.take k).flatMap fun z => enc z.toNat) wr ∧ Only (fun x => ¬ F x) w wr) (fun x _ => ns.length - (intOf x).toNat)
  case atStart => exact ⟨0, Nat.zero_le _, rfl, by simpa using HH.out, Only.refl _ _⟩
  case round =>
    obtain ⟨k, hk, rfl, hst, hon⟩ := hrel
    have HST := Lib.hid hst
    have HON := Lib.hid hon
    by_cases hlt : k < ns.length
    · have d1 : decide ((k : Int) < (ns.length : Int)) = true := by simp; omega
      have i1 : (0 : Int) ≤ (k : Int) := by omega
      have i2 : (k : Int) < (ns.length : Int) := by omega
      obtain ⟨z, hz⟩ : ∃ z, ns[k]? = some z := ⟨_, List.getElem?_eq_getElem hlt⟩
      have hzr := HN.out z (List.mem_of_getElem? hz)
      have hcell := HC.out k z hz
      have hblt : b < w.heap.size := by
        obtain ⟨_, _, _, _, _, _, _, h7⟩ := HH.out
        exact h7 b HB.out
      have y0 : wr.cell? ⟨b, k, none⟩ = some (.int .i64 z) := (hon.cell (p := ⟨b, k, none⟩) hblt (fun hf => hf HB.out)).trans hcell
      obtain ⟨A, cc, k1, o1, hK, _, _, _⟩ := hst
      have x0 := k1.cell 0
      have x1 := k1.cell 1
      obtain ⟨m, rfl⟩ := Int.eq_ofNat_of_zero_le hzr.1
      have hle := HLEN.out k
      have HTK := Lib.hid (show (ns.take (k + 1)).flatMap (fun z => enc z.toNat) = (ns.take k).flatMap (fun z => enc z.toNat) ++ enc m by rw [List.take_add_one, hz]; simp)
      generalize hL : l ++ (ns.take k).flatMap (fun z => enc z.toNat) = L at *
      have nm := Number_own A L cc m wr ((Reads.of_own o1).more (Nat.le_refl _)) (by omega) (by unfold maxNum; omega)
      obtain ⟨LZ, hLZ⟩ : ∃ LZ, LZ = L ++ enc m := ⟨_, rfl⟩
      rw [← hLZ] at nm
      have NM := Lib.hid nm
      have HLZ := Lib.hid hLZ
      clear nm hLZ
      have f0 := k1.frozen 0
      have HLL := Lib.hid hL
      have K1 := Lib.hid k1
      clear hcell hz hon k1 o1 hK hL hblt
      go_wp2_with (go_at_call 109; refine NM.out.mono ?_; rintro e w1 ⟨A1, c1, rfl, ow, hcc, b1⟩; have k2 := K1.out.below b1 K1.out.lt; have u0 := k2.cell 0; have u1 := k2.cell 1; have v0 := k2.frozen 0; have v1 := k2.frozen 1)
      obtain ⟨s1, s2⟩ := HST.out.put ow b1
      go_roundw
      case rel => exact ⟨k + 1, by omega, by go_num, by rw [HTK.out, ← List.append_assoc, HLL.out, ← HLZ.out]; exact s1, HON.out.trans s2⟩
      case measure => simp [intOf]; omega
    · obtain rfl : k = ns.length := by omega
      have d1 : decide ((ns.length : Int) < (ns.length : Int)) = false := by simp
      clear hst hon
      go_wp2_with fail
      go_end0
      have h1 := HST.out
      rw [List.take_length] at h1
      exact ⟨rfl, h1, HON.out⟩
set_option maxRecDepth 100000 in
set_option maxHeartbeats 2000000 in
theorem wetext_any (g K : Nat) (F : Nat → Prop) (l : List UInt8) (t : ByteArray) (w : World) (h : WeSt g K F l w) (hl : l.length ≤ 20000) (ht : t.size ≤ 16) :
    Calls Tryz.prog 91 #[.pointer (some ⟨g, 0, none⟩), .string t] w (WeOk g K F (l ++ (cTxt 1024).e (lb t)) w) := by
  have HH := Lib.hid h
  obtain ⟨A, c, k1, o1, h3, h5, h6, h7⟩ := h
  have x0 := k1.cell 0
  have x1 := k1.cell 1
  have NM := Lib.hid (Text_ok A l c t w ((Reads.of_own o1).more (Nat.le_refl _)) (by omega) (by omega))
  generalize l ++ (cTxt 1024).e (lb t) = L at *
  have K1 := Lib.hid k1
  clear k1 o1 h3 h5 h6 h7
  go_enter Tryz.func91, Tryz.ntmps91
  go_wp2_with (go_at_call 111; refine NM.out.mono ?_; rintro e w1 ⟨A1, c1, rfl, ow, hcc, b1⟩; have k2 := K1.out.below b1 K1.out.lt; have u0 := k2.cell 0; have u1 := k2.cell 1; have v0 := k2.frozen 0; have v1 := k2.frozen 1)
  go_end0
  obtain ⟨s1, s2⟩ := HH.out.put ow b1
  exact ⟨rfl, s1, s2⟩
end Go.Proofs.YtckdecodpjfcnaaGreatDoor
namespace Go.Proofs.YtckdecodpjfcnaaGreatDoor
open Go.RowKit
attribute [local go_sem ↓] Go.wp_at_zero Go.wp_at_succ

theorem ints_new (w : World) (ns : List Int) (t : TypeId) (g : Nat) (hg : w.heap.size = g) : ∀ j z, ns[j]? = some z → (w.alloc (.cells (ns.map (Value.int .i64)).toArray t)).cell? ⟨g, j, none⟩ = some (.int .i64 z) := fun j z hz => by
  rw [(blk_new w t (ns.map (Value.int .i64)).toArray hg).cell j]
  simp [hz]
theorem weflag {g K : Nat} {F : Nat → Prop} {l : List UInt8} {w : World} (y : Bool) (h : WeSt g K F l w) (hl : l.length ≤ 20000) :
    ∃ A c, w.cell? ⟨g, 0, none⟩ = some (.slice A l.length c) ∧ w.frozen? ⟨g, 0, none⟩ = false ∧ Blk w g 63 #[.slice A l.length c, .int .i64 0] ∧ Calls Tryz.prog 90 #[.slice A l.length c, .bool y] w.drew (OwnVal (l ++ encY y) w.drew) := by
  obtain ⟨A, c, k1, o1, h3, h5, h6, h7⟩ := h
  exact ⟨A, c, k1.cell 0, k1.frozen 0, k1, Flag_any A l c y w.drew ((Reads.of_own o1.drew).more (Nat.le_refl _)) (by omega)⟩
set_option maxRecDepth 100000 in
set_option maxHeartbeats 2000000 in
theorem wecut_any (g K : Nat) (F : Nat → Prop) (l : List UInt8) (x : En) (A1 D1 : Option Addr) (c1 e1 : Nat) (w : World) (h : WeSt g K F l w) (hl : l.length ≤ 1000) (hr : 0 ≤ x.off ∧ x.off ≤ 1048576) :
    Calls Tryz.prog 63 #[.pointer (some ⟨g, 0, none⟩), (.agg #[.int .i8 x.kd, .int .i64 x.b.pid, .int .i64 x.b.ep, .int .i64 x.b.seq, .bool x.b.txn, .slice A1 x.b.rs.length c1, .bool x.yes, .int .i64 x.nx, .int .i64 x.off, .int .i64 x.row.1, .int .i64 x.row.2.1, .int .i64 x.row.2.2.1, .string x.row.2.2.2.1, .string x.row.2.2.2.2, .int .i64 x.prod.pid, .int .i64 x.prod.ep, .int .i64 x.prod.nx, .slice D1 x.prod.seen.length e1])] w (WeOk g K F (l ++ enc x.off.toNat) w) := by
  have NM := Lib.hid (wenums_any g K _ l (w.heap.size + 1) [x.off] 1 _ ((h.add (.cells #[.int .i8 x.kd, .int .i64 x.b.pid, .int .i64 x.b.ep, .int .i64 x.b.seq, .bool x.b.txn, .slice A1 x.b.rs.length c1, .bool x.yes, .int .i64 x.nx, .int .i64 x.off, .int .i64 x.row.1, .int .i64 x.row.2.1, .int .i64 x.row.2.2.1, .string x.row.2.2.2.1, .string x.row.2.2.2.2, .int .i64 x.prod.pid, .int .i64 x.prod.ep, .int .i64 x.prod.nx, .slice D1 x.prod.seen.length e1] 32)).add (.cells #[.int .i64 x.off] 3)) (.inr (by simp)) (ints_new (w.alloc (.cells #[.int .i8 x.kd, .int .i64 x.b.pid, .int .i64 x.b.ep, .int .i64 x.b.seq, .bool x.b.txn, .slice A1 x.b.rs.length c1, .bool x.yes, .int .i64 x.nx, .int .i64 x.off, .int .i64 x.row.1, .int .i64 x.row.2.1, .int .i64 x.row.2.2.1, .string x.row.2.2.2.1, .string x.row.2.2.2.2, .int .i64 x.prod.pid, .int .i64 x.prod.ep, .int .i64 x.prod.nx, .slice D1 x.prod.seen.length e1] 32)) [x.off] 3 _ (by simp)) (by simp only [List.mem_cons, List.not_mem_nil, or_false]; rintro z hz; omega) (by simp; omega))
  clear h hr
  go_enter Tryz.func63, Tryz.ntmps63
  go_wp2_with fail
  refine NM.out.mono ?_
  rintro e w1 h1
  have H1 := Lib.hid h1
  obtain ⟨rfl, _⟩ := h1
  go_wp2_with fail
  go_end0
  have h2 := H1.out.alloc.alloc
  simpa using h2
set_option maxRecDepth 100000 in
set_option maxHeartbeats 2000000 in
theorem wedrop_any (g K : Nat) (F : Nat → Prop) (l : List UInt8) (x : En) (A1 D1 : Option Addr) (c1 e1 : Nat) (w : World) (h : WeSt g K F l w) (hl : l.length ≤ 1000) (h1 : 0 ≤ x.b.pid ∧ x.b.pid ≤ 8) (h2 : 0 ≤ x.b.ep ∧ x.b.ep ≤ 100) (h3 : 0 ≤ x.nx ∧ x.nx ≤ 1048576) :
    Calls Tryz.prog 65 #[.pointer (some ⟨g, 0, none⟩), (.agg #[.int .i8 x.kd, .int .i64 x.b.pid, .int .i64 x.b.ep, .int .i64 x.b.seq, .bool x.b.txn, .slice A1 x.b.rs.length c1, .bool x.yes, .int .i64 x.nx, .int .i64 x.off, .int .i64 x.row.1, .int .i64 x.row.2.1, .int .i64 x.row.2.2.1, .string x.row.2.2.2.1, .string x.row.2.2.2.2, .int .i64 x.prod.pid, .int .i64 x.prod.ep, .int .i64 x.prod.nx, .slice D1 x.prod.seen.length e1])] w (WeOk g K F (l ++ (enc x.b.pid.toNat ++ (enc x.b.ep.toNat ++ enc x.nx.toNat))) w) := by
  have NM := Lib.hid (wenums_any g K _ l (w.heap.size + 1) [x.b.pid, x.b.ep, x.nx] 3 _ ((h.add (.cells #[.int .i8 x.kd, .int .i64 x.b.pid, .int .i64 x.b.ep, .int .i64 x.b.seq, .bool x.b.txn, .slice A1 x.b.rs.length c1, .bool x.yes, .int .i64 x.nx, .int .i64 x.off, .int .i64 x.row.1, .int .i64 x.row.2.1, .int .i64 x.row.2.2.1, .string x.row.2.2.2.1, .string x.row.2.2.2.2, .int .i64 x.prod.pid, .int .i64 x.prod.ep, .int .i64 x.prod.nx, .slice D1 x.prod.seen.length e1] 32)).add (.cells #[.int .i64 x.b.pid, .int .i64 x.b.ep, .int .i64 x.nx] 3)) (.inr (by simp)) (ints_new (w.alloc (.cells #[.int .i8 x.kd, .int .i64 x.b.pid, .int .i64 x.b.ep, .int .i64 x.b.seq, .bool x.b.txn, .slice A1 x.b.rs.length c1, .bool x.yes, .int .i64 x.nx, .int .i64 x.off, .int .i64 x.row.1, .int .i64 x.row.2.1, .int .i64 x.row.2.2.1, .string x.row.2.2.2.1, .string x.row.2.2.2.2, .int .i64 x.prod.pid, .int .i64 x.prod.ep, .int .i64 x.prod.nx, .slice D1 x.prod.seen.length e1] 32)) [x.b.pid, x.b.ep, x.nx] 3 _ (by simp)) (by simp only [List.mem_cons, List.not_mem_nil, or_false]; rintro z hz; omega) (by simp; omega))
  clear h h1 h2 h3
  go_enter Tryz.func65, Tryz.ntmps65
  go_wp2_with fail
  refine NM.out.mono ?_
  rintro e w1 h1
  have H1 := Lib.hid h1
  obtain ⟨rfl, _⟩ := h1
  go_wp2_with fail
  go_end0
  have h2 := H1.out.alloc.alloc
  simpa using h2
set_option maxRecDepth 100000 in
set_option maxHeartbeats 2000000 in
theorem wemark_any (g K : Nat) (F : Nat → Prop) (l : List UInt8) (x : En) (A1 D1 : Option Addr) (c1 e1 : Nat) (w : World) (h : WeSt g K F l w) (hl : l.length ≤ 1000) (h1 : 0 ≤ x.b.pid ∧ x.b.pid ≤ 8) (h2 : 0 ≤ x.b.ep ∧ x.b.ep ≤ 100) :
    Calls Tryz.prog 62 #[.pointer (some ⟨g, 0, none⟩), (.agg #[.int .i8 x.kd, .int .i64 x.b.pid, .int .i64 x.b.ep, .int .i64 x.b.seq, .bool x.b.txn, .slice A1 x.b.rs.length c1, .bool x.yes, .int .i64 x.nx, .int .i64 x.off, .int .i64 x.row.1, .int .i64 x.row.2.1, .int .i64 x.row.2.2.1, .string x.row.2.2.2.1, .string x.row.2.2.2.2, .int .i64 x.prod.pid, .int .i64 x.prod.ep, .int .i64 x.prod.nx, .slice D1 x.prod.seen.length e1])] w (WeOk g K F (l ++ (enc x.b.pid.toNat ++ (enc x.b.ep.toNat ++ encY x.yes))) w) := by
  have NM := Lib.hid (wenums_any g K _ l (w.heap.size + 1) [x.b.pid, x.b.ep] 2 _ ((h.add (.cells #[.int .i8 x.kd, .int .i64 x.b.pid, .int .i64 x.b.ep, .int .i64 x.b.seq, .bool x.b.txn, .slice A1 x.b.rs.length c1, .bool x.yes, .int .i64 x.nx, .int .i64 x.off, .int .i64 x.row.1, .int .i64 x.row.2.1, .int .i64 x.row.2.2.1, .string x.row.2.2.2.1, .string x.row.2.2.2.2, .int .i64 x.prod.pid, .int .i64 x.prod.ep, .int .i64 x.prod.nx, .slice D1 x.prod.seen.length e1] 32)).add (.cells #[.int .i64 x.b.pid, .int .i64 x.b.ep] 3)) (.inr (by simp)) (ints_new (w.alloc (.cells #[.int .i8 x.kd, .int .i64 x.b.pid, .int .i64 x.b.ep, .int .i64 x.b.seq, .bool x.b.txn, .slice A1 x.b.rs.length c1, .bool x.yes, .int .i64 x.nx, .int .i64 x.off, .int .i64 x.row.1, .int .i64 x.row.2.1, .int .i64 x.row.2.2.1, .string x.row.2.2.2.1, .string x.row.2.2.2.2, .int .i64 x.prod.pid, .int .i64 x.prod.ep, .int .i64 x.prod.nx, .slice D1 x.prod.seen.length e1] 32)) [x.b.pid, x.b.ep] 3 _ (by simp)) (by simp only [List.mem_cons, List.not_mem_nil, or_false]; rintro z hz; omega) (by simp; omega))
  have KX := Lib.hid ((Blk.new w 32 #[.int .i8 x.kd, .int .i64 x.b.pid, .int .i64 x.b.ep, .int .i64 x.b.seq, .bool x.b.txn, .slice A1 x.b.rs.length c1, .bool x.yes, .int .i64 x.nx, .int .i64 x.off, .int .i64 x.row.1, .int .i64 x.row.2.1, .int .i64 x.row.2.2.1, .string x.row.2.2.2.1, .string x.row.2.2.2.2, .int .i64 x.prod.pid, .int .i64 x.prod.ep, .int .i64 x.prod.nx, .slice D1 x.prod.seen.length e1]).alloc (.cells #[.int .i64 x.b.pid, .int .i64 x.b.ep] 3))
  have hlen : (l ++ [x.b.pid, x.b.ep].flatMap fun z => enc z.toNat).length ≤ 2000 := by
    have e1 := enc_len3x x.b.pid.toNat (by omega)
    have e2 := enc_len3x x.b.ep.toNat (by omega)
    simp
    omega
  clear h h1 h2
  go_enter Tryz.func62, Tryz.ntmps62
  go_wp2_with fail
  refine NM.out.mono ?_
  rintro e w1 h1
  have H1 := Lib.hid h1
  have kx := h1.2.2.blk KX.out (fun hs => hs (.inl (.inr rfl)))
  have x6 := kx.cell 6
  obtain ⟨A, c, y0, f0, kw, FL⟩ := weflag x.yes h1.2.1 (by omega)
  have FLH := Lib.hid FL
  have KW := Lib.hid kw
  obtain ⟨rfl, _⟩ := h1
  obtain ⟨L, hL⟩ : ∃ L, L = l ++ [x.b.pid, x.b.ep].flatMap fun z => enc z.toNat := ⟨_, rfl⟩
  rw [← hL] at H1 FLH KW y0
  obtain ⟨LY, hLY⟩ : ∃ LY, LY = L ++ encY x.yes := ⟨_, rfl⟩
  rw [← hLY] at FLH
  have HL := Lib.hid hL
  have HLY := Lib.hid hLY
  clear kx FL kw hL hLY hlen
  go_wp2_with fail
  go_region_with (go_at_call 90; refine FLH.out.mono ?_; rintro e w2 ⟨A9, c9, rfl, o1, hc1, b1⟩; have k2 := KW.out.drew.below b1 KW.out.lt; have u0 := k2.cell 0; have v0 := k2.frozen 0)
  all_goals
    go_wp2_with fail
    go_end0
    obtain ⟨s1, s2⟩ := (H1.out.2.1.below (Below.refl _ _).drew).put1 o1 b1
    have h2 : WeOk g K (fun x_1 => (F x_1 ∨ x_1 = w.heap.size) ∨ x_1 = (w.alloc (.cells #[.int .i8 x.kd, .int .i64 x.b.pid, .int .i64 x.b.ep, .int .i64 x.b.seq, .bool x.b.txn, .slice A1 x.b.rs.length c1, .bool x.yes, .int .i64 x.nx, .int .i64 x.off, .int .i64 x.row.1, .int .i64 x.row.2.1, .int .i64 x.row.2.2.1, .string x.row.2.2.2.1, .string x.row.2.2.2.2, .int .i64 x.prod.pid, .int .i64 x.prod.ep, .int .i64 x.prod.nx, .slice D1 x.prod.seen.length e1] 32)).heap.size) LY ((w.alloc (.cells #[.int .i8 x.kd, .int .i64 x.b.pid, .int .i64 x.b.ep, .int .i64 x.b.seq, .bool x.b.txn, .slice A1 x.b.rs.length c1, .bool x.yes, .int .i64 x.nx, .int .i64 x.off, .int .i64 x.row.1, .int .i64 x.row.2.1, .int .i64 x.row.2.2.1, .string x.row.2.2.2.1, .string x.row.2.2.2.2, .int .i64 x.prod.pid, .int .i64 x.prod.ep, .int .i64 x.prod.nx, .slice D1 x.prod.seen.length e1] 32)).alloc (.cells #[.int .i64 x.b.pid, .int .i64 x.b.ep] 3)) (.returned (.tuple #[])) (w2.setCell ⟨g, 0, none⟩ (.slice A9 LY.length c9)) := ⟨rfl, s1, H1.out.2.2.drew.trans s2⟩
    have h3 := h2.alloc.alloc
    rw [HLY.out, HL.out] at h3 ⊢
    simpa using h3
set_option maxRecDepth 100000 in
set_option maxHeartbeats 2000000 in
theorem werow_any (g K : Nat) (F : Nat → Prop) (l : List UInt8) (x : En) (A1 D1 : Option Addr) (c1 e1 : Nat) (w : World) (h : WeSt g K F l w) (hl : l.length ≤ 1000) (h1 : 0 ≤ x.row.2.1 ∧ x.row.2.1 ≤ 8) (h2 : 0 ≤ x.row.2.2.1 ∧ x.row.2.2.1 ≤ 1048576) (h3 : x.row.2.2.2.1.size ≤ 16) (h4 : x.row.2.2.2.2.size ≤ 16) :
    Calls Tryz.prog 66 #[.pointer (some ⟨g, 0, none⟩), (.agg #[.int .i8 x.kd, .int .i64 x.b.pid, .int .i64 x.b.ep, .int .i64 x.b.seq, .bool x.b.txn, .slice A1 x.b.rs.length c1, .bool x.yes, .int .i64 x.nx, .int .i64 x.off, .int .i64 x.row.1, .int .i64 x.row.2.1, .int .i64 x.row.2.2.1, .string x.row.2.2.2.1, .string x.row.2.2.2.2, .int .i64 x.prod.pid, .int .i64 x.prod.ep, .int .i64 x.prod.nx, .slice D1 x.prod.seen.length e1])] w (WeOk g K F (l ++ (enc x.row.2.1.toNat ++ (enc x.row.2.2.1.toNat ++ ((cTxt 1024).e (lb x.row.2.2.2.1) ++ (cTxt 1024).e (lb x.row.2.2.2.2))))) w) := by
  have NM := Lib.hid (wenums_any g K _ l (w.heap.size + 1) [x.row.2.1, x.row.2.2.1] 2 _ ((h.add (.cells #[.int .i8 x.kd, .int .i64 x.b.pid, .int .i64 x.b.ep, .int .i64 x.b.seq, .bool x.b.txn, .slice A1 x.b.rs.length c1, .bool x.yes, .int .i64 x.nx, .int .i64 x.off, .int .i64 x.row.1, .int .i64 x.row.2.1, .int .i64 x.row.2.2.1, .string x.row.2.2.2.1, .string x.row.2.2.2.2, .int .i64 x.prod.pid, .int .i64 x.prod.ep, .int .i64 x.prod.nx, .slice D1 x.prod.seen.length e1] 32)).add (.cells #[.int .i64 x.row.2.1, .int .i64 x.row.2.2.1] 3)) (.inr (by simp)) (ints_new (w.alloc (.cells #[.int .i8 x.kd, .int .i64 x.b.pid, .int .i64 x.b.ep, .int .i64 x.b.seq, .bool x.b.txn, .slice A1 x.b.rs.length c1, .bool x.yes, .int .i64 x.nx, .int .i64 x.off, .int .i64 x.row.1, .int .i64 x.row.2.1, .int .i64 x.row.2.2.1, .string x.row.2.2.2.1, .string x.row.2.2.2.2, .int .i64 x.prod.pid, .int .i64 x.prod.ep, .int .i64 x.prod.nx, .slice D1 x.prod.seen.length e1] 32)) [x.row.2.1, x.row.2.2.1] 3 _ (by simp)) (by simp only [List.mem_cons, List.not_mem_nil, or_false]; rintro z hz; omega) (by simp; omega))
  have KX := Lib.hid ((Blk.new w 32 #[.int .i8 x.kd, .int .i64 x.b.pid, .int .i64 x.b.ep, .int .i64 x.b.seq, .bool x.b.txn, .slice A1 x.b.rs.length c1, .bool x.yes, .int .i64 x.nx, .int .i64 x.off, .int .i64 x.row.1, .int .i64 x.row.2.1, .int .i64 x.row.2.2.1, .string x.row.2.2.2.1, .string x.row.2.2.2.2, .int .i64 x.prod.pid, .int .i64 x.prod.ep, .int .i64 x.prod.nx, .slice D1 x.prod.seen.length e1]).alloc (.cells #[.int .i64 x.row.2.1, .int .i64 x.row.2.2.1] 3))
  have hlen : (l ++ [x.row.2.1, x.row.2.2.1].flatMap fun z => enc z.toNat).length ≤ 2000 := by
    have e1 := enc_len3x x.row.2.1.toNat (by omega)
    have e2 := enc_len3x x.row.2.2.1.toNat (by omega)
    simp
    omega
  have hlen2 := (encT_len x.row.2.2.2.1 h3).1
  have H4 := Lib.hid h4
  clear h h1 h2 h4
  go_enter Tryz.func66, Tryz.ntmps66
  go_wp2_with fail
  refine NM.out.mono ?_
  rintro e w1 h1
  have H1 := Lib.hid h1
  have kx := h1.2.2.blk KX.out (fun hs => hs (.inl (.inr rfl)))
  have x12 := kx.cell 12
  have T1 := Lib.hid (wetext_any g K _ _ x.row.2.2.2.1 w1 h1.2.1 (by omega) h3)
  have KX1 := Lib.hid kx
  obtain ⟨rfl, _⟩ := h1
  clear kx h3
  go_wp2_with fail
  refine T1.out.mono ?_
  rintro e w2 h2
  have H2 := Lib.hid (H1.out.trans h2)
  have kx := h2.2.2.blk KX1.out (fun hs => hs (.inl (.inr rfl)))
  have x13 := kx.cell 13
  have T2 := Lib.hid (wetext_any g K _ _ x.row.2.2.2.2 w2 h2.2.1 (by rw [List.length_append]; omega) H4.out)
  obtain ⟨rfl, _⟩ := h2
  clear kx x12
  go_wp2_with fail
  refine T2.out.mono ?_
  rintro e w3 h3
  have H3 := Lib.hid (H2.out.trans h3)
  obtain ⟨rfl, _⟩ := h3
  clear x13
  go_wp2_with fail
  go_end0
  have h3 := H3.out.alloc.alloc
  simpa using h3
end Go.Proofs.YtckdecodpjfcnaaGreatDoor
namespace Go.Proofs.YtckdecodpjfcnaaGreatDoor
open Go.RowKit Go.Lib
attribute [local go_sem ↓] Go.wp_at_zero Go.wp_at_succ

/-- A string appended to a row that is full: a new row. -/
theorem run_append_full {P : Program} (w : World) (base : Nat) (t u ty e : TypeId) (i : TypeInfo) (ht : P.underlying t = some (.slice e)) (hu : P.underlying u = some .string) (hi : P.info? e = some i) (hz : i.zero = some (.int .u8 0))
    (hsize : i.size = 1) (hby : i.bytes = 1) (g n : Nat) (xs : List Value) (hown : w.ownsRow base e 1 (.slice (some ⟨g, 0, none⟩) n n) n xs) (s : ByteArray) (hs : 0 < s.size)
    (h63 : n + s.size ≤ 100000) (hbase : base ≤ w.heap.size) :
    ∃ cap w', (Builtin.append_ #[t, u] ty #[.slice (some ⟨g, 0, none⟩) n n, .string s]).run P w = .ok (.slice (some ⟨w.heap.size, 0, none⟩) (n + s.size) cap) w' ∧ w'.ownsRow w.heap.size e 1 (.slice (some ⟨w.heap.size, 0, none⟩) (n + s.size) cap) (n + s.size) (xs ++ strCells s) ∧ Below w.heap.size w w' := by
  obtain ⟨v', w', hr, h2, h3, h4⟩ := run_append_own_string (P := P) w base t u ty e i ht hu hi hz hsize hby _ n xs hown s (by unfold maxLen; omega) (by omega) hbase
  have hxl : xs.length = n := by simpa using hown.1
  have hr2 := run_append_grow_string (P := P) w t u ty e i (.int .u8 0) ht hu hi hz ⟨g, 0, none⟩ n n xs (by rw [hsize]; simpa using hxl) (hown.cells (g := g) rfl) s (by omega) (by omega) (by rw [hby]; exact growslice_fits (by omega) (by omega))
  rw [hr] at hr2
  injection hr2 with e1 e2
  subst e1
  refine ⟨_, w', hr, ?_, ?_⟩
  · rcases h2.2 with ⟨hv, _⟩ | ⟨g', cap', cur, hv, _, k1, k2, k3, k4, k5⟩
    · cases hv
    · injection hv with hv1 hv2 hv3
      injection hv1 with hv1
      injection hv1 with hv1
      exact ⟨h2.1, .inr ⟨g', cap', cur, by rw [hv1, hv3], by omega, k1, k2, k3, k4, k5⟩⟩
  · rw [e2]
    exact (Below.refl _ w).drew.alloc (Nat.le_refl _) _
theorem wpList_append_full {P : Program} {ops : Array Oper} {rest : List Oper} {o : Oper} {a : Act} {w : World} {Q : Exit → Act → World → Prop} (hgd : o.guard = none) (sl x : Operand) (t u : TypeId)
    (ho : o.op = .call { callee := .builtin .append, args := #[sl, x], argTypes := #[t, u] })
    (base : Nat) (e : TypeId) (i : TypeInfo) (ht : P.underlying t = some (.slice e)) (hu : P.underlying u = some .string) (hi : P.info? e = some i) (hz : i.zero = some (.int .u8 0)) (hsize : i.size = 1) (hby : i.bytes = 1)
    (g n : Nat) (xs : List Value) (hs : a.eval sl = .slice (some ⟨g, 0, none⟩) n n) (hown : w.ownsRow base e 1 (.slice (some ⟨g, 0, none⟩) n n) n xs) (s : ByteArray) (hx : a.eval x = .string s) (hs0 : 0 < s.size)
    (h63 : n + s.size ≤ 100000) (hbase : base ≤ w.heap.size)
    (h : ∀ cap w', w'.ownsRow w.heap.size e 1 (.slice (some ⟨w.heap.size, 0, none⟩) (n + s.size) cap) (n + s.size) (xs ++ strCells s) → Below w.heap.size w w' → wpList P ops Q rest (a.put o.dst (.slice (some ⟨w.heap.size, 0, none⟩) (n + s.size) cap)) w') : wpList P ops Q (o :: rest) a w := by
  refine wpList_plain hgd fun K hK => ?_
  obtain ⟨cap, w', hr, h2, h3⟩ := run_append_full (P := P) w base t u o.type e i ht hu hi hz hsize hby g n xs hown s hs0 h63 hbase
  unfold Oper.wp execOp
  simp only [ho, resolve, invoke, builtin, Sem.run_bind, Sem.run_pure, Result.andThen_ok, List.map_toArray, List.map_cons, List.map_nil, hs, hx, hr]
  exact hK _ _ (h cap w' h2 h3)

/-- The writer with the bytes that it was begun with: a row that is full. -/
def WeS0 (g s K : Nat) (F : Nat → Prop) (l : List UInt8) (W : World) : Prop :=
  Blk W g 63 #[.slice (some ⟨s, 0, none⟩) l.length l.length, .int .i64 0] ∧ W.ownsRow K 5 1 (.slice (some ⟨s, 0, none⟩) l.length l.length) l.length (cellsB l) ∧ K ≤ W.heap.size ∧ ¬ F s ∧ ¬ F g ∧ (∀ x, F x → x < W.heap.size)
theorem WeS0.st {g s K : Nat} {F : Nat → Prop} {l : List UInt8} {W : World} (h : WeS0 g s K F l W) : WeSt g K F l W := by
  obtain ⟨h1, h2, h3, h4, h5, h6⟩ := h
  refine ⟨_, _, h1, h2, h3, fun x hx hf => ?_, h5, h6⟩
  have : s = x := by simpa [Value.ownBlock] using hx
  exact h4 (this ▸ hf)
theorem WeS0.add {g s K : Nat} {F : Nat → Prop} {l : List UInt8} {W : World} (h : WeS0 g s K F l W) (o : Obj) : WeS0 g s K (fun x => F x ∨ x = W.heap.size) l (W.alloc o) := by
  obtain ⟨h1, h2, h3, h4, h5, h6⟩ := h
  have hs : s < W.heap.size := by
    have := (h2.lt s (by simp [Value.ownBlock])).2
    exact this
  refine ⟨h1.alloc o, h2.alloc o, by simp; omega, ?_, ?_, ?_⟩
  · rintro (hf | rfl)
    · exact h4 hf
    · omega
  · rintro (hf | rfl)
    · exact h5 hf
    · exact absurd h1.lt (Nat.lt_irrefl _)
  · rintro x (hf | rfl)
    · have := h6 x hf; simp; omega
    · simp
set_option maxRecDepth 100000 in
set_option maxHeartbeats 2000000 in
theorem wedata_any (g s K : Nat) (F : Nat → Prop) (l : List UInt8) (x : En) (A1 D1 : Option Addr) (c1 e1 : Nat) (w : World) (hg : HasET w) (h : WeS0 g s K F l w) (hl : l.length ≤ 1000) (hm : mayBt x.b = true) (hr : Reads w w.heap.size 2 A1 x.b.rs.length (cellsR x.b.rs)) :
    Calls Tryz.prog 61 #[.pointer (some ⟨g, 0, none⟩), (.agg #[.int .i8 x.kd, .int .i64 x.b.pid, .int .i64 x.b.ep, .int .i64 x.b.seq, .bool x.b.txn, .slice A1 x.b.rs.length c1, .bool x.yes, .int .i64 x.nx, .int .i64 x.off, .int .i64 x.row.1, .int .i64 x.row.2.1, .int .i64 x.row.2.2.1, .string x.row.2.2.2.1, .string x.row.2.2.2.2, .int .i64 x.prod.pid, .int .i64 x.prod.ep, .int .i64 x.prod.nx, .slice D1 x.prod.seen.length e1])] w (WeOk g K F (l ++ encBt x.b) w) := by
  have hb1 : Below w.heap.size w (w.alloc (.cells #[.int .i8 x.kd, .int .i64 x.b.pid, .int .i64 x.b.ep, .int .i64 x.b.seq, .bool x.b.txn, .slice A1 x.b.rs.length c1, .bool x.yes, .int .i64 x.nx, .int .i64 x.off, .int .i64 x.row.1, .int .i64 x.row.2.1, .int .i64 x.row.2.2.1, .string x.row.2.2.2.1, .string x.row.2.2.2.2, .int .i64 x.prod.pid, .int .i64 x.prod.ep, .int .i64 x.prod.nx, .slice D1 x.prod.seen.length e1] 32)) := bal (Below.refl _ _) _
  have RB := RcBytes_any x.b A1 c1 (w.alloc (.cells #[.int .i8 x.kd, .int .i64 x.b.pid, .int .i64 x.b.ep, .int .i64 x.b.seq, .bool x.b.txn, .slice A1 x.b.rs.length c1, .bool x.yes, .int .i64 x.nx, .int .i64 x.off, .int .i64 x.row.1, .int .i64 x.row.2.1, .int .i64 x.row.2.2.1, .string x.row.2.2.2.1, .string x.row.2.2.2.2, .int .i64 x.prod.pid, .int .i64 x.prod.ep, .int .i64 x.prod.nx, .slice D1 x.prod.seen.length e1] 32)) ((hr.below hb1).more hb1.size) (hg.up hb1)
  have hbt : bytesBt x.b = (bs (encBt x.b), 0) := by unfold bytesBt; rw [if_pos hm]
  rw [hbt] at RB
  have hln := encBt_len x.b hm
  have RBH := Lib.hid RB
  have HS := Lib.hid (h.add (.cells #[.int .i8 x.kd, .int .i64 x.b.pid, .int .i64 x.b.ep, .int .i64 x.b.seq, .bool x.b.txn, .slice A1 x.b.rs.length c1, .bool x.yes, .int .i64 x.nx, .int .i64 x.off, .int .i64 x.row.1, .int .i64 x.row.2.1, .int .i64 x.row.2.2.1, .string x.row.2.2.2.1, .string x.row.2.2.2.2, .int .i64 x.prod.pid, .int .i64 x.prod.ep, .int .i64 x.prod.nx, .slice D1 x.prod.seen.length e1] 32))
  obtain ⟨LB, hLB⟩ : ∃ LB, LB = encBt x.b := ⟨_, rfl⟩
  rw [← hLB] at hln
  have HLB := Lib.hid hLB
  rw [← hLB] at RBH
  obtain ⟨i0, hi, hi0, hi1, hi2⟩ := info_parts infoByte
  have hsz : (bs LB).size = LB.length := size_bs LB
  clear h hg hm hr RB hbt hb1 hLB
  go_enter Tryz.func61, Tryz.ntmps61
  go_wp2_with fail
  refine RBH.out.mono ?_
  rintro e w1 ⟨rfl, b1⟩
  have k1 := HS.out.1.below b1 HS.out.1.lt
  have x0 := k1.cell 0
  have O1 := Lib.hid (own_below HS.out.2.1 b1)
  have K1 := Lib.hid k1
  have B1 := Lib.hid b1
  have hs1 := b1.size
  have hK := HS.out.2.2.1
  clear k1 b1
  go_wp2_with (at_builtin; refine wpList_append_full rfl (.tmp 22) (.tmp 23) 46 9 rfl K 5 i0 Tryz.underlying46 Tryz.underlying9 hi hi0 hi1 hi2 s l.length (cellsB l) rfl O1.out (bs LB) rfl (by omega) (by omega) (by omega) ?_; intro cap w2 o2 b2; have k2 := K1.out.below b2 K1.out.lt; have u0 := k2.cell 0; have v0 := k2.frozen 0)
  go_end0
  have hst : WeSt g K (fun x => F x ∨ x = w.heap.size) l w1 := HS.out.st.below B1.out
  rw [strCells_lb, lb_bs, ← cellsB_append, hsz, ← List.length_append] at o2
  obtain ⟨s1, s2⟩ := hst.put1 o2 b2
  have h2 : WeOk g K (fun x => F x ∨ x = w.heap.size) (l ++ LB) (w.alloc (.cells #[.int .i8 x.kd, .int .i64 x.b.pid, .int .i64 x.b.ep, .int .i64 x.b.seq, .bool x.b.txn, .slice A1 x.b.rs.length c1, .bool x.yes, .int .i64 x.nx, .int .i64 x.off, .int .i64 x.row.1, .int .i64 x.row.2.1, .int .i64 x.row.2.2.1, .string x.row.2.2.2.1, .string x.row.2.2.2.2, .int .i64 x.prod.pid, .int .i64 x.prod.ep, .int .i64 x.prod.nx, .slice D1 x.prod.seen.length e1] 32)) (.returned (.tuple #[])) (w2.setCell ⟨g, 0, none⟩ (.slice (some ⟨w1.heap.size, 0, none⟩) (l ++ LB).length cap)) := ⟨rfl, s1, (Only.of_below _ B1.out).trans s2⟩
  have h3 := h2.alloc
  rw [List.length_append] at h3
  rw [← HLB.out]
  exact h3
set_option maxRecDepth 100000 in
set_option maxHeartbeats 2000000 in
theorem wecopied_any (g s K : Nat) (F : Nat → Prop) (l : List UInt8) (x : En) (A1 D1 : Option Addr) (c1 e1 : Nat) (w : World) (hg : HasET w) (h : WeS0 g s K F l w) (hl : l.length ≤ 1000) (hm : mayBt x.b = true) (hr : Reads w w.heap.size 2 A1 x.b.rs.length (cellsR x.b.rs)) (hnx : x.yes = true → 0 ≤ x.nx ∧ x.nx ≤ 1048576) :
    Calls Tryz.prog 64 #[.pointer (some ⟨g, 0, none⟩), (.agg #[.int .i8 x.kd, .int .i64 x.b.pid, .int .i64 x.b.ep, .int .i64 x.b.seq, .bool x.b.txn, .slice A1 x.b.rs.length c1, .bool x.yes, .int .i64 x.nx, .int .i64 x.off, .int .i64 x.row.1, .int .i64 x.row.2.1, .int .i64 x.row.2.2.1, .string x.row.2.2.2.1, .string x.row.2.2.2.2, .int .i64 x.prod.pid, .int .i64 x.prod.ep, .int .i64 x.prod.nx, .slice D1 x.prod.seen.length e1])] w (WeOk g K F (l ++ (encBt x.b ++ (encY x.yes ++ if x.yes then enc x.nx.toNat else []))) w) := by
  have hb1 : Below w.heap.size w (w.alloc (.cells #[.int .i8 x.kd, .int .i64 x.b.pid, .int .i64 x.b.ep, .int .i64 x.b.seq, .bool x.b.txn, .slice A1 x.b.rs.length c1, .bool x.yes, .int .i64 x.nx, .int .i64 x.off, .int .i64 x.row.1, .int .i64 x.row.2.1, .int .i64 x.row.2.2.1, .string x.row.2.2.2.1, .string x.row.2.2.2.2, .int .i64 x.prod.pid, .int .i64 x.prod.ep, .int .i64 x.prod.nx, .slice D1 x.prod.seen.length e1] 32)) := bal (Below.refl _ _) _
  have DT := Lib.hid (wedata_any g s K _ l x A1 D1 c1 e1 _ (hg.up hb1) (h.add (.cells #[.int .i8 x.kd, .int .i64 x.b.pid, .int .i64 x.b.ep, .int .i64 x.b.seq, .bool x.b.txn, .slice A1 x.b.rs.length c1, .bool x.yes, .int .i64 x.nx, .int .i64 x.off, .int .i64 x.row.1, .int .i64 x.row.2.1, .int .i64 x.row.2.2.1, .string x.row.2.2.2.1, .string x.row.2.2.2.2, .int .i64 x.prod.pid, .int .i64 x.prod.ep, .int .i64 x.prod.nx, .slice D1 x.prod.seen.length e1] 32)) hl hm ((hr.below hb1).more hb1.size))
  have KX := Lib.hid (Blk.new w 32 #[.int .i8 x.kd, .int .i64 x.b.pid, .int .i64 x.b.ep, .int .i64 x.b.seq, .bool x.b.txn, .slice A1 x.b.rs.length c1, .bool x.yes, .int .i64 x.nx, .int .i64 x.off, .int .i64 x.row.1, .int .i64 x.row.2.1, .int .i64 x.row.2.2.1, .string x.row.2.2.2.1, .string x.row.2.2.2.2, .int .i64 x.prod.pid, .int .i64 x.prod.ep, .int .i64 x.prod.nx, .slice D1 x.prod.seen.length e1])
  have hln := encBt_len x.b hm
  have HNX := Lib.hid hnx
  have HB1 := Lib.hid hb1
  obtain ⟨LF, hLF⟩ : ∃ LF, LF = l ++ (encBt x.b ++ (encY x.yes ++ if x.yes then enc x.nx.toNat else [])) := ⟨_, rfl⟩
  rw [← hLF]
  have HLF := Lib.hid hLF
  clear h hg hm hr hb1 hnx hLF
  go_enter Tryz.func64, Tryz.ntmps64
  go_upto_region 1 with (fail)
  refine wp_region_list ?_
  refine wpList_move rfl (.tmp 0) rfl ?_
  refine wpList_load_eq rfl 32 (.tmp 3) rfl w.heap.size 0 rfl _ (load_blk KX.out rfl) ?_
  go_wp2_with fail
  refine DT.out.mono ?_
  rintro e w1 h1
  have H1 := Lib.hid h1
  have kx := h1.2.2.blk KX.out (fun hs => hs (.inr rfl))
  have x6 := kx.cell 6
  have KX1 := Lib.hid kx
  obtain ⟨A, c, y0, f0, kw, FL⟩ := weflag x.yes h1.2.1 (by rw [List.length_append]; omega)
  have FLH := Lib.hid FL
  have KW := Lib.hid kw
  obtain ⟨rfl, _⟩ := h1
  obtain ⟨L, hL⟩ : ∃ L, L = l ++ encBt x.b := ⟨_, rfl⟩
  have hLl : L.length ≤ 1200 := by rw [hL, List.length_append]; omega
  rw [← hL] at H1 FLH KW y0
  obtain ⟨LY, hLY⟩ : ∃ LY, LY = L ++ encY x.yes := ⟨_, rfl⟩
  have hLYl : LY.length ≤ 1300 := by rw [hLY, List.length_append]; have : (encY x.yes).length = 1 := rfl; omega
  rw [← hLY] at FLH
  have HL := Lib.hid hL
  have HLY := Lib.hid hLY
  clear kx FL kw hL hLY
  have key : ∃ yy : Bool, x.yes = yy := ⟨_, rfl⟩
  obtain ⟨yy, hyy⟩ := key
  have HYY := Lib.hid hyy
  clear hyy
  go_wp2_with fail
  go_region_with (go_at_call 90; refine FLH.out.mono ?_; rintro e w2 ⟨A9, c9, rfl, o1, hc1, b1⟩; have k2 := KW.out.drew.below b1 KW.out.lt; have u0 := k2.cell 0; have v0 := k2.frozen 0; have q6 := (KX1.out.drew.below b1 KX1.out.lt).cell 6; have q7 := (KX1.out.drew.below b1 KX1.out.lt).cell 7)
  all_goals
    obtain ⟨s1, s2⟩ := (H1.out.2.1.below (Below.refl _ _).drew).put1 o1 b1
    have hne : ¬ g = w.heap.size := fun e => s1.choose_spec.choose_spec.2.2.2.2.1 (.inr e)
    have KX2 := Lib.hid (((KX1.out.drew.below b1 KX1.out.lt)).far (p := ⟨g, 0, none⟩) (fun e => hne e.symm) (.slice A9 LY.length c9))
    have h2 : WeOk g K (fun x_1 => F x_1 ∨ x_1 = w.heap.size) LY (w.alloc (.cells #[.int .i8 x.kd, .int .i64 x.b.pid, .int .i64 x.b.ep, .int .i64 x.b.seq, .bool x.b.txn, .slice A1 x.b.rs.length c1, .bool x.yes, .int .i64 x.nx, .int .i64 x.off, .int .i64 x.row.1, .int .i64 x.row.2.1, .int .i64 x.row.2.2.1, .string x.row.2.2.2.1, .string x.row.2.2.2.2, .int .i64 x.prod.pid, .int .i64 x.prod.ep, .int .i64 x.prod.nx, .slice D1 x.prod.seen.length e1] 32)) (.returned (.tuple #[])) (w2.setCell ⟨g, 0, none⟩ (.slice A9 LY.length c9)) := ⟨rfl, s1, H1.out.2.2.drew.trans s2⟩
    have H2 := Lib.hid h2
    clear s1 s2 h2 q6 q7
    generalize w2.setCell ⟨g, 0, none⟩ (.slice A9 LY.length c9) = w3 at *
    have q6 := KX2.out.cell 6
    rw [HYY.out] at q6
    have q7 := KX2.out.cell 7
    cases yy
    · go_wp2_with fail
      go_end0
      have h3 := H2.out.alloc
      rw [HLY.out, HL.out, HYY.out] at h3
      rw [HLF.out, HYY.out]
      simpa using h3
    · have hn := HNX.out HYY.out
      have NM := Lib.hid (wenums_any g K _ LY w3.heap.size [x.nx] 1 _ (H2.out.2.1.add (.cells #[.int .i64 x.nx] 3)) (.inr rfl) (ints_new w3 [x.nx] 3 _ rfl) (by simp only [List.mem_cons, List.not_mem_nil, or_false]; rintro z hz; omega) (by simp; omega))
      go_wp2_with fail
      refine NM.out.mono ?_
      rintro e w4 h4
      have H4 := Lib.hid h4
      obtain ⟨rfl, _⟩ := h4
      go_wp2_with fail
      go_end0
      have h3 := (H2.out.trans H4.out.alloc).alloc
      rw [HLY.out, HL.out, HYY.out] at h3
      rw [HLF.out, HYY.out]
      simpa using h3
end Go.Proofs.YtckdecodpjfcnaaGreatDoor
namespace Go.Proofs.YtckdecodpjfcnaaGreatDoor
open Go.RowKit
attribute [local go_sem ↓] Go.wp_at_zero Go.wp_at_succ

def encSn (s : Sn) : List UInt8 := enc s.1.toNat ++ (enc s.2.1.toNat ++ enc (s.2.2 + 1).toNat)
theorem encSns_take (l : List Sn) (k : Nat) (r : Sn) (h : l[k]? = some r) : (l.take (k + 1)).flatMap encSn = (l.take k).flatMap encSn ++ encSn r := by
  rw [List.take_add_one, h]; simp
def SnOk (s : Sn) : Prop := (0 ≤ s.1 ∧ s.1 ≤ 1048576) ∧ (0 ≤ s.2.1 ∧ s.2.1 ≤ 4) ∧ (-1 ≤ s.2.2 ∧ s.2.2 ≤ 1048576)
theorem encSn_len (s : Sn) (h : SnOk s) : (encSn s).length ≤ 9 := by
  obtain ⟨h1, h2, h3⟩ := h
  have e1 := enc_len3x s.1.toNat (by omega)
  have e2 := enc_len3x s.2.1.toNat (by omega)
  have e3 := enc_len3x (s.2.2 + 1).toNat (by omega)
  unfold encSn
  rw [List.length_append, List.length_append]
  omega
theorem encSns_len : ∀ l : List Sn, (∀ s ∈ l, SnOk s) → (l.flatMap encSn).length ≤ 9 * l.length
  | [], _ => Nat.le_refl _
  | s :: l, h => by
    rw [List.flatMap_cons, List.length_append, List.length_cons]
    have h1 := encSn_len s (h s (List.mem_cons_self ..))
    have h2 := encSns_len l fun x hx => h x (List.mem_cons_of_mem _ hx)
    omega
set_option maxRecDepth 100000 in
set_option maxHeartbeats 4000000 in
theorem westate_any (g K B : Nat) (F : Nat → Prop) (l : List UInt8) (x : En) (A1 D1 : Option Addr) (c1 e1 : Nat) (w : World) (h : WeSt g K F l w) (hl : l.length ≤ 1000) (h1 : 0 ≤ x.prod.pid ∧ x.prod.pid ≤ 8) (h2 : 0 ≤ x.prod.ep ∧ x.prod.ep ≤ 100) (h3 : 0 ≤ x.prod.nx ∧ x.prod.nx ≤ 1048576) (h4 : x.prod.seen.length ≤ 3) (h5 : ∀ s ∈ x.prod.seen, SnOk s)
    (hr : Reads w B 3 D1 x.prod.seen.length (cellsN x.prod.seen)) (hB : B ≤ w.heap.size) (hF : ∀ y, y < B → F y) :
    Calls Tryz.prog 67 #[.pointer (some ⟨g, 0, none⟩), (.agg #[.int .i8 x.kd, .int .i64 x.b.pid, .int .i64 x.b.ep, .int .i64 x.b.seq, .bool x.b.txn, .slice A1 x.b.rs.length c1, .bool x.yes, .int .i64 x.nx, .int .i64 x.off, .int .i64 x.row.1, .int .i64 x.row.2.1, .int .i64 x.row.2.2.1, .string x.row.2.2.2.1, .string x.row.2.2.2.2, .int .i64 x.prod.pid, .int .i64 x.prod.ep, .int .i64 x.prod.nx, .slice D1 x.prod.seen.length e1])] w (WeOk g K F (l ++ (enc x.prod.pid.toNat ++ (enc x.prod.ep.toNat ++ (enc x.prod.nx.toNat ++ (enc x.prod.seen.length ++ x.prod.seen.flatMap encSn))))) w) := by
  have NM := Lib.hid (wenums_any g K _ l (w.heap.size + 1) [x.prod.pid, x.prod.ep, x.prod.nx, (x.prod.seen.length : Int)] 4 _ ((h.add (.cells #[.int .i8 x.kd, .int .i64 x.b.pid, .int .i64 x.b.ep, .int .i64 x.b.seq, .bool x.b.txn, .slice A1 x.b.rs.length c1, .bool x.yes, .int .i64 x.nx, .int .i64 x.off, .int .i64 x.row.1, .int .i64 x.row.2.1, .int .i64 x.row.2.2.1, .string x.row.2.2.2.1, .string x.row.2.2.2.2, .int .i64 x.prod.pid, .int .i64 x.prod.ep, .int .i64 x.prod.nx, .slice D1 x.prod.seen.length e1] 32)).add (.cells #[.int .i64 x.prod.pid, .int .i64 x.prod.ep, .int .i64 x.prod.nx, .int .i64 (x.prod.seen.length : Int)] 3)) (.inr (by simp)) (ints_new (w.alloc (.cells #[.int .i8 x.kd, .int .i64 x.b.pid, .int .i64 x.b.ep, .int .i64 x.b.seq, .bool x.b.txn, .slice A1 x.b.rs.length c1, .bool x.yes, .int .i64 x.nx, .int .i64 x.off, .int .i64 x.row.1, .int .i64 x.row.2.1, .int .i64 x.row.2.2.1, .string x.row.2.2.2.1, .string x.row.2.2.2.2, .int .i64 x.prod.pid, .int .i64 x.prod.ep, .int .i64 x.prod.nx, .slice D1 x.prod.seen.length e1] 32)) [x.prod.pid, x.prod.ep, x.prod.nx, (x.prod.seen.length : Int)] 3 _ (by simp)) (by simp only [List.mem_cons, List.not_mem_nil, or_false]; rintro z hz; omega) (by simp; omega))
  have KX := Lib.hid ((Blk.new w 32 #[.int .i8 x.kd, .int .i64 x.b.pid, .int .i64 x.b.ep, .int .i64 x.b.seq, .bool x.b.txn, .slice A1 x.b.rs.length c1, .bool x.yes, .int .i64 x.nx, .int .i64 x.off, .int .i64 x.row.1, .int .i64 x.row.2.1, .int .i64 x.row.2.2.1, .string x.row.2.2.2.1, .string x.row.2.2.2.2, .int .i64 x.prod.pid, .int .i64 x.prod.ep, .int .i64 x.prod.nx, .slice D1 x.prod.seen.length e1]).alloc (.cells #[.int .i64 x.prod.pid, .int .i64 x.prod.ep, .int .i64 x.prod.nx, .int .i64 (x.prod.seen.length : Int)] 3))
  have RD := Lib.hid ((hr.alloc hB (.cells #[.int .i8 x.kd, .int .i64 x.b.pid, .int .i64 x.b.ep, .int .i64 x.b.seq, .bool x.b.txn, .slice A1 x.b.rs.length c1, .bool x.yes, .int .i64 x.nx, .int .i64 x.off, .int .i64 x.row.1, .int .i64 x.row.2.1, .int .i64 x.row.2.2.1, .string x.row.2.2.2.1, .string x.row.2.2.2.2, .int .i64 x.prod.pid, .int .i64 x.prod.ep, .int .i64 x.prod.nx, .slice D1 x.prod.seen.length e1] 32)).alloc (by simp; omega) (.cells #[.int .i64 x.prod.pid, .int .i64 x.prod.ep, .int .i64 x.prod.nx, .int .i64 (x.prod.seen.length : Int)] 3))
  obtain ⟨L0, hL0⟩ : ∃ L0, L0 = l ++ [x.prod.pid, x.prod.ep, x.prod.nx, (x.prod.seen.length : Int)].flatMap fun z => enc z.toNat := ⟨_, rfl⟩
  have hl0 : L0.length ≤ 1100 := by
    have e1 := enc_len3x x.prod.pid.toNat (by omega)
    have e2 := enc_len3x x.prod.ep.toNat (by omega)
    have e3 := enc_len3x x.prod.nx.toNat (by omega)
    have e4 := enc_len3x x.prod.seen.length (by omega)
    rw [hL0]
    simp
    omega
  rw [← hL0] at NM
  have hfin : l ++ (enc x.prod.pid.toNat ++ (enc x.prod.ep.toNat ++ (enc x.prod.nx.toNat ++ (enc x.prod.seen.length ++ x.prod.seen.flatMap encSn)))) = L0 ++ x.prod.seen.flatMap encSn := by
    rw [hL0]; simp
  rw [hfin]
  have HF := Lib.hid hF
  have HV := Lib.hid h5
  clear h h1 h2 h3 h5 hr hF hL0 hfin
  go_enter Tryz.func67, Tryz.ntmps67
  go_wp2_with fail
  refine NM.out.mono ?_
  rintro e w1 h1
  have H1 := Lib.hid h1
  have kx := h1.2.2.blk KX.out (fun hs => hs (.inl (.inr rfl)))
  have x17 := kx.cell 17
  have hsz1 := h1.2.2.size
  simp only [World.size_alloc] at hsz1
  have R1 := Lib.hid (h1.2.2.reads RD.out (by simp; omega) (fun y hy hs => hs (.inl (.inl (HF.out y hy)))))
  obtain ⟨rfl, _⟩ := h1
  clear kx
  go_wp2_with fail
  go_loopw [26] (fun y wr => ∃ k : Nat, k ≤ x.prod.seen.length ∧ y = .int .i64 k ∧ WeOk g K (fun x_1 => (F x_1 ∨ x_1 = w.heap.size) ∨ x_1 = (w.alloc (.cells #[.int .i8 x.kd, .int .i64 x.b.pid, .int .i64 x.b.ep, .int .i64 x.b.seq, .bool x.b.txn, .slice A1 x.b.rs.length c1, .bool x.yes, .int .i64 x.nx, .int .i64 x.off, .int .i64 x.row.1, .int .i64 x.row.2.1, .int .i64 x.row.2.2.1, .string x.row.2.2.2.1, .string x.row.2.2.2.2, .int .i64 x.prod.pid, .int .i64 x.prod.ep, .int .i64 x.prod.nx, .slice D1 x.prod.seen.length e1] 32)).heap.size) (L0 ++ (x.prod.seen.take k).flatMap encSn) w1 (.returned (.tuple #[])) wr) (fun y _ => x.prod.seen.length - (intOf y).toNat)
  case atStart => exact ⟨0, Nat.zero_le _, rfl, rfl, by simpa using H1.out.2.1, Only.refl _ _⟩
  case round =>
    obtain ⟨k, hk, rfl, hok⟩ := hrel
    have HOK := Lib.hid hok
    clear hok
    by_cases hlt : k < x.prod.seen.length
    · have d1 : decide ((k : Int) < (x.prod.seen.length : Int)) = true := by simp; omega
      obtain ⟨r, hx⟩ : ∃ z, x.prod.seen[k]? = some z := ⟨_, List.getElem?_eq_getElem hlt⟩
      have hvr := HV.out r (List.mem_of_getElem? hx)
      have HTK := Lib.hid (encSns_take x.prod.seen k r hx)
      have hle := encSns_len (x.prod.seen.take k) (fun y hy => HV.out y (List.mem_of_mem_take hy))
      rw [List.length_take] at hle
      have R3 := HOK.out.2.2.reads R1.out (by omega) (fun y hy hs => hs (.inl (.inl (HF.out y hy))))
      obtain ⟨b1, o1, hD, hb1, hc1⟩ := R3.plain3 (by omega)
      obtain ⟨g1, g2, g3⟩ := hc1 k _ hx
      have i1 : (0 : Int) ≤ (k : Int) := by omega
      have i2 : (k : Int) < (x.prod.seen.length : Int) := by omega
      obtain ⟨v1, v2, v3⟩ := hvr
      have cw : IntKind.i64.wrap (r.2.2 + 1) = r.2.2 + 1 := IntWalk.i64_in _ (by omega)
      generalize hL : L0 ++ (x.prod.seen.take k).flatMap encSn = L at *
      have hLl : L.length ≤ 4000 := by rw [← hL, List.length_append]; omega
      have HL := Lib.hid hL
      have M1 := Lib.hid (wenums_any g K _ L (wr.heap.size + 1) [r.1, r.2.1, r.2.2 + 1] 3 _ ((HOK.out.2.1.add (.cells #[.int .i64 r.1, .int .i64 r.2.1, .int .i64 r.2.2] 73)).add (.cells #[.int .i64 r.1, .int .i64 r.2.1, .int .i64 (r.2.2 + 1)] 3)) (.inr (by simp)) (ints_new (wr.alloc (.cells #[.int .i64 r.1, .int .i64 r.2.1, .int .i64 r.2.2] 73)) [r.1, r.2.1, r.2.2 + 1] 3 _ (by simp)) (by simp only [List.mem_cons, List.not_mem_nil, or_false]; rintro z hz; omega) (by simp; omega))
      clear hc1 hx hL R3 hle
      subst hD
      go_wp2_with fail
      refine M1.out.mono ?_
      rintro e w3 h3
      have H3 := Lib.hid h3
      obtain ⟨rfl, _⟩ := h3
      go_wp2_with fail
      go_roundw
      case rel =>
        have h6 := H3.out.alloc.alloc
        have h7 := HOK.out.trans h6
        refine ⟨k + 1, by omega, by go_num, ?_⟩
        rw [HTK.out, ← List.append_assoc, HL.out]
        have e : encSn r = [r.1, r.2.1, r.2.2 + 1].flatMap fun z => enc z.toNat := by unfold encSn; simp
        rw [e]
        exact h7
      case measure => simp [intOf]; omega
    · obtain rfl : k = x.prod.seen.length := by omega
      have d1 : decide ((x.prod.seen.length : Int) < (x.prod.seen.length : Int)) = false := by simp
      go_wp2_with fail
      go_end0
      have h6 := HOK.out
      rw [List.take_length] at h6
      exact (H1.out.trans h6).alloc.alloc
end Go.Proofs.YtckdecodpjfcnaaGreatDoor
