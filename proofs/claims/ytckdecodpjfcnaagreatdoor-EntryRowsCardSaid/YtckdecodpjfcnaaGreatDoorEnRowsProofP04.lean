/-
  Layer 6: record.Rows.
  Layer 6: record.write, record.Bytes.
  Layer 6: record.code, record.Bytes, record.Behind, record.Same; of the document Behind, Great, Same.
  Layer 6: equal lists of records; batches that are the same.
-/
import Derived.Test.YtckdecodpjfcnaaGreatDoorEnRowsProofP03
set_option linter.unusedVariables false
set_option linter.unusedSimpArgs false
namespace Go.Proofs.YtckdecodpjfcnaaGreatDoor
open Go.RowKit

theorem btransO {S : Nat → Prop} {w w1 w2 : World} (h : Below w.heap.size w w1) (k : Only S w1 w2) (hS : ∀ g, S g → w.heap.size ≤ g) : Below w.heap.size w w2 := h.trans (k.below h.size hS)
theorem take_flat (rs : List Rec) (k : Nat) (r : Rec) (h : rs[k]? = some r) : (rs.take (k + 1)).flatMap cRec.e = (rs.take k).flatMap cRec.e ++ cRec.e r := by
  rw [List.take_add_one, h]; simp
theorem flat_len (rs : List Rec) (k : Nat) (h : ∀ r ∈ rs, r.1.size ≤ 16 ∧ r.2.size ≤ 16) (hl : rs.length ≤ 4) : ((rs.take k).flatMap cRec.e).length ≤ 136 := by
  have := encRs_len (rs.take k) (fun r hr => h r (List.mem_of_mem_take hr))
  have h2 : (rs.take k).length ≤ 4 := by rw [List.length_take]; omega
  omega

theorem wnumber_int (bo be K : Nat) (l : List UInt8) (n : Int) (w : World) (h : WSt w bo be K l) (hl : l.length ≤ 80000) (h0 : 0 ≤ n) (hn : n ≤ 1048576) :
    Calls Tryz.prog 119 #[.int .i64 n, .pointer (some ⟨be, 0, none⟩), .pointer (some ⟨bo, 0, none⟩)] w (PutsPost bo be K (l ++ enc n.toNat) w) := by
  obtain ⟨k, rfl⟩ := Int.eq_ofNat_of_zero_le h0
  exact wnumber_any bo be K l k w h hl (by unfold maxNum; omega)
theorem len_of {l : List UInt8} {n k m : Nat} (h : l.length ≤ k) (hn : n ≤ 1048576) (hm : k + 3 ≤ m) : (l ++ enc n).length ≤ m := by
  have := enc_len3 n hn
  rw [List.length_append]; omega

/-- The bytes of a batch up to its records. -/
def preBt (b : Bat) : List UInt8 := enc b.pid.toNat ++ enc b.ep.toNat ++ enc b.seq.toNat ++ encY b.txn ++ enc b.rs.length
theorem preBt_len (b : Bat) (h : mayBt b = true) : (preBt b).length ≤ 10 := by
  obtain ⟨h1, h2⟩ := (mayBt_iff b).1 h
  unfold preBt
  simp only [List.length_append]
  have e1 : (enc b.pid.toNat).length = 1 := by rw [enc_small _ (by omega)]; rfl
  have e2 : (enc b.ep.toNat).length = 1 := by rw [enc_small _ (by omega)]; rfl
  have e3 := enc_len3 b.seq.toNat (by omega)
  have e4 : (encY b.txn).length = 1 := rfl
  have e5 : (enc b.rs.length).length = 1 := by rw [enc_small _ (by omega)]; rfl
  omega
theorem preBt_all (b : Bat) : preBt b ++ b.rs.flatMap cRec.e = encBt b := by
  rw [encBt_eq]; unfold preBt; simp only [List.append_assoc]

/-- Bytes and no error. -/
def WrPost (l : List UInt8) (w : World) (e : Ending) (w' : World) : Prop :=
  ∃ A c, e = .returned (.tuple #[.slice A l.length c, .nilIface]) ∧ Reads w' w'.heap.size 1 A l.length (cellsB l) ∧ l.length ≤ c ∧ Below w.heap.size w w'

set_option maxRecDepth 100000 in
set_option maxHeartbeats 2000000 in
theorem write_ok (b : Bat) (A1 : Option Addr) (c1 : Nat) (w : World) (hr : Reads w w.heap.size 2 A1 b.rs.length (cellsR b.rs)) (hm : mayBt b = true) :
    Calls Tryz.prog 107 #[(.agg #[.int .i64 b.pid, .int .i64 b.ep, .int .i64 b.seq, .bool b.txn, .slice A1 b.rs.length c1])] w (WrPost (encBt b) w) := by
  obtain ⟨hh, hrec⟩ := (mayBt_iff b).1 hm
  obtain ⟨q1, q2, q3, q4, q5, q6, q7, q8⟩ := hh
  have hmay := RcMay_any b A1 c1 (w.alloc (.cells #[.int .i64 b.pid, .int .i64 b.ep, .int .i64 b.seq, .bool b.txn, .slice A1 b.rs.length c1] 25)) ((hr.alloc (Nat.le_refl _) _).more (by simp))
  rw [hm] at hmay
  have HMAY := Lib.hid hmay
  have HPL := Lib.hid (preBt_len b hm)
  have HPA := Lib.hid (preBt_all b)
  have HREC := Lib.hid hrec
  have HR := Lib.hid hr
  have HK := Lib.hid (Blk.new w 25 #[.int .i64 b.pid, .int .i64 b.ep, .int .i64 b.seq, .bool b.txn, .slice A1 b.rs.length c1])
  have HB := Lib.hid ((Below.refl w.heap.size w).alloc (Nat.le_refl _) (.cells #[.int .i64 b.pid, .int .i64 b.ep, .int .i64 b.seq, .bool b.txn, .slice A1 b.rs.length c1] 25))
  have e1 : (b.pid.toNat : Int) = b.pid := by omega
  have e2 : (b.ep.toNat : Int) = b.ep := by omega
  have e3 : (b.seq.toNat : Int) = b.seq := by omega
  have E1 := Lib.hid e1
  have E2 := Lib.hid e2
  have E3 := Lib.hid e3
  have hmf : ∀ (fn : Fn) (first cap : Array Value) (w : World), (Instr.makeFunc fn first cap).run Tryz.prog w = .ok (.func fn first cap) w := fun _ _ _ _ => rfl
  clear hr hmay hrec e1 e2 e3
  go_enter Tryz.func107, Tryz.ntmps107
  go_wp2_with fail
  refine HMAY.out.mono ?_
  rintro e w1 ⟨rfl, hb1⟩
  have k1 := HK.out.below hb1 (by simp)
  have hz1 := hb1.size
  simp only [World.size_alloc] at hz1
  have bf := btrans HB.out hb1
  have hlt : w.heap.size < w1.heap.size := by omega
  have hne : ¬ w.heap.size = w1.heap.size := by omega
  have hne2 : ¬ w.heap.size = w1.heap.size + 1 := by omega
  have x0 := k1.cell 0
  have x1 := k1.cell 1
  have x2 := k1.cell 2
  have x3 := k1.cell 3
  have x4 := k1.cell 4
  have hs : WSt ((w1.alloc (.cells #[.slice none 0 0] 46)).alloc (.cells #[.int .i64 0] 35)) w1.heap.size (w1.heap.size + 1) (w1.heap.size + 2) [] := by
    refine ⟨none, 0, (Blk.new w1 _ _).alloc _, ?_, World.ownsRow_nil _ _ _ _, by omega, by omega, by omega, by simp⟩
    have := Blk.new (w1.alloc (.cells #[.slice none 0 0] 46)) 35 #[.int .i64 0]
    rwa [World.size_alloc] at this
  have hk := (k1.alloc (.cells #[.slice none 0 0] 46)).alloc (.cells #[.int .i64 0] 35)
  have bf2 := bal (bal bf (.cells #[.slice none 0 0] 46)) (.cells #[.int .i64 0] 35)
  have HS := Lib.hid hs
  have HK2 := Lib.hid hk
  have HBF := Lib.hid bf2
  clear hs hk bf2 bf k1 hb1
  go_wp2_with fail
  -- GEN
  refine (wnumber_int _ _ _ [] b.pid _ HS.out (by simp) (by omega) (by omega)).mono ?_
  rw [List.nil_append]
  rintro e w2 ⟨rfl, s2, o2⟩
  have k2 := o2.blk HK2.out (by rintro (h | h) <;> omega)
  have bf2 := btransO HBF.out o2 (by rintro g (rfl | rfl) <;> omega)
  obtain ⟨L2, hL2⟩ : ∃ L, L = enc b.pid.toNat := ⟨_, rfl⟩
  have l2 : L2.length ≤ 3 := by rw [hL2]; exact enc_len3 b.pid.toNat (by omega)
  rw [← hL2] at s2
  have HL2 := Lib.hid hL2
  clear hL2
  have S2 := Lib.hid s2
  have K2 := Lib.hid k2
  have BF2 := Lib.hid bf2
  clear x0 x1 x2 x3 x4 s2 bf2 o2
  have x0 := k2.cell 0
  have x1 := k2.cell 1
  have x2 := k2.cell 2
  have x3 := k2.cell 3
  have x4 := k2.cell 4
  clear k2
  go_wp2_with fail
  refine (wnumber_int _ _ _ _ b.ep _ S2.out (by omega) (by omega) (by omega)).mono ?_
  rintro e w3 ⟨rfl, s3, o3⟩
  have k3 := o3.blk K2.out (by rintro (h | h) <;> omega)
  have bf3 := btransO BF2.out o3 (by rintro g (rfl | rfl) <;> omega)
  obtain ⟨L3, hL3⟩ : ∃ L, L = L2 ++ enc b.ep.toNat := ⟨_, rfl⟩
  have l3 : L3.length ≤ 6 := by rw [hL3]; exact len_of l2 (by omega) (by omega)
  rw [← hL3] at s3
  have HL3 := Lib.hid hL3
  clear hL3
  have S3 := Lib.hid s3
  have K3 := Lib.hid k3
  have BF3 := Lib.hid bf3
  clear x0 x1 x2 x3 x4 s3 bf3 o3
  have x0 := k3.cell 0
  have x1 := k3.cell 1
  have x2 := k3.cell 2
  have x3 := k3.cell 3
  have x4 := k3.cell 4
  clear k3
  go_wp2_with fail
  refine (wnumber_int _ _ _ _ b.seq _ S3.out (by omega) (by omega) (by omega)).mono ?_
  rintro e w4 ⟨rfl, s4, o4⟩
  have k4 := o4.blk K3.out (by rintro (h | h) <;> omega)
  have bf4 := btransO BF3.out o4 (by rintro g (rfl | rfl) <;> omega)
  obtain ⟨L4, hL4⟩ : ∃ L, L = L3 ++ enc b.seq.toNat := ⟨_, rfl⟩
  have l4 : L4.length ≤ 9 := by rw [hL4]; exact len_of l3 (by omega) (by omega)
  rw [← hL4] at s4
  have HL4 := Lib.hid hL4
  clear hL4
  have S4 := Lib.hid s4
  have K4 := Lib.hid k4
  have BF4 := Lib.hid bf4
  clear x0 x1 x2 x3 x4 s4 bf4 o4
  have x0 := k4.cell 0
  have x1 := k4.cell 1
  have x2 := k4.cell 2
  have x3 := k4.cell 3
  have x4 := k4.cell 4
  clear k4
  obtain ⟨A4, c4, p1, p2, p3, p4, p5, p6, p7⟩ := S4.out
  have y1 := p1.cell 0
  have y2 := p1.frozen 0
  have P1 := Lib.hid p1
  have P2 := Lib.hid p2
  have HFL := Lib.hid (Flag_any A4 _ c4 b.txn w4 (Reads.of_own p3) (by omega))
  obtain ⟨L5, hL5⟩ : ∃ L, L = L4 ++ encY b.txn := ⟨_, rfl⟩
  rw [← hL5] at HFL
  have l6 : L5.length ≤ 10 := by rw [hL5, List.length_append]; have : (encY b.txn).length = 1 := rfl; omega
  have HL5 := Lib.hid hL5
  clear p1 p2 p3 hL5
  go_wp2_with fail
  refine HFL.out.mono ?_
  rintro e w5 ⟨A5, c5, rfl, ho5, hc5, hb5⟩
  have u1 := (P1.out.below hb5 P1.out.lt).cell 0
  have u2 := (P1.out.below hb5 P1.out.lt).frozen 0
  have hz5 := hb5.size
  have hlt4 : w1.heap.size + 2 ≤ w4.heap.size := p7
  have s6 : WSt (w5.setCell ⟨w1.heap.size, 0, none⟩ (.slice A5 L5.length c5)) w1.heap.size (w1.heap.size + 1) (w1.heap.size + 2) L5 := by
    refine ⟨A5, c5, (P1.out.below hb5 P1.out.lt).set_ 0 _, (P2.out.below hb5 P2.out.lt).far (by simp) _, own_set (own_base ho5 p7) (by omega) _, by omega, by omega, by omega, ?_⟩
    simp [World.setCell]; omega
  have k6 := (K4.out.below hb5 (by omega)).far (p := ⟨w1.heap.size, 0, none⟩) hne (.slice A5 L5.length c5)
  have bf6 := bset (o := 0) (btrans BF4.out hb5) (b := w1.heap.size) (by omega) (.slice A5 L5.length c5)
  have S6 := Lib.hid s6
  have K6 := Lib.hid k6
  have BF6 := Lib.hid bf6
  clear x0 x1 x2 x3 x4 y1 y2 s6 bf6 ho5
  have x4 := k6.cell 4
  clear k6
  go_wp2_with fail
  refine (wnumber_any _ _ _ _ b.rs.length _ S6.out (by omega) (by unfold maxNum; omega)).mono ?_
  rintro e w7 ⟨rfl, s7, o7⟩
  have k7 := o7.blk K6.out (by rintro (h | h) <;> omega)
  have bf7 := btransO BF6.out o7 (by rintro g (rfl | rfl) <;> omega)
  have hpre : L5 ++ enc b.rs.length = preBt b := by rw [HL5.out, HL4.out, HL3.out, HL2.out]; rfl
  rw [hpre] at s7
  have l7 : (preBt b).length ≤ 10 := HPL.out
  obtain ⟨LP, hLP⟩ : ∃ L, L = preBt b := ⟨_, rfl⟩
  rw [← hLP] at s7 l7
  have HLP := Lib.hid hLP
  have S7 := Lib.hid s7
  have K7 := Lib.hid k7
  have BF7 := Lib.hid bf7
  clear x4 s7 bf7 o7 hLP hpre u1 u2 hc5 l6 l2 l3 l4 hb5
  have x4 := k7.cell 4
  clear k7
  go_wp2_with fail
  go_loopw [42] (fun x wr => ∃ k : Nat, k ≤ b.rs.length ∧ x = .int .i64 k ∧ WSt wr w1.heap.size (w1.heap.size + 1) (w1.heap.size + 2) (LP ++ (b.rs.take k).flatMap cRec.e) ∧ Below w.heap.size w wr) (fun x _ => b.rs.length - (intOf x).toNat)
  case atStart => exact ⟨0, Nat.zero_le _, rfl, by simpa using S7.out, BF7.out⟩
  case round =>
    obtain ⟨k, hk, rfl, hst, hbel⟩ := hrel
    have ST := Lib.hid hst
    have BEL := Lib.hid hbel
    have hfl := flat_len b.rs k HREC.out q6
    have hll : (LP ++ (b.rs.take k).flatMap cRec.e).length ≤ 146 := by rw [List.length_append]; omega
    clear hst hbel hfl x4
    by_cases hlt2 : k < b.rs.length
    · have d1 : decide ((k : Int) < (b.rs.length : Int)) = true := by simp; omega
      obtain ⟨b1, o1, rfl, hbl1, hc1⟩ := (HR.out.below BEL.out).plain2 (by omega)
      obtain ⟨r, hx⟩ : ∃ z, b.rs[k]? = some z := ⟨_, List.getElem?_eq_getElem hlt2⟩
      obtain ⟨g1, g2⟩ := hc1 k _ hx
      have HT := Lib.hid (take_flat b.rs k r hx)
      obtain ⟨hr1, hr2⟩ := HREC.out r (List.mem_of_getElem? hx)
      have hsz := BEL.out.size
      have g3 : b1 < wr.heap.size := by omega
      obtain ⟨L, hLL⟩ : ∃ L, LP ++ (b.rs.take k).flatMap cRec.e = L := ⟨_, rfl⟩
      rw [hLL] at ST hll
      have HLL := Lib.hid hLL
      clear hLL
      clear hc1 hx
      have hKw : w1.heap.size + 2 ≤ wr.heap.size := by obtain ⟨_, _, _, _, _, _, _, _, h⟩ := ST.out; exact h
      have kx := Blk.new wr 60 #[.string r.1, .string r.2]
      have KX := Lib.hid kx
      have s8 := ST.out.below ((Below.refl _ wr).alloc (Nat.le_refl _) (.cells #[.string r.1, .string r.2] 60))
      have S8 := Lib.hid s8
      clear kx s8
      go_wp2_with fail
      refine (wtext_any _ _ _ _ r.1 _ S8.out (by omega) (by omega)).mono ?_
      rintro e w8 ⟨rfl, s9, o9⟩
      have k9 := o9.blk KX.out (by rintro (h | h) <;> omega)
      have bf9 := btransO (bal BEL.out _) o9 (by rintro g (rfl | rfl) <;> omega)
      have l9 : (L ++ (cTxt 1024).e (lb r.1)).length ≤ 163 := by rw [List.length_append]; have := (encT_len r.1 hr1).1; omega
      obtain ⟨L9, hL9⟩ : ∃ L', L' = L ++ (cTxt 1024).e (lb r.1) := ⟨_, rfl⟩
      rw [← hL9] at s9 l9
      have HL9 := Lib.hid hL9
      have S9 := Lib.hid s9
      have BF9 := Lib.hid bf9
      have x1' := k9.cell 1
      clear s9 bf9 o9 hL9 g1 g2 k9
      go_wp2_with fail
      refine (wtext_any _ _ _ _ r.2 _ S9.out (by omega) (by omega)).mono ?_
      rintro e w10 ⟨rfl, s10, o10⟩
      have bf10 := btransO BF9.out o10 (by rintro g (rfl | rfl) <;> omega)
      have hfin : L9 ++ (cTxt 1024).e (lb r.2) = LP ++ (b.rs.take (k + 1)).flatMap cRec.e := by
        rw [HL9.out, HT.out, ← HLL.out, List.append_assoc, List.append_assoc, cRec_e]
      rw [hfin] at s10
      have S10 := Lib.hid s10
      have BF10 := Lib.hid bf10
      clear s10 bf10 o10 hfin x1'
      go_wp2_with fail
      go_roundw
      case rel => exact ⟨k + 1, by omega, by go_num, S10.out, BF10.out⟩
      case measure => simp [intOf]; omega
    · have d1 : decide ((k : Int) < (b.rs.length : Int)) = false := by simp; omega
      have hfin : LP ++ (b.rs.take k).flatMap cRec.e = encBt b := by
        rw [List.take_of_length_le (by omega), HLP.out]; exact HPA.out
      have ST2 := ST.out
      rw [hfin] at ST2
      clear hfin hll
      obtain ⟨A9, c9, p1', p2', p3', p4', p5', p6', p7'⟩ := ST2
      have y1 := p1'.cell 0
      have y2 := p2'.cell 0
      have P3 := Lib.hid p3'
      clear p1' p2' p3'
      generalize encBt b = EB at *
      go_wp2_with fail
      go_ret2
      obtain ⟨A', c', hv, hc'⟩ := own_slice P3.out
      injection hv with h1 h2 h3
      subst h1; subst h3
      exact ⟨_, _, rfl, Reads.of_own P3.out, hc', BEL.out⟩

theorem RcMay_no (b : Bat) (A1 : Option Addr) (c1 : Nat) (w : World) (hr : Reads w w.heap.size 2 A1 b.rs.length (cellsR b.rs)) (hm : mayBt b = false) :
    Calls Tryz.prog 107 #[(.agg #[.int .i64 b.pid, .int .i64 b.ep, .int .i64 b.seq, .bool b.txn, .slice A1 b.rs.length c1])] w fun e w' => ∃ g, e = .returned (.tuple #[.slice none 0 0, .iface 177 (.pointer (some ⟨g, 0, none⟩))]) ∧ w'.cell? ⟨g, 1, none⟩ = some (.int .i64 2) ∧ Below w.heap.size w w' := by
  have hmay := RcMay_any b A1 c1 (w.alloc (.cells #[.int .i64 b.pid, .int .i64 b.ep, .int .i64 b.seq, .bool b.txn, .slice A1 b.rs.length c1] 25)) ((hr.alloc (Nat.le_refl _) _).more (by simp))
  rw [hm] at hmay
  have HMAY := Lib.hid hmay
  have HB := Lib.hid ((Below.refl w.heap.size w).alloc (Nat.le_refl _) (.cells #[.int .i64 b.pid, .int .i64 b.ep, .int .i64 b.seq, .bool b.txn, .slice A1 b.rs.length c1] 25))
  clear hr hmay
  go_enter Tryz.func107, Tryz.ntmps107
  go_wp2_with fail
  refine HMAY.out.mono ?_
  rintro e w1 ⟨rfl, hb1⟩
  have bf := btrans HB.out hb1
  go_wp2_with fail
  go_ret2
  exact ⟨w1.heap.size, rfl, by simp, bal bf _⟩
end Go.Proofs.YtckdecodpjfcnaaGreatDoor
namespace Go.Proofs.YtckdecodpjfcnaaGreatDoor
open Go.RowKit

set_option maxHeartbeats 1000000 in
theorem code_rec (b : Nat) (n : Int) (w : World) (hg : HasET w) (hb1 : w.cell? ⟨b, 1, none⟩ = some (.int .i64 n)) :
    Calls Tryz.prog 108 #[.iface 177 (.pointer (some ⟨b, 0, none⟩))] w fun e w' => e = .returned (.int .i64 n) ∧ Below w.heap.size w w' := by
  have hb2 := (World.cell?_alloc_lt w (.cells #[.int .i64 0] 35) ⟨b, 1, none⟩ (cell_lt hb1)).trans hb1
  have HAS := Lib.hid (ErRe.as_any b w.heap.size n (.int .i64 0) (w.alloc (.cells #[.int .i64 0] 35)) (hg.up ((Below.refl _ _).alloc (Nat.le_refl _) _)) hb2 (by simp) (by simp))
  have HBW := Lib.hid (asW_below w n)
  clear hb2 hb1 hg
  go_enter Tryz.func108, Tryz.ntmps108
  go_wp2_with (go_at_call 87; refine HAS.out.mono ?_; rintro e w1 ⟨rfl, hw1⟩; have hc1 : w1.cell? ⟨w.heap.size, 0, none⟩ = some (.int .i64 n) := (by rw [← hw1]; exact asW_cell w n); have HW1 := Lib.hid hw1; clear hw1)
  go_ret
  exact ⟨rfl, by rw [← HW1.out]; exact HBW.out⟩

set_option maxHeartbeats 1000000 in
theorem RcBytes_ok (b : Bat) (A1 : Option Addr) (c1 : Nat) (w : World) (hr : Reads w w.heap.size 2 A1 b.rs.length (cellsR b.rs)) (hm : mayBt b = true) :
    Calls Tryz.prog 88 #[(.agg #[.int .i64 b.pid, .int .i64 b.ep, .int .i64 b.seq, .bool b.txn, .slice A1 b.rs.length c1])] w fun e w' => e = .returned (.tuple #[.string (bs (encBt b)), .int .i64 0]) ∧ Below w.heap.size w w' := by
  have HW := Lib.hid (write_ok b A1 c1 (w.alloc (.cells #[.int .i64 b.pid, .int .i64 b.ep, .int .i64 b.seq, .bool b.txn, .slice A1 b.rs.length c1] 25)) ((hr.alloc (Nat.le_refl _) _).more (by simp)) hm)
  have HB := Lib.hid ((Below.refl w.heap.size w).alloc (Nat.le_refl _) (.cells #[.int .i64 b.pid, .int .i64 b.ep, .int .i64 b.seq, .bool b.txn, .slice A1 b.rs.length c1] 25))
  clear hr hm
  generalize encBt b = L at *
  go_enter Tryz.func88, Tryz.ntmps88
  go_wp2_with fail
  refine HW.out.mono ?_
  rintro e w1 ⟨A2, c2, rfl, hr2, hc2, hb1⟩
  have hcv := run_string_of (P := Tryz.prog) (c := c2) Tryz.underlying46 Tryz.underlying5 Tryz.underlying9 hr2
  have bf := btrans HB.out hb1
  clear hr2 hb1
  go_wp2_with fail
  go_ret2
  exact ⟨rfl, bf⟩
set_option maxHeartbeats 1000000 in
theorem RcBytes_no (b : Bat) (A1 : Option Addr) (c1 : Nat) (w : World) (hr : Reads w w.heap.size 2 A1 b.rs.length (cellsR b.rs)) (hg : HasET w) (hm : mayBt b = false) :
    Calls Tryz.prog 88 #[(.agg #[.int .i64 b.pid, .int .i64 b.ep, .int .i64 b.seq, .bool b.txn, .slice A1 b.rs.length c1])] w fun e w' => e = .returned (.tuple #[.string ByteArray.empty, .int .i64 2]) ∧ Below w.heap.size w w' := by
  have HW := Lib.hid (RcMay_no b A1 c1 (w.alloc (.cells #[.int .i64 b.pid, .int .i64 b.ep, .int .i64 b.seq, .bool b.txn, .slice A1 b.rs.length c1] 25)) ((hr.alloc (Nat.le_refl _) _).more (by simp)) hm)
  have HB := Lib.hid ((Below.refl w.heap.size w).alloc (Nat.le_refl _) (.cells #[.int .i64 b.pid, .int .i64 b.ep, .int .i64 b.seq, .bool b.txn, .slice A1 b.rs.length c1] 25))
  have HG := Lib.hid hg
  clear hr hm hg
  go_enter Tryz.func88, Tryz.ntmps88
  go_wp2_with fail
  refine HW.out.mono ?_
  rintro e w1 ⟨g, rfl, hc1, hb1⟩
  have bf := btrans HB.out hb1
  have HCO := Lib.hid (code_rec g 2 w1 (HG.out.up bf) hc1)
  clear hc1 hb1
  go_wp2_with fail
  refine HCO.out.mono ?_
  rintro e w2 ⟨rfl, hb2⟩
  go_wp2_with fail
  go_ret2
  exact ⟨rfl, btrans bf hb2⟩

/-- Two batches are the same. -/
def sameBt (a b : Bat) : Bool := decide (a.pid = b.pid) && (decide (a.ep = b.ep) && (decide (a.seq = b.seq) && ((a.txn == b.txn) && decide (a.rs = b.rs))))
theorem sameBt_iff (a b : Bat) : sameBt a b = true ↔ a = b := by
  unfold sameBt
  simp only [Bool.and_eq_true, decide_eq_true_eq, beq_iff_eq]
  exact ⟨fun ⟨h1, h2, h3, h4, h5⟩ => Bat.ext' h1 h2 h3 h4 h5, fun h => by subst h; exact ⟨rfl, rfl, rfl, rfl, rfl⟩⟩

theorem toList_inj (s t : ByteArray) : s.toList = t.toList ↔ s = t := by
  rw [toList_lb, toList_lb]; exact ⟨lb_inj, fun h => by rw [h]⟩
theorem eqRec (a b : Rec) (w : World) : (Op.equalIn 10000 60 (.agg #[.string a.1, .string a.2]) (.agg #[.string b.1, .string b.2])).run Tryz.prog w = .ok (decide (a = b)) w := by
  have u3 := Tryz.underlying9
  have hS : Tryz.prog.underlying 60 = some (.struct (Tryz.prog.fieldsOf 60)) := by kernel_rfl
  have hp : Tryz.prog.stoodInHeld 60 = false := by kernel_rfl
  have a3 := Tryz.isAgg9
  have z3 := Tryz.sizeOf9
  obtain ⟨a1, a2⟩ := a
  obtain ⟨b1, b2⟩ := b
  rw [show (10000 : Nat) = 9999 + 1 from rfl, run_equalIn_agg w 9999 60 _ _ hS hp]
  simp only [Program.fieldsOf, Tryz.underlying60]
  go_simp
  by_cases h1 : a1 = b1 <;> by_cases h2 : a2 = b2 <;> simp [h1, h2, toList_inj]
end Go.Proofs.YtckdecodpjfcnaaGreatDoor
namespace Go.Proofs.YtckdecodpjfcnaaGreatDoor
open Go.RowKit

set_option maxRecDepth 100000 in
set_option maxHeartbeats 1000000 in
theorem EqualR_any (A1 A2 : Option Addr) (l1 l2 : List Rec) (c1 c2 B1 B2 : Nat) (w : World) (h1 : Reads w B1 2 A1 l1.length (cellsR l1)) (h2 : Reads w B2 2 A2 l2.length (cellsR l2)) (hl : l1.length ≤ 1000000) :
    Calls Tryz.prog 72 #[.slice A1 l1.length c1, .slice A2 l2.length c2] w fun e w' => e = .returned (.bool (decide (l1 = l2))) ∧ ∃ q, w' = w.drewN q := by
  have hm : Tryz.prog.eqGuardType Tryz.prog.depth 60 = false := by kernel_rfl
  by_cases hlen : l1.length = l2.length
  · have d0 : ((l1.length : Int) != (l2.length : Int)) = false := by rw [hlen]; simp
    have HH1 := Lib.hid h1
    have HH2 := Lib.hid h2
    have HLEN := Lib.hid hlen
    have hl2 : l1.length ≤ l2.length := by omega
    have hl3 : l2.length ≤ l1.length := by omega
    clear h1 h2 hlen
    go_enter Tryz.func72, Tryz.ntmps72
    go_wp2_with fail
    go_loopw [13] (fun y wr => ∃ k q : Nat, k ≤ l1.length ∧ y = .int .i64 k ∧ wr = w.drewN q ∧ l1.take k = l2.take k) (fun y _ => l1.length - (intOf y).toNat)
    case atStart => exact ⟨0, 0, Nat.zero_le _, rfl, rfl, by simp⟩
    case round =>
      obtain ⟨k, q, hk, rfl, rfl, htk⟩ := hrel
      have HTK := Lib.hid htk
      clear htk
      by_cases hlt : k < l1.length
      · have d1 : decide ((k : Int) < (l1.length : Int)) = true := by simp; omega
        obtain ⟨b1, o1, rfl, _, hc1⟩ := HH1.out.plain2 (by omega)
        obtain ⟨b2, o2, rfl, _, hc2⟩ := HH2.out.plain2 (by omega)
        obtain ⟨x, hx⟩ : ∃ z, l1[k]? = some z := ⟨_, List.getElem?_eq_getElem hlt⟩
        obtain ⟨y, hy⟩ : ∃ z, l2[k]? = some z := ⟨_, List.getElem?_eq_getElem (by omega)⟩
        obtain ⟨g1, g2⟩ := hc1 k _ hx
        obtain ⟨g4, g5⟩ := hc2 k _ hy
        have heq := fun W => eqRec x y W
        have i1 : (0 : Int) ≤ (k : Int) := by omega
        have i2 : (k : Int) < (l1.length : Int) := by omega
        have i3 : (k : Int) < (l2.length : Int) := by omega
        have hts := take_snoc_eq HTK.out hx hy
        have HTS := Lib.hid hts
        have HX := Lib.hid hx
        have HY := Lib.hid hy
        clear hc1 hc2 hx hy hts
        by_cases hxy : x = y
        · have HXY := Lib.hid hxy
          rw [decide_eq_true hxy] at heq
          clear hxy
          go_wp2_with fail
          go_quiet (fail)
          go_wp2_with fail
          go_roundw
          case rel => exact ⟨k + 1, _, by omega, by go_num, rfl, HTS.out.2 HXY.out⟩
          case measure => simp [intOf]; omega
        · rw [decide_eq_false hxy] at heq
          have hne : l1 ≠ l2 := ne_of_at HX.out HY.out hxy
          have hf : decide (l1 = l2) = false := by simpa using hne
          have HF := Lib.hid hf
          clear hne hf hxy
          go_wp2_with fail
          go_quiet (fail)
          go_wp2_with fail
          go_ret
          exact ⟨by rw [HF.out]; rfl, _, World.drewN_drewN ..⟩
      · obtain rfl : k = l1.length := by omega
        have d1 : decide ((l1.length : Int) < (l1.length : Int)) = false := by simp
        have he : l1 = l2 := by
          have h3 := HTK.out
          rw [List.take_length, HLEN.out, List.take_length] at h3
          exact h3
        have hf : decide (l1 = l2) = true := by simpa using he
        have HF := Lib.hid hf
        clear he hf
        go_wp2_with fail
        go_ret
        exact ⟨by rw [HF.out]; rfl, _, rfl⟩
  · have d0 : ((l1.length : Int) != (l2.length : Int)) = true := by simp; omega
    have hne : ¬ l1 = l2 := fun h => hlen (by rw [h])
    have hf : decide (l1 = l2) = false := by simpa using hne
    have HF := Lib.hid hf
    clear hf hne hlen h1 h2
    go_enter Tryz.func72, Tryz.ntmps72
    go_wp2_with fail
    go_ret
    exact ⟨by rw [HF.out]; rfl, 0, rfl⟩
set_option maxRecDepth 100000 in
set_option maxHeartbeats 1000000 in
theorem RcSame_pid (a b : Bat) (A1 A2 : Option Addr) (c1 c2 : Nat) (w : World) (h1 : Reads w w.heap.size 2 A1 a.rs.length (cellsR a.rs)) (h2 : Reads w w.heap.size 2 A2 b.rs.length (cellsR b.rs)) (hl : a.rs.length ≤ 1000000)  (hpid : ¬ a.pid = b.pid) :
    Calls Tryz.prog 44 #[(.agg #[.int .i64 a.pid, .int .i64 a.ep, .int .i64 a.seq, .bool a.txn, .slice A1 a.rs.length c1]), (.agg #[.int .i64 b.pid, .int .i64 b.ep, .int .i64 b.seq, .bool b.txn, .slice A2 b.rs.length c2])] w fun e w' => e = .returned (.bool (sameBt a b)) ∧ Below w.heap.size w w' := by
  have hfin : sameBt a b = false := by
    rw [← Bool.not_eq_true, sameBt_iff]; rintro rfl; exact hpid rfl
  have HF := Lib.hid hfin
  have d0 : (a.pid == b.pid) = false := eqb_false hpid
  have HB := Lib.hid (fun x y => bal (bal (Below.refl w.heap.size w) x) y)
  clear h1 h2 hfin hpid
  go_enter Tryz.func44, Tryz.ntmps44
  go_wp2_with fail
  go_ret
  exact ⟨ret_bool HF.out.symm, HB.out _ _⟩
set_option maxRecDepth 100000 in
set_option maxHeartbeats 1000000 in
theorem RcSame_ep (a b : Bat) (A1 A2 : Option Addr) (c1 c2 : Nat) (w : World) (h1 : Reads w w.heap.size 2 A1 a.rs.length (cellsR a.rs)) (h2 : Reads w w.heap.size 2 A2 b.rs.length (cellsR b.rs)) (hl : a.rs.length ≤ 1000000) (hpid : a.pid = b.pid) (hep : ¬ a.ep = b.ep) :
    Calls Tryz.prog 44 #[(.agg #[.int .i64 a.pid, .int .i64 a.ep, .int .i64 a.seq, .bool a.txn, .slice A1 a.rs.length c1]), (.agg #[.int .i64 b.pid, .int .i64 b.ep, .int .i64 b.seq, .bool b.txn, .slice A2 b.rs.length c2])] w fun e w' => e = .returned (.bool (sameBt a b)) ∧ Below w.heap.size w w' := by
  have hfin : sameBt a b = false := by
    rw [← Bool.not_eq_true, sameBt_iff]; rintro rfl; exact hep rfl
  have HF := Lib.hid hfin
  have d0 : (a.pid == b.pid) = true := eqb_true hpid
  have d1 : (a.ep == b.ep) = false := eqb_false hep
  have HB := Lib.hid (fun x y => bal (bal (Below.refl w.heap.size w) x) y)
  clear h1 h2 hfin hpid hep
  go_enter Tryz.func44, Tryz.ntmps44
  go_wp2_with fail
  go_ret
  exact ⟨ret_bool HF.out.symm, HB.out _ _⟩
set_option maxRecDepth 100000 in
set_option maxHeartbeats 1000000 in
theorem RcSame_seq (a b : Bat) (A1 A2 : Option Addr) (c1 c2 : Nat) (w : World) (h1 : Reads w w.heap.size 2 A1 a.rs.length (cellsR a.rs)) (h2 : Reads w w.heap.size 2 A2 b.rs.length (cellsR b.rs)) (hl : a.rs.length ≤ 1000000) (hpid : a.pid = b.pid) (hep : a.ep = b.ep) (hseq : ¬ a.seq = b.seq) :
    Calls Tryz.prog 44 #[(.agg #[.int .i64 a.pid, .int .i64 a.ep, .int .i64 a.seq, .bool a.txn, .slice A1 a.rs.length c1]), (.agg #[.int .i64 b.pid, .int .i64 b.ep, .int .i64 b.seq, .bool b.txn, .slice A2 b.rs.length c2])] w fun e w' => e = .returned (.bool (sameBt a b)) ∧ Below w.heap.size w w' := by
  have hfin : sameBt a b = false := by
    rw [← Bool.not_eq_true, sameBt_iff]; rintro rfl; exact hseq rfl
  have HF := Lib.hid hfin
  have d0 : (a.pid == b.pid) = true := eqb_true hpid
  have d1 : (a.ep == b.ep) = true := eqb_true hep
  have d2 : (a.seq == b.seq) = false := eqb_false hseq
  have HB := Lib.hid (fun x y => bal (bal (Below.refl w.heap.size w) x) y)
  clear h1 h2 hfin hpid hep hseq
  go_enter Tryz.func44, Tryz.ntmps44
  go_wp2_with fail
  go_ret
  exact ⟨ret_bool HF.out.symm, HB.out _ _⟩
set_option maxRecDepth 100000 in
set_option maxHeartbeats 1000000 in
theorem RcSame_txn (a b : Bat) (A1 A2 : Option Addr) (c1 c2 : Nat) (w : World) (h1 : Reads w w.heap.size 2 A1 a.rs.length (cellsR a.rs)) (h2 : Reads w w.heap.size 2 A2 b.rs.length (cellsR b.rs)) (hl : a.rs.length ≤ 1000000) (hpid : a.pid = b.pid) (hep : a.ep = b.ep) (hseq : a.seq = b.seq) (htxn : ¬ a.txn = b.txn) :
    Calls Tryz.prog 44 #[(.agg #[.int .i64 a.pid, .int .i64 a.ep, .int .i64 a.seq, .bool a.txn, .slice A1 a.rs.length c1]), (.agg #[.int .i64 b.pid, .int .i64 b.ep, .int .i64 b.seq, .bool b.txn, .slice A2 b.rs.length c2])] w fun e w' => e = .returned (.bool (sameBt a b)) ∧ Below w.heap.size w w' := by
  have hfin : sameBt a b = false := by
    rw [← Bool.not_eq_true, sameBt_iff]; rintro rfl; exact htxn rfl
  have HF := Lib.hid hfin
  have d0 : (a.pid == b.pid) = true := eqb_true hpid
  have d1 : (a.ep == b.ep) = true := eqb_true hep
  have d2 : (a.seq == b.seq) = true := eqb_true hseq
  have d3 : (a.txn == b.txn) = false := by cases h : a.txn <;> cases h' : b.txn <;> simp_all
  have HB := Lib.hid (fun x y => bal (bal (Below.refl w.heap.size w) x) y)
  clear h1 h2 hfin hpid hep hseq htxn
  go_enter Tryz.func44, Tryz.ntmps44
  go_wp2_with fail
  go_ret
  exact ⟨ret_bool HF.out.symm, HB.out _ _⟩
set_option maxRecDepth 100000 in
set_option maxHeartbeats 1000000 in
theorem RcSame_eq (a b : Bat) (A1 A2 : Option Addr) (c1 c2 : Nat) (w : World) (h1 : Reads w w.heap.size 2 A1 a.rs.length (cellsR a.rs)) (h2 : Reads w w.heap.size 2 A2 b.rs.length (cellsR b.rs)) (hl : a.rs.length ≤ 1000000) (hpid : a.pid = b.pid) (hep : a.ep = b.ep) (hseq : a.seq = b.seq) (htxn : a.txn = b.txn) :
    Calls Tryz.prog 44 #[(.agg #[.int .i64 a.pid, .int .i64 a.ep, .int .i64 a.seq, .bool a.txn, .slice A1 a.rs.length c1]), (.agg #[.int .i64 b.pid, .int .i64 b.ep, .int .i64 b.seq, .bool b.txn, .slice A2 b.rs.length c2])] w fun e w' => e = .returned (.bool (sameBt a b)) ∧ Below w.heap.size w w' := by
  have hfin : sameBt a b = decide (a.rs = b.rs) := by
    unfold sameBt; simp [hpid, hep, hseq, htxn]
  have HF := Lib.hid hfin
  have d0 : (a.pid == b.pid) = true := eqb_true hpid
  have d1 : (a.ep == b.ep) = true := eqb_true hep
  have d2 : (a.seq == b.seq) = true := eqb_true hseq
  have d3 : (a.txn == b.txn) = true := by rw [htxn]; simp
  have HB := Lib.hid (fun x y => bal (bal (Below.refl w.heap.size w) x) y)
  have HE := Lib.hid (EqualR_any A1 A2 a.rs b.rs c1 c2 w.heap.size w.heap.size ((w.alloc (.cells #[.int .i64 a.pid, .int .i64 a.ep, .int .i64 a.seq, .bool a.txn, .slice A1 a.rs.length c1] 25)).alloc (.cells #[.int .i64 b.pid, .int .i64 b.ep, .int .i64 b.seq, .bool b.txn, .slice A2 b.rs.length c2] 25)) ((h1.alloc (Nat.le_refl _) _).alloc (by simp) _) ((h2.alloc (Nat.le_refl _) _).alloc (by simp) _) hl)
  clear h1 h2 hfin hpid hep hseq htxn
  go_enter Tryz.func44, Tryz.ntmps44
  go_wp2_with fail
  refine HE.out.mono ?_
  rintro e w1 ⟨rfl, q, rfl⟩
  go_wp2_with fail
  go_ret
  exact ⟨ret_bool HF.out.symm, below_drewN (HB.out _ _) _⟩
theorem RcSame_any (a b : Bat) (A1 A2 : Option Addr) (c1 c2 : Nat) (w : World) (h1 : Reads w w.heap.size 2 A1 a.rs.length (cellsR a.rs)) (h2 : Reads w w.heap.size 2 A2 b.rs.length (cellsR b.rs)) (hl : a.rs.length ≤ 1000000) :
    Calls Tryz.prog 44 #[(.agg #[.int .i64 a.pid, .int .i64 a.ep, .int .i64 a.seq, .bool a.txn, .slice A1 a.rs.length c1]), (.agg #[.int .i64 b.pid, .int .i64 b.ep, .int .i64 b.seq, .bool b.txn, .slice A2 b.rs.length c2])] w fun e w' => e = .returned (.bool (sameBt a b)) ∧ Below w.heap.size w w' := by
  by_cases hpid : a.pid = b.pid
  · by_cases hep : a.ep = b.ep
    · by_cases hseq : a.seq = b.seq
      · by_cases htxn : a.txn = b.txn
        · exact RcSame_eq a b A1 A2 c1 c2 w h1 h2 hl hpid hep hseq htxn
        · exact RcSame_txn a b A1 A2 c1 c2 w h1 h2 hl hpid hep hseq htxn
      · exact RcSame_seq a b A1 A2 c1 c2 w h1 h2 hl hpid hep hseq
    · exact RcSame_ep a b A1 A2 c1 c2 w h1 h2 hl hpid hep
  · exact RcSame_pid a b A1 A2 c1 c2 w h1 h2 hl hpid
set_option maxRecDepth 100000 in
set_option maxHeartbeats 1000000 in
theorem rRcSame_pid (a b : Bat) (A1 A2 : Option Addr) (c1 c2 : Nat) (w : World) (h1 : Reads w w.heap.size 2 A1 a.rs.length (cellsR a.rs)) (h2 : Reads w w.heap.size 2 A2 b.rs.length (cellsR b.rs)) (hl : a.rs.length ≤ 1000000)  (hpid : ¬ a.pid = b.pid) :
    Calls Tryz.prog 45 #[(.agg #[.int .i64 a.pid, .int .i64 a.ep, .int .i64 a.seq, .bool a.txn, .slice A1 a.rs.length c1]), (.agg #[.int .i64 b.pid, .int .i64 b.ep, .int .i64 b.seq, .bool b.txn, .slice A2 b.rs.length c2])] w fun e w' => e = .returned (.bool (sameBt a b)) ∧ Below w.heap.size w w' := by
  have hfin : sameBt a b = false := by
    rw [← Bool.not_eq_true, sameBt_iff]; rintro rfl; exact hpid rfl
  have HF := Lib.hid hfin
  have d0 : (a.pid != b.pid) = true := ne_true hpid
  have HB := Lib.hid (fun x y => bal (bal (Below.refl w.heap.size w) x) y)
  clear h1 h2 hfin hpid
  go_enter Tryz.func45, Tryz.ntmps45
  go_wp2_with fail
  go_ret
  exact ⟨ret_bool HF.out.symm, HB.out _ _⟩
set_option maxRecDepth 100000 in
set_option maxHeartbeats 1000000 in
theorem rRcSame_ep (a b : Bat) (A1 A2 : Option Addr) (c1 c2 : Nat) (w : World) (h1 : Reads w w.heap.size 2 A1 a.rs.length (cellsR a.rs)) (h2 : Reads w w.heap.size 2 A2 b.rs.length (cellsR b.rs)) (hl : a.rs.length ≤ 1000000) (hpid : a.pid = b.pid) (hep : ¬ a.ep = b.ep) :
    Calls Tryz.prog 45 #[(.agg #[.int .i64 a.pid, .int .i64 a.ep, .int .i64 a.seq, .bool a.txn, .slice A1 a.rs.length c1]), (.agg #[.int .i64 b.pid, .int .i64 b.ep, .int .i64 b.seq, .bool b.txn, .slice A2 b.rs.length c2])] w fun e w' => e = .returned (.bool (sameBt a b)) ∧ Below w.heap.size w w' := by
  have hfin : sameBt a b = false := by
    rw [← Bool.not_eq_true, sameBt_iff]; rintro rfl; exact hep rfl
  have HF := Lib.hid hfin
  have d0 : (a.pid != b.pid) = false := ne_false hpid
  have d1 : (a.ep != b.ep) = true := ne_true hep
  have HB := Lib.hid (fun x y => bal (bal (Below.refl w.heap.size w) x) y)
  clear h1 h2 hfin hpid hep
  go_enter Tryz.func45, Tryz.ntmps45
  go_wp2_with fail
  go_ret
  exact ⟨ret_bool HF.out.symm, HB.out _ _⟩
set_option maxRecDepth 100000 in
set_option maxHeartbeats 1000000 in
theorem rRcSame_seq (a b : Bat) (A1 A2 : Option Addr) (c1 c2 : Nat) (w : World) (h1 : Reads w w.heap.size 2 A1 a.rs.length (cellsR a.rs)) (h2 : Reads w w.heap.size 2 A2 b.rs.length (cellsR b.rs)) (hl : a.rs.length ≤ 1000000) (hpid : a.pid = b.pid) (hep : a.ep = b.ep) (hseq : ¬ a.seq = b.seq) :
    Calls Tryz.prog 45 #[(.agg #[.int .i64 a.pid, .int .i64 a.ep, .int .i64 a.seq, .bool a.txn, .slice A1 a.rs.length c1]), (.agg #[.int .i64 b.pid, .int .i64 b.ep, .int .i64 b.seq, .bool b.txn, .slice A2 b.rs.length c2])] w fun e w' => e = .returned (.bool (sameBt a b)) ∧ Below w.heap.size w w' := by
  have hfin : sameBt a b = false := by
    rw [← Bool.not_eq_true, sameBt_iff]; rintro rfl; exact hseq rfl
  have HF := Lib.hid hfin
  have d0 : (a.pid != b.pid) = false := ne_false hpid
  have d1 : (a.ep != b.ep) = false := ne_false hep
  have d2 : (a.seq != b.seq) = true := ne_true hseq
  have HB := Lib.hid (fun x y => bal (bal (Below.refl w.heap.size w) x) y)
  clear h1 h2 hfin hpid hep hseq
  go_enter Tryz.func45, Tryz.ntmps45
  go_wp2_with fail
  go_ret
  exact ⟨ret_bool HF.out.symm, HB.out _ _⟩
set_option maxRecDepth 100000 in
set_option maxHeartbeats 1000000 in
theorem rRcSame_txn (a b : Bat) (A1 A2 : Option Addr) (c1 c2 : Nat) (w : World) (h1 : Reads w w.heap.size 2 A1 a.rs.length (cellsR a.rs)) (h2 : Reads w w.heap.size 2 A2 b.rs.length (cellsR b.rs)) (hl : a.rs.length ≤ 1000000) (hpid : a.pid = b.pid) (hep : a.ep = b.ep) (hseq : a.seq = b.seq) (htxn : ¬ a.txn = b.txn) :
    Calls Tryz.prog 45 #[(.agg #[.int .i64 a.pid, .int .i64 a.ep, .int .i64 a.seq, .bool a.txn, .slice A1 a.rs.length c1]), (.agg #[.int .i64 b.pid, .int .i64 b.ep, .int .i64 b.seq, .bool b.txn, .slice A2 b.rs.length c2])] w fun e w' => e = .returned (.bool (sameBt a b)) ∧ Below w.heap.size w w' := by
  have hfin : sameBt a b = false := by
    rw [← Bool.not_eq_true, sameBt_iff]; rintro rfl; exact htxn rfl
  have HF := Lib.hid hfin
  have d0 : (a.pid != b.pid) = false := ne_false hpid
  have d1 : (a.ep != b.ep) = false := ne_false hep
  have d2 : (a.seq != b.seq) = false := ne_false hseq
  have d3 : (a.txn == b.txn) = false := by cases h : a.txn <;> cases h' : b.txn <;> simp_all
  have HB := Lib.hid (fun x y => bal (bal (Below.refl w.heap.size w) x) y)
  clear h1 h2 hfin hpid hep hseq htxn
  go_enter Tryz.func45, Tryz.ntmps45
  go_wp2_with fail
  go_ret
  exact ⟨ret_bool HF.out.symm, HB.out _ _⟩
set_option maxRecDepth 100000 in
set_option maxHeartbeats 1000000 in
theorem rRcSame_eq (a b : Bat) (A1 A2 : Option Addr) (c1 c2 : Nat) (w : World) (h1 : Reads w w.heap.size 2 A1 a.rs.length (cellsR a.rs)) (h2 : Reads w w.heap.size 2 A2 b.rs.length (cellsR b.rs)) (hl : a.rs.length ≤ 1000000) (hpid : a.pid = b.pid) (hep : a.ep = b.ep) (hseq : a.seq = b.seq) (htxn : a.txn = b.txn) :
    Calls Tryz.prog 45 #[(.agg #[.int .i64 a.pid, .int .i64 a.ep, .int .i64 a.seq, .bool a.txn, .slice A1 a.rs.length c1]), (.agg #[.int .i64 b.pid, .int .i64 b.ep, .int .i64 b.seq, .bool b.txn, .slice A2 b.rs.length c2])] w fun e w' => e = .returned (.bool (sameBt a b)) ∧ Below w.heap.size w w' := by
  have hfin : sameBt a b = decide (a.rs = b.rs) := by
    unfold sameBt; simp [hpid, hep, hseq, htxn]
  have HF := Lib.hid hfin
  have d0 : (a.pid != b.pid) = false := ne_false hpid
  have d1 : (a.ep != b.ep) = false := ne_false hep
  have d2 : (a.seq != b.seq) = false := ne_false hseq
  have d3 : (a.txn == b.txn) = true := by rw [htxn]; simp
  have HB := Lib.hid (fun x y => bal (bal (Below.refl w.heap.size w) x) y)
  by_cases hlen : a.rs.length = b.rs.length
  · have d5 : ((a.rs.length : Int) != (b.rs.length : Int)) = false := by rw [hlen]; simp
    have HH1 := Lib.hid ((h1.alloc (Nat.le_refl _) (.cells #[.int .i64 a.pid, .int .i64 a.ep, .int .i64 a.seq, .bool a.txn, .slice A1 a.rs.length c1] 25)).alloc (by simp) (.cells #[.int .i64 b.pid, .int .i64 b.ep, .int .i64 b.seq, .bool b.txn, .slice A2 b.rs.length c2] 25))
    have HH2 := Lib.hid ((h2.alloc (Nat.le_refl _) (.cells #[.int .i64 a.pid, .int .i64 a.ep, .int .i64 a.seq, .bool a.txn, .slice A1 a.rs.length c1] 25)).alloc (by simp) (.cells #[.int .i64 b.pid, .int .i64 b.ep, .int .i64 b.seq, .bool b.txn, .slice A2 b.rs.length c2] 25))
    have HLEN := Lib.hid hlen
    have hl2 : a.rs.length ≤ b.rs.length := by omega
    have hl3 : b.rs.length ≤ a.rs.length := by omega
    have x4 := ((Blk.new w 25 #[.int .i64 a.pid, .int .i64 a.ep, .int .i64 a.seq, .bool a.txn, .slice A1 a.rs.length c1]).alloc (.cells #[.int .i64 b.pid, .int .i64 b.ep, .int .i64 b.seq, .bool b.txn, .slice A2 b.rs.length c2] 25)).cell 4
    have kk := Blk.new (w.alloc (.cells #[.int .i64 a.pid, .int .i64 a.ep, .int .i64 a.seq, .bool a.txn, .slice A1 a.rs.length c1] 25)) 25 #[.int .i64 b.pid, .int .i64 b.ep, .int .i64 b.seq, .bool b.txn, .slice A2 b.rs.length c2]
    rw [World.size_alloc] at kk
    have y4 := kk.cell 4
    have HB2 := Lib.hid (HB.out (.cells #[.int .i64 a.pid, .int .i64 a.ep, .int .i64 a.seq, .bool a.txn, .slice A1 a.rs.length c1] 25) (.cells #[.int .i64 b.pid, .int .i64 b.ep, .int .i64 b.seq, .bool b.txn, .slice A2 b.rs.length c2] 25))
    have hm : Tryz.prog.eqGuardType Tryz.prog.depth 60 = false := by kernel_rfl
    clear h1 h2 hlen hfin hpid hep hseq htxn kk HB
    go_enter Tryz.func45, Tryz.ntmps45
    go_wp2_with fail
    generalize hW : (w.alloc (.cells #[.int .i64 a.pid, .int .i64 a.ep, .int .i64 a.seq, .bool a.txn, .slice A1 a.rs.length c1] 25)).alloc (.cells #[.int .i64 b.pid, .int .i64 b.ep, .int .i64 b.seq, .bool b.txn, .slice A2 b.rs.length c2] 25) = W at *
    clear hW
    go_loopw [5] (fun y wr => ∃ k q : Nat, k ≤ a.rs.length ∧ y = .int .i64 k ∧ wr = W.drewN q ∧ a.rs.take k = b.rs.take k) (fun y _ => a.rs.length - (intOf y).toNat)
    case atStart => exact ⟨0, 0, Nat.zero_le _, rfl, rfl, by simp⟩
    case round =>
      obtain ⟨k, q, hk, rfl, rfl, htk⟩ := hrel
      have HTK := Lib.hid htk
      clear htk
      by_cases hlt : k < a.rs.length
      · have d1' : decide ((k : Int) < (a.rs.length : Int)) = true := by simp; omega
        obtain ⟨b1, o1, rfl, _, hc1⟩ := HH1.out.plain2 (by omega)
        obtain ⟨b2, o2, rfl, _, hc2⟩ := HH2.out.plain2 (by omega)
        obtain ⟨x, hx⟩ : ∃ z, a.rs[k]? = some z := ⟨_, List.getElem?_eq_getElem hlt⟩
        obtain ⟨y, hy⟩ : ∃ z, b.rs[k]? = some z := ⟨_, List.getElem?_eq_getElem (by omega)⟩
        obtain ⟨g1, g2⟩ := hc1 k _ hx
        obtain ⟨g4, g5⟩ := hc2 k _ hy
        have heq := fun W => eqRec x y W
        have i1 : (0 : Int) ≤ (k : Int) := by omega
        have i2 : (k : Int) < (a.rs.length : Int) := by omega
        have i3 : (k : Int) < (b.rs.length : Int) := by omega
        have HTS := Lib.hid (take_snoc_eq HTK.out hx hy)
        have HX := Lib.hid hx
        have HY := Lib.hid hy
        clear hc1 hc2 hx hy
        by_cases hxy : x = y
        · have HXY := Lib.hid hxy
          rw [decide_eq_true hxy] at heq
          clear hxy
          go_wp2_with fail
          go_quiet (fail)
          go_wp2_with fail
          go_roundw
          case rel => exact ⟨k + 1, _, by omega, by go_num, rfl, HTS.out.2 HXY.out⟩
          case measure => simp [intOf]; omega
        · rw [decide_eq_false hxy] at heq
          have hne : a.rs ≠ b.rs := ne_of_at HX.out HY.out hxy
          have HN := Lib.hid (decide_eq_false hne)
          clear hne hxy
          go_wp2_with fail
          go_quiet (fail)
          go_wp2_with fail
          go_ret
          exact ⟨ret_bool (by rw [HF.out, HN.out]), below_drewN (below_drewN HB2.out _) _⟩
      · obtain rfl : k = a.rs.length := by omega
        have d1' : decide ((a.rs.length : Int) < (a.rs.length : Int)) = false := by simp
        have he : a.rs = b.rs := by
          have h3 := HTK.out
          rw [List.take_length, HLEN.out, List.take_length] at h3
          exact h3
        have HN := Lib.hid (decide_eq_true he)
        clear he
        go_wp2_with fail
        go_ret
        exact ⟨ret_bool (by rw [HF.out, HN.out]), below_drewN HB2.out _⟩
  · have d5 : ((a.rs.length : Int) != (b.rs.length : Int)) = true := by simp; omega
    have hne : ¬ a.rs = b.rs := fun h => hlen (by rw [h])
    have HN := Lib.hid (decide_eq_false hne)
    clear h1 h2 hlen hfin hpid hep hseq htxn hne
    go_enter Tryz.func45, Tryz.ntmps45
    go_wp2_with fail
    go_ret
    exact ⟨ret_bool (by rw [HF.out, HN.out]), HB.out _ _⟩
theorem rRcSame_any (a b : Bat) (A1 A2 : Option Addr) (c1 c2 : Nat) (w : World) (h1 : Reads w w.heap.size 2 A1 a.rs.length (cellsR a.rs)) (h2 : Reads w w.heap.size 2 A2 b.rs.length (cellsR b.rs)) (hl : a.rs.length ≤ 1000000) :
    Calls Tryz.prog 45 #[(.agg #[.int .i64 a.pid, .int .i64 a.ep, .int .i64 a.seq, .bool a.txn, .slice A1 a.rs.length c1]), (.agg #[.int .i64 b.pid, .int .i64 b.ep, .int .i64 b.seq, .bool b.txn, .slice A2 b.rs.length c2])] w fun e w' => e = .returned (.bool (sameBt a b)) ∧ Below w.heap.size w w' := by
  by_cases hpid : a.pid = b.pid
  · by_cases hep : a.ep = b.ep
    · by_cases hseq : a.seq = b.seq
      · by_cases htxn : a.txn = b.txn
        · exact rRcSame_eq a b A1 A2 c1 c2 w h1 h2 hl hpid hep hseq htxn
        · exact rRcSame_txn a b A1 A2 c1 c2 w h1 h2 hl hpid hep hseq htxn
      · exact rRcSame_seq a b A1 A2 c1 c2 w h1 h2 hl hpid hep hseq
    · exact rRcSame_ep a b A1 A2 c1 c2 w h1 h2 hl hpid hep
  · exact rRcSame_pid a b A1 A2 c1 c2 w h1 h2 hl hpid
end Go.Proofs.YtckdecodpjfcnaaGreatDoor
namespace Go.Proofs.YtckdecodpjfcnaaGreatDoor
open Go.RowKit

abbrev Rw := Int × Int × Int × ByteArray × ByteArray
end Go.Proofs.YtckdecodpjfcnaaGreatDoor
