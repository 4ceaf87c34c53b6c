/-
  The card of EntryBack is proved: for every input the call returns true, and each argument reads as before. No condition but the row's own list, which the card ties to the program's text.
  Layer 7: Great of entries.
  The statement EntryBack: its walk.
  Arguments that are structs and slices of structs, opened. (After the guide's page on structs.)
  Arguments that are batches, opened.
  Arguments that are requests, and slices of requests, opened.
  Arguments that are entries, producers, opened.
-/
import Derived.Test.YtckdecodpjfcnaaGreatDoorGrp30
import Derived.Deep.Slices
import Derived.Deep.Fields
import Derived.ChangeSame
import Derived.Lib.SmallJoins
import Derived.Test.YtckdecodpjfcnaaGreatDoorGrp23
import Derived.Test.YtckdecodpjfcnaaGreatDoorGrp04
import Derived.Test.YtckdecodpjfcnaaGreatDoorGrp19
set_option linter.unusedVariables false
set_option linter.unusedSimpArgs false
namespace Go.Proofs.YtckdecodpjfcnaaGreatDoor
open Go.RowKit

def bigR7 (r : Rec) : Bool := decide (200 < r.1.size) || decide (200 < r.2.size)
def headG (x : En) : Bool := decide (40 < x.b.rs.length) || (decide (200 < x.row.2.2.2.1.size) || (decide (200 < x.row.2.2.2.2.size) || decide (40 < x.prod.seen.length)))
/-- An entry that is too great. -/
def greatEn (x : En) : Bool := headG x || x.b.rs.any bigR7
theorem not_greatEn {x : En} (h : greatEn x = false) : x.b.rs.length ≤ 40 ∧ x.prod.seen.length ≤ 40 := by
  unfold greatEn headG at h
  simp only [Bool.or_eq_false_iff, decide_eq_false_iff_not] at h
  omega
set_option maxRecDepth 100000 in
set_option maxHeartbeats 2000000 in
theorem EnGreat_any (x : En) (A1 D1 : Option Addr) (c1 e1 : Nat) (w : World) (hr : Reads w w.heap.size 2 A1 x.b.rs.length (cellsR x.b.rs)) :
    Calls Tryz.prog 9 #[(.agg #[.int .i8 x.kd, .int .i64 x.b.pid, .int .i64 x.b.ep, .int .i64 x.b.seq, .bool x.b.txn, .slice A1 x.b.rs.length c1, .bool x.yes, .int .i64 x.nx, .int .i64 x.off, .int .i64 x.row.1, .int .i64 x.row.2.1, .int .i64 x.row.2.2.1, .string x.row.2.2.2.1, .string x.row.2.2.2.2, .int .i64 x.prod.pid, .int .i64 x.prod.ep, .int .i64 x.prod.nx, .slice D1 x.prod.seen.length e1])] w fun e w' => e = .returned (.bool (greatEn x)) ∧ Below w.heap.size w w' := by
  have HR := Lib.hid (hr.alloc (Nat.le_refl _) (.cells #[.int .i8 x.kd, .int .i64 x.b.pid, .int .i64 x.b.ep, .int .i64 x.b.seq, .bool x.b.txn, .slice A1 x.b.rs.length c1, .bool x.yes, .int .i64 x.nx, .int .i64 x.off, .int .i64 x.row.1, .int .i64 x.row.2.1, .int .i64 x.row.2.2.1, .string x.row.2.2.2.1, .string x.row.2.2.2.2, .int .i64 x.prod.pid, .int .i64 x.prod.ep, .int .i64 x.prod.nx, .slice D1 x.prod.seen.length e1] 32))
  have HB := Lib.hid (bal (Below.refl w.heap.size w) (.cells #[.int .i8 x.kd, .int .i64 x.b.pid, .int .i64 x.b.ep, .int .i64 x.b.seq, .bool x.b.txn, .slice A1 x.b.rs.length c1, .bool x.yes, .int .i64 x.nx, .int .i64 x.off, .int .i64 x.row.1, .int .i64 x.row.2.1, .int .i64 x.row.2.2.1, .string x.row.2.2.2.1, .string x.row.2.2.2.2, .int .i64 x.prod.pid, .int .i64 x.prod.ep, .int .i64 x.prod.nx, .slice D1 x.prod.seen.length e1] 32))
  have HG := Lib.hid (show greatEn x = (headG x || x.b.rs.any bigR7) from rfl)
  have HH := Lib.hid (show headG x = (decide (40 < x.b.rs.length) || (decide (200 < x.row.2.2.2.1.size) || (decide (200 < x.row.2.2.2.2.size) || decide (40 < x.prod.seen.length)))) from rfl)
  have kb := Blk.new w 32 #[.int .i8 x.kd, .int .i64 x.b.pid, .int .i64 x.b.ep, .int .i64 x.b.seq, .bool x.b.txn, .slice A1 x.b.rs.length c1, .bool x.yes, .int .i64 x.nx, .int .i64 x.off, .int .i64 x.row.1, .int .i64 x.row.2.1, .int .i64 x.row.2.2.1, .string x.row.2.2.2.1, .string x.row.2.2.2.2, .int .i64 x.prod.pid, .int .i64 x.prod.ep, .int .i64 x.prod.nx, .slice D1 x.prod.seen.length e1]
  have x5 := kb.cell 5
  have x12 := kb.cell 12
  have x13 := kb.cell 13
  have x17 := kb.cell 17
  clear hr kb
  by_cases h1 : 40 < x.b.rs.length
  · have d1 : decide ((40 : Int) < (x.b.rs.length : Int)) = true := by simp; omega
    have HF := Lib.hid (show greatEn x = true by rw [HG.out, HH.out, decide_eq_true h1]; rfl)
    clear h1
    go_enter Tryz.func9, Tryz.ntmps9
    go_wp2_with fail
    go_ret
    exact ⟨ret_bool HF.out.symm, HB.out⟩
  have d1 : decide ((40 : Int) < (x.b.rs.length : Int)) = false := by simp; omega
  by_cases h2 : 200 < x.row.2.2.2.1.size
  · have d2 : decide ((200 : Int) < (x.row.2.2.2.1.size : Int)) = true := by simp; omega
    have HF := Lib.hid (show greatEn x = true by rw [HG.out, HH.out, decide_eq_true h2, decide_eq_false h1]; rfl)
    clear h1 h2
    go_enter Tryz.func9, Tryz.ntmps9
    go_wp2_with fail
    go_ret
    exact ⟨ret_bool HF.out.symm, HB.out⟩
  have d2 : decide ((200 : Int) < (x.row.2.2.2.1.size : Int)) = false := by simp; omega
  by_cases h3 : 200 < x.row.2.2.2.2.size
  · have d3 : decide ((200 : Int) < (x.row.2.2.2.2.size : Int)) = true := by simp; omega
    have HF := Lib.hid (show greatEn x = true by rw [HG.out, HH.out, decide_eq_true h3, decide_eq_false h1, decide_eq_false h2]; rfl)
    clear h1 h2 h3
    go_enter Tryz.func9, Tryz.ntmps9
    go_wp2_with fail
    go_ret
    exact ⟨ret_bool HF.out.symm, HB.out⟩
  have d3 : decide ((200 : Int) < (x.row.2.2.2.2.size : Int)) = false := by simp; omega
  by_cases h4 : 40 < x.prod.seen.length
  · have d4 : decide ((40 : Int) < (x.prod.seen.length : Int)) = true := by simp; omega
    have HF := Lib.hid (show greatEn x = true by rw [HG.out, HH.out, decide_eq_true h4, decide_eq_false h1, decide_eq_false h2, decide_eq_false h3]; rfl)
    clear h1 h2 h3 h4
    go_enter Tryz.func9, Tryz.ntmps9
    go_wp2_with fail
    go_ret
    exact ⟨ret_bool HF.out.symm, HB.out⟩
  have d4 : decide ((40 : Int) < (x.prod.seen.length : Int)) = false := by simp; omega
  have HG2 := Lib.hid (show greatEn x = x.b.rs.any bigR7 by rw [HG.out, HH.out, decide_eq_false h1, decide_eq_false h2, decide_eq_false h3, decide_eq_false h4]; rfl)
  clear h2 h3 h4
  go_enter Tryz.func9, Tryz.ntmps9
  go_wp2_with fail
  generalize hW : w.alloc (.cells #[.int .i8 x.kd, .int .i64 x.b.pid, .int .i64 x.b.ep, .int .i64 x.b.seq, .bool x.b.txn, .slice A1 x.b.rs.length c1, .bool x.yes, .int .i64 x.nx, .int .i64 x.off, .int .i64 x.row.1, .int .i64 x.row.2.1, .int .i64 x.row.2.2.1, .string x.row.2.2.2.1, .string x.row.2.2.2.2, .int .i64 x.prod.pid, .int .i64 x.prod.ep, .int .i64 x.prod.nx, .slice D1 x.prod.seen.length e1] 32) = W at *
  clear hW
  go_loopw [3] (fun y wr => ∃ k : Nat, k ≤ x.b.rs.length ∧ y = .int .i64 k ∧ wr = W ∧ (x.b.rs.take k).any bigR7 = false) (fun y _ => x.b.rs.length - (intOf y).toNat)
  case atStart => exact ⟨0, Nat.zero_le _, rfl, rfl, by simp⟩
  case round =>
    obtain ⟨k, hk, rfl, rfl, hany⟩ := hrel
    have HANY := Lib.hid hany
    clear hany
    by_cases hlt : k < x.b.rs.length
    · have e1 : decide ((k : Int) < (x.b.rs.length : Int)) = true := by simp; omega
      obtain ⟨b1, o1, hA, _, hc1⟩ := HR.out.plain2 (by omega)
      obtain ⟨r, hx⟩ : ∃ z, x.b.rs[k]? = some z := ⟨_, List.getElem?_eq_getElem hlt⟩
      obtain ⟨g1, g2⟩ := hc1 k _ hx
      have HSN := Lib.hid (show (x.b.rs.take (k + 1)).any bigR7 = ((x.b.rs.take k).any bigR7 || bigR7 r) by rw [List.take_add_one, hx]; simp)
      have HBW := Lib.hid (show bigR7 r = (decide (200 < r.1.size) || decide (200 < r.2.size)) from rfl)
      have HMEM := Lib.hid (List.mem_of_getElem? hx)
      have i1 : (0 : Int) ≤ (k : Int) := by omega
      have i2 : (k : Int) < (x.b.rs.length : Int) := by omega
      clear hc1 hx
      subst hA
      by_cases hb1 : 200 < r.1.size
      · have f2 : decide ((200 : Int) < (r.1.size : Int)) = true := by simp; omega
        have HF := Lib.hid (show greatEn x = true by rw [HG2.out, List.any_eq_true]; exact ⟨r, HMEM.out, by rw [HBW.out]; simp [hb1]⟩)
        go_wp2_with fail
        go_ret
        exact ⟨ret_bool HF.out.symm, HB.out⟩
      have f2 : decide ((200 : Int) < (r.1.size : Int)) = false := by simp; omega
      by_cases hb2 : 200 < r.2.size
      · have f3 : decide ((200 : Int) < (r.2.size : Int)) = true := by simp; omega
        have HF := Lib.hid (show greatEn x = true by rw [HG2.out, List.any_eq_true]; exact ⟨r, HMEM.out, by rw [HBW.out]; simp [hb2]⟩)
        go_wp2_with fail
        go_ret
        exact ⟨ret_bool HF.out.symm, HB.out⟩
      have f3 : decide ((200 : Int) < (r.2.size : Int)) = false := by simp; omega
      go_wp2_with fail
      go_roundw
      case rel => exact ⟨k + 1, by omega, by go_num, trivial, by rw [HSN.out, HANY.out, HBW.out]; simp [hb1, hb2]⟩
      case measure => simp [intOf]; omega
    · obtain rfl : k = x.b.rs.length := by omega
      have e1 : decide ((x.b.rs.length : Int) < (x.b.rs.length : Int)) = false := by simp
      have HF := Lib.hid (show greatEn x = false by rw [HG2.out]; have := HANY.out; rwa [List.take_length] at this)
      go_wp2_with fail
      go_ret
      exact ⟨ret_bool HF.out.symm, HB.out⟩
end Go.Proofs.YtckdecodpjfcnaaGreatDoor
namespace Go.Proofs.YtckdecodpjfcnaaGreatDoor
open Go.RowKit

theorem encEn_len {x : En} (hm : mayEn x = true) : (encEn x).length ≤ 1000 := by
  have hok : okEn x = true := by unfold mayEn at hm; rw [Bool.and_eq_true] at hm; exact hm.1
  have hh : x.kd = 0 ∨ x.kd = 1 ∨ x.kd = 2 ∨ x.kd = 3 ∨ x.kd = 4 ∨ x.kd = 5 ∨ x.kd = 6 := by
    unfold okEn at hok
    by_cases h0 : x.kd = 0
    · exact .inl h0
    by_cases h1 : x.kd = 1
    · exact .inr (.inl h1)
    by_cases h2 : x.kd = 2
    · exact .inr (.inr (.inl h2))
    by_cases h3 : x.kd = 3
    · exact .inr (.inr (.inr (.inl h3)))
    by_cases h4 : x.kd = 4
    · exact .inr (.inr (.inr (.inr (.inl h4))))
    by_cases h5 : x.kd = 5
    · exact .inr (.inr (.inr (.inr (.inr (.inl h5)))))
    by_cases h6 : x.kd = 6
    · exact .inr (.inr (.inr (.inr (.inr (.inr h6)))))
    rw [if_neg h3, if_neg h0, if_neg h4, if_neg h1, if_neg h2, if_neg h5, if_neg h6] at hok
    cases hok
  have hk1 : (enc x.kd.toNat).length ≤ 3 := enc_len3x _ (by omega)
  unfold okEn at hok
  rcases hh with hk | hk | hk | hk | hk | hk | hk
  · rw [hk] at hok
    have hmb : mayBt x.b = true := hok
    have h2 := (encBt_len x.b hmb).1
    have e : encEn x = enc x.kd.toNat ++ encBt x.b := by unfold encEn encE; rw [hk]; rfl
    rw [e, List.length_append]; omega
  · rw [hk] at hok
    have hp : prodB x.b.pid x.b.ep = true := hok
    unfold prodB at hp
    simp only [Bool.and_eq_true, decide_eq_true_eq] at hp
    have e1 := enc_len3x x.b.pid.toNat (by omega)
    have e2 := enc_len3x x.b.ep.toNat (by omega)
    have e : encEn x = enc x.kd.toNat ++ (enc x.b.pid.toNat ++ (enc x.b.ep.toNat ++ encY x.yes)) := by unfold encEn encE; rw [hk]; rfl
    have e3 : (encY x.yes).length = 1 := rfl
    rw [e, List.length_append, List.length_append, List.length_append]; omega
  · rw [hk] at hok
    have hp : seqB x.off = true := hok
    unfold seqB at hp
    rw [decide_eq_true_eq] at hp
    have e1 := enc_len3x x.off.toNat (by omega)
    have e : encEn x = enc x.kd.toNat ++ enc x.off.toNat := by unfold encEn encE; rw [hk]; rfl
    rw [e, List.length_append]; omega
  · rw [hk] at hok
    have hp : ((x.b.txn && (!x.yes || seqB x.nx)) && mayBt x.b) = true := hok
    rw [Bool.and_eq_true, Bool.and_eq_true] at hp
    have h2 := (encBt_len x.b hp.2).1
    have e : encEn x = enc x.kd.toNat ++ (encBt x.b ++ (encY x.yes ++ (cIf x.yes).e x.nx)) := by unfold encEn encE; rw [hk]; rfl
    have e3 : (encY x.yes).length = 1 := rfl
    have e4 : ((cIf x.yes).e x.nx).length ≤ 3 := by
      have hs := hp.1.2
      cases hy : x.yes
      · exact Nat.zero_le _
      · rw [hy] at hs
        have hs : seqB x.nx = true := hs
        unfold seqB at hs
        rw [decide_eq_true_eq] at hs
        exact enc_len3x x.nx.toNat (by omega)
    rw [e, List.length_append, List.length_append, List.length_append]; omega
  · rw [hk] at hok
    have hp : ((!x.yes && seqB x.nx) && prodB x.b.pid x.b.ep) = true := hok
    unfold prodB seqB at hp
    simp only [Bool.and_eq_true, decide_eq_true_eq] at hp
    have e1 := enc_len3x x.b.pid.toNat (by omega)
    have e2 := enc_len3x x.b.ep.toNat (by omega)
    have e3 := enc_len3x x.nx.toNat (by omega)
    have e : encEn x = enc x.kd.toNat ++ (enc x.b.pid.toNat ++ (enc x.b.ep.toNat ++ enc x.nx.toNat)) := by unfold encEn encE; rw [hk]; rfl
    rw [e, List.length_append, List.length_append, List.length_append]; omega
  · rw [hk] at hok
    have hp : rowB x.row = true := hok
    unfold rowB at hp
    simp only [Bool.and_eq_true, decide_eq_true_eq] at hp
    have e1 := enc_len3x x.row.2.1.toNat (by omega)
    have e2 := enc_len3x x.row.2.2.1.toNat (by omega)
    have e3 := (encT_len x.row.2.2.2.1 hp.2.2.2.1).1
    have e4 := (encT_len x.row.2.2.2.2 hp.2.2.2.2).1
    have e : encEn x = enc x.kd.toNat ++ (enc x.row.2.1.toNat ++ (enc x.row.2.2.1.toNat ++ ((cTxt 1024).e (lb x.row.2.2.2.1) ++ (cTxt 1024).e (lb x.row.2.2.2.2)))) := by unfold encEn encE; rw [hk]; rfl
    rw [e, List.length_append, List.length_append, List.length_append, List.length_append]; omega
  · rw [hk] at hok
    have hp : knownB x.prod = true := hok
    have hf := known_facts hp
    have e1 := enc_len3x x.prod.pid.toNat (by omega)
    have e2 := enc_len3x x.prod.ep.toNat (by omega)
    have e3 := enc_len3x x.prod.nx.toNat (by omega)
    have e4 := enc_len3x x.prod.seen.length (by omega)
    have e5 := encSns_len x.prod.seen hf.2.2.2.2
    have e : encEn x = enc x.kd.toNat ++ (enc x.prod.pid.toNat ++ (enc x.prod.ep.toNat ++ (enc x.prod.nx.toNat ++ (enc x.prod.seen.length ++ x.prod.seen.flatMap encSn)))) := by unfold encEn encE; rw [hk]; rfl
    rw [e, List.length_append, List.length_append, List.length_append, List.length_append, List.length_append]; omega

section
attribute [-go_sem] loadCells storeVar
set_option maxRecDepth 100000 in
set_option maxHeartbeats 8000000 in
theorem enback_great (x : En) (A1 D1 : Option Addr) (c1 e1 : Nat) (s : ByteArray) (w : World) (hg : HasET w) (hr : Reads w w.heap.size 2 A1 x.b.rs.length (cellsR x.b.rs)) (hgr : greatEn x = true) :
    Calls Tryz.prog 5 #[(.agg #[.int .i8 x.kd, .int .i64 x.b.pid, .int .i64 x.b.ep, .int .i64 x.b.seq, .bool x.b.txn, .slice A1 x.b.rs.length c1, .bool x.yes, .int .i64 x.nx, .int .i64 x.off, .int .i64 x.row.1, .int .i64 x.row.2.1, .int .i64 x.row.2.2.1, .string x.row.2.2.2.1, .string x.row.2.2.2.2, .int .i64 x.prod.pid, .int .i64 x.prod.ep, .int .i64 x.prod.nx, .slice D1 x.prod.seen.length e1]), .string s] w fun e w' => e = .returned (.bool true) ∧ Below w.heap.size w w' := by
  have hb0 : Below w.heap.size w (w.alloc (.cells #[.int .i8 x.kd, .int .i64 x.b.pid, .int .i64 x.b.ep, .int .i64 x.b.seq, .bool x.b.txn, .slice A1 x.b.rs.length c1, .bool x.yes, .int .i64 x.nx, .int .i64 x.off, .int .i64 x.row.1, .int .i64 x.row.2.1, .int .i64 x.row.2.2.1, .string x.row.2.2.2.1, .string x.row.2.2.2.2, .int .i64 x.prod.pid, .int .i64 x.prod.ep, .int .i64 x.prod.nx, .slice D1 x.prod.seen.length e1] 32)) := bal (Below.refl _ _) _
  have GR := Lib.hid (EnGreat_any x A1 D1 c1 e1 _ ((hr.below hb0).more hb0.size))
  have LC := cells_blk (Blk.new w 32 #[.int .i8 x.kd, .int .i64 x.b.pid, .int .i64 x.b.ep, .int .i64 x.b.seq, .bool x.b.txn, .slice A1 x.b.rs.length c1, .bool x.yes, .int .i64 x.nx, .int .i64 x.off, .int .i64 x.row.1, .int .i64 x.row.2.1, .int .i64 x.row.2.2.1, .string x.row.2.2.2.1, .string x.row.2.2.2.2, .int .i64 x.prod.pid, .int .i64 x.prod.ep, .int .i64 x.prod.nx, .slice D1 x.prod.seen.length e1]) rfl
  have K0 := Lib.hid (Blk.new w 32 #[.int .i8 x.kd, .int .i64 x.b.pid, .int .i64 x.b.ep, .int .i64 x.b.seq, .bool x.b.txn, .slice A1 x.b.rs.length c1, .bool x.yes, .int .i64 x.nx, .int .i64 x.off, .int .i64 x.row.1, .int .i64 x.row.2.1, .int .i64 x.row.2.2.1, .string x.row.2.2.2.1, .string x.row.2.2.2.2, .int .i64 x.prod.pid, .int .i64 x.prod.ep, .int .i64 x.prod.nx, .slice D1 x.prod.seen.length e1])
  have B0 := Lib.hid hb0
  have WK := Lib.hid (fun W (h : Below w.heap.size w W) => wakes07 W (hg.up h))
  rw [hgr] at GR
  clear hgr
  clear hg hr hb0
  go_enter Tryz.func5, Tryz.ntmps5
  go_wp2_with fail
  refine GR.out.mono ?_
  rintro e w1 ⟨rfl, b1⟩
  have B1 := Lib.hid (btrans B0.out b1)
  clear b1
  go_wp2_with fail
  refine (WK.out _ B1.out).mono ?_
  rintro e w2 ⟨rfl, b2⟩
  go_wp2_with fail
  go_ret
  exact ⟨rfl, btrans B1.out b2⟩
set_option maxRecDepth 100000 in
set_option maxHeartbeats 8000000 in
theorem enback_long (x : En) (A1 D1 : Option Addr) (c1 e1 : Nat) (s : ByteArray) (w : World) (hg : HasET w) (hr : EnR w x A1 D1) (hgr : greatEn x = false) (hl : 2000 < s.size) :
    Calls Tryz.prog 5 #[(.agg #[.int .i8 x.kd, .int .i64 x.b.pid, .int .i64 x.b.ep, .int .i64 x.b.seq, .bool x.b.txn, .slice A1 x.b.rs.length c1, .bool x.yes, .int .i64 x.nx, .int .i64 x.off, .int .i64 x.row.1, .int .i64 x.row.2.1, .int .i64 x.row.2.2.1, .string x.row.2.2.2.1, .string x.row.2.2.2.2, .int .i64 x.prod.pid, .int .i64 x.prod.ep, .int .i64 x.prod.nx, .slice D1 x.prod.seen.length e1]), .string s] w fun e w' => e = .returned (.bool true) ∧ Below w.heap.size w w' := by
  have hb0 : Below w.heap.size w (w.alloc (.cells #[.int .i8 x.kd, .int .i64 x.b.pid, .int .i64 x.b.ep, .int .i64 x.b.seq, .bool x.b.txn, .slice A1 x.b.rs.length c1, .bool x.yes, .int .i64 x.nx, .int .i64 x.off, .int .i64 x.row.1, .int .i64 x.row.2.1, .int .i64 x.row.2.2.1, .string x.row.2.2.2.1, .string x.row.2.2.2.2, .int .i64 x.prod.pid, .int .i64 x.prod.ep, .int .i64 x.prod.nx, .slice D1 x.prod.seen.length e1] 32)) := bal (Below.refl _ _) _
  have GR := Lib.hid (EnGreat_any x A1 D1 c1 e1 _ (hr.up hb0).1)
  have LC := cells_blk (Blk.new w 32 #[.int .i8 x.kd, .int .i64 x.b.pid, .int .i64 x.b.ep, .int .i64 x.b.seq, .bool x.b.txn, .slice A1 x.b.rs.length c1, .bool x.yes, .int .i64 x.nx, .int .i64 x.off, .int .i64 x.row.1, .int .i64 x.row.2.1, .int .i64 x.row.2.2.1, .string x.row.2.2.2.1, .string x.row.2.2.2.2, .int .i64 x.prod.pid, .int .i64 x.prod.ep, .int .i64 x.prod.nx, .slice D1 x.prod.seen.length e1]) rfl
  have K0 := Lib.hid (Blk.new w 32 #[.int .i8 x.kd, .int .i64 x.b.pid, .int .i64 x.b.ep, .int .i64 x.b.seq, .bool x.b.txn, .slice A1 x.b.rs.length c1, .bool x.yes, .int .i64 x.nx, .int .i64 x.off, .int .i64 x.row.1, .int .i64 x.row.2.1, .int .i64 x.row.2.2.1, .string x.row.2.2.2.1, .string x.row.2.2.2.2, .int .i64 x.prod.pid, .int .i64 x.prod.ep, .int .i64 x.prod.nx, .slice D1 x.prod.seen.length e1])
  have B0 := Lib.hid hb0
  have WK := Lib.hid (fun W (h : Below w.heap.size w W) => wakes07 W (hg.up h))
  rw [hgr] at GR
  have d1 : decide ((2000 : Int) < (s.size : Int)) = true := by simp; omega
  clear hgr hl
  clear hg hr hb0
  go_enter Tryz.func5, Tryz.ntmps5
  go_wp2_with fail
  refine GR.out.mono ?_
  rintro e w1 ⟨rfl, b1⟩
  have B1 := Lib.hid (btrans B0.out b1)
  clear b1
  go_wp2_with fail
  refine (WK.out _ B1.out).mono ?_
  rintro e w2 ⟨rfl, b2⟩
  go_wp2_with fail
  go_ret
  exact ⟨rfl, btrans B1.out b2⟩
set_option maxRecDepth 100000 in
set_option maxHeartbeats 8000000 in
theorem enback_ok11 (x : En) (A1 D1 : Option Addr) (c1 e1 : Nat) (s : ByteArray) (w : World) (hg : HasET w) (hr : EnR w x A1 D1) (hgr : greatEn x = false) (hl : s.size ≤ 2000) (hm : mayEn x = true) (q : En) (hq : readE 1 1048575 6 (lb s) = (q, 0)) (hv : mayEn q = true) (hlq : lb s = encEn q) :
    Calls Tryz.prog 5 #[(.agg #[.int .i8 x.kd, .int .i64 x.b.pid, .int .i64 x.b.ep, .int .i64 x.b.seq, .bool x.b.txn, .slice A1 x.b.rs.length c1, .bool x.yes, .int .i64 x.nx, .int .i64 x.off, .int .i64 x.row.1, .int .i64 x.row.2.1, .int .i64 x.row.2.2.1, .string x.row.2.2.2.1, .string x.row.2.2.2.2, .int .i64 x.prod.pid, .int .i64 x.prod.ep, .int .i64 x.prod.nx, .slice D1 x.prod.seen.length e1]), .string s] w fun e w' => e = .returned (.bool true) ∧ Below w.heap.size w w' := by
  have hb0 : Below w.heap.size w (w.alloc (.cells #[.int .i8 x.kd, .int .i64 x.b.pid, .int .i64 x.b.ep, .int .i64 x.b.seq, .bool x.b.txn, .slice A1 x.b.rs.length c1, .bool x.yes, .int .i64 x.nx, .int .i64 x.off, .int .i64 x.row.1, .int .i64 x.row.2.1, .int .i64 x.row.2.2.1, .string x.row.2.2.2.1, .string x.row.2.2.2.2, .int .i64 x.prod.pid, .int .i64 x.prod.ep, .int .i64 x.prod.nx, .slice D1 x.prod.seen.length e1] 32)) := bal (Below.refl _ _) _
  have GR := Lib.hid (EnGreat_any x A1 D1 c1 e1 _ (hr.up hb0).1)
  have LC := cells_blk (Blk.new w 32 #[.int .i8 x.kd, .int .i64 x.b.pid, .int .i64 x.b.ep, .int .i64 x.b.seq, .bool x.b.txn, .slice A1 x.b.rs.length c1, .bool x.yes, .int .i64 x.nx, .int .i64 x.off, .int .i64 x.row.1, .int .i64 x.row.2.1, .int .i64 x.row.2.2.1, .string x.row.2.2.2.1, .string x.row.2.2.2.2, .int .i64 x.prod.pid, .int .i64 x.prod.ep, .int .i64 x.prod.nx, .slice D1 x.prod.seen.length e1]) rfl
  have K0 := Lib.hid (Blk.new w 32 #[.int .i8 x.kd, .int .i64 x.b.pid, .int .i64 x.b.ep, .int .i64 x.b.seq, .bool x.b.txn, .slice A1 x.b.rs.length c1, .bool x.yes, .int .i64 x.nx, .int .i64 x.off, .int .i64 x.row.1, .int .i64 x.row.2.1, .int .i64 x.row.2.2.1, .string x.row.2.2.2.1, .string x.row.2.2.2.2, .int .i64 x.prod.pid, .int .i64 x.prod.ep, .int .i64 x.prod.nx, .slice D1 x.prod.seen.length e1])
  have B0 := Lib.hid hb0
  have WK := Lib.hid (fun W (h : Below w.heap.size w W) => wakes07 W (hg.up h))
  rw [hgr] at GR
  have d1 : decide ((2000 : Int) < (s.size : Int)) = false := by simp; omega
  have RD := Lib.hid (fun (W : World) (h : Below w.heap.size w W) => show Calls Tryz.prog 21 #[.string s] W (ErRd q 0 W) from by
    have := EnRead_any s W (by omega) (hg.up h)
    rw [hq] at this
    exact this)
  have hln := encEn_len hm
  have BY := Lib.hid (fun (W : World) (h : Below w.heap.size w W) => show Calls Tryz.prog 11 #[(.agg #[.int .i8 x.kd, .int .i64 x.b.pid, .int .i64 x.b.ep, .int .i64 x.b.seq, .bool x.b.txn, .slice A1 x.b.rs.length c1, .bool x.yes, .int .i64 x.nx, .int .i64 x.off, .int .i64 x.row.1, .int .i64 x.row.2.1, .int .i64 x.row.2.2.1, .string x.row.2.2.2.1, .string x.row.2.2.2.2, .int .i64 x.prod.pid, .int .i64 x.prod.ep, .int .i64 x.prod.nx, .slice D1 x.prod.seen.length e1])] W (fun e w' => e = .returned (.tuple #[.string (bs (encEn x)), .int .i64 0]) ∧ Below W.heap.size W w') from EnBytes_any x hm A1 D1 c1 e1 W (hg.up h) (hr.up h))
  have hsz : (bs (encEn x)).size = (encEn x).length := size_bs _
  have RX := Lib.hid (fun (W : World) (h : Below w.heap.size w W) => show Calls Tryz.prog 21 #[.string (bs (encEn x))] W (ErRd x 0 W) from by
    have := EnRead_any (bs (encEn x)) W (by omega) (hg.up h)
    rw [lb_bs, readE_ok (Nat.le_refl _) (Nat.le_refl _) (by decide) (Nat.le_refl _) (by decide) hm] at this
    exact this)
  have SM := Lib.hid (fun W A5 D5 c5 e5 (h : Below w.heap.size w W) (h5 : EnR W x A5 D5) => show Calls Tryz.prog 15 #[(.agg #[.int .i8 x.kd, .int .i64 x.b.pid, .int .i64 x.b.ep, .int .i64 x.b.seq, .bool x.b.txn, .slice A1 x.b.rs.length c1, .bool x.yes, .int .i64 x.nx, .int .i64 x.off, .int .i64 x.row.1, .int .i64 x.row.2.1, .int .i64 x.row.2.2.1, .string x.row.2.2.2.1, .string x.row.2.2.2.2, .int .i64 x.prod.pid, .int .i64 x.prod.ep, .int .i64 x.prod.nx, .slice D1 x.prod.seen.length e1]), (.agg #[.int .i8 x.kd, .int .i64 x.b.pid, .int .i64 x.b.ep, .int .i64 x.b.seq, .bool x.b.txn, .slice A5 x.b.rs.length c5, .bool x.yes, .int .i64 x.nx, .int .i64 x.off, .int .i64 x.row.1, .int .i64 x.row.2.1, .int .i64 x.row.2.2.1, .string x.row.2.2.2.1, .string x.row.2.2.2.2, .int .i64 x.prod.pid, .int .i64 x.prod.ep, .int .i64 x.prod.nx, .slice D5 x.prod.seen.length e5])] W (fun e w' => e = .returned (.bool true) ∧ Below W.heap.size W w') from by
    have := EnSame_any x x A1 D1 A5 D5 c1 e1 c5 e5 W (hr.up h) h5
    rw [(sameEn_iff x x).2 rfl] at this
    exact this)
  have MY := Lib.hid (fun W (h : Below w.heap.size w W) => show Calls Tryz.prog 13 #[(.agg #[.int .i8 x.kd, .int .i64 x.b.pid, .int .i64 x.b.ep, .int .i64 x.b.seq, .bool x.b.txn, .slice A1 x.b.rs.length c1, .bool x.yes, .int .i64 x.nx, .int .i64 x.off, .int .i64 x.row.1, .int .i64 x.row.2.1, .int .i64 x.row.2.2.1, .string x.row.2.2.2.1, .string x.row.2.2.2.2, .int .i64 x.prod.pid, .int .i64 x.prod.ep, .int .i64 x.prod.nx, .slice D1 x.prod.seen.length e1])] W (fun e w' => e = .returned (.bool true) ∧ Below W.heap.size W w') from by
    have := EnMay_any x A1 D1 c1 e1 W (hr.up h)
    rw [hm] at this
    exact this)
  obtain ⟨ts, hts⟩ : ∃ ts, ts = bs (encEn x) := ⟨_, rfl⟩
  have d2 : decide ((1024 : Int) < (ts.size : Int)) = false := by rw [hts]; simp; omega
  rw [← hts] at BY RX
  clear hts hsz hln
  have hsq : bs (encEn q) = s := by rw [← hlq, bs_lb]
  have BQ := Lib.hid (fun (W : World) A c D e (h : Below w.heap.size w W) (h5 : EnR W q A D) => show Calls Tryz.prog 11 #[.agg #[.int .i8 q.kd, .int .i64 q.b.pid, .int .i64 q.b.ep, .int .i64 q.b.seq, .bool q.b.txn, .slice A q.b.rs.length c, .bool q.yes, .int .i64 q.nx, .int .i64 q.off, .int .i64 q.row.1, .int .i64 q.row.2.1, .int .i64 q.row.2.2.1, .string q.row.2.2.2.1, .string q.row.2.2.2.2, .int .i64 q.prod.pid, .int .i64 q.prod.ep, .int .i64 q.prod.nx, .slice D q.prod.seen.length e]] W (fun e w' => e = .returned (.tuple #[.string s, .int .i64 0]) ∧ Below W.heap.size W w') from by
    have := EnBytes_any q hv A D c e W (hg.up h) h5
    unfold EbPost at this
    rw [hsq] at this
    exact this)
  have MQ := Lib.hid (fun (W : World) A c D e (h5 : EnR W q A D) => by
    have := EnMay_any q A D c e W h5
    rw [hv] at this
    exact this)
  clear hv hlq hsq
  clear hg hr hb0 hgr hl hm hq
  go_enter Tryz.func5, Tryz.ntmps5
  go_wp2_with fail
  refine GR.out.mono ?_
  rintro e w1 ⟨rfl, b1⟩
  have K1 := Lib.hid (K0.out.below b1 (by simp))
  have B1 := Lib.hid (btrans B0.out b1)
  clear b1
  have l1 := cells_blk K1.out rfl
  go_wp2_with fail
  refine (BY.out _ B1.out).mono ?_
  rintro e w2 ⟨rfl, b2⟩
  have K2 := Lib.hid (K1.out.below b2 K1.out.lt)
  have B2 := Lib.hid (btrans B1.out b2)
  clear b2 l1 LC
  go_wp2_with fail
  refine (RX.out _ B2.out).mono ?_
  rintro e w3 ⟨A5, D5, c5, e5, rfl, er, b3⟩
  obtain ⟨W3, st3, k3, bw3⟩ := fresh_en w3 #[.int .i8 x.kd, .int .i64 x.b.pid, .int .i64 x.b.ep, .int .i64 x.b.seq, .bool x.b.txn, .slice A5 x.b.rs.length c5, .bool x.yes, .int .i64 x.nx, .int .i64 x.off, .int .i64 x.row.1, .int .i64 x.row.2.1, .int .i64 x.row.2.2.1, .string x.row.2.2.2.1, .string x.row.2.2.2.2, .int .i64 x.prod.pid, .int .i64 x.prod.ep, .int .i64 x.prod.nx, .slice D5 x.prod.seen.length e5] rfl (by simp [Value.oneCell'])
  have B3 := Lib.hid (btrans (btrans B2.out b3) bw3)
  have K3 := Lib.hid ((K2.out.below b3 K2.out.lt).below bw3 (by have := K2.out.lt; have := b3.size; omega))
  have E3 := Lib.hid (er.up bw3)
  have KY := Lib.hid k3
  clear b3 bw3 k3 er
  have l1 := cells_blk K3.out rfl
  have l2 := cells_blk KY.out rfl
  go_wp2_with fail
  refine (SM.out _ A5 D5 c5 e5 B3.out E3.out).mono ?_
  rintro e w4 ⟨rfl, b4⟩
  have K4 := Lib.hid (K3.out.below b4 K3.out.lt)
  have B4 := Lib.hid (btrans B3.out b4)
  clear b4 l1 l2 st3
  have l1 := cells_blk K4.out rfl
  go_wp2_with fail
  refine (MY.out _ B4.out).mono ?_
  rintro e w5 ⟨rfl, b5⟩
  have B5 := Lib.hid (btrans B4.out b5)
  clear b5 l1
  go_wp2_with fail
  refine (RD.out _ B5.out).mono ?_
  rintro e w6 ⟨A6, D6, c6, e6, rfl, er6, b6⟩
  obtain ⟨W6, st6, k6, bw6⟩ := fresh_en w6 #[.int .i8 q.kd, .int .i64 q.b.pid, .int .i64 q.b.ep, .int .i64 q.b.seq, .bool q.b.txn, .slice A6 q.b.rs.length c6, .bool q.yes, .int .i64 q.nx, .int .i64 q.off, .int .i64 q.row.1, .int .i64 q.row.2.1, .int .i64 q.row.2.2.1, .string q.row.2.2.2.1, .string q.row.2.2.2.2, .int .i64 q.prod.pid, .int .i64 q.prod.ep, .int .i64 q.prod.nx, .slice D6 q.prod.seen.length e6] rfl (by simp [Value.oneCell'])
  have B6 := Lib.hid (btrans (btrans B5.out b6) bw6)
  have E6 := Lib.hid (er6.up bw6)
  have K6 := Lib.hid k6
  clear b6 bw6 k6 er6
  have l6 := cells_blk K6.out rfl
  go_wp2_with fail
  refine (BQ.out _ A6 c6 D6 e6 B6.out E6.out).mono ?_
  rintro e w7 ⟨rfl, b7⟩
  have K7 := Lib.hid (K6.out.below b7 K6.out.lt)
  have E7 := Lib.hid (E6.out.up b7)
  have B7 := Lib.hid (btrans B6.out b7)
  clear b7 l6 st6
  have l7 := cells_blk K7.out rfl
  go_wp2_with fail
  refine (MQ.out _ A6 c6 D6 e6 E7.out).mono ?_
  rintro e w8 ⟨rfl, b8⟩
  have B8 := Lib.hid (btrans B7.out b8)
  clear b8 l7
  go_wp2_with fail
  refine (WK.out _ B8.out).mono ?_
  rintro e w9 ⟨rfl, b9⟩
  go_wp2_with fail
  go_ret
  exact ⟨rfl, btrans B8.out b9⟩
set_option maxRecDepth 100000 in
set_option maxHeartbeats 8000000 in
theorem enback_ok10 (x : En) (A1 D1 : Option Addr) (c1 e1 : Nat) (s : ByteArray) (w : World) (hg : HasET w) (hr : EnR w x A1 D1) (hgr : greatEn x = false) (hl : s.size ≤ 2000) (hm : mayEn x = true) (hq : readE 1 1048575 6 (lb s) = (En0, 70)) :
    Calls Tryz.prog 5 #[(.agg #[.int .i8 x.kd, .int .i64 x.b.pid, .int .i64 x.b.ep, .int .i64 x.b.seq, .bool x.b.txn, .slice A1 x.b.rs.length c1, .bool x.yes, .int .i64 x.nx, .int .i64 x.off, .int .i64 x.row.1, .int .i64 x.row.2.1, .int .i64 x.row.2.2.1, .string x.row.2.2.2.1, .string x.row.2.2.2.2, .int .i64 x.prod.pid, .int .i64 x.prod.ep, .int .i64 x.prod.nx, .slice D1 x.prod.seen.length e1]), .string s] w fun e w' => e = .returned (.bool true) ∧ Below w.heap.size w w' := by
  have hb0 : Below w.heap.size w (w.alloc (.cells #[.int .i8 x.kd, .int .i64 x.b.pid, .int .i64 x.b.ep, .int .i64 x.b.seq, .bool x.b.txn, .slice A1 x.b.rs.length c1, .bool x.yes, .int .i64 x.nx, .int .i64 x.off, .int .i64 x.row.1, .int .i64 x.row.2.1, .int .i64 x.row.2.2.1, .string x.row.2.2.2.1, .string x.row.2.2.2.2, .int .i64 x.prod.pid, .int .i64 x.prod.ep, .int .i64 x.prod.nx, .slice D1 x.prod.seen.length e1] 32)) := bal (Below.refl _ _) _
  have GR := Lib.hid (EnGreat_any x A1 D1 c1 e1 _ (hr.up hb0).1)
  have LC := cells_blk (Blk.new w 32 #[.int .i8 x.kd, .int .i64 x.b.pid, .int .i64 x.b.ep, .int .i64 x.b.seq, .bool x.b.txn, .slice A1 x.b.rs.length c1, .bool x.yes, .int .i64 x.nx, .int .i64 x.off, .int .i64 x.row.1, .int .i64 x.row.2.1, .int .i64 x.row.2.2.1, .string x.row.2.2.2.1, .string x.row.2.2.2.2, .int .i64 x.prod.pid, .int .i64 x.prod.ep, .int .i64 x.prod.nx, .slice D1 x.prod.seen.length e1]) rfl
  have K0 := Lib.hid (Blk.new w 32 #[.int .i8 x.kd, .int .i64 x.b.pid, .int .i64 x.b.ep, .int .i64 x.b.seq, .bool x.b.txn, .slice A1 x.b.rs.length c1, .bool x.yes, .int .i64 x.nx, .int .i64 x.off, .int .i64 x.row.1, .int .i64 x.row.2.1, .int .i64 x.row.2.2.1, .string x.row.2.2.2.1, .string x.row.2.2.2.2, .int .i64 x.prod.pid, .int .i64 x.prod.ep, .int .i64 x.prod.nx, .slice D1 x.prod.seen.length e1])
  have B0 := Lib.hid hb0
  have WK := Lib.hid (fun W (h : Below w.heap.size w W) => wakes07 W (hg.up h))
  rw [hgr] at GR
  have d1 : decide ((2000 : Int) < (s.size : Int)) = false := by simp; omega
  have RD := Lib.hid (fun (W : World) (h : Below w.heap.size w W) => show Calls Tryz.prog 21 #[.string s] W (ErRd En0 70 W) from by
    have := EnRead_any s W (by omega) (hg.up h)
    rw [hq] at this
    exact this)
  have hln := encEn_len hm
  have BY := Lib.hid (fun (W : World) (h : Below w.heap.size w W) => show Calls Tryz.prog 11 #[(.agg #[.int .i8 x.kd, .int .i64 x.b.pid, .int .i64 x.b.ep, .int .i64 x.b.seq, .bool x.b.txn, .slice A1 x.b.rs.length c1, .bool x.yes, .int .i64 x.nx, .int .i64 x.off, .int .i64 x.row.1, .int .i64 x.row.2.1, .int .i64 x.row.2.2.1, .string x.row.2.2.2.1, .string x.row.2.2.2.2, .int .i64 x.prod.pid, .int .i64 x.prod.ep, .int .i64 x.prod.nx, .slice D1 x.prod.seen.length e1])] W (fun e w' => e = .returned (.tuple #[.string (bs (encEn x)), .int .i64 0]) ∧ Below W.heap.size W w') from EnBytes_any x hm A1 D1 c1 e1 W (hg.up h) (hr.up h))
  have hsz : (bs (encEn x)).size = (encEn x).length := size_bs _
  have RX := Lib.hid (fun (W : World) (h : Below w.heap.size w W) => show Calls Tryz.prog 21 #[.string (bs (encEn x))] W (ErRd x 0 W) from by
    have := EnRead_any (bs (encEn x)) W (by omega) (hg.up h)
    rw [lb_bs, readE_ok (Nat.le_refl _) (Nat.le_refl _) (by decide) (Nat.le_refl _) (by decide) hm] at this
    exact this)
  have SM := Lib.hid (fun W A5 D5 c5 e5 (h : Below w.heap.size w W) (h5 : EnR W x A5 D5) => show Calls Tryz.prog 15 #[(.agg #[.int .i8 x.kd, .int .i64 x.b.pid, .int .i64 x.b.ep, .int .i64 x.b.seq, .bool x.b.txn, .slice A1 x.b.rs.length c1, .bool x.yes, .int .i64 x.nx, .int .i64 x.off, .int .i64 x.row.1, .int .i64 x.row.2.1, .int .i64 x.row.2.2.1, .string x.row.2.2.2.1, .string x.row.2.2.2.2, .int .i64 x.prod.pid, .int .i64 x.prod.ep, .int .i64 x.prod.nx, .slice D1 x.prod.seen.length e1]), (.agg #[.int .i8 x.kd, .int .i64 x.b.pid, .int .i64 x.b.ep, .int .i64 x.b.seq, .bool x.b.txn, .slice A5 x.b.rs.length c5, .bool x.yes, .int .i64 x.nx, .int .i64 x.off, .int .i64 x.row.1, .int .i64 x.row.2.1, .int .i64 x.row.2.2.1, .string x.row.2.2.2.1, .string x.row.2.2.2.2, .int .i64 x.prod.pid, .int .i64 x.prod.ep, .int .i64 x.prod.nx, .slice D5 x.prod.seen.length e5])] W (fun e w' => e = .returned (.bool true) ∧ Below W.heap.size W w') from by
    have := EnSame_any x x A1 D1 A5 D5 c1 e1 c5 e5 W (hr.up h) h5
    rw [(sameEn_iff x x).2 rfl] at this
    exact this)
  have MY := Lib.hid (fun W (h : Below w.heap.size w W) => show Calls Tryz.prog 13 #[(.agg #[.int .i8 x.kd, .int .i64 x.b.pid, .int .i64 x.b.ep, .int .i64 x.b.seq, .bool x.b.txn, .slice A1 x.b.rs.length c1, .bool x.yes, .int .i64 x.nx, .int .i64 x.off, .int .i64 x.row.1, .int .i64 x.row.2.1, .int .i64 x.row.2.2.1, .string x.row.2.2.2.1, .string x.row.2.2.2.2, .int .i64 x.prod.pid, .int .i64 x.prod.ep, .int .i64 x.prod.nx, .slice D1 x.prod.seen.length e1])] W (fun e w' => e = .returned (.bool true) ∧ Below W.heap.size W w') from by
    have := EnMay_any x A1 D1 c1 e1 W (hr.up h)
    rw [hm] at this
    exact this)
  obtain ⟨ts, hts⟩ : ∃ ts, ts = bs (encEn x) := ⟨_, rfl⟩
  have d2 : decide ((1024 : Int) < (ts.size : Int)) = false := by rw [hts]; simp; omega
  rw [← hts] at BY RX
  clear hts hsz hln
  clear hg hr hb0 hgr hl hm hq
  go_enter Tryz.func5, Tryz.ntmps5
  go_wp2_with fail
  refine GR.out.mono ?_
  rintro e w1 ⟨rfl, b1⟩
  have K1 := Lib.hid (K0.out.below b1 (by simp))
  have B1 := Lib.hid (btrans B0.out b1)
  clear b1
  have l1 := cells_blk K1.out rfl
  go_wp2_with fail
  refine (BY.out _ B1.out).mono ?_
  rintro e w2 ⟨rfl, b2⟩
  have K2 := Lib.hid (K1.out.below b2 K1.out.lt)
  have B2 := Lib.hid (btrans B1.out b2)
  clear b2 l1 LC
  go_wp2_with fail
  refine (RX.out _ B2.out).mono ?_
  rintro e w3 ⟨A5, D5, c5, e5, rfl, er, b3⟩
  obtain ⟨W3, st3, k3, bw3⟩ := fresh_en w3 #[.int .i8 x.kd, .int .i64 x.b.pid, .int .i64 x.b.ep, .int .i64 x.b.seq, .bool x.b.txn, .slice A5 x.b.rs.length c5, .bool x.yes, .int .i64 x.nx, .int .i64 x.off, .int .i64 x.row.1, .int .i64 x.row.2.1, .int .i64 x.row.2.2.1, .string x.row.2.2.2.1, .string x.row.2.2.2.2, .int .i64 x.prod.pid, .int .i64 x.prod.ep, .int .i64 x.prod.nx, .slice D5 x.prod.seen.length e5] rfl (by simp [Value.oneCell'])
  have B3 := Lib.hid (btrans (btrans B2.out b3) bw3)
  have K3 := Lib.hid ((K2.out.below b3 K2.out.lt).below bw3 (by have := K2.out.lt; have := b3.size; omega))
  have E3 := Lib.hid (er.up bw3)
  have KY := Lib.hid k3
  clear b3 bw3 k3 er
  have l1 := cells_blk K3.out rfl
  have l2 := cells_blk KY.out rfl
  go_wp2_with fail
  refine (SM.out _ A5 D5 c5 e5 B3.out E3.out).mono ?_
  rintro e w4 ⟨rfl, b4⟩
  have K4 := Lib.hid (K3.out.below b4 K3.out.lt)
  have B4 := Lib.hid (btrans B3.out b4)
  clear b4 l1 l2 st3
  have l1 := cells_blk K4.out rfl
  go_wp2_with fail
  refine (MY.out _ B4.out).mono ?_
  rintro e w5 ⟨rfl, b5⟩
  have B5 := Lib.hid (btrans B4.out b5)
  clear b5 l1
  go_wp2_with fail
  refine (RD.out _ B5.out).mono ?_
  rintro e w6 ⟨A6, D6, c6, e6, rfl, er6, b6⟩
  obtain ⟨W6, st6, k6, bw6⟩ := fresh_en w6 #[.int .i8 En0.kd, .int .i64 En0.b.pid, .int .i64 En0.b.ep, .int .i64 En0.b.seq, .bool En0.b.txn, .slice A6 En0.b.rs.length c6, .bool En0.yes, .int .i64 En0.nx, .int .i64 En0.off, .int .i64 En0.row.1, .int .i64 En0.row.2.1, .int .i64 En0.row.2.2.1, .string En0.row.2.2.2.1, .string En0.row.2.2.2.2, .int .i64 En0.prod.pid, .int .i64 En0.prod.ep, .int .i64 En0.prod.nx, .slice D6 En0.prod.seen.length e6] rfl (by simp [Value.oneCell'])
  have B6 := Lib.hid (btrans (btrans B5.out b6) bw6)
  clear b6 bw6 k6 er6
  go_wp2_with fail
  refine (WK.out _ B6.out).mono ?_
  rintro e w9 ⟨rfl, b9⟩
  go_wp2_with fail
  go_ret
  exact ⟨rfl, btrans B6.out b9⟩
set_option maxRecDepth 100000 in
set_option maxHeartbeats 8000000 in
theorem enback_ok01 (x : En) (A1 D1 : Option Addr) (c1 e1 : Nat) (s : ByteArray) (w : World) (hg : HasET w) (hr : EnR w x A1 D1) (hgr : greatEn x = false) (hl : s.size ≤ 2000) (hm : mayEn x = false) (q : En) (hq : readE 1 1048575 6 (lb s) = (q, 0)) (hv : mayEn q = true) (hlq : lb s = encEn q) :
    Calls Tryz.prog 5 #[(.agg #[.int .i8 x.kd, .int .i64 x.b.pid, .int .i64 x.b.ep, .int .i64 x.b.seq, .bool x.b.txn, .slice A1 x.b.rs.length c1, .bool x.yes, .int .i64 x.nx, .int .i64 x.off, .int .i64 x.row.1, .int .i64 x.row.2.1, .int .i64 x.row.2.2.1, .string x.row.2.2.2.1, .string x.row.2.2.2.2, .int .i64 x.prod.pid, .int .i64 x.prod.ep, .int .i64 x.prod.nx, .slice D1 x.prod.seen.length e1]), .string s] w fun e w' => e = .returned (.bool true) ∧ Below w.heap.size w w' := by
  have hb0 : Below w.heap.size w (w.alloc (.cells #[.int .i8 x.kd, .int .i64 x.b.pid, .int .i64 x.b.ep, .int .i64 x.b.seq, .bool x.b.txn, .slice A1 x.b.rs.length c1, .bool x.yes, .int .i64 x.nx, .int .i64 x.off, .int .i64 x.row.1, .int .i64 x.row.2.1, .int .i64 x.row.2.2.1, .string x.row.2.2.2.1, .string x.row.2.2.2.2, .int .i64 x.prod.pid, .int .i64 x.prod.ep, .int .i64 x.prod.nx, .slice D1 x.prod.seen.length e1] 32)) := bal (Below.refl _ _) _
  have GR := Lib.hid (EnGreat_any x A1 D1 c1 e1 _ (hr.up hb0).1)
  have LC := cells_blk (Blk.new w 32 #[.int .i8 x.kd, .int .i64 x.b.pid, .int .i64 x.b.ep, .int .i64 x.b.seq, .bool x.b.txn, .slice A1 x.b.rs.length c1, .bool x.yes, .int .i64 x.nx, .int .i64 x.off, .int .i64 x.row.1, .int .i64 x.row.2.1, .int .i64 x.row.2.2.1, .string x.row.2.2.2.1, .string x.row.2.2.2.2, .int .i64 x.prod.pid, .int .i64 x.prod.ep, .int .i64 x.prod.nx, .slice D1 x.prod.seen.length e1]) rfl
  have K0 := Lib.hid (Blk.new w 32 #[.int .i8 x.kd, .int .i64 x.b.pid, .int .i64 x.b.ep, .int .i64 x.b.seq, .bool x.b.txn, .slice A1 x.b.rs.length c1, .bool x.yes, .int .i64 x.nx, .int .i64 x.off, .int .i64 x.row.1, .int .i64 x.row.2.1, .int .i64 x.row.2.2.1, .string x.row.2.2.2.1, .string x.row.2.2.2.2, .int .i64 x.prod.pid, .int .i64 x.prod.ep, .int .i64 x.prod.nx, .slice D1 x.prod.seen.length e1])
  have B0 := Lib.hid hb0
  have WK := Lib.hid (fun W (h : Below w.heap.size w W) => wakes07 W (hg.up h))
  rw [hgr] at GR
  have d1 : decide ((2000 : Int) < (s.size : Int)) = false := by simp; omega
  have RD := Lib.hid (fun (W : World) (h : Below w.heap.size w W) => show Calls Tryz.prog 21 #[.string s] W (ErRd q 0 W) from by
    have := EnRead_any s W (by omega) (hg.up h)
    rw [hq] at this
    exact this)
  have BY := Lib.hid (fun (W : World) (h : Below w.heap.size w W) => show Calls Tryz.prog 11 #[(.agg #[.int .i8 x.kd, .int .i64 x.b.pid, .int .i64 x.b.ep, .int .i64 x.b.seq, .bool x.b.txn, .slice A1 x.b.rs.length c1, .bool x.yes, .int .i64 x.nx, .int .i64 x.off, .int .i64 x.row.1, .int .i64 x.row.2.1, .int .i64 x.row.2.2.1, .string x.row.2.2.2.1, .string x.row.2.2.2.2, .int .i64 x.prod.pid, .int .i64 x.prod.ep, .int .i64 x.prod.nx, .slice D1 x.prod.seen.length e1])] W (fun e w' => e = .returned (.tuple #[.string ⟨#[]⟩, .int .i64 2]) ∧ Below W.heap.size W w') from EnBytes_no x hm A1 D1 c1 e1 W (hr.up h))
  have hsq : bs (encEn q) = s := by rw [← hlq, bs_lb]
  have BQ := Lib.hid (fun (W : World) A c D e (h : Below w.heap.size w W) (h5 : EnR W q A D) => show Calls Tryz.prog 11 #[.agg #[.int .i8 q.kd, .int .i64 q.b.pid, .int .i64 q.b.ep, .int .i64 q.b.seq, .bool q.b.txn, .slice A q.b.rs.length c, .bool q.yes, .int .i64 q.nx, .int .i64 q.off, .int .i64 q.row.1, .int .i64 q.row.2.1, .int .i64 q.row.2.2.1, .string q.row.2.2.2.1, .string q.row.2.2.2.2, .int .i64 q.prod.pid, .int .i64 q.prod.ep, .int .i64 q.prod.nx, .slice D q.prod.seen.length e]] W (fun e w' => e = .returned (.tuple #[.string s, .int .i64 0]) ∧ Below W.heap.size W w') from by
    have := EnBytes_any q hv A D c e W (hg.up h) h5
    unfold EbPost at this
    rw [hsq] at this
    exact this)
  have MQ := Lib.hid (fun (W : World) A c D e (h5 : EnR W q A D) => by
    have := EnMay_any q A D c e W h5
    rw [hv] at this
    exact this)
  clear hv hlq hsq
  clear hg hr hb0 hgr hl hm hq
  go_enter Tryz.func5, Tryz.ntmps5
  go_wp2_with fail
  refine GR.out.mono ?_
  rintro e w1 ⟨rfl, b1⟩
  have K1 := Lib.hid (K0.out.below b1 (by simp))
  have B1 := Lib.hid (btrans B0.out b1)
  clear b1
  have l1 := cells_blk K1.out rfl
  go_wp2_with fail
  refine (BY.out _ B1.out).mono ?_
  rintro e w2 ⟨rfl, b2⟩
  have K2 := Lib.hid (K1.out.below b2 K1.out.lt)
  have B2 := Lib.hid (btrans B1.out b2)
  clear b2 l1 LC
  go_wp2_with fail
  refine (RD.out _ B2.out).mono ?_
  rintro e w6 ⟨A6, D6, c6, e6, rfl, er6, b6⟩
  obtain ⟨W6, st6, k6, bw6⟩ := fresh_en w6 #[.int .i8 q.kd, .int .i64 q.b.pid, .int .i64 q.b.ep, .int .i64 q.b.seq, .bool q.b.txn, .slice A6 q.b.rs.length c6, .bool q.yes, .int .i64 q.nx, .int .i64 q.off, .int .i64 q.row.1, .int .i64 q.row.2.1, .int .i64 q.row.2.2.1, .string q.row.2.2.2.1, .string q.row.2.2.2.2, .int .i64 q.prod.pid, .int .i64 q.prod.ep, .int .i64 q.prod.nx, .slice D6 q.prod.seen.length e6] rfl (by simp [Value.oneCell'])
  have B6 := Lib.hid (btrans (btrans B2.out b6) bw6)
  have E6 := Lib.hid (er6.up bw6)
  have K6 := Lib.hid k6
  clear b6 bw6 k6 er6
  have l6 := cells_blk K6.out rfl
  go_wp2_with fail
  refine (BQ.out _ A6 c6 D6 e6 B6.out E6.out).mono ?_
  rintro e w7 ⟨rfl, b7⟩
  have K7 := Lib.hid (K6.out.below b7 K6.out.lt)
  have E7 := Lib.hid (E6.out.up b7)
  have B7 := Lib.hid (btrans B6.out b7)
  clear b7 l6 st6
  have l7 := cells_blk K7.out rfl
  go_wp2_with fail
  refine (MQ.out _ A6 c6 D6 e6 E7.out).mono ?_
  rintro e w8 ⟨rfl, b8⟩
  have B8 := Lib.hid (btrans B7.out b8)
  clear b8 l7
  go_wp2_with fail
  refine (WK.out _ B8.out).mono ?_
  rintro e w9 ⟨rfl, b9⟩
  go_wp2_with fail
  go_ret
  exact ⟨rfl, btrans B8.out b9⟩
set_option maxRecDepth 100000 in
set_option maxHeartbeats 8000000 in
theorem enback_ok00 (x : En) (A1 D1 : Option Addr) (c1 e1 : Nat) (s : ByteArray) (w : World) (hg : HasET w) (hr : EnR w x A1 D1) (hgr : greatEn x = false) (hl : s.size ≤ 2000) (hm : mayEn x = false) (hq : readE 1 1048575 6 (lb s) = (En0, 70)) :
    Calls Tryz.prog 5 #[(.agg #[.int .i8 x.kd, .int .i64 x.b.pid, .int .i64 x.b.ep, .int .i64 x.b.seq, .bool x.b.txn, .slice A1 x.b.rs.length c1, .bool x.yes, .int .i64 x.nx, .int .i64 x.off, .int .i64 x.row.1, .int .i64 x.row.2.1, .int .i64 x.row.2.2.1, .string x.row.2.2.2.1, .string x.row.2.2.2.2, .int .i64 x.prod.pid, .int .i64 x.prod.ep, .int .i64 x.prod.nx, .slice D1 x.prod.seen.length e1]), .string s] w fun e w' => e = .returned (.bool true) ∧ Below w.heap.size w w' := by
  have hb0 : Below w.heap.size w (w.alloc (.cells #[.int .i8 x.kd, .int .i64 x.b.pid, .int .i64 x.b.ep, .int .i64 x.b.seq, .bool x.b.txn, .slice A1 x.b.rs.length c1, .bool x.yes, .int .i64 x.nx, .int .i64 x.off, .int .i64 x.row.1, .int .i64 x.row.2.1, .int .i64 x.row.2.2.1, .string x.row.2.2.2.1, .string x.row.2.2.2.2, .int .i64 x.prod.pid, .int .i64 x.prod.ep, .int .i64 x.prod.nx, .slice D1 x.prod.seen.length e1] 32)) := bal (Below.refl _ _) _
  have GR := Lib.hid (EnGreat_any x A1 D1 c1 e1 _ (hr.up hb0).1)
  have LC := cells_blk (Blk.new w 32 #[.int .i8 x.kd, .int .i64 x.b.pid, .int .i64 x.b.ep, .int .i64 x.b.seq, .bool x.b.txn, .slice A1 x.b.rs.length c1, .bool x.yes, .int .i64 x.nx, .int .i64 x.off, .int .i64 x.row.1, .int .i64 x.row.2.1, .int .i64 x.row.2.2.1, .string x.row.2.2.2.1, .string x.row.2.2.2.2, .int .i64 x.prod.pid, .int .i64 x.prod.ep, .int .i64 x.prod.nx, .slice D1 x.prod.seen.length e1]) rfl
  have K0 := Lib.hid (Blk.new w 32 #[.int .i8 x.kd, .int .i64 x.b.pid, .int .i64 x.b.ep, .int .i64 x.b.seq, .bool x.b.txn, .slice A1 x.b.rs.length c1, .bool x.yes, .int .i64 x.nx, .int .i64 x.off, .int .i64 x.row.1, .int .i64 x.row.2.1, .int .i64 x.row.2.2.1, .string x.row.2.2.2.1, .string x.row.2.2.2.2, .int .i64 x.prod.pid, .int .i64 x.prod.ep, .int .i64 x.prod.nx, .slice D1 x.prod.seen.length e1])
  have B0 := Lib.hid hb0
  have WK := Lib.hid (fun W (h : Below w.heap.size w W) => wakes07 W (hg.up h))
  rw [hgr] at GR
  have d1 : decide ((2000 : Int) < (s.size : Int)) = false := by simp; omega
  have RD := Lib.hid (fun (W : World) (h : Below w.heap.size w W) => show Calls Tryz.prog 21 #[.string s] W (ErRd En0 70 W) from by
    have := EnRead_any s W (by omega) (hg.up h)
    rw [hq] at this
    exact this)
  have BY := Lib.hid (fun (W : World) (h : Below w.heap.size w W) => show Calls Tryz.prog 11 #[(.agg #[.int .i8 x.kd, .int .i64 x.b.pid, .int .i64 x.b.ep, .int .i64 x.b.seq, .bool x.b.txn, .slice A1 x.b.rs.length c1, .bool x.yes, .int .i64 x.nx, .int .i64 x.off, .int .i64 x.row.1, .int .i64 x.row.2.1, .int .i64 x.row.2.2.1, .string x.row.2.2.2.1, .string x.row.2.2.2.2, .int .i64 x.prod.pid, .int .i64 x.prod.ep, .int .i64 x.prod.nx, .slice D1 x.prod.seen.length e1])] W (fun e w' => e = .returned (.tuple #[.string ⟨#[]⟩, .int .i64 2]) ∧ Below W.heap.size W w') from EnBytes_no x hm A1 D1 c1 e1 W (hr.up h))
  clear hg hr hb0 hgr hl hm hq
  go_enter Tryz.func5, Tryz.ntmps5
  go_wp2_with fail
  refine GR.out.mono ?_
  rintro e w1 ⟨rfl, b1⟩
  have K1 := Lib.hid (K0.out.below b1 (by simp))
  have B1 := Lib.hid (btrans B0.out b1)
  clear b1
  have l1 := cells_blk K1.out rfl
  go_wp2_with fail
  refine (BY.out _ B1.out).mono ?_
  rintro e w2 ⟨rfl, b2⟩
  have K2 := Lib.hid (K1.out.below b2 K1.out.lt)
  have B2 := Lib.hid (btrans B1.out b2)
  clear b2 l1 LC
  go_wp2_with fail
  refine (RD.out _ B2.out).mono ?_
  rintro e w6 ⟨A6, D6, c6, e6, rfl, er6, b6⟩
  obtain ⟨W6, st6, k6, bw6⟩ := fresh_en w6 #[.int .i8 En0.kd, .int .i64 En0.b.pid, .int .i64 En0.b.ep, .int .i64 En0.b.seq, .bool En0.b.txn, .slice A6 En0.b.rs.length c6, .bool En0.yes, .int .i64 En0.nx, .int .i64 En0.off, .int .i64 En0.row.1, .int .i64 En0.row.2.1, .int .i64 En0.row.2.2.1, .string En0.row.2.2.2.1, .string En0.row.2.2.2.2, .int .i64 En0.prod.pid, .int .i64 En0.prod.ep, .int .i64 En0.prod.nx, .slice D6 En0.prod.seen.length e6] rfl (by simp [Value.oneCell'])
  have B6 := Lib.hid (btrans (btrans B2.out b6) bw6)
  clear b6 bw6 k6 er6
  go_wp2_with fail
  refine (WK.out _ B6.out).mono ?_
  rintro e w9 ⟨rfl, b9⟩
  go_wp2_with fail
  go_ret
  exact ⟨rfl, btrans B6.out b9⟩
end
theorem enback_walk (x : En) (A1 D1 : Option Addr) (c1 e1 : Nat) (s : ByteArray) (w : World) (hg : HasET w) (r1 : Reads w w.heap.size 2 A1 x.b.rs.length (cellsR x.b.rs)) (r2 : Reads w w.heap.size 3 D1 x.prod.seen.length (cellsN x.prod.seen)) :
    Calls Tryz.prog 5 #[(.agg #[.int .i8 x.kd, .int .i64 x.b.pid, .int .i64 x.b.ep, .int .i64 x.b.seq, .bool x.b.txn, .slice A1 x.b.rs.length c1, .bool x.yes, .int .i64 x.nx, .int .i64 x.off, .int .i64 x.row.1, .int .i64 x.row.2.1, .int .i64 x.row.2.2.1, .string x.row.2.2.2.1, .string x.row.2.2.2.2, .int .i64 x.prod.pid, .int .i64 x.prod.ep, .int .i64 x.prod.nx, .slice D1 x.prod.seen.length e1]), .string s] w fun e w' => e = .returned (.bool true) ∧ Below w.heap.size w w' := by
  cases hgr : greatEn x
  · have hle := not_greatEn hgr
    have hr : EnR w x A1 D1 := ⟨r1, r2, by omega, by omega⟩
    by_cases hl : 2000 < s.size
    · exact enback_long x A1 D1 c1 e1 s w hg hr hgr hl
    have hl : s.size ≤ 2000 := by omega
    rcases readE_cases 1 1048575 6 (lb s) with ⟨q, hq, hv, hlq⟩ | hq
    · cases hm : mayEn x
      · exact enback_ok01 x A1 D1 c1 e1 s w hg hr hgr hl hm q hq hv hlq
      · exact enback_ok11 x A1 D1 c1 e1 s w hg hr hgr hl hm q hq hv hlq
    · cases hm : mayEn x
      · exact enback_ok00 x A1 D1 c1 e1 s w hg hr hgr hl hm hq
      · exact enback_ok10 x A1 D1 c1 e1 s w hg hr hgr hl hm hq
  · exact enback_great x A1 D1 c1 e1 s w hg r1 hgr
end Go.Proofs.YtckdecodpjfcnaaGreatDoor
namespace Go.Proofs.YtckdecodpjfcnaaGreatDoor
open Go.Joins Go.ChangeShapes Go.WideShapes Go.RowKit Go.Deep

section
variable {H : Type} {enc : TypeId × Value → H} {P : Program} {w : World} {base : Nat} {spare : Nat → Bool} {held : Bool}
theorem open_agg5 {r : Reach} {b0 : Nat} {t : TypeId} {f0 f1 f2 f3 f4 : Field} {v : Value} {d : DataW H} {p : List MemPlace} (hs : P.underlying t = some (.struct #[f0, f1, f2, f3, f4])) (hone : oneCellFields P #[f0, f1, f2, f3, f4] = true) (hC : P.cellsOf t = 5)
    (hv : Value.okWide P w r b0 t v) (h : DataW.Trod enc P w base spare held t v d p) :
    ∃ (v0 v1 v2 v3 v4 : Value) (y0 y1 y2 y3 y4 : DataW H × List MemPlace) (n : Nat), v = .agg #[v0, v1, v2, v3, v4] ∧ d = .agg [y0.1, y1.1, y2.1, y3.1, y4.1] ∧ p = y0.2 ++ (y1.2 ++ (y2.2 ++ (y3.2 ++ (y4.2)))) ∧
      DataW.trod enc P w base spare held n f0.type [v0] = some y0 ∧ DataW.trod enc P w base spare held n f1.type [v1] = some y1 ∧ DataW.trod enc P w base spare held n f2.type [v2] = some y2 ∧ DataW.trod enc P w base spare held n f3.type [v3] = some y3 ∧ DataW.trod enc P w base spare held n f4.type [v4] = some y4 := by
  obtain ⟨cs, rfl, hsz⟩ := okWide_struct hs hv
  obtain ⟨l⟩ := cs
  match l, hsz.trans hC with
  | [c0, c1, c2, c3, c4], _ =>
    obtain ⟨fuel, hf⟩ := h
    obtain ⟨xs, n, _, hx, _, hlen, hg⟩ := DataW.trod_struct hs hf
    obtain ⟨o0, k0⟩ := hone_of hone 0 f0 rfl
    obtain ⟨o1, k1⟩ := hone_of hone 1 f1 rfl
    obtain ⟨o2, k2⟩ := hone_of hone 2 f2 rfl
    obtain ⟨o3, k3⟩ := hone_of hone 3 f3 rfl
    obtain ⟨o4, k4⟩ := hone_of hone 4 f4 rfl
    match xs, hlen with
    | [y0, y1, y2, y3, y4], _ =>
      simp only [Prod.mk.injEq] at hx
      exact ⟨c0, c1, c2, c3, c4, y0, y1, y2, y3, y4, n, rfl, by simpa using hx.1, by simpa using hx.2, by simpa [Value.cells, o0, k0] using hg 0 f0 rfl, by simpa [Value.cells, o1, k1] using hg 1 f1 rfl, by simpa [Value.cells, o2, k2] using hg 2 f2 rfl, by simpa [Value.cells, o3, k3] using hg 3 f3 rfl, by simpa [Value.cells, o4, k4] using hg 4 f4 rfl⟩

theorem open_agg3 {r : Reach} {b0 : Nat} {t : TypeId} {f0 f1 f2 : Field} {v : Value} {d : DataW H} {p : List MemPlace} (hs : P.underlying t = some (.struct #[f0, f1, f2])) (hone : oneCellFields P #[f0, f1, f2] = true) (hC : P.cellsOf t = 3)
    (hv : Value.okWide P w r b0 t v) (h : DataW.Trod enc P w base spare held t v d p) :
    ∃ (v0 v1 v2 : Value) (y0 y1 y2 : DataW H × List MemPlace) (n : Nat), v = .agg #[v0, v1, v2] ∧ d = .agg [y0.1, y1.1, y2.1] ∧ p = y0.2 ++ (y1.2 ++ (y2.2)) ∧
      DataW.trod enc P w base spare held n f0.type [v0] = some y0 ∧ DataW.trod enc P w base spare held n f1.type [v1] = some y1 ∧ DataW.trod enc P w base spare held n f2.type [v2] = some y2 := by
  obtain ⟨cs, rfl, hsz⟩ := okWide_struct hs hv
  obtain ⟨l⟩ := cs
  match l, hsz.trans hC with
  | [c0, c1, c2], _ =>
    obtain ⟨fuel, hf⟩ := h
    obtain ⟨xs, n, _, hx, _, hlen, hg⟩ := DataW.trod_struct hs hf
    obtain ⟨o0, k0⟩ := hone_of hone 0 f0 rfl
    obtain ⟨o1, k1⟩ := hone_of hone 1 f1 rfl
    obtain ⟨o2, k2⟩ := hone_of hone 2 f2 rfl
    match xs, hlen with
    | [y0, y1, y2], _ =>
      simp only [Prod.mk.injEq] at hx
      exact ⟨c0, c1, c2, y0, y1, y2, n, rfl, by simpa using hx.1, by simpa using hx.2, by simpa [Value.cells, o0, k0] using hg 0 f0 rfl, by simpa [Value.cells, o1, k1] using hg 1 f1 rfl, by simpa [Value.cells, o2, k2] using hg 2 f2 rfl⟩

theorem open_slice_fields {t e : TypeId} {fs : Array Field} {fuel : Nat} {cs : List Value} {x : DataW H × List MemPlace} (ht : P.underlying t = some (.slice e)) (he : P.underlying e = some (.struct fs))
    (hone : oneCellFields P fs = true) (hC : P.cellsOf e = fs.size) (h : DataW.trod enc P w base spare held fuel t cs = some x) :
    (cs = [.slice none 0 0] ∧ x = (.nil, [])) ∨
    ∃ (a : Addr) (len cap m : Nat) (D : Nat → DataW H) (Pl : Nat → List MemPlace), cs = [.slice (some a) len cap] ∧ base ≤ a.block ∧ len ≤ cap ∧ cap ≤ maxLen ∧ m = (if spare a.block then cap else len) ∧
      x = (.slice ((List.range len).map D) ((List.range (m - len)).map fun j => D (len + j)), MemPlace.row a (m * fs.size) ++ (List.range m).flatMap Pl) ∧
      ∀ i, i < m → ∃ (ys : List (DataW H × List MemPlace)) (n : Nat), D i = .agg (ys.map (·.1)) ∧ Pl i = ys.flatMap (·.2) ∧ ys.length = fs.size ∧
        ∀ (j : Nat) (f : Field), fs[j]? = some f → ∃ (v : Value) (y : DataW H × List MemPlace), w.cell? (a.add (i * fs.size + j)) = some v ∧ ys[j]? = some y ∧ DataW.trod enc P w base spare held n f.type [v] = some y := by
  rcases open_slice ht h with h0 | ⟨a, len, cap, m, n, D, Pl, hcs, hb, hl, hm, hmm, hx, hi⟩
  · exact .inl h0
  · refine .inr ⟨a, len, cap, m, D, Pl, hcs, hb, hl, hm, hmm, by rw [hC] at hx; exact hx, fun i him => ?_⟩
    obtain ⟨cs', hc, ht'⟩ := hi i him
    rw [hC] at hc
    obtain ⟨ys, n', hn', hy, hlen, hyl, hf⟩ := DataW.trod_struct he ht'
    obtain ⟨_, hcl, hat⟩ := World.cells?_some hc
    simp only [Prod.mk.injEq] at hy
    refine ⟨ys, n', hy.1, hy.2, hyl, fun j f hj => ?_⟩
    obtain ⟨ho, hk⟩ := hone_of hone j f hj
    have hjl : j < fs.size := (Array.getElem?_eq_some_iff.1 hj).1
    have hcell := hat j hjl
    have hv : cs'[j]? = some (cs'[j]'(by omega)) := List.getElem?_eq_getElem (by omega)
    have h1 := hf j f hj
    rw [ho, hk] at h1
    have hone' : (cs'.drop j).take 1 = [cs'[j]'(by omega)] := by
      rw [List.drop_eq_getElem_cons (by omega)]
      rfl
    rw [hone'] at h1
    have hys : ys[j]? = some (ys[j]'(by omega)) := List.getElem?_eq_getElem (by omega)
    refine ⟨_, _, ?_, hys, h1.trans hys⟩
    rw [← Go.Deep.add_add, hcell, hv]
end

section
variable {H : Type} {enc : TypeId × Value → H} {W : World}
theorem cell_block {a : Addr} {k : Nat} {v : Value} (h : W.cell? (a.add k) = some v) : a.block < W.heap.size := by
  have := block_lt_of_cell h
  rwa [block_of_add] at this
end
end Go.Proofs.YtckdecodpjfcnaaGreatDoor
namespace Go.Proofs.YtckdecodpjfcnaaGreatDoor
open Go.Joins Go.ChangeShapes Go.WideShapes Go.RowKit Go.Deep

theorem cellsR_get : ∀ (l : List Rec) (j : Nat) (u : Value), (cellsR l)[j]? = some u → ∃ i k p, j = i * 2 + k ∧ k < 2 ∧ l[i]? = some p ∧ u = (if k = 0 then .string p.1 else .string p.2) := by
  intro l j u hu
  have hj : j < l.length * 2 := by
    have := (List.getElem?_eq_some_iff.1 hu).1
    rwa [length_cellsR] at this
  have hi : j / 2 < l.length := by omega
  obtain ⟨p, hp⟩ : ∃ p, l[j / 2]? = some p := ⟨_, List.getElem?_eq_getElem hi⟩
  obtain ⟨h0, h1⟩ := cellsR_at l (j / 2) p hp
  refine ⟨j / 2, j % 2, p, by omega, by omega, hp, ?_⟩
  have hk : j % 2 = 0 ∨ j % 2 = 1 := by omega
  rcases hk with hk | hk
  · rw [show j = j / 2 * 2 by omega, h0] at hu
    rw [if_pos hk]
    exact (Option.some.inj hu).symm
  · rw [show j = j / 2 * 2 + 1 by omega, h1] at hu
    rw [if_neg (by omega)]
    exact (Option.some.inj hu).symm

section
variable {H : Type} {enc : TypeId × Value → H} {W : World}
theorem field_recs {fuel : Nat} {v : Value} {x : DataW H × List MemPlace} (h : DataW.trod enc Tryz.prog W 0 (fun _ => true) true fuel 23 [v] = some x) :
    ∃ (A : Option Addr) (c : Nat) (l : List Rec), v = .slice A l.length c ∧ l.length ≤ c ∧ c ≤ maxLen ∧ Reads W W.heap.size 2 A l.length (cellsR l) ∧ ∀ r ∈ l, r.1.size ≤ maxLen ∧ r.2.size ≤ maxLen := by
  rcases open_slice_fields Tryz.underlying23 Tryz.underlying60 (by kernel_rfl) (by kernel_rfl) h with ⟨hcs, _⟩ | ⟨a, len, cap, m, D, Pl, hcs, _, hl, hm, hmm, hx, hi⟩
  · simp at hcs
    subst hcs
    exact ⟨none, 0, [], rfl, Nat.le_refl _, Nat.zero_le _, Reads.none_, by simp⟩
  · simp at hcs
    subst hcs
    simp only [if_true] at hmm
    subst hmm
    have hp : ∀ i, ∃ p : Rec, (p.1.size ≤ maxLen ∧ p.2.size ≤ maxLen) ∧ (i < len → W.cell? (a.add (i * 2 + 0)) = some (.string p.1) ∧ W.cell? (a.add (i * 2 + 1)) = some (.string p.2)) := by
      intro i
      by_cases hlt : i < len
      · obtain ⟨ys, n, _, _, _, hf⟩ := hi i (by omega)
        obtain ⟨v0, y0, hc0, _, t0⟩ := hf 0 _ rfl
        obtain ⟨v1, y1, hc1, _, t1⟩ := hf 1 _ rfl
        obtain ⟨z0, e0, _, m0⟩ := DataW.trod_string Tryz.underlying9 t0
        obtain ⟨z1, e1, _, m1⟩ := DataW.trod_string Tryz.underlying9 t1
        simp at e0 e1
        subst e0; subst e1
        exact ⟨(z0, z1), ⟨m0, m1⟩, fun _ => ⟨hc0, hc1⟩⟩
      · exact ⟨(ByteArray.empty, ByteArray.empty), ⟨Nat.zero_le _, Nat.zero_le _⟩, fun h => absurd h hlt⟩
    refine ⟨some a, m, (List.range len).map fun i => Classical.choose (hp i), by simp, by simpa using hl, hm, ⟨by rw [length_cellsR], fun hn => ⟨a, rfl, ?_, fun j u hu => ?_⟩⟩, fun r hr => ?_⟩
    · simp at hn
      exact cell_block ((Classical.choose_spec (hp 0)).2 hn).1
    · obtain ⟨i, k, p, rfl, hk, hpi, rfl⟩ := cellsR_get _ j u hu
      rw [List.getElem?_map, Option.map_eq_some_iff] at hpi
      obtain ⟨i', hi', rfl⟩ := hpi
      have hlt : i < len := by
        have := (List.getElem?_eq_some_iff.1 hi').1
        simpa using this
      rw [List.getElem?_range hlt] at hi'
      obtain rfl : i = i' := by simpa using hi'
      obtain ⟨q0, q1⟩ := (Classical.choose_spec (hp i)).2 hlt
      have hk3 : k = 0 ∨ k = 1 := by omega
      rcases hk3 with rfl | rfl
      · exact q0
      · exact q1
    · obtain ⟨i, _, rfl⟩ := List.mem_map.1 hr
      exact (Classical.choose_spec (hp i)).1

set_option maxRecDepth 100000 in
theorem open_bt {r : Reach} {base : Nat} {v : Value} {d : DataW H} {p : List MemPlace} (hv : Value.okWide Tryz.prog W r base 25 v) (h : DataW.Trod enc Tryz.prog W 0 (fun _ => true) true 25 v d p) :
    ∃ (b : Bat) (A1 : Option Addr) (c1 : Nat), v = (.agg #[.int .i64 b.pid, .int .i64 b.ep, .int .i64 b.seq, .bool b.txn, .slice A1 b.rs.length c1]) ∧ BtRaw W b A1 ∧ b.rs.length ≤ c1 ∧ (-9223372036854775808 ≤ b.pid ∧ b.pid ≤ 9223372036854775807) ∧ (-9223372036854775808 ≤ b.ep ∧ b.ep ≤ 9223372036854775807) ∧ (-9223372036854775808 ≤ b.seq ∧ b.seq ≤ 9223372036854775807) := by
  obtain ⟨v0, v1, v2, v3, v4, y0, y1, y2, y3, y4, n, rfl, _, _, t0, t1, t2, t3, t4⟩ := open_agg5 Tryz.underlying25 (by kernel_rfl) (by kernel_rfl) hv h
  obtain ⟨z0, e0, _, w0⟩ := DataW.trod_int Tryz.underlying3 t0
  obtain ⟨z1, e1, _, w1⟩ := DataW.trod_int Tryz.underlying3 t1
  obtain ⟨z2, e2, _, w2⟩ := DataW.trod_int Tryz.underlying3 t2
  obtain ⟨z3, e3, _⟩ := DataW.trod_bool Tryz.underlying4 t3
  obtain ⟨A1, c1, l1, rfl, k1, hm1, r1, s1⟩ := field_recs t4
  simp at e0 e1 e2 e3
  subst e0; subst e1; subst e2; subst e3
  simp only [Lit.wf, Bool.and_eq_true, decide_eq_true_eq] at w0 w1 w2
  unfold maxLen at hm1 s1
  exact ⟨⟨z0, z1, z2, z3, l1⟩, A1, c1, rfl, ⟨r1, by show l1.length ≤ _; omega, s1⟩, k1, w0, w1, w2⟩
end
end Go.Proofs.YtckdecodpjfcnaaGreatDoor
namespace Go.Proofs.YtckdecodpjfcnaaGreatDoor
open Go.Joins Go.ChangeShapes Go.WideShapes Go.RowKit Go.Deep

def i64In (x : Int) : Prop := -9223372036854775808 ≤ x ∧ x ≤ 9223372036854775807
/-- What is known of a request that was handed in. -/
def RqRaw (w : World) (q : Rq) (A : Option Addr) : Prop :=
  BtRaw w q.b A ∧ (-128 ≤ q.kd ∧ q.kd ≤ 127) ∧ ∀ v ∈ [q.tid, q.tm, q.pid, q.ep, q.part, q.grp, q.off, q.most, q.b.pid, q.b.ep, q.b.seq], i64In v

section
variable {H : Type} {enc : TypeId × Value → H} {W : World}
set_option maxRecDepth 100000 in
theorem trod_bt {fuel : Nat} {cs : List Value} {x : DataW H × List MemPlace} (h : DataW.trod enc Tryz.prog W 0 (fun _ => true) true fuel 25 cs = some x) :
    ∃ (b : Bat) (A1 : Option Addr) (c1 : Nat), cs = [.int .i64 b.pid, .int .i64 b.ep, .int .i64 b.seq, .bool b.txn, .slice A1 b.rs.length c1] ∧ BtRaw W b A1 ∧ i64In b.pid ∧ i64In b.ep ∧ i64In b.seq := by
  obtain ⟨xs, n, _, _, hl, hlen, hg⟩ := DataW.trod_struct Tryz.underlying25 h
  have hC : Tryz.prog.cellsOf 25 = 5 := by kernel_rfl
  have ki : Tryz.prog.cellsOf 3 = 1 := by kernel_rfl
  have kb : Tryz.prog.cellsOf 4 = 1 := by kernel_rfl
  have kr : Tryz.prog.cellsOf 23 = 1 := by kernel_rfl
  rw [hC] at hl
  match cs, hl with
  | [c0, c1, c2, c3, c4], _ =>
    match xs, hlen with
    | [y0, y1, y2, y3, y4], _ =>
      have t0 := hg 0 _ rfl
      have t1 := hg 1 _ rfl
      have t2 := hg 2 _ rfl
      have t3 := hg 3 _ rfl
      have t4 := hg 4 _ rfl
      simp [ki] at t0 t1 t2
      simp [kb] at t3
      simp [kr] at t4
      obtain ⟨z0, e0, _, w0⟩ := DataW.trod_int Tryz.underlying3 t0
      obtain ⟨z1, e1, _, w1⟩ := DataW.trod_int Tryz.underlying3 t1
      obtain ⟨z2, e2, _, w2⟩ := DataW.trod_int Tryz.underlying3 t2
      obtain ⟨z3, e3, _⟩ := DataW.trod_bool Tryz.underlying4 t3
      obtain ⟨A1, cc, l1, rfl, k1, hm1, r1, s1⟩ := field_recs t4
      simp at e0 e1 e2 e3
      subst e0; subst e1; subst e2; subst e3
      simp only [Lit.wf, Bool.and_eq_true, decide_eq_true_eq] at w0 w1 w2
      unfold maxLen at hm1 s1
      exact ⟨⟨z0, z1, z2, z3, l1⟩, A1, cc, rfl, ⟨r1, by show l1.length ≤ _; omega, s1⟩, w0, w1, w2⟩
end
end Go.Proofs.YtckdecodpjfcnaaGreatDoor
namespace Go.Proofs.YtckdecodpjfcnaaGreatDoor
open Go.Joins Go.ChangeShapes Go.WideShapes Go.RowKit Go.Deep

theorem cellsN_get : ∀ (l : List Sn) (j : Nat) (u : Value), (cellsN l)[j]? = some u → ∃ i k p, j = i * 3 + k ∧ k < 3 ∧ l[i]? = some p ∧ u = (if k = 0 then .int .i64 p.1 else if k = 1 then .int .i64 p.2.1 else .int .i64 p.2.2) := by
  intro l j u hu
  have hj : j < l.length * 3 := by
    have := (List.getElem?_eq_some_iff.1 hu).1
    rwa [length_cellsN] at this
  have hi : j / 3 < l.length := by omega
  obtain ⟨p, hp⟩ : ∃ p, l[j / 3]? = some p := ⟨_, List.getElem?_eq_getElem hi⟩
  obtain ⟨h0, h1, h2⟩ := cellsN_at l (j / 3) p hp
  refine ⟨j / 3, j % 3, p, by omega, by omega, hp, ?_⟩
  have hk : j % 3 = 0 ∨ j % 3 = 1 ∨ j % 3 = 2 := by omega
  rcases hk with hk | hk | hk
  · rw [show j = j / 3 * 3 by omega, h0] at hu
    rw [if_pos hk]
    exact (Option.some.inj hu).symm
  · rw [show j = j / 3 * 3 + 1 by omega, h1] at hu
    rw [if_neg (by omega), if_pos hk]
    exact (Option.some.inj hu).symm
  · rw [show j = j / 3 * 3 + 2 by omega, h2] at hu
    rw [if_neg (by omega), if_neg (by omega)]
    exact (Option.some.inj hu).symm

section
variable {H : Type} {enc : TypeId × Value → H} {W : World}
theorem field_seen {fuel : Nat} {v : Value} {x : DataW H × List MemPlace} (h : DataW.trod enc Tryz.prog W 0 (fun _ => true) true fuel 28 [v] = some x) :
    ∃ (A : Option Addr) (c : Nat) (l : List Sn), v = .slice A l.length c ∧ l.length ≤ c ∧ Reads W W.heap.size 3 A l.length (cellsN l) := by
  rcases open_slice_fields Tryz.underlying28 Tryz.underlying73 (by kernel_rfl) (by kernel_rfl) h with ⟨hcs, _⟩ | ⟨a, len, cap, m, D, Pl, hcs, _, hl, hm, hmm, hx, hi⟩
  · simp at hcs
    subst hcs
    exact ⟨none, 0, [], rfl, Nat.le_refl _, Reads.none_⟩
  · simp at hcs
    subst hcs
    simp only [if_true] at hmm
    subst hmm
    have hp : ∀ i, ∃ p : Sn, (i < len → W.cell? (a.add (i * 3 + 0)) = some (.int .i64 p.1) ∧ W.cell? (a.add (i * 3 + 1)) = some (.int .i64 p.2.1) ∧ W.cell? (a.add (i * 3 + 2)) = some (.int .i64 p.2.2)) := by
      intro i
      by_cases hlt : i < len
      · obtain ⟨ys, n, _, _, _, hf⟩ := hi i (by omega)
        obtain ⟨v0, y0, hc0, _, t0⟩ := hf 0 _ rfl
        obtain ⟨v1, y1, hc1, _, t1⟩ := hf 1 _ rfl
        obtain ⟨v2, y2, hc2, _, t2⟩ := hf 2 _ rfl
        obtain ⟨z0, e0, _, _⟩ := DataW.trod_int Tryz.underlying3 t0
        obtain ⟨z1, e1, _, _⟩ := DataW.trod_int Tryz.underlying3 t1
        obtain ⟨z2, e2, _, _⟩ := DataW.trod_int Tryz.underlying3 t2
        simp at e0 e1 e2
        subst e0; subst e1; subst e2
        exact ⟨(z0, z1, z2), fun _ => ⟨hc0, hc1, hc2⟩⟩
      · exact ⟨(0, 0, 0), fun h => absurd h hlt⟩
    refine ⟨some a, m, (List.range len).map fun i => Classical.choose (hp i), by simp, by simpa using hl, ⟨by rw [length_cellsN], fun hn => ⟨a, rfl, ?_, fun j u hu => ?_⟩⟩⟩
    · simp at hn
      exact cell_block ((Classical.choose_spec (hp 0)) hn).1
    · obtain ⟨i, k, p, rfl, hk, hpi, rfl⟩ := cellsN_get _ j u hu
      rw [List.getElem?_map, Option.map_eq_some_iff] at hpi
      obtain ⟨i', hi', rfl⟩ := hpi
      have hlt : i < len := by
        have := (List.getElem?_eq_some_iff.1 hi').1
        simpa using this
      rw [List.getElem?_range hlt] at hi'
      obtain rfl : i = i' := by simpa using hi'
      obtain ⟨q0, q1, q2⟩ := (Classical.choose_spec (hp i)) hlt
      have hk3 : k = 0 ∨ k = 1 ∨ k = 2 := by omega
      rcases hk3 with rfl | rfl | rfl
      · exact q0
      · exact q1
      · exact q2
set_option maxRecDepth 100000 in
theorem trod_row {fuel : Nat} {cs : List Value} {x : DataW H × List MemPlace} (h : DataW.trod enc Tryz.prog W 0 (fun _ => true) true fuel 27 cs = some x) :
    ∃ r : Rw, cs = [.int .i64 r.1, .int .i64 r.2.1, .int .i64 r.2.2.1, .string r.2.2.2.1, .string r.2.2.2.2] := by
  obtain ⟨xs, n, _, _, hl, hlen, hg⟩ := DataW.trod_struct Tryz.underlying27 h
  have hC : Tryz.prog.cellsOf 27 = 5 := by kernel_rfl
  have ki : Tryz.prog.cellsOf 3 = 1 := by kernel_rfl
  have ks : Tryz.prog.cellsOf 9 = 1 := by kernel_rfl
  rw [hC] at hl
  match cs, hl with
  | [c0, c1, c2, c3, c4], _ =>
    match xs, hlen with
    | [y0, y1, y2, y3, y4], _ =>
      have t0 := hg 0 _ rfl
      have t1 := hg 1 _ rfl
      have t2 := hg 2 _ rfl
      have t3 := hg 3 _ rfl
      have t4 := hg 4 _ rfl
      simp [ki] at t0 t1 t2
      simp [ks] at t3 t4
      obtain ⟨z0, e0, _, _⟩ := DataW.trod_int Tryz.underlying3 t0
      obtain ⟨z1, e1, _, _⟩ := DataW.trod_int Tryz.underlying3 t1
      obtain ⟨z2, e2, _, _⟩ := DataW.trod_int Tryz.underlying3 t2
      obtain ⟨z3, e3, _, _⟩ := DataW.trod_string Tryz.underlying9 t3
      obtain ⟨z4, e4, _, _⟩ := DataW.trod_string Tryz.underlying9 t4
      simp at e0 e1 e2 e3 e4
      subst e0; subst e1; subst e2; subst e3; subst e4
      exact ⟨(z0, z1, z2, z3, z4), rfl⟩
set_option maxRecDepth 100000 in
theorem trod_pd {fuel : Nat} {cs : List Value} {x : DataW H × List MemPlace} (h : DataW.trod enc Tryz.prog W 0 (fun _ => true) true fuel 30 cs = some x) :
    ∃ (p : Pd) (D1 : Option Addr) (e1 : Nat), cs = #[.int .i64 p.pid, .int .i64 p.ep, .int .i64 p.nx, .slice D1 p.seen.length e1].toList ∧ Reads W W.heap.size 3 D1 p.seen.length (cellsN p.seen) ∧ p.seen.length ≤ e1 := by
  obtain ⟨xs, n, _, _, hl, hlen, hg⟩ := DataW.trod_struct Tryz.underlying30 h
  have hC : Tryz.prog.cellsOf 30 = 4 := by kernel_rfl
  have ki : Tryz.prog.cellsOf 3 = 1 := by kernel_rfl
  have ks : Tryz.prog.cellsOf 28 = 1 := by kernel_rfl
  rw [hC] at hl
  match cs, hl with
  | [c0, c1, c2, c3], _ =>
    match xs, hlen with
    | [y0, y1, y2, y3], _ =>
      have t0 := hg 0 _ rfl
      have t1 := hg 1 _ rfl
      have t2 := hg 2 _ rfl
      have t3 := hg 3 _ rfl
      simp [ki] at t0 t1 t2
      simp [ks] at t3
      obtain ⟨z0, e0, _, _⟩ := DataW.trod_int Tryz.underlying3 t0
      obtain ⟨z1, e1, _, _⟩ := DataW.trod_int Tryz.underlying3 t1
      obtain ⟨z2, e2, _, _⟩ := DataW.trod_int Tryz.underlying3 t2
      obtain ⟨D1, cc, l, rfl, hle, hr⟩ := field_seen t3
      simp at e0 e1 e2
      subst e0; subst e1; subst e2
      exact ⟨⟨z0, z1, z2, l⟩, D1, cc, rfl, hr, hle⟩
set_option maxRecDepth 100000 in
theorem trod_en {fuel : Nat} {cs : List Value} {x : DataW H × List MemPlace} (h : DataW.trod enc Tryz.prog W 0 (fun _ => true) true fuel 32 cs = some x) :
    ∃ (q : En) (A1 D1 : Option Addr) (c1 e1 : Nat), cs = #[.int .i8 q.kd, .int .i64 q.b.pid, .int .i64 q.b.ep, .int .i64 q.b.seq, .bool q.b.txn, .slice A1 q.b.rs.length c1, .bool q.yes, .int .i64 q.nx, .int .i64 q.off, .int .i64 q.row.1, .int .i64 q.row.2.1, .int .i64 q.row.2.2.1, .string q.row.2.2.2.1, .string q.row.2.2.2.2, .int .i64 q.prod.pid, .int .i64 q.prod.ep, .int .i64 q.prod.nx, .slice D1 q.prod.seen.length e1].toList ∧ Reads W W.heap.size 2 A1 q.b.rs.length (cellsR q.b.rs) ∧ Reads W W.heap.size 3 D1 q.prod.seen.length (cellsN q.prod.seen) := by
  obtain ⟨xs, n, _, _, hl, hlen, hg⟩ := DataW.trod_struct Tryz.underlying32 h
  have hC : Tryz.prog.cellsOf 32 = 18 := by kernel_rfl
  have k8 : Tryz.prog.cellsOf 22 = 1 := by kernel_rfl
  have ki : Tryz.prog.cellsOf 3 = 1 := by kernel_rfl
  have kb : Tryz.prog.cellsOf 4 = 1 := by kernel_rfl
  have kB : Tryz.prog.cellsOf 25 = 5 := by kernel_rfl
  have kR : Tryz.prog.cellsOf 27 = 5 := by kernel_rfl
  have kP : Tryz.prog.cellsOf 30 = 4 := by kernel_rfl
  rw [hC] at hl
  match cs, hl with
  | [c0, c1, c2, c3, c4, c5, c6, c7, c8, c9, c10, c11, c12, c13, c14, c15, c16, c17], _ =>
    match xs, hlen with
    | [y0, y1, y2, y3, y4, y5, y6], _ =>
      have t0 := hg 0 _ rfl
      have t1 := hg 1 _ rfl
      have t2 := hg 2 _ rfl
      have t3 := hg 3 _ rfl
      have t4 := hg 4 _ rfl
      have t5 := hg 5 _ rfl
      have t6 := hg 6 _ rfl
      clear hg
      simp [k8] at t0
      simp [kB] at t1
      simp [kb] at t2
      simp [ki] at t3 t4
      simp [kR] at t5
      simp [kP] at t6
      obtain ⟨z0, e0, _, _⟩ := DataW.trod_int Tryz.underlying22 t0
      obtain ⟨b, A1, cc, eb, hb, _, _, _⟩ := trod_bt t1
      obtain ⟨z2, e2, _⟩ := DataW.trod_bool Tryz.underlying4 t2
      obtain ⟨z3, e3, _, _⟩ := DataW.trod_int Tryz.underlying3 t3
      obtain ⟨z4, e4, _, _⟩ := DataW.trod_int Tryz.underlying3 t4
      obtain ⟨r, er⟩ := trod_row t5
      obtain ⟨p, D1, ee, ep, hp, _⟩ := trod_pd t6
      simp at e0 e2 e3 e4 eb er ep
      obtain ⟨rfl, rfl, rfl, rfl, rfl⟩ := eb
      obtain ⟨rfl, rfl, rfl, rfl, rfl⟩ := er
      obtain ⟨rfl, rfl, rfl, rfl⟩ := ep
      subst e0; subst e2; subst e3; subst e4
      exact ⟨⟨z0, b, z2, z3, z4, r, p⟩, A1, D1, cc, ee, rfl, hb.1, hp⟩
set_option maxRecDepth 100000 in
theorem open_en {r : Reach} {base : Nat} {v : Value} {d : DataW H} {p : List MemPlace} (hv : Value.okWide Tryz.prog W r base 32 v) (h : DataW.Trod enc Tryz.prog W 0 (fun _ => true) true 32 v d p) :
    ∃ (q : En) (A1 D1 : Option Addr) (c1 e1 : Nat), v = (.agg #[.int .i8 q.kd, .int .i64 q.b.pid, .int .i64 q.b.ep, .int .i64 q.b.seq, .bool q.b.txn, .slice A1 q.b.rs.length c1, .bool q.yes, .int .i64 q.nx, .int .i64 q.off, .int .i64 q.row.1, .int .i64 q.row.2.1, .int .i64 q.row.2.2.1, .string q.row.2.2.2.1, .string q.row.2.2.2.2, .int .i64 q.prod.pid, .int .i64 q.prod.ep, .int .i64 q.prod.nx, .slice D1 q.prod.seen.length e1]) ∧ Reads W W.heap.size 2 A1 q.b.rs.length (cellsR q.b.rs) ∧ Reads W W.heap.size 3 D1 q.prod.seen.length (cellsN q.prod.seen) := by
  obtain ⟨cs, rfl, _⟩ := okWide_struct Tryz.underlying32 hv
  obtain ⟨fuel, hf⟩ := h
  obtain ⟨q, A1, D1, c1, e1, e, h1, h2⟩ := trod_en hf
  have e2 : cs.toList = #[.int .i8 q.kd, .int .i64 q.b.pid, .int .i64 q.b.ep, .int .i64 q.b.seq, .bool q.b.txn, .slice A1 q.b.rs.length c1, .bool q.yes, .int .i64 q.nx, .int .i64 q.off, .int .i64 q.row.1, .int .i64 q.row.2.1, .int .i64 q.row.2.2.1, .string q.row.2.2.2.1, .string q.row.2.2.2.2, .int .i64 q.prod.pid, .int .i64 q.prod.ep, .int .i64 q.prod.nx, .slice D1 q.prod.seen.length e1].toList := e
  exact ⟨q, A1, D1, c1, e1, congrArg Value.agg (Array.toList_inj.1 e2), h1, h2⟩
set_option maxRecDepth 100000 in
theorem open_pd {r : Reach} {base : Nat} {v : Value} {d : DataW H} {p : List MemPlace} (hv : Value.okWide Tryz.prog W r base 30 v) (h : DataW.Trod enc Tryz.prog W 0 (fun _ => true) true 30 v d p) :
    ∃ (q : Pd) (D1 : Option Addr) (e1 : Nat), v = (.agg #[.int .i64 q.pid, .int .i64 q.ep, .int .i64 q.nx, .slice D1 q.seen.length e1]) ∧ Reads W W.heap.size 3 D1 q.seen.length (cellsN q.seen) ∧ q.seen.length ≤ e1 := by
  obtain ⟨cs, rfl, _⟩ := okWide_struct Tryz.underlying30 hv
  obtain ⟨fuel, hf⟩ := h
  obtain ⟨q, D1, e1, e, h1, h2⟩ := trod_pd hf
  have e2 : cs.toList = #[.int .i64 q.pid, .int .i64 q.ep, .int .i64 q.nx, .slice D1 q.seen.length e1].toList := e
  exact ⟨q, D1, e1, congrArg Value.agg (Array.toList_inj.1 e2), h1, h2⟩
end
end Go.Proofs.YtckdecodpjfcnaaGreatDoor
namespace Go.Proofs.YtckdecodpjfcnaaGreatDoor.entryBack
open Go.ChangeShapes Go.WideShapes Go.ChangeAt Go.RowKit
open Go.ChangeMaps (open_string shut_string)
set_option linter.unusedVariables false

theorem laid_met (os : Os) : laidMetH Tryz.prog Rows.entryBackRow.laid ((laidWorld os).forCall (fun _ _ => 0) ⟨#[], #[.agg #[.int .i8 0, .int .i64 0, .int .i64 0, .int .i64 0, .bool false, .slice none 0 0, .bool false, .int .i64 0, .int .i64 0, .int .i64 0, .int .i64 0, .int .i64 0, .string ByteArray.empty, .string ByteArray.empty, .int .i64 0, .int .i64 0, .int .i64 0, .slice none 0 0], .string ByteArray.empty], []⟩).memory :=
  laidMetH_of_parts (laidMet_nil _ _) (by kernel_rfl)
theorem reads (os : Os) {H : Type} (enc : TypeId × Value → H) : ∃ places, DataW.whole enc Tryz.prog ((laidWorld os).forCall (fun _ _ => 0) ⟨#[], #[.agg #[.int .i8 0, .int .i64 0, .int .i64 0, .int .i64 0, .bool false, .slice none 0 0, .bool false, .int .i64 0, .int .i64 0, .int .i64 0, .int .i64 0, .int .i64 0, .string ByteArray.empty, .string ByteArray.empty, .int .i64 0, .int .i64 0, .int .i64 0, .slice none 0 0], .string ByteArray.empty], []⟩).memory Tryz.f5.params.toList Rows.entryBackSpec.vars false (#[.agg #[.int .i8 0, .int .i64 0, .int .i64 0, .int .i64 0, .bool false, .slice none 0 0, .bool false, .int .i64 0, .int .i64 0, .int .i64 0, .int .i64 0, .int .i64 0, .string ByteArray.empty, .string ByteArray.empty, .int .i64 0, .int .i64 0, .int .i64 0, .slice none 0 0], .string ByteArray.empty] : Array Value).toList 8 = some ([.agg [.lit (.int .i8 0), .agg [.lit (.int .i64 0), .lit (.int .i64 0), .lit (.int .i64 0), .lit (.bool false), .nil], .lit (.bool false), .lit (.int .i64 0), .lit (.int .i64 0), .agg [.lit (.int .i64 0), .lit (.int .i64 0), .lit (.int .i64 0), .lit (.string []), .lit (.string [])], .agg [.lit (.int .i64 0), .lit (.int .i64 0), .lit (.int .i64 0), .nil]], .lit (.string [])], [], places) :=
  ⟨[], by kernel_rfl⟩

set_option maxRecDepth 100000 in
theorem lifted (os : Os) (started : os.Started) (H : Type) (enc : TypeId × Value → H) (F : Stop.Interp) :
    ReturnsInHanded {} Tryz.checked os 5 .any ((OpenSpec.ofChange Rows.entryBackSpec).preRow enc Tryz.prog Tryz.f5 Rows.entryBackRow.domain false Rows.entryBackRow.laid) (((OpenSpec.ofChange Rows.entryBackSpec).at F).post enc Tryz.prog Tryz.f5 false true false false) := by
  obtain ⟨places, hx⟩ := reads os enc
  refine returnsInHanded_of_row (C := Tryz.checked) (s := OpenSpec.ofChange Rows.entryBackSpec) own started (by kernel_rfl) Tryz.func5
    (witness_row_at (enc := enc) (C := Tryz.checked) false (laidWorld os) #[.agg #[.int .i8 0, .int .i64 0, .int .i64 0, .int .i64 0, .bool false, .slice none 0 0, .bool false, .int .i64 0, .int .i64 0, .int .i64 0, .int .i64 0, .int .i64 0, .string ByteArray.empty, .string ByteArray.empty, .int .i64 0, .int .i64 0, .int .i64 0, .slice none 0 0], .string ByteArray.empty] rfl (by kernel_rfl) (by kernel_rfl) (by kernel_rfl)
      (OpenSpec.preRow_of_cond 8 hx (by kernel_rfl) (fun k hk => by cases hk) (by kernel_rfl) (laid_met os))) ?_
  intro W base args ds gs before hval0 hW _ _ hsz0 hL _ _
  have hg : HasET W := hasErr_of_laid hL
  have hval : ∀ (j : Nat) t v, Tryz.f5.params[j]? = some t → args[j]? = some v → Value.okWide Tryz.prog W .any base t v := hval0
  have hsz : (DataW.weightsEach Tryz.prog (Tryz.f5.params.toList ++ Rows.entryBackSpec.plain.varTypes Tryz.prog) (ds ++ gs)).all (· ≤ reachBytes) = true := hsz0
  have hW' := hW
  obtain ⟨p, q, hA0, hV, rfl, hfz, hnd⟩ := hW
  have hA : DataW.TrodAll enc Tryz.prog W 0 (fun _ => true) true Tryz.f5.params.toList args.toList ds p := hA0
  rw [Tryz.params5] at hA hval hsz
  obtain ⟨v0, vs0, d0, ds0, p0, q0, hargs, rfl, rfl, h0, r0⟩ := trodAll_cons hA
  obtain ⟨v1, vs1, d1, ds1, p1, q1, rfl, rfl, rfl, h1, r1⟩ := trodAll_cons r0
  obtain ⟨rfl, rfl, rfl⟩ := trodAll_nil r1
  obtain rfl : args = #[v0, v1] := by cases args; simp_all
  obtain ⟨rfl, rfl⟩ := trodVars_none hV
  have k0 := h0
  have lt0 : ∀ x ∈ p0, x.block < W.heap.size := by obtain ⟨m, hm⟩ := k0; exact DataW.trod_lt m _ _ _ hm
  obtain ⟨en0, A0, D0, c0, g0, rfl, er0, es0⟩ := open_en (hval 0 32 v0 rfl rfl) h0
  obtain ⟨a1, rfl, rfl, rfl, w1⟩ := open_string Tryz.underlying9 (hval 1 9 v1 rfl rfl) h1
  have z1 : a1.size ≤ 140737488351232 := sized_string hsz (j := 1) (t := 9) rfl rfl
  clear hA0 hval0 hsz0
  refine (enback_walk en0 A0 D0 c0 g0 a1 W hg er0 es0).mono fun e W' ⟨he, bel⟩ => ?_
  subst he
  exact ⟨_, rfl, _, _, _, [], _, [], hW', trodAll_mk1 (shut_bool Tryz.underlying4 _), (trodAll_cons_mk (Below.trod laidOut (by kernel_rfl) (of_decide_eq_true (by kernel_rfl)) k0 bel lt0) (trodAll_cons_mk (shut_string Tryz.underlying9 w1) trodAll_mk0)), rfl, bel.frame _, fun h => by cases h⟩

theorem said : Rows.EntryBackSaid :=
  OpenClaim.holds_of_cond 5 Tryz.f5 rfl rfl rfl rfl rfl rfl rfl ⟨rfl, rfl, rfl, rfl, rfl⟩ rfl rfl rfl rfl rfl (by kernel_rfl) Tryz.func5 (by kernel_rfl)
    (of_decide_eq_true (by kernel_rfl)) (by unfold Func.isWrapper; first | (rw [if_pos (by decide +kernel)]; kernel_rfl) | (rw [if_neg (by decide +kernel)]; exact ⟨rfl, rfl⟩))
    (fun os started H enc _ F => by rw [OpenClaim.pre_eq_preRow]; exact lifted os started H enc F)

theorem plain (f : FuncId) (fn : Func) (hf : Tryz.pinned.checked.prog.funcNamed "roving/rovinglaw07.EntryBack" = some f) (hfn : Tryz.pinned.checked.prog.funcs[f]? = some fn) :
    true = Tryz.pinned.checked.prog.looks [] ∧ ∀ (j : Nat) t, fn.params[j]? = some t → Tryz.pinned.checked.prog.wantsStandIn t = false := by
  obtain rfl : f = 5 := Option.some.inj ((show Tryz.prog.funcNamed "roving/rovinglaw07.EntryBack" = some 5 by kernel_rfl).symm.trans hf) |>.symm
  obtain rfl : fn = Tryz.f5 := (Option.some.inj (Tryz.func5.symm.trans hfn)).symm
  refine ⟨by kernel_rfl, fun j t ht => ?_⟩
  rw [Tryz.params5] at ht
  have hm : t = 32 ∨ t = 9 := by simpa using Array.mem_of_getElem? ht
  rcases hm with rfl | rfl <;> exact (show Tryz.prog.wantsStandIn _ = false by kernel_rfl)

/-- THE CARD. -/
theorem card : Rows.EntryBackCardSaid :=
  Claim7.holds_tied_plain_at .later [] _ _ _ _ said (fun _ h => by cases h) (by kernel_rfl) (fun _ h => by cases h) entryBack_row_tie rfl ⟨rfl, rfl⟩ (by kernel_rfl) rfl plain (by kernel_rfl)
end Go.Proofs.YtckdecodpjfcnaaGreatDoor.entryBack
