/-
  Layer 6, the document's: May, Bytes.
-/
import Derived.Test.YtcockikekgmfkaaDoorRcE
namespace Go.Proofs.YtcockikekgmfkaaDoor
open Go.RowKit

theorem any_take (rs : List Rec) (k : Nat) (r : Rec) (h : rs[k]? = some r) : (rs.take (k + 1)).any badR = ((rs.take k).any badR || badR r) := by
  rw [List.take_add_one, h]; simp
theorem any_of_at {rs : List Rec} {k : Nat} {r : Rec} (h : rs[k]? = some r) (hb : badR r = true) : rs.any badR = true := List.any_eq_true.2 ⟨r, List.mem_of_getElem? h, hb⟩

set_option maxRecDepth 100000 in
set_option maxHeartbeats 1000000 in
theorem rRcMay_any (b : Bat) (A1 : Option Addr) (c1 : Nat) (w : World) (hr : Reads w w.heap.size 2 A1 b.rs.length (cellsR b.rs)) :
    Calls Tryd.prog 33 #[(.agg #[.int .i64 b.pid, .int .i64 b.ep, .int .i64 b.seq, .bool b.txn, .slice A1 b.rs.length c1])] w fun e w' => e = .returned (.bool (mayBt b)) ∧ Below w.heap.size w w' := by
  have HB := Lib.hid ((Below.refl w.heap.size w).alloc (Nat.le_refl _) (.cells #[.int .i64 b.pid, .int .i64 b.ep, .int .i64 b.seq, .bool b.txn, .slice A1 b.rs.length c1] 40))
  by_cases hh : headB b = true
  · have hd : 1 ≤ b.pid ∧ b.pid ≤ 8 ∧ 0 ≤ b.ep ∧ b.ep ≤ 100 ∧ 1 ≤ b.rs.length ∧ b.rs.length ≤ 4 ∧ 0 ≤ b.seq ∧ b.seq + b.rs.length ≤ 1048576 := by
      unfold headB at hh; simpa using hh
    have hfin : mayBt b = !(b.rs.any badR) := by unfold mayBt; rw [hh]; rfl
    have HF := Lib.hid hfin
    have HR := Lib.hid (hr.alloc (Nat.le_refl _) (.cells #[.int .i64 b.pid, .int .i64 b.ep, .int .i64 b.seq, .bool b.txn, .slice A1 b.rs.length c1] 40))
    obtain ⟨q1, q2, q3, q4, q5, q6, q7, q8⟩ := hd
    have d1 : ¬ b.pid < 1 := by omega
    have d2 : ¬ 8 < b.pid := by omega
    have d3 : ¬ b.ep < 0 := by omega
    have d4 : ¬ 100 < b.ep := by omega
    have d5 : ¬ (b.rs.length : Int) < 1 := by omega
    have d6 : ¬ 4 < (b.rs.length : Int) := by omega
    have d7 : ¬ b.seq < 0 := by omega
    have d9 : ¬ 1048576 < b.seq := by omega
    have d8 : ¬ 1048576 < b.seq + (b.rs.length : Int) := by omega
    have x4 := (Blk.new w 40 #[.int .i64 b.pid, .int .i64 b.ep, .int .i64 b.seq, .bool b.txn, .slice A1 b.rs.length c1]).cell 4
    clear hr hfin hh
    go_enter Tryd.func33, Tryd.ntmps33
    go_wp2_with fail
    generalize hW : w.alloc (.cells #[.int .i64 b.pid, .int .i64 b.ep, .int .i64 b.seq, .bool b.txn, .slice A1 b.rs.length c1] 40) = W at *
    clear hW
    go_loop [3] (fun x => ∃ k : Nat, k ≤ b.rs.length ∧ x = .int .i64 k ∧ (b.rs.take k).any badR = false) (fun x => b.rs.length - (intOf x).toNat)
    case atStart => exact ⟨0, Nat.zero_le _, rfl, by simp⟩
    case round =>
      obtain ⟨k, hk, rfl, hany⟩ := hrel
      have HANY := Lib.hid hany
      clear hany
      by_cases hlt : k < b.rs.length
      · have e1 : decide ((k : Int) < (b.rs.length : Int)) = true := by simp; omega
        obtain ⟨b1, o1, rfl, _, hc1⟩ := HR.out.plain2 (by omega)
        obtain ⟨r, hx⟩ : ∃ z, b.rs[k]? = some z := ⟨_, List.getElem?_eq_getElem hlt⟩
        obtain ⟨g1, g2⟩ := hc1 k _ hx
        have HSN := Lib.hid (any_take b.rs k r hx)
        have HX := Lib.hid hx
        clear hc1 hx
        go_wp2_with fail
        all_goals first
          | (go_ret; exact ⟨ret_bool (by rw [HF.out, any_of_at HX.out (by unfold badR; simp; omega)]; rfl), HB.out⟩)
          | (go_round
             case rel => exact ⟨k + 1, by omega, by go_num, by rw [HSN.out, HANY.out]; unfold badR; simp; omega⟩
             case measure => simp [intOf]; omega)
      · have e1 : decide ((k : Int) < (b.rs.length : Int)) = false := by simp; omega
        have hfin : b.rs.any badR = false := by have h2 := HANY.out; rwa [List.take_of_length_le (by omega)] at h2
        have HF2 := Lib.hid hfin
        clear hfin
        go_wp2_with fail
        go_ret
        exact ⟨ret_bool (by rw [HF.out, HF2.out]; rfl), HB.out⟩
  · have hfin : mayBt b = false := by unfold mayBt; rw [Bool.not_eq_true] at hh; rw [hh]; rfl
    rw [hfin]
    have hd : ¬ (1 ≤ b.pid ∧ b.pid ≤ 8 ∧ 0 ≤ b.ep ∧ b.ep ≤ 100 ∧ 1 ≤ b.rs.length ∧ b.rs.length ≤ 4 ∧ 0 ≤ b.seq ∧ b.seq + b.rs.length ≤ 1048576) := by
      unfold headB at hh; simpa using hh
    have HD := Lib.hid hd
    clear hr hfin hh hd
    go_enter Tryd.func33, Tryd.ntmps33
    go_wp2_with fail
    all_goals first | (go_ret; exact ⟨rfl, HB.out⟩) | (exfalso; have := HD.out; omega)
end Go.Proofs.YtcockikekgmfkaaDoor
