/-
  Layer 6: record.code, record.Bytes, record.Behind, record.Same; of the document Behind, Great, Same.
-/
import Derived.Test.YtcockikekgmfkaaDoorRcC
namespace Go.Proofs.YtcockikekgmfkaaDoor
open Go.RowKit

set_option maxHeartbeats 1000000 in
theorem code_rec (b : Nat) (n : Int) (w : World) (hg : HasET w) (hb1 : w.cell? ⟨b, 1, none⟩ = some (.int .i64 n)) :
    Calls Tryd.prog 67 #[.iface 115 (.pointer (some ⟨b, 0, none⟩))] w fun e w' => e = .returned (.int .i64 n) ∧ Below w.heap.size w w' := by
  have hb2 := (World.cell?_alloc_lt w (.cells #[.int .i64 0] 32) ⟨b, 1, none⟩ (cell_lt hb1)).trans hb1
  have HAS := Lib.hid (ErRe.as_any b w.heap.size n (.int .i64 0) (w.alloc (.cells #[.int .i64 0] 32)) (hg.up ((Below.refl _ _).alloc (Nat.le_refl _) _)) hb2 (by simp) (by simp))
  have HBW := Lib.hid (asW_below w n)
  clear hb2 hb1 hg
  go_enter Tryd.func67, Tryd.ntmps67
  go_wp2_with (go_at_call 85; refine HAS.out.mono ?_; rintro e w1 ⟨rfl, hw1⟩; have hc1 : w1.cell? ⟨w.heap.size, 0, none⟩ = some (.int .i64 n) := (by rw [← hw1]; exact asW_cell w n); have HW1 := Lib.hid hw1; clear hw1)
  go_ret
  exact ⟨rfl, by rw [← HW1.out]; exact HBW.out⟩

set_option maxHeartbeats 1000000 in
theorem RcBytes_ok (b : Bat) (A1 : Option Addr) (c1 : Nat) (w : World) (hr : Reads w w.heap.size 2 A1 b.rs.length (cellsR b.rs)) (hm : mayBt b = true) :
    Calls Tryd.prog 28 #[(.agg #[.int .i64 b.pid, .int .i64 b.ep, .int .i64 b.seq, .bool b.txn, .slice A1 b.rs.length c1])] w fun e w' => e = .returned (.tuple #[.string (bs (encBt b)), .int .i64 0]) ∧ Below w.heap.size w w' := by
  have HW := Lib.hid (write_ok b A1 c1 (w.alloc (.cells #[.int .i64 b.pid, .int .i64 b.ep, .int .i64 b.seq, .bool b.txn, .slice A1 b.rs.length c1] 40)) ((hr.alloc (Nat.le_refl _) _).more (by simp)) hm)
  have HB := Lib.hid ((Below.refl w.heap.size w).alloc (Nat.le_refl _) (.cells #[.int .i64 b.pid, .int .i64 b.ep, .int .i64 b.seq, .bool b.txn, .slice A1 b.rs.length c1] 40))
  clear hr hm
  generalize encBt b = L at *
  go_enter Tryd.func28, Tryd.ntmps28
  go_wp2_with fail
  refine HW.out.mono ?_
  rintro e w1 ⟨A2, c2, rfl, hr2, hc2, hb1⟩
  have hcv := run_string_of (P := Tryd.prog) (c := c2) Tryd.underlying50 Tryd.underlying5 Tryd.underlying9 hr2
  have bf := btrans HB.out hb1
  clear hr2 hb1
  go_wp2_with fail
  go_ret2
  exact ⟨rfl, bf⟩
set_option maxHeartbeats 1000000 in
theorem RcBytes_no (b : Bat) (A1 : Option Addr) (c1 : Nat) (w : World) (hr : Reads w w.heap.size 2 A1 b.rs.length (cellsR b.rs)) (hg : HasET w) (hm : mayBt b = false) :
    Calls Tryd.prog 28 #[(.agg #[.int .i64 b.pid, .int .i64 b.ep, .int .i64 b.seq, .bool b.txn, .slice A1 b.rs.length c1])] w fun e w' => e = .returned (.tuple #[.string ByteArray.empty, .int .i64 2]) ∧ Below w.heap.size w w' := by
  have HW := Lib.hid (RcMay_no b A1 c1 (w.alloc (.cells #[.int .i64 b.pid, .int .i64 b.ep, .int .i64 b.seq, .bool b.txn, .slice A1 b.rs.length c1] 40)) ((hr.alloc (Nat.le_refl _) _).more (by simp)) hm)
  have HB := Lib.hid ((Below.refl w.heap.size w).alloc (Nat.le_refl _) (.cells #[.int .i64 b.pid, .int .i64 b.ep, .int .i64 b.seq, .bool b.txn, .slice A1 b.rs.length c1] 40))
  have HG := Lib.hid hg
  clear hr hm hg
  go_enter Tryd.func28, Tryd.ntmps28
  go_wp2_with fail
  refine HW.out.mono ?_
  rintro e w1 ⟨g, rfl, hc1, hb1⟩
  have bf := btrans HB.out hb1
  have HCO := Lib.hid (code_rec g 2 w1 (HG.out.up bf) hc1)
  clear hc1 hb1
  go_wp2_with fail
  refine HCO.out.mono ?_
  rintro e w2 ⟨rfl, hb2⟩
  go_wp2_with fail
  go_ret2
  exact ⟨rfl, btrans bf hb2⟩

def behindB (b : Bat) : Int := wrap64 (b.seq + (b.rs.length : Int))
theorem Behind_any (b : Bat) (A1 : Option Addr) (c1 : Nat) (w : World) :
    Calls Tryd.prog 30 #[(.agg #[.int .i64 b.pid, .int .i64 b.ep, .int .i64 b.seq, .bool b.txn, .slice A1 b.rs.length c1])] w fun e w' => e = .returned (.int .i64 (behindB b)) ∧ Below w.heap.size w w' := by
  have HB := Lib.hid ((Below.refl w.heap.size w).alloc (Nat.le_refl _) (.cells #[.int .i64 b.pid, .int .i64 b.ep, .int .i64 b.seq, .bool b.txn, .slice A1 b.rs.length c1] 40))
  go_enter Tryd.func30, Tryd.ntmps30
  go_wp2_with fail
  go_ret
  exact ⟨rfl, HB.out⟩
theorem rBehind_any (b : Bat) (A1 : Option Addr) (c1 : Nat) (w : World) :
    Calls Tryd.prog 35 #[(.agg #[.int .i64 b.pid, .int .i64 b.ep, .int .i64 b.seq, .bool b.txn, .slice A1 b.rs.length c1])] w fun e w' => e = .returned (.int .i64 (behindB b)) ∧ Below w.heap.size w w' := by
  have HB := Lib.hid ((Below.refl w.heap.size w).alloc (Nat.le_refl _) (.cells #[.int .i64 b.pid, .int .i64 b.ep, .int .i64 b.seq, .bool b.txn, .slice A1 b.rs.length c1] 40))
  go_enter Tryd.func35, Tryd.ntmps35
  go_wp2_with fail
  go_ret
  exact ⟨rfl, HB.out⟩

theorem greatS_snoc (rs : List Rec) (k : Nat) (r : Rec) (h : rs[k]? = some r) : greatS (rs.take (k + 1)) = greatS (rs.take k) + (min r.1.size 5000 + min r.2.size 5000) := by
  rw [List.take_add_one, h, greatS_append]; simp [greatS]
theorem min_cast (n : Nat) : min (n : Int) 5000 = ((min n 5000 : Nat) : Int) := by omega

set_option maxRecDepth 100000 in
set_option maxHeartbeats 1000000 in
theorem Great_any (b : Bat) (A1 : Option Addr) (c1 : Nat) (w : World) (hr : Reads w w.heap.size 2 A1 b.rs.length (cellsR b.rs)) (hl : b.rs.length ≤ 9223372036854775807) (hss : ∀ r ∈ b.rs, r.1.size ≤ 9223372036854775807 ∧ r.2.size ≤ 9223372036854775807) :
    Calls Tryd.prog 26 #[(.agg #[.int .i64 b.pid, .int .i64 b.ep, .int .i64 b.seq, .bool b.txn, .slice A1 b.rs.length c1])] w fun e w' => e = .returned (.bool (greatBt b)) ∧ Below w.heap.size w w' := by
  have HR := Lib.hid ((hr.alloc (Nat.le_refl _) (.cells #[.int .i64 b.pid, .int .i64 b.ep, .int .i64 b.seq, .bool b.txn, .slice A1 b.rs.length c1] 40)))
  have HB := Lib.hid ((Below.refl w.heap.size w).alloc (Nat.le_refl _) (.cells #[.int .i64 b.pid, .int .i64 b.ep, .int .i64 b.seq, .bool b.txn, .slice A1 b.rs.length c1] 40))
  have kb := Blk.new w 40 #[.int .i64 b.pid, .int .i64 b.ep, .int .i64 b.seq, .bool b.txn, .slice A1 b.rs.length c1]
  have x4 := kb.cell 4
  have HSS := Lib.hid hss
  clear hr kb hss
  go_enter Tryd.func26, Tryd.ntmps26
  go_wp2_with fail
  generalize hW : w.alloc (.cells #[.int .i64 b.pid, .int .i64 b.ep, .int .i64 b.seq, .bool b.txn, .slice A1 b.rs.length c1] 40) = W at *
  clear hW
  go_loopw [3, 4] (fun y x wr => ∃ k q : Nat, k ≤ b.rs.length ∧ k ≤ 61 ∧ x = .int .i64 k ∧ y = .int .i64 (greatS (b.rs.take k) : Nat) ∧ wr = W.drewN q) (fun _ x _ => b.rs.length - (intOf x).toNat)
  case atStart => exact ⟨0, 0, Nat.zero_le _, by omega, rfl, rfl, rfl⟩
  case round =>
    obtain ⟨k, q, hk, hk2, rfl, rfl, rfl⟩ := hrel
    have hgl := greatS_le (b.rs.take k)
    have hgb : greatS (b.rs.take k) ≤ 610000 := by rw [List.length_take] at hgl; omega
    clear hgl
    by_cases hlt : k < b.rs.length
    · have d1 : decide ((k : Int) < (b.rs.length : Int)) = true := by simp; omega
      by_cases h60 : k ≤ 60
      · have d2 : decide ((k : Int) ≤ 60) = true := by simp; omega
        obtain ⟨b1, o1, rfl, _, hc1⟩ := HR.out.plain2 (by omega)
        obtain ⟨r, hx⟩ : ∃ z, b.rs[k]? = some z := ⟨_, List.getElem?_eq_getElem hlt⟩
        obtain ⟨g1, g2⟩ := hc1 k _ hx
        have HSN := Lib.hid (greatS_snoc b.rs k r hx)
        obtain ⟨hs1, hs2⟩ := HSS.out r (List.mem_of_getElem? hx)
        generalize greatS (b.rs.take k) = G at *
        have i1 : (0 : Int) ≤ (k : Int) := by omega
        have i2 : (k : Int) < (b.rs.length : Int) := by omega
        have m1 : min (r.1.size : Int) 5000 = ((min r.1.size 5000 : Nat) : Int) := min_cast _
        have m2 : min (r.2.size : Int) 5000 = ((min r.2.size 5000 : Nat) : Int) := min_cast _
        have w1 : IntKind.i64.wrap ((G : Int) + ((min r.1.size 5000 : Nat) : Int)) = (G : Int) + ((min r.1.size 5000 : Nat) : Int) := IntWalk.i64_in _ (by omega)
        have w2 : IntKind.i64.wrap ((G : Int) + ((min r.1.size 5000 : Nat) : Int) + ((min r.2.size 5000 : Nat) : Int)) = (G : Int) + ((min r.1.size 5000 : Nat) : Int) + ((min r.2.size 5000 : Nat) : Int) := IntWalk.i64_in _ (by omega)
        clear hc1 hx
        go_wp2_with fail
        go_quiet (fail)
        go_wp2_with fail
        go_roundw
        case rel => exact ⟨k + 1, _, by omega, by omega, by go_num, congrArg (Value.int .i64) (by rw [HSN.out]; omega), rfl⟩
        case measure => simp [intOf]; omega
      · have d2 : decide ((k : Int) ≤ 60) = false := by simp; omega
        have d3 : decide ((60 : Int) < (b.rs.length : Int)) = true := by simp; omega
        have hfin : greatBt b = true := by unfold greatBt; rw [decide_eq_true (show 60 < b.rs.length by omega)]; rfl
        have HF := Lib.hid hfin
        clear hfin
        go_wp2_with fail
        go_ret
        exact ⟨ret_bool HF.out.symm, below_drewN HB.out _⟩
    · obtain rfl : k = b.rs.length := by omega
      have d1 : decide ((b.rs.length : Int) < (b.rs.length : Int)) = false := by simp
      rw [List.take_length] at *
      generalize hG : greatS b.rs = G at *
      by_cases h60 : 60 < b.rs.length
      · have d3 : decide ((60 : Int) < (b.rs.length : Int)) = true := by simp; omega
        have hfin : greatBt b = true := by unfold greatBt; rw [decide_eq_true h60]; rfl
        have HF := Lib.hid hfin
        clear hfin hG
        go_wp2_with fail
        go_ret
        exact ⟨ret_bool HF.out.symm, below_drewN HB.out _⟩
      · have d3 : decide ((60 : Int) < (b.rs.length : Int)) = false := by simp; omega
        have hfin : greatBt b = decide ((4000 : Int) < (G : Int)) := by
          unfold greatBt; rw [decide_eq_false h60, hG, Bool.false_or, Bool.eq_iff_iff]; simp; omega
        have HF := Lib.hid hfin
        clear hfin hG
        go_wp2_with fail
        go_ret
        exact ⟨ret_bool (by rw [HF.out]), below_drewN HB.out _⟩

/-- Two batches are the same. -/
def sameBt (a b : Bat) : Bool := decide (a.pid = b.pid) && (decide (a.ep = b.ep) && (decide (a.seq = b.seq) && ((a.txn == b.txn) && decide (a.rs = b.rs))))
theorem sameBt_iff (a b : Bat) : sameBt a b = true ↔ a = b := by
  unfold sameBt
  simp only [Bool.and_eq_true, decide_eq_true_eq, beq_iff_eq]
  exact ⟨fun ⟨h1, h2, h3, h4, h5⟩ => Bat.ext' h1 h2 h3 h4 h5, fun h => by subst h; exact ⟨rfl, rfl, rfl, rfl, rfl⟩⟩

theorem toList_inj (s t : ByteArray) : s.toList = t.toList ↔ s = t := by
  rw [toList_lb, toList_lb]; exact ⟨lb_inj, fun h => by rw [h]⟩
theorem eqRec (a b : Rec) (w : World) : (Op.equalIn 10000 70 (.agg #[.string a.1, .string a.2]) (.agg #[.string b.1, .string b.2])).run Tryd.prog w = .ok (decide (a = b)) w := by
  have u3 := Tryd.underlying9
  have hS : Tryd.prog.underlying 70 = some (.struct (Tryd.prog.fieldsOf 70)) := by kernel_rfl
  have hp : Tryd.prog.stoodInHeld 70 = false := by kernel_rfl
  have a3 := Tryd.isAgg9
  have z3 := Tryd.sizeOf9
  obtain ⟨a1, a2⟩ := a
  obtain ⟨b1, b2⟩ := b
  rw [show (10000 : Nat) = 9999 + 1 from rfl, run_equalIn_agg w 9999 70 _ _ hS hp]
  simp only [Program.fieldsOf, Tryd.underlying70]
  go_simp
  by_cases h1 : a1 = b1 <;> by_cases h2 : a2 = b2 <;> simp [h1, h2, toList_inj]
end Go.Proofs.YtcockikekgmfkaaDoor
