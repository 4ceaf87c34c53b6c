/-
  Layer 9: Same, Alike, Great of replies.
-/
import Derived.Test.YtckdecodpjfcnaaDoorGrp14
set_option linter.unusedVariables false
set_option linter.unusedSimpArgs false
namespace Go.Proofs.YtckdecodpjfcnaaDoor
open Go.RowKit

/-- Two replies are the same. -/
def sameRp (a b : Rp) : Bool := (a.kd == b.kd) && ((a.er == b.er) && ((a.pid == b.pid) && ((a.ep == b.ep) && ((a.off == b.off) && decide (a.rows = b.rows)))))
theorem sameRp_iff (a b : Rp) : sameRp a b = true ↔ a = b := by
  unfold sameRp
  simp only [Bool.and_eq_true, decide_eq_true_eq, beq_iff_eq]
  exact ⟨fun ⟨h1, h2, h3, h4, h5, h6⟩ => Rp.ext' h1 h2 h3 h4 h5 h6, fun h => by subst h; exact ⟨rfl, rfl, rfl, rfl, rfl, rfl⟩⟩
set_option maxRecDepth 100000 in
set_option maxHeartbeats 1000000 in
theorem RpSame_any (a b : Rp) (A1 A2 : Option Addr) (c1 c2 : Nat) (w : World) (h1 : Reads w w.heap.size 5 A1 a.rows.length (cellsW a.rows)) (h2 : Reads w w.heap.size 5 A2 b.rows.length (cellsW b.rows)) (hl : a.rows.length ≤ 1000000) :
    Calls Tryd.prog 10 #[(.agg #[.int .i8 a.kd, .int .i64 a.er, .int .i64 a.pid, .int .i64 a.ep, .int .i64 a.off, .slice A1 a.rows.length c1]), (.agg #[.int .i8 b.kd, .int .i64 b.er, .int .i64 b.pid, .int .i64 b.ep, .int .i64 b.off, .slice A2 b.rows.length c2])] w fun e w' => e = .returned (.bool (sameRp a b)) ∧ Below w.heap.size w w' := by
  have HB := Lib.hid (bal (bal (Below.refl w.heap.size w) (.cells #[.int .i8 a.kd, .int .i64 a.er, .int .i64 a.pid, .int .i64 a.ep, .int .i64 a.off, .slice A1 a.rows.length c1] 26)) (.cells #[.int .i8 b.kd, .int .i64 b.er, .int .i64 b.pid, .int .i64 b.ep, .int .i64 b.off, .slice A2 b.rows.length c2] 26))
  have EQ := Lib.hid (fun W (h : Below w.heap.size w W) => EqualW_any A1 A2 a.rows b.rows c1 c2 _ _ W ((h1.below h).more h.size) ((h2.below h).more h.size) hl)
  have HA := Lib.hid (show sameRp a b = ((a.kd == b.kd) && ((a.er == b.er) && ((a.pid == b.pid) && ((a.ep == b.ep) && ((a.off == b.off) && decide (a.rows = b.rows)))))) from rfl)
  clear h1 h2
  generalize e1 : (a.kd == b.kd) = d1 at *
  generalize e2 : (a.er == b.er) = d2 at *
  generalize e3 : (a.pid == b.pid) = d3 at *
  generalize e4 : (a.ep == b.ep) = d4 at *
  generalize e5 : (a.off == b.off) = d5 at *
  generalize decide (a.rows = b.rows) = d6 at *
  go_enter Tryd.func10, Tryd.ntmps10
  cases d1
  · go_wp2_with fail
    go_ret
    exact ⟨ret_bool (by rw [HA.out]; rfl), HB.out⟩
  cases d2
  · go_wp2_with fail
    go_ret
    exact ⟨ret_bool (by rw [HA.out]; rfl), HB.out⟩
  cases d3
  · go_wp2_with fail
    go_ret
    exact ⟨ret_bool (by rw [HA.out]; rfl), HB.out⟩
  cases d4
  · go_wp2_with fail
    go_ret
    exact ⟨ret_bool (by rw [HA.out]; rfl), HB.out⟩
  cases d5
  · go_wp2_with fail
    go_ret
    exact ⟨ret_bool (by rw [HA.out]; rfl), HB.out⟩
  go_wp2_with fail
  refine (EQ.out _ HB.out).mono ?_
  rintro e w1 ⟨rfl, q, rfl⟩
  go_wp2_with fail
  go_ret
  exact ⟨ret_bool (by rw [HA.out]; rfl), below_drewN HB.out _⟩

/-- Two replies are alike. -/
def alikeRp (a b : Rp) : Bool := (a.kd == b.kd) && ((a.er == b.er) && ((a.pid == b.pid) && ((a.ep == b.ep) && (((a.off == -1) == (b.off == -1)) && alikeL a.rows b.rows))))
set_option maxRecDepth 100000 in
set_option maxHeartbeats 1000000 in
theorem RpAlike_any (a b : Rp) (A1 A2 : Option Addr) (c1 c2 : Nat) (w : World) (h1 : Reads w w.heap.size 5 A1 a.rows.length (cellsW a.rows)) (h2 : Reads w w.heap.size 5 A2 b.rows.length (cellsW b.rows)) (hl : a.rows.length ≤ 1000000) :
    Calls Tryd.prog 12 #[(.agg #[.int .i8 a.kd, .int .i64 a.er, .int .i64 a.pid, .int .i64 a.ep, .int .i64 a.off, .slice A1 a.rows.length c1]), (.agg #[.int .i8 b.kd, .int .i64 b.er, .int .i64 b.pid, .int .i64 b.ep, .int .i64 b.off, .slice A2 b.rows.length c2])] w fun e w' => e = .returned (.bool (alikeRp a b)) ∧ Below w.heap.size w w' := by
  have HB := Lib.hid (bal (bal (Below.refl w.heap.size w) (.cells #[.int .i8 a.kd, .int .i64 a.er, .int .i64 a.pid, .int .i64 a.ep, .int .i64 a.off, .slice A1 a.rows.length c1] 26)) (.cells #[.int .i8 b.kd, .int .i64 b.er, .int .i64 b.pid, .int .i64 b.ep, .int .i64 b.off, .slice A2 b.rows.length c2] 26))
  have EQ := Lib.hid (fun W (h : Below w.heap.size w W) => EqualFunc_any A1 A2 a.rows b.rows c1 c2 W ((h1.below h).more h.size) ((h2.below h).more h.size) hl)
  have HA := Lib.hid (show alikeRp a b = ((a.kd == b.kd) && ((a.er == b.er) && ((a.pid == b.pid) && ((a.ep == b.ep) && (((a.off == -1) == (b.off == -1)) && alikeL a.rows b.rows))))) from rfl)
  clear h1 h2
  generalize e1 : (a.kd == b.kd) = d1 at *
  generalize e2 : (a.er == b.er) = d2 at *
  generalize e3 : (a.pid == b.pid) = d3 at *
  generalize e4 : (a.ep == b.ep) = d4 at *
  generalize e5 : (a.off == -1) = d5 at *
  generalize e6 : (b.off == -1) = d6 at *
  generalize alikeL a.rows b.rows = d7 at *
  go_enter Tryd.func12, Tryd.ntmps12
  cases d1
  · go_wp2_with fail
    go_ret
    exact ⟨ret_bool (by rw [HA.out]; rfl), HB.out⟩
  cases d2
  · go_wp2_with fail
    go_ret
    exact ⟨ret_bool (by rw [HA.out]; rfl), HB.out⟩
  cases d3
  · go_wp2_with fail
    go_ret
    exact ⟨ret_bool (by rw [HA.out]; rfl), HB.out⟩
  cases d4
  · go_wp2_with fail
    go_ret
    exact ⟨ret_bool (by rw [HA.out]; rfl), HB.out⟩
  by_cases h56 : d5 = d6
  · subst h56
    cases d5
    all_goals
      go_wp2_with fail
      refine (EQ.out _ HB.out).mono ?_
      rintro e w1 ⟨rfl, b1⟩
      go_wp2_with fail
      go_ret
      exact ⟨ret_bool (by rw [HA.out]; rfl), btrans HB.out b1⟩
  · cases d5 <;> cases d6
    · exact absurd rfl h56
    · clear h56
      go_wp2_with fail
      go_ret
      exact ⟨ret_bool (by rw [HA.out]; rfl), HB.out⟩
    · clear h56
      go_wp2_with fail
      go_ret
      exact ⟨ret_bool (by rw [HA.out]; rfl), HB.out⟩
    · exact absurd rfl h56

/-- A row that is too great. -/
def bigW (r : Rw) : Bool := decide (200 < r.2.2.2.1.size) || decide (200 < r.2.2.2.2.size)
def greatRp (q : Rp) : Bool := decide (200 < q.rows.length) || q.rows.any bigW
set_option maxRecDepth 100000 in
set_option maxHeartbeats 2000000 in
theorem RpGreat_any (q : Rp) (A1 : Option Addr) (c1 : Nat) (w : World) (hr : Reads w w.heap.size 5 A1 q.rows.length (cellsW q.rows)) :
    Calls Tryd.prog 6 #[(.agg #[.int .i8 q.kd, .int .i64 q.er, .int .i64 q.pid, .int .i64 q.ep, .int .i64 q.off, .slice A1 q.rows.length c1])] w fun e w' => e = .returned (.bool (greatRp q)) ∧ Below w.heap.size w w' := by
  have HR := Lib.hid (hr.alloc (Nat.le_refl _) (.cells #[.int .i8 q.kd, .int .i64 q.er, .int .i64 q.pid, .int .i64 q.ep, .int .i64 q.off, .slice A1 q.rows.length c1] 26))
  have HB := Lib.hid ((Below.refl w.heap.size w).alloc (Nat.le_refl _) (.cells #[.int .i8 q.kd, .int .i64 q.er, .int .i64 q.pid, .int .i64 q.ep, .int .i64 q.off, .slice A1 q.rows.length c1] 26))
  have kb := Blk.new w 26 #[.int .i8 q.kd, .int .i64 q.er, .int .i64 q.pid, .int .i64 q.ep, .int .i64 q.off, .slice A1 q.rows.length c1]
  have x5 := kb.cell 5
  clear hr kb
  by_cases h200 : 200 < q.rows.length
  · have d0 : decide ((200 : Int) < (q.rows.length : Int)) = true := by simp; omega
    have hf : greatRp q = true := by unfold greatRp; rw [decide_eq_true h200]; rfl
    have HF := Lib.hid hf
    clear hf
    go_enter Tryd.func6, Tryd.ntmps6
    go_wp2_with fail
    go_ret
    exact ⟨ret_bool HF.out.symm, HB.out⟩
  have d0 : decide ((200 : Int) < (q.rows.length : Int)) = false := by simp; omega
  have HG := Lib.hid (show greatRp q = q.rows.any bigW by unfold greatRp; rw [decide_eq_false h200]; rfl)
  go_enter Tryd.func6, Tryd.ntmps6
  go_wp2_with fail
  generalize hW : w.alloc (.cells #[.int .i8 q.kd, .int .i64 q.er, .int .i64 q.pid, .int .i64 q.ep, .int .i64 q.off, .slice A1 q.rows.length c1] 26) = W at *
  clear hW
  go_loopw [3] (fun x wr => ∃ k : Nat, k ≤ q.rows.length ∧ x = .int .i64 k ∧ wr = W ∧ (q.rows.take k).any bigW = false) (fun x _ => q.rows.length - (intOf x).toNat)
  case atStart => exact ⟨0, Nat.zero_le _, rfl, rfl, by simp⟩
  case round =>
    obtain ⟨k, hk, rfl, rfl, hany⟩ := hrel
    have HANY := Lib.hid hany
    clear hany
    by_cases hlt : k < q.rows.length
    · have d1 : decide ((k : Int) < (q.rows.length : Int)) = true := by simp; omega
      obtain ⟨b1, o1, rfl, _, hc1⟩ := HR.out.plain5 (by omega)
      obtain ⟨r, hx⟩ : ∃ z, q.rows[k]? = some z := ⟨_, List.getElem?_eq_getElem hlt⟩
      obtain ⟨g1, g2, g3, g4, g5⟩ := hc1 k _ hx
      have hsn : (q.rows.take (k + 1)).any bigW = ((q.rows.take k).any bigW || bigW r) := by
        rw [List.take_add_one, hx]; simp
      have HSN := Lib.hid hsn
      have HBW := Lib.hid (show bigW r = (decide (200 < r.2.2.2.1.size) || decide (200 < r.2.2.2.2.size)) from rfl)
      have HMEM := Lib.hid (List.mem_of_getElem? hx)
      have i1 : (0 : Int) ≤ (k : Int) := by omega
      have i2 : (k : Int) < (q.rows.length : Int) := by omega
      clear hc1 hx hsn
      by_cases hb1 : 200 < r.2.2.2.1.size
      · have d2 : decide ((200 : Int) < (r.2.2.2.1.size : Int)) = true := by simp; omega
        have hf : greatRp q = true := by rw [HG.out, List.any_eq_true]; exact ⟨r, HMEM.out, by rw [HBW.out]; simp [hb1]⟩
        have HF := Lib.hid hf
        clear hf
        go_wp2_with fail
        go_ret
        exact ⟨ret_bool HF.out.symm, HB.out⟩
      have d2 : decide ((200 : Int) < (r.2.2.2.1.size : Int)) = false := by simp; omega
      by_cases hb2 : 200 < r.2.2.2.2.size
      · have d3 : decide ((200 : Int) < (r.2.2.2.2.size : Int)) = true := by simp; omega
        have hf : greatRp q = true := by rw [HG.out, List.any_eq_true]; exact ⟨r, HMEM.out, by rw [HBW.out]; simp [hb2]⟩
        have HF := Lib.hid hf
        clear hf
        go_wp2_with fail
        go_ret
        exact ⟨ret_bool HF.out.symm, HB.out⟩
      have d3 : decide ((200 : Int) < (r.2.2.2.2.size : Int)) = false := by simp; omega
      go_wp2_with fail
      go_roundw
      case rel => exact ⟨k + 1, by omega, by go_num, trivial, by rw [HSN.out, HANY.out, HBW.out]; simp [hb1, hb2]⟩
      case measure => simp [intOf]; omega
    · obtain rfl : k = q.rows.length := by omega
      have d1 : decide ((q.rows.length : Int) < (q.rows.length : Int)) = false := by simp
      have hf : greatRp q = false := by rw [HG.out]; have := HANY.out; rwa [List.take_length] at this
      have HF := Lib.hid hf
      clear hf
      go_wp2_with fail
      go_ret
      exact ⟨ret_bool HF.out.symm, HB.out⟩
theorem not_greatRp {q : Rp} (h : greatRp q = false) : q.rows.length ≤ 200 ∧ ∀ r ∈ q.rows, r.2.2.2.1.size ≤ 200 ∧ r.2.2.2.2.size ≤ 200 := by
  unfold greatRp at h
  rw [Bool.or_eq_false_iff, decide_eq_false_iff_not, List.any_eq_false] at h
  refine ⟨by omega, fun r hr => ?_⟩
  have := h.2 r hr
  unfold bigW at this
  simp only [Bool.or_eq_true, decide_eq_true_eq] at this
  omega
end Go.Proofs.YtckdecodpjfcnaaDoor
