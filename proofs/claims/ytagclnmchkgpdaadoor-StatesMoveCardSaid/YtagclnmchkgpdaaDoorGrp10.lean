/-
  Layer 18: the code of an error; Ended, Has, Great.
  errors.As and errors.Is at an error of type states.fault, which wraps its code.
  What errors.As leaves behind; the library's own variable.
-/
import Derived.Test.YtagclnmchkgpdaaDoorGrp09
import Derived.Test.YtagclnmchkgpdaaDoorGrp01
set_option linter.unusedVariables false
set_option linter.unusedSimpArgs false
namespace Go.Proofs.YtagclnmchkgpdaaDoor.ErSt
open Go.RowKit Go.Stop Go.Extern

theorem asTypeOfB (v : Value) (w : World) : (callFunc 71 #[.iface 62 v]).run Tryd.prog w = .ok (.value (.iface 102 (.agg #[.pointer (some ⟨1, 62, none⟩)]))) w := by kernel_rfl
theorem asAssignB (w : World) : (callFunc 111 #[.agg #[.pointer (some ⟨1, 62, none⟩)], .iface 102 (.agg #[.pointer (some ⟨1, 33, none⟩)])]).run Tryd.prog w = .ok (.value (.bool false)) w := by kernel_rfl
theorem asNoAs (v : Value) (xT : TypeId) (w : World) : (Instr.typeAssert (.iface 62 v) xT 114 true).run Tryd.prog w = .ok (.tuple #[.nilIface, .bool false]) w := run_typeAssert_lacksB Tryd.underlying114 (by kernel_rfl) (by kernel_rfl) v xT w
theorem asHasUnwrap (v : Value) (xT : TypeId) (w : World) : (Instr.typeAssert (.iface 62 v) xT 107 true).run Tryd.prog w = .ok (.tuple #[.iface 62 v, .bool true]) w := run_typeAssert_hasB Tryd.underlying107 (by kernel_rfl) v xT w
theorem asMethodUnwrap (k : Nat) (v : Value) (w : World) : (Go.method (k + 1) 62 v "Unwrap").run Tryd.prog w = .ok (106, v) w := by kernel_rfl
set_option maxHeartbeats 4000000 in
/-- errors.As(&error{.., n}, &e): true, and e is n. -/
theorem as_any (b t : Nat) (n : Int) (old : Value) (w : World) (hg : w.cell? ⟨0, 0, none⟩ = some (.iface 102 (.agg #[.pointer (some ⟨1, 60, none⟩)])))
    (hb1 : w.cell? ⟨b, 1, none⟩ = some (.int .i64 n)) (ht0 : w.cell? ⟨t, 0, none⟩ = some old) (hf0 : w.frozen? ⟨t, 0, none⟩ = false) :
    Calls Tryd.prog 66 #[.iface 62 (.pointer (some ⟨b, 0, none⟩)), .iface 81 (.pointer (some ⟨t, 0, none⟩))] w fun ev w' => ev = .returned (.bool true) ∧ asWorld w t n = w' := by
  have hlt : 0 < w.heap.size := by
    rcases Nat.lt_or_ge 0 w.heap.size with h | h
    · exact h
    · simp [World.cell?, Array.getElem?_eq_none h] at hg
  have hbl : b < w.heap.size := by
    rcases Nat.lt_or_ge b w.heap.size with h | h
    · exact h
    · simp [World.cell?, Array.getElem?_eq_none h] at hb1
  have htl : t < w.heap.size := by
    rcases Nat.lt_or_ge t w.heap.size with h | h
    · exact h
    · simp [World.cell?, Array.getElem?_eq_none h] at ht0
  have f1 := asValueOf
  have f2 := asType
  have f3 := asMethodKind
  have f4 := asKindP
  have f5 := asKindE
  have f6 := asMethodElem
  have f7 := asMethodImplements
  have f8 := asMethodAssignable
  have f9 := asElem
  have f10 := asImplements
  have f11 := asTypeOfB
  have f12 := asTypeOfE
  have f13 := asAssignB
  have f14 := asAssignE
  have f15 := asValueOfE
  have f16 := asNoAs
  have f17 := asHasUnwrap
  have f18 := asMethodUnwrap
  have n8 := asIsNil ⟨w.heap.size, 0, none⟩ ⟨t, 0, none⟩ ((w.alloc (.cells #[.pointer (some ⟨t, 0, none⟩)] 81)).alloc (.cells #[.pointer (some ⟨1, 81, none⟩), .pointer (some ⟨w.heap.size, 0, none⟩), .int .u64 150] 92)) (by simp)
  have hg2 : ((w.alloc (.cells #[.pointer (some ⟨t, 0, none⟩)] 81)).alloc (.cells #[.pointer (some ⟨1, 81, none⟩), .pointer (some ⟨w.heap.size, 0, none⟩), .int .u64 150] 92)).cell? ⟨0, 0, none⟩ = some (.iface 102 (.agg #[.pointer (some ⟨1, 60, none⟩)])) := by
    rw [World.cell?_alloc_lt _ _ ⟨0, 0, none⟩ (by simp only [World.size_alloc]; omega), World.cell?_alloc_lt _ _ ⟨0, 0, none⟩ hlt]; exact hg
  have hb2 : (((w.alloc (.cells #[.pointer (some ⟨t, 0, none⟩)] 81)).alloc (.cells #[.pointer (some ⟨1, 81, none⟩), .pointer (some ⟨w.heap.size, 0, none⟩), .int .u64 150] 92)).alloc (.cells #[.pointer (some ⟨1, 81, none⟩), .pointer (some ⟨w.heap.size, 0, none⟩), .int .u64 150] 92)).cell? ⟨b, 1, none⟩ = some (.int .i64 n) := by
    rw [World.cell?_alloc_lt _ _ ⟨b, 1, none⟩ (by simp only [World.size_alloc]; omega), World.cell?_alloc_lt _ _ ⟨b, 1, none⟩ (by simp only [World.size_alloc]; omega), World.cell?_alloc_lt _ _ ⟨b, 1, none⟩ hbl]; exact hb1
  have el := asElemV ⟨w.heap.size, 0, none⟩ ⟨t, 0, none⟩ (((w.alloc (.cells #[.pointer (some ⟨t, 0, none⟩)] 81)).alloc (.cells #[.pointer (some ⟨1, 81, none⟩), .pointer (some ⟨w.heap.size, 0, none⟩), .int .u64 150] 92)).alloc (.cells #[.pointer (some ⟨1, 81, none⟩), .pointer (some ⟨w.heap.size, 0, none⟩), .int .u64 150] 92)) (by rw [World.cell?_alloc_lt _ _ ⟨w.heap.size, 0, none⟩ (by simp only [World.size_alloc]; omega)]; simp)
  have st := asSet ⟨t, 0, none⟩ ⟨w.heap.size + 1 + 1 + 1, 0, none⟩ n old ((((w.alloc (.cells #[.pointer (some ⟨t, 0, none⟩)] 81)).alloc (.cells #[.pointer (some ⟨1, 81, none⟩), .pointer (some ⟨w.heap.size, 0, none⟩), .int .u64 150] 92)).alloc (.cells #[.pointer (some ⟨1, 81, none⟩), .pointer (some ⟨w.heap.size, 0, none⟩), .int .u64 150] 92)).alloc (.cells #[.int .i64 n] 33))
    (by rw [World.cell?_alloc_at _ _ _ _ (by simp)]; rfl)
    (by rw [World.cell?_alloc_lt _ _ ⟨t, 0, none⟩ (by simp only [World.size_alloc]; omega), World.cell?_alloc_lt _ _ ⟨t, 0, none⟩ (by simp only [World.size_alloc]; omega), World.cell?_alloc_lt _ _ ⟨t, 0, none⟩ (by simp only [World.size_alloc]; omega), World.cell?_alloc_lt _ _ ⟨t, 0, none⟩ htl]; exact ht0)
    (by rw [World.frozen?_alloc_old _ _ ⟨t, 0, none⟩ (by simp only [World.size_alloc]; omega), World.frozen?_alloc_old _ _ ⟨t, 0, none⟩ (by simp only [World.size_alloc]; omega), World.frozen?_alloc_old _ _ ⟨t, 0, none⟩ (by simp only [World.size_alloc]; omega), World.frozen?_alloc_old _ _ ⟨t, 0, none⟩ (Nat.ne_of_lt htl)]; exact hf0)
  go_enter Tryd.func66, Tryd.ntmps66
  go_wp2
  refine wp_loop_rounds 2 ?_
  iterate 2 (rw [rounds_succ]; go_wp2)
  go_ret
  exact ⟨rfl, rfl⟩

theorem isNoIs (v : Value) (xT : TypeId) (w : World) : (Instr.typeAssert (.iface 62 v) xT 104 true).run Tryd.prog w = .ok (.tuple #[.nilIface, .bool false]) w := run_typeAssert_lacksB Tryd.underlying104 (by kernel_rfl) (by kernel_rfl) v xT w
theorem eqOther (v : Value) (b : Int) (w : World) : (binOp .eql 60 (.iface 62 v) (.iface 33 (.int .i64 b))).run Tryd.prog w = .ok (.bool false) w := by kernel_rfl

set_option maxRecDepth 100000 in
set_option maxHeartbeats 4000000 in
/-- errors.Is(&error{.., n}, m): whether n is m. -/
theorem is_any (b : Nat) (n m : Int) (w : World) (hb1 : w.cell? ⟨b, 1, none⟩ = some (.int .i64 n)) :
    Calls Tryd.prog 65 #[.iface 62 (.pointer (some ⟨b, 0, none⟩)), .iface 33 (.int .i64 m)] w fun ev w' => ev = .returned (.bool (n == m)) ∧ w = w' := by
  have f6 := isMethodComparable
  have f7 := isComparableE
  have f8 := isNoIsE
  have f9 := isNoUnwrapE
  have f10 := isNoUnwrapsE
  have f11 := eqErrno
  have f12 := asTypeOfE
  have f16 := isNoIs
  have f17 := asHasUnwrap
  have f18 := asMethodUnwrap
  have f19 := eqOther
  by_cases hnm : n = m
  · subst hnm
    go_enter Tryd.func65, Tryd.ntmps65
    go_wp2
    refine wp_loop_rounds 2 ?_
    iterate 2 (rw [rounds_succ]; go_wp2)
    go_ret
    exact ⟨by simp, rfl⟩
  · have d1 : (n == m) = false := beq_eq_false_iff_ne.2 hnm
    have D1 := Lib.hid d1
    go_enter Tryd.func65, Tryd.ntmps65
    go_wp2
    refine wp_loop_rounds 2 ?_
    iterate 2 (rw [rounds_succ]; go_wp2)
    go_ret
    exact ⟨by rw [D1.out]; rfl, rfl⟩
end Go.Proofs.YtagclnmchkgpdaaDoor.ErSt
namespace Go.Proofs.YtagclnmchkgpdaaDoor
open Go.RowKit

/-- The library's own variable holds the handle of the type error. -/
def HasET (w : World) : Prop := w.cell? ⟨0, 0, none⟩ = some (.iface 102 (.agg #[.pointer (some ⟨1, 60, none⟩)]))
theorem HasET.lt {w : World} (h : HasET w) : 0 < w.heap.size := by
  rcases Nat.lt_or_ge 0 w.heap.size with h1 | h1
  · exact h1
  · unfold HasET at h; simp [World.cell?, Array.getElem?_eq_none h1] at h
theorem HasET.below {w w' : World} (h : HasET w) {B : Nat} (hb : Below B w w') (hB : 0 < B) : HasET w' := (hb.cell (p := ⟨0, 0, none⟩) hB).trans h
theorem HasET.up {w w' : World} (h : HasET w) (hb : Below w.heap.size w w') : HasET w' := h.below hb h.lt

theorem asW_cell (w : World) (n : Int) : (asWorld (w.alloc (.cells #[.int .i64 0] 33)) w.heap.size n).cell? ⟨w.heap.size, 0, none⟩ = some (.int .i64 n) := by
  unfold asWorld
  refine World.cell?_setCell_same' _ _ _ ?_
  rw [World.cell?_alloc_lt _ _ ⟨w.heap.size, 0, none⟩ (by simp only [World.size_alloc]; omega), World.cell?_alloc_lt _ _ ⟨w.heap.size, 0, none⟩ (by simp only [World.size_alloc]; omega), World.cell?_alloc_lt _ _ ⟨w.heap.size, 0, none⟩ (by simp only [World.size_alloc]; omega), World.cell?_alloc_lt _ _ ⟨w.heap.size, 0, none⟩ (by simp only [World.size_alloc]; omega)]
  simp
theorem asW_below (w : World) (n : Int) : Below w.heap.size w (asWorld (w.alloc (.cells #[.int .i64 0] 33)) w.heap.size n) := by
  rw [asWorld]
  refine Below.setCell (p := ⟨w.heap.size, 0, none⟩) ?_ (Nat.le_refl _) _
  exact ((((((Below.refl _ w).alloc (Nat.le_refl _) _).alloc (by simp) _).alloc (by simp only [World.size_alloc]; omega) _).alloc (by simp only [World.size_alloc]; omega) _).alloc (by simp only [World.size_alloc]; omega) _)
theorem cell_lt {w : World} {b o : Nat} {v : Value} (h : w.cell? ⟨b, o, none⟩ = some v) : b < w.heap.size := by
  rcases Nat.lt_or_ge b w.heap.size with h1 | h1
  · exact h1
  · simp [World.cell?, Array.getElem?_eq_none h1] at h
end Go.Proofs.YtagclnmchkgpdaaDoor
namespace Go.Proofs.YtagclnmchkgpdaaDoor
open Go.RowKit

set_option maxHeartbeats 1000000 in
theorem code_nil (w : World) : Calls Tryd.prog 48 #[.nilIface] w fun e w' => e = .returned (.int .i64 0) ∧ Below w.heap.size w w' := by
  have HB := Lib.hid (fun x => bal (Below.refl w.heap.size w) x)
  go_enter Tryd.func48, Tryd.ntmps48
  go_wp2_with fail
  go_ret
  exact ⟨rfl, HB.out _⟩

set_option maxHeartbeats 1000000 in
theorem code_fault (b : Nat) (n : Int) (w : World) (hg : HasET w) (hb1 : w.cell? ⟨b, 1, none⟩ = some (.int .i64 n)) :
    Calls Tryd.prog 48 #[.iface 62 (.pointer (some ⟨b, 0, none⟩))] w fun e w' => e = .returned (.int .i64 n) ∧ Below w.heap.size w w' := by
  have hg1 : HasET (w.alloc (.cells #[.int .i64 0] 33)) := hg.up (bal (Below.refl _ _) _)
  have hb2 := (World.cell?_alloc_lt w (.cells #[.int .i64 0] 33) ⟨b, 1, none⟩ (cell_lt hb1)).trans hb1
  have HIS := Lib.hid (ErSt.is_any b n 2 (w.alloc (.cells #[.int .i64 0] 33)) hb2)
  have HAS := Lib.hid (ErSt.as_any b w.heap.size n (.int .i64 0) (w.alloc (.cells #[.int .i64 0] 33)) hg1 hb2 (by simp) (by simp))
  have HB := Lib.hid (fun x => bal (Below.refl w.heap.size w) x)
  have HC := Lib.hid (asW_cell w n)
  have HAB := Lib.hid (asW_below w n)
  clear hg1 hb2 hb1 hg
  by_cases h2 : n = 2
  · subst h2
    go_enter Tryd.func48, Tryd.ntmps48
    go_wp2_with (go_at_call 65; refine HIS.out.mono ?_; rintro e w1 ⟨rfl, rfl⟩)
    go_ret
    exact ⟨rfl, HB.out _⟩
  · have d2 : (n == 2) = false := eqb_false h2
    go_enter Tryd.func48, Tryd.ntmps48
    go_wp2_with (first | (go_at_call 65; refine HIS.out.mono ?_; rintro e w1 ⟨rfl, rfl⟩) | (go_at_call 66; refine HAS.out.mono ?_; rintro e w1 ⟨rfl, hw1⟩; have hc1 : w1.cell? ⟨w.heap.size, 0, none⟩ = some (.int .i64 n) := (by rw [← hw1]; exact HC.out); have HW1 := Lib.hid hw1; clear hw1))
    go_ret
    exact ⟨rfl, by rw [← HW1.out]; exact HAB.out⟩

def endedB (c : Co) (yes : Bool) : Bool := if yes then c.st == 5 else c.st == 6
set_option maxHeartbeats 400000 in
theorem Ended_any (c : Co) (A1 D1 : Option Addr) (c1 e1 : Nat) (yes : Bool) (w : World) : Calls Tryd.prog 14 #[(.agg #[.int .i8 c.st, .int .i64 c.pid, .int .i64 c.ep, .int .i64 c.tm, .int .i64 c.th, .slice A1 c.ps.length c1, .slice D1 c.qs.length e1, .int .i64 c.ag]), .bool yes] w fun e w' => e = .returned (.bool (endedB c yes)) ∧ Below w.heap.size w w' := by
  have HB := Lib.hid (fun x => bal (Below.refl w.heap.size w) x)
  cases yes
  all_goals
    go_enter Tryd.func14, Tryd.ntmps14
    go_wp2
    go_ret
    exact ⟨rfl, HB.out _⟩
set_option maxHeartbeats 400000 in
theorem rEnded_any (c : Co) (A1 D1 : Option Addr) (c1 e1 : Nat) (yes : Bool) (w : World) : Calls Tryd.prog 15 #[(.agg #[.int .i8 c.st, .int .i64 c.pid, .int .i64 c.ep, .int .i64 c.tm, .int .i64 c.th, .slice A1 c.ps.length c1, .slice D1 c.qs.length e1, .int .i64 c.ag]), .bool yes] w fun e w' => e = .returned (.bool (endedB c yes)) ∧ Below w.heap.size w w' := by
  have HB := Lib.hid (fun x => bal (Below.refl w.heap.size w) x)
  cases yes
  · go_enter Tryd.func15, Tryd.ntmps15
    go_wp2
    all_goals go_ret
    all_goals exact ⟨ret_bool (by unfold endedB; first | rfl | simp [*]), HB.out _⟩
  · go_enter Tryd.func15, Tryd.ntmps15
    go_wp2
    all_goals go_ret
    all_goals exact ⟨ret_bool (by unfold endedB; first | rfl | simp [*]), HB.out _⟩

def bigB (c : Co) : Bool := decide (40 < c.ps.length) || decide (40 < c.qs.length)
set_option maxHeartbeats 400000 in
theorem Great_any (c : Co) (A1 D1 : Option Addr) (c1 e1 : Nat) (w : World) : Calls Tryd.prog 8 #[(.agg #[.int .i8 c.st, .int .i64 c.pid, .int .i64 c.ep, .int .i64 c.tm, .int .i64 c.th, .slice A1 c.ps.length c1, .slice D1 c.qs.length e1, .int .i64 c.ag])] w fun e w' => e = .returned (.bool (bigB c)) ∧ Below w.heap.size w w' := by
  have HB := Lib.hid (fun x => bal (Below.refl w.heap.size w) x)
  go_enter Tryd.func8, Tryd.ntmps8
  go_wp2
  all_goals go_ret
  all_goals exact ⟨ret_bool (by unfold bigB; rw [Bool.eq_iff_iff]; simp [*] <;> omega), HB.out _⟩

/-- The place of a number; -1: none. -/
def idxI (l : List Int) (x : Int) : Int := if x ∈ l then 1 else -1
set_option maxRecDepth 100000 in
set_option maxHeartbeats 1000000 in
theorem Contains_any (A : Option Addr) (l : List Int) (c B : Nat) (x : Int) (w : World) (hr : Reads w B 1 A l.length (cellsI .i64 l)) (hl : l.length ≤ 1000000) :
    Calls Tryd.prog 32 #[.slice A l.length c, .int .i64 x] w fun e w' => e = .returned (.bool (decide (x ∈ l))) ∧ w = w' := by
  have HI : Hid (Calls Tryd.prog 57 #[.slice A l.length c, .int .i64 x] w fun e w' => (∃ k : Int, e = .returned (.int .i64 k) ∧ (decide (0 ≤ k) = decide (x ∈ l))) ∧ w = w') := by
    refine Lib.hid ?_
    have HR := Lib.hid hr
    clear hr
    go_enter Tryd.func57, Tryd.ntmps57
    go_wp2_with fail
    go_loop [8] (fun y => ∃ k : Nat, k ≤ l.length ∧ y = .int .i64 k ∧ ¬ x ∈ l.take k) (fun y => l.length - (intOf y).toNat)
    case atStart => exact ⟨0, Nat.zero_le _, rfl, by simp⟩
    case round =>
      obtain ⟨k, hk, rfl, hno⟩ := hrel
      have HNO := Lib.hid hno
      clear hno
      by_cases hlt : k < l.length
      · have d1 : decide ((k : Int) < (l.length : Int)) = true := by simp; omega
        obtain ⟨b1, o1, rfl, _, hc1⟩ := HR.out.plain (by omega)
        obtain ⟨z, hz⟩ : ∃ z, l[k]? = some z := ⟨_, List.getElem?_eq_getElem hlt⟩
        have g1 := hc1 k _ (by rw [getElem?_cellsI, hz]; rfl)
        have HZ := Lib.hid hz
        clear hc1 hz
        by_cases hxz : x = z
        · have d2 := eqb_true hxz
          have HF := Lib.hid (show decide (0 ≤ (k : Int)) = decide (x ∈ l) by rw [decide_eq_true (by omega), decide_eq_true (by rw [hxz]; exact List.mem_of_getElem? HZ.out)])
          clear hxz
          go_wp2_with fail
          go_ret
          exact ⟨⟨_, rfl, by simpa using HF.out⟩, rfl⟩
        · have d2 := eqb_false hxz
          have HN := Lib.hid (show ¬ x ∈ l.take (k + 1) by rw [List.take_add_one, HZ.out]; simp only [List.mem_append, Option.toList_some, List.mem_singleton]; exact fun h => h.elim HNO.out hxz)
          clear hxz
          go_wp2_with fail
          go_round
          case rel => exact ⟨k + 1, by omega, by go_num, HN.out⟩
          case measure => simp [intOf]; omega
      · have d1 : decide ((k : Int) < (l.length : Int)) = false := by simp; omega
        have HF := Lib.hid (show decide (0 ≤ (-1 : Int)) = decide (x ∈ l) by
          have h := HNO.out
          rw [List.take_of_length_le (by omega)] at h
          rw [decide_eq_false h]; rfl)
        go_wp2_with fail
        go_ret
        exact ⟨⟨_, rfl, by simpa using HF.out⟩, rfl⟩
  clear hr
  go_enter Tryd.func32, Tryd.ntmps32
  go_wp2_with fail
  refine HI.out.mono ?_
  rintro e w1 ⟨⟨k, rfl, hk⟩, rfl⟩
  have HK := Lib.hid hk
  clear hk
  go_wp2_with fail
  go_ret
  exact ⟨ret_bool HK.out, rfl⟩

set_option maxHeartbeats 400000 in
theorem Has_any (c : Co) (A1 D1 : Option Addr) (c1 e1 : Nat) (x : Int) (B : Nat) (w : World) (h1 : CoR w B c A1 D1) (hB : B ≤ w.heap.size) :
    Calls Tryd.prog 16 #[(.agg #[.int .i8 c.st, .int .i64 c.pid, .int .i64 c.ep, .int .i64 c.tm, .int .i64 c.th, .slice A1 c.ps.length c1, .slice D1 c.qs.length e1, .int .i64 c.ag]), .int .i64 x] w fun e w' => e = .returned (.bool (decide (x ∈ c.ps))) ∧ Below w.heap.size w w' := by
  have HB := Lib.hid (fun x => bal (Below.refl w.heap.size w) x)
  have HC := Lib.hid (fun y => Contains_any A1 c.ps c1 B x (w.alloc y) (h1.1.alloc hB y) (by have := h1.2.2.1; omega))
  generalize decide (x ∈ c.ps) = bb at *
  clear h1
  go_enter Tryd.func16, Tryd.ntmps16
  go_wp2_with (go_at_call 32; refine (HC.out _).mono ?_; rintro e w1 ⟨rfl, rfl⟩)
  go_ret
  exact ⟨rfl, HB.out _⟩

set_option maxRecDepth 100000 in
set_option maxHeartbeats 1000000 in
theorem rHas_any (c : Co) (A1 D1 : Option Addr) (c1 e1 : Nat) (x : Int) (B : Nat) (w : World) (h1 : CoR w B c A1 D1) (hB : B ≤ w.heap.size) :
    Calls Tryd.prog 17 #[(.agg #[.int .i8 c.st, .int .i64 c.pid, .int .i64 c.ep, .int .i64 c.tm, .int .i64 c.th, .slice A1 c.ps.length c1, .slice D1 c.qs.length e1, .int .i64 c.ag]), .int .i64 x] w fun e w' => e = .returned (.bool (decide (x ∈ c.ps))) ∧ Below w.heap.size w w' := by
  have HB := Lib.hid (bal (Below.refl w.heap.size w) (.cells #[.int .i8 c.st, .int .i64 c.pid, .int .i64 c.ep, .int .i64 c.tm, .int .i64 c.th, .slice A1 c.ps.length c1, .slice D1 c.qs.length e1, .int .i64 c.ag] 26))
  have K5 := (Blk.new w 26 #[.int .i8 c.st, .int .i64 c.pid, .int .i64 c.ep, .int .i64 c.tm, .int .i64 c.th, .slice A1 c.ps.length c1, .slice D1 c.qs.length e1, .int .i64 c.ag]).cell 5
  have HR := Lib.hid (h1.1.alloc hB (.cells #[.int .i8 c.st, .int .i64 c.pid, .int .i64 c.ep, .int .i64 c.tm, .int .i64 c.th, .slice A1 c.ps.length c1, .slice D1 c.qs.length e1, .int .i64 c.ag] 26))
  have hl := h1.2.2.1
  clear h1
  go_enter Tryd.func17, Tryd.ntmps17
  go_wp2_with fail
  generalize w.alloc (.cells #[.int .i8 c.st, .int .i64 c.pid, .int .i64 c.ep, .int .i64 c.tm, .int .i64 c.th, .slice A1 c.ps.length c1, .slice D1 c.qs.length e1, .int .i64 c.ag] 26) = W at *
  go_loop [5] (fun y => ∃ k : Nat, k ≤ c.ps.length ∧ y = .int .i64 k ∧ ¬ x ∈ c.ps.take k) (fun y => c.ps.length - (intOf y).toNat)
  case atStart => exact ⟨0, Nat.zero_le _, rfl, by simp⟩
  case round =>
    obtain ⟨k, hk, rfl, hno⟩ := hrel
    have HNO := Lib.hid hno
    clear hno
    by_cases hlt : k < c.ps.length
    · have d1 : decide ((k : Int) < (c.ps.length : Int)) = true := by simp; omega
      obtain ⟨b1, o1, rfl, _, hc1⟩ := HR.out.plain (by omega)
      obtain ⟨z, hz⟩ : ∃ z, c.ps[k]? = some z := ⟨_, List.getElem?_eq_getElem hlt⟩
      have g1 := hc1 k _ (by rw [getElem?_cellsI, hz]; rfl)
      have HZ := Lib.hid hz
      clear hc1 hz
      by_cases hxz : z = x
      · have d2 := eqb_true hxz
        have HF := Lib.hid (show decide (x ∈ c.ps) = true by rw [decide_eq_true]; rw [← hxz]; exact List.mem_of_getElem? HZ.out)
        clear hxz
        go_wp2_with fail
        go_ret
        exact ⟨ret_bool HF.out.symm, HB.out⟩
      · have d2 := eqb_false hxz
        have HN := Lib.hid (show ¬ x ∈ c.ps.take (k + 1) by rw [List.take_add_one, HZ.out]; simp only [List.mem_append, Option.toList_some, List.mem_singleton]; exact fun h => h.elim HNO.out (fun e => hxz e.symm))
        clear hxz
        go_wp2_with fail
        go_round
        case rel => exact ⟨k + 1, by omega, by go_num, HN.out⟩
        case measure => simp [intOf]; omega
    · have d1 : decide ((k : Int) < (c.ps.length : Int)) = false := by simp; omega
      have HF := Lib.hid (show decide (x ∈ c.ps) = false by
        have h := HNO.out
        rw [List.take_of_length_le (by omega)] at h
        rw [decide_eq_false h])
      go_wp2_with fail
      go_ret
      exact ⟨ret_bool HF.out.symm, HB.out⟩
end Go.Proofs.YtagclnmchkgpdaaDoor
