/-
  Layer 6: record.write's closures.
  errors.As and errors.Is at an error of type record.fault, which wraps its code.
  What errors.As leaves behind; the library's own variable.
-/
import Derived.Test.YtckdecodpjfcnaaGreatDoorGrp05
import Derived.Test.YtckdecodpjfcnaaGreatDoorGrp01
import Derived.Test.YtckdecodpjfcnaaGreatDoorGrp08
set_option linter.unusedVariables false
set_option linter.unusedSimpArgs false
namespace Go.Proofs.YtckdecodpjfcnaaGreatDoor.ErRe
open Go.RowKit Go.Stop Go.Extern

theorem asTypeOfB (v : Value) (w : World) : (callFunc 97 #[.iface 177 v]).run Tryz.prog w = .ok (.value (.iface 162 (.agg #[.pointer (some ⟨1, 177, none⟩)]))) w := by kernel_rfl
theorem asAssignB (w : World) : (callFunc 150 #[.agg #[.pointer (some ⟨1, 177, none⟩)], .iface 162 (.agg #[.pointer (some ⟨1, 35, none⟩)])]).run Tryz.prog w = .ok (.value (.bool false)) w := by kernel_rfl
theorem asNoAs (v : Value) (xT : TypeId) (w : World) : (Instr.typeAssert (.iface 177 v) xT 174 true).run Tryz.prog w = .ok (.tuple #[.nilIface, .bool false]) w := run_typeAssert_lacksB Tryz.underlying174 (by kernel_rfl) (by kernel_rfl) v xT w
theorem asHasUnwrap (v : Value) (xT : TypeId) (w : World) : (Instr.typeAssert (.iface 177 v) xT 167 true).run Tryz.prog w = .ok (.tuple #[.iface 177 v, .bool true]) w := run_typeAssert_hasB Tryz.underlying167 (by kernel_rfl) v xT w
theorem asMethodUnwrap (k : Nat) (v : Value) (w : World) : (Go.method (k + 1) 177 v "Unwrap").run Tryz.prog w = .ok (161, v) w := by kernel_rfl
set_option maxHeartbeats 4000000 in
/-- errors.As(&error{.., n}, &e): true, and e is n. -/
theorem as_any (b t : Nat) (n : Int) (old : Value) (w : World) (hg : w.cell? ⟨0, 0, none⟩ = some (.iface 162 (.agg #[.pointer (some ⟨1, 99, none⟩)])))
    (hb1 : w.cell? ⟨b, 1, none⟩ = some (.int .i64 n)) (ht0 : w.cell? ⟨t, 0, none⟩ = some old) (hf0 : w.frozen? ⟨t, 0, none⟩ = false) :
    Calls Tryz.prog 87 #[.iface 177 (.pointer (some ⟨b, 0, none⟩)), .iface 125 (.pointer (some ⟨t, 0, none⟩))] w fun ev w' => ev = .returned (.bool true) ∧ asWorld w t n = w' := by
  have hlt : 0 < w.heap.size := by
    rcases Nat.lt_or_ge 0 w.heap.size with h | h
    · exact h
    · simp [World.cell?, Array.getElem?_eq_none h] at hg
  have hbl : b < w.heap.size := by
    rcases Nat.lt_or_ge b w.heap.size with h | h
    · exact h
    · simp [World.cell?, Array.getElem?_eq_none h] at hb1
  have htl : t < w.heap.size := by
    rcases Nat.lt_or_ge t w.heap.size with h | h
    · exact h
    · simp [World.cell?, Array.getElem?_eq_none h] at ht0
  have f1 := asValueOf
  have f2 := asType
  have f3 := asMethodKind
  have f4 := asKindP
  have f5 := asKindE
  have f6 := asMethodElem
  have f7 := asMethodImplements
  have f8 := asMethodAssignable
  have f9 := asElem
  have f10 := asImplements
  have f11 := asTypeOfB
  have f12 := asTypeOfE
  have f13 := asAssignB
  have f14 := asAssignE
  have f15 := asValueOfE
  have f16 := asNoAs
  have f17 := asHasUnwrap
  have f18 := asMethodUnwrap
  have n8 := asIsNil ⟨w.heap.size, 0, none⟩ ⟨t, 0, none⟩ ((w.alloc (.cells #[.pointer (some ⟨t, 0, none⟩)] 125)).alloc (.cells #[.pointer (some ⟨1, 125, none⟩), .pointer (some ⟨w.heap.size, 0, none⟩), .int .u64 150] 146)) (by simp)
  have hg2 : ((w.alloc (.cells #[.pointer (some ⟨t, 0, none⟩)] 125)).alloc (.cells #[.pointer (some ⟨1, 125, none⟩), .pointer (some ⟨w.heap.size, 0, none⟩), .int .u64 150] 146)).cell? ⟨0, 0, none⟩ = some (.iface 162 (.agg #[.pointer (some ⟨1, 99, none⟩)])) := by
    rw [World.cell?_alloc_lt _ _ ⟨0, 0, none⟩ (by simp only [World.size_alloc]; omega), World.cell?_alloc_lt _ _ ⟨0, 0, none⟩ hlt]; exact hg
  have hb2 : (((w.alloc (.cells #[.pointer (some ⟨t, 0, none⟩)] 125)).alloc (.cells #[.pointer (some ⟨1, 125, none⟩), .pointer (some ⟨w.heap.size, 0, none⟩), .int .u64 150] 146)).alloc (.cells #[.pointer (some ⟨1, 125, none⟩), .pointer (some ⟨w.heap.size, 0, none⟩), .int .u64 150] 146)).cell? ⟨b, 1, none⟩ = some (.int .i64 n) := by
    rw [World.cell?_alloc_lt _ _ ⟨b, 1, none⟩ (by simp only [World.size_alloc]; omega), World.cell?_alloc_lt _ _ ⟨b, 1, none⟩ (by simp only [World.size_alloc]; omega), World.cell?_alloc_lt _ _ ⟨b, 1, none⟩ hbl]; exact hb1
  have el := asElemV ⟨w.heap.size, 0, none⟩ ⟨t, 0, none⟩ (((w.alloc (.cells #[.pointer (some ⟨t, 0, none⟩)] 125)).alloc (.cells #[.pointer (some ⟨1, 125, none⟩), .pointer (some ⟨w.heap.size, 0, none⟩), .int .u64 150] 146)).alloc (.cells #[.pointer (some ⟨1, 125, none⟩), .pointer (some ⟨w.heap.size, 0, none⟩), .int .u64 150] 146)) (by rw [World.cell?_alloc_lt _ _ ⟨w.heap.size, 0, none⟩ (by simp only [World.size_alloc]; omega)]; simp)
  have st := asSet ⟨t, 0, none⟩ ⟨w.heap.size + 1 + 1 + 1, 0, none⟩ n old ((((w.alloc (.cells #[.pointer (some ⟨t, 0, none⟩)] 125)).alloc (.cells #[.pointer (some ⟨1, 125, none⟩), .pointer (some ⟨w.heap.size, 0, none⟩), .int .u64 150] 146)).alloc (.cells #[.pointer (some ⟨1, 125, none⟩), .pointer (some ⟨w.heap.size, 0, none⟩), .int .u64 150] 146)).alloc (.cells #[.int .i64 n] 35))
    (by rw [World.cell?_alloc_at _ _ _ _ (by simp)]; rfl)
    (by rw [World.cell?_alloc_lt _ _ ⟨t, 0, none⟩ (by simp only [World.size_alloc]; omega), World.cell?_alloc_lt _ _ ⟨t, 0, none⟩ (by simp only [World.size_alloc]; omega), World.cell?_alloc_lt _ _ ⟨t, 0, none⟩ (by simp only [World.size_alloc]; omega), World.cell?_alloc_lt _ _ ⟨t, 0, none⟩ htl]; exact ht0)
    (by rw [World.frozen?_alloc_old _ _ ⟨t, 0, none⟩ (by simp only [World.size_alloc]; omega), World.frozen?_alloc_old _ _ ⟨t, 0, none⟩ (by simp only [World.size_alloc]; omega), World.frozen?_alloc_old _ _ ⟨t, 0, none⟩ (by simp only [World.size_alloc]; omega), World.frozen?_alloc_old _ _ ⟨t, 0, none⟩ (Nat.ne_of_lt htl)]; exact hf0)
  go_enter Tryz.func87, Tryz.ntmps87
  go_wp2
  refine wp_loop_rounds 2 ?_
  iterate 2 (rw [rounds_succ]; go_wp2)
  go_ret
  exact ⟨rfl, rfl⟩

theorem isNoIs (v : Value) (xT : TypeId) (w : World) : (Instr.typeAssert (.iface 177 v) xT 164 true).run Tryz.prog w = .ok (.tuple #[.nilIface, .bool false]) w := run_typeAssert_lacksB Tryz.underlying164 (by kernel_rfl) (by kernel_rfl) v xT w
theorem eqOther (v : Value) (b : Int) (w : World) : (binOp .eql 99 (.iface 177 v) (.iface 35 (.int .i64 b))).run Tryz.prog w = .ok (.bool false) w := by kernel_rfl

set_option maxRecDepth 100000 in
set_option maxHeartbeats 4000000 in
/-- errors.Is(&error{.., n}, m): whether n is m. -/
theorem is_any (b : Nat) (n m : Int) (w : World) (hb1 : w.cell? ⟨b, 1, none⟩ = some (.int .i64 n)) :
    Calls Tryz.prog 77 #[.iface 177 (.pointer (some ⟨b, 0, none⟩)), .iface 35 (.int .i64 m)] w fun ev w' => ev = .returned (.bool (n == m)) ∧ w = w' := by
  have f6 := isMethodComparable
  have f7 := isComparableE
  have f8 := isNoIsE
  have f9 := isNoUnwrapE
  have f10 := isNoUnwrapsE
  have f11 := eqErrno
  have f12 := asTypeOfE
  have f16 := isNoIs
  have f17 := asHasUnwrap
  have f18 := asMethodUnwrap
  have f19 := eqOther
  by_cases hnm : n = m
  · subst hnm
    go_enter Tryz.func77, Tryz.ntmps77
    go_wp2
    refine wp_loop_rounds 2 ?_
    iterate 2 (rw [rounds_succ]; go_wp2)
    go_ret
    exact ⟨by simp, rfl⟩
  · have d1 : (n == m) = false := beq_eq_false_iff_ne.2 hnm
    have D1 := Lib.hid d1
    go_enter Tryz.func77, Tryz.ntmps77
    go_wp2
    refine wp_loop_rounds 2 ?_
    iterate 2 (rw [rounds_succ]; go_wp2)
    go_ret
    exact ⟨by rw [D1.out]; rfl, rfl⟩
end Go.Proofs.YtckdecodpjfcnaaGreatDoor.ErRe
namespace Go.Proofs.YtckdecodpjfcnaaGreatDoor
open Go.RowKit

/-- The library's own variable holds the handle of the type error. -/
def HasET (w : World) : Prop := w.cell? ⟨0, 0, none⟩ = some (.iface 162 (.agg #[.pointer (some ⟨1, 99, none⟩)]))
theorem HasET.lt {w : World} (h : HasET w) : 0 < w.heap.size := by
  rcases Nat.lt_or_ge 0 w.heap.size with h1 | h1
  · exact h1
  · unfold HasET at h; simp [World.cell?, Array.getElem?_eq_none h1] at h
theorem HasET.below {w w' : World} (h : HasET w) {B : Nat} (hb : Below B w w') (hB : 0 < B) : HasET w' := (hb.cell (p := ⟨0, 0, none⟩) hB).trans h
theorem HasET.up {w w' : World} (h : HasET w) (hb : Below w.heap.size w w') : HasET w' := h.below hb h.lt

theorem asW_cell (w : World) (n : Int) : (asWorld (w.alloc (.cells #[.int .i64 0] 35)) w.heap.size n).cell? ⟨w.heap.size, 0, none⟩ = some (.int .i64 n) := by
  unfold asWorld
  refine World.cell?_setCell_same' _ _ _ ?_
  rw [World.cell?_alloc_lt _ _ ⟨w.heap.size, 0, none⟩ (by simp only [World.size_alloc]; omega), World.cell?_alloc_lt _ _ ⟨w.heap.size, 0, none⟩ (by simp only [World.size_alloc]; omega), World.cell?_alloc_lt _ _ ⟨w.heap.size, 0, none⟩ (by simp only [World.size_alloc]; omega), World.cell?_alloc_lt _ _ ⟨w.heap.size, 0, none⟩ (by simp only [World.size_alloc]; omega)]
  simp
theorem asW_below (w : World) (n : Int) : Below w.heap.size w (asWorld (w.alloc (.cells #[.int .i64 0] 35)) w.heap.size n) := by
  rw [asWorld]
  refine Below.setCell (p := ⟨w.heap.size, 0, none⟩) ?_ (Nat.le_refl _) _
  exact ((((((Below.refl _ w).alloc (Nat.le_refl _) _).alloc (by simp) _).alloc (by simp only [World.size_alloc]; omega) _).alloc (by simp only [World.size_alloc]; omega) _).alloc (by simp only [World.size_alloc]; omega) _)
theorem cell_lt {w : World} {b o : Nat} {v : Value} (h : w.cell? ⟨b, o, none⟩ = some v) : b < w.heap.size := by
  rcases Nat.lt_or_ge b w.heap.size with h1 | h1
  · exact h1
  · simp [World.cell?, Array.getElem?_eq_none h1] at h
end Go.Proofs.YtckdecodpjfcnaaGreatDoor
namespace Go.Proofs.YtckdecodpjfcnaaGreatDoor
open Go.RowKit

/-- What write has put so far: the variables out and e, and the bytes of its own. -/
def WSt (w : World) (bo be K : Nat) (l : List UInt8) : Prop :=
  ∃ A c, Blk w bo 46 #[.slice A l.length c] ∧ Blk w be 35 #[.int .i64 0] ∧ w.ownsRow K 5 1 (.slice A l.length c) l.length (cellsB l) ∧ bo < K ∧ be < K ∧ bo ≠ be ∧ K ≤ w.heap.size
theorem WSt.only {S : Nat → Prop} {w w' : World} {bo be K : Nat} {l : List UInt8} (h : WSt w bo be K l) (k : Only S w w') (hS : ∀ g, g = bo ∨ g = be ∨ K ≤ g → ¬ S g) : WSt w' bo be K l := by
  obtain ⟨A, c, h1, h2, h3, h4, h5, h6, h7⟩ := h
  exact ⟨A, c, k.blk h1 (hS _ (.inl rfl)), k.blk h2 (hS _ (.inr (.inl rfl))), k.own h3 (fun g hg => hS g (.inr (.inr hg))), h4, h5, h6, Nat.le_trans h7 k.size⟩
theorem WSt.below {w w' : World} {bo be K : Nat} {l : List UInt8} (h : WSt w bo be K l) (k : Below w.heap.size w w') : WSt w' bo be K l :=
  h.only (Only.of_below (fun _ => False) k) (fun _ _ h => h)

theorem Number_own (A : Option Addr) (l : List UInt8) (c : Nat) (n : Nat) (w : World) (hr : Reads w w.heap.size 1 A l.length (cellsB l)) (hl : l.length ≤ 90000) (hn : n ≤ maxNum) :
    Calls Tryz.prog 109 #[.slice A l.length c, .int .i64 n] w (OwnPost (l ++ enc n) 0 w) := by
  have HP := Lib.hid (Put_own A l c n w hr hl hn)
  clear hr
  generalize l ++ enc n = L at *
  go_enter Tryz.func109, Tryz.ntmps109
  go_wp2_with (go_at_call 121; refine HP.out.mono ?_; rintro e w1 ⟨A1, c1, rfl, hr1, hc1, hb1⟩)
  go_ret2
  exact ⟨A1, c1, rfl, hr1, hc1, hb1⟩

/-- Behind a closure's call: more bytes; but for the two variables all is as it was. -/
def PutsPost (bo be K : Nat) (l : List UInt8) (w : World) (e : Ending) (w' : World) : Prop :=
  e = .returned (.tuple #[]) ∧ WSt w' bo be K l ∧ Only (fun g => g = bo ∨ g = be) w w'
theorem puts_of {bo be K : Nat} {l L : List UInt8} {w w1 : World} {A1 : Option Addr} {c1 : Nat} (h : WSt w bo be K l) (ho : w1.ownsRow w.heap.size 5 1 (.slice A1 L.length c1) L.length (cellsB L)) (hb : Below w.heap.size w w1) :
    PutsPost bo be K L w (.returned (.tuple #[])) ((w1.setCell ⟨bo, 0, none⟩ (.slice A1 L.length c1)).setCell ⟨be, 0, none⟩ (.int .i64 0)) := by
  obtain ⟨A, c, h1, h2, h3, h4, h5, h6, h7⟩ := h
  refine ⟨rfl, ⟨A1, c1, ?_, ?_, ?_, h4, h5, h6, ?_⟩, ?_⟩
  · exact ((h1.below hb h1.lt).set_ 0 _).far h6 _
  · exact ((h2.below hb h2.lt).far (Ne.symm h6) _).set_ 0 _
  · exact own_set (own_set (own_base ho h7) h4 _) h5 _
  · have := hb.size
    simp [World.setCell]; omega
  · exact ((Only.of_below _ hb).set (.inl (.inl rfl)) _).set (.inl (.inr rfl)) _

set_option maxHeartbeats 400000 in
theorem wnumber_any (bo be K : Nat) (l : List UInt8) (n : Nat) (w : World) (h : WSt w bo be K l) (hl : l.length ≤ 80000) (hn : n ≤ maxNum) :
    Calls Tryz.prog 119 #[.int .i64 n, .pointer (some ⟨be, 0, none⟩), .pointer (some ⟨bo, 0, none⟩)] w (PutsPost bo be K (l ++ enc n) w) := by
  have HP := Lib.hid (fun A1 c1 w1 => puts_of (L := l ++ enc n) (A1 := A1) (c1 := c1) (w1 := w1) h)
  obtain ⟨A, c, h1, h2, h3, h4, h5, h6, h7⟩ := h
  have HN := Lib.hid (Number_own A l c n w (Reads.of_own h3) (by omega) hn)
  have x1 := h1.cell 0
  have x2 := h2.cell 0
  have K1 := Lib.hid h1
  have K2 := Lib.hid h2
  generalize l ++ enc n = L at *
  clear h1 h2 h3
  go_enter Tryz.func119, Tryz.ntmps119
  go_wp2_with fail
  refine HN.out.mono ?_
  rintro e w1 ⟨A1, c1, rfl, ho1, hc1, hb1⟩
  have y1 := (K1.out.below hb1 K1.out.lt).cell 0
  have y2 := (K1.out.below hb1 K1.out.lt).frozen 0
  have y3 := (K2.out.below hb1 K2.out.lt).cell 0
  have y4 := (K2.out.below hb1 K2.out.lt).frozen 0
  clear x1 x2
  go_wp2_with fail
  go_end0
  exact HP.out _ _ _ ho1 hb1

set_option maxHeartbeats 400000 in
theorem wtext_any (bo be K : Nat) (l : List UInt8) (t : ByteArray) (w : World) (h : WSt w bo be K l) (hl : l.length ≤ 70000) (ht : t.size ≤ 1024) :
    Calls Tryz.prog 120 #[.string t, .pointer (some ⟨be, 0, none⟩), .pointer (some ⟨bo, 0, none⟩)] w (PutsPost bo be K (l ++ (cTxt 1024).e (lb t)) w) := by
  have HP := Lib.hid (fun A1 c1 w1 => puts_of (L := l ++ (cTxt 1024).e (lb t)) (A1 := A1) (c1 := c1) (w1 := w1) h)
  obtain ⟨A, c, h1, h2, h3, h4, h5, h6, h7⟩ := h
  have HN := Lib.hid (Text_ok A l c t w (Reads.of_own h3) (by omega) ht)
  have x1 := h1.cell 0
  have x2 := h2.cell 0
  have K1 := Lib.hid h1
  have K2 := Lib.hid h2
  generalize l ++ (cTxt 1024).e (lb t) = L at *
  clear h1 h2 h3
  go_enter Tryz.func120, Tryz.ntmps120
  go_wp2_with fail
  refine HN.out.mono ?_
  rintro e w1 ⟨A1, c1, rfl, ho1, hc1, hb1⟩
  have y1 := (K1.out.below hb1 K1.out.lt).cell 0
  have y2 := (K1.out.below hb1 K1.out.lt).frozen 0
  have y3 := (K2.out.below hb1 K2.out.lt).cell 0
  have y4 := (K2.out.below hb1 K2.out.lt).frozen 0
  clear x1 x2
  go_wp2_with fail
  go_end0
  exact HP.out _ _ _ ho1 hb1
end Go.Proofs.YtckdecodpjfcnaaGreatDoor
