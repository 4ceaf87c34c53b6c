/-
  Layer 19, in plain words: an entry of a coordinator's log; its cells as an array that stays shut.
  errors.As, errors.Is at an error that wraps its code: what the library's entries give. (After the guide's worked text for errors.As at a concrete target.)
  errors.As and errors.Is at an error of type states.fault, which wraps its code.
  What errors.As leaves behind; the library's own variable.
  Layer 18: the code of an error; Ended, Has, Great.
  errors.As and errors.Is at an error of type meta.fault, which wraps its code.
  Layer 20: a state's own copy; the code of an error.
-/
import Derived.Test.YtbpkckahonmpkaaDoorMeOffsetsProofP05
import Derived.Test.YtbpkckahonmpkaaDoorRows
import Derived.WalkKit
import Derived.LaidEql
import Derived.Stop.Asserts
import Derived.RowKitTokens
import Derived.Lib.Hide
import Derived.LoopN
import Derived.Deep.LoopGhost
set_option linter.unusedVariables false
set_option linter.unusedSimpArgs false
namespace Go.Proofs.YtbpkckahonmpkaaDoor
open Go.RowKit Go.Stop Go.Extern

/-! The model's entries for internal/reflectlite at this program's types. -/
theorem asValueOf (t : Addr) (w : World) : (callFunc 74 #[.iface 87 (.pointer (some t))]).run Tryd.prog w
    = .ok (.value (.agg #[.pointer (some ⟨1, 87, none⟩), .pointer (some ⟨w.heap.size, 0, none⟩), .int .u64 150])) (w.alloc (.cells #[.pointer (some t)] 87)) := by kernel_rfl
theorem asType (a : Addr) (w : World) : (callFunc 75 #[.agg #[.pointer (some ⟨1, 87, none⟩), .pointer (some a), .int .u64 150]]).run Tryd.prog w
    = .ok (.value (.iface 120 (.agg #[.pointer (some ⟨1, 87, none⟩)]))) w := by kernel_rfl
theorem asMethodKind (k : Nat) (h : Value) (w : World) : (Go.method (k + 1) 120 (.agg #[h]) "Kind").run Tryd.prog w = .ok (107, h) w := by kernel_rfl
theorem asKindP (w : World) : (callFunc 107 #[.pointer (some ⟨1, 87, none⟩)]).run Tryd.prog w = .ok (.value (.int .u8 22)) w := by kernel_rfl
theorem asKindE (w : World) : (callFunc 107 #[.pointer (some ⟨1, 39, none⟩)]).run Tryd.prog w = .ok (.value (.int .u8 2)) w := by kernel_rfl
theorem asMethodElem (k : Nat) (h : Value) (w : World) : (Go.method (k + 1) 120 (.agg #[h]) "Elem").run Tryd.prog w = .ok (121, .agg #[h]) w := by kernel_rfl
theorem asMethodImplements (k : Nat) (h : Value) (w : World) : (Go.method (k + 1) 120 (.agg #[h]) "Implements").run Tryd.prog w = .ok (122, .agg #[h]) w := by kernel_rfl
theorem asMethodAssignable (k : Nat) (h : Value) (w : World) : (Go.method (k + 1) 120 (.agg #[h]) "AssignableTo").run Tryd.prog w = .ok (119, .agg #[h]) w := by kernel_rfl
theorem asElem (w : World) : (callFunc 121 #[.agg #[.pointer (some ⟨1, 87, none⟩)]]).run Tryd.prog w = .ok (.value (.iface 120 (.agg #[.pointer (some ⟨1, 39, none⟩)]))) w := by kernel_rfl
theorem asImplements (w : World) : (callFunc 122 #[.agg #[.pointer (some ⟨1, 39, none⟩)], .iface 120 (.agg #[.pointer (some ⟨1, 62, none⟩)])]).run Tryd.prog w = .ok (.value (.bool true)) w := by kernel_rfl
theorem asTypeOfE (v : Value) (w : World) : (callFunc 72 #[.iface 39 v]).run Tryd.prog w = .ok (.value (.iface 120 (.agg #[.pointer (some ⟨1, 39, none⟩)]))) w := by kernel_rfl
theorem asAssignE (w : World) : (callFunc 119 #[.agg #[.pointer (some ⟨1, 39, none⟩)], .iface 120 (.agg #[.pointer (some ⟨1, 39, none⟩)])]).run Tryd.prog w = .ok (.value (.bool true)) w := by kernel_rfl
theorem asValueOfE (n : Int) (w : World) : (callFunc 74 #[.iface 39 (.int .i64 n)]).run Tryd.prog w
    = .ok (.value (.agg #[.pointer (some ⟨1, 39, none⟩), .pointer (some ⟨w.heap.size, 0, none⟩), .int .u64 130])) (w.alloc (.cells #[.int .i64 n] 39)) := by kernel_rfl

/-! The entries that read or write memory. -/
-- (a line of the guide's worked text for errors.As)
theorem rlm (z : Sem Value) (f : TypeId → Addr → Nat → Nat → Sem Value) (v : Value) :
    ReflectliteValue.method z f #[v] = (do match ← ReflectliteValue.parts v with | none => z | some (t, a, fl) => f t a fl (fl % 32)) := rfl
theorem asPartsP (a : Addr) (w : World) : (ReflectliteValue.parts (.agg #[.pointer (some ⟨1, 87, none⟩), .pointer (some a), .int .u64 150])).run Tryd.prog w = .ok (some (87, a, 150)) w := by kernel_rfl
theorem asIsNil (a p : Addr) (W : World) (ha : W.cell? a = some (.pointer (some p))) :
    (callFunc 76 #[.agg #[.pointer (some ⟨1, 87, none⟩), .pointer (some a), .int .u64 150]]).run Tryd.prog W = .ok (.value (.bool false)) W := by
  rw [@run_callFunc_extern Tryd.prog 76 _ (ReflectliteValue.method (ReflectliteValue.valueError "reflectlite.Value.IsNil" 0) ReflectliteValue.isNil) Tryd.func76 (by kernel_rfl) (by kernel_rfl) (by kernel_rfl) (by kernel_rfl), rlm]
  simp only [Sem.run_bind, asPartsP, Result.andThen]
  simp [ReflectliteValue.isNil, loadVar, isAgg, underlying, Tryd.underlying87, ha, Result.andThen]
theorem asElemOf (w : World) : (Rtype.elem? 87).run Tryd.prog w = .ok (some 39) w := by kernel_rfl
theorem asMk (p : Addr) (w : World) : (ReflectliteValue.mk 39 p ReflectliteValue.flagAddr).run Tryd.prog w = .ok (.agg #[.pointer (some ⟨1, 39, none⟩), .pointer (some p), .int .u64 386]) w := by kernel_rfl
theorem asElemV (a p : Addr) (W : World) (ha : W.cell? a = some (.pointer (some p))) :
    (callFunc 85 #[.agg #[.pointer (some ⟨1, 87, none⟩), .pointer (some a), .int .u64 150]]).run Tryd.prog W
      = .ok (.value (.agg #[.pointer (some ⟨1, 39, none⟩), .pointer (some p), .int .u64 386])) W := by
  rw [@run_callFunc_extern Tryd.prog 85 _ (ReflectliteValue.method (ReflectliteValue.valueError "reflectlite.Value.Elem" 0) ReflectliteValue.elem) Tryd.func85 (by kernel_rfl) (by kernel_rfl) (by kernel_rfl) (by kernel_rfl), rlm]
  simp only [Sem.run_bind, asPartsP, Result.andThen]
  simp [ReflectliteValue.elem, loadVar, isAgg, underlying, Tryd.underlying87, ha, Result.andThen, asElemOf, asMk]

theorem asPartsD (a : Addr) (w : World) : (ReflectliteValue.parts (.agg #[.pointer (some ⟨1, 39, none⟩), .pointer (some a), .int .u64 386])).run Tryd.prog w = .ok (some (39, a, 386)) w := by kernel_rfl
theorem asPartsS (a : Addr) (w : World) : (ReflectliteValue.parts (.agg #[.pointer (some ⟨1, 39, none⟩), .pointer (some a), .int .u64 130])).run Tryd.prog w = .ok (some (39, a, 130)) w := by kernel_rfl
theorem asDirect (w : World) : (Rtype.directlyAssignable 39 39).run Tryd.prog w = .ok true w := by kernel_rfl
-- (a line of the guide's worked text for errors.As)
theorem rls (v x : Value) : ReflectliteValue.set #[v, x] = (do
    let (some (dst, a, fl), some (src, b, _)) := (← ReflectliteValue.parts v, ← ReflectliteValue.parts x)
      | unsupported (.noEntry "extern/(internal/reflectlite.Value).Set.zeroValue")
    if fl / ReflectliteValue.flagAddr % 2 == 0 then unsupported (.noEntry "extern/(internal/reflectlite.Value).Set.unaddressable")
    let val ← loadVar src b
    if ← Rtype.directlyAssignable dst src then storeVar dst a val
    else if ← Rtype.implements dst src then
      if (← Rtype.kind src) == 20 then
        match val with
        | .nilIface => unsupported (.noEntry "extern/reflectlite: a nil value of one interface type handed on as a value of another")
        | _ => storeVar dst a val
      else storeVar dst a (.iface src val)
    else panicString ("reflectlite.Set: value of type " ++ (← Rtype.spelt src) ++ " is not assignable to type " ++ (← Rtype.spelt dst))
    pure (.tuple #[])) := rfl
theorem asSet (ta b : Addr) (n : Int) (old : Value) (W : World) (hb : W.cell? b = some (.int .i64 n)) (ht : W.cell? ta = some old) (hf : W.frozen? ta = false) :
    (callFunc 86 #[.agg #[.pointer (some ⟨1, 39, none⟩), .pointer (some ta), .int .u64 386], .agg #[.pointer (some ⟨1, 39, none⟩), .pointer (some b), .int .u64 130]]).run Tryd.prog W
      = .ok (.value (.tuple #[])) (W.setCell ta (.int .i64 n)) := by
  rw [@run_callFunc_extern Tryd.prog 86 _ ReflectliteValue.set Tryd.func86 (by kernel_rfl) (by kernel_rfl) (by kernel_rfl) (by kernel_rfl), rls]
  simp only [Sem.run_bind, asPartsD, asPartsS, Result.andThen]
  simp [ReflectliteValue.flagAddr, loadVar, isAgg, underlying, Tryd.underlying39, hb, Result.andThen, asDirect, storeVar, Value.cells, storeCells, Addr.add]
  rw [run_store Tryd.prog W ta _ _ (by rfl)]
  simp [ht, hf]

/-- The world that errors.As leaves behind: four new blocks, and what the target points to is set. -/
def asWorld (w : World) (t : Nat) (n : Int) : World :=
  ((((w.alloc (.cells #[.pointer (some ⟨t, 0, none⟩)] 87)).alloc (.cells #[.pointer (some ⟨1, 87, none⟩), .pointer (some ⟨w.heap.size, 0, none⟩), .int .u64 150] 106)).alloc (.cells #[.pointer (some ⟨1, 87, none⟩), .pointer (some ⟨w.heap.size, 0, none⟩), .int .u64 150] 106)).alloc (.cells #[.int .i64 n] 39)).setCell ⟨t, 0, none⟩ (.int .i64 n)


theorem isMethodComparable (k : Nat) (h : Value) (w : World) : (Go.method (k + 1) 120 (.agg #[h]) "Comparable").run Tryd.prog w = .ok (120, .agg #[h]) w := by kernel_rfl
theorem isComparableE (w : World) : (callFunc 120 #[.agg #[.pointer (some ⟨1, 39, none⟩)]]).run Tryd.prog w = .ok (.value (.bool true)) w := by kernel_rfl
theorem isNoIsE (v : Value) (xT : TypeId) (w : World) : (Instr.typeAssert (.iface 39 v) xT 122 true).run Tryd.prog w = .ok (.tuple #[.nilIface, .bool false]) w := run_typeAssert_lacksB Tryd.underlying122 (by kernel_rfl) (by kernel_rfl) v xT w
theorem isNoUnwrapE (v : Value) (xT : TypeId) (w : World) : (Instr.typeAssert (.iface 39 v) xT 125 true).run Tryd.prog w = .ok (.tuple #[.nilIface, .bool false]) w := run_typeAssert_lacksB Tryd.underlying125 (by kernel_rfl) (by kernel_rfl) v xT w
theorem isNoUnwrapsE (v : Value) (xT : TypeId) (w : World) : (Instr.typeAssert (.iface 39 v) xT 127 true).run Tryd.prog w = .ok (.tuple #[.nilIface, .bool false]) w := run_typeAssert_lacksB Tryd.underlying127 (by kernel_rfl) (by kernel_rfl) v xT w

theorem run_equalIn_ifc {P : Program} (w : World) (d : Nat) {ti tn : TypeId} {ms : Array (String × TypeId)} {i : TypeInfo} {k : IntKind} (a b : Int)
    (hi : P.underlying ti = some (.interface ms)) (hn : P.underlying tn = some (.int k)) (hinfo : P.info? tn = some i) (hcomp : i.comparable = true) :
    (Op.equalIn (d + 2) ti (.iface tn (.int k a)) (.iface tn (.int k b))).run P w = .ok (a == b) w := by
  simp [Op.equalIn, run_underlying hi, run_underlying hn, typeInfo, hinfo, hcomp]
theorem eqErrno (a b : Int) (w : World) : (binOp .eql 62 (.iface 39 (.int .i64 a)) (.iface 39 (.int .i64 b))).run Tryd.prog w = .ok (.bool (a == b)) w := by
  obtain ⟨i, hi, hc⟩ : ∃ i, Tryd.prog.info? 39 = some i ∧ i.comparable = true := by
    have h : (Tryd.prog.info? 39).map (·.comparable) = some true := by kernel_rfl
    cases hx : Tryd.prog.info? 39 with
    | none => rw [hx] at h; cases h
    | some i => rw [hx] at h; exact ⟨i, rfl, by simpa using h⟩
  simp only [binOp]
  simp [Op.equal, Op.maxDepth, run_equalIn_ifc w 9998 a b Tryd.underlying62 Tryd.underlying39 hi hc]
end Go.Proofs.YtbpkckahonmpkaaDoor
namespace Go.Proofs.YtbpkckahonmpkaaDoor.ErSt
open Go.RowKit Go.Stop Go.Extern

theorem asTypeOfB (v : Value) (w : World) : (callFunc 72 #[.iface 92 v]).run Tryd.prog w = .ok (.value (.iface 120 (.agg #[.pointer (some ⟨1, 92, none⟩)]))) w := by kernel_rfl
theorem asAssignB (w : World) : (callFunc 119 #[.agg #[.pointer (some ⟨1, 92, none⟩)], .iface 120 (.agg #[.pointer (some ⟨1, 39, none⟩)])]).run Tryd.prog w = .ok (.value (.bool false)) w := by kernel_rfl
theorem asNoAs (v : Value) (xT : TypeId) (w : World) : (Instr.typeAssert (.iface 92 v) xT 132 true).run Tryd.prog w = .ok (.tuple #[.nilIface, .bool false]) w := run_typeAssert_lacksB Tryd.underlying132 (by kernel_rfl) (by kernel_rfl) v xT w
theorem asHasUnwrap (v : Value) (xT : TypeId) (w : World) : (Instr.typeAssert (.iface 92 v) xT 125 true).run Tryd.prog w = .ok (.tuple #[.iface 92 v, .bool true]) w := run_typeAssert_hasB Tryd.underlying125 (by kernel_rfl) v xT w
theorem asMethodUnwrap (k : Nat) (v : Value) (w : World) : (Go.method (k + 1) 92 v "Unwrap").run Tryd.prog w = .ok (114, v) w := by kernel_rfl
set_option maxHeartbeats 4000000 in
/-- errors.As(&error{.., n}, &e): true, and e is n. -/
theorem as_any (b t : Nat) (n : Int) (old : Value) (w : World) (hg : w.cell? ⟨0, 0, none⟩ = some (.iface 120 (.agg #[.pointer (some ⟨1, 62, none⟩)])))
    (hb1 : w.cell? ⟨b, 1, none⟩ = some (.int .i64 n)) (ht0 : w.cell? ⟨t, 0, none⟩ = some old) (hf0 : w.frozen? ⟨t, 0, none⟩ = false) :
    Calls Tryd.prog 51 #[.iface 92 (.pointer (some ⟨b, 0, none⟩)), .iface 87 (.pointer (some ⟨t, 0, none⟩))] w fun ev w' => ev = .returned (.bool true) ∧ asWorld w t n = w' := by
  have hlt : 0 < w.heap.size := by
    rcases Nat.lt_or_ge 0 w.heap.size with h | h
    · exact h
    · simp [World.cell?, Array.getElem?_eq_none h] at hg
  have hbl : b < w.heap.size := by
    rcases Nat.lt_or_ge b w.heap.size with h | h
    · exact h
    · simp [World.cell?, Array.getElem?_eq_none h] at hb1
  have htl : t < w.heap.size := by
    rcases Nat.lt_or_ge t w.heap.size with h | h
    · exact h
    · simp [World.cell?, Array.getElem?_eq_none h] at ht0
  have f1 := asValueOf
  have f2 := asType
  have f3 := asMethodKind
  have f4 := asKindP
  have f5 := asKindE
  have f6 := asMethodElem
  have f7 := asMethodImplements
  have f8 := asMethodAssignable
  have f9 := asElem
  have f10 := asImplements
  have f11 := asTypeOfB
  have f12 := asTypeOfE
  have f13 := asAssignB
  have f14 := asAssignE
  have f15 := asValueOfE
  have f16 := asNoAs
  have f17 := asHasUnwrap
  have f18 := asMethodUnwrap
  have n8 := asIsNil ⟨w.heap.size, 0, none⟩ ⟨t, 0, none⟩ ((w.alloc (.cells #[.pointer (some ⟨t, 0, none⟩)] 87)).alloc (.cells #[.pointer (some ⟨1, 87, none⟩), .pointer (some ⟨w.heap.size, 0, none⟩), .int .u64 150] 106)) (by simp)
  have hg2 : ((w.alloc (.cells #[.pointer (some ⟨t, 0, none⟩)] 87)).alloc (.cells #[.pointer (some ⟨1, 87, none⟩), .pointer (some ⟨w.heap.size, 0, none⟩), .int .u64 150] 106)).cell? ⟨0, 0, none⟩ = some (.iface 120 (.agg #[.pointer (some ⟨1, 62, none⟩)])) := by
    rw [World.cell?_alloc_lt _ _ ⟨0, 0, none⟩ (by simp only [World.size_alloc]; omega), World.cell?_alloc_lt _ _ ⟨0, 0, none⟩ hlt]; exact hg
  have hb2 : (((w.alloc (.cells #[.pointer (some ⟨t, 0, none⟩)] 87)).alloc (.cells #[.pointer (some ⟨1, 87, none⟩), .pointer (some ⟨w.heap.size, 0, none⟩), .int .u64 150] 106)).alloc (.cells #[.pointer (some ⟨1, 87, none⟩), .pointer (some ⟨w.heap.size, 0, none⟩), .int .u64 150] 106)).cell? ⟨b, 1, none⟩ = some (.int .i64 n) := by
    rw [World.cell?_alloc_lt _ _ ⟨b, 1, none⟩ (by simp only [World.size_alloc]; omega), World.cell?_alloc_lt _ _ ⟨b, 1, none⟩ (by simp only [World.size_alloc]; omega), World.cell?_alloc_lt _ _ ⟨b, 1, none⟩ hbl]; exact hb1
  have el := asElemV ⟨w.heap.size, 0, none⟩ ⟨t, 0, none⟩ (((w.alloc (.cells #[.pointer (some ⟨t, 0, none⟩)] 87)).alloc (.cells #[.pointer (some ⟨1, 87, none⟩), .pointer (some ⟨w.heap.size, 0, none⟩), .int .u64 150] 106)).alloc (.cells #[.pointer (some ⟨1, 87, none⟩), .pointer (some ⟨w.heap.size, 0, none⟩), .int .u64 150] 106)) (by rw [World.cell?_alloc_lt _ _ ⟨w.heap.size, 0, none⟩ (by simp only [World.size_alloc]; omega)]; simp)
  have st := asSet ⟨t, 0, none⟩ ⟨w.heap.size + 1 + 1 + 1, 0, none⟩ n old ((((w.alloc (.cells #[.pointer (some ⟨t, 0, none⟩)] 87)).alloc (.cells #[.pointer (some ⟨1, 87, none⟩), .pointer (some ⟨w.heap.size, 0, none⟩), .int .u64 150] 106)).alloc (.cells #[.pointer (some ⟨1, 87, none⟩), .pointer (some ⟨w.heap.size, 0, none⟩), .int .u64 150] 106)).alloc (.cells #[.int .i64 n] 39))
    (by rw [World.cell?_alloc_at _ _ _ _ (by simp)]; rfl)
    (by rw [World.cell?_alloc_lt _ _ ⟨t, 0, none⟩ (by simp only [World.size_alloc]; omega), World.cell?_alloc_lt _ _ ⟨t, 0, none⟩ (by simp only [World.size_alloc]; omega), World.cell?_alloc_lt _ _ ⟨t, 0, none⟩ (by simp only [World.size_alloc]; omega), World.cell?_alloc_lt _ _ ⟨t, 0, none⟩ htl]; exact ht0)
    (by rw [World.frozen?_alloc_old _ _ ⟨t, 0, none⟩ (by simp only [World.size_alloc]; omega), World.frozen?_alloc_old _ _ ⟨t, 0, none⟩ (by simp only [World.size_alloc]; omega), World.frozen?_alloc_old _ _ ⟨t, 0, none⟩ (by simp only [World.size_alloc]; omega), World.frozen?_alloc_old _ _ ⟨t, 0, none⟩ (Nat.ne_of_lt htl)]; exact hf0)
  go_enter Tryd.func51, Tryd.ntmps51
  go_wp2
  refine wp_loop_rounds 2 ?_
  iterate 2 (rw [rounds_succ]; go_wp2)
  go_ret
  exact ⟨rfl, rfl⟩

theorem isNoIs (v : Value) (xT : TypeId) (w : World) : (Instr.typeAssert (.iface 92 v) xT 122 true).run Tryd.prog w = .ok (.tuple #[.nilIface, .bool false]) w := run_typeAssert_lacksB Tryd.underlying122 (by kernel_rfl) (by kernel_rfl) v xT w
theorem eqOther (v : Value) (b : Int) (w : World) : (binOp .eql 62 (.iface 92 v) (.iface 39 (.int .i64 b))).run Tryd.prog w = .ok (.bool false) w := by kernel_rfl

set_option maxRecDepth 100000 in
set_option maxHeartbeats 4000000 in
/-- errors.Is(&error{.., n}, m): whether n is m. -/
theorem is_any (b : Nat) (n m : Int) (w : World) (hb1 : w.cell? ⟨b, 1, none⟩ = some (.int .i64 n)) :
    Calls Tryd.prog 50 #[.iface 92 (.pointer (some ⟨b, 0, none⟩)), .iface 39 (.int .i64 m)] w fun ev w' => ev = .returned (.bool (n == m)) ∧ w = w' := by
  have f6 := isMethodComparable
  have f7 := isComparableE
  have f8 := isNoIsE
  have f9 := isNoUnwrapE
  have f10 := isNoUnwrapsE
  have f11 := eqErrno
  have f12 := asTypeOfE
  have f16 := isNoIs
  have f17 := asHasUnwrap
  have f18 := asMethodUnwrap
  have f19 := eqOther
  by_cases hnm : n = m
  · subst hnm
    go_enter Tryd.func50, Tryd.ntmps50
    go_wp2
    refine wp_loop_rounds 2 ?_
    iterate 2 (rw [rounds_succ]; go_wp2)
    go_ret
    exact ⟨by simp, rfl⟩
  · have d1 : (n == m) = false := beq_eq_false_iff_ne.2 hnm
    have D1 := Lib.hid d1
    go_enter Tryd.func50, Tryd.ntmps50
    go_wp2
    refine wp_loop_rounds 2 ?_
    iterate 2 (rw [rounds_succ]; go_wp2)
    go_ret
    exact ⟨by rw [D1.out]; rfl, rfl⟩
end Go.Proofs.YtbpkckahonmpkaaDoor.ErSt
namespace Go.Proofs.YtbpkckahonmpkaaDoor
open Go.RowKit

/-- The library's own variable holds the handle of the type error. -/
def HasET (w : World) : Prop := w.cell? ⟨0, 0, none⟩ = some (.iface 120 (.agg #[.pointer (some ⟨1, 62, none⟩)]))
theorem HasET.lt {w : World} (h : HasET w) : 0 < w.heap.size := by
  rcases Nat.lt_or_ge 0 w.heap.size with h1 | h1
  · exact h1
  · unfold HasET at h; simp [World.cell?, Array.getElem?_eq_none h1] at h
theorem HasET.below {w w' : World} (h : HasET w) {B : Nat} (hb : Below B w w') (hB : 0 < B) : HasET w' := (hb.cell (p := ⟨0, 0, none⟩) hB).trans h
theorem HasET.up {w w' : World} (h : HasET w) (hb : Below w.heap.size w w') : HasET w' := h.below hb h.lt

theorem asW_cell (w : World) (n : Int) : (asWorld (w.alloc (.cells #[.int .i64 0] 39)) w.heap.size n).cell? ⟨w.heap.size, 0, none⟩ = some (.int .i64 n) := by
  unfold asWorld
  refine World.cell?_setCell_same' _ _ _ ?_
  rw [World.cell?_alloc_lt _ _ ⟨w.heap.size, 0, none⟩ (by simp only [World.size_alloc]; omega), World.cell?_alloc_lt _ _ ⟨w.heap.size, 0, none⟩ (by simp only [World.size_alloc]; omega), World.cell?_alloc_lt _ _ ⟨w.heap.size, 0, none⟩ (by simp only [World.size_alloc]; omega), World.cell?_alloc_lt _ _ ⟨w.heap.size, 0, none⟩ (by simp only [World.size_alloc]; omega)]
  simp
theorem asW_below (w : World) (n : Int) : Below w.heap.size w (asWorld (w.alloc (.cells #[.int .i64 0] 39)) w.heap.size n) := by
  rw [asWorld]
  refine Below.setCell (p := ⟨w.heap.size, 0, none⟩) ?_ (Nat.le_refl _) _
  exact ((((((Below.refl _ w).alloc (Nat.le_refl _) _).alloc (by simp) _).alloc (by simp only [World.size_alloc]; omega) _).alloc (by simp only [World.size_alloc]; omega) _).alloc (by simp only [World.size_alloc]; omega) _)
theorem cell_lt {w : World} {b o : Nat} {v : Value} (h : w.cell? ⟨b, o, none⟩ = some v) : b < w.heap.size := by
  rcases Nat.lt_or_ge b w.heap.size with h1 | h1
  · exact h1
  · simp [World.cell?, Array.getElem?_eq_none h1] at h
end Go.Proofs.YtbpkckahonmpkaaDoor
namespace Go.Proofs.YtbpkckahonmpkaaDoor
open Go.RowKit

set_option maxHeartbeats 1000000 in
theorem code_fault (b : Nat) (n : Int) (w : World) (hg : HasET w) (hb1 : w.cell? ⟨b, 1, none⟩ = some (.int .i64 n)) :
    Calls Tryd.prog 65 #[.iface 92 (.pointer (some ⟨b, 0, none⟩))] w fun e w' => e = .returned (.int .i64 n) ∧ Below w.heap.size w w' := by
  have hg1 : HasET (w.alloc (.cells #[.int .i64 0] 39)) := hg.up (bal (Below.refl _ _) _)
  have hb2 := (World.cell?_alloc_lt w (.cells #[.int .i64 0] 39) ⟨b, 1, none⟩ (cell_lt hb1)).trans hb1
  have HIS := Lib.hid (ErSt.is_any b n 2 (w.alloc (.cells #[.int .i64 0] 39)) hb2)
  have HAS := Lib.hid (ErSt.as_any b w.heap.size n (.int .i64 0) (w.alloc (.cells #[.int .i64 0] 39)) hg1 hb2 (by simp) (by simp))
  have HB := Lib.hid (fun x => bal (Below.refl w.heap.size w) x)
  have HC := Lib.hid (asW_cell w n)
  have HAB := Lib.hid (asW_below w n)
  clear hg1 hb2 hb1 hg
  by_cases h2 : n = 2
  · subst h2
    go_enter Tryd.func65, Tryd.ntmps65
    go_wp2_with (go_at_call 50; refine HIS.out.mono ?_; rintro e w1 ⟨rfl, rfl⟩)
    go_ret
    exact ⟨rfl, HB.out _⟩
  · have d2 : (n == 2) = false := eqb_false h2
    go_enter Tryd.func65, Tryd.ntmps65
    go_wp2_with (first | (go_at_call 50; refine HIS.out.mono ?_; rintro e w1 ⟨rfl, rfl⟩) | (go_at_call 51; refine HAS.out.mono ?_; rintro e w1 ⟨rfl, hw1⟩; have hc1 : w1.cell? ⟨w.heap.size, 0, none⟩ = some (.int .i64 n) := (by rw [← hw1]; exact HC.out); have HW1 := Lib.hid hw1; clear hw1))
    go_ret
    exact ⟨rfl, by rw [← HW1.out]; exact HAB.out⟩

end Go.Proofs.YtbpkckahonmpkaaDoor
namespace Go.Proofs.YtbpkckahonmpkaaDoor.ErMt
open Go.RowKit Go.Stop Go.Extern

theorem asTypeOfB (v : Value) (w : World) : (callFunc 72 #[.iface 65 v]).run Tryd.prog w = .ok (.value (.iface 120 (.agg #[.pointer (some ⟨1, 65, none⟩)]))) w := by kernel_rfl
theorem asAssignB (w : World) : (callFunc 119 #[.agg #[.pointer (some ⟨1, 65, none⟩)], .iface 120 (.agg #[.pointer (some ⟨1, 39, none⟩)])]).run Tryd.prog w = .ok (.value (.bool false)) w := by kernel_rfl
theorem asNoAs (v : Value) (xT : TypeId) (w : World) : (Instr.typeAssert (.iface 65 v) xT 132 true).run Tryd.prog w = .ok (.tuple #[.nilIface, .bool false]) w := run_typeAssert_lacksB Tryd.underlying132 (by kernel_rfl) (by kernel_rfl) v xT w
theorem asHasUnwrap (v : Value) (xT : TypeId) (w : World) : (Instr.typeAssert (.iface 65 v) xT 125 true).run Tryd.prog w = .ok (.tuple #[.iface 65 v, .bool true]) w := run_typeAssert_hasB Tryd.underlying125 (by kernel_rfl) v xT w
theorem asMethodUnwrap (k : Nat) (v : Value) (w : World) : (Go.method (k + 1) 65 v "Unwrap").run Tryd.prog w = .ok (112, v) w := by kernel_rfl
set_option maxHeartbeats 4000000 in
/-- errors.As(&error{.., n}, &e): true, and e is n. -/
theorem as_any (b t : Nat) (n : Int) (old : Value) (w : World) (hg : w.cell? ⟨0, 0, none⟩ = some (.iface 120 (.agg #[.pointer (some ⟨1, 62, none⟩)])))
    (hb1 : w.cell? ⟨b, 1, none⟩ = some (.int .i64 n)) (ht0 : w.cell? ⟨t, 0, none⟩ = some old) (hf0 : w.frozen? ⟨t, 0, none⟩ = false) :
    Calls Tryd.prog 51 #[.iface 65 (.pointer (some ⟨b, 0, none⟩)), .iface 87 (.pointer (some ⟨t, 0, none⟩))] w fun ev w' => ev = .returned (.bool true) ∧ asWorld w t n = w' := by
  have hlt : 0 < w.heap.size := by
    rcases Nat.lt_or_ge 0 w.heap.size with h | h
    · exact h
    · simp [World.cell?, Array.getElem?_eq_none h] at hg
  have hbl : b < w.heap.size := by
    rcases Nat.lt_or_ge b w.heap.size with h | h
    · exact h
    · simp [World.cell?, Array.getElem?_eq_none h] at hb1
  have htl : t < w.heap.size := by
    rcases Nat.lt_or_ge t w.heap.size with h | h
    · exact h
    · simp [World.cell?, Array.getElem?_eq_none h] at ht0
  have f1 := asValueOf
  have f2 := asType
  have f3 := asMethodKind
  have f4 := asKindP
  have f5 := asKindE
  have f6 := asMethodElem
  have f7 := asMethodImplements
  have f8 := asMethodAssignable
  have f9 := asElem
  have f10 := asImplements
  have f11 := asTypeOfB
  have f12 := asTypeOfE
  have f13 := asAssignB
  have f14 := asAssignE
  have f15 := asValueOfE
  have f16 := asNoAs
  have f17 := asHasUnwrap
  have f18 := asMethodUnwrap
  have n8 := asIsNil ⟨w.heap.size, 0, none⟩ ⟨t, 0, none⟩ ((w.alloc (.cells #[.pointer (some ⟨t, 0, none⟩)] 87)).alloc (.cells #[.pointer (some ⟨1, 87, none⟩), .pointer (some ⟨w.heap.size, 0, none⟩), .int .u64 150] 106)) (by simp)
  have hg2 : ((w.alloc (.cells #[.pointer (some ⟨t, 0, none⟩)] 87)).alloc (.cells #[.pointer (some ⟨1, 87, none⟩), .pointer (some ⟨w.heap.size, 0, none⟩), .int .u64 150] 106)).cell? ⟨0, 0, none⟩ = some (.iface 120 (.agg #[.pointer (some ⟨1, 62, none⟩)])) := by
    rw [World.cell?_alloc_lt _ _ ⟨0, 0, none⟩ (by simp only [World.size_alloc]; omega), World.cell?_alloc_lt _ _ ⟨0, 0, none⟩ hlt]; exact hg
  have hb2 : (((w.alloc (.cells #[.pointer (some ⟨t, 0, none⟩)] 87)).alloc (.cells #[.pointer (some ⟨1, 87, none⟩), .pointer (some ⟨w.heap.size, 0, none⟩), .int .u64 150] 106)).alloc (.cells #[.pointer (some ⟨1, 87, none⟩), .pointer (some ⟨w.heap.size, 0, none⟩), .int .u64 150] 106)).cell? ⟨b, 1, none⟩ = some (.int .i64 n) := by
    rw [World.cell?_alloc_lt _ _ ⟨b, 1, none⟩ (by simp only [World.size_alloc]; omega), World.cell?_alloc_lt _ _ ⟨b, 1, none⟩ (by simp only [World.size_alloc]; omega), World.cell?_alloc_lt _ _ ⟨b, 1, none⟩ hbl]; exact hb1
  have el := asElemV ⟨w.heap.size, 0, none⟩ ⟨t, 0, none⟩ (((w.alloc (.cells #[.pointer (some ⟨t, 0, none⟩)] 87)).alloc (.cells #[.pointer (some ⟨1, 87, none⟩), .pointer (some ⟨w.heap.size, 0, none⟩), .int .u64 150] 106)).alloc (.cells #[.pointer (some ⟨1, 87, none⟩), .pointer (some ⟨w.heap.size, 0, none⟩), .int .u64 150] 106)) (by rw [World.cell?_alloc_lt _ _ ⟨w.heap.size, 0, none⟩ (by simp only [World.size_alloc]; omega)]; simp)
  have st := asSet ⟨t, 0, none⟩ ⟨w.heap.size + 1 + 1 + 1, 0, none⟩ n old ((((w.alloc (.cells #[.pointer (some ⟨t, 0, none⟩)] 87)).alloc (.cells #[.pointer (some ⟨1, 87, none⟩), .pointer (some ⟨w.heap.size, 0, none⟩), .int .u64 150] 106)).alloc (.cells #[.pointer (some ⟨1, 87, none⟩), .pointer (some ⟨w.heap.size, 0, none⟩), .int .u64 150] 106)).alloc (.cells #[.int .i64 n] 39))
    (by rw [World.cell?_alloc_at _ _ _ _ (by simp)]; rfl)
    (by rw [World.cell?_alloc_lt _ _ ⟨t, 0, none⟩ (by simp only [World.size_alloc]; omega), World.cell?_alloc_lt _ _ ⟨t, 0, none⟩ (by simp only [World.size_alloc]; omega), World.cell?_alloc_lt _ _ ⟨t, 0, none⟩ (by simp only [World.size_alloc]; omega), World.cell?_alloc_lt _ _ ⟨t, 0, none⟩ htl]; exact ht0)
    (by rw [World.frozen?_alloc_old _ _ ⟨t, 0, none⟩ (by simp only [World.size_alloc]; omega), World.frozen?_alloc_old _ _ ⟨t, 0, none⟩ (by simp only [World.size_alloc]; omega), World.frozen?_alloc_old _ _ ⟨t, 0, none⟩ (by simp only [World.size_alloc]; omega), World.frozen?_alloc_old _ _ ⟨t, 0, none⟩ (Nat.ne_of_lt htl)]; exact hf0)
  go_enter Tryd.func51, Tryd.ntmps51
  go_wp2
  refine wp_loop_rounds 2 ?_
  iterate 2 (rw [rounds_succ]; go_wp2)
  go_ret
  exact ⟨rfl, rfl⟩

theorem isNoIs (v : Value) (xT : TypeId) (w : World) : (Instr.typeAssert (.iface 65 v) xT 122 true).run Tryd.prog w = .ok (.tuple #[.nilIface, .bool false]) w := run_typeAssert_lacksB Tryd.underlying122 (by kernel_rfl) (by kernel_rfl) v xT w
theorem eqOther (v : Value) (b : Int) (w : World) : (binOp .eql 62 (.iface 65 v) (.iface 39 (.int .i64 b))).run Tryd.prog w = .ok (.bool false) w := by kernel_rfl

set_option maxRecDepth 100000 in
set_option maxHeartbeats 4000000 in
/-- errors.Is(&error{.., n}, m): whether n is m. -/
theorem is_any (b : Nat) (n m : Int) (w : World) (hb1 : w.cell? ⟨b, 1, none⟩ = some (.int .i64 n)) :
    Calls Tryd.prog 50 #[.iface 65 (.pointer (some ⟨b, 0, none⟩)), .iface 39 (.int .i64 m)] w fun ev w' => ev = .returned (.bool (n == m)) ∧ w = w' := by
  have f6 := isMethodComparable
  have f7 := isComparableE
  have f8 := isNoIsE
  have f9 := isNoUnwrapE
  have f10 := isNoUnwrapsE
  have f11 := eqErrno
  have f12 := asTypeOfE
  have f16 := isNoIs
  have f17 := asHasUnwrap
  have f18 := asMethodUnwrap
  have f19 := eqOther
  by_cases hnm : n = m
  · subst hnm
    go_enter Tryd.func50, Tryd.ntmps50
    go_wp2
    refine wp_loop_rounds 2 ?_
    iterate 2 (rw [rounds_succ]; go_wp2)
    go_ret
    exact ⟨by simp, rfl⟩
  · have d1 : (n == m) = false := beq_eq_false_iff_ne.2 hnm
    have D1 := Lib.hid d1
    go_enter Tryd.func50, Tryd.ntmps50
    go_wp2
    refine wp_loop_rounds 2 ?_
    iterate 2 (rw [rounds_succ]; go_wp2)
    go_ret
    exact ⟨by rw [D1.out]; rfl, rfl⟩
end Go.Proofs.YtbpkckahonmpkaaDoor.ErMt
namespace Go.Proofs.YtbpkckahonmpkaaDoor
open Go.RowKit
def Sad.setA (a : Sad) (k : Nat) (A : Option Addr) (c : Nat) : Sad := ⟨fun j => if j = k then A else a.A j, a.D, fun j => if j = k then c else a.c j, a.e⟩
def Sad.setD (a : Sad) (k : Nat) (D : Option Addr) (e : Nat) : Sad := ⟨a.A, fun j => if j = k then D else a.D j, a.c, fun j => if j = k then e else a.e j⟩
theorem store_sliI {W : World} {a : Addr} {u : Value} (A : Option Addr) (n c : Nat) (h : W.cell? a = some u) (hf : W.frozen? a = false) : (storeVar 23 a (.slice A n c)).run Tryd.prog W = .ok () (W.setCell a (.slice A n c)) := by
  simp [go_sem, h, hf]
theorem store_sliP {W : World} {a : Addr} {u : Value} (A : Option Addr) (n c : Nat) (h : W.cell? a = some u) (hf : W.frozen? a = false) : (storeVar 24 a (.slice A n c)).run Tryd.prog W = .ok () (W.setCell a (.slice A n c)) := by
  simp [go_sem, h, hf]
theorem st_putA {W : World} {b : Nat} {t : TypeId} {s : Sta} {a : Sad} (h : Blk W b t (stX s a)) (k : Nat) (hk : k < 3) (A5 : Option Addr) (c5 : Nat) :
    ∃ W', (storeVar 23 ⟨b, 1 + k * 8 + 5, none⟩ (.slice A5 (s.tid k).ps.length c5)).run Tryd.prog W = .ok () W' ∧ Blk W' b t (stX s (a.setA k A5 c5)) ∧ (∀ m (w : World), m ≤ b → Below m w W → Below m w W') ∧ (∀ y, y ≠ b → W'.heap[y]? = W.heap[y]?) ∧ W'.heap.size = W.heap.size := by
  obtain ⟨h1, h2⟩ := blk_is h (j := 1 + k * 8 + 5) (by rw [stX_size]; omega)
  obtain ⟨u, hu⟩ := Option.isSome_iff_exists.1 h1
  refine ⟨_, store_sliI A5 _ c5 hu h2, ?_, fun m w hb hB => hB.setCell (p := ⟨b, 1 + k * 8 + 5, none⟩) hb _, fun y hy => Below.heap_setCell _ _ _ _ hy, by simp [World.setCell]⟩
  have e : (stX s a).setIfInBounds (1 + k * 8 + 5) (.slice A5 (s.tid k).ps.length c5) = stX s (a.setA k A5 c5) := by
    unfold stX
    rw [List.setIfInBounds_toArray]
    match k, hk with
    | 0, _ => rfl
    | 1, _ => rfl
    | 2, _ => rfl
  rw [← e]
  exact h.set_ _ _
theorem st_putD {W : World} {b : Nat} {t : TypeId} {s : Sta} {a : Sad} (h : Blk W b t (stX s a)) (k : Nat) (hk : k < 3) (A5 : Option Addr) (c5 : Nat) :
    ∃ W', (storeVar 24 ⟨b, 1 + k * 8 + 6, none⟩ (.slice A5 (s.tid k).qs.length c5)).run Tryd.prog W = .ok () W' ∧ Blk W' b t (stX s (a.setD k A5 c5)) ∧ (∀ m (w : World), m ≤ b → Below m w W → Below m w W') ∧ (∀ y, y ≠ b → W'.heap[y]? = W.heap[y]?) ∧ W'.heap.size = W.heap.size := by
  obtain ⟨h1, h2⟩ := blk_is h (j := 1 + k * 8 + 6) (by rw [stX_size]; omega)
  obtain ⟨u, hu⟩ := Option.isSome_iff_exists.1 h1
  refine ⟨_, store_sliP A5 _ c5 hu h2, ?_, fun m w hb hB => hB.setCell (p := ⟨b, 1 + k * 8 + 6, none⟩) hb _, fun y hy => Below.heap_setCell _ _ _ _ hy, by simp [World.setCell]⟩
  have e : (stX s a).setIfInBounds (1 + k * 8 + 6) (.slice A5 (s.tid k).qs.length c5) = stX s (a.setD k A5 c5) := by
    unfold stX
    rw [List.setIfInBounds_toArray]
    match k, hk with
    | 0, _ => rfl
    | 1, _ => rfl
    | 2, _ => rfl
  rw [← e]
  exact h.set_ _ _
set_option maxHeartbeats 1000000 in
theorem mcode_fault (b : Nat) (n : Int) (w : World) (hg : HasET w) (hb1 : w.cell? ⟨b, 1, none⟩ = some (.int .i64 n)) :
    Calls Tryd.prog 30 #[.iface 65 (.pointer (some ⟨b, 0, none⟩))] w fun e w' => e = .returned (.int .i64 n) ∧ Below w.heap.size w w' := by
  have hg1 : HasET (w.alloc (.cells #[.int .i64 0] 39)) := hg.up (bal (Below.refl _ _) _)
  have hb2 := (World.cell?_alloc_lt w (.cells #[.int .i64 0] 39) ⟨b, 1, none⟩ (cell_lt hb1)).trans hb1
  have HIS := Lib.hid (ErMt.is_any b n 2 (w.alloc (.cells #[.int .i64 0] 39)) hb2)
  have HAS := Lib.hid (ErMt.as_any b w.heap.size n (.int .i64 0) (w.alloc (.cells #[.int .i64 0] 39)) hg1 hb2 (by simp) (by simp))
  have HB := Lib.hid (fun x => bal (Below.refl w.heap.size w) x)
  have HC := Lib.hid (asW_cell w n)
  have HAB := Lib.hid (asW_below w n)
  clear hg1 hb2 hb1 hg
  by_cases h2 : n = 2
  · subst h2
    go_enter Tryd.func30, Tryd.ntmps30
    go_wp2_with (go_at_call 50; refine HIS.out.mono ?_; rintro e w1 ⟨rfl, rfl⟩)
    go_ret
    exact ⟨rfl, HB.out _⟩
  · have d2 : (n == 2) = false := eqb_false h2
    go_enter Tryd.func30, Tryd.ntmps30
    go_wp2_with (first | (go_at_call 50; refine HIS.out.mono ?_; rintro e w1 ⟨rfl, rfl⟩) | (go_at_call 51; refine HAS.out.mono ?_; rintro e w1 ⟨rfl, hw1⟩; have hc1 : w1.cell? ⟨w.heap.size, 0, none⟩ = some (.int .i64 n) := (by rw [← hw1]; exact HC.out); have HW1 := Lib.hid hw1; clear hw1))
    go_ret
    exact ⟨rfl, by rw [← HW1.out]; exact HAB.out⟩
section
attribute [-go_sem] loadCells storeVar
set_option maxRecDepth 100000 in
theorem mown_ret (X : Array Value) (tmps : Array Value) (b : Nat) (W : World) (h2 : tmps[2]?.getD undef = .pointer (some ⟨b, 0, none⟩)) (hK : Blk W b 31 X) (hX : X.size = 31) :
    (results Tryd.f28 tmps).run Tryd.prog W = .ok (.agg X) W := by
  have LC := bk_load (P := Tryd.prog) 31 hK hX
  clear hK
  simp [results, Tryd.results28, go_sem, h2, LC]
set_option maxRecDepth 100000 in
set_option maxHeartbeats 8000000 in
theorem mown_any (s : Sta) (a : Sad) (w : World) (h : StR w w.heap.size s a) :
    Calls Tryd.prog 28 #[.agg (stX s a)] w (StNew s w) := by
  obtain ⟨W0, hW0⟩ : ∃ W0, W0 = (w.alloc (.cells (stX s a) 31)).alloc (.cells #[.int .i64 0, .int .i8 0, .int .i64 0, .int .i64 0, .int .i64 0, .int .i64 0, .slice none 0 0, .slice none 0 0, .int .i64 0, .int .i8 0, .int .i64 0, .int .i64 0, .int .i64 0, .int .i64 0, .slice none 0 0, .slice none 0 0, .int .i64 0, .int .i8 0, .int .i64 0, .int .i64 0, .int .i64 0, .int .i64 0, .slice none 0 0, .slice none 0 0, .int .i64 0, .int .i64 0, .int .i64 0, .int .i64 0, .int .i64 0, .int .i64 0, .int .i64 0] 31) := ⟨_, rfl⟩
  have s0 : W0.heap.size = w.heap.size + 1 + 1 := by rw [hW0]; simp
  have B0 : Below w.heap.size w W0 := by rw [hW0]; exact bal (bal (Below.refl _ _) _) _
  have K1 : Blk W0 w.heap.size 31 (stX s a) := by rw [hW0]; exact (Blk.new w 31 (stX s a)).alloc _
  have K2 : Blk W0 (w.heap.size + 1) 31 #[.int .i64 0, .int .i8 0, .int .i64 0, .int .i64 0, .int .i64 0, .int .i64 0, .slice none 0 0, .slice none 0 0, .int .i64 0, .int .i8 0, .int .i64 0, .int .i64 0, .int .i64 0, .int .i64 0, .slice none 0 0, .slice none 0 0, .int .i64 0, .int .i8 0, .int .i64 0, .int .i64 0, .int .i64 0, .int .i64 0, .slice none 0 0, .slice none 0 0, .int .i64 0, .int .i64 0, .int .i64 0, .int .i64 0, .int .i64 0, .int .i64 0, .int .i64 0] := by rw [hW0]; exact bk_new _ 31 #[.int .i64 0, .int .i8 0, .int .i64 0, .int .i64 0, .int .i64 0, .int .i64 0, .slice none 0 0, .slice none 0 0, .int .i64 0, .int .i8 0, .int .i64 0, .int .i64 0, .int .i64 0, .int .i64 0, .slice none 0 0, .slice none 0 0, .int .i64 0, .int .i8 0, .int .i64 0, .int .i64 0, .int .i64 0, .int .i64 0, .slice none 0 0, .slice none 0 0, .int .i64 0, .int .i64 0, .int .i64 0, .int .i64 0, .int .i64 0, .int .i64 0, .int .i64 0] (by simp)
  have HW := Lib.hid hW0
  have HS := Lib.hid s0
  have HB := Lib.hid B0
  have HK := Lib.hid K1
  have HK2 := Lib.hid K2
  have H := Lib.hid h
  have x0 := st_tids K1
  clear hW0 s0 B0 K1 K2 h
  go_enter Tryd.func28, Tryd.ntmps28
  go_upto_region 1 with (fail)
  rw [← HW.out]
  go_wp2_with fail
  clear x0
  go_loopg [7] 3 (fun mm y wq => ∃ (k : Nat) (c : Sad), k ≤ 3 ∧ y = .int .i64 k ∧ mm = 3 - k ∧ Blk wq w.heap.size 31 (stX s c) ∧ Blk wq (w.heap.size + 1) 31 #[.int .i64 0, .int .i8 0, .int .i64 0, .int .i64 0, .int .i64 0, .int .i64 0, .slice none 0 0, .slice none 0 0, .int .i64 0, .int .i8 0, .int .i64 0, .int .i64 0, .int .i64 0, .int .i64 0, .slice none 0 0, .slice none 0 0, .int .i64 0, .int .i8 0, .int .i64 0, .int .i64 0, .int .i64 0, .int .i64 0, .slice none 0 0, .slice none 0 0, .int .i64 0, .int .i64 0, .int .i64 0, .int .i64 0, .int .i64 0, .int .i64 0, .int .i64 0] ∧ Below w.heap.size w wq ∧ w.heap.size + 1 + 1 ≤ wq.heap.size ∧ (∀ j, j < k → CoR wq wq.heap.size (s.tid j) (c.A j) (c.D j) ∧ NewAt (w.heap.size + 1 + 1) (s.tid j).ps.length (c.A j) ∧ NewAt (w.heap.size + 1 + 1) (s.tid j).qs.length (c.D j)))
  case atStart => exact ⟨0, a, by omega, rfl, rfl, HK.out, HK2.out, HB.out, by have := HS.out; omega, fun j hj => by omega⟩
  case round =>
    obtain ⟨k, c, hk, rfl, hmm, hk1, hk2, hbw, hsz, hl⟩ := hrel
    have HMM := Lib.hid hmm
    have K1 := Lib.hid hk1
    have K2 := Lib.hid hk2
    have BW' := Lib.hid hbw
    have SZ := Lib.hid hsz
    have HL := Lib.hid hl
    clear hmm hk1 hk2 hbw hsz hl
    by_cases hlt : k < 3
    · have d3 : decide ((k : Int) < 3) = true := decide_eq_true (by omega)
      have i1 : (0 : Int) ≤ (k : Int) := by omega
      have i2 : (k : Int) < 3 := by omega
      have ix := st_index s a k hlt wr
      obtain ⟨W2, st2, k2, b2, s2⟩ := bk_fresh (P := Tryd.prog) wr 26 #[.int .i8 0, .int .i64 0, .int .i64 0, .int .i64 0, .int .i64 0, .slice none 0 0, .slice none 0 0, .int .i64 0] #[.int .i8 (s.tid k).st, .int .i64 (s.tid k).pid, .int .i64 (s.tid k).ep, .int .i64 (s.tid k).tm, .int .i64 (s.tid k).th, .slice (a.A k) (s.tid k).ps.length (a.c k), .slice (a.D k) (s.tid k).qs.length (a.e k), .int .i64 (s.tid k).ag] 8 infoCoS rfl rfl (by simp [Value.oneCell'])
      have y5 := k2.cell 5
      have BW2 := Lib.hid (BW'.out.trans (b2.mono BW'.out.size))
      have hcr := (H.out k hlt).below BW2.out
      have hm2 := BW2.out.size
      have CI := Lib.hid (CloneI_any (a.A k) (s.tid k).ps (a.c k) W2 (hcr.1.more hm2) (by have := hcr.2.2.1; omega))
      have S2 := Lib.hid s2
      have KC := Lib.hid k2
      have KA := Lib.hid (K1.out.below b2 K1.out.lt)
      have KB := Lib.hid (K2.out.below b2 K2.out.lt)
      have B2 := Lib.hid b2
      clear k2 b2 s2 hcr hm2
      go_wp2_with fail
      refine CI.out.mono ?_
      rintro e w3 ⟨A5, c5, rfl, r5, hc5, b5, f5⟩
      obtain ⟨W4, st4, k4, fb4, fh4, fs4⟩ := st_putA (KA.out.below b5 KA.out.lt) k hlt A5 c5
      have kc4 : Blk W4 wr.heap.size 26 #[.int .i8 (s.tid k).st, .int .i64 (s.tid k).pid, .int .i64 (s.tid k).ep, .int .i64 (s.tid k).tm, .int .i64 (s.tid k).th, .slice (a.A k) (s.tid k).ps.length (a.c k), .slice (a.D k) (s.tid k).qs.length (a.e k), .int .i64 (s.tid k).ag] := (fh4 _ (by have := SZ.out; omega)).trans (KC.out.below b5 KC.out.lt)
      have kb4 : Blk W4 (w.heap.size + 1) 31 #[.int .i64 0, .int .i8 0, .int .i64 0, .int .i64 0, .int .i64 0, .int .i64 0, .slice none 0 0, .slice none 0 0, .int .i64 0, .int .i8 0, .int .i64 0, .int .i64 0, .int .i64 0, .int .i64 0, .slice none 0 0, .slice none 0 0, .int .i64 0, .int .i8 0, .int .i64 0, .int .i64 0, .int .i64 0, .int .i64 0, .slice none 0 0, .slice none 0 0, .int .i64 0, .int .i64 0, .int .i64 0, .int .i64 0, .int .i64 0, .int .i64 0, .int .i64 0] := (fh4 _ (by omega)).trans (KB.out.below b5 KB.out.lt)
      have y6 := kc4.cell 6
      have B4 := Lib.hid (fb4 w.heap.size w (Nat.le_refl _) (BW2.out.trans (b5.mono BW2.out.size)))
      have hcr := (H.out k hlt).below B4.out
      have hm4 := B4.out.size
      have CP := Lib.hid (CloneP_any (a.D k) (s.tid k).qs (a.e k) W4 (hcr.2.1.more hm4) (by have := hcr.2.2.2; omega))
      have K4 := Lib.hid k4
      have KB4 := Lib.hid kb4
      have R5 := Lib.hid r5
      have F5 := Lib.hid f5
      have FH4 := Lib.hid fh4
      have FS4 := Lib.hid fs4
      have B5 := Lib.hid b5
      clear k4 kb4 kc4 fb4 fh4 fs4 hcr hm4 r5 f5 b5 y5 ix st2
      go_wp2_with fail
      refine CP.out.mono ?_
      rintro e w5 ⟨A6, c6, rfl, r6, hc6, b6, f6⟩
      obtain ⟨W6, st6, k6, fb6, fh6, fs6⟩ := st_putD (K4.out.below b6 K4.out.lt) k hlt A6 c6
      have kb6 : Blk W6 (w.heap.size + 1) 31 #[.int .i64 0, .int .i8 0, .int .i64 0, .int .i64 0, .int .i64 0, .int .i64 0, .slice none 0 0, .slice none 0 0, .int .i64 0, .int .i8 0, .int .i64 0, .int .i64 0, .int .i64 0, .int .i64 0, .slice none 0 0, .slice none 0 0, .int .i64 0, .int .i8 0, .int .i64 0, .int .i64 0, .int .i64 0, .int .i64 0, .slice none 0 0, .slice none 0 0, .int .i64 0, .int .i64 0, .int .i64 0, .int .i64 0, .int .i64 0, .int .i64 0, .int .i64 0] := (fh6 _ (by omega)).trans (KB4.out.below b6 KB4.out.lt)
      have BB6 := Lib.hid (fb6 w.heap.size w (Nat.le_refl _) (B4.out.trans (b6.mono B4.out.size)))
      have K6 := Lib.hid k6
      have KB6 := Lib.hid kb6
      have SZ6 := Lib.hid (show w.heap.size + 1 + 1 ≤ W6.heap.size by
        have := SZ.out; have := B2.out.size; have := B5.out.size; have := FS4.out; have := b6.size; omega)
      have LL := Lib.hid (show ∀ j, j < k + 1 → CoR W6 W6.heap.size (s.tid j) (((c.setA k A5 c5).setD k A6 c6).A j) (((c.setA k A5 c5).setD k A6 c6).D j) ∧ NewAt (w.heap.size + 1 + 1) (s.tid j).ps.length (((c.setA k A5 c5).setD k A6 c6).A j) ∧ NewAt (w.heap.size + 1 + 1) (s.tid j).qs.length (((c.setA k A5 c5).setD k A6 c6).D j) from by
        intro j hj
        have hsz := SZ.out
        have hz2 := B2.out.size
        have hz5 := B5.out.size
        have hz4 := FS4.out
        by_cases hjk : j = k
        · subst hjk
          have e1 : ((c.setA j A5 c5).setD j A6 c6).A j = A5 := if_pos rfl
          have e2 : ((c.setA j A5 c5).setD j A6 c6).D j = A6 := if_pos rfl
          rw [e1, e2]
          have g5 : NewAt (w.heap.size + 1 + 1) (s.tid j).ps.length A5 := F5.out.mono (by omega)
          have g6 : NewAt (w.heap.size + 1 + 1) (s.tid j).qs.length A6 := f6.mono (by omega)
          refine ⟨⟨?_, ?_, (H.out j hlt).2.2⟩, g5, g6⟩
          · have q1 : Reads W4 W4.heap.size 1 A5 (s.tid j).ps.length (cellsI .i64 (s.tid j).ps) := by
              rw [hz4]
              exact reads_keepS R5.out (fun hn ad e => FH4.out _ (by have := newAt_blockS g5 hn e; omega))
            have q2 : Reads w5 w5.heap.size 1 A5 (s.tid j).ps.length (cellsI .i64 (s.tid j).ps) := (q1.below b6).more b6.size
            rw [fs6]
            exact reads_keepS q2 (fun hn ad e => fh6 _ (by have := newAt_blockS g5 hn e; omega))
          · rw [fs6]
            exact reads_keepS r6 (fun hn ad e => fh6 _ (by have := newAt_blockS g6 hn e; omega))
        · have hj' : j < k := by omega
          obtain ⟨c1, c2, c3⟩ := HL.out j hj'
          have e1 : ((c.setA k A5 c5).setD k A6 c6).A j = c.A j := if_neg hjk
          have e2 : ((c.setA k A5 c5).setD k A6 c6).D j = c.D j := if_neg hjk
          rw [e1, e2]
          refine ⟨?_, c2, c3⟩
          have q3 := (c1.up B2.out).up B5.out
          have q4 := q3.keepN c2 c3 (b := w.heap.size) (by omega) FH4.out hz4
          have q5 := q4.up b6
          exact q5.keepN c2 c3 (b := w.heap.size) (by omega) fh6 fs6)
      clear k6 kb6 fb6 fh6 fs6 r6 f6 b6
      go_wp2_with fail
      go_roundg (gk - 1)
      case measure => have := HMM.out; omega
      case rel =>
        exact ⟨k + 1, (c.setA k A5 c5).setD k A6 c6, by omega, by go_num, by have := HMM.out; omega, K6.out, KB6.out, BB6.out, SZ6.out, LL.out⟩
    · obtain rfl : k = 3 := by omega
      have d3 : decide (((3 : Nat) : Int) < 3) = false := by decide
      have lo := st_load K1.out
      obtain ⟨W9, st9, k9, fb, fh, fs⟩ := bk_store (P := Tryd.prog) (ty := 31) (cs := stX s c) 31 K2.out infoSta rfl (stX_size ..) (stX_one ..)
      have K9 := Lib.hid k9
      have B9 := Lib.hid (fb w.heap.size w (by omega) BW'.out)
      have L9 := Lib.hid (show StR W9 W9.heap.size s c from fun j hj => (HL.out j hj).1.keepN (HL.out j hj).2.1 (HL.out j hj).2.2 (b := w.heap.size + 1) (by omega) fh fs)
      clear k9 fb fh fs
      go_wp2_with fail
      refine bodyPost_ret (v := .agg (stX s c)) (mown_ret _ _ (w.heap.size + 1) _ rfl K9.out (stX_size ..)) rfl ?_
      exact ⟨c, rfl, L9.out, B9.out, fun j hj => ⟨(HL.out j hj).2.1.mono (by omega), (HL.out j hj).2.2.mono (by omega)⟩⟩
end
end Go.Proofs.YtbpkckahonmpkaaDoor
namespace Go.Proofs.YtbpkckahonmpkaaDoor
open Go.RowKit
structure Mt where
  kd : Int
  tid : Int
  tm : Int
  p : Pd
  yes : Bool
  th : Int
  c : Co
  nx : Int
def Pd0 : Pd := (0, 0, 0)
/-- Its cells. -/
def mtL (m : Mt) (A D : Option Addr) (c e : Nat) : List Value := [.int .i8 m.kd, .int .i64 m.tid, .int .i64 m.tm, .int .i64 m.p.1, .int .i64 m.p.2.1, .int .i64 m.p.2.2, .bool m.yes, .int .i64 m.th] ++ (coL m.c A D c e ++ [.int .i64 m.nx])
def mtX (m : Mt) (A D : Option Addr) (c e : Nat) : Array Value := (mtL m A D c e).toArray
theorem mtX_size (m : Mt) (A D : Option Addr) (c e : Nat) : (mtX m A D c e).size = 17 := rfl
theorem mtX_one (m : Mt) (A D : Option Addr) (c e : Nat) : (mtX m A D c e).all (·.oneCell') = true := by
  simp [mtX, mtL, coL, Value.oneCell']
section
variable {P : Program} {W : World} {b : Nat} {t : TypeId} {m : Mt} {A D : Option Addr} {c e : Nat}
theorem mt_load (h : Blk W b t (mtX m A D c e)) : (loadCells ⟨b, 0, none⟩ 17).run P W = .ok (mtX m A D c e) W := bk_load 17 h rfl
theorem mt_pend (h : Blk W b t (mtX m A D c e)) : (loadCells ⟨b, 3, none⟩ 3).run P W = .ok #[.int .i64 m.p.1, .int .i64 m.p.2.1, .int .i64 m.p.2.2] W := bk_load_off 3 3 h rfl rfl
theorem mt_co (h : Blk W b t (mtX m A D c e)) : (loadCells ⟨b, 8, none⟩ 8).run P W = .ok #[.int .i8 m.c.st, .int .i64 m.c.pid, .int .i64 m.c.ep, .int .i64 m.c.tm, .int .i64 m.c.th, .slice A m.c.ps.length c, .slice D m.c.qs.length e, .int .i64 m.c.ag] W := bk_load_off 8 8 h rfl rfl
theorem mt_cell (h : Blk W b t (mtX m A D c e)) {j : Nat} {v : Value} (hv : (mtL m A D c e)[j]? = some v) : W.cell? ⟨b, j, none⟩ = some v := by
  rw [h.cell, ← hv]
  unfold mtX
  simp
end
/-- An entry with the fields alone that its kind names. -/
def bareM (m : Mt) : Mt :=
  { kd := m.kd
    tid := if m.kd = 1 ∨ m.kd = 2 ∨ m.kd = 3 ∨ m.kd = 4 ∨ m.kd = 6 then m.tid else 0
    tm := if m.kd = 1 then m.tm else 0
    p := if m.kd = 2 ∨ m.kd = 5 then m.p else Pd0
    yes := if m.kd = 3 then m.yes else false
    th := if m.kd = 3 then m.th else 0
    c := if m.kd = 6 then m.c else Co0
    nx := if m.kd = 7 then m.nx else 0 }
def sameM (a b : Mt) : Bool := (a.kd == b.kd) && ((a.tid == b.tid) && ((a.tm == b.tm) && (decide (a.p = b.p) && ((a.yes == b.yes) && ((a.th == b.th) && ((a.nx == b.nx) && sameB a.c b.c))))))
noncomputable def fitM (m : Mt) : Bool :=
  if m.kd = 0 ∨ m.kd = 4 then true
  else if m.kd = 1 then decide (1 ≤ m.tm) && decide (m.tm ≤ 20)
  else if m.kd = 2 ∨ m.kd = 5 then pendB m.p
  else if m.kd = 3 then decide (0 ≤ m.th) && (decide (m.th ≤ 20) && (!m.yes || decide (m.th = 0)))
  else if m.kd = 6 then decide (m.c.ps.length = 0) && mayB m.c
  else if m.kd = 7 then decide (0 ≤ m.nx) && decide (m.nx ≤ 8)
  else false
noncomputable def mayM (m : Mt) : Bool := sameM m (bareM m) && (decide (0 ≤ m.tid) && (decide (m.tid < 3) && fitM m))
end Go.Proofs.YtbpkckahonmpkaaDoor
