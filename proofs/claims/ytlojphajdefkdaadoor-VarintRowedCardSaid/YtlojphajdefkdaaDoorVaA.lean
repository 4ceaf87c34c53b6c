/-
  errors.As at what package varint hands it: an error that wraps its code is unwrapped once, and the code is set. (After the guide's worked text for errors.As at a concrete target.)
-/
import Derived.Test.YtlojphajdefkdaaDoorRows
import Derived.WalkKit
import Derived.LaidEql
import Derived.Stop.Asserts
import Derived.RowKitTokens
namespace Go.Proofs.YtlojphajdefkdaaDoor
open Go.RowKit Go.Stop Go.Extern

/-! The model's entries for internal/reflectlite at this program's types. -/
theorem asValueOf (t : Addr) (w : World) : (callFunc 26 #[.iface 56 (.pointer (some t))]).run Tryd.prog w
    = .ok (.value (.agg #[.pointer (some ⟨1, 56, none⟩), .pointer (some ⟨w.heap.size, 0, none⟩), .int .u64 150])) (w.alloc (.cells #[.pointer (some t)] 56)) := by kernel_rfl
theorem asType (a : Addr) (w : World) : (callFunc 27 #[.agg #[.pointer (some ⟨1, 56, none⟩), .pointer (some a), .int .u64 150]]).run Tryd.prog w
    = .ok (.value (.iface 70 (.agg #[.pointer (some ⟨1, 56, none⟩)]))) w := by kernel_rfl
theorem asMethodKind (k : Nat) (h : Value) (w : World) : (Go.method (k + 1) 70 (.agg #[h]) "Kind").run Tryd.prog w = .ok (47, h) w := by kernel_rfl
theorem asKindP (w : World) : (callFunc 47 #[.pointer (some ⟨1, 56, none⟩)]).run Tryd.prog w = .ok (.value (.int .u8 22)) w := by kernel_rfl
theorem asKindE (w : World) : (callFunc 47 #[.pointer (some ⟨1, 24, none⟩)]).run Tryd.prog w = .ok (.value (.int .u8 2)) w := by kernel_rfl
theorem asMethodElem (k : Nat) (h : Value) (w : World) : (Go.method (k + 1) 70 (.agg #[h]) "Elem").run Tryd.prog w = .ok (59, .agg #[h]) w := by kernel_rfl
theorem asMethodImplements (k : Nat) (h : Value) (w : World) : (Go.method (k + 1) 70 (.agg #[h]) "Implements").run Tryd.prog w = .ok (60, .agg #[h]) w := by kernel_rfl
theorem asMethodAssignable (k : Nat) (h : Value) (w : World) : (Go.method (k + 1) 70 (.agg #[h]) "AssignableTo").run Tryd.prog w = .ok (57, .agg #[h]) w := by kernel_rfl
theorem asElem (w : World) : (callFunc 59 #[.agg #[.pointer (some ⟨1, 56, none⟩)]]).run Tryd.prog w = .ok (.value (.iface 70 (.agg #[.pointer (some ⟨1, 24, none⟩)]))) w := by kernel_rfl
theorem asImplements (w : World) : (callFunc 60 #[.agg #[.pointer (some ⟨1, 24, none⟩)], .iface 70 (.agg #[.pointer (some ⟨1, 45, none⟩)])]).run Tryd.prog w = .ok (.value (.bool true)) w := by kernel_rfl
theorem asTypeOfB (v : Value) (w : World) : (callFunc 30 #[.iface 50 v]).run Tryd.prog w = .ok (.value (.iface 70 (.agg #[.pointer (some ⟨1, 50, none⟩)]))) w := by kernel_rfl
theorem asTypeOfE (v : Value) (w : World) : (callFunc 30 #[.iface 24 v]).run Tryd.prog w = .ok (.value (.iface 70 (.agg #[.pointer (some ⟨1, 24, none⟩)]))) w := by kernel_rfl
theorem asAssignB (w : World) : (callFunc 57 #[.agg #[.pointer (some ⟨1, 50, none⟩)], .iface 70 (.agg #[.pointer (some ⟨1, 24, none⟩)])]).run Tryd.prog w = .ok (.value (.bool false)) w := by kernel_rfl
theorem asAssignE (w : World) : (callFunc 57 #[.agg #[.pointer (some ⟨1, 24, none⟩)], .iface 70 (.agg #[.pointer (some ⟨1, 24, none⟩)])]).run Tryd.prog w = .ok (.value (.bool true)) w := by kernel_rfl
theorem asValueOfE (n : Int) (w : World) : (callFunc 26 #[.iface 24 (.int .i64 n)]).run Tryd.prog w
    = .ok (.value (.agg #[.pointer (some ⟨1, 24, none⟩), .pointer (some ⟨w.heap.size, 0, none⟩), .int .u64 130])) (w.alloc (.cells #[.int .i64 n] 24)) := by kernel_rfl
theorem asNoAs (v : Value) (xT : TypeId) (w : World) : (Instr.typeAssert (.iface 50 v) xT 75 true).run Tryd.prog w = .ok (.tuple #[.nilIface, .bool false]) w := run_typeAssert_lacksB Tryd.underlying75 (by kernel_rfl) (by kernel_rfl) v xT w
theorem asHasUnwrap (v : Value) (xT : TypeId) (w : World) : (Instr.typeAssert (.iface 50 v) xT 78 true).run Tryd.prog w = .ok (.tuple #[.iface 50 v, .bool true]) w := run_typeAssert_hasB Tryd.underlying78 (by kernel_rfl) v xT w
theorem asMethodUnwrap (k : Nat) (v : Value) (w : World) : (Go.method (k + 1) 50 v "Unwrap").run Tryd.prog w = .ok (52, v) w := by kernel_rfl

/-! The entries that read or write memory. -/
-- (a line of the guide's worked text for errors.As)
theorem rlm (z : Sem Value) (f : TypeId → Addr → Nat → Nat → Sem Value) (v : Value) :
    ReflectliteValue.method z f #[v] = (do match ← ReflectliteValue.parts v with | none => z | some (t, a, fl) => f t a fl (fl % 32)) := rfl
theorem asPartsP (a : Addr) (w : World) : (ReflectliteValue.parts (.agg #[.pointer (some ⟨1, 56, none⟩), .pointer (some a), .int .u64 150])).run Tryd.prog w = .ok (some (56, a, 150)) w := by kernel_rfl
theorem asIsNil (a p : Addr) (W : World) (ha : W.cell? a = some (.pointer (some p))) :
    (callFunc 28 #[.agg #[.pointer (some ⟨1, 56, none⟩), .pointer (some a), .int .u64 150]]).run Tryd.prog W = .ok (.value (.bool false)) W := by
  rw [@run_callFunc_extern Tryd.prog 28 _ (ReflectliteValue.method (ReflectliteValue.valueError "reflectlite.Value.IsNil" 0) ReflectliteValue.isNil) Tryd.func28 (by kernel_rfl) (by kernel_rfl) (by kernel_rfl) (by kernel_rfl), rlm]
  simp only [Sem.run_bind, asPartsP, Result.andThen]
  simp [ReflectliteValue.isNil, loadVar, isAgg, underlying, Tryd.underlying56, ha, Result.andThen]
theorem asElemOf (w : World) : (Rtype.elem? 56).run Tryd.prog w = .ok (some 24) w := by kernel_rfl
theorem asMk (p : Addr) (w : World) : (ReflectliteValue.mk 24 p ReflectliteValue.flagAddr).run Tryd.prog w = .ok (.agg #[.pointer (some ⟨1, 24, none⟩), .pointer (some p), .int .u64 386]) w := by kernel_rfl
theorem asElemV (a p : Addr) (W : World) (ha : W.cell? a = some (.pointer (some p))) :
    (callFunc 31 #[.agg #[.pointer (some ⟨1, 56, none⟩), .pointer (some a), .int .u64 150]]).run Tryd.prog W
      = .ok (.value (.agg #[.pointer (some ⟨1, 24, none⟩), .pointer (some p), .int .u64 386])) W := by
  rw [@run_callFunc_extern Tryd.prog 31 _ (ReflectliteValue.method (ReflectliteValue.valueError "reflectlite.Value.Elem" 0) ReflectliteValue.elem) Tryd.func31 (by kernel_rfl) (by kernel_rfl) (by kernel_rfl) (by kernel_rfl), rlm]
  simp only [Sem.run_bind, asPartsP, Result.andThen]
  simp [ReflectliteValue.elem, loadVar, isAgg, underlying, Tryd.underlying56, ha, Result.andThen, asElemOf, asMk]
end Go.Proofs.YtlojphajdefkdaaDoor
