/-
  errors.Is at what package frame hands it; framed, Bytes: what each call gives.
-/
import Derived.Test.YtlojphajdefkdaaFrA
import Derived.LaidEql
import Derived.Stop.Asserts
import Derived.RowKitTokens
namespace Go.Proofs.Ytlojphajdefkdaa
open Go.RowKit Go.Stop Go.Extern

theorem callTypeOf (v : Value) (w : World) : (callFunc 25 #[.iface 26 v]).run Try.prog w = .ok (.value (.iface 61 (.agg #[.pointer (some ⟨0, 26, none⟩)]))) w := by kernel_rfl
theorem callComparable (w : World) : (callFunc 48 #[.agg #[.pointer (some ⟨0, 26, none⟩)]]).run Try.prog w = .ok (.value (.bool true)) w := by kernel_rfl
theorem methodComparable (k : Nat) (v : Value) (w : World) : (Go.method (k + 1) 61 v "Comparable").run Try.prog w = .ok (48, v) w := by kernel_rfl
theorem methodUnwrap (k : Nat) (v : Value) (w : World) : (Go.method (k + 1) 52 v "Unwrap").run Try.prog w = .ok (44, v) w := by kernel_rfl
theorem errnoComp : (Try.prog.info? 26).map (·.comparable) = some true := by kernel_rfl
theorem noIsF (v : Value) (xT : TypeId) (w : World) : (Instr.typeAssert (.iface 52 v) xT 63 true).run Try.prog w = .ok (.tuple #[.nilIface, .bool false]) w := run_typeAssert_lacksB Try.underlying63 (by kernel_rfl) (by kernel_rfl) v xT w
theorem hasUnwrapF (v : Value) (xT : TypeId) (w : World) : (Instr.typeAssert (.iface 52 v) xT 66 true).run Try.prog w = .ok (.tuple #[.iface 52 v, .bool true]) w := run_typeAssert_hasB Try.underlying66 (by kernel_rfl) v xT w

set_option maxHeartbeats 400000 in
/-- errors.Is(nil, x). -/
theorem is_nil (n : Int) (w : World) :
    Calls Try.prog 21 #[.nilIface, .iface 26 (.int .i64 n)] w fun e w' => e = .returned (.bool false) ∧ w = w' := by
  have hn := run_eql_iface_nil_left (P := Try.prog) w 26 (.int .i64 n) Try.underlying43
  go_enter Try.func21, Try.ntmps21
  go_wp2
  go_ret
  exact ⟨rfl, rfl⟩

set_option maxHeartbeats 400000 in
/-- errors.Is(&fault{n}, n). -/
theorem is_fault (b : Nat) (n : Int) (w : World) (hc : w.cell? ⟨b, 0, none⟩ = some (.int .i64 n)) :
    Calls Try.prog 21 #[.iface 52 (.pointer (some ⟨b, 0, none⟩)), .iface 26 (.int .i64 n)] w fun e w' => e = .returned (.bool true) ∧ w = w' := by
  have tT := callTypeOf
  have cT := callComparable
  have mR := methodComparable
  have mU := methodUnwrap
  have nE := noIsF
  have uE := hasUnwrapF
  obtain ⟨i, hi, hcmp⟩ := Option.map_eq_some_iff.1 errnoComp
  have heq := fun w => run_eql_iface_int (P := Try.prog) w n n Try.underlying43 Try.underlying26 hi hcmp
  simp only [beq_self_eq_true] at heq
  clear hi hcmp
  have hty := run_eql_iface_types (P := Try.prog) 52 26 (.pointer (some ⟨b, 0, none⟩)) (.int .i64 n) Try.underlying43 (by decide) w
  go_enter Try.func21, Try.ntmps21
  go_wp2
  refine wp_loop_rounds 2 ?_
  iterate 2 (rw [rounds_succ]; go_wp2)
  go_ret
  exact ⟨rfl, rfl⟩

end Go.Proofs.Ytlojphajdefkdaa
