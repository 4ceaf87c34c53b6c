/-
  Layer 2, reading: what a reader's deferred closure does: it recovers a stop, and stops the reader where it was.
-/
import Derived.Test.YtcockikekgmfkaaDoorFiC
import Derived.Defers
import Derived.Recover
import Derived.Laws.Pointers
namespace Go.Proofs.YtcockikekgmfkaaDoor
open Go.RowKit

theorem skip_then {P : Program} {y : Code} {Q : Exit → Act → List Frame → World → Prop} {a : Act} {cs : List Frame} {w : World} (h : y.wpS P Q a cs w) : Code.skip.wpS P (Exit.thenS (y.wpS P Q) Q) a cs w := wpS_of_wp (wp_skip h)

theorem catch_idle (ba br be : Nat) (w : World) :
    CallsD Tryd.prog 79 #[.pointer (some ⟨ba, 0, none⟩), .pointer (some ⟨br, 0, none⟩), .pointer (some ⟨be, 0, none⟩)] .returning w fun e u' w' => e = .returned (.tuple #[]) ∧ u' = .returning ∧ w' = w := by
  refine callsD_of_wpS Tryd.func79 rfl fun c₀ cs hu => ?_
  apply wpS_seq
  apply wpS_region
  simp [wpOpsS, go_sem, recoverD, hu, Tryd.ntmps79, Exit.thenS]
  apply wpS_seq
  apply wpS_seq
  apply wpS_region
  simp [wpOpsS, go_sem, Exit.thenS]
  refine wpS_cond (t := true) (by simp [Act.eval, Array.replicate]) ?_
  simp only [if_true]
  refine wpS_of_wp (wp_ret ?_)
  cases c₀
  simp_all [bodyPostS, results, Tryd.results79, Exit.thenS]

set_option maxRecDepth 100000 in
set_option maxHeartbeats 1000000 in
theorem catch_stop (ba br be g b : Nat) (s : ByteArray) (i j : Nat) (bad : Bool) (x : Value) (w : World) (h : RdB w g s j bad) (ha : Blk w ba 3 #[.int .i64 (i : Int)]) (hr : Blk w br 24 #[.pointer (some ⟨g, 0, none⟩)]) (he : Blk w be 87 #[x]) :
    CallsD Tryd.prog 79 #[.pointer (some ⟨ba, 0, none⟩), .pointer (some ⟨br, 0, none⟩), .pointer (some ⟨be, 0, none⟩)] (.panicking [{ v := .iface 94 (.pointer (some ⟨b, 0, none⟩)), recovered := false }]) w fun e u' w' => e = .returned (.tuple #[]) ∧ u' = .panicking [{ v := .iface 94 (.pointer (some ⟨b, 0, none⟩)), recovered := true }] ∧
      Blk w' be 87 #[.iface 94 (.pointer (some ⟨b, 0, none⟩))] ∧ RdB w' g s i true ∧ Only (fun y => y = g ∨ y = be) w w' := by
  have x1 := h.frozen 1
  have x2 := h.frozen 2
  have x3 := h.cell 1
  have x4 := h.cell 2
  have y1 := ha.cell 0
  have y2 := hr.cell 0
  have y3 := he.cell 0
  have y4 := he.frozen 0
  have n1 : ¬ g = be := h.ne_ he (by decide)
  have n2 : ¬ be = g := fun h' => n1 h'.symm
  have n3 : be < w.heap.size := he.lt
  have n4 : ¬ be = w.heap.size := by omega
  have H := Lib.hid h
  have HE := Lib.hid he
  have hta : ∀ W : World, (Instr.typeAssert (.iface 94 (.pointer (some ⟨b, 0, none⟩))) 20 94 true).run Tryd.prog W = .ok (.tuple #[.pointer (some ⟨b, 0, none⟩), .bool true]) W := fun _ => by kernel_rfl
  clear h ha hr he
  refine callsD_of_wpS Tryd.func79 rfl fun c₀ cs hu => ?_
  apply wpS_seq
  apply wpS_region
  simp [wpOpsS, go_sem, recoverD, hu, Tryd.ntmps79, Exit.thenS]
  apply wpS_seq
  apply wpS_seq
  apply wpS_region
  simp [wpOpsS, go_sem, Exit.thenS]
  refine wpS_cond (t := false) (by simp [Act.eval, Array.replicate]) ?_
  simp only [Bool.false_eq_true, if_false]
  refine skip_then ?_
  refine wpS_of_wp ?_
  have hT : (#[Value.pointer (some ⟨ba, 0, none⟩), Value.pointer (some ⟨br, 0, none⟩), Value.pointer (some ⟨be, 0, none⟩)] ++ ((((Array.replicate 24 undef).setIfInBounds 3 (Value.iface 94 (.pointer (some ⟨b, 0, none⟩)))).setIfInBounds 0 (Value.iface 94 (.pointer (some ⟨b, 0, none⟩)))).setIfInBounds 4 (Value.iface 94 (.pointer (some ⟨b, 0, none⟩)))).setIfInBounds 5 (Value.bool false) : Array Value) = #[Value.pointer (some ⟨ba, 0, none⟩), Value.pointer (some ⟨br, 0, none⟩), Value.pointer (some ⟨be, 0, none⟩), Value.iface 94 (.pointer (some ⟨b, 0, none⟩)), undef, undef, Value.iface 94 (.pointer (some ⟨b, 0, none⟩)), Value.iface 94 (.pointer (some ⟨b, 0, none⟩)), .bool false, undef, undef, undef, undef, undef, undef, undef, undef, undef, undef, undef, undef, undef, undef, undef, undef, undef, undef] := by kernel_rfl
  rw [hT]
  clear hT
  go_wp2_with fail
  refine ⟨rfl, _, rfl, .tuple #[], by simp [results, Tryd.results79], rfl, rfl, ?_, ?_, ?_⟩
  · exact ((((HE.out.far n2 _).far n2 _).set_ 0 _).set_ 0 _).alloc _
  · exact ((((H.out.set_ 1 _).set_ 2 _).far n1 _).far n1 _).alloc _
  · exact (((((Only.refl (fun y => y = g ∨ y = be) w).set (.inl (.inl rfl)) _).set (.inl (.inl rfl)) _).set (.inl (.inr rfl)) _).set (.inl (.inr rfl)) _).alloc _
end Go.Proofs.YtcockikekgmfkaaDoor
