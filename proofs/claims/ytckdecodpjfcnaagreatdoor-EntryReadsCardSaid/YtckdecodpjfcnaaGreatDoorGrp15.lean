/-
  errors.As and errors.Is at an error of type fields.stop, which wraps its code.
  Layer 2, reading: field lets one read; what it hands back, where the reader is.
-/
import Derived.Test.YtckdecodpjfcnaaGreatDoorGrp14
import Derived.Test.YtckdecodpjfcnaaGreatDoorGrp05
set_option linter.unusedVariables false
set_option linter.unusedSimpArgs false
namespace Go.Proofs.YtckdecodpjfcnaaGreatDoor
open Go.RowKit

theorem blk_new (w : World) (t : TypeId) (cs : Array Value) {g : Nat} (hg : w.heap.size = g) : Blk (w.alloc (.cells cs t)) g t cs := hg ▸ Blk.new w t cs
/-- Behind a field that was read: what the reading left, but for new blocks. -/
def FieldOk (Q : World → World → Prop) (w : World) (e : Ending) (w' : World) : Prop :=
  e = .returned .nilIface ∧ ∃ W w1, Below w.heap.size w W ∧ Q W w1 ∧ Below w.heap.size w1 w'
/-- Behind one that was not: a stop's error; the reader stands where it was, stopped. -/
def FieldNo (g : Nat) (s : ByteArray) (i : Nat) (w : World) (e : Ending) (w' : World) : Prop :=
  ∃ b, e = .returned (.iface 129 (.pointer (some ⟨b, 0, none⟩))) ∧ w'.cell? ⟨b, 1, none⟩ = some (.int .i64 70) ∧ RdB w' g s i true ∧ Only (fun x => x = g) w w'

set_option maxRecDepth 100000 in
set_option maxHeartbeats 1000000 in
theorem field_ok (g : Nat) (s : ByteArray) (i : Nat) (K : FuncId) (cap : Array Value) (S : Nat → Prop) (Q : World → World → Prop) (w : World) (h : RdB w g s i false)
    (hcf : ∀ (args : Array Value) (W : World), (callFunc K args).run Tryz.prog W = .ok (.enter K args) W)
    (hQ : ∀ W w', Q W w' → Only S W w') (hS : ∀ x, S x → x < w.heap.size)
    (hone : ∀ W, RdB W g s i false → Below w.heap.size w W → Calls Tryz.prog K (#[.pointer (some ⟨g, 0, none⟩)] ++ cap) W fun e w' => e = .returned (.tuple #[]) ∧ Q W w') :
    Calls Tryz.prog 74 #[.pointer (some ⟨g, 0, none⟩), .func (.func K) #[] cap] w (FieldOk Q w) := by
  have hmf : ∀ (fn : Fn) (first cap : Array Value) (w : World), (Instr.makeFunc fn first cap).run Tryz.prog w = .ok (.func fn first cap) w := fun _ _ _ _ => rfl
  have x1 := h.cell 1
  have x2 := h.cell 2
  have hl := h.lt
  have b3 := ((h.alloc (.cells #[.pointer (some ⟨g, 0, none⟩)] 86)).alloc (.cells #[.nilIface] 99)).alloc (.cells #[.int .i64 (i : Int)] 3)
  have l3 := (((Below.refl w.heap.size w).alloc (Nat.le_refl _) (.cells #[.pointer (some ⟨g, 0, none⟩)] 86)).alloc (by simp) (.cells #[.nilIface] 99)).alloc (by simp; omega) (.cells #[.int .i64 (i : Int)] 3)
  have y2 := b3.cell 2
  have B3 := Lib.hid b3
  have L3 := Lib.hid l3
  have hl1 : ¬ g = w.heap.size := by omega
  have hl2 : ¬ g = w.heap.size + 1 := by omega
  have H := Lib.hid h
  have HO := Lib.hid hone
  have HQ := Lib.hid hQ
  have HS := Lib.hid hS
  clear h hone hQ hS b3 l3
  go_enter_defers Tryz.func74, Tryz.ntmps74
  go_wp2_with fail
  refine (HO.out _ B3.out L3.out).mono ?_
  rintro e w1 ⟨rfl, q1⟩
  have o1 := HQ.out _ _ q1
  have be : Blk w1 (w.heap.size + 1) 99 #[.nilIface] := o1.blk ((blk_new (w.alloc (.cells #[.pointer (some ⟨g, 0, none⟩)] 86)) 99 #[.nilIface] (by simp)).alloc _) (fun hs => by have := HS.out _ hs; omega)
  have z1 := be.cell 0
  have z2 := be.frozen 0
  have Q1 := Lib.hid q1
  have BE := Lib.hid be
  clear o1 q1 be
  go_wp2_with fail
  refine leaves_cons (f := 93) (args := #[.pointer (some ⟨w.heap.size + 1 + 1, 0, none⟩), .pointer (some ⟨w.heap.size, 0, none⟩), .pointer (some ⟨w.heap.size + 1, 0, none⟩)]) (by simp) (by simp [go_sem]) ?_
  refine (catch_idle _ _ _ _).mono ?_
  rintro e u' w2 ⟨rfl, rfl, rfl⟩
  exact ⟨.nilIface, by simp [results, Tryz.results74, go_sem, z1], rfl, _, w1, L3.out, Q1.out, (Below.refl _ _).setCell (by simp) _⟩

set_option maxRecDepth 100000 in
set_option maxHeartbeats 1000000 in
theorem field_no (g : Nat) (s : ByteArray) (i : Nat) (K : FuncId) (cap : Array Value) (w : World) (h : RdB w g s i false)
    (hcf : ∀ (args : Array Value) (W : World), (callFunc K args).run Tryz.prog W = .ok (.enter K args) W)
    (hone : ∀ W, RdB W g s i false → Below w.heap.size w W → Calls Tryz.prog K (#[.pointer (some ⟨g, 0, none⟩)] ++ cap) W fun e w' => ∃ W', Only (fun x => x = g) W W' ∧ (∃ j, RdB W' g s j false) ∧ PanPost W' e w') :
    Calls Tryz.prog 74 #[.pointer (some ⟨g, 0, none⟩), .func (.func K) #[] cap] w (FieldNo g s i w) := by
  have hmf : ∀ (fn : Fn) (first cap : Array Value) (w : World), (Instr.makeFunc fn first cap).run Tryz.prog w = .ok (.func fn first cap) w := fun _ _ _ _ => rfl
  have x1 := h.cell 1
  have x2 := h.cell 2
  have hl := h.lt
  have a0 := blk_new w 86 #[.pointer (some ⟨g, 0, none⟩)] rfl
  have a1 := blk_new (w.alloc (.cells #[.pointer (some ⟨g, 0, none⟩)] 86)) 99 #[.nilIface] (g := w.heap.size + 1) (by simp)
  have a2 := blk_new ((w.alloc (.cells #[.pointer (some ⟨g, 0, none⟩)] 86)).alloc (.cells #[.nilIface] 99)) 3 #[.int .i64 (i : Int)] (g := w.heap.size + 1 + 1) (by simp)
  have b3 := ((h.alloc (.cells #[.pointer (some ⟨g, 0, none⟩)] 86)).alloc (.cells #[.nilIface] 99)).alloc (.cells #[.int .i64 (i : Int)] 3)
  have l3 := (((Below.refl w.heap.size w).alloc (Nat.le_refl _) (.cells #[.pointer (some ⟨g, 0, none⟩)] 86)).alloc (by simp) (.cells #[.nilIface] 99)).alloc (by simp; omega) (.cells #[.int .i64 (i : Int)] 3)
  have y2 := b3.cell 2
  have A0 := Lib.hid ((a0.alloc (.cells #[.nilIface] 99)).alloc (.cells #[.int .i64 (i : Int)] 3))
  have A1 := Lib.hid (a1.alloc (.cells #[.int .i64 (i : Int)] 3))
  have A2 := Lib.hid a2
  have B3 := Lib.hid b3
  have L3 := Lib.hid l3
  have hl1 : ¬ g = w.heap.size := by omega
  have hl2 : ¬ g = w.heap.size + 1 := by omega
  clear a0 a1 a2 b3 l3
  have HO := Lib.hid hone
  clear h hone
  go_enter_defers Tryz.func74, Tryz.ntmps74
  go_wp2_with fail
  refine (HO.out _ B3.out L3.out).mono ?_
  rintro e w1 ⟨W', o1, ⟨j, k1⟩, b, rfl, hb, hc, hbel⟩
  have e0 := (o1.blk A0.out (by omega)).below hbel ((o1.blk A0.out (by omega)).lt)
  have e1 := (o1.blk A1.out (by omega)).below hbel ((o1.blk A1.out (by omega)).lt)
  have e2 := (o1.blk A2.out (by omega)).below hbel ((o1.blk A2.out (by omega)).lt)
  have e3 := k1.below hbel k1.lt
  have hlt := o1.size
  simp only [World.size_alloc] at hlt
  have ow : Only (fun x => x = g) w w1 := ((Only.of_below (fun x => x = g) L3.out).trans o1).then_below hbel
  refine leaves_cons (f := 93) (args := #[.pointer (some ⟨w.heap.size + 1 + 1, 0, none⟩), .pointer (some ⟨w.heap.size, 0, none⟩), .pointer (some ⟨w.heap.size + 1, 0, none⟩)]) (by simp) (by simp [go_sem]) ?_
  refine (catch_stop _ _ _ g b s i j false _ _ e3 e2 e0 e1).mono ?_
  rintro e u' w2 ⟨rfl, rfl, k2, k3, k4⟩
  have z1 := k2.cell 0
  refine ⟨.iface 129 (.pointer (some ⟨b, 0, none⟩)), by simp [results, Tryz.results74, go_sem, z1], b, rfl, ?_, k3, ow.step k4 (fun x hx hs => by omega)⟩
  rw [k4.cell (p := ⟨b, 1, none⟩) (cell_lt hc) (by simp; omega)]
  exact hc

set_option maxRecDepth 100000 in
set_option maxHeartbeats 1000000 in
theorem field_bad (g : Nat) (s : ByteArray) (i : Nat) (K : FuncId) (cap : Array Value) (w : World) (h : RdB w g s i true) :
    Calls Tryz.prog 74 #[.pointer (some ⟨g, 0, none⟩), .func (.func K) #[] cap] w (FieldNo g s i w) := by
  have hmf : ∀ (fn : Fn) (first cap : Array Value) (w : World), (Instr.makeFunc fn first cap).run Tryz.prog w = .ok (.func fn first cap) w := fun _ _ _ _ => rfl
  have x1 := h.cell 1
  have x2 := h.cell 2
  have hl := h.lt
  have a0 := blk_new w 86 #[.pointer (some ⟨g, 0, none⟩)] rfl
  have a1 := blk_new (w.alloc (.cells #[.pointer (some ⟨g, 0, none⟩)] 86)) 99 #[.nilIface] (g := w.heap.size + 1) (by simp)
  have a2 := blk_new ((w.alloc (.cells #[.pointer (some ⟨g, 0, none⟩)] 86)).alloc (.cells #[.nilIface] 99)) 3 #[.int .i64 (i : Int)] (g := w.heap.size + 1 + 1) (by simp)
  have b3 := ((h.alloc (.cells #[.pointer (some ⟨g, 0, none⟩)] 86)).alloc (.cells #[.nilIface] 99)).alloc (.cells #[.int .i64 (i : Int)] 3)
  have l3 := (((Below.refl w.heap.size w).alloc (Nat.le_refl _) (.cells #[.pointer (some ⟨g, 0, none⟩)] 86)).alloc (by simp) (.cells #[.nilIface] 99)).alloc (by simp; omega) (.cells #[.int .i64 (i : Int)] 3)
  have y2 := b3.cell 2
  have A0 := Lib.hid ((a0.alloc (.cells #[.nilIface] 99)).alloc (.cells #[.int .i64 (i : Int)] 3))
  have A1 := Lib.hid (a1.alloc (.cells #[.int .i64 (i : Int)] 3))
  have A2 := Lib.hid a2
  have B3 := Lib.hid b3
  have L3 := Lib.hid l3
  have hl1 : ¬ g = w.heap.size := by omega
  have hl2 : ¬ g = w.heap.size + 1 := by omega
  clear a0 a1 a2 b3 l3
  clear h
  go_enter_defers Tryz.func74, Tryz.ntmps74
  go_wp2_with fail
  refine leaves_cons (f := 93) (args := #[.pointer (some ⟨w.heap.size + 1 + 1, 0, none⟩), .pointer (some ⟨w.heap.size, 0, none⟩), .pointer (some ⟨w.heap.size + 1, 0, none⟩)]) (by simp) (by simp [go_sem]) ?_
  refine (catch_stop _ _ _ g (w.heap.size + 1 + 1 + 1) s i i true _ _ (B3.out.alloc _) (A2.out.alloc _) (A0.out.alloc _) (A1.out.alloc _)).mono ?_
  rintro e u' w2 ⟨rfl, rfl, k2, k3, k4⟩
  have z1 := k2.cell 0
  refine ⟨.iface 129 (.pointer (some ⟨w.heap.size + 1 + 1 + 1, 0, none⟩)), by simp [results, Tryz.results74, go_sem, z1], _, rfl, ?_, k3, ((Only.of_below (fun x => x = g) L3.out).alloc _).step k4 (fun x hx hs => by omega)⟩
  rw [k4.cell (p := ⟨w.heap.size + 1 + 1 + 1, 1, none⟩) (by simp) (by simp; omega)]
  exact (blk_new (((w.alloc (.cells #[.pointer (some ⟨g, 0, none⟩)] 86)).alloc (.cells #[.nilIface] 99)).alloc (.cells #[.int .i64 (i : Int)] 3)) 131 #[_, .int .i64 70] (by simp)).cell 1

set_option maxRecDepth 100000 in
set_option maxHeartbeats 1000000 in
theorem field_nil (K : FuncId) (cap : Array Value) (w : World) :
    Calls Tryz.prog 74 #[.pointer none, .func (.func K) #[] cap] w fun e w' => ∃ b, e = .returned (.iface 129 (.pointer (some ⟨b, 0, none⟩))) ∧ w'.cell? ⟨b, 1, none⟩ = some (.int .i64 70) ∧ Below w.heap.size w w' := by
  go_enter_defers Tryz.func74, Tryz.ntmps74
  go_wp2_with fail
  refine ⟨.iface 129 (.pointer (some ⟨w.heap.size + 1 + 1, 0, none⟩)), by simp [results, Tryz.results74, go_sem], _, rfl, ?_, ?_⟩
  · exact (blk_new ((w.alloc (.cells #[.pointer none] 86)).alloc (.cells #[.iface 129 (.pointer (some ⟨w.heap.size + 1 + 1, 0, none⟩))] 99)) 131 #[_, .int .i64 70] (by simp)).cell 1
  · exact (((Below.refl w.heap.size w).alloc (Nat.le_refl _) _).alloc (by simp) _).alloc (by simp; omega) _
end Go.Proofs.YtckdecodpjfcnaaGreatDoor
namespace Go.Proofs.YtckdecodpjfcnaaGreatDoor.ErFi
open Go.RowKit Go.Stop Go.Extern

theorem asTypeOfB (v : Value) (w : World) : (callFunc 97 #[.iface 129 v]).run Tryz.prog w = .ok (.value (.iface 162 (.agg #[.pointer (some ⟨1, 129, none⟩)]))) w := by kernel_rfl
theorem asAssignB (w : World) : (callFunc 150 #[.agg #[.pointer (some ⟨1, 129, none⟩)], .iface 162 (.agg #[.pointer (some ⟨1, 35, none⟩)])]).run Tryz.prog w = .ok (.value (.bool false)) w := by kernel_rfl
theorem asNoAs (v : Value) (xT : TypeId) (w : World) : (Instr.typeAssert (.iface 129 v) xT 174 true).run Tryz.prog w = .ok (.tuple #[.nilIface, .bool false]) w := run_typeAssert_lacksB Tryz.underlying174 (by kernel_rfl) (by kernel_rfl) v xT w
theorem asHasUnwrap (v : Value) (xT : TypeId) (w : World) : (Instr.typeAssert (.iface 129 v) xT 167 true).run Tryz.prog w = .ok (.tuple #[.iface 129 v, .bool true]) w := run_typeAssert_hasB Tryz.underlying167 (by kernel_rfl) v xT w
theorem asMethodUnwrap (k : Nat) (v : Value) (w : World) : (Go.method (k + 1) 129 v "Unwrap").run Tryz.prog w = .ok (145, v) w := by kernel_rfl
set_option maxHeartbeats 4000000 in
/-- errors.As(&error{.., n}, &e): true, and e is n. -/
theorem as_any (b t : Nat) (n : Int) (old : Value) (w : World) (hg : w.cell? ⟨0, 0, none⟩ = some (.iface 162 (.agg #[.pointer (some ⟨1, 99, none⟩)])))
    (hb1 : w.cell? ⟨b, 1, none⟩ = some (.int .i64 n)) (ht0 : w.cell? ⟨t, 0, none⟩ = some old) (hf0 : w.frozen? ⟨t, 0, none⟩ = false) :
    Calls Tryz.prog 87 #[.iface 129 (.pointer (some ⟨b, 0, none⟩)), .iface 125 (.pointer (some ⟨t, 0, none⟩))] w fun ev w' => ev = .returned (.bool true) ∧ asWorld w t n = w' := by
  have hlt : 0 < w.heap.size := by
    rcases Nat.lt_or_ge 0 w.heap.size with h | h
    · exact h
    · simp [World.cell?, Array.getElem?_eq_none h] at hg
  have hbl : b < w.heap.size := by
    rcases Nat.lt_or_ge b w.heap.size with h | h
    · exact h
    · simp [World.cell?, Array.getElem?_eq_none h] at hb1
  have htl : t < w.heap.size := by
    rcases Nat.lt_or_ge t w.heap.size with h | h
    · exact h
    · simp [World.cell?, Array.getElem?_eq_none h] at ht0
  have f1 := asValueOf
  have f2 := asType
  have f3 := asMethodKind
  have f4 := asKindP
  have f5 := asKindE
  have f6 := asMethodElem
  have f7 := asMethodImplements
  have f8 := asMethodAssignable
  have f9 := asElem
  have f10 := asImplements
  have f11 := asTypeOfB
  have f12 := asTypeOfE
  have f13 := asAssignB
  have f14 := asAssignE
  have f15 := asValueOfE
  have f16 := asNoAs
  have f17 := asHasUnwrap
  have f18 := asMethodUnwrap
  have n8 := asIsNil ⟨w.heap.size, 0, none⟩ ⟨t, 0, none⟩ ((w.alloc (.cells #[.pointer (some ⟨t, 0, none⟩)] 125)).alloc (.cells #[.pointer (some ⟨1, 125, none⟩), .pointer (some ⟨w.heap.size, 0, none⟩), .int .u64 150] 146)) (by simp)
  have hg2 : ((w.alloc (.cells #[.pointer (some ⟨t, 0, none⟩)] 125)).alloc (.cells #[.pointer (some ⟨1, 125, none⟩), .pointer (some ⟨w.heap.size, 0, none⟩), .int .u64 150] 146)).cell? ⟨0, 0, none⟩ = some (.iface 162 (.agg #[.pointer (some ⟨1, 99, none⟩)])) := by
    rw [World.cell?_alloc_lt _ _ ⟨0, 0, none⟩ (by simp only [World.size_alloc]; omega), World.cell?_alloc_lt _ _ ⟨0, 0, none⟩ hlt]; exact hg
  have hb2 : (((w.alloc (.cells #[.pointer (some ⟨t, 0, none⟩)] 125)).alloc (.cells #[.pointer (some ⟨1, 125, none⟩), .pointer (some ⟨w.heap.size, 0, none⟩), .int .u64 150] 146)).alloc (.cells #[.pointer (some ⟨1, 125, none⟩), .pointer (some ⟨w.heap.size, 0, none⟩), .int .u64 150] 146)).cell? ⟨b, 1, none⟩ = some (.int .i64 n) := by
    rw [World.cell?_alloc_lt _ _ ⟨b, 1, none⟩ (by simp only [World.size_alloc]; omega), World.cell?_alloc_lt _ _ ⟨b, 1, none⟩ (by simp only [World.size_alloc]; omega), World.cell?_alloc_lt _ _ ⟨b, 1, none⟩ hbl]; exact hb1
  have el := asElemV ⟨w.heap.size, 0, none⟩ ⟨t, 0, none⟩ (((w.alloc (.cells #[.pointer (some ⟨t, 0, none⟩)] 125)).alloc (.cells #[.pointer (some ⟨1, 125, none⟩), .pointer (some ⟨w.heap.size, 0, none⟩), .int .u64 150] 146)).alloc (.cells #[.pointer (some ⟨1, 125, none⟩), .pointer (some ⟨w.heap.size, 0, none⟩), .int .u64 150] 146)) (by rw [World.cell?_alloc_lt _ _ ⟨w.heap.size, 0, none⟩ (by simp only [World.size_alloc]; omega)]; simp)
  have st := asSet ⟨t, 0, none⟩ ⟨w.heap.size + 1 + 1 + 1, 0, none⟩ n old ((((w.alloc (.cells #[.pointer (some ⟨t, 0, none⟩)] 125)).alloc (.cells #[.pointer (some ⟨1, 125, none⟩), .pointer (some ⟨w.heap.size, 0, none⟩), .int .u64 150] 146)).alloc (.cells #[.pointer (some ⟨1, 125, none⟩), .pointer (some ⟨w.heap.size, 0, none⟩), .int .u64 150] 146)).alloc (.cells #[.int .i64 n] 35))
    (by rw [World.cell?_alloc_at _ _ _ _ (by simp)]; rfl)
    (by rw [World.cell?_alloc_lt _ _ ⟨t, 0, none⟩ (by simp only [World.size_alloc]; omega), World.cell?_alloc_lt _ _ ⟨t, 0, none⟩ (by simp only [World.size_alloc]; omega), World.cell?_alloc_lt _ _ ⟨t, 0, none⟩ (by simp only [World.size_alloc]; omega), World.cell?_alloc_lt _ _ ⟨t, 0, none⟩ htl]; exact ht0)
    (by rw [World.frozen?_alloc_old _ _ ⟨t, 0, none⟩ (by simp only [World.size_alloc]; omega), World.frozen?_alloc_old _ _ ⟨t, 0, none⟩ (by simp only [World.size_alloc]; omega), World.frozen?_alloc_old _ _ ⟨t, 0, none⟩ (by simp only [World.size_alloc]; omega), World.frozen?_alloc_old _ _ ⟨t, 0, none⟩ (Nat.ne_of_lt htl)]; exact hf0)
  go_enter Tryz.func87, Tryz.ntmps87
  go_wp2
  refine wp_loop_rounds 2 ?_
  iterate 2 (rw [rounds_succ]; go_wp2)
  go_ret
  exact ⟨rfl, rfl⟩

theorem isNoIs (v : Value) (xT : TypeId) (w : World) : (Instr.typeAssert (.iface 129 v) xT 164 true).run Tryz.prog w = .ok (.tuple #[.nilIface, .bool false]) w := run_typeAssert_lacksB Tryz.underlying164 (by kernel_rfl) (by kernel_rfl) v xT w
theorem eqOther (v : Value) (b : Int) (w : World) : (binOp .eql 99 (.iface 129 v) (.iface 35 (.int .i64 b))).run Tryz.prog w = .ok (.bool false) w := by kernel_rfl

set_option maxRecDepth 100000 in
set_option maxHeartbeats 4000000 in
/-- errors.Is(&error{.., n}, m): whether n is m. -/
theorem is_any (b : Nat) (n m : Int) (w : World) (hb1 : w.cell? ⟨b, 1, none⟩ = some (.int .i64 n)) :
    Calls Tryz.prog 77 #[.iface 129 (.pointer (some ⟨b, 0, none⟩)), .iface 35 (.int .i64 m)] w fun ev w' => ev = .returned (.bool (n == m)) ∧ w = w' := by
  have f6 := isMethodComparable
  have f7 := isComparableE
  have f8 := isNoIsE
  have f9 := isNoUnwrapE
  have f10 := isNoUnwrapsE
  have f11 := eqErrno
  have f12 := asTypeOfE
  have f16 := isNoIs
  have f17 := asHasUnwrap
  have f18 := asMethodUnwrap
  have f19 := eqOther
  by_cases hnm : n = m
  · subst hnm
    go_enter Tryz.func77, Tryz.ntmps77
    go_wp2
    refine wp_loop_rounds 2 ?_
    iterate 2 (rw [rounds_succ]; go_wp2)
    go_ret
    exact ⟨by simp, rfl⟩
  · have d1 : (n == m) = false := beq_eq_false_iff_ne.2 hnm
    have D1 := Lib.hid d1
    go_enter Tryz.func77, Tryz.ntmps77
    go_wp2
    refine wp_loop_rounds 2 ?_
    iterate 2 (rw [rounds_succ]; go_wp2)
    go_ret
    exact ⟨by rw [D1.out]; rfl, rfl⟩
end Go.Proofs.YtckdecodpjfcnaaGreatDoor.ErFi
