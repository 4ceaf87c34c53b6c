/-
  Layer 2, reading: field lets one read; what it hands back, where the reader is.
-/
import Derived.Test.YtcockikekgmfkaaDoorFiD
namespace Go.Proofs.YtcockikekgmfkaaDoor
open Go.RowKit

theorem blk_new (w : World) (t : TypeId) (cs : Array Value) {g : Nat} (hg : w.heap.size = g) : Blk (w.alloc (.cells cs t)) g t cs := hg ▸ Blk.new w t cs
/-- Behind a field that was read: what the reading left, but for new blocks. -/
def FieldOk (Q : World → World → Prop) (w : World) (e : Ending) (w' : World) : Prop :=
  e = .returned .nilIface ∧ ∃ W w1, Below w.heap.size w W ∧ Q W w1 ∧ Below w.heap.size w1 w'
/-- Behind one that was not: a stop's error; the reader stands where it was, stopped. -/
def FieldNo (g : Nat) (s : ByteArray) (i : Nat) (w : World) (e : Ending) (w' : World) : Prop :=
  ∃ b, e = .returned (.iface 94 (.pointer (some ⟨b, 0, none⟩))) ∧ w'.cell? ⟨b, 1, none⟩ = some (.int .i64 70) ∧ RdB w' g s i true ∧ Only (fun x => x = g) w w'

set_option maxRecDepth 100000 in
set_option maxHeartbeats 1000000 in
theorem field_ok (g : Nat) (s : ByteArray) (i : Nat) (K : FuncId) (cap : Array Value) (S : Nat → Prop) (Q : World → World → Prop) (w : World) (h : RdB w g s i false)
    (hcf : ∀ (args : Array Value) (W : World), (callFunc K args).run Tryd.prog W = .ok (.enter K args) W)
    (hQ : ∀ W w', Q W w' → Only S W w') (hS : ∀ x, S x → x < w.heap.size)
    (hone : ∀ W, RdB W g s i false → Below w.heap.size w W → Calls Tryd.prog K (#[.pointer (some ⟨g, 0, none⟩)] ++ cap) W fun e w' => e = .returned (.tuple #[]) ∧ Q W w') :
    Calls Tryd.prog 58 #[.pointer (some ⟨g, 0, none⟩), .func (.func K) #[] cap] w (FieldOk Q w) := by
  have hmf : ∀ (fn : Fn) (first cap : Array Value) (w : World), (Instr.makeFunc fn first cap).run Tryd.prog w = .ok (.func fn first cap) w := fun _ _ _ _ => rfl
  have x1 := h.cell 1
  have x2 := h.cell 2
  have hl := h.lt
  have b3 := ((h.alloc (.cells #[.pointer (some ⟨g, 0, none⟩)] 24)).alloc (.cells #[.nilIface] 87)).alloc (.cells #[.int .i64 (i : Int)] 3)
  have l3 := (((Below.refl w.heap.size w).alloc (Nat.le_refl _) (.cells #[.pointer (some ⟨g, 0, none⟩)] 24)).alloc (by simp) (.cells #[.nilIface] 87)).alloc (by simp; omega) (.cells #[.int .i64 (i : Int)] 3)
  have y2 := b3.cell 2
  have B3 := Lib.hid b3
  have L3 := Lib.hid l3
  have hl1 : ¬ g = w.heap.size := by omega
  have hl2 : ¬ g = w.heap.size + 1 := by omega
  have H := Lib.hid h
  have HO := Lib.hid hone
  have HQ := Lib.hid hQ
  have HS := Lib.hid hS
  clear h hone hQ hS b3 l3
  go_enter_defers Tryd.func58, Tryd.ntmps58
  go_wp2_with fail
  refine (HO.out _ B3.out L3.out).mono ?_
  rintro e w1 ⟨rfl, q1⟩
  have o1 := HQ.out _ _ q1
  have be : Blk w1 (w.heap.size + 1) 87 #[.nilIface] := o1.blk ((blk_new (w.alloc (.cells #[.pointer (some ⟨g, 0, none⟩)] 24)) 87 #[.nilIface] (by simp)).alloc _) (fun hs => by have := HS.out _ hs; omega)
  have z1 := be.cell 0
  have z2 := be.frozen 0
  have Q1 := Lib.hid q1
  have BE := Lib.hid be
  clear o1 q1 be
  go_wp2_with fail
  refine leaves_cons (f := 79) (args := #[.pointer (some ⟨w.heap.size + 1 + 1, 0, none⟩), .pointer (some ⟨w.heap.size, 0, none⟩), .pointer (some ⟨w.heap.size + 1, 0, none⟩)]) (by simp) (by simp [go_sem]) ?_
  refine (catch_idle _ _ _ _).mono ?_
  rintro e u' w2 ⟨rfl, rfl, rfl⟩
  exact ⟨.nilIface, by simp [results, Tryd.results58, go_sem, z1], rfl, _, w1, L3.out, Q1.out, (Below.refl _ _).setCell (by simp) _⟩

set_option maxRecDepth 100000 in
set_option maxHeartbeats 1000000 in
theorem field_no (g : Nat) (s : ByteArray) (i : Nat) (K : FuncId) (cap : Array Value) (w : World) (h : RdB w g s i false)
    (hcf : ∀ (args : Array Value) (W : World), (callFunc K args).run Tryd.prog W = .ok (.enter K args) W)
    (hone : ∀ W, RdB W g s i false → Below w.heap.size w W → Calls Tryd.prog K (#[.pointer (some ⟨g, 0, none⟩)] ++ cap) W fun e w' => ∃ W', Only (fun x => x = g) W W' ∧ (∃ j, RdB W' g s j false) ∧ PanPost W' e w') :
    Calls Tryd.prog 58 #[.pointer (some ⟨g, 0, none⟩), .func (.func K) #[] cap] w (FieldNo g s i w) := by
  have hmf : ∀ (fn : Fn) (first cap : Array Value) (w : World), (Instr.makeFunc fn first cap).run Tryd.prog w = .ok (.func fn first cap) w := fun _ _ _ _ => rfl
  have x1 := h.cell 1
  have x2 := h.cell 2
  have hl := h.lt
  have a0 := blk_new w 24 #[.pointer (some ⟨g, 0, none⟩)] rfl
  have a1 := blk_new (w.alloc (.cells #[.pointer (some ⟨g, 0, none⟩)] 24)) 87 #[.nilIface] (g := w.heap.size + 1) (by simp)
  have a2 := blk_new ((w.alloc (.cells #[.pointer (some ⟨g, 0, none⟩)] 24)).alloc (.cells #[.nilIface] 87)) 3 #[.int .i64 (i : Int)] (g := w.heap.size + 1 + 1) (by simp)
  have b3 := ((h.alloc (.cells #[.pointer (some ⟨g, 0, none⟩)] 24)).alloc (.cells #[.nilIface] 87)).alloc (.cells #[.int .i64 (i : Int)] 3)
  have l3 := (((Below.refl w.heap.size w).alloc (Nat.le_refl _) (.cells #[.pointer (some ⟨g, 0, none⟩)] 24)).alloc (by simp) (.cells #[.nilIface] 87)).alloc (by simp; omega) (.cells #[.int .i64 (i : Int)] 3)
  have y2 := b3.cell 2
  have A0 := Lib.hid ((a0.alloc (.cells #[.nilIface] 87)).alloc (.cells #[.int .i64 (i : Int)] 3))
  have A1 := Lib.hid (a1.alloc (.cells #[.int .i64 (i : Int)] 3))
  have A2 := Lib.hid a2
  have B3 := Lib.hid b3
  have L3 := Lib.hid l3
  have hl1 : ¬ g = w.heap.size := by omega
  have hl2 : ¬ g = w.heap.size + 1 := by omega
  clear a0 a1 a2 b3 l3
  have HO := Lib.hid hone
  clear h hone
  go_enter_defers Tryd.func58, Tryd.ntmps58
  go_wp2_with fail
  refine (HO.out _ B3.out L3.out).mono ?_
  rintro e w1 ⟨W', o1, ⟨j, k1⟩, b, rfl, hb, hc, hbel⟩
  have e0 := (o1.blk A0.out (by omega)).below hbel ((o1.blk A0.out (by omega)).lt)
  have e1 := (o1.blk A1.out (by omega)).below hbel ((o1.blk A1.out (by omega)).lt)
  have e2 := (o1.blk A2.out (by omega)).below hbel ((o1.blk A2.out (by omega)).lt)
  have e3 := k1.below hbel k1.lt
  have hlt := o1.size
  simp only [World.size_alloc] at hlt
  have ow : Only (fun x => x = g) w w1 := ((Only.of_below (fun x => x = g) L3.out).trans o1).then_below hbel
  refine leaves_cons (f := 79) (args := #[.pointer (some ⟨w.heap.size + 1 + 1, 0, none⟩), .pointer (some ⟨w.heap.size, 0, none⟩), .pointer (some ⟨w.heap.size + 1, 0, none⟩)]) (by simp) (by simp [go_sem]) ?_
  refine (catch_stop _ _ _ g b s i j false _ _ e3 e2 e0 e1).mono ?_
  rintro e u' w2 ⟨rfl, rfl, k2, k3, k4⟩
  have z1 := k2.cell 0
  refine ⟨.iface 94 (.pointer (some ⟨b, 0, none⟩)), by simp [results, Tryd.results58, go_sem, z1], b, rfl, ?_, k3, ow.step k4 (fun x hx hs => by omega)⟩
  rw [k4.cell (p := ⟨b, 1, none⟩) (cell_lt hc) (by simp; omega)]
  exact hc

set_option maxRecDepth 100000 in
set_option maxHeartbeats 1000000 in
theorem field_bad (g : Nat) (s : ByteArray) (i : Nat) (K : FuncId) (cap : Array Value) (w : World) (h : RdB w g s i true) :
    Calls Tryd.prog 58 #[.pointer (some ⟨g, 0, none⟩), .func (.func K) #[] cap] w (FieldNo g s i w) := by
  have hmf : ∀ (fn : Fn) (first cap : Array Value) (w : World), (Instr.makeFunc fn first cap).run Tryd.prog w = .ok (.func fn first cap) w := fun _ _ _ _ => rfl
  have x1 := h.cell 1
  have x2 := h.cell 2
  have hl := h.lt
  have a0 := blk_new w 24 #[.pointer (some ⟨g, 0, none⟩)] rfl
  have a1 := blk_new (w.alloc (.cells #[.pointer (some ⟨g, 0, none⟩)] 24)) 87 #[.nilIface] (g := w.heap.size + 1) (by simp)
  have a2 := blk_new ((w.alloc (.cells #[.pointer (some ⟨g, 0, none⟩)] 24)).alloc (.cells #[.nilIface] 87)) 3 #[.int .i64 (i : Int)] (g := w.heap.size + 1 + 1) (by simp)
  have b3 := ((h.alloc (.cells #[.pointer (some ⟨g, 0, none⟩)] 24)).alloc (.cells #[.nilIface] 87)).alloc (.cells #[.int .i64 (i : Int)] 3)
  have l3 := (((Below.refl w.heap.size w).alloc (Nat.le_refl _) (.cells #[.pointer (some ⟨g, 0, none⟩)] 24)).alloc (by simp) (.cells #[.nilIface] 87)).alloc (by simp; omega) (.cells #[.int .i64 (i : Int)] 3)
  have y2 := b3.cell 2
  have A0 := Lib.hid ((a0.alloc (.cells #[.nilIface] 87)).alloc (.cells #[.int .i64 (i : Int)] 3))
  have A1 := Lib.hid (a1.alloc (.cells #[.int .i64 (i : Int)] 3))
  have A2 := Lib.hid a2
  have B3 := Lib.hid b3
  have L3 := Lib.hid l3
  have hl1 : ¬ g = w.heap.size := by omega
  have hl2 : ¬ g = w.heap.size + 1 := by omega
  clear a0 a1 a2 b3 l3
  clear h
  go_enter_defers Tryd.func58, Tryd.ntmps58
  go_wp2_with fail
  refine leaves_cons (f := 79) (args := #[.pointer (some ⟨w.heap.size + 1 + 1, 0, none⟩), .pointer (some ⟨w.heap.size, 0, none⟩), .pointer (some ⟨w.heap.size + 1, 0, none⟩)]) (by simp) (by simp [go_sem]) ?_
  refine (catch_stop _ _ _ g (w.heap.size + 1 + 1 + 1) s i i true _ _ (B3.out.alloc _) (A2.out.alloc _) (A0.out.alloc _) (A1.out.alloc _)).mono ?_
  rintro e u' w2 ⟨rfl, rfl, k2, k3, k4⟩
  have z1 := k2.cell 0
  refine ⟨.iface 94 (.pointer (some ⟨w.heap.size + 1 + 1 + 1, 0, none⟩)), by simp [results, Tryd.results58, go_sem, z1], _, rfl, ?_, k3, ((Only.of_below (fun x => x = g) L3.out).alloc _).step k4 (fun x hx hs => by omega)⟩
  rw [k4.cell (p := ⟨w.heap.size + 1 + 1 + 1, 1, none⟩) (by simp) (by simp; omega)]
  exact (blk_new (((w.alloc (.cells #[.pointer (some ⟨g, 0, none⟩)] 24)).alloc (.cells #[.nilIface] 87)).alloc (.cells #[.int .i64 (i : Int)] 3)) 96 #[_, .int .i64 70] (by simp)).cell 1

set_option maxRecDepth 100000 in
set_option maxHeartbeats 1000000 in
theorem field_nil (K : FuncId) (cap : Array Value) (w : World) :
    Calls Tryd.prog 58 #[.pointer none, .func (.func K) #[] cap] w fun e w' => ∃ b, e = .returned (.iface 94 (.pointer (some ⟨b, 0, none⟩))) ∧ w'.cell? ⟨b, 1, none⟩ = some (.int .i64 70) ∧ Below w.heap.size w w' := by
  go_enter_defers Tryd.func58, Tryd.ntmps58
  go_wp2_with fail
  refine ⟨.iface 94 (.pointer (some ⟨w.heap.size + 1 + 1, 0, none⟩)), by simp [results, Tryd.results58, go_sem], _, rfl, ?_, ?_⟩
  · exact (blk_new ((w.alloc (.cells #[.pointer none] 24)).alloc (.cells #[.iface 94 (.pointer (some ⟨w.heap.size + 1 + 1, 0, none⟩))] 87)) 96 #[_, .int .i64 70] (by simp)).cell 1
  · exact (((Below.refl w.heap.size w).alloc (Nat.le_refl _) _).alloc (by simp) _).alloc (by simp; omega) _
end Go.Proofs.YtcockikekgmfkaaDoor
