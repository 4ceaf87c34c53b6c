/-
  Layer 2, reading: the reader's Number.
  errors.As and errors.Is at an error of type fields.stop, which wraps its code.
-/
import Derived.Test.YtcockikekgmfkaaGreatDoorGrp05
import Derived.Test.YtcockikekgmfkaaGreatDoorGrp08
namespace Go.Proofs.YtcockikekgmfkaaGreatDoor.ErFi
open Go.RowKit Go.Stop Go.Extern

theorem asTypeOfB (v : Value) (w : World) : (callFunc 56 #[.iface 98 v]).run Tryz.prog w = .ok (.value (.iface 108 (.agg #[.pointer (some ⟨1, 98, none⟩)]))) w := by kernel_rfl
theorem asAssignB (w : World) : (callFunc 124 #[.agg #[.pointer (some ⟨1, 98, none⟩)], .iface 108 (.agg #[.pointer (some ⟨1, 31, none⟩)])]).run Tryz.prog w = .ok (.value (.bool false)) w := by kernel_rfl
theorem asNoAs (v : Value) (xT : TypeId) (w : World) : (Instr.typeAssert (.iface 98 v) xT 112 true).run Tryz.prog w = .ok (.tuple #[.nilIface, .bool false]) w := run_typeAssert_lacksB Tryz.underlying112 (by kernel_rfl) (by kernel_rfl) v xT w
theorem asHasUnwrap (v : Value) (xT : TypeId) (w : World) : (Instr.typeAssert (.iface 98 v) xT 115 true).run Tryz.prog w = .ok (.tuple #[.iface 98 v, .bool true]) w := run_typeAssert_hasB Tryz.underlying115 (by kernel_rfl) v xT w
theorem asMethodUnwrap (k : Nat) (v : Value) (w : World) : (Go.method (k + 1) 98 v "Unwrap").run Tryz.prog w = .ok (122, v) w := by kernel_rfl
set_option maxHeartbeats 4000000 in
/-- errors.As(&error{.., n}, &e): true, and e is n. -/
theorem as_any (b t : Nat) (n : Int) (old : Value) (w : World) (hg : w.cell? ⟨0, 0, none⟩ = some (.iface 108 (.agg #[.pointer (some ⟨1, 43, none⟩)])))
    (hb1 : w.cell? ⟨b, 1, none⟩ = some (.int .i64 n)) (ht0 : w.cell? ⟨t, 0, none⟩ = some old) (hf0 : w.frozen? ⟨t, 0, none⟩ = false) :
    Calls Tryz.prog 37 #[.iface 98 (.pointer (some ⟨b, 0, none⟩)), .iface 73 (.pointer (some ⟨t, 0, none⟩))] w fun ev w' => ev = .returned (.bool true) ∧ asWorld w t n = w' := by
  have hlt : 0 < w.heap.size := by
    rcases Nat.lt_or_ge 0 w.heap.size with h | h
    · exact h
    · simp [World.cell?, Array.getElem?_eq_none h] at hg
  have hbl : b < w.heap.size := by
    rcases Nat.lt_or_ge b w.heap.size with h | h
    · exact h
    · simp [World.cell?, Array.getElem?_eq_none h] at hb1
  have htl : t < w.heap.size := by
    rcases Nat.lt_or_ge t w.heap.size with h | h
    · exact h
    · simp [World.cell?, Array.getElem?_eq_none h] at ht0
  have f1 := asValueOf
  have f2 := asType
  have f3 := asMethodKind
  have f4 := asKindP
  have f5 := asKindE
  have f6 := asMethodElem
  have f7 := asMethodImplements
  have f8 := asMethodAssignable
  have f9 := asElem
  have f10 := asImplements
  have f11 := asTypeOfB
  have f12 := asTypeOfE
  have f13 := asAssignB
  have f14 := asAssignE
  have f15 := asValueOfE
  have f16 := asNoAs
  have f17 := asHasUnwrap
  have f18 := asMethodUnwrap
  have n8 := asIsNil ⟨w.heap.size, 0, none⟩ ⟨t, 0, none⟩ ((w.alloc (.cells #[.pointer (some ⟨t, 0, none⟩)] 73)).alloc (.cells #[.pointer (some ⟨1, 73, none⟩), .pointer (some ⟨w.heap.size, 0, none⟩), .int .u64 150] 89)) (by simp)
  have hg2 : ((w.alloc (.cells #[.pointer (some ⟨t, 0, none⟩)] 73)).alloc (.cells #[.pointer (some ⟨1, 73, none⟩), .pointer (some ⟨w.heap.size, 0, none⟩), .int .u64 150] 89)).cell? ⟨0, 0, none⟩ = some (.iface 108 (.agg #[.pointer (some ⟨1, 43, none⟩)])) := by
    rw [World.cell?_alloc_lt _ _ ⟨0, 0, none⟩ (by simp only [World.size_alloc]; omega), World.cell?_alloc_lt _ _ ⟨0, 0, none⟩ hlt]; exact hg
  have hb2 : (((w.alloc (.cells #[.pointer (some ⟨t, 0, none⟩)] 73)).alloc (.cells #[.pointer (some ⟨1, 73, none⟩), .pointer (some ⟨w.heap.size, 0, none⟩), .int .u64 150] 89)).alloc (.cells #[.pointer (some ⟨1, 73, none⟩), .pointer (some ⟨w.heap.size, 0, none⟩), .int .u64 150] 89)).cell? ⟨b, 1, none⟩ = some (.int .i64 n) := by
    rw [World.cell?_alloc_lt _ _ ⟨b, 1, none⟩ (by simp only [World.size_alloc]; omega), World.cell?_alloc_lt _ _ ⟨b, 1, none⟩ (by simp only [World.size_alloc]; omega), World.cell?_alloc_lt _ _ ⟨b, 1, none⟩ hbl]; exact hb1
  have el := asElemV ⟨w.heap.size, 0, none⟩ ⟨t, 0, none⟩ (((w.alloc (.cells #[.pointer (some ⟨t, 0, none⟩)] 73)).alloc (.cells #[.pointer (some ⟨1, 73, none⟩), .pointer (some ⟨w.heap.size, 0, none⟩), .int .u64 150] 89)).alloc (.cells #[.pointer (some ⟨1, 73, none⟩), .pointer (some ⟨w.heap.size, 0, none⟩), .int .u64 150] 89)) (by rw [World.cell?_alloc_lt _ _ ⟨w.heap.size, 0, none⟩ (by simp only [World.size_alloc]; omega)]; simp)
  have st := asSet ⟨t, 0, none⟩ ⟨w.heap.size + 1 + 1 + 1, 0, none⟩ n old ((((w.alloc (.cells #[.pointer (some ⟨t, 0, none⟩)] 73)).alloc (.cells #[.pointer (some ⟨1, 73, none⟩), .pointer (some ⟨w.heap.size, 0, none⟩), .int .u64 150] 89)).alloc (.cells #[.pointer (some ⟨1, 73, none⟩), .pointer (some ⟨w.heap.size, 0, none⟩), .int .u64 150] 89)).alloc (.cells #[.int .i64 n] 31))
    (by rw [World.cell?_alloc_at _ _ _ _ (by simp)]; rfl)
    (by rw [World.cell?_alloc_lt _ _ ⟨t, 0, none⟩ (by simp only [World.size_alloc]; omega), World.cell?_alloc_lt _ _ ⟨t, 0, none⟩ (by simp only [World.size_alloc]; omega), World.cell?_alloc_lt _ _ ⟨t, 0, none⟩ (by simp only [World.size_alloc]; omega), World.cell?_alloc_lt _ _ ⟨t, 0, none⟩ htl]; exact ht0)
    (by rw [World.frozen?_alloc_old _ _ ⟨t, 0, none⟩ (by simp only [World.size_alloc]; omega), World.frozen?_alloc_old _ _ ⟨t, 0, none⟩ (by simp only [World.size_alloc]; omega), World.frozen?_alloc_old _ _ ⟨t, 0, none⟩ (by simp only [World.size_alloc]; omega), World.frozen?_alloc_old _ _ ⟨t, 0, none⟩ (Nat.ne_of_lt htl)]; exact hf0)
  go_enter Tryz.func37, Tryz.ntmps37
  go_wp2
  refine wp_loop_rounds 2 ?_
  iterate 2 (rw [rounds_succ]; go_wp2)
  go_ret
  exact ⟨rfl, rfl⟩

theorem isNoIs (v : Value) (xT : TypeId) (w : World) : (Instr.typeAssert (.iface 98 v) xT 125 true).run Tryz.prog w = .ok (.tuple #[.nilIface, .bool false]) w := run_typeAssert_lacksB Tryz.underlying125 (by kernel_rfl) (by kernel_rfl) v xT w
theorem eqOther (v : Value) (b : Int) (w : World) : (binOp .eql 43 (.iface 98 v) (.iface 31 (.int .i64 b))).run Tryz.prog w = .ok (.bool false) w := by kernel_rfl

set_option maxRecDepth 100000 in
set_option maxHeartbeats 4000000 in
/-- errors.Is(&error{.., n}, m): whether n is m. -/
theorem is_any (b : Nat) (n m : Int) (w : World) (hb1 : w.cell? ⟨b, 1, none⟩ = some (.int .i64 n)) :
    Calls Tryz.prog 44 #[.iface 98 (.pointer (some ⟨b, 0, none⟩)), .iface 31 (.int .i64 m)] w fun ev w' => ev = .returned (.bool (n == m)) ∧ w = w' := by
  have f6 := isMethodComparable
  have f7 := isComparableE
  have f8 := isNoIsE
  have f9 := isNoUnwrapE
  have f10 := isNoUnwrapsE
  have f11 := eqErrno
  have f12 := asTypeOfE
  have f16 := isNoIs
  have f17 := asHasUnwrap
  have f18 := asMethodUnwrap
  have f19 := eqOther
  by_cases hnm : n = m
  · subst hnm
    go_enter Tryz.func44, Tryz.ntmps44
    go_wp2
    refine wp_loop_rounds 2 ?_
    iterate 2 (rw [rounds_succ]; go_wp2)
    go_ret
    exact ⟨by simp, rfl⟩
  · have d1 : (n == m) = false := beq_eq_false_iff_ne.2 hnm
    have D1 := Lib.hid d1
    go_enter Tryz.func44, Tryz.ntmps44
    go_wp2
    refine wp_loop_rounds 2 ?_
    iterate 2 (rw [rounds_succ]; go_wp2)
    go_ret
    exact ⟨by rw [D1.out]; rfl, rfl⟩
end Go.Proofs.YtcockikekgmfkaaGreatDoor.ErFi
namespace Go.Proofs.YtcockikekgmfkaaGreatDoor
open Go.RowKit

theorem eqNilE (b : Int) (w : World) : (binOp .eql 43 .nilIface (.iface 31 (.int .i64 b))).run Tryz.prog w = .ok (.bool false) w := by kernel_rfl
/-- errors.Is(nil, m): no. -/
theorem is_nil (m : Int) (w : World) :
    Calls Tryz.prog 44 #[.nilIface, .iface 31 (.int .i64 m)] w fun ev w' => ev = .returned (.bool false) ∧ w = w' := by
  have f1 := eqNilE
  go_enter Tryz.func44, Tryz.ntmps44
  go_wp2_with fail
  go_ret
  exact ⟨rfl, rfl⟩
theorem is_stop (b : Nat) (w : World) (hb : w.cell? ⟨b, 1, none⟩ = some (.int .i64 70)) :
    Calls Tryz.prog 44 #[.iface 98 (.pointer (some ⟨b, 0, none⟩)), .iface 31 (.int .i64 70)] w fun ev w' => ev = .returned (.bool true) ∧ w = w' :=
  ErFi.is_any b 70 70 w hb

theorem Only.then_b {S : Nat → Prop} {a b w : World} {B : Nat} (h : Only S a b) (k : Below B b w) (hB : a.heap.size ≤ B) : Only S a w :=
  ⟨k.os.trans h.os, k.tape.trans h.tape, k.output.trans h.output, Nat.le_trans h.size k.size, fun i hi hn => (k.block i (by omega)).trans (h.block i hi hn)⟩
/-- What a reading that went well leaves: the reader's place; what was read, in its variable. -/
def OneOk (g bx : Nat) (T : TypeId) (s : ByteArray) (j : Nat) (v : Value) (W w' : World) : Prop :=
  RdB w' g s j false ∧ Blk w' bx T #[v] ∧ Only (fun x => x = g ∨ x = bx) W w'

set_option maxRecDepth 100000 in
set_option maxHeartbeats 400000 in
theorem num1_ok (g b4 b5 bx : Nat) (s : ByteArray) (i : Nat) (lo hi : Int) (n k : Nat) (v0 : Value) (w : World) (h : RdB w g s i false) (h4 : Blk w b4 3 #[.int .i64 lo]) (h5 : Blk w b5 3 #[.int .i64 hi]) (hx : Blk w bx 3 #[v0])
    (hg : HasET w) (hs : s.size ≤ 1000000) (hat : i ≤ s.size) (hd : dec ((lb s).drop i) = some (n, k)) (hr : lo ≤ (n : Int) ∧ (n : Int) ≤ hi) :
    Calls Tryz.prog 42 #[.pointer (some ⟨g, 0, none⟩), .pointer (some ⟨b4, 0, none⟩), .pointer (some ⟨b5, 0, none⟩), .pointer (some ⟨bx, 0, none⟩)] w fun e w' => e = .returned (.tuple #[]) ∧ OneOk g bx 3 s (i + k) (.int .i64 n) w w' := by
  have HN := Lib.hid (number_ok g s i false lo hi n k w h hg hs hat hd hr)
  have x4 := h4.cell 0
  have x5 := h5.cell 0
  have hne : ¬ bx = g := fun e => (h.ne_ hx (by decide)) e.symm
  have HX := Lib.hid hx
  clear h h4 h5 hx hd hr hg
  go_enter Tryz.func42, Tryz.ntmps42
  go_wp2_with fail
  refine HN.out.mono ?_
  rintro e w1 ⟨rfl, k1, o1⟩
  have kx := o1.blk HX.out hne
  have z1 := kx.cell 0
  have z2 := kx.frozen 0
  have K1 := Lib.hid k1
  have O1 := Lib.hid o1
  have KX := Lib.hid kx
  clear k1 o1 kx
  go_wp2_with fail
  go_end0
  exact ⟨rfl, K1.out.far (fun e => hne e.symm) _, KX.out.set_ 0 _, (O1.out.mono (fun x _ hx => .inl hx)).set (.inl (.inr rfl)) _⟩

set_option maxRecDepth 100000 in
set_option maxHeartbeats 400000 in
theorem num1_no (g b4 b5 bx : Nat) (s : ByteArray) (i : Nat) (lo hi : Int) (w : World) (h : RdB w g s i false) (h4 : Blk w b4 3 #[.int .i64 lo]) (h5 : Blk w b5 3 #[.int .i64 hi])
    (hg : HasET w) (hs : s.size ≤ 1000000) (hat : i ≤ s.size) (hno : dec ((lb s).drop i) = none ∨ ∃ n k, dec ((lb s).drop i) = some (n, k) ∧ ¬ (lo ≤ (n : Int) ∧ (n : Int) ≤ hi)) :
    Calls Tryz.prog 42 #[.pointer (some ⟨g, 0, none⟩), .pointer (some ⟨b4, 0, none⟩), .pointer (some ⟨b5, 0, none⟩), .pointer (some ⟨bx, 0, none⟩)] w (PanPost w) := by
  have HN := Lib.hid (number_no g s i false lo hi w h hg hs hat hno)
  have x4 := h4.cell 0
  have x5 := h5.cell 0
  clear h h4 h5 hno hg
  go_enter Tryz.func42, Tryz.ntmps42
  go_wp2_with fail
  refine HN.out.mono ?_
  rintro e w1 ⟨b, rfl, h1, h2, h3⟩
  exact ⟨rfl, b, rfl, h1, h2, h3⟩

theorem cf_num1 (args : Array Value) (W : World) : (callFunc 42 args).run Tryz.prog W = .ok (.enter 42 args) W := by kernel_rfl

theorem rdNum_bad (l : List UInt8) (i : Nat) (lo hi : Int) : rdNum l i true lo hi = (0, i, true) := by unfold rdNum; rw [if_pos rfl]
theorem rdNum_cases (l : List UInt8) (i : Nat) (lo hi : Int) :
    (∃ n k : Nat, dec (l.drop i) = some (n, k) ∧ (lo ≤ (n : Int) ∧ (n : Int) ≤ hi) ∧ rdNum l i false lo hi = ((n : Int), i + k, false)) ∨
    ((dec (l.drop i) = none ∨ ∃ n k, dec (l.drop i) = some (n, k) ∧ ¬ (lo ≤ (n : Int) ∧ (n : Int) ≤ hi)) ∧ rdNum l i false lo hi = (0, i, true)) := by
  unfold rdNum
  simp only [Bool.false_eq_true, if_false]
  cases hd : dec (l.drop i) with
  | none => exact .inr ⟨.inl rfl, rfl⟩
  | some z =>
    obtain ⟨n, k⟩ := z
    by_cases hr : lo ≤ (n : Int) ∧ (n : Int) ≤ hi
    · exact .inl ⟨n, k, rfl, hr, by simp only [if_pos hr]⟩
    · exact .inr ⟨.inr ⟨n, k, rfl, hr⟩, by simp only [if_neg hr]⟩

/-- Behind a field that was not read: nothing told; the reader is stopped where it was. -/
theorem num_end (g : Nat) (s : ByteArray) (i : Nat) (lo hi : Int) (bad : Bool) (w : World) (h : RdB w g s i bad)
    (hf : ∀ W b4 b5 bx, RdB W g s i bad → Blk W b4 3 #[.int .i64 lo] → Blk W b5 3 #[.int .i64 hi] → Below w.heap.size w W →
      Calls Tryz.prog 41 #[.pointer (some ⟨g, 0, none⟩), .func (.func 42) #[] #[.pointer (some ⟨b4, 0, none⟩), .pointer (some ⟨b5, 0, none⟩), .pointer (some ⟨bx, 0, none⟩)]] W (FieldNo g s i W)) :
    Calls Tryz.prog 28 #[.pointer (some ⟨g, 0, none⟩), .int .i64 lo, .int .i64 hi] w (RdPost g s (.int .i64 0) i true w) := by
  have hmf : ∀ (fn : Fn) (first cap : Array Value) (w : World), (Instr.makeFunc fn first cap).run Tryz.prog w = .ok (.func fn first cap) w := fun _ _ _ _ => rfl
  have a0 := blk_new w 3 #[.int .i64 lo] rfl
  have a1 := blk_new (w.alloc (.cells #[.int .i64 lo] 3)) 3 #[.int .i64 hi] (g := w.heap.size + 1) (by simp)
  have l3 := (((Below.refl w.heap.size w).alloc (Nat.le_refl _) (.cells #[.int .i64 lo] 3)).alloc (by simp) (.cells #[.int .i64 hi] 3)).alloc (by simp; omega) (.cells #[.int .i64 0] 3)
  have HF := Lib.hid (hf _ w.heap.size (w.heap.size + 1) (w.heap.size + 1 + 1) (((h.alloc _).alloc _).alloc _) ((a0.alloc _).alloc _) (a1.alloc _) l3)
  have L3 := Lib.hid l3
  clear h hf a0 a1 l3
  go_enter Tryz.func28, Tryz.ntmps28
  go_wp2_with fail
  refine HF.out.mono ?_
  rintro e w1 ⟨b, rfl, hb, k1, o1⟩
  have O1 := Lib.hid ((Only.of_below (fun x => x = g) L3.out).trans o1)
  have K1 := Lib.hid k1
  have HB := Lib.hid (is_stop b w1 hb)
  clear hb k1 o1
  go_wp2_with fail
  refine HB.out.mono ?_
  rintro e w2 ⟨rfl, rfl⟩
  go_wp2_with fail
  go_ret
  exact ⟨rfl, K1.out, O1.out⟩

set_option maxHeartbeats 400000 in
theorem RNum_any (g : Nat) (s : ByteArray) (i : Nat) (bad : Bool) (lo hi : Int) (w : World) (h : RdB w g s i bad) (hg : HasET w) (hs : s.size ≤ 1000000) (hat : i ≤ s.size) :
    Calls Tryz.prog 28 #[.pointer (some ⟨g, 0, none⟩), .int .i64 lo, .int .i64 hi] w (RdPost g s (.int .i64 (rdNum (lb s) i bad lo hi).1) (rdNum (lb s) i bad lo hi).2.1 (rdNum (lb s) i bad lo hi).2.2 w) := by
  cases bad
  · rcases rdNum_cases (lb s) i lo hi with ⟨n, k, hd, hr, he⟩ | ⟨hno, he⟩
    · rw [he]
      have hmf : ∀ (fn : Fn) (first cap : Array Value) (w : World), (Instr.makeFunc fn first cap).run Tryz.prog w = .ok (.func fn first cap) w := fun _ _ _ _ => rfl
      have a0 := blk_new w 3 #[.int .i64 lo] rfl
      have a1 := blk_new (w.alloc (.cells #[.int .i64 lo] 3)) 3 #[.int .i64 hi] (g := w.heap.size + 1) (by simp)
      have a2 := blk_new ((w.alloc (.cells #[.int .i64 lo] 3)).alloc (.cells #[.int .i64 hi] 3)) 3 #[.int .i64 0] (g := w.heap.size + 1 + 1) (by simp)
      have l3 := (((Below.refl w.heap.size w).alloc (Nat.le_refl _) (.cells #[.int .i64 lo] 3)).alloc (by simp) (.cells #[.int .i64 hi] 3)).alloc (by simp; omega) (.cells #[.int .i64 0] 3)
      have hl := h.lt
      have HF := Lib.hid (field_ok g s i 42 #[.pointer (some ⟨w.heap.size, 0, none⟩), .pointer (some ⟨w.heap.size + 1, 0, none⟩), .pointer (some ⟨w.heap.size + 1 + 1, 0, none⟩)] (fun x => x = g ∨ x = w.heap.size + 1 + 1) (OneOk g (w.heap.size + 1 + 1) 3 s (i + k) (.int .i64 n)) _ (((h.alloc _).alloc _).alloc _) cf_num1 (fun W w' hq => hq.2.2) (fun x hx => by simp; omega)
        (fun W hW bW => num1_ok g _ _ _ s i lo hi n k _ W hW (((a0.alloc _).alloc _).below bW ((a0.alloc _).alloc _).lt) ((a1.alloc _).below bW (a1.alloc _).lt) (a2.below bW a2.lt) ((hg.up (l3.mono (Nat.le_refl _))).up bW) hs hat hd hr))
      have L3 := Lib.hid l3
      clear h hg a0 a1 a2 l3 hd he hr
      go_enter Tryz.func28, Tryz.ntmps28
      go_wp2_with fail
      refine HF.out.mono ?_
      rintro e w1 ⟨rfl, W, W1, bW, ⟨k1, k2, o1⟩, b1⟩
      simp only [World.size_alloc] at bW b1
      have k3 := k2.below b1 (by omega)
      have k4 := k1.below b1 (by omega)
      have z1 := k3.cell 0
      have O1 := Lib.hid (((((Only.of_below (fun x => x = g) L3.out).then_below (by simpa using bW)).step o1 (fun x hx hs => by omega))).then_b b1 (by omega))
      have K4 := Lib.hid k4
      clear k1 k2 k3 k4 o1 b1 bW
      go_wp2_with fail
      refine (is_nil 70 _).mono ?_
      rintro e w2 ⟨rfl, rfl⟩
      go_wp2_with fail
      go_ret
      exact ⟨rfl, K4.out, O1.out⟩
    · rw [he]
      exact num_end g s i lo hi false w h (fun W b4 b5 bx hW h4 h5 bW => field_no g s i _ _ W hW cf_num1 (fun W' hW' bW' => (num1_no g b4 b5 bx s i lo hi W' hW' (h4.below bW' h4.lt) (h5.below bW' h5.lt) ((hg.up bW).up bW') hs hat hno).mono fun e w' hp => ⟨W', Only.refl _ _, ⟨i, hW'⟩, hp⟩))
  · rw [rdNum_bad]
    exact num_end g s i lo hi true w h (fun W b4 b5 bx hW _ _ _ => field_bad g s i _ _ W hW)
end Go.Proofs.YtcockikekgmfkaaGreatDoor
