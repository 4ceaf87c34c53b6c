/-
  Layer 2, the document's reader: Text, Flag; New, End, Wrong.
  errors.As and errors.Is at an error of type fields.stop, which wraps its code.
  Layer 2, reading: the reader's Number.
  Layer 2, reading: the reader's Text.
  Layer 2, reading: the reader's Flag; New, End, Wrong; readers that are nil.
  Layer 2, the document's reader: Number.
-/
import Derived.Test.YtckdecodpjfcnaaGreatDoorEnRowsProofP05
import Derived.Deep.RegionHeld
set_option linter.unusedVariables false
set_option linter.unusedSimpArgs false
namespace Go.Proofs.YtckdecodpjfcnaaGreatDoor.ErFi
open Go.RowKit Go.Stop Go.Extern

theorem asTypeOfB (v : Value) (w : World) : (callFunc 97 #[.iface 129 v]).run Tryz.prog w = .ok (.value (.iface 162 (.agg #[.pointer (some ⟨1, 129, none⟩)]))) w := by kernel_rfl
theorem asAssignB (w : World) : (callFunc 150 #[.agg #[.pointer (some ⟨1, 129, none⟩)], .iface 162 (.agg #[.pointer (some ⟨1, 35, none⟩)])]).run Tryz.prog w = .ok (.value (.bool false)) w := by kernel_rfl
theorem asNoAs (v : Value) (xT : TypeId) (w : World) : (Instr.typeAssert (.iface 129 v) xT 174 true).run Tryz.prog w = .ok (.tuple #[.nilIface, .bool false]) w := run_typeAssert_lacksB Tryz.underlying174 (by kernel_rfl) (by kernel_rfl) v xT w
theorem asHasUnwrap (v : Value) (xT : TypeId) (w : World) : (Instr.typeAssert (.iface 129 v) xT 167 true).run Tryz.prog w = .ok (.tuple #[.iface 129 v, .bool true]) w := run_typeAssert_hasB Tryz.underlying167 (by kernel_rfl) v xT w
theorem asMethodUnwrap (k : Nat) (v : Value) (w : World) : (Go.method (k + 1) 129 v "Unwrap").run Tryz.prog w = .ok (145, v) w := by kernel_rfl
set_option maxHeartbeats 4000000 in
/-- errors.As(&error{.., n}, &e): true, and e is n. -/
theorem as_any (b t : Nat) (n : Int) (old : Value) (w : World) (hg : w.cell? ⟨0, 0, none⟩ = some (.iface 162 (.agg #[.pointer (some ⟨1, 99, none⟩)])))
    (hb1 : w.cell? ⟨b, 1, none⟩ = some (.int .i64 n)) (ht0 : w.cell? ⟨t, 0, none⟩ = some old) (hf0 : w.frozen? ⟨t, 0, none⟩ = false) :
    Calls Tryz.prog 87 #[.iface 129 (.pointer (some ⟨b, 0, none⟩)), .iface 125 (.pointer (some ⟨t, 0, none⟩))] w fun ev w' => ev = .returned (.bool true) ∧ asWorld w t n = w' := by
  have hlt : 0 < w.heap.size := by
    rcases Nat.lt_or_ge 0 w.heap.size with h | h
    · exact h
    · simp [World.cell?, Array.getElem?_eq_none h] at hg
  have hbl : b < w.heap.size := by
    rcases Nat.lt_or_ge b w.heap.size with h | h
    · exact h
    · simp [World.cell?, Array.getElem?_eq_none h] at hb1
  have htl : t < w.heap.size := by
    rcases Nat.lt_or_ge t w.heap.size with h | h
    · exact h
    · simp [World.cell?, Array.getElem?_eq_none h] at ht0
  have f1 := asValueOf
  have f2 := asType
  have f3 := asMethodKind
  have f4 := asKindP
  have f5 := asKindE
  have f6 := asMethodElem
  have f7 := asMethodImplements
  have f8 := asMethodAssignable
  have f9 := asElem
  have f10 := asImplements
  have f11 := asTypeOfB
  have f12 := asTypeOfE
  have f13 := asAssignB
  have f14 := asAssignE
  have f15 := asValueOfE
  have f16 := asNoAs
  have f17 := asHasUnwrap
  have f18 := asMethodUnwrap
  have n8 := asIsNil ⟨w.heap.size, 0, none⟩ ⟨t, 0, none⟩ ((w.alloc (.cells #[.pointer (some ⟨t, 0, none⟩)] 125)).alloc (.cells #[.pointer (some ⟨1, 125, none⟩), .pointer (some ⟨w.heap.size, 0, none⟩), .int .u64 150] 146)) (by simp)
  have hg2 : ((w.alloc (.cells #[.pointer (some ⟨t, 0, none⟩)] 125)).alloc (.cells #[.pointer (some ⟨1, 125, none⟩), .pointer (some ⟨w.heap.size, 0, none⟩), .int .u64 150] 146)).cell? ⟨0, 0, none⟩ = some (.iface 162 (.agg #[.pointer (some ⟨1, 99, none⟩)])) := by
    rw [World.cell?_alloc_lt _ _ ⟨0, 0, none⟩ (by simp only [World.size_alloc]; omega), World.cell?_alloc_lt _ _ ⟨0, 0, none⟩ hlt]; exact hg
  have hb2 : (((w.alloc (.cells #[.pointer (some ⟨t, 0, none⟩)] 125)).alloc (.cells #[.pointer (some ⟨1, 125, none⟩), .pointer (some ⟨w.heap.size, 0, none⟩), .int .u64 150] 146)).alloc (.cells #[.pointer (some ⟨1, 125, none⟩), .pointer (some ⟨w.heap.size, 0, none⟩), .int .u64 150] 146)).cell? ⟨b, 1, none⟩ = some (.int .i64 n) := by
    rw [World.cell?_alloc_lt _ _ ⟨b, 1, none⟩ (by simp only [World.size_alloc]; omega), World.cell?_alloc_lt _ _ ⟨b, 1, none⟩ (by simp only [World.size_alloc]; omega), World.cell?_alloc_lt _ _ ⟨b, 1, none⟩ hbl]; exact hb1
  have el := asElemV ⟨w.heap.size, 0, none⟩ ⟨t, 0, none⟩ (((w.alloc (.cells #[.pointer (some ⟨t, 0, none⟩)] 125)).alloc (.cells #[.pointer (some ⟨1, 125, none⟩), .pointer (some ⟨w.heap.size, 0, none⟩), .int .u64 150] 146)).alloc (.cells #[.pointer (some ⟨1, 125, none⟩), .pointer (some ⟨w.heap.size, 0, none⟩), .int .u64 150] 146)) (by rw [World.cell?_alloc_lt _ _ ⟨w.heap.size, 0, none⟩ (by simp only [World.size_alloc]; omega)]; simp)
  have st := asSet ⟨t, 0, none⟩ ⟨w.heap.size + 1 + 1 + 1, 0, none⟩ n old ((((w.alloc (.cells #[.pointer (some ⟨t, 0, none⟩)] 125)).alloc (.cells #[.pointer (some ⟨1, 125, none⟩), .pointer (some ⟨w.heap.size, 0, none⟩), .int .u64 150] 146)).alloc (.cells #[.pointer (some ⟨1, 125, none⟩), .pointer (some ⟨w.heap.size, 0, none⟩), .int .u64 150] 146)).alloc (.cells #[.int .i64 n] 35))
    (by rw [World.cell?_alloc_at _ _ _ _ (by simp)]; rfl)
    (by rw [World.cell?_alloc_lt _ _ ⟨t, 0, none⟩ (by simp only [World.size_alloc]; omega), World.cell?_alloc_lt _ _ ⟨t, 0, none⟩ (by simp only [World.size_alloc]; omega), World.cell?_alloc_lt _ _ ⟨t, 0, none⟩ (by simp only [World.size_alloc]; omega), World.cell?_alloc_lt _ _ ⟨t, 0, none⟩ htl]; exact ht0)
    (by rw [World.frozen?_alloc_old _ _ ⟨t, 0, none⟩ (by simp only [World.size_alloc]; omega), World.frozen?_alloc_old _ _ ⟨t, 0, none⟩ (by simp only [World.size_alloc]; omega), World.frozen?_alloc_old _ _ ⟨t, 0, none⟩ (by simp only [World.size_alloc]; omega), World.frozen?_alloc_old _ _ ⟨t, 0, none⟩ (Nat.ne_of_lt htl)]; exact hf0)
  go_enter Tryz.func87, Tryz.ntmps87
  go_wp2
  refine wp_loop_rounds 2 ?_
  iterate 2 (rw [rounds_succ]; go_wp2)
  go_ret
  exact ⟨rfl, rfl⟩

theorem isNoIs (v : Value) (xT : TypeId) (w : World) : (Instr.typeAssert (.iface 129 v) xT 164 true).run Tryz.prog w = .ok (.tuple #[.nilIface, .bool false]) w := run_typeAssert_lacksB Tryz.underlying164 (by kernel_rfl) (by kernel_rfl) v xT w
theorem eqOther (v : Value) (b : Int) (w : World) : (binOp .eql 99 (.iface 129 v) (.iface 35 (.int .i64 b))).run Tryz.prog w = .ok (.bool false) w := by kernel_rfl

set_option maxRecDepth 100000 in
set_option maxHeartbeats 4000000 in
/-- errors.Is(&error{.., n}, m): whether n is m. -/
theorem is_any (b : Nat) (n m : Int) (w : World) (hb1 : w.cell? ⟨b, 1, none⟩ = some (.int .i64 n)) :
    Calls Tryz.prog 77 #[.iface 129 (.pointer (some ⟨b, 0, none⟩)), .iface 35 (.int .i64 m)] w fun ev w' => ev = .returned (.bool (n == m)) ∧ w = w' := by
  have f6 := isMethodComparable
  have f7 := isComparableE
  have f8 := isNoIsE
  have f9 := isNoUnwrapE
  have f10 := isNoUnwrapsE
  have f11 := eqErrno
  have f12 := asTypeOfE
  have f16 := isNoIs
  have f17 := asHasUnwrap
  have f18 := asMethodUnwrap
  have f19 := eqOther
  by_cases hnm : n = m
  · subst hnm
    go_enter Tryz.func77, Tryz.ntmps77
    go_wp2
    refine wp_loop_rounds 2 ?_
    iterate 2 (rw [rounds_succ]; go_wp2)
    go_ret
    exact ⟨by simp, rfl⟩
  · have d1 : (n == m) = false := beq_eq_false_iff_ne.2 hnm
    have D1 := Lib.hid d1
    go_enter Tryz.func77, Tryz.ntmps77
    go_wp2
    refine wp_loop_rounds 2 ?_
    iterate 2 (rw [rounds_succ]; go_wp2)
    go_ret
    exact ⟨by rw [D1.out]; rfl, rfl⟩
end Go.Proofs.YtckdecodpjfcnaaGreatDoor.ErFi
namespace Go.Proofs.YtckdecodpjfcnaaGreatDoor
open Go.RowKit

theorem eqNilE (b : Int) (w : World) : (binOp .eql 99 .nilIface (.iface 35 (.int .i64 b))).run Tryz.prog w = .ok (.bool false) w := by kernel_rfl
/-- errors.Is(nil, m): no. -/
theorem is_nil (m : Int) (w : World) :
    Calls Tryz.prog 77 #[.nilIface, .iface 35 (.int .i64 m)] w fun ev w' => ev = .returned (.bool false) ∧ w = w' := by
  have f1 := eqNilE
  go_enter Tryz.func77, Tryz.ntmps77
  go_wp2_with fail
  go_ret
  exact ⟨rfl, rfl⟩
theorem is_stop (b : Nat) (w : World) (hb : w.cell? ⟨b, 1, none⟩ = some (.int .i64 70)) :
    Calls Tryz.prog 77 #[.iface 129 (.pointer (some ⟨b, 0, none⟩)), .iface 35 (.int .i64 70)] w fun ev w' => ev = .returned (.bool true) ∧ w = w' :=
  ErFi.is_any b 70 70 w hb

theorem Only.then_b {S : Nat → Prop} {a b w : World} {B : Nat} (h : Only S a b) (k : Below B b w) (hB : a.heap.size ≤ B) : Only S a w :=
  ⟨k.os.trans h.os, k.tape.trans h.tape, k.output.trans h.output, Nat.le_trans h.size k.size, fun i hi hn => (k.block i (by omega)).trans (h.block i hi hn)⟩
/-- What a reading that went well leaves: the reader's place; what was read, in its variable. -/
def OneOk (g bx : Nat) (T : TypeId) (s : ByteArray) (j : Nat) (v : Value) (W w' : World) : Prop :=
  RdB w' g s j false ∧ Blk w' bx T #[v] ∧ Only (fun x => x = g ∨ x = bx) W w'

set_option maxRecDepth 100000 in
set_option maxHeartbeats 400000 in
theorem num1_ok (g b4 b5 bx : Nat) (s : ByteArray) (i : Nat) (lo hi : Int) (n k : Nat) (v0 : Value) (w : World) (h : RdB w g s i false) (h4 : Blk w b4 3 #[.int .i64 lo]) (h5 : Blk w b5 3 #[.int .i64 hi]) (hx : Blk w bx 3 #[v0])
    (hg : HasET w) (hs : s.size ≤ 1000000) (hat : i ≤ s.size) (hd : dec ((lb s).drop i) = some (n, k)) (hr : lo ≤ (n : Int) ∧ (n : Int) ≤ hi) :
    Calls Tryz.prog 75 #[.pointer (some ⟨g, 0, none⟩), .pointer (some ⟨b4, 0, none⟩), .pointer (some ⟨b5, 0, none⟩), .pointer (some ⟨bx, 0, none⟩)] w fun e w' => e = .returned (.tuple #[]) ∧ OneOk g bx 3 s (i + k) (.int .i64 n) w w' := by
  have HN := Lib.hid (number_ok g s i false lo hi n k w h hg hs hat hd hr)
  have x4 := h4.cell 0
  have x5 := h5.cell 0
  have hne : ¬ bx = g := fun e => (h.ne_ hx (by decide)) e.symm
  have HX := Lib.hid hx
  clear h h4 h5 hx hd hr hg
  go_enter Tryz.func75, Tryz.ntmps75
  go_wp2_with fail
  refine HN.out.mono ?_
  rintro e w1 ⟨rfl, k1, o1⟩
  have kx := o1.blk HX.out hne
  have z1 := kx.cell 0
  have z2 := kx.frozen 0
  have K1 := Lib.hid k1
  have O1 := Lib.hid o1
  have KX := Lib.hid kx
  clear k1 o1 kx
  go_wp2_with fail
  go_end0
  exact ⟨rfl, K1.out.far (fun e => hne e.symm) _, KX.out.set_ 0 _, (O1.out.mono (fun x _ hx => .inl hx)).set (.inl (.inr rfl)) _⟩

set_option maxRecDepth 100000 in
set_option maxHeartbeats 400000 in
theorem num1_no (g b4 b5 bx : Nat) (s : ByteArray) (i : Nat) (lo hi : Int) (w : World) (h : RdB w g s i false) (h4 : Blk w b4 3 #[.int .i64 lo]) (h5 : Blk w b5 3 #[.int .i64 hi])
    (hg : HasET w) (hs : s.size ≤ 1000000) (hat : i ≤ s.size) (hno : dec ((lb s).drop i) = none ∨ ∃ n k, dec ((lb s).drop i) = some (n, k) ∧ ¬ (lo ≤ (n : Int) ∧ (n : Int) ≤ hi)) :
    Calls Tryz.prog 75 #[.pointer (some ⟨g, 0, none⟩), .pointer (some ⟨b4, 0, none⟩), .pointer (some ⟨b5, 0, none⟩), .pointer (some ⟨bx, 0, none⟩)] w (PanPost w) := by
  have HN := Lib.hid (number_no g s i false lo hi w h hg hs hat hno)
  have x4 := h4.cell 0
  have x5 := h5.cell 0
  clear h h4 h5 hno hg
  go_enter Tryz.func75, Tryz.ntmps75
  go_wp2_with fail
  refine HN.out.mono ?_
  rintro e w1 ⟨b, rfl, h1, h2, h3⟩
  exact ⟨rfl, b, rfl, h1, h2, h3⟩

theorem cf_num1 (args : Array Value) (W : World) : (callFunc 75 args).run Tryz.prog W = .ok (.enter 75 args) W := by kernel_rfl

theorem rdNum_bad (l : List UInt8) (i : Nat) (lo hi : Int) : rdNum l i true lo hi = (0, i, true) := by unfold rdNum; rw [if_pos rfl]
theorem rdNum_cases (l : List UInt8) (i : Nat) (lo hi : Int) :
    (∃ n k : Nat, dec (l.drop i) = some (n, k) ∧ (lo ≤ (n : Int) ∧ (n : Int) ≤ hi) ∧ rdNum l i false lo hi = ((n : Int), i + k, false)) ∨
    ((dec (l.drop i) = none ∨ ∃ n k, dec (l.drop i) = some (n, k) ∧ ¬ (lo ≤ (n : Int) ∧ (n : Int) ≤ hi)) ∧ rdNum l i false lo hi = (0, i, true)) := by
  unfold rdNum
  simp only [Bool.false_eq_true, if_false]
  cases hd : dec (l.drop i) with
  | none => exact .inr ⟨.inl rfl, rfl⟩
  | some z =>
    obtain ⟨n, k⟩ := z
    by_cases hr : lo ≤ (n : Int) ∧ (n : Int) ≤ hi
    · exact .inl ⟨n, k, rfl, hr, by simp only [if_pos hr]⟩
    · exact .inr ⟨.inr ⟨n, k, rfl, hr⟩, by simp only [if_neg hr]⟩

/-- Behind a field that was not read: nothing told; the reader is stopped where it was. -/
theorem num_end (g : Nat) (s : ByteArray) (i : Nat) (lo hi : Int) (bad : Bool) (w : World) (h : RdB w g s i bad)
    (hf : ∀ W b4 b5 bx, RdB W g s i bad → Blk W b4 3 #[.int .i64 lo] → Blk W b5 3 #[.int .i64 hi] → Below w.heap.size w W →
      Calls Tryz.prog 74 #[.pointer (some ⟨g, 0, none⟩), .func (.func 75) #[] #[.pointer (some ⟨b4, 0, none⟩), .pointer (some ⟨b5, 0, none⟩), .pointer (some ⟨bx, 0, none⟩)]] W (FieldNo g s i W)) :
    Calls Tryz.prog 49 #[.pointer (some ⟨g, 0, none⟩), .int .i64 lo, .int .i64 hi] w (RdPost g s (.int .i64 0) i true w) := by
  have hmf : ∀ (fn : Fn) (first cap : Array Value) (w : World), (Instr.makeFunc fn first cap).run Tryz.prog w = .ok (.func fn first cap) w := fun _ _ _ _ => rfl
  have a0 := blk_new w 3 #[.int .i64 lo] rfl
  have a1 := blk_new (w.alloc (.cells #[.int .i64 lo] 3)) 3 #[.int .i64 hi] (g := w.heap.size + 1) (by simp)
  have l3 := (((Below.refl w.heap.size w).alloc (Nat.le_refl _) (.cells #[.int .i64 lo] 3)).alloc (by simp) (.cells #[.int .i64 hi] 3)).alloc (by simp; omega) (.cells #[.int .i64 0] 3)
  have HF := Lib.hid (hf _ w.heap.size (w.heap.size + 1) (w.heap.size + 1 + 1) (((h.alloc _).alloc _).alloc _) ((a0.alloc _).alloc _) (a1.alloc _) l3)
  have L3 := Lib.hid l3
  clear h hf a0 a1 l3
  go_enter Tryz.func49, Tryz.ntmps49
  go_wp2_with fail
  refine HF.out.mono ?_
  rintro e w1 ⟨b, rfl, hb, k1, o1⟩
  have O1 := Lib.hid ((Only.of_below (fun x => x = g) L3.out).trans o1)
  have K1 := Lib.hid k1
  have HB := Lib.hid (is_stop b w1 hb)
  clear hb k1 o1
  go_wp2_with fail
  refine HB.out.mono ?_
  rintro e w2 ⟨rfl, rfl⟩
  go_wp2_with fail
  go_ret
  exact ⟨rfl, K1.out, O1.out⟩

set_option maxHeartbeats 400000 in
theorem RNum_any (g : Nat) (s : ByteArray) (i : Nat) (bad : Bool) (lo hi : Int) (w : World) (h : RdB w g s i bad) (hg : HasET w) (hs : s.size ≤ 1000000) (hat : i ≤ s.size) :
    Calls Tryz.prog 49 #[.pointer (some ⟨g, 0, none⟩), .int .i64 lo, .int .i64 hi] w (RdPost g s (.int .i64 (rdNum (lb s) i bad lo hi).1) (rdNum (lb s) i bad lo hi).2.1 (rdNum (lb s) i bad lo hi).2.2 w) := by
  cases bad
  · rcases rdNum_cases (lb s) i lo hi with ⟨n, k, hd, hr, he⟩ | ⟨hno, he⟩
    · rw [he]
      have hmf : ∀ (fn : Fn) (first cap : Array Value) (w : World), (Instr.makeFunc fn first cap).run Tryz.prog w = .ok (.func fn first cap) w := fun _ _ _ _ => rfl
      have a0 := blk_new w 3 #[.int .i64 lo] rfl
      have a1 := blk_new (w.alloc (.cells #[.int .i64 lo] 3)) 3 #[.int .i64 hi] (g := w.heap.size + 1) (by simp)
      have a2 := blk_new ((w.alloc (.cells #[.int .i64 lo] 3)).alloc (.cells #[.int .i64 hi] 3)) 3 #[.int .i64 0] (g := w.heap.size + 1 + 1) (by simp)
      have l3 := (((Below.refl w.heap.size w).alloc (Nat.le_refl _) (.cells #[.int .i64 lo] 3)).alloc (by simp) (.cells #[.int .i64 hi] 3)).alloc (by simp; omega) (.cells #[.int .i64 0] 3)
      have hl := h.lt
      have HF := Lib.hid (field_ok g s i 75 #[.pointer (some ⟨w.heap.size, 0, none⟩), .pointer (some ⟨w.heap.size + 1, 0, none⟩), .pointer (some ⟨w.heap.size + 1 + 1, 0, none⟩)] (fun x => x = g ∨ x = w.heap.size + 1 + 1) (OneOk g (w.heap.size + 1 + 1) 3 s (i + k) (.int .i64 n)) _ (((h.alloc _).alloc _).alloc _) cf_num1 (fun W w' hq => hq.2.2) (fun x hx => by simp; omega)
        (fun W hW bW => num1_ok g _ _ _ s i lo hi n k _ W hW (((a0.alloc _).alloc _).below bW ((a0.alloc _).alloc _).lt) ((a1.alloc _).below bW (a1.alloc _).lt) (a2.below bW a2.lt) ((hg.up (l3.mono (Nat.le_refl _))).up bW) hs hat hd hr))
      have L3 := Lib.hid l3
      clear h hg a0 a1 a2 l3 hd he hr
      go_enter Tryz.func49, Tryz.ntmps49
      go_wp2_with fail
      refine HF.out.mono ?_
      rintro e w1 ⟨rfl, W, W1, bW, ⟨k1, k2, o1⟩, b1⟩
      simp only [World.size_alloc] at bW b1
      have k3 := k2.below b1 (by omega)
      have k4 := k1.below b1 (by omega)
      have z1 := k3.cell 0
      have O1 := Lib.hid (((((Only.of_below (fun x => x = g) L3.out).then_below (by simpa using bW)).step o1 (fun x hx hs => by omega))).then_b b1 (by omega))
      have K4 := Lib.hid k4
      clear k1 k2 k3 k4 o1 b1 bW
      go_wp2_with fail
      refine (is_nil 70 _).mono ?_
      rintro e w2 ⟨rfl, rfl⟩
      go_wp2_with fail
      go_ret
      exact ⟨rfl, K4.out, O1.out⟩
    · rw [he]
      exact num_end g s i lo hi false w h (fun W b4 b5 bx hW h4 h5 bW => field_no g s i _ _ W hW cf_num1 (fun W' hW' bW' => (num1_no g b4 b5 bx s i lo hi W' hW' (h4.below bW' h4.lt) (h5.below bW' h5.lt) ((hg.up bW).up bW') hs hat hno).mono fun e w' hp => ⟨W', Only.refl _ _, ⟨i, hW'⟩, hp⟩))
  · rw [rdNum_bad]
    exact num_end g s i lo hi true w h (fun W b4 b5 bx hW _ _ _ => field_bad g s i _ _ W hW)
end Go.Proofs.YtckdecodpjfcnaaGreatDoor
namespace Go.Proofs.YtckdecodpjfcnaaGreatDoor
open Go.RowKit

theorem cut_all {P : Program} {t : TypeId} (ht : P.underlying t = some (.slice (P.elem t))) (hs : ∀ W, (Go.sizeOf (P.elem t)).run P W = .ok 1 W) (A : Option Addr) (n c : Nat) (hc : n ≤ c) (W : World) :
    (Instr.slice t (.slice A n c) (some (.int .i64 0)) (some (.int .i64 (n : Int))) (some (.int .i64 (n : Int)))).run P W = .ok (.slice A n n) W := by
  rw [run_slice_lhm W t A n c ht .i64 .i64 .i64 _ _ _ (by omega) (by omega) (by omega) (by omega), hs]
  simp only [Result.andThen_ok, sliced, Int.toNat_natCast]
  cases A <;> simp [Addr.add]

theorem winL_full {s : ByteArray} {i n : Nat} (h : n ≤ ((lb s).drop i).length) : (winL s i n).length = n := by unfold winL; rw [List.length_take]; omega
theorem winL_less {s : ByteArray} {i n : Nat} (h : ((lb s).drop i).length < n) : (winL s i n).length < n := by unfold winL; rw [List.length_take]; omega
theorem at_le {s : ByteArray} {i n k : Nat} (hat : i ≤ s.size) (hd : dec ((lb s).drop i) = some (n, k)) : i + k ≤ s.size := by
  have := (dec_le hd).1
  rw [List.length_drop, length_lb] at this
  omega

set_option maxRecDepth 100000 in
set_option maxHeartbeats 1000000 in
theorem txt1_ok (g b3 bx : Nat) (s : ByteArray) (i : Nat) (most : Int) (n k : Nat) (v0 : Value) (w : World) (h : RdB w g s i false) (h3 : Blk w b3 3 #[.int .i64 most]) (hx : Blk w bx 9 #[v0])
    (hg : HasET w) (hs : s.size ≤ 1000000) (hat : i ≤ s.size) (hd : dec ((lb s).drop i) = some (n, k)) (hn : (n : Int) ≤ most) (hle : n ≤ ((lb s).drop (i + k)).length) :
    Calls Tryz.prog 116 #[.pointer (some ⟨g, 0, none⟩), .pointer (some ⟨b3, 0, none⟩), .pointer (some ⟨bx, 0, none⟩)] w fun e w' => e = .returned (.tuple #[]) ∧ OneOk g bx 9 s (i + k + n) (.string (bs (((lb s).drop (i + k)).take n))) w w' := by
  have HN := Lib.hid (number_ok g s i false 0 most n k w h hg hs hat hd ⟨by omega, hn⟩)
  have hwl := winL_full hle
  have hat2 := at_le hat hd
  have hnm := (dec_le hd).2.1
  unfold maxNum at hnm
  have hlen : n ≤ 1000000 := by rw [List.length_drop, length_lb] at hle; omega
  have HW := Lib.hid (fun W hW => window_any g s (i + k) n false W hW hs hat2 hnm)
  rw [hwl] at HW
  change Calls _ _ _ _ fun e w' => _ ∧ OneOk _ _ _ _ _ (.string (bs (winL s (i + k) n))) _ _
  generalize winL s (i + k) n = L at *
  have x3 := h3.cell 0
  have hne : ¬ bx = g := fun e => (h.ne_ hx (by decide)) e.symm
  have hne' : ¬ g = bx := fun e => hne e.symm
  have HX := Lib.hid hx
  have e1 : decide (n < n) = false := by simp
  have hca := fun A c hc => cut_all (P := Tryz.prog) (t := 46) Tryz.underlying46 (fun _ => by kernel_rfl) A n c hc
  have HCA := Lib.hid hca
  have v1 : IntKind.i64.wrap ((i : Int) + (k : Int) + (n : Int)) = (i : Int) + (k : Int) + (n : Int) := IntWalk.i64_in _ (by omega)
  have HWL := Lib.hid hwl
  clear h h3 hx hd hg hwl hca hle
  go_enter Tryz.func116, Tryz.ntmps116
  go_wp2_with fail
  refine HN.out.mono ?_
  rintro e w1 ⟨rfl, k1, o1⟩
  have HW1 := Lib.hid (HW.out w1 k1)
  have kx := o1.blk HX.out hne
  have K1 := Lib.hid k1
  have O1 := Lib.hid o1
  have KX := Lib.hid kx
  clear k1 o1 kx
  go_wp2_with fail
  refine HW1.out.mono ?_
  rintro e w2 ⟨A, c, rfl, r2, hc, b2⟩
  have hsl := HCA.out A c hc
  have hst := fun cap => run_string_of (P := Tryz.prog) (src := 46) (dst := 9) (c := cap) Tryz.underlying46 Tryz.underlying5 Tryz.underlying9 r2
  have kx2 := KX.out.below b2 KX.out.lt
  have k2 := K1.out.below b2 K1.out.lt
  have z1 := kx2.cell 0
  have z2 := kx2.frozen 0
  have y1 := k2.cell 1
  have y2 := k2.frozen 1
  have KX2 := Lib.hid kx2
  have K2 := Lib.hid k2
  have O2 := Lib.hid (O1.out.then_below b2)
  clear r2 hc b2 kx2 k2
  simp only [Int.natCast_add] at y1
  go_wp2_with fail
  go_end0
  have K3 := (K2.out.far (p := ⟨bx, 0, none⟩) hne' (.string (bs L))).set_ 1 (.int .i64 ((i : Int) + (k : Int) + (n : Int)))
  refine ⟨rfl, ?_, (KX2.out.set_ 0 _).far hne _, ((O2.out.mono (fun x _ hx => .inl hx)).set (.inl (.inr rfl)) _).set (.inl (.inl rfl)) _⟩
  rw [show ((i : Int) + (k : Int) + (n : Int)) = ((i + k + n : Nat) : Int) by omega] at K3 ⊢
  exact K3

/-- A closure that does not read: nothing but the reader has turned, then a stop. -/
def StopPost (g : Nat) (s : ByteArray) (w : World) (e : Ending) (w' : World) : Prop := ∃ W', Only (fun x => x = g) w W' ∧ (∃ j, RdB W' g s j false) ∧ PanPost W' e w'

set_option maxRecDepth 100000 in
set_option maxHeartbeats 1000000 in
theorem txt1_no (g b3 bx : Nat) (s : ByteArray) (i : Nat) (most : Int) (w : World) (h : RdB w g s i false) (h3 : Blk w b3 3 #[.int .i64 most])
    (hg : HasET w) (hs : s.size ≤ 1000000) (hat : i ≤ s.size) (hno : dec ((lb s).drop i) = none ∨ ∃ n k, dec ((lb s).drop i) = some (n, k) ∧ ¬ ((0 : Int) ≤ (n : Int) ∧ (n : Int) ≤ most)) :
    Calls Tryz.prog 116 #[.pointer (some ⟨g, 0, none⟩), .pointer (some ⟨b3, 0, none⟩), .pointer (some ⟨bx, 0, none⟩)] w (StopPost g s w) := by
  have HN := Lib.hid (number_no g s i false 0 most w h hg hs hat hno)
  have H := Lib.hid h
  have x3 := h3.cell 0
  clear h h3 hno hg
  go_enter Tryz.func116, Tryz.ntmps116
  go_wp2_with fail
  refine HN.out.mono ?_
  rintro e w1 ⟨b, rfl, h1, h2, h3⟩
  exact ⟨rfl, w, Only.refl _ _, ⟨i, H.out⟩, b, rfl, h1, h2, h3⟩

set_option maxRecDepth 100000 in
set_option maxHeartbeats 1000000 in
theorem txt1_short (g b3 bx : Nat) (s : ByteArray) (i : Nat) (most : Int) (n k : Nat) (w : World) (h : RdB w g s i false) (h3 : Blk w b3 3 #[.int .i64 most])
    (hg : HasET w) (hs : s.size ≤ 1000000) (hat : i ≤ s.size) (hd : dec ((lb s).drop i) = some (n, k)) (hn : (n : Int) ≤ most) (hle : ((lb s).drop (i + k)).length < n) :
    Calls Tryz.prog 116 #[.pointer (some ⟨g, 0, none⟩), .pointer (some ⟨b3, 0, none⟩), .pointer (some ⟨bx, 0, none⟩)] w (StopPost g s w) := by
  have HN := Lib.hid (number_ok g s i false 0 most n k w h hg hs hat hd ⟨by omega, hn⟩)
  have hwl := winL_less hle
  have hat2 := at_le hat hd
  have hnm := (dec_le hd).2.1
  unfold maxNum at hnm
  have HW := Lib.hid (fun W hW => window_any g s (i + k) n false W hW hs hat2 hnm)
  generalize winL s (i + k) n = L at *
  have x3 := h3.cell 0
  have e1 : decide (L.length < n) = true := by simpa using hwl
  clear h h3 hd hg hwl hle
  go_enter Tryz.func116, Tryz.ntmps116
  go_wp2_with fail
  refine HN.out.mono ?_
  rintro e w1 ⟨rfl, k1, o1⟩
  have HW1 := Lib.hid (HW.out w1 k1)
  have K1 := Lib.hid k1
  have O1 := Lib.hid o1
  clear k1 o1
  go_wp2_with fail
  refine HW1.out.mono ?_
  rintro e w2 ⟨A, c, rfl, r2, hc, b2⟩
  have B2 := Lib.hid b2
  clear r2 hc b2
  go_wp2_with fail
  exact ⟨rfl, w1, O1.out, ⟨_, K1.out⟩, w2.heap.size, rfl, B2.out.size, by simp, bal B2.out _⟩

theorem cf_txt1 (args : Array Value) (W : World) : (callFunc 116 args).run Tryz.prog W = .ok (.enter 116 args) W := by kernel_rfl

theorem rdTxt_bad (l : List UInt8) (i : Nat) (most : Int) : rdTxt l i true most = ([], i, true) := by unfold rdTxt; rw [if_pos rfl]
theorem rdTxt_cases (l : List UInt8) (i : Nat) (most : Int) :
    (∃ n k : Nat, dec (l.drop i) = some (n, k) ∧ (n : Int) ≤ most ∧ n ≤ (l.drop (i + k)).length ∧ rdTxt l i false most = ((l.drop (i + k)).take n, i + k + n, false)) ∨
    (∃ n k : Nat, dec (l.drop i) = some (n, k) ∧ (n : Int) ≤ most ∧ (l.drop (i + k)).length < n ∧ rdTxt l i false most = ([], i, true)) ∨
    ((dec (l.drop i) = none ∨ ∃ n k, dec (l.drop i) = some (n, k) ∧ ¬ ((0 : Int) ≤ (n : Int) ∧ (n : Int) ≤ most)) ∧ rdTxt l i false most = ([], i, true)) := by
  unfold rdTxt
  simp only [Bool.false_eq_true, if_false]
  cases hd : dec (l.drop i) with
  | none => exact .inr (.inr ⟨.inl rfl, rfl⟩)
  | some z =>
    obtain ⟨n, k⟩ := z
    simp only
    by_cases hr : (n : Int) ≤ most
    · by_cases hl : n ≤ (l.drop (i + k)).length
      · exact .inl ⟨n, k, rfl, hr, hl, by rw [if_pos ⟨hr, hl⟩]⟩
      · exact .inr (.inl ⟨n, k, rfl, hr, by omega, by rw [if_neg (fun h => hl h.2)]⟩)
    · exact .inr (.inr ⟨.inr ⟨n, k, rfl, fun h => hr h.2⟩, by rw [if_neg (fun h => hr h.1)]⟩)

theorem txt_end (g : Nat) (s : ByteArray) (i : Nat) (most : Int) (bad : Bool) (w : World) (h : RdB w g s i bad)
    (hf : ∀ W b3 bx, RdB W g s i bad → Blk W b3 3 #[.int .i64 most] → Below w.heap.size w W →
      Calls Tryz.prog 74 #[.pointer (some ⟨g, 0, none⟩), .func (.func 116) #[] #[.pointer (some ⟨b3, 0, none⟩), .pointer (some ⟨bx, 0, none⟩)]] W (FieldNo g s i W)) :
    Calls Tryz.prog 102 #[.pointer (some ⟨g, 0, none⟩), .int .i64 most] w (RdPost g s (.string (bs [])) i true w) := by
  have hmf : ∀ (fn : Fn) (first cap : Array Value) (w : World), (Instr.makeFunc fn first cap).run Tryz.prog w = .ok (.func fn first cap) w := fun _ _ _ _ => rfl
  have a0 := blk_new w 3 #[.int .i64 most] rfl
  have l3 := ((Below.refl w.heap.size w).alloc (Nat.le_refl _) (.cells #[.int .i64 most] 3)).alloc (by simp) (.cells #[.string ByteArray.empty] 9)
  have HF := Lib.hid (hf _ w.heap.size (w.heap.size + 1) ((h.alloc _).alloc _) (a0.alloc _) l3)
  have L3 := Lib.hid l3
  clear h hf a0 l3
  go_enter Tryz.func102, Tryz.ntmps102
  go_wp2_with fail
  refine HF.out.mono ?_
  rintro e w1 ⟨b, rfl, hb, k1, o1⟩
  have O1 := Lib.hid ((Only.of_below (fun x => x = g) L3.out).trans o1)
  have K1 := Lib.hid k1
  have HB := Lib.hid (is_stop b w1 hb)
  clear hb k1 o1
  go_wp2_with fail
  refine HB.out.mono ?_
  rintro e w2 ⟨rfl, rfl⟩
  go_wp2_with fail
  go_ret
  exact ⟨rfl, K1.out, O1.out⟩

set_option maxHeartbeats 400000 in
theorem RTxt_any (g : Nat) (s : ByteArray) (i : Nat) (bad : Bool) (most : Int) (w : World) (h : RdB w g s i bad) (hg : HasET w) (hs : s.size ≤ 1000000) (hat : i ≤ s.size) :
    Calls Tryz.prog 102 #[.pointer (some ⟨g, 0, none⟩), .int .i64 most] w (RdPost g s (.string (bs (rdTxt (lb s) i bad most).1)) (rdTxt (lb s) i bad most).2.1 (rdTxt (lb s) i bad most).2.2 w) := by
  cases bad
  · rcases rdTxt_cases (lb s) i most with ⟨n, k, hd, hn, hle, he⟩ | ⟨n, k, hd, hn, hle, he⟩ | ⟨hno, he⟩
    · rw [he]
      have hmf : ∀ (fn : Fn) (first cap : Array Value) (w : World), (Instr.makeFunc fn first cap).run Tryz.prog w = .ok (.func fn first cap) w := fun _ _ _ _ => rfl
      have a0 := blk_new w 3 #[.int .i64 most] rfl
      have a1 := blk_new (w.alloc (.cells #[.int .i64 most] 3)) 9 #[.string ByteArray.empty] (g := w.heap.size + 1) (by simp)
      have l3 := ((Below.refl w.heap.size w).alloc (Nat.le_refl _) (.cells #[.int .i64 most] 3)).alloc (by simp) (.cells #[.string ByteArray.empty] 9)
      have hl := h.lt
      have HF := Lib.hid (field_ok g s i 116 #[.pointer (some ⟨w.heap.size, 0, none⟩), .pointer (some ⟨w.heap.size + 1, 0, none⟩)] (fun x => x = g ∨ x = w.heap.size + 1) (OneOk g (w.heap.size + 1) 9 s (i + k + n) (.string (bs (((lb s).drop (i + k)).take n)))) _ ((h.alloc _).alloc _) cf_txt1 (fun W w' hq => hq.2.2) (fun x hx => by simp; omega)
        (fun W hW bW => txt1_ok g _ _ s i most n k _ W hW ((a0.alloc _).below bW (a0.alloc _).lt) (a1.below bW a1.lt) ((hg.up l3).up bW) hs hat hd hn hle))
      have L3 := Lib.hid l3
      generalize ((lb s).drop (i + k)).take n = L at *
      clear h hg a0 a1 l3 hd he hn hle
      go_enter Tryz.func102, Tryz.ntmps102
      go_wp2_with fail
      refine HF.out.mono ?_
      rintro e w1 ⟨rfl, W, W1, bW, ⟨k1, k2, o1⟩, b1⟩
      simp only [World.size_alloc] at bW b1
      have k3 := k2.below b1 (by omega)
      have k4 := k1.below b1 (by omega)
      have z1 := k3.cell 0
      have O1 := Lib.hid (((((Only.of_below (fun x => x = g) L3.out).then_below (by simpa using bW)).step o1 (fun x hx hs => by omega))).then_b b1 (by omega))
      have K4 := Lib.hid k4
      clear k1 k2 k3 k4 o1 b1 bW
      go_wp2_with fail
      refine (is_nil 70 _).mono ?_
      rintro e w2 ⟨rfl, rfl⟩
      go_wp2_with fail
      go_ret
      exact ⟨rfl, K4.out, O1.out⟩
    · rw [he]
      exact txt_end g s i most false w h (fun W b3 bx hW h3 bW => field_no g s i _ _ W hW cf_txt1 (fun W' hW' bW' => txt1_short g b3 bx s i most n k W' hW' (h3.below bW' h3.lt) ((hg.up bW).up bW') hs hat hd hn hle))
    · rw [he]
      exact txt_end g s i most false w h (fun W b3 bx hW h3 bW => field_no g s i _ _ W hW cf_txt1 (fun W' hW' bW' => txt1_no g b3 bx s i most W' hW' (h3.below bW' h3.lt) ((hg.up bW).up bW') hs hat hno))
  · rw [rdTxt_bad]
    exact txt_end g s i most true w h (fun W b3 bx hW _ _ => field_bad g s i _ _ W hW)
end Go.Proofs.YtckdecodpjfcnaaGreatDoor
namespace Go.Proofs.YtckdecodpjfcnaaGreatDoor
open Go.RowKit

theorem winL_one {s : ByteArray} {i : Nat} {c : UInt8} (h : (lb s)[i]? = some c) : winL s i 1 = [c] := by
  unfold winL
  obtain ⟨h1, h2⟩ := List.getElem?_eq_some_iff.1 h
  rw [List.drop_eq_getElem_cons h1, h2]; rfl
theorem winL_none {s : ByteArray} {i : Nat} (h : (lb s)[i]? = none) : winL s i 1 = [] := by
  unfold winL
  rw [List.drop_eq_nil_of_le (List.getElem?_eq_none_iff.1 h)]; rfl

set_option maxRecDepth 100000 in
set_option maxHeartbeats 1000000 in
theorem flag1_ok (g bx : Nat) (s : ByteArray) (i : Nat) (c : UInt8) (v0 : Value) (w : World) (h : RdB w g s i false) (hx : Blk w bx 4 #[v0])
    (hs : s.size ≤ 1000000) (hat : i ≤ s.size) (hc : (lb s)[i]? = some c) (hc1 : c.toNat ≤ 1) :
    Calls Tryz.prog 115 #[.pointer (some ⟨g, 0, none⟩), .pointer (some ⟨bx, 0, none⟩)] w fun e w' => e = .returned (.tuple #[]) ∧ OneOk g bx 4 s (i + 1) (.bool (decide (c.toNat = 1))) w w' := by
  have hw := window_any g s i 1 false w h hs hat (by omega)
  rw [winL_one hc] at hw
  have HW := Lib.hid hw
  have hne : ¬ bx = g := fun e => (h.ne_ hx (by decide)) e.symm
  have hne' : ¬ g = bx := fun e => hne e.symm
  have HX := Lib.hid hx
  have H := Lib.hid h
  obtain ⟨m, hm⟩ : ∃ m : Nat, m = c.toNat := ⟨_, rfl⟩
  have e1 : decide ((1 : Int) < (m : Int)) = false := by simp; omega
  have e2 : ((m : Int) == 1) = decide (m = 1) := by rw [Bool.eq_iff_iff]; simp; omega
  have e3 : cellsB [c] = [.int .u8 (m : Int)] := by rw [hm]; rfl
  rw [← hm]
  have E3 := Lib.hid e3
  have v1 : IntKind.i64.wrap ((i : Int) + 1) = (i : Int) + 1 := IntWalk.i64_in _ (by omega)
  clear h hx hw hc hm hc1 e3
  go_enter Tryz.func115, Tryz.ntmps115
  go_wp2_with fail
  refine HW.out.mono ?_
  rintro e w1 ⟨A, cp, rfl, r1, hcp, b1⟩
  rw [E3.out] at r1
  obtain ⟨b, off, rfl, hb, hcell⟩ := r1.plain (by simp)
  have q1 : w1.cell? ⟨b, off, none⟩ = some (.int .u8 (m : Int)) := hcell 0 _ rfl
  have kx := HX.out.below b1 HX.out.lt
  have k1 := H.out.below b1 H.out.lt
  have z1 := kx.cell 0
  have z2 := kx.frozen 0
  have y1 := k1.cell 1
  have y2 := k1.frozen 1
  have KX := Lib.hid kx
  have K1 := Lib.hid k1
  have B1 := Lib.hid b1
  clear r1 hcell kx k1 b1 hcp
  simp only [List.length_singleton]
  go_wp2_with fail
  go_end0
  have K3 := (K1.out.far (p := ⟨bx, 0, none⟩) hne' (.bool (decide (m = 1)))).set_ 1 (.int .i64 ((i : Int) + 1))
  exact ⟨rfl, K3, (KX.out.set_ 0 _).far hne _, (((Only.of_below (fun x => x = g ∨ x = bx) B1.out).set (.inl (.inr rfl)) _).set (.inl (.inl rfl)) _)⟩

set_option maxRecDepth 100000 in
set_option maxHeartbeats 1000000 in
theorem flag1_no (g bx : Nat) (s : ByteArray) (i : Nat) (w : World) (h : RdB w g s i false)
    (hs : s.size ≤ 1000000) (hat : i ≤ s.size) (hno : (lb s)[i]? = none ∨ ∃ c, (lb s)[i]? = some c ∧ 1 < c.toNat) :
    Calls Tryz.prog 115 #[.pointer (some ⟨g, 0, none⟩), .pointer (some ⟨bx, 0, none⟩)] w (StopPost g s w) := by
  have hw := window_any g s i 1 false w h hs hat (by omega)
  have H := Lib.hid h
  rcases hno with hc | ⟨c, hc, hc1⟩
  · rw [winL_none hc] at hw
    have HW := Lib.hid hw
    clear h hw hc
    go_enter Tryz.func115, Tryz.ntmps115
    go_wp2_with fail
    refine HW.out.mono ?_
    rintro e w1 ⟨A, cp, rfl, r1, hcp, b1⟩
    have B1 := Lib.hid b1
    clear r1 hcp b1
    simp only [List.length_nil]
    go_wp2_with fail
    exact ⟨rfl, w, Only.refl _ _, ⟨i, H.out⟩, w1.heap.size, rfl, B1.out.size, by simp, bal B1.out _⟩
  · rw [winL_one hc] at hw
    have HW := Lib.hid hw
    obtain ⟨m, hm⟩ : ∃ m : Nat, m = c.toNat := ⟨_, rfl⟩
    have e1 : decide ((1 : Int) < (m : Int)) = true := by simp; omega
    have e3 : cellsB [c] = [.int .u8 (m : Int)] := by rw [hm]; rfl
    have E3 := Lib.hid e3
    clear h hw hc hm hc1 e3
    go_enter Tryz.func115, Tryz.ntmps115
    go_wp2_with fail
    refine HW.out.mono ?_
    rintro e w1 ⟨A, cp, rfl, r1, hcp, b1⟩
    rw [E3.out] at r1
    obtain ⟨b, off, rfl, hb, hcell⟩ := r1.plain (by simp)
    have q1 : w1.cell? ⟨b, off, none⟩ = some (.int .u8 (m : Int)) := hcell 0 _ rfl
    have B1 := Lib.hid b1
    clear r1 hcp b1 hcell
    simp only [List.length_singleton]
    go_wp2_with fail
    exact ⟨rfl, w, Only.refl _ _, ⟨i, H.out⟩, w1.heap.size, rfl, B1.out.size, by simp, bal B1.out _⟩

theorem cf_flag1 (args : Array Value) (W : World) : (callFunc 115 args).run Tryz.prog W = .ok (.enter 115 args) W := by kernel_rfl

theorem rdFlag_bad (l : List UInt8) (i : Nat) : rdFlag l i true = (false, i, true) := by unfold rdFlag; rw [if_pos rfl]
theorem rdFlag_cases (l : List UInt8) (i : Nat) :
    (∃ c, l[i]? = some c ∧ c.toNat ≤ 1 ∧ rdFlag l i false = (decide (c.toNat = 1), i + 1, false)) ∨
    ((l[i]? = none ∨ ∃ c, l[i]? = some c ∧ 1 < c.toNat) ∧ rdFlag l i false = (false, i, true)) := by
  unfold rdFlag
  simp only [Bool.false_eq_true, if_false]
  cases hd : l[i]? with
  | none => exact .inr ⟨.inl rfl, rfl⟩
  | some c =>
    simp only
    by_cases h0 : c = 0
    · subst h0; exact .inl ⟨0, rfl, by decide, rfl⟩
    · rw [if_neg h0]
      by_cases h1 : c = 1
      · subst h1; exact .inl ⟨1, rfl, by decide, rfl⟩
      · rw [if_neg h1]
        refine .inr ⟨.inr ⟨c, rfl, ?_⟩, rfl⟩
        have a0 : ¬ c.toNat = 0 := fun e => h0 (UInt8.toNat_inj.1 (by rw [e]; rfl))
        have a1 : ¬ c.toNat = 1 := fun e => h1 (UInt8.toNat_inj.1 (by rw [e]; rfl))
        omega

theorem flag_end (g : Nat) (s : ByteArray) (i : Nat) (bad : Bool) (w : World) (h : RdB w g s i bad)
    (hf : ∀ W bx, RdB W g s i bad → Below w.heap.size w W →
      Calls Tryz.prog 74 #[.pointer (some ⟨g, 0, none⟩), .func (.func 115) #[] #[.pointer (some ⟨bx, 0, none⟩)]] W (FieldNo g s i W)) :
    Calls Tryz.prog 101 #[.pointer (some ⟨g, 0, none⟩)] w (RdPost g s (.bool false) i true w) := by
  have hmf : ∀ (fn : Fn) (first cap : Array Value) (w : World), (Instr.makeFunc fn first cap).run Tryz.prog w = .ok (.func fn first cap) w := fun _ _ _ _ => rfl
  have l3 := (Below.refl w.heap.size w).alloc (Nat.le_refl _) (.cells #[.bool false] 4)
  have HF := Lib.hid (hf _ w.heap.size (h.alloc _) l3)
  have L3 := Lib.hid l3
  clear h hf l3
  go_enter Tryz.func101, Tryz.ntmps101
  go_wp2_with fail
  refine HF.out.mono ?_
  rintro e w1 ⟨b, rfl, hb, k1, o1⟩
  have O1 := Lib.hid ((Only.of_below (fun x => x = g) L3.out).trans o1)
  have K1 := Lib.hid k1
  have HB := Lib.hid (is_stop b w1 hb)
  clear hb k1 o1
  go_wp2_with fail
  refine HB.out.mono ?_
  rintro e w2 ⟨rfl, rfl⟩
  go_wp2_with fail
  go_ret
  exact ⟨rfl, K1.out, O1.out⟩

set_option maxHeartbeats 400000 in
theorem RFlag_any (g : Nat) (s : ByteArray) (i : Nat) (bad : Bool) (w : World) (h : RdB w g s i bad) (hs : s.size ≤ 1000000) (hat : i ≤ s.size) :
    Calls Tryz.prog 101 #[.pointer (some ⟨g, 0, none⟩)] w (RdPost g s (.bool (rdFlag (lb s) i bad).1) (rdFlag (lb s) i bad).2.1 (rdFlag (lb s) i bad).2.2 w) := by
  cases bad
  · rcases rdFlag_cases (lb s) i with ⟨c, hc, hc1, he⟩ | ⟨hno, he⟩
    · rw [he]
      have hmf : ∀ (fn : Fn) (first cap : Array Value) (w : World), (Instr.makeFunc fn first cap).run Tryz.prog w = .ok (.func fn first cap) w := fun _ _ _ _ => rfl
      have a1 := blk_new w 4 #[.bool false] rfl
      have l3 := (Below.refl w.heap.size w).alloc (Nat.le_refl _) (.cells #[.bool false] 4)
      have hl := h.lt
      have HF := Lib.hid (field_ok g s i 115 #[.pointer (some ⟨w.heap.size, 0, none⟩)] (fun x => x = g ∨ x = w.heap.size) (OneOk g w.heap.size 4 s (i + 1) (.bool (decide (c.toNat = 1)))) _ (h.alloc _) cf_flag1 (fun W w' hq => hq.2.2) (fun x hx => by simp; omega)
        (fun W hW bW => flag1_ok g _ s i c _ W hW (a1.below bW a1.lt) hs hat hc hc1))
      have L3 := Lib.hid l3
      generalize decide (c.toNat = 1) = y at *
      clear h a1 l3 he hc hc1
      go_enter Tryz.func101, Tryz.ntmps101
      go_wp2_with fail
      refine HF.out.mono ?_
      rintro e w1 ⟨rfl, W, W1, bW, ⟨k1, k2, o1⟩, b1⟩
      simp only [World.size_alloc] at bW b1
      have k3 := k2.below b1 (by omega)
      have k4 := k1.below b1 (by omega)
      have z1 := k3.cell 0
      have O1 := Lib.hid (((((Only.of_below (fun x => x = g) L3.out).then_below (by simpa using bW)).step o1 (fun x hx hs => by omega))).then_b b1 (by omega))
      have K4 := Lib.hid k4
      clear k1 k2 k3 k4 o1 b1 bW
      go_wp2_with fail
      refine (is_nil 70 _).mono ?_
      rintro e w2 ⟨rfl, rfl⟩
      go_wp2_with fail
      go_ret
      exact ⟨rfl, K4.out, O1.out⟩
    · rw [he]
      exact flag_end g s i false w h (fun W bx hW bW => field_no g s i _ _ W hW cf_flag1 (fun W' hW' bW' => flag1_no g bx s i W' hW' hs hat hno))
  · rw [rdFlag_bad]
    exact flag_end g s i true w h (fun W bx hW _ => field_bad g s i _ _ W hW)

/-- Whether a reader is at the end. -/
def endOf (n i : Nat) (bad : Bool) : Int := if bad = true ∨ i ≠ n then 70 else 0
set_option maxRecDepth 100000 in
theorem REnd_any (g : Nat) (s : ByteArray) (i : Nat) (bad : Bool) (w : World) (h : RdB w g s i bad) :
    Calls Tryz.prog 51 #[.pointer (some ⟨g, 0, none⟩)] w fun e w' => e = .returned (.int .i64 (endOf s.size i bad)) ∧ ∃ n, w' = w.drewN n := by
  have x0 := h.cell 0
  have x1 := h.cell 1
  have x2 := h.cell 2
  clear h
  cases bad
  · by_cases hi : i = s.size
    · have he : endOf s.size i false = 0 := by unfold endOf; rw [if_neg (by simp [hi])]
      rw [he]
      subst hi
      clear he
      have e1 : ((s.size : Int) != (s.size : Int)) = false := by simp
      go_enter Tryz.func51, Tryz.ntmps51
      go_wp2_with fail
      go_quiet (fail)
      go_wp2_with fail
      go_ret
      exact ⟨rfl, _, rfl⟩
    · have he : endOf s.size i false = 70 := by unfold endOf; rw [if_pos (.inr hi)]
      rw [he]
      have e1 : ((i : Int) != (s.size : Int)) = true := by rw [bne_iff_ne]; omega
      clear he hi
      go_enter Tryz.func51, Tryz.ntmps51
      go_wp2_with fail
      go_quiet (fail)
      go_wp2_with fail
      go_ret
      exact ⟨rfl, _, rfl⟩
  · have he : endOf s.size i true = 70 := by unfold endOf; rw [if_pos (.inl rfl)]
    rw [he]
    clear he
    go_enter Tryz.func51, Tryz.ntmps51
    go_wp2_with fail
    go_quiet (fail)
    go_wp2_with fail
    go_ret
    exact ⟨rfl, _, rfl⟩

theorem RWrong_any (g : Nat) (s : ByteArray) (i : Nat) (bad : Bool) (w : World) (h : RdB w g s i bad) :
    Calls Tryz.prog 114 #[.pointer (some ⟨g, 0, none⟩)] w (RdPost g s (.tuple #[]) i true w) := by
  have x2 := h.cell 2
  have x3 := h.frozen 2
  have H := Lib.hid h
  clear h
  go_enter Tryz.func114, Tryz.ntmps114
  go_wp2_with fail
  go_end0
  exact ⟨rfl, H.out.set_ 2 _, (Only.refl (fun x => x = g) w).set (.inl rfl) _⟩

theorem RNew_any (s : ByteArray) (w : World) :
    Calls Tryz.prog 48 #[.string s] w fun e w' => e = .returned (.pointer (some ⟨w.heap.size, 0, none⟩)) ∧ w.alloc (.cells #[.string s, .int .i64 0, .bool false] 113) = w' := by
  go_enter Tryz.func48, Tryz.ntmps48
  go_wp2_with fail
  go_ret
  exact ⟨rfl, rfl⟩
end Go.Proofs.YtckdecodpjfcnaaGreatDoor
namespace Go.Proofs.YtckdecodpjfcnaaGreatDoor
open Go.RowKit

/-- The document's reader in memory. -/
abbrev RdR (w : World) (g : Nat) (s : ByteArray) (i : Nat) (bad : Bool) : Prop := Blk w g 118 #[.string s, .int .i64 (i : Int), .bool bad]
def RrPost (g : Nat) (s : ByteArray) (v : Value) (i : Nat) (bad : Bool) (w : World) (e : Ending) (w' : World) : Prop :=
  e = .returned v ∧ RdR w' g s i bad ∧ Only (fun x => x = g) w w'

/-- The document's Get of a text's bytes. -/
def rGetPost (z : Int × Int × Int) (w : World) (e : Ending) (w' : World) : Prop := e = .returned (.tuple #[.int .i64 z.1, .int .i64 z.2.1, .int .i64 z.2.2]) ∧ w = w'
theorem rGet_text (s : ByteArray) (b c : Nat) (k : Nat) (w : World) (hs : s.size ≤ 100000) (hcell : ∀ j, j < s.size → w.cell? ⟨b, j, none⟩ = some (.int .u8 (((lb s).getD j 0).toNat : Int))) :
    Calls Tryz.prog 85 #[.slice (some ⟨b, 0, none⟩) s.size c, .int .i64 (k : Int)] w (rGetPost (getOf (lb s) k) w) := by
  have hr : Reads w (b + 1) 1 (some ⟨b, 0, none⟩) (lb s).length (cellsB (lb s)) := by
    refine ⟨by rw [length_cellsB]; omega, fun _ => ⟨_, rfl, Nat.lt_succ_self _, fun j u hu => ?_⟩⟩
    rw [getElem?_cellsB, Option.map_eq_some_iff] at hu
    obtain ⟨c, hc, rfl⟩ := hu
    have hj := (List.getElem?_eq_some_iff.1 hc).1
    rw [add_none, Nat.zero_add]
    have := hcell j (by rw [← length_lb]; exact hj)
    rw [List.getD_eq_getElem?_getD, hc] at this
    exact this
  have := rGet_any (some ⟨b, 0, none⟩) (lb s) c (b + 1) k w (by rw [length_lb]; exact hs) hr
  rw [length_lb] at this
  exact this

theorem getOf_nat (l : List UInt8) (i : Nat) (hi : i ≤ l.length) :
    getOf l i = match dec (l.drop i) with | none => (0, 0, 70) | some (n, m) => ((n : Int), (i : Int) + m, 0) := by
  unfold getOf
  rw [if_neg (by omega), Int.toNat_natCast]
  rfl

set_option maxRecDepth 100000 in
set_option maxHeartbeats 1000000 in
theorem rRNum_any (g : Nat) (s : ByteArray) (i : Nat) (bad : Bool) (lo hi : Int) (w : World) (h : RdR w g s i bad) (hs : s.size ≤ 100000) (hat : i ≤ s.size) :
    Calls Tryz.prog 53 #[.pointer (some ⟨g, 0, none⟩), .int .i64 lo, .int .i64 hi] w (RrPost g s (.int .i64 (rdNum (lb s) i bad lo hi).1) (rdNum (lb s) i bad lo hi).2.1 (rdNum (lb s) i bad lo hi).2.2 w) := by
  have x0 := h.cell 0
  have x1 := h.cell 1
  have x2 := h.cell 2
  have H := Lib.hid h
  cases bad
  · obtain ⟨cap, W', hrun, hcap, hcell, hsize, hgrow⟩ := bytes_of_ex (P := Tryz.prog) Tryz.underlying9 Tryz.underlying46 Tryz.underlying5 w.drew s
    have bW : Below w.heap.size w W' := (Below.refl _ w).drew.grown hgrow (Nat.le_refl _) (fun k hk => by cases hk)
    have kW := h.below bW h.lt
    have y0 := kW.cell 0
    have y1 := kW.cell 1
    have y2 := kW.cell 2
    have y3 := kW.frozen 1
    have y4 := kW.frozen 2
    have HG := Lib.hid (rGet_text s w.heap.size cap i W' hs hcell)
    rw [getOf_nat (lb s) i (by rw [length_lb]; exact hat)] at HG
    have KW := Lib.hid kW
    have OW := Lib.hid (Only.of_below (fun x => x = g) bW)
    rcases rdNum_cases (lb s) i lo hi with ⟨n, k, hd, hr, he⟩ | ⟨hno, he⟩
    · rw [he]
      rw [hd] at HG
      have d1 : decide ((n : Int) < lo) = false := decide_eq_false (by omega)
      have d2 : decide (hi < (n : Int)) = false := decide_eq_false (by omega)
      clear h hcap hcell hsize hgrow bW kW he hd hr
      go_enter Tryz.func53, Tryz.ntmps53
      go_wp2_with fail
      go_region_held (fun w' => w'.cell? ⟨g, 0, none⟩ = some (.string s) ∧ w'.cell? ⟨g, 1, none⟩ = some (.int .i64 (i : Int))) (first | go_keep) ((first | ((with_reducible refine HG.out.mono ?_); rintro e w2 ⟨rfl, rfl⟩)))
      clear hrun
      go_wp2_with fail
      go_ret
      exact ⟨rfl, KW.out.set_ 1 (.int .i64 ((i + k : Nat) : Int)), OW.out.set (.inl rfl) _⟩
    · rw [he]
      rcases hno with hd | ⟨n, k, hd, hr⟩
      · rw [hd] at HG
        clear h hcap hcell hsize hgrow bW kW he hd
        go_enter Tryz.func53, Tryz.ntmps53
        go_wp2_with fail
        go_region_held (fun w' => w'.cell? ⟨g, 0, none⟩ = some (.string s) ∧ w'.cell? ⟨g, 1, none⟩ = some (.int .i64 (i : Int))) (first | go_keep) ((first | ((with_reducible refine HG.out.mono ?_); rintro e w2 ⟨rfl, rfl⟩)))
        clear hrun
        go_wp2_with fail
        go_ret
        exact ⟨rfl, KW.out.set_ 2 (.bool true), OW.out.set (.inl rfl) _⟩
      · rw [hd] at HG
        have HR := Lib.hid hr
        clear h hcap hcell hsize hgrow bW kW he hd hr
        by_cases h1 : (n : Int) < lo
        · have d1 : decide ((n : Int) < lo) = true := decide_eq_true h1
          go_enter Tryz.func53, Tryz.ntmps53
          go_wp2_with fail
          go_region_held (fun w' => w'.cell? ⟨g, 0, none⟩ = some (.string s) ∧ w'.cell? ⟨g, 1, none⟩ = some (.int .i64 (i : Int))) (first | go_keep) ((first | ((with_reducible refine HG.out.mono ?_); rintro e w2 ⟨rfl, rfl⟩)))
          clear hrun
          go_wp2_with fail
          go_ret
          exact ⟨rfl, KW.out.set_ 2 (.bool true), OW.out.set (.inl rfl) _⟩
        · have d1 : decide ((n : Int) < lo) = false := decide_eq_false h1
          have d2 : decide (hi < (n : Int)) = true := decide_eq_true (by have := HR.out; omega)
          go_enter Tryz.func53, Tryz.ntmps53
          go_wp2_with fail
          go_region_held (fun w' => w'.cell? ⟨g, 0, none⟩ = some (.string s) ∧ w'.cell? ⟨g, 1, none⟩ = some (.int .i64 (i : Int))) (first | go_keep) ((first | ((with_reducible refine HG.out.mono ?_); rintro e w2 ⟨rfl, rfl⟩)))
          clear hrun
          go_wp2_with fail
          go_ret
          exact ⟨rfl, KW.out.set_ 2 (.bool true), OW.out.set (.inl rfl) _⟩
  · rw [rdNum_bad]
    clear h
    go_enter Tryz.func53, Tryz.ntmps53
    go_wp2_with fail
    go_ret
    exact ⟨rfl, H.out, Only.refl _ _⟩
end Go.Proofs.YtckdecodpjfcnaaGreatDoor
namespace Go.Proofs.YtckdecodpjfcnaaGreatDoor
open Go.RowKit

theorem extract_eq (s : ByteArray) (i n : Nat) : s.extract i (i + n) = bs (((lb s).drop i).take n) := by
  apply lb_inj
  rw [lb_extract, lb_bs, List.drop_take]
  congr 1
  omega

set_option maxRecDepth 100000 in
set_option maxHeartbeats 1000000 in
theorem rRTxt_any (g : Nat) (s : ByteArray) (i : Nat) (bad : Bool) (most : Int) (w : World) (h : RdR w g s i bad) (hs : s.size ≤ 100000) (hat : i ≤ s.size) :
    Calls Tryz.prog 56 #[.pointer (some ⟨g, 0, none⟩), .int .i64 most] w (RrPost g s (.string (bs (rdTxt (lb s) i bad most).1)) (rdTxt (lb s) i bad most).2.1 (rdTxt (lb s) i bad most).2.2 w) := by
  have x0 := h.cell 0
  have x1 := h.cell 1
  have x2 := h.cell 2
  have H := Lib.hid h
  cases bad
  · obtain ⟨cap, W', hrun, hcap, hcell, hsize, hgrow⟩ := bytes_of_ex (P := Tryz.prog) Tryz.underlying9 Tryz.underlying46 Tryz.underlying5 w.drew s
    have bW : Below w.heap.size w W' := (Below.refl _ w).drew.grown hgrow (Nat.le_refl _) (fun k hk => by cases hk)
    have kW := h.below bW h.lt
    have y0 := kW.cell 0
    have y1 := kW.cell 1
    have y2 := kW.cell 2
    have y3 := kW.frozen 1
    have y4 := kW.frozen 2
    have HG := Lib.hid (rGet_text s w.heap.size cap i W' hs hcell)
    rw [getOf_nat (lb s) i (by rw [length_lb]; exact hat)] at HG
    have KW := Lib.hid kW
    have OW := Lib.hid (Only.of_below (fun x => x = g) bW)
    rcases rdTxt_cases (lb s) i most with ⟨n, k, hd, hn, hle, he⟩ | ⟨n, k, hd, hn, hle, he⟩ | ⟨hno, he⟩
    · rw [he]
      rw [hd] at HG
      have hat2 := at_le hat hd
      rw [List.length_drop, length_lb] at hle
      have d1 : decide (most < (n : Int)) = false := decide_eq_false (by omega)
      have v1 : IntKind.i64.wrap ((s.size : Int) - ((i : Int) + (k : Int))) = (s.size : Int) - ((i : Int) + (k : Int)) := IntWalk.i64_in _ (by omega)
      have d2 : decide ((s.size : Int) - ((i : Int) + (k : Int)) < (n : Int)) = false := decide_eq_false (by omega)
      have v2 : IntKind.i64.wrap ((i : Int) + (k : Int) + (n : Int)) = (i : Int) + (k : Int) + (n : Int) := IntWalk.i64_in _ (by omega)
      have hsl : ∀ W : World, (Instr.slice 9 (.string s) (some (.int .i64 ((i : Int) + (k : Int)))) (some (.int .i64 ((i : Int) + (k : Int) + (n : Int)))) none).run Tryz.prog W = .ok (.string (bs (((lb s).drop (i + k)).take n))) W := by
        intro W
        rw [run_slice_string_if W 9 s .i64 .i64 _ _ Tryz.underlying9, if_pos (by omega), if_pos (by omega), ← extract_eq]
        rw [show ((i : Int) + (k : Int) + (n : Int)).toNat = i + k + n by omega, show ((i : Int) + (k : Int)).toNat = i + k by omega]
      generalize ((lb s).drop (i + k)).take n = L at *
      have HSL := Lib.hid hsl
      clear h hcap hcell hsize hgrow bW kW he hd hn hle hsl
      go_enter Tryz.func56, Tryz.ntmps56
      go_wp2_with fail
      go_region_held (fun w' => w'.cell? ⟨g, 0, none⟩ = some (.string s) ∧ w'.cell? ⟨g, 1, none⟩ = some (.int .i64 (i : Int))) (first | go_keep) ((first | ((with_reducible refine HG.out.mono ?_); rintro e w2 ⟨rfl, rfl⟩)))
      clear hrun
      go_wp2_with fail
      have K1 := KW.out.set_ 1 (.int .i64 ((i : Int) + (k : Int) + (n : Int)))
      have u0 := K1.cell 0
      have u1 := K1.cell 1
      have hsl := HSL.out
      have K2 := Lib.hid K1
      clear K1 y0 y1 y2
      go_quiet (fail)
      go_wp2_with fail
      go_ret
      refine ⟨rfl, ?_, ?_⟩
      · have := K2.out
        rw [show ((i : Int) + (k : Int) + (n : Int)) = ((i + k + n : Nat) : Int) by omega] at this ⊢
        exact this
      · exact ⟨OW.out.os, OW.out.tape, OW.out.output, (OW.out.set (.inl rfl) _).size, (OW.out.set (.inl rfl) _).block⟩
    · rw [he]
      rw [hd] at HG
      have hat2 := at_le hat hd
      rw [List.length_drop, length_lb] at hle
      have d1 : decide (most < (n : Int)) = false := decide_eq_false (by omega)
      have v1 : IntKind.i64.wrap ((s.size : Int) - ((i : Int) + (k : Int))) = (s.size : Int) - ((i : Int) + (k : Int)) := IntWalk.i64_in _ (by omega)
      have d2 : decide ((s.size : Int) - ((i : Int) + (k : Int)) < (n : Int)) = true := decide_eq_true (by omega)
      clear h hcap hcell hsize hgrow bW kW he hd hn hle
      go_enter Tryz.func56, Tryz.ntmps56
      go_wp2_with fail
      go_region_held (fun w' => w'.cell? ⟨g, 0, none⟩ = some (.string s) ∧ w'.cell? ⟨g, 1, none⟩ = some (.int .i64 (i : Int))) (first | go_keep) ((first | ((with_reducible refine HG.out.mono ?_); rintro e w2 ⟨rfl, rfl⟩)))
      clear hrun
      go_wp2_with fail
      go_ret
      exact ⟨rfl, KW.out.set_ 2 (.bool true), OW.out.set (.inl rfl) _⟩
    · rw [he]
      rcases hno with hd | ⟨n, k, hd, hr⟩
      · rw [hd] at HG
        clear h hcap hcell hsize hgrow bW kW he hd
        go_enter Tryz.func56, Tryz.ntmps56
        go_wp2_with fail
        go_region_held (fun w' => w'.cell? ⟨g, 0, none⟩ = some (.string s) ∧ w'.cell? ⟨g, 1, none⟩ = some (.int .i64 (i : Int))) (first | go_keep) ((first | ((with_reducible refine HG.out.mono ?_); rintro e w2 ⟨rfl, rfl⟩)))
        clear hrun
        go_wp2_with fail
        go_ret
        exact ⟨rfl, KW.out.set_ 2 (.bool true), OW.out.set (.inl rfl) _⟩
      · rw [hd] at HG
        have d1 : decide (most < (n : Int)) = true := decide_eq_true (by omega)
        clear h hcap hcell hsize hgrow bW kW he hd hr
        go_enter Tryz.func56, Tryz.ntmps56
        go_wp2_with fail
        go_region_held (fun w' => w'.cell? ⟨g, 0, none⟩ = some (.string s) ∧ w'.cell? ⟨g, 1, none⟩ = some (.int .i64 (i : Int))) (first | go_keep) ((first | ((with_reducible refine HG.out.mono ?_); rintro e w2 ⟨rfl, rfl⟩)))
        clear hrun
        go_wp2_with fail
        go_ret
        exact ⟨rfl, KW.out.set_ 2 (.bool true), OW.out.set (.inl rfl) _⟩
  · rw [rdTxt_bad]
    clear h
    go_enter Tryz.func56, Tryz.ntmps56
    go_wp2_with fail
    go_ret
    exact ⟨rfl, H.out, Only.refl _ _⟩

theorem idx_text (s : ByteArray) (i : Nat) (c : UInt8) (hc : (lb s)[i]? = some c) (W : World) : (Instr.index 9 (.string s) (.int .i64 (i : Int))).run Tryz.prog W = .ok (.int .u8 (c.toNat : Int)) W := by
  have hlt : i < s.size := by rw [← length_lb]; exact (List.getElem?_eq_some_iff.1 hc).1
  rw [run_index_string W 9 s .i64 i Tryz.underlying9, dif_pos ⟨by omega, by omega⟩]
  have h2 := (List.getElem?_eq_some_iff.1 hc).2
  have : s[(i : Int).toNat]'(by simpa using hlt) = c := by rw [← h2]; rfl
  rw [this]

set_option maxRecDepth 100000 in
set_option maxHeartbeats 1000000 in
theorem rRFlag_any (g : Nat) (s : ByteArray) (i : Nat) (bad : Bool) (w : World) (h : RdR w g s i bad) (hs : s.size ≤ 100000) (hat : i ≤ s.size) :
    Calls Tryz.prog 55 #[.pointer (some ⟨g, 0, none⟩)] w (RrPost g s (.bool (rdFlag (lb s) i bad).1) (rdFlag (lb s) i bad).2.1 (rdFlag (lb s) i bad).2.2 w) := by
  have x0 := h.cell 0
  have x1 := h.cell 1
  have x2 := h.cell 2
  have z1 := h.frozen 1
  have z2 := h.frozen 2
  have H := Lib.hid h
  have e0 : decide ((i : Int) < 0) = false := by simp
  cases bad
  · rcases rdFlag_cases (lb s) i with ⟨c, hc, hc1, he⟩ | ⟨hno, he⟩
    · rw [he]
      have hlt : i < s.size := by rw [← length_lb]; exact (List.getElem?_eq_some_iff.1 hc).1
      have hix := idx_text s i c hc
      obtain ⟨m, hm⟩ : ∃ m : Nat, m = c.toNat := ⟨_, rfl⟩
      rw [← hm] at hix ⊢
      have e1 : decide ((s.size : Int) ≤ (i : Int)) = false := by simp; omega
      have e1' : decide (s.size ≤ i) = false := by simp; omega
      have e2 : decide ((1 : Int) < (m : Int)) = false := by simp; omega
      have e3 : ((m : Int) == 1) = decide (m = 1) := by rw [Bool.eq_iff_iff]; simp; omega
      have v1 : IntKind.i64.wrap ((i : Int) + 1) = (i : Int) + 1 := IntWalk.i64_in _ (by omega)
      have v2 : IntKind.i64.wrap ((i : Int) + 1 - 1) = (i : Int) := by rw [IntWalk.i64_in _ (by omega)]; omega
      clear h he hc hm hc1
      go_enter Tryz.func55, Tryz.ntmps55
      go_wp2_with fail
      go_quiet (fail)
      go_wp2_with fail
      have K1 := (H.out.drewN nq).set_ 1 (.int .i64 ((i : Int) + 1))
      have u0 := K1.cell 0
      have u1 := K1.cell 1
      clear K1 x0 x1 x2
      go_quiet (fail)
      go_wp2_with fail
      go_ret
      refine ⟨rfl, ?_, ?_⟩
      · exact H.out.set_ 1 (.int .i64 ((i + 1 : Nat) : Int))
      · have o := (Only.refl (fun x => x = g) w).set (g := g) (o := 1) (.inl rfl) (.int .i64 ((i : Int) + 1))
        exact ⟨o.os, o.tape, o.output, o.size, o.block⟩
    · rw [he]
      rcases hno with hc | ⟨c, hc, hc1⟩
      · have hge : s.size ≤ i := by rw [← length_lb]; exact List.getElem?_eq_none_iff.1 hc
        have e1 : decide ((s.size : Int) ≤ (i : Int)) = true := by simp; omega
        have e1' : decide (s.size ≤ i) = true := by simp; omega
        clear h he hc
        go_enter Tryz.func55, Tryz.ntmps55
        go_wp2_with fail
        go_quiet (fail)
        go_wp2_with fail
        go_ret
        have o := (Only.refl (fun x => x = g) w).set (g := g) (o := 2) (.inl rfl) (.bool true)
        exact ⟨rfl, H.out.set_ 2 (.bool true), ⟨o.os, o.tape, o.output, o.size, o.block⟩⟩
      · have hlt : i < s.size := by rw [← length_lb]; exact (List.getElem?_eq_some_iff.1 hc).1
        have hix := idx_text s i c hc
        obtain ⟨m, hm⟩ : ∃ m : Nat, m = c.toNat := ⟨_, rfl⟩
        rw [← hm] at hix
        have e1 : decide ((s.size : Int) ≤ (i : Int)) = false := by simp; omega
        have e1' : decide (s.size ≤ i) = false := by simp; omega
        have e2 : decide ((1 : Int) < (m : Int)) = true := by simp; omega
        clear h he hc hm hc1
        go_enter Tryz.func55, Tryz.ntmps55
        go_wp2_with fail
        go_quiet (fail)
        go_wp2_with fail
        go_ret
        have o := (Only.refl (fun x => x = g) w).set (g := g) (o := 2) (.inl rfl) (.bool true)
        exact ⟨rfl, H.out.set_ 2 (.bool true), ⟨o.os, o.tape, o.output, o.size, o.block⟩⟩
  · rw [rdFlag_bad]
    clear h
    go_enter Tryz.func55, Tryz.ntmps55
    go_wp2_with fail
    go_ret
    exact ⟨rfl, H.out, Only.refl _ _⟩

set_option maxRecDepth 100000 in
theorem rREnd_any (g : Nat) (s : ByteArray) (i : Nat) (bad : Bool) (w : World) (h : RdR w g s i bad) :
    Calls Tryz.prog 57 #[.pointer (some ⟨g, 0, none⟩)] w fun e w' => e = .returned (.int .i64 (endOf s.size i bad)) ∧ ∃ n, w' = w.drewN n := by
  have x0 := h.cell 0
  have x1 := h.cell 1
  have x2 := h.cell 2
  clear h
  cases bad
  · by_cases hi : i = s.size
    · have he : endOf s.size i false = 0 := by unfold endOf; rw [if_neg (by simp [hi])]
      rw [he]
      subst hi
      clear he
      have e1 : ((s.size : Int) != (s.size : Int)) = false := by simp
      go_enter Tryz.func57, Tryz.ntmps57
      go_wp2_with fail
      go_quiet (fail)
      go_wp2_with fail
      go_ret
      exact ⟨rfl, _, rfl⟩
    · have he : endOf s.size i false = 70 := by unfold endOf; rw [if_pos (.inr hi)]
      rw [he]
      have e1 : ((i : Int) != (s.size : Int)) = true := by rw [bne_iff_ne]; omega
      clear he hi
      go_enter Tryz.func57, Tryz.ntmps57
      go_wp2_with fail
      go_quiet (fail)
      go_wp2_with fail
      go_ret
      exact ⟨rfl, _, rfl⟩
  · have he : endOf s.size i true = 70 := by unfold endOf; rw [if_pos (.inl rfl)]
    rw [he]
    clear he
    go_enter Tryz.func57, Tryz.ntmps57
    go_wp2_with fail
    go_quiet (fail)
    go_wp2_with fail
    go_ret
    exact ⟨rfl, _, rfl⟩

theorem rRWrong_any (g : Nat) (s : ByteArray) (i : Nat) (bad : Bool) (w : World) (h : RdR w g s i bad) :
    Calls Tryz.prog 86 #[.pointer (some ⟨g, 0, none⟩)] w (RrPost g s (.tuple #[]) i true w) := by
  have x2 := h.cell 2
  have x3 := h.frozen 2
  have H := Lib.hid h
  clear h
  go_enter Tryz.func86, Tryz.ntmps86
  go_wp2_with fail
  go_end0
  exact ⟨rfl, H.out.set_ 2 _, (Only.refl (fun x => x = g) w).set (.inl rfl) _⟩

theorem rRNew_any (s : ByteArray) (w : World) :
    Calls Tryz.prog 52 #[.string s] w fun e w' => e = .returned (.pointer (some ⟨w.heap.size, 0, none⟩)) ∧ w.alloc (.cells #[.string s, .int .i64 0, .bool false] 118) = w' := by
  go_enter Tryz.func52, Tryz.ntmps52
  go_wp2_with fail
  go_ret
  exact ⟨rfl, rfl⟩
end Go.Proofs.YtckdecodpjfcnaaGreatDoor
