/-
  The document's May of a request, kind 0.
  Arguments of a statement opened: strings, slices of strings, of bytes, of ints: what they hold, in the words of Reads; and that each is within the form's reach.
  What the rows' list gives (the library's variable errors.errorType), a world for the witness, and bytes out of an argument.
  Layer 8: request.Same: the first fields.
  Layer 8: request.Same: fields 4 to 6.
  Layer 8: request.Same: fields 7 to 9.
  Layer 8: request.Same: all alike.
  The document's layer 8: its small functions; which requests may be, kind by kind, plainly.
-/
import Derived.Test.YtcockikekgmfkaaGreatDoorGrp01
import Derived.ProofKit
import Derived.OpenShut
import Derived.ShutString
import Derived.ChangeOld
import Derived.Below
import Derived.SizedLaws
import Derived.SliceStrings
import Derived.Test.YtcockikekgmfkaaGreatDoorCards
import Derived.Test.YtcockikekgmfkaaGreatDoorTie
import Derived.Test.YtcockikekgmfkaaGreatDoorGrp07
import Derived.LaidHandle
import Derived.LaidLaws
import Derived.Stop.Joined
import Derived.JoinedOf
import Derived.Deep.DeepHandedRow
import Derived.SevenTiedAt
import Derived.Test.YtcockikekgmfkaaGreatDoorGrp24
namespace Go.Proofs.YtcockikekgmfkaaGreatDoor
open Go.ChangeShapes Go.WideShapes Go.ChangeAt Go.RowKit

/-- Ints as cells. -/
def cellsI (k : IntKind) (l : List Int) : List Value := l.map (Value.int k)
theorem length_cellsI (k : IntKind) (l : List Int) : (cellsI k l).length = l.length := by simp [cellsI]
theorem getElem?_cellsI (k : IntKind) (l : List Int) (j : Nat) : (cellsI k l)[j]? = (l[j]?).map (Value.int k) := by simp [cellsI]

section
variable {H : Type} {enc : TypeId × Value → H} {P : Program} {W : World} {base : Nat}

theorem block_lt_of_cell {w : World} {a : Addr} {v : Value} (h : w.cell? a = some v) : a.block < w.heap.size := by
  rcases Nat.lt_or_ge a.block w.heap.size with hlt | hge
  · exact hlt
  · unfold World.cell? at h
    rw [Array.getElem?_eq_none hge] at h
    simp at h

theorem open_strs_arg {t e : TypeId} {v : Value} {d : DataW H} {p : List MemPlace} {r : Reach} (ht : P.underlying t = some (.slice e)) (he : P.underlying e = some .string) (hC : P.cellsOf e = 1) (hby : P.bytesOf e = 16)
    (hv : Value.okWide P W r base t v) (h : DataW.Trod enc P W 0 (fun _ => true) true t v d p) (hw : ∀ n ∈ d.weights P t, n ≤ reachBytes) :
    ∃ (A : Option Addr) (n c : Nat) (ss : List ByteArray), v = .slice A n c ∧ n ≤ c ∧ c * 16 ≤ 140737488351232 ∧ Reads W W.heap.size 1 A n (cellsS ss) ∧ ∀ s ∈ ss, s.size ≤ 140737488351232 := by
  obtain ⟨a0, len, cap, rfl⟩ := okWide_slice ht hv
  obtain ⟨fuel, hf⟩ := h
  rcases open_strings ht he hC hf with ⟨hcs, _⟩ | ⟨a, l, c, ss, hcs, _, hl, hm, hz, hx, hcell, hsz⟩
  · simp [Value.cells] at hcs
    obtain ⟨rfl, rfl, rfl⟩ := hcs
    exact ⟨none, 0, 0, [], rfl, Nat.le_refl _, by omega, Reads.none_, by simp⟩
  · simp [Value.cells] at hcs
    obtain ⟨rfl, rfl, rfl⟩ := hcs
    simp only [if_true] at hz
    simp only [Prod.mk.injEq] at hx
    obtain ⟨rfl, _⟩ := hx
    simp only [DataW.weights, ht, hby] at hw
    refine ⟨some a, len, cap, ss.take len, rfl, hl, ?_, ⟨by rw [length_cellsS, List.length_take]; omega, fun hn => ⟨a, rfl, ?_, fun j u hu => ?_⟩⟩, fun s hs => ?_⟩
    · have := hw _ (List.mem_cons_self ..)
      simp only [strs, List.length_map, List.length_take, List.length_drop, reachBytes] at this
      omega
    · have := block_lt_of_cell (hcell 0 (by omega))
      rwa [block_of_add] at this
    · rw [getElem?_cellsS, Option.map_eq_some_iff] at hu
      obtain ⟨s, hs, rfl⟩ := hu
      have hj : j < len := by
        have := (List.getElem?_eq_some_iff.1 hs).1
        simp at this; omega
      rw [List.getElem?_take_of_lt hj] at hs
      rw [hcell j (by omega)]
      simp [hs]
    · have hmem : s.data.toList.length ∈ DataW.weightsAll P e (strs (H := H) (ss.take len)) := by
        generalize ss.take len = l at hs
        induction l with
        | nil => cases hs
        | cons x xs ih =>
          simp only [strs, List.map_cons, DataW.weightsAll, DataW.weights, List.mem_append, List.mem_singleton]
          rcases List.mem_cons.1 hs with rfl | h'
          · exact .inl rfl
          · exact .inr (ih h')
      have := hw _ (List.mem_cons_of_mem _ (List.mem_append_left _ hmem))
      exact this

theorem open_ints_arg {t e : TypeId} {k : IntKind} {v : Value} {d : DataW H} {p : List MemPlace} {r : Reach} (bytes : Nat) (ht : P.underlying t = some (.slice e)) (he : P.underlying e = some (.int k)) (hC : P.cellsOf e = 1) (hby : P.bytesOf e = bytes)
    (hv : Value.okWide P W r base t v) (h : DataW.Trod enc P W 0 (fun _ => true) true t v d p) (hw : ∀ n ∈ d.weights P t, n ≤ reachBytes) :
    ∃ (A : Option Addr) (n c : Nat) (zs : List Int), v = .slice A n c ∧ n ≤ c ∧ c * bytes ≤ 140737488351232 ∧ Reads W W.heap.size 1 A n (cellsI k zs) ∧ ∀ z ∈ zs, (Lit.int k z).wf = true := by
  obtain ⟨a0, len, cap, rfl⟩ := okWide_slice ht hv
  obtain ⟨fuel, hf⟩ := h
  rcases open_ints ht he hC hf with ⟨hcs, _⟩ | ⟨a, l, c, zs, hcs, _, hl, hm, hz, hx, hcell, hwz⟩
  · simp [Value.cells] at hcs
    obtain ⟨rfl, rfl, rfl⟩ := hcs
    exact ⟨none, 0, 0, [], rfl, Nat.le_refl _, by omega, Reads.none_, by simp⟩
  · simp [Value.cells] at hcs
    obtain ⟨rfl, rfl, rfl⟩ := hcs
    simp only [if_true] at hz
    simp only [Prod.mk.injEq] at hx
    obtain ⟨rfl, _⟩ := hx
    simp only [DataW.weights, ht, hby] at hw
    refine ⟨some a, len, cap, zs.take len, rfl, hl, ?_, ⟨by rw [length_cellsI, List.length_take]; omega, fun hn => ⟨a, rfl, ?_, fun j u hu => ?_⟩⟩, fun z hs => hwz z (List.mem_of_mem_take hs)⟩
    · have := hw _ (List.mem_cons_self ..)
      simp only [lits, List.length_map, List.length_take, List.length_drop, reachBytes] at this
      have e1 : min len zs.length + (zs.length - len) = cap := by omega
      rw [e1] at this
      exact this
    · have := block_lt_of_cell (hcell 0 (by omega))
      rwa [block_of_add] at this
    · rw [getElem?_cellsI, Option.map_eq_some_iff] at hu
      obtain ⟨s, hs, rfl⟩ := hu
      have hj : j < len := by
        have := (List.getElem?_eq_some_iff.1 hs).1
        simp at this; omega
      rw [List.getElem?_take_of_lt hj] at hs
      rw [hcell j (by omega)]
      simp [hs]

theorem weights_of {ts : List TypeId} {ds : List (DataW H)} (h : (DataW.weightsEach P ts ds).all (· ≤ reachBytes) = true) {j : Nat} {t : TypeId} {d : DataW H} (ht : ts[j]? = some t) (hd : ds[j]? = some d) : ∀ n ∈ d.weights P t, n ≤ reachBytes := by
  intro n hn
  have := List.all_eq_true.1 h _ (DataW.weights_mem_each ht hd n hn)
  simpa using this
end
end Go.Proofs.YtcockikekgmfkaaGreatDoor
namespace Go.Proofs.YtcockikekgmfkaaGreatDoor
open Go.ChangeShapes Go.WideShapes Go.ChangeAt Go.RowKit

theorem own : ownKnob Tryz.prog.godebug = none := by kernel_rfl
theorem laidOut : laidOutB Tryz.prog = true := by kernel_rfl
theorem lay_et : Tryz.prog.globalNamed "errors.errorType" = some 0 := by kernel_rfl
theorem lay_rt : (Tryz.prog.cutTypes.find? (·.1 == "internal/reflectlite.rtype")).map (·.2) = some 108 := by kernel_rfl
theorem lay_row : ((List.range 177).filter fun t => Tryz.prog.rowNamed t [101, 114, 114, 111, 114]) = [43] := by kernel_rfl
theorem lay_size : Tryz.prog.types.size = 177 := by kernel_rfl

def theLaid {H : Type} : List (String × DataW H) := [("errors.errorType", Rows.laid_errors_errorType)]

theorem hasErr_of_laid {W : World} (h : laidMetH Tryz.prog theLaid W) : HasET W := by
  have h' : laidMet Tryz.prog [] W ∧ handlesMet Tryz.prog theLaid W := h
  obtain ⟨name, u, ty, e1, e2, e3, e4, e5⟩ := h'.2 _ (List.mem_singleton.2 rfl)
  have en : name = [101, 114, 114, 111, 114] := (Option.some.inj e1).symm
  subst en
  obtain rfl := Option.some.inj (lay_rt.symm.trans e2)
  have hm : ty ∈ (List.range 177).filter fun t => Tryz.prog.rowNamed t [101, 114, 114, 111, 114] := List.mem_filter.2 ⟨List.mem_range.2 (by rw [← lay_size]; exact e3), e4⟩
  rw [lay_row] at hm
  obtain rfl := List.mem_singleton.1 hm
  have hh : typeHandle Tryz.prog 43 = .pointer (some ⟨1, 43, none⟩) := by kernel_rfl
  rw [hh] at e5
  unfold HasET
  simpa using World.var?_cell lay_et e5 0

/-- A world that meets the condition: the settled one, the variable's cell laid. -/
noncomputable def laidWorld (os : Os) : World :=
  { World.holding Tryz.prog os ⟨#[], #[], []⟩ with heap := (World.holding Tryz.prog os ⟨#[], #[], []⟩).heap.modify 0 fun
      | .cells _ t frozen => .cells #[.iface 108 (.agg #[.pointer (some ⟨1, 43, none⟩)])] t frozen
      | o => o }

/-- Bytes out of ints that fit. -/
theorem bytes_of_ints {w : World} {B n : Nat} {A : Option Addr} {zs : List Int} (h : Reads w B 1 A n (cellsI .u8 zs)) (hz : ∀ z ∈ zs, (Lit.int .u8 z).wf = true) :
    ∃ l : List UInt8, n = l.length ∧ Reads w B 1 A n (cellsB l) := by
  have e : cellsI .u8 zs = cellsB (zs.map fun z => UInt8.ofNat z.toNat) := by
    unfold cellsI cellsB
    rw [List.map_map]
    refine List.map_congr_left fun z h' => ?_
    have hw := hz z h'
    have h0 : (0 : Int) ≤ z ∧ z ≤ 255 := by
      simp only [Lit.wf, Bool.and_eq_true, decide_eq_true_eq] at hw
      exact ⟨hw.1, hw.2⟩
    simp only [Function.comp]
    congr 1
    rw [UInt8.toNat_ofNat']
    omega
  refine ⟨_, ?_, e ▸ h⟩
  have := h.1
  rw [length_cellsI] at this
  rw [List.length_map]
  omega
end Go.Proofs.YtcockikekgmfkaaGreatDoor
namespace Go.Proofs.YtcockikekgmfkaaGreatDoor
open Go.RowKit

set_option maxRecDepth 100000 in
set_option maxHeartbeats 1000000 in
theorem rrSame_0 (a b : Rq) (A1 A2 : Option Addr) (c1 c2 : Nat) (w : World)  (h0 : ¬ a.kd = b.kd) :
    Calls Tryz.prog 12 #[(.agg #[.int .i8 a.kd, .int .i64 a.tid, .int .i64 a.tm, .int .i64 a.pid, .int .i64 a.ep, .int .i64 a.part, .int .i64 a.grp, .int .i64 a.off, .int .i64 a.most, .bool a.yes, .int .i64 a.b.pid, .int .i64 a.b.ep, .int .i64 a.b.seq, .bool a.b.txn, .slice A1 a.b.rs.length c1]), (.agg #[.int .i8 b.kd, .int .i64 b.tid, .int .i64 b.tm, .int .i64 b.pid, .int .i64 b.ep, .int .i64 b.part, .int .i64 b.grp, .int .i64 b.off, .int .i64 b.most, .bool b.yes, .int .i64 b.b.pid, .int .i64 b.b.ep, .int .i64 b.b.seq, .bool b.b.txn, .slice A2 b.b.rs.length c2])] w fun e w' => e = .returned (.bool (sameRq a b)) ∧ Below w.heap.size w w' := by
  have hfin : sameRq a b = false := by
    rw [← Bool.not_eq_true, sameRq_iff]; rintro rfl; exact h0 rfl
  have HF := Lib.hid hfin
  have d0 : (a.kd == b.kd) = false := eqb_false h0
  have HB := Lib.hid (fun x y => bal (bal (Below.refl w.heap.size w) x) y)
  clear hfin h0
  go_enter Tryz.func12, Tryz.ntmps12
  go_wp2_with fail
  go_ret
  exact ⟨ret_bool HF.out.symm, HB.out _ _⟩
set_option maxRecDepth 100000 in
set_option maxHeartbeats 1000000 in
theorem rrSame_1 (a b : Rq) (A1 A2 : Option Addr) (c1 c2 : Nat) (w : World) (h0 : a.kd = b.kd) (h1 : ¬ a.tid = b.tid) :
    Calls Tryz.prog 12 #[(.agg #[.int .i8 a.kd, .int .i64 a.tid, .int .i64 a.tm, .int .i64 a.pid, .int .i64 a.ep, .int .i64 a.part, .int .i64 a.grp, .int .i64 a.off, .int .i64 a.most, .bool a.yes, .int .i64 a.b.pid, .int .i64 a.b.ep, .int .i64 a.b.seq, .bool a.b.txn, .slice A1 a.b.rs.length c1]), (.agg #[.int .i8 b.kd, .int .i64 b.tid, .int .i64 b.tm, .int .i64 b.pid, .int .i64 b.ep, .int .i64 b.part, .int .i64 b.grp, .int .i64 b.off, .int .i64 b.most, .bool b.yes, .int .i64 b.b.pid, .int .i64 b.b.ep, .int .i64 b.b.seq, .bool b.b.txn, .slice A2 b.b.rs.length c2])] w fun e w' => e = .returned (.bool (sameRq a b)) ∧ Below w.heap.size w w' := by
  have hfin : sameRq a b = false := by
    rw [← Bool.not_eq_true, sameRq_iff]; rintro rfl; exact h1 rfl
  have HF := Lib.hid hfin
  have d0 : (a.kd == b.kd) = true := eqb_true h0
  have d1 : (a.tid == b.tid) = false := eqb_false h1
  have HB := Lib.hid (fun x y => bal (bal (Below.refl w.heap.size w) x) y)
  clear hfin h0 h1
  go_enter Tryz.func12, Tryz.ntmps12
  go_wp2_with fail
  go_ret
  exact ⟨ret_bool HF.out.symm, HB.out _ _⟩
set_option maxRecDepth 100000 in
set_option maxHeartbeats 1000000 in
theorem rrSame_2 (a b : Rq) (A1 A2 : Option Addr) (c1 c2 : Nat) (w : World) (h0 : a.kd = b.kd) (h1 : a.tid = b.tid) (h2 : ¬ a.tm = b.tm) :
    Calls Tryz.prog 12 #[(.agg #[.int .i8 a.kd, .int .i64 a.tid, .int .i64 a.tm, .int .i64 a.pid, .int .i64 a.ep, .int .i64 a.part, .int .i64 a.grp, .int .i64 a.off, .int .i64 a.most, .bool a.yes, .int .i64 a.b.pid, .int .i64 a.b.ep, .int .i64 a.b.seq, .bool a.b.txn, .slice A1 a.b.rs.length c1]), (.agg #[.int .i8 b.kd, .int .i64 b.tid, .int .i64 b.tm, .int .i64 b.pid, .int .i64 b.ep, .int .i64 b.part, .int .i64 b.grp, .int .i64 b.off, .int .i64 b.most, .bool b.yes, .int .i64 b.b.pid, .int .i64 b.b.ep, .int .i64 b.b.seq, .bool b.b.txn, .slice A2 b.b.rs.length c2])] w fun e w' => e = .returned (.bool (sameRq a b)) ∧ Below w.heap.size w w' := by
  have hfin : sameRq a b = false := by
    rw [← Bool.not_eq_true, sameRq_iff]; rintro rfl; exact h2 rfl
  have HF := Lib.hid hfin
  have d0 : (a.kd == b.kd) = true := eqb_true h0
  have d1 : (a.tid == b.tid) = true := eqb_true h1
  have d2 : (a.tm == b.tm) = false := eqb_false h2
  have HB := Lib.hid (fun x y => bal (bal (Below.refl w.heap.size w) x) y)
  clear hfin h0 h1 h2
  go_enter Tryz.func12, Tryz.ntmps12
  go_wp2_with fail
  go_ret
  exact ⟨ret_bool HF.out.symm, HB.out _ _⟩
set_option maxRecDepth 100000 in
set_option maxHeartbeats 1000000 in
theorem rrSame_3 (a b : Rq) (A1 A2 : Option Addr) (c1 c2 : Nat) (w : World) (h0 : a.kd = b.kd) (h1 : a.tid = b.tid) (h2 : a.tm = b.tm) (h3 : ¬ a.pid = b.pid) :
    Calls Tryz.prog 12 #[(.agg #[.int .i8 a.kd, .int .i64 a.tid, .int .i64 a.tm, .int .i64 a.pid, .int .i64 a.ep, .int .i64 a.part, .int .i64 a.grp, .int .i64 a.off, .int .i64 a.most, .bool a.yes, .int .i64 a.b.pid, .int .i64 a.b.ep, .int .i64 a.b.seq, .bool a.b.txn, .slice A1 a.b.rs.length c1]), (.agg #[.int .i8 b.kd, .int .i64 b.tid, .int .i64 b.tm, .int .i64 b.pid, .int .i64 b.ep, .int .i64 b.part, .int .i64 b.grp, .int .i64 b.off, .int .i64 b.most, .bool b.yes, .int .i64 b.b.pid, .int .i64 b.b.ep, .int .i64 b.b.seq, .bool b.b.txn, .slice A2 b.b.rs.length c2])] w fun e w' => e = .returned (.bool (sameRq a b)) ∧ Below w.heap.size w w' := by
  have hfin : sameRq a b = false := by
    rw [← Bool.not_eq_true, sameRq_iff]; rintro rfl; exact h3 rfl
  have HF := Lib.hid hfin
  have d0 : (a.kd == b.kd) = true := eqb_true h0
  have d1 : (a.tid == b.tid) = true := eqb_true h1
  have d2 : (a.tm == b.tm) = true := eqb_true h2
  have d3 : (a.pid == b.pid) = false := eqb_false h3
  have HB := Lib.hid (fun x y => bal (bal (Below.refl w.heap.size w) x) y)
  clear hfin h0 h1 h2 h3
  go_enter Tryz.func12, Tryz.ntmps12
  go_wp2_with fail
  go_ret
  exact ⟨ret_bool HF.out.symm, HB.out _ _⟩
end Go.Proofs.YtcockikekgmfkaaGreatDoor
namespace Go.Proofs.YtcockikekgmfkaaGreatDoor
open Go.RowKit

set_option maxRecDepth 100000 in
set_option maxHeartbeats 1000000 in
theorem rrSame_4 (a b : Rq) (A1 A2 : Option Addr) (c1 c2 : Nat) (w : World) (h0 : a.kd = b.kd) (h1 : a.tid = b.tid) (h2 : a.tm = b.tm) (h3 : a.pid = b.pid) (h4 : ¬ a.ep = b.ep) :
    Calls Tryz.prog 12 #[(.agg #[.int .i8 a.kd, .int .i64 a.tid, .int .i64 a.tm, .int .i64 a.pid, .int .i64 a.ep, .int .i64 a.part, .int .i64 a.grp, .int .i64 a.off, .int .i64 a.most, .bool a.yes, .int .i64 a.b.pid, .int .i64 a.b.ep, .int .i64 a.b.seq, .bool a.b.txn, .slice A1 a.b.rs.length c1]), (.agg #[.int .i8 b.kd, .int .i64 b.tid, .int .i64 b.tm, .int .i64 b.pid, .int .i64 b.ep, .int .i64 b.part, .int .i64 b.grp, .int .i64 b.off, .int .i64 b.most, .bool b.yes, .int .i64 b.b.pid, .int .i64 b.b.ep, .int .i64 b.b.seq, .bool b.b.txn, .slice A2 b.b.rs.length c2])] w fun e w' => e = .returned (.bool (sameRq a b)) ∧ Below w.heap.size w w' := by
  have hfin : sameRq a b = false := by
    rw [← Bool.not_eq_true, sameRq_iff]; rintro rfl; exact h4 rfl
  have HF := Lib.hid hfin
  have d0 : (a.kd == b.kd) = true := eqb_true h0
  have d1 : (a.tid == b.tid) = true := eqb_true h1
  have d2 : (a.tm == b.tm) = true := eqb_true h2
  have d3 : (a.pid == b.pid) = true := eqb_true h3
  have d4 : (a.ep == b.ep) = false := eqb_false h4
  have HB := Lib.hid (fun x y => bal (bal (Below.refl w.heap.size w) x) y)
  clear hfin h0 h1 h2 h3 h4
  go_enter Tryz.func12, Tryz.ntmps12
  go_wp2_with fail
  go_ret
  exact ⟨ret_bool HF.out.symm, HB.out _ _⟩
set_option maxRecDepth 100000 in
set_option maxHeartbeats 1000000 in
theorem rrSame_5 (a b : Rq) (A1 A2 : Option Addr) (c1 c2 : Nat) (w : World) (h0 : a.kd = b.kd) (h1 : a.tid = b.tid) (h2 : a.tm = b.tm) (h3 : a.pid = b.pid) (h4 : a.ep = b.ep) (h5 : ¬ a.part = b.part) :
    Calls Tryz.prog 12 #[(.agg #[.int .i8 a.kd, .int .i64 a.tid, .int .i64 a.tm, .int .i64 a.pid, .int .i64 a.ep, .int .i64 a.part, .int .i64 a.grp, .int .i64 a.off, .int .i64 a.most, .bool a.yes, .int .i64 a.b.pid, .int .i64 a.b.ep, .int .i64 a.b.seq, .bool a.b.txn, .slice A1 a.b.rs.length c1]), (.agg #[.int .i8 b.kd, .int .i64 b.tid, .int .i64 b.tm, .int .i64 b.pid, .int .i64 b.ep, .int .i64 b.part, .int .i64 b.grp, .int .i64 b.off, .int .i64 b.most, .bool b.yes, .int .i64 b.b.pid, .int .i64 b.b.ep, .int .i64 b.b.seq, .bool b.b.txn, .slice A2 b.b.rs.length c2])] w fun e w' => e = .returned (.bool (sameRq a b)) ∧ Below w.heap.size w w' := by
  have hfin : sameRq a b = false := by
    rw [← Bool.not_eq_true, sameRq_iff]; rintro rfl; exact h5 rfl
  have HF := Lib.hid hfin
  have d0 : (a.kd == b.kd) = true := eqb_true h0
  have d1 : (a.tid == b.tid) = true := eqb_true h1
  have d2 : (a.tm == b.tm) = true := eqb_true h2
  have d3 : (a.pid == b.pid) = true := eqb_true h3
  have d4 : (a.ep == b.ep) = true := eqb_true h4
  have d5 : (a.part == b.part) = false := eqb_false h5
  have HB := Lib.hid (fun x y => bal (bal (Below.refl w.heap.size w) x) y)
  clear hfin h0 h1 h2 h3 h4 h5
  go_enter Tryz.func12, Tryz.ntmps12
  go_wp2_with fail
  go_ret
  exact ⟨ret_bool HF.out.symm, HB.out _ _⟩
set_option maxRecDepth 100000 in
set_option maxHeartbeats 1000000 in
theorem rrSame_6 (a b : Rq) (A1 A2 : Option Addr) (c1 c2 : Nat) (w : World) (h0 : a.kd = b.kd) (h1 : a.tid = b.tid) (h2 : a.tm = b.tm) (h3 : a.pid = b.pid) (h4 : a.ep = b.ep) (h5 : a.part = b.part) (h6 : ¬ a.grp = b.grp) :
    Calls Tryz.prog 12 #[(.agg #[.int .i8 a.kd, .int .i64 a.tid, .int .i64 a.tm, .int .i64 a.pid, .int .i64 a.ep, .int .i64 a.part, .int .i64 a.grp, .int .i64 a.off, .int .i64 a.most, .bool a.yes, .int .i64 a.b.pid, .int .i64 a.b.ep, .int .i64 a.b.seq, .bool a.b.txn, .slice A1 a.b.rs.length c1]), (.agg #[.int .i8 b.kd, .int .i64 b.tid, .int .i64 b.tm, .int .i64 b.pid, .int .i64 b.ep, .int .i64 b.part, .int .i64 b.grp, .int .i64 b.off, .int .i64 b.most, .bool b.yes, .int .i64 b.b.pid, .int .i64 b.b.ep, .int .i64 b.b.seq, .bool b.b.txn, .slice A2 b.b.rs.length c2])] w fun e w' => e = .returned (.bool (sameRq a b)) ∧ Below w.heap.size w w' := by
  have hfin : sameRq a b = false := by
    rw [← Bool.not_eq_true, sameRq_iff]; rintro rfl; exact h6 rfl
  have HF := Lib.hid hfin
  have d0 : (a.kd == b.kd) = true := eqb_true h0
  have d1 : (a.tid == b.tid) = true := eqb_true h1
  have d2 : (a.tm == b.tm) = true := eqb_true h2
  have d3 : (a.pid == b.pid) = true := eqb_true h3
  have d4 : (a.ep == b.ep) = true := eqb_true h4
  have d5 : (a.part == b.part) = true := eqb_true h5
  have d6 : (a.grp == b.grp) = false := eqb_false h6
  have HB := Lib.hid (fun x y => bal (bal (Below.refl w.heap.size w) x) y)
  clear hfin h0 h1 h2 h3 h4 h5 h6
  go_enter Tryz.func12, Tryz.ntmps12
  go_wp2_with fail
  go_ret
  exact ⟨ret_bool HF.out.symm, HB.out _ _⟩
end Go.Proofs.YtcockikekgmfkaaGreatDoor
namespace Go.Proofs.YtcockikekgmfkaaGreatDoor
open Go.RowKit

set_option maxRecDepth 100000 in
set_option maxHeartbeats 1000000 in
theorem rrSame_7 (a b : Rq) (A1 A2 : Option Addr) (c1 c2 : Nat) (w : World) (h0 : a.kd = b.kd) (h1 : a.tid = b.tid) (h2 : a.tm = b.tm) (h3 : a.pid = b.pid) (h4 : a.ep = b.ep) (h5 : a.part = b.part) (h6 : a.grp = b.grp) (h7 : ¬ a.off = b.off) :
    Calls Tryz.prog 12 #[(.agg #[.int .i8 a.kd, .int .i64 a.tid, .int .i64 a.tm, .int .i64 a.pid, .int .i64 a.ep, .int .i64 a.part, .int .i64 a.grp, .int .i64 a.off, .int .i64 a.most, .bool a.yes, .int .i64 a.b.pid, .int .i64 a.b.ep, .int .i64 a.b.seq, .bool a.b.txn, .slice A1 a.b.rs.length c1]), (.agg #[.int .i8 b.kd, .int .i64 b.tid, .int .i64 b.tm, .int .i64 b.pid, .int .i64 b.ep, .int .i64 b.part, .int .i64 b.grp, .int .i64 b.off, .int .i64 b.most, .bool b.yes, .int .i64 b.b.pid, .int .i64 b.b.ep, .int .i64 b.b.seq, .bool b.b.txn, .slice A2 b.b.rs.length c2])] w fun e w' => e = .returned (.bool (sameRq a b)) ∧ Below w.heap.size w w' := by
  have hfin : sameRq a b = false := by
    rw [← Bool.not_eq_true, sameRq_iff]; rintro rfl; exact h7 rfl
  have HF := Lib.hid hfin
  have d0 : (a.kd == b.kd) = true := eqb_true h0
  have d1 : (a.tid == b.tid) = true := eqb_true h1
  have d2 : (a.tm == b.tm) = true := eqb_true h2
  have d3 : (a.pid == b.pid) = true := eqb_true h3
  have d4 : (a.ep == b.ep) = true := eqb_true h4
  have d5 : (a.part == b.part) = true := eqb_true h5
  have d6 : (a.grp == b.grp) = true := eqb_true h6
  have d7 : (a.off == b.off) = false := eqb_false h7
  have HB := Lib.hid (fun x y => bal (bal (Below.refl w.heap.size w) x) y)
  clear hfin h0 h1 h2 h3 h4 h5 h6 h7
  go_enter Tryz.func12, Tryz.ntmps12
  go_wp2_with fail
  go_ret
  exact ⟨ret_bool HF.out.symm, HB.out _ _⟩
set_option maxRecDepth 100000 in
set_option maxHeartbeats 1000000 in
theorem rrSame_8 (a b : Rq) (A1 A2 : Option Addr) (c1 c2 : Nat) (w : World) (h0 : a.kd = b.kd) (h1 : a.tid = b.tid) (h2 : a.tm = b.tm) (h3 : a.pid = b.pid) (h4 : a.ep = b.ep) (h5 : a.part = b.part) (h6 : a.grp = b.grp) (h7 : a.off = b.off) (h8 : ¬ a.most = b.most) :
    Calls Tryz.prog 12 #[(.agg #[.int .i8 a.kd, .int .i64 a.tid, .int .i64 a.tm, .int .i64 a.pid, .int .i64 a.ep, .int .i64 a.part, .int .i64 a.grp, .int .i64 a.off, .int .i64 a.most, .bool a.yes, .int .i64 a.b.pid, .int .i64 a.b.ep, .int .i64 a.b.seq, .bool a.b.txn, .slice A1 a.b.rs.length c1]), (.agg #[.int .i8 b.kd, .int .i64 b.tid, .int .i64 b.tm, .int .i64 b.pid, .int .i64 b.ep, .int .i64 b.part, .int .i64 b.grp, .int .i64 b.off, .int .i64 b.most, .bool b.yes, .int .i64 b.b.pid, .int .i64 b.b.ep, .int .i64 b.b.seq, .bool b.b.txn, .slice A2 b.b.rs.length c2])] w fun e w' => e = .returned (.bool (sameRq a b)) ∧ Below w.heap.size w w' := by
  have hfin : sameRq a b = false := by
    rw [← Bool.not_eq_true, sameRq_iff]; rintro rfl; exact h8 rfl
  have HF := Lib.hid hfin
  have d0 : (a.kd == b.kd) = true := eqb_true h0
  have d1 : (a.tid == b.tid) = true := eqb_true h1
  have d2 : (a.tm == b.tm) = true := eqb_true h2
  have d3 : (a.pid == b.pid) = true := eqb_true h3
  have d4 : (a.ep == b.ep) = true := eqb_true h4
  have d5 : (a.part == b.part) = true := eqb_true h5
  have d6 : (a.grp == b.grp) = true := eqb_true h6
  have d7 : (a.off == b.off) = true := eqb_true h7
  have d8 : (a.most == b.most) = false := eqb_false h8
  have HB := Lib.hid (fun x y => bal (bal (Below.refl w.heap.size w) x) y)
  clear hfin h0 h1 h2 h3 h4 h5 h6 h7 h8
  go_enter Tryz.func12, Tryz.ntmps12
  go_wp2_with fail
  go_ret
  exact ⟨ret_bool HF.out.symm, HB.out _ _⟩
set_option maxRecDepth 100000 in
set_option maxHeartbeats 1000000 in
theorem rrSame_9 (a b : Rq) (A1 A2 : Option Addr) (c1 c2 : Nat) (w : World) (h0 : a.kd = b.kd) (h1 : a.tid = b.tid) (h2 : a.tm = b.tm) (h3 : a.pid = b.pid) (h4 : a.ep = b.ep) (h5 : a.part = b.part) (h6 : a.grp = b.grp) (h7 : a.off = b.off) (h8 : a.most = b.most) (h9 : ¬ a.yes = b.yes) :
    Calls Tryz.prog 12 #[(.agg #[.int .i8 a.kd, .int .i64 a.tid, .int .i64 a.tm, .int .i64 a.pid, .int .i64 a.ep, .int .i64 a.part, .int .i64 a.grp, .int .i64 a.off, .int .i64 a.most, .bool a.yes, .int .i64 a.b.pid, .int .i64 a.b.ep, .int .i64 a.b.seq, .bool a.b.txn, .slice A1 a.b.rs.length c1]), (.agg #[.int .i8 b.kd, .int .i64 b.tid, .int .i64 b.tm, .int .i64 b.pid, .int .i64 b.ep, .int .i64 b.part, .int .i64 b.grp, .int .i64 b.off, .int .i64 b.most, .bool b.yes, .int .i64 b.b.pid, .int .i64 b.b.ep, .int .i64 b.b.seq, .bool b.b.txn, .slice A2 b.b.rs.length c2])] w fun e w' => e = .returned (.bool (sameRq a b)) ∧ Below w.heap.size w w' := by
  have hfin : sameRq a b = false := by
    rw [← Bool.not_eq_true, sameRq_iff]; rintro rfl; exact h9 rfl
  have HF := Lib.hid hfin
  have d0 : (a.kd == b.kd) = true := eqb_true h0
  have d1 : (a.tid == b.tid) = true := eqb_true h1
  have d2 : (a.tm == b.tm) = true := eqb_true h2
  have d3 : (a.pid == b.pid) = true := eqb_true h3
  have d4 : (a.ep == b.ep) = true := eqb_true h4
  have d5 : (a.part == b.part) = true := eqb_true h5
  have d6 : (a.grp == b.grp) = true := eqb_true h6
  have d7 : (a.off == b.off) = true := eqb_true h7
  have d8 : (a.most == b.most) = true := eqb_true h8
  have d9 : (a.yes == b.yes) = false := beq_eq_false_iff_ne.2 h9
  have HB := Lib.hid (fun x y => bal (bal (Below.refl w.heap.size w) x) y)
  clear hfin h0 h1 h2 h3 h4 h5 h6 h7 h8 h9
  go_enter Tryz.func12, Tryz.ntmps12
  go_wp2_with fail
  go_ret
  exact ⟨ret_bool HF.out.symm, HB.out _ _⟩
end Go.Proofs.YtcockikekgmfkaaGreatDoor
namespace Go.Proofs.YtcockikekgmfkaaGreatDoor
open Go.RowKit

set_option maxRecDepth 100000 in
set_option maxHeartbeats 2000000 in
theorem rrSame_eq (a b : Rq) (A1 A2 : Option Addr) (c1 c2 : Nat) (w : World) (r1 : Reads w w.heap.size 2 A1 a.b.rs.length (cellsR a.b.rs)) (r2 : Reads w w.heap.size 2 A2 b.b.rs.length (cellsR b.b.rs)) (hl : a.b.rs.length ≤ 1000000) (h0 : a.kd = b.kd) (h1 : a.tid = b.tid) (h2 : a.tm = b.tm) (h3 : a.pid = b.pid) (h4 : a.ep = b.ep) (h5 : a.part = b.part) (h6 : a.grp = b.grp) (h7 : a.off = b.off) (h8 : a.most = b.most) (h9 : a.yes = b.yes) :
    Calls Tryz.prog 12 #[(.agg #[.int .i8 a.kd, .int .i64 a.tid, .int .i64 a.tm, .int .i64 a.pid, .int .i64 a.ep, .int .i64 a.part, .int .i64 a.grp, .int .i64 a.off, .int .i64 a.most, .bool a.yes, .int .i64 a.b.pid, .int .i64 a.b.ep, .int .i64 a.b.seq, .bool a.b.txn, .slice A1 a.b.rs.length c1]), (.agg #[.int .i8 b.kd, .int .i64 b.tid, .int .i64 b.tm, .int .i64 b.pid, .int .i64 b.ep, .int .i64 b.part, .int .i64 b.grp, .int .i64 b.off, .int .i64 b.most, .bool b.yes, .int .i64 b.b.pid, .int .i64 b.b.ep, .int .i64 b.b.seq, .bool b.b.txn, .slice A2 b.b.rs.length c2])] w fun e w' => e = .returned (.bool (sameRq a b)) ∧ Below w.heap.size w w' := by
  have hfin : sameRq a b = sameBt a.b b.b := by
    unfold sameRq
    rw [h0, h1, h2, h3, h4, h5, h6, h7, h8, h9]
    simp
  have HF := Lib.hid hfin
  have d0 : (a.kd == b.kd) = true := eqb_true h0
  have d1 : (a.tid == b.tid) = true := eqb_true h1
  have d2 : (a.tm == b.tm) = true := eqb_true h2
  have d3 : (a.pid == b.pid) = true := eqb_true h3
  have d4 : (a.ep == b.ep) = true := eqb_true h4
  have d5 : (a.part == b.part) = true := eqb_true h5
  have d6 : (a.grp == b.grp) = true := eqb_true h6
  have d7 : (a.off == b.off) = true := eqb_true h7
  have d8 : (a.most == b.most) = true := eqb_true h8
  have d9 : (a.yes == b.yes) = true := beq_iff_eq.2 h9
  have HB := Lib.hid (bal (bal (Below.refl w.heap.size w) (.cells #[.int .i8 a.kd, .int .i64 a.tid, .int .i64 a.tm, .int .i64 a.pid, .int .i64 a.ep, .int .i64 a.part, .int .i64 a.grp, .int .i64 a.off, .int .i64 a.most, .bool a.yes, .int .i64 a.b.pid, .int .i64 a.b.ep, .int .i64 a.b.seq, .bool a.b.txn, .slice A1 a.b.rs.length c1] 27)) (.cells #[.int .i8 b.kd, .int .i64 b.tid, .int .i64 b.tm, .int .i64 b.pid, .int .i64 b.ep, .int .i64 b.part, .int .i64 b.grp, .int .i64 b.off, .int .i64 b.most, .bool b.yes, .int .i64 b.b.pid, .int .i64 b.b.ep, .int .i64 b.b.seq, .bool b.b.txn, .slice A2 b.b.rs.length c2] 27))
  have S1 := Lib.hid (rRcSame_any a.b b.b A1 A2 c1 c2 ((w.alloc (.cells #[.int .i8 a.kd, .int .i64 a.tid, .int .i64 a.tm, .int .i64 a.pid, .int .i64 a.ep, .int .i64 a.part, .int .i64 a.grp, .int .i64 a.off, .int .i64 a.most, .bool a.yes, .int .i64 a.b.pid, .int .i64 a.b.ep, .int .i64 a.b.seq, .bool a.b.txn, .slice A1 a.b.rs.length c1] 27)).alloc (.cells #[.int .i8 b.kd, .int .i64 b.tid, .int .i64 b.tm, .int .i64 b.pid, .int .i64 b.ep, .int .i64 b.part, .int .i64 b.grp, .int .i64 b.off, .int .i64 b.most, .bool b.yes, .int .i64 b.b.pid, .int .i64 b.b.ep, .int .i64 b.b.seq, .bool b.b.txn, .slice A2 b.b.rs.length c2] 27)) (((r1.alloc (Nat.le_refl _) _).alloc (by simp) _).more (by simp; omega)) (((r2.alloc (Nat.le_refl _) _).alloc (by simp) _).more (by simp; omega)) hl)
  clear hfin r1 r2 h0 h1 h2 h3 h4 h5 h6 h7 h8 h9
  go_enter Tryz.func12, Tryz.ntmps12
  go_wp2_with fail
  refine S1.out.mono ?_
  rintro e w1 ⟨rfl, b1⟩
  have B1 := Lib.hid (btrans HB.out b1)
  clear b1
  go_wp2_with fail
  go_ret
  exact ⟨ret_bool HF.out.symm, B1.out⟩
theorem rrSame_any (a b : Rq) (A1 A2 : Option Addr) (c1 c2 : Nat) (w : World) (r1 : Reads w w.heap.size 2 A1 a.b.rs.length (cellsR a.b.rs)) (r2 : Reads w w.heap.size 2 A2 b.b.rs.length (cellsR b.b.rs)) (hl : a.b.rs.length ≤ 1000000) :
    Calls Tryz.prog 12 #[(.agg #[.int .i8 a.kd, .int .i64 a.tid, .int .i64 a.tm, .int .i64 a.pid, .int .i64 a.ep, .int .i64 a.part, .int .i64 a.grp, .int .i64 a.off, .int .i64 a.most, .bool a.yes, .int .i64 a.b.pid, .int .i64 a.b.ep, .int .i64 a.b.seq, .bool a.b.txn, .slice A1 a.b.rs.length c1]), (.agg #[.int .i8 b.kd, .int .i64 b.tid, .int .i64 b.tm, .int .i64 b.pid, .int .i64 b.ep, .int .i64 b.part, .int .i64 b.grp, .int .i64 b.off, .int .i64 b.most, .bool b.yes, .int .i64 b.b.pid, .int .i64 b.b.ep, .int .i64 b.b.seq, .bool b.b.txn, .slice A2 b.b.rs.length c2])] w fun e w' => e = .returned (.bool (sameRq a b)) ∧ Below w.heap.size w w' := by
  by_cases h0 : a.kd = b.kd
  case neg => exact rrSame_0 a b A1 A2 c1 c2 w h0
  by_cases h1 : a.tid = b.tid
  case neg => exact rrSame_1 a b A1 A2 c1 c2 w h0 h1
  by_cases h2 : a.tm = b.tm
  case neg => exact rrSame_2 a b A1 A2 c1 c2 w h0 h1 h2
  by_cases h3 : a.pid = b.pid
  case neg => exact rrSame_3 a b A1 A2 c1 c2 w h0 h1 h2 h3
  by_cases h4 : a.ep = b.ep
  case neg => exact rrSame_4 a b A1 A2 c1 c2 w h0 h1 h2 h3 h4
  by_cases h5 : a.part = b.part
  case neg => exact rrSame_5 a b A1 A2 c1 c2 w h0 h1 h2 h3 h4 h5
  by_cases h6 : a.grp = b.grp
  case neg => exact rrSame_6 a b A1 A2 c1 c2 w h0 h1 h2 h3 h4 h5 h6
  by_cases h7 : a.off = b.off
  case neg => exact rrSame_7 a b A1 A2 c1 c2 w h0 h1 h2 h3 h4 h5 h6 h7
  by_cases h8 : a.most = b.most
  case neg => exact rrSame_8 a b A1 A2 c1 c2 w h0 h1 h2 h3 h4 h5 h6 h7 h8
  by_cases h9 : a.yes = b.yes
  case neg => exact rrSame_9 a b A1 A2 c1 c2 w h0 h1 h2 h3 h4 h5 h6 h7 h8 h9
  exact rrSame_eq a b A1 A2 c1 c2 w r1 r2 hl h0 h1 h2 h3 h4 h5 h6 h7 h8 h9
end Go.Proofs.YtcockikekgmfkaaGreatDoor
namespace Go.Proofs.YtcockikekgmfkaaGreatDoor
open Go.RowKit

def inQ (n a b : Int) : Bool := decide (a ≤ n ∧ n ≤ b)
set_option maxHeartbeats 400000 in
theorem in8_any (n a b : Int) (w : World) : Calls Tryz.prog 23 #[.int .i64 n, .int .i64 a, .int .i64 b] w fun e w' => e = .returned (.bool (inQ n a b)) ∧ w = w' := by
  go_enter Tryz.func23, Tryz.ntmps23
  go_wp2
  all_goals (go_ret; exact ⟨ret_bool (by unfold inQ; rw [Bool.eq_iff_iff]; simp; try omega), rfl⟩)

theorem cI_iff (lo hi : Nat) (x : Int) (h : hi ≤ maxNum) : (cI lo hi).v x ↔ inQ x lo hi = true := by
  unfold inQ
  rw [decide_eq_true_eq]
  show (0 ≤ x ∧ (lo ≤ x.toNat ∧ x.toNat ≤ hi ∧ x.toNat ≤ maxNum)) ↔ _
  constructor
  · rintro ⟨h0, h1, h2, _⟩; omega
  · rintro ⟨h1, h2⟩; refine ⟨by omega, by omega, by omega, by omega⟩
/-- What a request of its kind keeps. -/
def ownRq (q : Rq) : Rq := Rq.of q.kd fun f => if f ∈ flOf q.kd then q.get f else zeroF f
theorem may_own (q : Rq) : mayRq q ↔ (0 ≤ q.kd ∧ q.kd ≤ 9) ∧ (∀ f ∈ flOf q.kd, (cF f).v (q.get f)) ∧ ownRq q = q := by
  unfold mayRq
  refine and_congr Iff.rfl (and_congr Iff.rfl ?_)
  constructor
  · intro h
    have : (fun f => if f ∈ flOf q.kd then q.get f else zeroF f) = q.get := by
      funext f
      split
      · rfl
      · rename_i hf; exact (h f hf).symm
    unfold ownRq
    rw [this, of_get]
  · intro h f hf
    have h1 : (ownRq q).get f = zeroF f := by
      unfold ownRq
      rw [get_of, if_neg hf]
    rw [h] at h1
    exact h1
end Go.Proofs.YtcockikekgmfkaaGreatDoor
namespace Go.Proofs.YtcockikekgmfkaaGreatDoor
open Go.RowKit

def own8_0 (q : Rq) : Rq := ⟨q.kd, 0, 0, 0, 0, 0, 0, 0, 0, false, Bat0⟩
theorem may8_0 (q : Rq) (hk : q.kd = 0) : mayRq q ↔ (True) ∧ own8_0 q = q := by
  have hf : flOf q.kd = [] := by rw [hk]; rfl
  have ho : ownRq q = own8_0 q := by
    unfold ownRq own8_0
    rw [hf]
    refine Rq.ext' rfl ?_ ?_ ?_ ?_ ?_ ?_ ?_ ?_ ?_ ?_
    · exact (if_neg (by decide) : (if Fl.tid ∈ ([] : List Fl) then q.tid else (0 : Int)) = 0)
    · exact (if_neg (by decide) : (if Fl.tm ∈ ([] : List Fl) then q.tm else (0 : Int)) = 0)
    · exact (if_neg (by decide) : (if Fl.pid ∈ ([] : List Fl) then q.pid else (0 : Int)) = 0)
    · exact (if_neg (by decide) : (if Fl.ep ∈ ([] : List Fl) then q.ep else (0 : Int)) = 0)
    · exact (if_neg (by decide) : (if Fl.part ∈ ([] : List Fl) then q.part else (0 : Int)) = 0)
    · exact (if_neg (by decide) : (if Fl.grp ∈ ([] : List Fl) then q.grp else (0 : Int)) = 0)
    · exact (if_neg (by decide) : (if Fl.off ∈ ([] : List Fl) then q.off else (0 : Int)) = 0)
    · exact (if_neg (by decide) : (if Fl.most ∈ ([] : List Fl) then q.most else (0 : Int)) = 0)
    · exact (if_neg (by decide) : (if Fl.yes ∈ ([] : List Fl) then q.yes else (false : Bool)) = false)
    · exact (if_neg (by decide) : (if Fl.bat ∈ ([] : List Fl) then q.b else (Bat0 : Bat)) = Bat0)
  rw [may_own, hf, ho]
  constructor
  · rintro ⟨_, h, hh⟩
    exact ⟨trivial, hh⟩
  · rintro ⟨_, hh⟩
    refine ⟨⟨by omega, by omega⟩, fun f hf => ?_, hh⟩
    cases f
    all_goals exact absurd hf (by decide)
set_option maxRecDepth 100000 in
set_option maxHeartbeats 4000000 in
theorem rrMay_0 (q : Rq) (hk : q.kd = 0) (A1 : Option Addr) (c1 : Nat) (w : World) (hr : Reads w w.heap.size 2 A1 q.b.rs.length (cellsR q.b.rs)) (hl : q.b.rs.length ≤ 1000000) :
    Calls Tryz.prog 10 #[(.agg #[.int .i8 q.kd, .int .i64 q.tid, .int .i64 q.tm, .int .i64 q.pid, .int .i64 q.ep, .int .i64 q.part, .int .i64 q.grp, .int .i64 q.off, .int .i64 q.most, .bool q.yes, .int .i64 q.b.pid, .int .i64 q.b.ep, .int .i64 q.b.seq, .bool q.b.txn, .slice A1 q.b.rs.length c1])] w fun e w' => ∃ r, e = .returned (.bool r) ∧ (r = true ↔ mayRq q) ∧ Below w.heap.size w w' := by
  have HR := Lib.hid (fun W (h : Below w.heap.size w W) => (hr.below h).more h.size)
  have HB := Lib.hid (fun x y => bal (bal (Below.refl w.heap.size w) x) y)
  have HK := Lib.hid (may8_0 q hk)
  have cc0 : (q.kd == 0) = true := by rw [hk]; rfl
  have cc1 : (q.kd == 1) = false := by rw [hk]; rfl
  have cc2 : (q.kd == 2) = false := by rw [hk]; rfl
  have cc3 : (q.kd == 3) = false := by rw [hk]; rfl
  have cc4 : (q.kd == 4) = false := by rw [hk]; rfl
  have cc5 : (q.kd == 5) = false := by rw [hk]; rfl
  have cc6 : (q.kd == 6) = false := by rw [hk]; rfl
  have cc7 : (q.kd == 7) = false := by rw [hk]; rfl
  have cc8 : (q.kd == 8) = false := by rw [hk]; rfl
  have cc9 : (q.kd == 9) = false := by rw [hk]; rfl
  have SM := Lib.hid (fun W (h : Below w.heap.size w W) => rrSame_any (own8_0 q) q none A1 0 c1 W Reads.none_ (HR.out W h) (Nat.zero_le _))
  clear hr hk hl
  go_enter Tryz.func10, Tryz.ntmps10
  go_wp2_with (first | (go_at_call 23; refine (in8_any _ _ _ _).mono ?_; rintro e w1 ⟨rfl, rfl⟩) | (go_at_call 12; refine (SM.out _ (HB.out _ _)).mono ?_; rintro e w2 ⟨rfl, b2⟩; have B2 := Lib.hid (btrans (HB.out _ _) b2); clear b2))
  all_goals go_ret
  all_goals (refine ⟨_, rfl, ?_, (by first | exact B2.out | exact HB.out _ _)⟩; rw [HK.out]; first | (rw [sameRq_iff]; simp [*]) | simp [*])
end Go.Proofs.YtcockikekgmfkaaGreatDoor
