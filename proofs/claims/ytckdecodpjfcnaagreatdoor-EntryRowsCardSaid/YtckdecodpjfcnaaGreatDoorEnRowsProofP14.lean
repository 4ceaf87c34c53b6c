/-
  Layer 7: the law's own wakes.
  Arguments of a statement opened: strings, slices of strings, of bytes, of ints: what they hold, in the words of Reads; and that each is within the form's reach.
  What the rows' list gives (the library's variable errors.errorType), a world for the witness, and bytes out of an argument.
-/
import Derived.Test.YtckdecodpjfcnaaGreatDoorEnRowsProofP13
import Derived.ProofKit
import Derived.OpenShut
import Derived.ShutString
import Derived.ChangeOld
import Derived.Below
import Derived.SizedLaws
import Derived.SliceStrings
import Derived.Test.YtckdecodpjfcnaaGreatDoorCards
import Derived.Test.YtckdecodpjfcnaaGreatDoorTie
import Derived.LaidHandle
import Derived.LaidLaws
import Derived.Stop.Joined
import Derived.JoinedOf
import Derived.Deep.DeepHandedRow
import Derived.SevenTiedAt
set_option linter.unusedVariables false
set_option linter.unusedSimpArgs false
namespace Go.Proofs.YtckdecodpjfcnaaGreatDoor
open Go.ChangeShapes Go.WideShapes Go.ChangeAt Go.RowKit

section
variable {H : Type} {enc : TypeId × Value → H} {P : Program} {W : World} {base : Nat}

theorem block_lt_of_cell {w : World} {a : Addr} {v : Value} (h : w.cell? a = some v) : a.block < w.heap.size := by
  rcases Nat.lt_or_ge a.block w.heap.size with hlt | hge
  · exact hlt
  · unfold World.cell? at h
    rw [Array.getElem?_eq_none hge] at h
    simp at h

theorem open_strs_arg {t e : TypeId} {v : Value} {d : DataW H} {p : List MemPlace} {r : Reach} (ht : P.underlying t = some (.slice e)) (he : P.underlying e = some .string) (hC : P.cellsOf e = 1) (hby : P.bytesOf e = 16)
    (hv : Value.okWide P W r base t v) (h : DataW.Trod enc P W 0 (fun _ => true) true t v d p) (hw : ∀ n ∈ d.weights P t, n ≤ reachBytes) :
    ∃ (A : Option Addr) (n c : Nat) (ss : List ByteArray), v = .slice A n c ∧ n ≤ c ∧ c * 16 ≤ 140737488351232 ∧ Reads W W.heap.size 1 A n (cellsS ss) ∧ ∀ s ∈ ss, s.size ≤ 140737488351232 := by
  obtain ⟨a0, len, cap, rfl⟩ := okWide_slice ht hv
  obtain ⟨fuel, hf⟩ := h
  rcases open_strings ht he hC hf with ⟨hcs, _⟩ | ⟨a, l, c, ss, hcs, _, hl, hm, hz, hx, hcell, hsz⟩
  · simp [Value.cells] at hcs
    obtain ⟨rfl, rfl, rfl⟩ := hcs
    exact ⟨none, 0, 0, [], rfl, Nat.le_refl _, by omega, Reads.none_, by simp⟩
  · simp [Value.cells] at hcs
    obtain ⟨rfl, rfl, rfl⟩ := hcs
    simp only [if_true] at hz
    simp only [Prod.mk.injEq] at hx
    obtain ⟨rfl, _⟩ := hx
    simp only [DataW.weights, ht, hby] at hw
    refine ⟨some a, len, cap, ss.take len, rfl, hl, ?_, ⟨by rw [length_cellsS, List.length_take]; omega, fun hn => ⟨a, rfl, ?_, fun j u hu => ?_⟩⟩, fun s hs => ?_⟩
    · have := hw _ (List.mem_cons_self ..)
      simp only [strs, List.length_map, List.length_take, List.length_drop, reachBytes] at this
      omega
    · have := block_lt_of_cell (hcell 0 (by omega))
      rwa [block_of_add] at this
    · rw [getElem?_cellsS, Option.map_eq_some_iff] at hu
      obtain ⟨s, hs, rfl⟩ := hu
      have hj : j < len := by
        have := (List.getElem?_eq_some_iff.1 hs).1
        simp at this; omega
      rw [List.getElem?_take_of_lt hj] at hs
      rw [hcell j (by omega)]
      simp [hs]
    · have hmem : s.data.toList.length ∈ DataW.weightsAll P e (strs (H := H) (ss.take len)) := by
        generalize ss.take len = l at hs
        induction l with
        | nil => cases hs
        | cons x xs ih =>
          simp only [strs, List.map_cons, DataW.weightsAll, DataW.weights, List.mem_append, List.mem_singleton]
          rcases List.mem_cons.1 hs with rfl | h'
          · exact .inl rfl
          · exact .inr (ih h')
      have := hw _ (List.mem_cons_of_mem _ (List.mem_append_left _ hmem))
      exact this

theorem weights_of {ts : List TypeId} {ds : List (DataW H)} (h : (DataW.weightsEach P ts ds).all (· ≤ reachBytes) = true) {j : Nat} {t : TypeId} {d : DataW H} (ht : ts[j]? = some t) (hd : ds[j]? = some d) : ∀ n ∈ d.weights P t, n ≤ reachBytes := by
  intro n hn
  have := List.all_eq_true.1 h _ (DataW.weights_mem_each ht hd n hn)
  simpa using this
end
end Go.Proofs.YtckdecodpjfcnaaGreatDoor
namespace Go.Proofs.YtckdecodpjfcnaaGreatDoor
open Go.ChangeShapes Go.WideShapes Go.ChangeAt Go.RowKit

theorem own : ownKnob Tryz.prog.godebug = none := by kernel_rfl
theorem laidOut : laidOutB Tryz.prog = true := by kernel_rfl
theorem lay_et : Tryz.prog.globalNamed "errors.errorType" = some 0 := by kernel_rfl
theorem lay_rt : (Tryz.prog.cutTypes.find? (·.1 == "internal/reflectlite.rtype")).map (·.2) = some 162 := by kernel_rfl
theorem lay_row : ((List.range 217).filter fun t => Tryz.prog.rowNamed t [101, 114, 114, 111, 114]) = [99] := by kernel_rfl
theorem lay_size : Tryz.prog.types.size = 217 := by kernel_rfl

def theLaid {H : Type} : List (String × DataW H) := [("errors.errorType", Rows.laid_errors_errorType)]

theorem hasErr_of_laid {W : World} (h : laidMetH Tryz.prog theLaid W) : HasET W := by
  have h' : laidMet Tryz.prog [] W ∧ handlesMet Tryz.prog theLaid W := h
  obtain ⟨name, u, ty, e1, e2, e3, e4, e5⟩ := h'.2 _ (List.mem_singleton.2 rfl)
  have en : name = [101, 114, 114, 111, 114] := (Option.some.inj e1).symm
  subst en
  obtain rfl := Option.some.inj (lay_rt.symm.trans e2)
  have hm : ty ∈ (List.range 217).filter fun t => Tryz.prog.rowNamed t [101, 114, 114, 111, 114] := List.mem_filter.2 ⟨List.mem_range.2 (by rw [← lay_size]; exact e3), e4⟩
  rw [lay_row] at hm
  obtain rfl := List.mem_singleton.1 hm
  have hh : typeHandle Tryz.prog 99 = .pointer (some ⟨1, 99, none⟩) := by kernel_rfl
  rw [hh] at e5
  unfold HasET
  simpa using World.var?_cell lay_et e5 0

/-- A world that meets the condition: the settled one, the variable's cell laid. -/
noncomputable def laidWorld (os : Os) : World :=
  { World.holding Tryz.prog os ⟨#[], #[], []⟩ with heap := (World.holding Tryz.prog os ⟨#[], #[], []⟩).heap.modify 0 fun
      | .cells _ t frozen => .cells #[.iface 162 (.agg #[.pointer (some ⟨1, 99, none⟩)])] t frozen
      | o => o }

end Go.Proofs.YtckdecodpjfcnaaGreatDoor
namespace Go.Proofs.YtckdecodpjfcnaaGreatDoor
open Go.RowKit

/-- An entry put into a new block. -/
theorem fresh_en (w1 : World) (cs : Array Value) (hn : cs.size = 18) (h1 : cs.all (·.oneCell') = true) :
    ∃ W', (storeVar 32 ⟨w1.heap.size, 0, none⟩ (.agg cs)).run Tryz.prog (w1.alloc (.cells #[.int .i8 0, .int .i64 0, .int .i64 0, .int .i64 0, .bool false, .slice none 0 0, .bool false, .int .i64 0, .int .i64 0, .int .i64 0, .int .i64 0, .int .i64 0, .string ⟨#[]⟩, .string ⟨#[]⟩, .int .i64 0, .int .i64 0, .int .i64 0, .slice none 0 0] 32)) = .ok () W' ∧ Blk W' w1.heap.size 32 cs ∧ Below w1.heap.size w1 W' := by
  obtain ⟨W', st, kw, fb, fh⟩ := store_blk2 (cs := cs) (blk_new w1 32 ezero rfl) rfl hn h1
  exact ⟨W', st, kw, fb _ w1 (Nat.le_refl _) (bal (Below.refl _ _) _)⟩
def qe1 : En := ⟨2, Bat0, false, 0, 300, Rw0, Pd0⟩
def qe2 : En := ⟨1, ⟨3, 0, 0, false, []⟩, true, 0, 0, Rw0, Pd0⟩
theorem qe1_may : mayEn qe1 = true := by rfl
theorem qe1_e : encEn qe1 = [2, 172, 2] := by rfl
theorem qe2_may : mayEn qe2 = true := by rfl
theorem qe2_e : encEn qe2 = [1, 3, 0, 1] := by rfl
theorem qe1_read : readE 1 1048575 6 [2, 172, 2] = (qe1, 0) := by
  rw [← qe1_e]
  exact readE_ok (Nat.le_refl _) (Nat.le_refl _) (by decide) (Nat.le_refl _) (by decide) qe1_may
theorem enR_nil (w : World) (x : En) (h1 : x.b.rs = []) (h2 : x.prod.seen = []) : EnR w x none none := by
  refine ⟨?_, ?_, by rw [h1]; exact Nat.zero_le _, by rw [h2]; exact Nat.zero_le _⟩
  · rw [h1]; exact Reads.none_
  · rw [h2]; exact Reads.none_
section
attribute [-go_sem] storeVar
set_option maxRecDepth 100000 in
set_option maxHeartbeats 4000000 in
theorem wakes07 (w : World) (hg : HasET w) : Calls Tryz.prog 10 #[] w fun e w' => e = .returned (.bool true) ∧ Below w.heap.size w w' := by
  have y1 := fun W (h : Below w.heap.size w W) => EnBytes_any qe1 qe1_may none none 0 0 W (hg.up h) (enR_nil W qe1 rfl rfl)
  have y2 := fun W (h : Below w.heap.size w W) => EnBytes_any qe2 qe2_may none none 0 0 W (hg.up h) (enR_nil W qe2 rfl rfl)
  rw [qe1_e] at y1
  rw [qe2_e] at y2
  have Y1 : Hid (∀ W, Below w.heap.size w W → Calls Tryz.prog 11 #[.agg #[.int .i8 2, .int .i64 0, .int .i64 0, .int .i64 0, .bool false, .slice none 0 0, .bool false, .int .i64 0, .int .i64 300, .int .i64 0, .int .i64 0, .int .i64 0, .string ⟨#[]⟩, .string ⟨#[]⟩, .int .i64 0, .int .i64 0, .int .i64 0, .slice none 0 0]] W fun e w' => e = .returned (.tuple #[.string ⟨#[2, 172, 2]⟩, .int .i64 0]) ∧ Below W.heap.size W w') := Lib.hid y1
  have Y2 : Hid (∀ W, Below w.heap.size w W → Calls Tryz.prog 11 #[.agg #[.int .i8 1, .int .i64 3, .int .i64 0, .int .i64 0, .bool false, .slice none 0 0, .bool true, .int .i64 0, .int .i64 0, .int .i64 0, .int .i64 0, .int .i64 0, .string ⟨#[]⟩, .string ⟨#[]⟩, .int .i64 0, .int .i64 0, .int .i64 0, .slice none 0 0]] W fun e w' => e = .returned (.tuple #[.string ⟨#[1, 3, 0, 1]⟩, .int .i64 0]) ∧ Below W.heap.size W w') := Lib.hid y2
  have RD := Lib.hid (fun (W : World) (h : Below w.heap.size w W) => by
    have := EnRead_any ⟨#[2, 172, 2]⟩ W (by decide) (hg.up h)
    rw [show lb ⟨#[2, 172, 2]⟩ = [2, 172, 2] from rfl, qe1_read] at this
    exact this)
  clear y1 y2 hg
  go_enter Tryz.func10, Tryz.ntmps10
  go_wp2_with fail
  refine (Y1.out _ (Below.refl _ _)).mono ?_
  rintro e w1 ⟨rfl, b1⟩
  have B1 := Lib.hid b1
  clear b1
  go_wp2_with fail
  refine (Y2.out _ B1.out).mono ?_
  rintro e w2 ⟨rfl, b2⟩
  have B2 := Lib.hid (btrans B1.out b2)
  clear b2
  go_wp2_with fail
  refine (RD.out _ B2.out).mono ?_
  rintro e w3 ⟨A5, D5, c5, e5, rfl, _, b3⟩
  obtain ⟨W', st, kw, bw⟩ := fresh_en w3 #[.int .i8 qe1.kd, .int .i64 qe1.b.pid, .int .i64 qe1.b.ep, .int .i64 qe1.b.seq, .bool qe1.b.txn, .slice A5 qe1.b.rs.length c5, .bool qe1.yes, .int .i64 qe1.nx, .int .i64 qe1.off, .int .i64 qe1.row.1, .int .i64 qe1.row.2.1, .int .i64 qe1.row.2.2.1, .string qe1.row.2.2.2.1, .string qe1.row.2.2.2.2, .int .i64 qe1.prod.pid, .int .i64 qe1.prod.ep, .int .i64 qe1.prod.nx, .slice D5 qe1.prod.seen.length e5] rfl (by simp [Value.oneCell'])
  have B3 := Lib.hid (btrans (btrans B2.out b3) bw)
  have x0 : W'.cell? ⟨w3.heap.size, 0, none⟩ = some (.int .i8 2) := kw.cell 0
  have x8 : W'.cell? ⟨w3.heap.size, 8, none⟩ = some (.int .i64 300) := kw.cell 8
  clear b3 bw kw
  go_wp2_with fail
  go_ret
  exact ⟨rfl, B3.out⟩
end
end Go.Proofs.YtckdecodpjfcnaaGreatDoor
