/-
  What the rows' list gives (the library's variable errors.errorType), a world for the witness, and bytes out of an argument.
  Arguments that are whole states, opened.
  Arguments that are entries of a coordinator's log, or slices of these, opened.
-/
import Derived.Test.YtbpkckahonmpkaaGreatDoorMeFoldsProofP22
import Derived.Test.YtbpkckahonmpkaaGreatDoorCards
import Derived.Test.YtbpkckahonmpkaaGreatDoorTie
import Derived.LaidHandle
import Derived.LaidLaws
import Derived.Stop.Joined
import Derived.JoinedOf
import Derived.Deep.DeepHandedRow
import Derived.SevenTiedAt
set_option linter.unusedVariables false
set_option linter.unusedSimpArgs false
namespace Go.Proofs.YtbpkckahonmpkaaGreatDoor
open Go.Joins Go.ChangeShapes Go.WideShapes Go.RowKit Go.Deep
section
variable {H : Type} {enc : TypeId × Value → H} {W : World}
set_option maxRecDepth 100000 in
theorem trod_coS {fuel : Nat} {cs : List Value} {x : DataW H × List MemPlace} (h : DataW.trod enc Tryz.prog W 0 (fun _ => true) true fuel 29 cs = some x) :
    ∃ (c : Co) (A D : Option Addr) (n m : Nat), cs = coL c A D n m ∧ Reads W W.heap.size 1 A c.ps.length (cellsI .i64 c.ps) ∧ Reads W W.heap.size 3 D c.qs.length (cellsP c.qs) ∧ -128 ≤ c.st ∧ c.st ≤ 127 := by
  obtain ⟨xs, n, _, _, hl, hlen, hg⟩ := DataW.trod_struct Tryz.underlying29 h
  have hC : Tryz.prog.cellsOf 29 = 8 := by kernel_rfl
  have ki : Tryz.prog.cellsOf 3 = 1 := by kernel_rfl
  have kb : Tryz.prog.cellsOf 25 = 1 := by kernel_rfl
  have kl : Tryz.prog.cellsOf 26 = 1 := by kernel_rfl
  have kp : Tryz.prog.cellsOf 27 = 1 := by kernel_rfl
  rw [hC] at hl
  match cs, hl with
  | [c0, c1, c2, c3, c4, c5, c6, c7], _ =>
    match xs, hlen with
    | [y0, y1, y2, y3, y4, y5, y6, y7], _ =>
      have t0 := hg 0 _ rfl
      have t1 := hg 1 _ rfl
      have t2 := hg 2 _ rfl
      have t3 := hg 3 _ rfl
      have t4 := hg 4 _ rfl
      have t5 := hg 5 _ rfl
      have t6 := hg 6 _ rfl
      have t7 := hg 7 _ rfl
      clear hg
      simp [kb] at t0
      simp [ki] at t1 t2 t3 t4 t7
      simp [kl] at t5
      simp [kp] at t6
      obtain ⟨z0, e0, _, w0⟩ := DataW.trod_int Tryz.underlying25 t0
      obtain ⟨z1, e1, _, _⟩ := DataW.trod_int Tryz.underlying3 t1
      obtain ⟨z2, e2, _, _⟩ := DataW.trod_int Tryz.underlying3 t2
      obtain ⟨z3, e3, _, _⟩ := DataW.trod_int Tryz.underlying3 t3
      obtain ⟨z4, e4, _, _⟩ := DataW.trod_int Tryz.underlying3 t4
      obtain ⟨A1, c1, l1, rfl, k1, r1⟩ := field_ints t5
      obtain ⟨D1, ee1, l2, rfl, k2, r2⟩ := field_pends t6
      obtain ⟨z7, e7, _, _⟩ := DataW.trod_int Tryz.underlying3 t7
      simp at e0 e1 e2 e3 e4 e7
      subst e0; subst e1; subst e2; subst e3; subst e4; subst e7
      have hw : -128 ≤ z0 ∧ z0 ≤ 127 := by
        simp only [Lit.wf, Bool.and_eq_true, decide_eq_true_eq] at w0
        exact ⟨w0.1, w0.2⟩
      exact ⟨⟨z0, z1, z2, z3, z4, l1, l2, z7⟩, A1, D1, c1, ee1, rfl, r1, r2, hw.1, hw.2⟩
end
end Go.Proofs.YtbpkckahonmpkaaGreatDoor
namespace Go.Proofs.YtbpkckahonmpkaaGreatDoor
open Go.Joins Go.ChangeShapes Go.WideShapes Go.RowKit Go.Deep
section
variable {H : Type} {enc : TypeId × Value → H} {W : World}
set_option maxRecDepth 100000 in
theorem trod_pdM {fuel : Nat} {cs : List Value} {x : DataW H × List MemPlace} (h : DataW.trod enc Tryz.prog W 0 (fun _ => true) true fuel 40 cs = some x) :
    ∃ p : Pd, cs = [.int .i64 p.1, .int .i64 p.2.1, .int .i64 p.2.2] := by
  obtain ⟨xs, n, _, _, hl, hlen, hg⟩ := DataW.trod_struct Tryz.underlying40 h
  have hC : Tryz.prog.cellsOf 40 = 3 := by kernel_rfl
  have ki : Tryz.prog.cellsOf 3 = 1 := by kernel_rfl
  rw [hC] at hl
  match cs, hl with
  | [c0, c1, c2], _ =>
    match xs, hlen with
    | [y0, y1, y2], _ =>
      have t0 := hg 0 _ rfl
      have t1 := hg 1 _ rfl
      have t2 := hg 2 _ rfl
      simp [ki] at t0 t1 t2
      obtain ⟨z0, e0, _, w0⟩ := DataW.trod_int Tryz.underlying3 t0
      obtain ⟨z1, e1, _, w1⟩ := DataW.trod_int Tryz.underlying3 t1
      obtain ⟨z2, e2, _, w2⟩ := DataW.trod_int Tryz.underlying3 t2
      simp at e0 e1 e2
      subst e0; subst e1; subst e2
      exact ⟨(z0, z1, z2), rfl⟩
set_option maxRecDepth 100000 in
set_option maxHeartbeats 1000000 in
theorem trod_mt {fuel : Nat} {cs : List Value} {x : DataW H × List MemPlace} (h : DataW.trod enc Tryz.prog W 0 (fun _ => true) true fuel 42 cs = some x) :
    ∃ (m : Mt) (A D : Option Addr) (c e : Nat), cs = mtL m A D c e ∧ MtRaw W m A D := by
  obtain ⟨xs, n, _, _, hl, hlen, hg⟩ := DataW.trod_struct Tryz.underlying42 h
  have hC : Tryz.prog.cellsOf 42 = 17 := by kernel_rfl
  have ki : Tryz.prog.cellsOf 3 = 1 := by kernel_rfl
  have k8 : Tryz.prog.cellsOf 25 = 1 := by kernel_rfl
  have kb : Tryz.prog.cellsOf 4 = 1 := by kernel_rfl
  have kp : Tryz.prog.cellsOf 40 = 3 := by kernel_rfl
  have kc : Tryz.prog.cellsOf 29 = 8 := by kernel_rfl
  rw [hC] at hl
  match cs, hl with
  | [c0, c1, c2, c3, c4, c5, c6, c7, c8, c9, c10, c11, c12, c13, c14, c15, c16], _ =>
    match xs, hlen with
    | [y0, y1, y2, y3, y4, y5, y6, y7], _ =>
      have t0 := hg 0 _ rfl
      have t1 := hg 1 _ rfl
      have t2 := hg 2 _ rfl
      have t3 := hg 3 _ rfl
      have t4 := hg 4 _ rfl
      have t5 := hg 5 _ rfl
      have t6 := hg 6 _ rfl
      have t7 := hg 7 _ rfl
      clear hg
      simp [k8] at t0
      simp [ki] at t1 t2 t5 t7
      simp [kp] at t3
      simp [kb] at t4
      simp [kc] at t6
      obtain ⟨z0, e0, _, w0⟩ := DataW.trod_int Tryz.underlying25 t0
      obtain ⟨z1, e1, _, _⟩ := DataW.trod_int Tryz.underlying3 t1
      obtain ⟨z2, e2, _, _⟩ := DataW.trod_int Tryz.underlying3 t2
      obtain ⟨p, e3⟩ := trod_pdM t3
      obtain ⟨y, e4, _⟩ := DataW.trod_bool Tryz.underlying4 t4
      obtain ⟨z5, e5, _, _⟩ := DataW.trod_int Tryz.underlying3 t5
      obtain ⟨co, A, D, nn, mm, e6, r1, r2, r3⟩ := trod_coS t6
      obtain ⟨z7, e7, _, _⟩ := DataW.trod_int Tryz.underlying3 t7
      unfold coL at e6
      simp at e0 e1 e2 e3 e4 e5 e6 e7
      obtain ⟨rfl, rfl, rfl⟩ := e3
      obtain ⟨rfl, rfl, rfl, rfl, rfl, rfl, rfl, rfl⟩ := e6
      subst e0; subst e1; subst e2; subst e4; subst e5; subst e7
      exact ⟨⟨z0, z1, z2, p, y, z5, co, z7⟩, A, D, nn, mm, rfl, r1, r2, r3⟩
set_option maxRecDepth 100000 in
theorem open_mts {r : Reach} {base : Nat} {v : Value} {d : DataW H} {p : List MemPlace} (hv : Value.okWide Tryz.prog W r base 22 v) (h : DataW.Trod enc Tryz.prog W 0 (fun _ => true) true 22 v d p) :
    ∃ (A : Option Addr) (c : Nat) (l : List MtM), v = .slice A l.length c ∧ Reads W W.heap.size 17 A l.length (cellsE l) ∧ ∀ m ∈ l, MtRaw W m.x m.A m.D := by
  obtain ⟨a0, len, cap, rfl⟩ := okWide_slice Tryz.underlying22 hv
  obtain ⟨fuel, hf⟩ := h
  have hf' : DataW.trod enc Tryz.prog W 0 (fun _ => true) true fuel 22 [.slice a0 len cap] = some (d, p) := hf
  rcases open_slice Tryz.underlying22 hf' with ⟨hcs, _⟩ | ⟨a, len', cap', m, n, D, Pl, hcs, _, hl, hm, hmm, hx, hi⟩
  · simp at hcs
    obtain ⟨rfl, rfl, rfl⟩ := hcs
    exact ⟨none, 0, [], rfl, Reads.none_, by simp⟩
  · simp at hcs
    obtain ⟨rfl, rfl, rfl⟩ := hcs
    simp only [if_true] at hmm
    subst hmm
    have hC : Tryz.prog.cellsOf 42 = 17 := by kernel_rfl
    rw [hC] at hi
    have hp : ∀ i, ∃ x : MtM, MtRaw W x.x x.A x.D ∧ (i < len → ∀ j u, (cE x)[j]? = some u → W.cell? (a.add (i * 17 + j)) = some u) := by
      intro i
      by_cases hlt : i < len
      · obtain ⟨cs', hc, ht⟩ := hi i (by omega)
        obtain ⟨ym, yA, yD, yc, ye, e, hq⟩ := trod_mt ht
        obtain ⟨y, hy⟩ : ∃ y : MtM, y = ⟨ym, yA, yD, yc, ye⟩ := ⟨_, rfl⟩
        have hq : MtRaw W y.x y.A y.D := by rw [hy]; exact hq
        have e : cs' = cE y := by rw [hy]; exact e
        obtain ⟨_, hcl, hat⟩ := World.cells?_some hc
        refine ⟨y, hq, fun _ j u hu => ?_⟩
        have hj : j < 17 := (List.getElem?_eq_some_iff.1 hu).1
        have h1 := hat j hj
        rw [e] at h1
        rw [← Go.Deep.add_add, h1]
        exact hu
      · exact ⟨⟨Mt0 0, none, none, 0, 0⟩, ⟨Reads.none_, Reads.none_, by decide, by decide⟩, fun h => absurd h hlt⟩
    have hget : ∀ i x, ((List.range len).map fun i => Classical.choose (hp i))[i]? = some x → i < len ∧ x = Classical.choose (hp i) := by
      intro i x hx
      rw [List.getElem?_map, Option.map_eq_some_iff] at hx
      obtain ⟨i', hi', rfl⟩ := hx
      have hlt : i < len := by
        have := (List.getElem?_eq_some_iff.1 hi').1
        simpa using this
      rw [List.getElem?_range hlt] at hi'
      obtain rfl : i = i' := by simpa using hi'
      exact ⟨hlt, rfl⟩
    refine ⟨some a, m, (List.range len).map fun i => Classical.choose (hp i), by simp, ⟨by rw [length_cellsE], fun hn => ⟨a, rfl, ?_, fun j u hu => ?_⟩⟩, fun x hx => ?_⟩
    · have hn' : 0 < len := by simpa using hn
      exact cell_block ((Classical.choose_spec (hp 0)).2 hn' 0 _ rfl)
    · have hlj : j < len * 17 := by
        have := (List.getElem?_eq_some_iff.1 hu).1
        rw [length_cellsE] at this
        simpa using this
      have hi15 : j / 17 < len := by omega
      have hg : ((List.range len).map fun i => Classical.choose (hp i))[j / 17]? = some (Classical.choose (hp (j / 17))) := by
        rw [List.getElem?_map, List.getElem?_range hi15]; rfl
      have h1 := cellsE_at _ (j / 17) _ (j % 17) hg (by omega)
      have e1 : j / 17 * 17 + j % 17 = j := by omega
      rw [e1, hu] at h1
      have h2 := (Classical.choose_spec (hp (j / 17))).2 hi15 (j % 17) u h1.symm
      rw [e1] at h2
      exact h2
    · obtain ⟨i, _, rfl⟩ := List.mem_map.1 hx
      exact (Classical.choose_spec (hp i)).1
end
end Go.Proofs.YtbpkckahonmpkaaGreatDoor
namespace Go.Proofs.YtbpkckahonmpkaaGreatDoor
open Go.ChangeShapes Go.WideShapes Go.ChangeAt Go.RowKit

theorem own : ownKnob Tryz.prog.godebug = none := by kernel_rfl
theorem laidOut : laidOutB Tryz.prog = true := by kernel_rfl
theorem lay_et : Tryz.prog.globalNamed "errors.errorType" = some 0 := by kernel_rfl
theorem lay_rt : (Tryz.prog.cutTypes.find? (·.1 == "internal/reflectlite.rtype")).map (·.2) = some 178 := by kernel_rfl
theorem lay_row : ((List.range 248).filter fun t => Tryz.prog.rowNamed t [101, 114, 114, 111, 114]) = [71] := by kernel_rfl
theorem lay_size : Tryz.prog.types.size = 248 := by kernel_rfl

def theLaid {H : Type} : List (String × DataW H) := [("errors.errorType", Rows.laid_errors_errorType)]

theorem hasErr_of_laid {W : World} (h : laidMetH Tryz.prog theLaid W) : HasET W := by
  have h' : laidMet Tryz.prog [] W ∧ handlesMet Tryz.prog theLaid W := h
  obtain ⟨name, u, ty, e1, e2, e3, e4, e5⟩ := h'.2 _ (List.mem_singleton.2 rfl)
  have en : name = [101, 114, 114, 111, 114] := (Option.some.inj e1).symm
  subst en
  obtain rfl := Option.some.inj (lay_rt.symm.trans e2)
  have hm : ty ∈ (List.range 248).filter fun t => Tryz.prog.rowNamed t [101, 114, 114, 111, 114] := List.mem_filter.2 ⟨List.mem_range.2 (by rw [← lay_size]; exact e3), e4⟩
  rw [lay_row] at hm
  obtain rfl := List.mem_singleton.1 hm
  have hh : typeHandle Tryz.prog 71 = .pointer (some ⟨1, 71, none⟩) := by kernel_rfl
  rw [hh] at e5
  unfold HasET
  simpa using World.var?_cell lay_et e5 0

/-- A world that meets the condition: the settled one, the variable's cell laid. -/
noncomputable def laidWorld (os : Os) : World :=
  { World.holding Tryz.prog os ⟨#[], #[], []⟩ with heap := (World.holding Tryz.prog os ⟨#[], #[], []⟩).heap.modify 0 fun
      | .cells _ t frozen => .cells #[.iface 178 (.agg #[.pointer (some ⟨1, 71, none⟩)])] t frozen
      | o => o }

end Go.Proofs.YtbpkckahonmpkaaGreatDoor
