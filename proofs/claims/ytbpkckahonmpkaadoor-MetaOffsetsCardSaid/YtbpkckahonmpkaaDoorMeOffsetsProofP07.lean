/-
  Layer 18: keep.
  Words for copies inside a block that is known whole, elements of any size: what copy(d, s) leaves. slices.Insert of one element.
  A world that is as another one was but for some blocks that were there.
  Layer 18: copies of a transactional id that own their lists.
  Layer 18: keep: an item put into its place in a list in order. Plain; the two orders as functions of the code.
-/
import Derived.Test.YtbpkckahonmpkaaDoorMeOffsetsProofP06
import Derived.Lib.AppendZerosOnto
import Derived.Lib.Overlaps
import Derived.Laws.Externs
import Derived.Laws.CopyRow
import Derived.Laws.NewBlocks
import Derived.Laws.IdiomCopy
import Derived.Lib.AppendZeros
import Derived.Shelf.Spec.SlicesInsert
set_option linter.unusedVariables false
set_option linter.unusedSimpArgs false
namespace Go.Proofs.YtbpkckahonmpkaaDoor
open Go.RowKit

/-- Cells put over a list from a place on. -/
def splice {α : Type} (l : List α) (o : Nat) (m : List α) : List α := l.take o ++ m ++ l.drop (o + m.length)
theorem length_splice {α : Type} (l : List α) (o : Nat) (m : List α) (h : o + m.length ≤ l.length) : (splice l o m).length = l.length := by
  unfold splice
  simp only [List.length_append, List.length_take, List.length_drop]
  omega
section
variable {P : Program}
/-- copy(d, s), elements of any size. -/
theorem run_copy_rowN (w : World) (dT sT ty elem : TypeId) (size g o dLen dCap : Nat) (a : Addr) (sLen sCap : Nat) (cur : Array Value) (t : TypeId) (cs : List Value)
    (hu : P.underlying dT = some (.slice elem)) (hs : (P.info? elem).map (·.size) = some size)
    (hg : w.heap[g]? = some (.cells cur t (0, 0))) (hn : cs.length = Nat.min sLen dLen * size)
    (hsrc : ∀ j v, cs[j]? = some v → w.cell? (a.add j) = some v) (hfit : o + cs.length ≤ cur.size) (h1 : ∀ v ∈ cs, v.oneCell' = true) :
    (Builtin.copy_ #[dT, sT] ty #[.slice (some ⟨g, o, none⟩) dLen dCap, .slice (some a) sLen sCap]).run P w =
      .ok (goInt (Nat.min sLen dLen)) (w.setRow g (splice cur.toList o cs).toArray) := by
  have hl := run_loadCells_list (P := P) w a cs hsrc
  have hst := run_storeCells_at P g o t cs 0 cur w hg (by simpa using hfit) h1
  cases hq : P.info? elem with
  | none => simp [hq] at hs
  | some i =>
    have hi : i.size = size := by simpa [hq] using hs
    rw [hn] at hl
    simp [Builtin.copy_, run_underlying hu, Builtin.lenOf, Builtin.firstCells, sizeOf, typeInfo, hq, hi, hl, hst, splice]
end
theorem blk_setRow {w : World} {g : Nat} {t : TypeId} {cur new : Array Value} (h : Blk w g t cur) : Blk (w.setRow g new) g t new := setRow_heap w g cur new t (0, 0) h
theorem grown_setRow (w : World) (g : Nat) (new : Array Value) : w.grownBy (w.setRow g new) (some g) := by
  refine ⟨rfl, rfl, rfl, by simp [World.setRow], fun i hi hne => ?_⟩
  unfold World.setRow
  simp only [Array.getElem?_modify]
  rw [if_neg (fun e => hne (by rw [e]))]
theorem splice_room {α : Type} (L cs vs : List α) (N p q : Nat) (hL : L.take N = cs) (hcs : cs.length = N) (hv : vs.length = q) (hp : p ≤ N) (hN : N + q ≤ L.length) :
    (splice (splice L (p + q) (cs.drop p)) p vs).take (N + q) = cs.take p ++ vs ++ cs.drop p := by
  subst hv
  have e1 : (splice L (p + vs.length) (cs.drop p)).take p = cs.take p := by
    unfold splice
    rw [List.append_assoc, List.take_append_of_le_length (by simp; omega), List.take_take, ← hL, List.take_take]
    congr 1; omega
  have e2 : (splice L (p + vs.length) (cs.drop p)).drop (p + vs.length) = cs.drop p ++ L.drop (N + vs.length) := by
    unfold splice
    have hl : (L.take (p + vs.length)).length = p + vs.length := by rw [List.length_take]; omega
    rw [List.append_assoc, List.drop_left' hl]
    congr 2
    simp only [List.length_drop]
    omega
  have e3 : (cs.take p ++ vs ++ cs.drop p).length = N + vs.length := by simp; omega
  unfold splice at e1 e2 ⊢
  rw [e1, e2, ← List.append_assoc, ← e3, List.take_left']
  rfl
theorem splice_new {α : Type} (L cs vs : List α) (N p q : Nat) (hL : L.take p = cs.take p) (hcs : cs.length = N) (hv : vs.length = q) (hp : p ≤ N) (hN : N + q ≤ L.length) :
    (splice (splice L p vs) (p + q) (cs.drop p)).take (N + q) = cs.take p ++ vs ++ cs.drop p := by
  subst hv
  have e1 : (splice L p vs).take (p + vs.length) = cs.take p ++ vs := by
    have h3 : (cs.take p ++ vs).length = p + vs.length := by simp; omega
    unfold splice
    rw [hL, ← h3, List.take_left']
    rfl
  have e3 : (cs.take p ++ vs ++ cs.drop p).length = N + vs.length := by simp; omega
  have e4 : ∀ M : List α, (cs.take p ++ vs ++ cs.drop p ++ M).take (N + vs.length) = cs.take p ++ vs ++ cs.drop p := fun M => by
    rw [← e3, List.take_left']; rfl
  have e5 : splice (splice L p vs) (p + vs.length) (cs.drop p) = (splice L p vs).take (p + vs.length) ++ cs.drop p ++ (splice L p vs).drop (p + vs.length + (cs.drop p).length) := rfl
  rw [e5, e1, e4]

/-- What Insert leaves: a row of one element more; what was there else is as it was. -/
def InsPost (t : TypeId) (sz B : Nat) (v : Value) (n : Nat) (cs : List Value) (w : World) (e : Ending) (w' : World) : Prop :=
  ∃ A' c', e = .returned (.slice A' (n + 1) c') ∧ w'.ownsRow B t sz (.slice A' (n + 1) c') (n + 1) cs ∧ w.grownBy w' v.ownBlock
theorem grown_tr {w w1 w2 : World} {r : Option Nat} (h : w.grownBy w1 r) (h2 : w1.grownBy w2 r) : w.grownBy w2 r :=
  ⟨h2.os.trans h.os, h2.tape.trans h.tape, h2.output.trans h.output, Nat.le_trans h.size h2.size, fun k hk hne => (h2.block k (Nat.lt_of_lt_of_le hk h.size) hne).trans (h.block k hk hne)⟩
theorem grown_drew (w : World) (r : Option Nat) : w.grownBy w.drew r := ⟨rfl, rfl, rfl, Nat.le_refl _, fun _ _ _ => rfl⟩
theorem grown_new {w w1 w2 : World} {r : Option Nat} {g : Nat} (h : w.grownBy w1 r) (hg : w.heap.size ≤ g) (h2 : w1.grownBy w2 (some g)) : w.grownBy w2 r :=
  ⟨h2.os.trans h.os, h2.tape.trans h.tape, h2.output.trans h.output, Nat.le_trans h.size h2.size, fun k hk hne => (h2.block k (Nat.lt_of_lt_of_le hk h.size) (fun e => by injection e; omega)).trans (h.block k hk hne)⟩
theorem grown_alloc (w : World) (o : Obj) (r : Option Nat) : w.grownBy (w.alloc o) r := World.grownBy_alloc w o r
theorem blk_at {w : World} {g : Nat} {t : TypeId} {cs : Array Value} (h : Blk w g t cs) {l : List Value} (hl : cs.toList = l) {j : Nat} {v : Value} (hj : l[j]? = some v) : w.cell? ⟨g, j, none⟩ = some v := by
  rw [h.cell, ← hj, ← hl]; simp
theorem shape_blk {w : World} {g : Nat} {t : TypeId} {cs : Array Value} (h : Blk w g t cs) : w.shape? g = some (t, cs.size) := by
  unfold Blk at h
  simp [World.shape?, h]

set_option maxRecDepth 100000 in
set_option maxHeartbeats 4000000 in
/-- slices.Insert at []api.Pend, the place is the end. -/
theorem InsertP_end (B : Nat) (A : Option Addr) (n c vb : Nat) (cs vs : List Value) (w : World) (hown : w.ownsRow B 33 3 (.slice A n c) n cs) (hB : B ≤ w.heap.size) (hn : n ≤ 1000000)
    (hv : vs.length = 3) (kv : Blk w vb 33 vs.toArray) (h1v : ∀ v ∈ vs, v.oneCell' = true) :
    Calls Tryd.prog 82 #[.slice A n c, .int .i64 n, .slice (some ⟨vb, 0, none⟩) 1 1] w (InsPost 33 3 B (.slice A n c) n (cs ++ vs) w) := by
  obtain ⟨i0, hi, hz0, hz1, hz2⟩ := info_parts infoP
  have HO := Lib.hid hown
  have RV := Lib.hid (show Reads w (vb + 1) 3 (some ⟨vb, 0, none⟩) 1 vs from ⟨by rw [hv], fun _ => ⟨_, rfl, Nat.lt_succ_self _, fun j v hj => by
    rw [Addr.add_lit, Nat.zero_add]
    exact blk_at kv (by simp) hj⟩⟩)
  clear hown kv
  go_enter Tryd.func82, Tryd.ntmps82
  go_wp2_with (at_builtin; refine wpList_append_any _ rfl (.tmp 23) (.tmp 24) 24 rfl B 33 i0 _ 3 24 Tryd.underlying24 hi hz0 hz1 hz2 rfl (by decide) (.slice A n c) n cs rfl HO.out (vb + 1) (some ⟨vb, 0, none⟩) 1 1 vs rfl RV.out h1v (by unfold maxLen; omega) (by omega) hB ?_; intro v3 w3 hown3 hg3 hat3)
  all_goals
    go_ret
    obtain ⟨A3, c3, rfl, hc3⟩ := own_slice hown3
    exact ⟨A3, c3, rfl, hown3, by cases A <;> exact hg3⟩

set_option maxRecDepth 100000 in
set_option maxHeartbeats 4000000 in
/-- .. a place ahead of an element, and there is room. -/
theorem InsertP_shift (B g n c i vb : Nat) (cur : Array Value) (cs vs : List Value) (w : World) (kg : Blk w g 33 cur) (hBg : B ≤ g) (hc : c ≤ maxLen) (hcur : cur.size = c * 3) (hcs : cur.toList.take (n * 3) = cs) (hn : n ≤ 1000000)
    (hi : i < n) (hroom : n + 1 ≤ c) (hv : vs.length = 3) (kv : Blk w vb 33 vs.toArray) (h1v : ∀ v ∈ vs, v.oneCell' = true) (h1c : ∀ v ∈ cs, v.oneCell' = true) (hne : vb ≠ g) :
    Calls Tryd.prog 82 #[.slice (some ⟨g, 0, none⟩) n c, .int .i64 i, .slice (some ⟨vb, 0, none⟩) 1 1] w (InsPost 33 3 B (.slice (some ⟨g, 0, none⟩) n c) n (cs.take (i * 3) ++ vs ++ cs.drop (i * 3)) w) := by
  have hcl : cs.length = n * 3 := by rw [← hcs, List.length_take, Array.length_toList]; omega
  have hsz : (Tryd.prog.info? 33).map (·.size) = some 3 := by kernel_rfl
  have hz1 : ¬ ((i : Int) = (n : Int)) := by omega
  have mixed : Tryd.prog.follows Departure.mixedOrders = true := by kernel_rfl
  have hc63 : c ≤ 9223372036854775807 := by unfold maxLen at hc; omega
  have hov : ∀ lb cb, (callFunc 88 #[.slice (some ⟨vb, 0, none⟩) 1 1, .slice (some ⟨g, (i + 1) * 3, none⟩) lb cb]).run Tryd.prog w = .ok (.value (.bool false)) w := fun lb cb => by
    rw [run_callFunc_extern Tryd.func88 (by kernel_rfl) (by kernel_rfl) (by kernel_rfl) (e := Extern.SlicesOverlaps.overlaps #[24, 24] #[4]) (by kernel_rfl),
      Lib.run_overlaps_apart w 24 4 33 Tryd.underlying24 3 (fun w => by obtain ⟨i1, h1, h2⟩ := Option.map_eq_some_iff.1 hsz; simp [Go.sizeOf, typeInfo, h1, h2]) ⟨vb, 0, none⟩ ⟨g, (i + 1) * 3, none⟩ 1 1 lb cb hne _ _ _ _ (shape_blk kv) (shape_blk kg) (by omega) (kv.frozen 0) (kv.frozen _)]
    rfl
  have hb1 : (0 : Int) ≤ (i : Int) + (1 : Int) := by omega
  have hw1 : IntKind.i64.wrap ((i : Int) + (1 : Int)) = (i : Int) + (1 : Int) := by rw [IntKind.wrap_i64]; omega
  have hb3 : (i : Int) ≤ (n : Int) + (1 : Int) := by omega
  have hin : i ≤ n := by omega
  have htn : ((i : Int) + (1 : Int)).toNat = i + 1 := by omega
  have hb2 : ¬ (c = i + 1) := by omega
  have hb4 : ¬ (c = i) := by omega
  have hdl : (cs.drop (i * 3)).length = (n - i) * 3 := by rw [List.length_drop, hcl]; try omega
  have hkg' := kg
  unfold Blk at hkg'
  have hcp1 : ∀ ty dc sc, (Builtin.copy_ #[24, 24] ty #[.slice (some ⟨g, (i + 1) * 3, none⟩) (n - i) dc, .slice (some ⟨g, i * 3, none⟩) (n + 1 - i) sc]).run Tryd.prog w.drew = .ok (goInt (Nat.min (n + 1 - i) (n - i))) (w.drew.setRow g (splice cur.toList ((i + 1) * 3) (cs.drop (i * 3))).toArray) := fun ty dc sc =>
    run_copy_rowN w.drew _ _ ty 33 3 g ((i + 1) * 3) (n - i) dc ⟨g, i * 3, none⟩ (n + 1 - i) sc cur 33 (cs.drop (i * 3)) Tryd.underlying24 hsz hkg' (by rw [hdl]; simp only [Nat.min_def]; split <;> omega)
      (fun j v hj => by
        rw [List.getElem?_drop, ← hcs, List.getElem?_take] at hj
        split at hj
        · rw [Addr.add_lit]; exact blk_at (w := w) kg rfl hj
        · cases hj) (by rw [hdl, hcur]; omega) (fun v hv => h1c v (List.mem_of_mem_drop hv))
  obtain ⟨L1, hL1⟩ : ∃ L1, L1 = splice cur.toList ((i + 1) * 3) (cs.drop (i * 3)) := ⟨_, rfl⟩
  have hl1 : L1.length = c * 3 := by rw [hL1, length_splice _ _ _ (by rw [hdl, Array.length_toList, hcur]; omega), Array.length_toList, hcur]
  rw [← hL1] at hcp1
  obtain ⟨W1, hW1⟩ : ∃ W1, W1 = w.drew.setRow g L1.toArray := ⟨_, rfl⟩
  have kd : Blk w.drew g 33 cur := kg
  have kg1 : Blk W1 g 33 L1.toArray := by rw [hW1]; exact blk_setRow kd
  have gr1 : w.drew.grownBy W1 (some g) := by rw [hW1]; exact grown_setRow _ _ _
  have kvd : Blk w.drew vb 33 vs.toArray := kv
  have kv1 : Blk W1 vb 33 vs.toArray := by
    unfold Blk at kvd ⊢
    rw [gr1.block vb (Array.getElem?_eq_some_iff.1 kvd).1 (fun e => hne (by injection e))]
    exact kvd
  rw [← hW1] at hcp1
  have hkg1 := kg1
  unfold Blk at hkg1
  have hcp2 : ∀ ty dc, (Builtin.copy_ #[24, 24] ty #[.slice (some ⟨g, i * 3, none⟩) (n + 1 - i) dc, .slice (some ⟨vb, 0, none⟩) 1 1]).run Tryd.prog W1 = .ok (goInt (Nat.min 1 (n + 1 - i))) (W1.setRow g (splice L1 (i * 3) vs).toArray) := fun ty dc => by
    have := run_copy_rowN (P := Tryd.prog) W1 24 24 ty 33 3 g (i * 3) (n + 1 - i) dc ⟨vb, 0, none⟩ 1 1 L1.toArray 33 vs Tryd.underlying24 hsz hkg1 (by rw [hv]; simp only [Nat.min_def]; split <;> omega)
      (fun j v hj => by
        rw [Addr.add_lit, Nat.zero_add]; exact blk_at kv1 (by simp) hj) (by rw [hv]; simp only [List.size_toArray, hl1]; omega) h1v
    exact this
  have K1 := Lib.hid kg1
  have G1 := Lib.hid gr1
  have FIN := Lib.hid (show (splice L1 (i * 3) vs).take ((n + 1) * 3) = cs.take (i * 3) ++ vs ++ cs.drop (i * 3) by
    have := splice_room cur.toList cs vs (n * 3) (i * 3) 3 hcs hcl hv (by omega) (by rw [Array.length_toList, hcur]; omega)
    rw [hL1, show (i + 1) * 3 = i * 3 + 3 by omega, show (n + 1) * 3 = n * 3 + 3 by omega]
    exact this)
  have HL := Lib.hid (show (splice L1 (i * 3) vs).length = c * 3 by rw [length_splice _ _ _ (by rw [hv, hl1]; omega), hl1])
  have HFL := Lib.hid (show (cs.take (i * 3) ++ vs ++ cs.drop (i * 3)).length = (n + 1) * 3 by rw [← FIN.out, List.length_take, HL.out]; omega)
  clear kg hkg' hW1 kd kg1 kv kv1 kvd gr1 hL1 hl1 hkg1 hcs hcl hdl hcur h1v h1c
  go_enter Tryd.func82, Tryd.ntmps82
  go_wp2_with (simp only [hov])
  go_region_law_o (refine step_copy_runI rfl _ _ 24 24 rfl _ _ (by simp [Act.eval, Act.put]) (by simp [Act.eval, Act.put]) (hcp1 _ _ _) ?_)
  go_wp2_with (at_builtin; refine wpList_copy_runI _ rfl _ _ 24 24 rfl _ _ rfl rfl (hcp2 _ _) ?_)
  go_ret
  refine ⟨_, _, rfl, ⟨(by simpa using HFL.out), .inr ⟨g, c, (splice L1 (i * 3) vs).toArray, rfl, hBg, blk_setRow K1.out, hroom, hc, by rw [List.size_toArray]; simpa using HL.out, by simpa using FIN.out⟩⟩, ?_⟩
  exact grown_tr (grown_drew _ _) (grown_tr G1.out (grown_setRow _ _ _))

set_option maxRecDepth 100000 in
set_option maxHeartbeats 4000000 in
/-- .. and there is none: a new row. -/
theorem InsertP_grow (B g n c i vb : Nat) (cur : Array Value) (cs vs : List Value) (w : World) (kg : Blk w g 33 cur) (hB : B ≤ w.heap.size) (hnc : n ≤ c) (hcur : cur.size = c * 3) (hcs : cur.toList.take (n * 3) = cs) (hn : n ≤ 1000000)
    (hi : i < n) (hroom : c < n + 1) (hv : vs.length = 3) (kv : Blk w vb 33 vs.toArray) (h1v : ∀ v ∈ vs, v.oneCell' = true) (h1c : ∀ v ∈ cs, v.oneCell' = true) :
    Calls Tryd.prog 82 #[.slice (some ⟨g, 0, none⟩) n c, .int .i64 i, .slice (some ⟨vb, 0, none⟩) 1 1] w (InsPost 33 3 B (.slice (some ⟨g, 0, none⟩) n c) n (cs.take (i * 3) ++ vs ++ cs.drop (i * 3)) w) := by
  have hcl : cs.length = n * 3 := by rw [← hcs, List.length_take, Array.length_toList]; omega
  obtain ⟨i0, hi0, hz0, hzs, hzb⟩ := info_parts infoP
  have hsz : (Tryd.prog.info? 33).map (·.size) = some 3 := by kernel_rfl
  have hz2 : ¬ ((i : Int) = (n : Int)) := by omega
  have mixed : Tryd.prog.follows Departure.mixedOrders = true := by kernel_rfl
  have hz3 : (c : Int) < (n : Int) + (1 : Int) := by omega
  have hkk : (n : Int) + (1 : Int) - (i : Int) = ((n + 1 - i : Nat) : Int) := by omega
  have hik : i + (n + 1 - i) = n + 1 := by omega
  have hcell : ∀ j v, cs[j]? = some v → w.cell? ⟨g, j, none⟩ = some v := fun j v hj => by
    rw [← hcs, List.getElem?_take] at hj
    split at hj
    · exact blk_at kg rfl hj
    · cases hj
  have hold : (Builtin.firstCells i0.size i (.slice (some ⟨g, 0, none⟩) i c)).run Tryd.prog w.drew = .ok (cs.take (i * 3)).toArray w.drew := by
    rw [hzs]
    exact run_firstCells_some w.drew 3 i ⟨g, 0, none⟩ i c (cs.take (i * 3)) (by rw [List.length_take, hcl]; omega) (fun j v hj => by
      rw [Addr.add_lit, Nat.zero_add]
      rw [List.getElem?_take] at hj
      split at hj
      · exact hcell j v hj
      · cases hj)
  obtain ⟨G, hG⟩ : ∃ G, G = grownCap w (n + 1) c 33 := ⟨_, rfl⟩
  obtain ⟨ROW, hROW⟩ : ∃ ROW : Array Value, ROW = (cs.take (i * 3)).toArray ++ Builtin.zeroCells (.agg #[.int .i64 0, .int .i64 0, .int .i64 0] : Value).cells (n + 1 - i) ++ Builtin.zeroCells (.agg #[.int .i64 0, .int .i64 0, .int .i64 0] : Value).cells (G - (n + 1)) := ⟨_, rfl⟩
  have hGn : n + 1 ≤ G := by rw [hG]; exact grownCap_ge w _ _ _
  have hGm : G ≤ maxLen := by rw [hG]; exact grownCap_le_maxLen w (n + 1) c _ (by unfold maxLen; omega)
  have hG63 : G ≤ 9223372036854775807 := by unfold maxLen at hGm; omega
  have hrz : ∀ ty, (Builtin.append_ #[24, 3] ty #[.slice (some ⟨g, 0, none⟩) i c, .int .i64 ((n : Int) + (1 : Int) - (i : Int))]).run Tryd.prog w =
      .ok (.slice (some ⟨w.heap.size, 0, none⟩) (n + 1) G) (w.drew.alloc (.cells ROW 33)) := fun ty => by
    have h := Lib.run_append_grow_zeros w 24 3 ty 33 i0 _ .i64 .i64 Tryd.underlying24 Tryd.underlying3 hi0 hz0 (some ⟨g, 0, none⟩) i c (cs.take (i * 3)) hold (n + 1 - i) (by omega) (by omega) (by omega) (by omega) (by rw [hzb]; omega) (by rw [hzb, hik]; exact growslice_fits hroom (by omega))
    rw [hik, ← hG, ← hROW] at h
    rw [hkk]
    exact h
  have hRs : ROW.size = G * 3 := by
    rw [hROW]
    simp only [Array.size_append, List.size_toArray, List.length_take, hcl, size_zeroCells]
    rw [show (.agg #[.int .i64 0, .int .i64 0, .int .i64 0] : Value).cells.size = 3 from rfl]
    omega
  have hRt : ROW.toList.take (i * 3) = cs.take (i * 3) := by
    rw [hROW]
    simp only [Array.toList_append, List.append_assoc]
    exact List.take_left' (by rw [List.length_take, hcl]; omega)
  obtain ⟨W1, hW1⟩ : ∃ W1, W1 = w.drew.alloc (.cells ROW 33) := ⟨_, rfl⟩
  rw [← hW1] at hrz
  have hbw : g < w.heap.size := kg.lt
  have hvw : vb < w.heap.size := kv.lt
  have gr1 : w.grownBy W1 (Value.slice (some ⟨g, 0, none⟩) n c).ownBlock := by rw [hW1]; exact grown_tr (grown_drew _ _) (grown_alloc _ _ _)
  have kn1 : Blk W1 w.heap.size 33 ROW := by rw [hW1]; exact heap_alloc_new _ _
  have kd : Blk w.drew g 33 cur := kg
  have kvd : Blk w.drew vb 33 vs.toArray := kv
  have kg1 : Blk W1 g 33 cur := by rw [hW1]; exact kd.alloc _
  have kv1 : Blk W1 vb 33 vs.toArray := by rw [hW1]; exact kvd.alloc _
  have hkn1 := kn1
  unfold Blk at hkn1
  obtain ⟨L2, hL2⟩ : ∃ L2, L2 = splice ROW.toList (i * 3) vs := ⟨_, rfl⟩
  have hcpA : ∀ ty dc, (Builtin.copy_ #[24, 24] ty #[.slice (some ⟨w.heap.size, i * 3, none⟩) (n + 1 - i) dc, .slice (some ⟨vb, 0, none⟩) 1 1]).run Tryd.prog W1 = .ok (goInt (Nat.min 1 (n + 1 - i))) (W1.setRow w.heap.size L2.toArray) := fun ty dc => by
    rw [hL2]
    exact run_copy_rowN (P := Tryd.prog) W1 24 24 ty 33 3 w.heap.size (i * 3) (n + 1 - i) dc ⟨vb, 0, none⟩ 1 1 ROW 33 vs Tryd.underlying24 hsz hkn1 (by rw [hv]; simp only [Nat.min_def]; split <;> omega)
      (fun j v hj => by
        rw [Addr.add_lit, Nat.zero_add]; exact blk_at kv1 (by simp) hj) (by rw [hv, hRs]; omega) h1v
  have hl2 : L2.length = G * 3 := by rw [hL2, length_splice _ _ _ (by rw [hv, Array.length_toList, hRs]; omega), Array.length_toList, hRs]
  obtain ⟨W2, hW2⟩ : ∃ W2, W2 = W1.setRow w.heap.size L2.toArray := ⟨_, rfl⟩
  rw [← hW2] at hcpA
  have kn2 : Blk W2 w.heap.size 33 L2.toArray := by rw [hW2]; exact blk_setRow kn1
  have gr2 : W1.grownBy W2 (some w.heap.size) := by rw [hW2]; exact grown_setRow _ _ _
  have kg2 : Blk W2 g 33 cur := by
    unfold Blk at kg1 ⊢
    rw [gr2.block g (Array.getElem?_eq_some_iff.1 kg1).1 (fun e => by injection e; omega)]
    exact kg1
  have hdl : (cs.drop (i * 3)).length = (n - i) * 3 := by rw [List.length_drop, hcl]; try omega
  have hkn2 : W2.drew.heap[w.heap.size]? = some (.cells L2.toArray 33 (0, 0)) := kn2
  have kg2' : Blk W2.drew g 33 cur := kg2
  have hcpB : ∀ ty dc sc, (Builtin.copy_ #[24, 24] ty #[.slice (some ⟨w.heap.size, (i + 1) * 3, none⟩) (n - i) dc, .slice (some ⟨g, i * 3, none⟩) (n - i) sc]).run Tryd.prog W2.drew = .ok (goInt (Nat.min (n - i) (n - i))) (W2.drew.setRow w.heap.size (splice L2 ((i + 1) * 3) (cs.drop (i * 3))).toArray) := fun ty dc sc => by
    have := run_copy_rowN (P := Tryd.prog) W2.drew 24 24 ty 33 3 w.heap.size ((i + 1) * 3) (n - i) dc ⟨g, i * 3, none⟩ (n - i) sc L2.toArray 33 (cs.drop (i * 3)) Tryd.underlying24 hsz hkn2 (by rw [hdl]; simp only [Nat.min_def]; split <;> omega)
      (fun j v hj => by
        rw [List.getElem?_drop, ← hcs, List.getElem?_take] at hj
        split at hj
        · rw [Addr.add_lit]; exact blk_at kg2' rfl hj
        · cases hj) (by rw [hdl]; simp only [List.size_toArray, hl2]; omega) (fun v hv => h1c v (List.mem_of_mem_drop hv))
    exact this
  have KN := Lib.hid kn2
  have GR := Lib.hid (grown_tr (grown_new gr1 (Nat.le_refl _) gr2) (grown_drew _ _))
  have FIN := Lib.hid (show (splice L2 ((i + 1) * 3) (cs.drop (i * 3))).take ((n + 1) * 3) = cs.take (i * 3) ++ vs ++ cs.drop (i * 3) by
    have := splice_new ROW.toList cs vs (n * 3) (i * 3) 3 hRt hcl hv (by omega) (by rw [Array.length_toList, hRs]; omega)
    rw [hL2, show (i + 1) * 3 = i * 3 + 3 by omega, show (n + 1) * 3 = n * 3 + 3 by omega]
    exact this)
  have HL := Lib.hid (show (splice L2 ((i + 1) * 3) (cs.drop (i * 3))).length = G * 3 by rw [length_splice _ _ _ (by rw [hdl, hl2]; omega), hl2])
  have HFL := Lib.hid (show (cs.take (i * 3) ++ vs ++ cs.drop (i * 3)).length = (n + 1) * 3 by rw [← FIN.out, List.length_take, HL.out]; omega)
  have hw1 : IntKind.i64.wrap ((i : Int) + (1 : Int)) = (i : Int) + (1 : Int) := by rw [IntKind.wrap_i64]; omega
  have hb1 : (0 : Int) ≤ (i : Int) + (1 : Int) := by omega
  have hin : i ≤ n := by omega
  have htn : ((i : Int) + (1 : Int)).toNat = i + 1 := by omega
  have hb3 : (i : Int) ≤ (n : Int) := by omega
  have hGi : ¬ (G = i) := by omega
  have hGim : ¬ (G = i + 1) := by omega
  have hci : ¬ (c = i) := by omega
  have HW1 := Lib.hid hW1
  clear hkk hik hold hROW hG hRs hRt kg kv kg1 kg2 kg2' kd kv1 kvd kn1 kn2 hkn1 hkn2 gr1 gr2 hL2 hl2 hW1 hW2 hcs hcl hdl hcur h1v h1c hcell hi0 hz0 hzs hzb
  go_enter Tryd.func82, Tryd.ntmps82
  go_wp2_with (first
    | (at_builtin; refine Lib.wpList_append_run _ rfl _ _ _ _ rfl _ _ rfl rfl _ _ (hrz _) ?_)
    | (at_builtin; refine wpList_copy_runI _ rfl _ _ 24 24 rfl _ _ rfl rfl (hcpA _ _) ?_))
  go_region_law_o (refine step_copy_runI rfl _ _ 24 24 rfl (.slice (some ⟨w.heap.size, (i + 1) * 3, none⟩) (n - i) (G - (i + 1))) (.slice (some ⟨g, i * 3, none⟩) (n - i) (c - i)) (by simp [Act.eval, Act.put]) (by simp [Act.eval, Act.put]) (hcpB 3 (G - (i + 1)) (c - i)) ?_)
  go_wp2
  go_ret
  refine ⟨_, _, rfl, ⟨(by simpa using HFL.out), .inr ⟨w.heap.size, G, (splice L2 ((i + 1) * 3) (cs.drop (i * 3))).toArray, rfl, hB, blk_setRow KN.out, hGn, hGm, by rw [List.size_toArray]; simpa using HL.out, by simpa using FIN.out⟩⟩, ?_⟩
  exact grown_new GR.out (Nat.le_refl _) (grown_setRow _ _ _)
/-- slices.Insert at []api.Pend of one element. -/
theorem InsertP_any (B : Nat) (A : Option Addr) (n c i vb : Nat) (cs vs : List Value) (w : World) (hown : w.ownsRow B 33 3 (.slice A n c) n cs) (hB : B ≤ w.heap.size) (hn : n ≤ 1000000) (hi : i ≤ n)
    (hv : vs.length = 3) (kv : Blk w vb 33 vs.toArray) (h1v : ∀ v ∈ vs, v.oneCell' = true) (h1c : ∀ v ∈ cs, v.oneCell' = true) (hne : (Value.slice A n c).ownBlock ≠ some vb) :
    Calls Tryd.prog 82 #[.slice A n c, .int .i64 i, .slice (some ⟨vb, 0, none⟩) 1 1] w (InsPost 33 3 B (.slice A n c) n (cs.take (i * 3) ++ vs ++ cs.drop (i * 3)) w) := by
  by_cases hin : i = n
  · subst hin
    have hl := hown.1
    rw [List.take_of_length_le (by omega), List.drop_of_length_le (by omega), List.append_nil]
    exact InsertP_end B A i c vb cs vs w hown hB hn hv kv h1v
  rcases hown.2 with ⟨_, h0⟩ | ⟨g, cap, cur, he, hBg, hg, hnc, hcm, hcur, hcs⟩
  · omega
  · injection he with he1 _ he2
    subst he1; subst he2
    by_cases hr : n + 1 ≤ c
    · exact InsertP_shift B g n c i vb cur cs vs w hg hBg hcm (by omega) (by simpa using hcs) hn (by omega) hr hv kv h1v h1c (fun e => hne (by rw [e]; rfl))
    · exact InsertP_grow B g n c i vb cur cs vs w hg hB hnc (by omega) (by simpa using hcs) hn (by omega) (by omega) hv kv h1v h1c

end Go.Proofs.YtbpkckahonmpkaaDoor
namespace Go.Proofs.YtbpkckahonmpkaaDoor
open Go.RowKit

structure Only (S : Nat → Prop) (a w : World) : Prop where
  os : w.os = a.os
  tape : w.tape = a.tape
  output : w.output = a.output
  size : a.heap.size ≤ w.heap.size
  block : ∀ k, k < a.heap.size → ¬ S k → w.heap[k]? = a.heap[k]?

section
variable {S S' : Nat → Prop} {a b w w' : World}
theorem Only.refl (S : Nat → Prop) (w : World) : Only S w w := ⟨rfl, rfl, rfl, Nat.le_refl _, fun _ _ _ => rfl⟩
theorem Only.trans (h : Only S a b) (k : Only S b w) : Only S a w :=
  ⟨k.os.trans h.os, k.tape.trans h.tape, k.output.trans h.output, Nat.le_trans h.size k.size, fun i hi hn => (k.block i (Nat.lt_of_lt_of_le hi h.size) hn).trans (h.block i hi hn)⟩
theorem Only.mono (h : Only S a w) (hS : ∀ g, g < a.heap.size → S g → S' g) : Only S' a w := ⟨h.os, h.tape, h.output, h.size, fun i hi hn => h.block i hi fun hs => hn (hS i hi hs)⟩
/-- What the second step turns is the first step's, or new. -/
theorem Only.step (h : Only S a b) (k : Only S' b w) (hS : ∀ g, g < a.heap.size → S' g → S g) : Only S a w :=
  ⟨k.os.trans h.os, k.tape.trans h.tape, k.output.trans h.output, Nat.le_trans h.size k.size, fun i hi hn => (k.block i (Nat.lt_of_lt_of_le hi h.size) (fun hs => hn (hS i hi hs))).trans (h.block i hi hn)⟩
theorem Only.below {B : Nat} (h : Only S a w) (hB : B ≤ a.heap.size) (hS : ∀ g, S g → B ≤ g) : Below B a w := ⟨h.os, h.tape, h.output, h.size, fun i hi => h.block i (by omega) fun hs => by have := hS i hs; omega⟩
theorem Only.drew (h : Only S a w) : Only S a w.drew := ⟨h.os, h.tape, h.output, h.size, h.block⟩
theorem Only.alloc (h : Only S a w) (o : Obj) : Only S a (w.alloc o) :=
  ⟨h.os, h.tape, h.output, Nat.le_trans h.size (by simp), fun i hi hn => (Below.heap_alloc w o i (Nat.lt_of_lt_of_le hi h.size)).trans (h.block i hi hn)⟩
theorem Only.set (h : Only S a w) {g o : Nat} (hp : S g ∨ a.heap.size ≤ g) (u : Value) : Only S a (w.setCell ⟨g, o, none⟩ u) :=
  ⟨h.os, h.tape, h.output, by simpa [World.setCell] using h.size, fun i hi hn => (Below.heap_setCell w ⟨g, o, none⟩ u i (by
    rintro rfl
    rcases hp with hp | hp
    · exact hn hp
    · exact absurd hi (by simpa using hp))).trans (h.block i hi hn)⟩
theorem Only.grown {row : Option Nat} (h : Only S a b) (hg : b.grownBy w row) (hr : ∀ k, row = some k → k < a.heap.size → S k) : Only S a w :=
  ⟨hg.os.trans h.os, hg.tape.trans h.tape, hg.output.trans h.output, Nat.le_trans h.size hg.size, fun i hi hn => (hg.block i (Nat.lt_of_lt_of_le hi h.size) (fun e => hn (hr i e.symm hi))).trans (h.block i hi hn)⟩
theorem Only.blk {g : Nat} {t : TypeId} {cs : Array Value} (h : Only S a w) (k : Blk a g t cs) (hn : ¬ S g) : Blk w g t cs := (h.block g k.lt hn).trans k
theorem Only.cell {p : Addr} (h : Only S a w) (hp : p.block < a.heap.size) (hn : ¬ S p.block) : w.cell? p = a.cell? p := World.cell?_of_block (h.block _ hp hn)
theorem Only.reads {B size n : Nat} {A : Option Addr} {xs : List Value} (h : Only S a w) (k : Reads a B size A n xs) (hB : B ≤ a.heap.size) (hn : ∀ g, g < B → ¬ S g) : Reads w B size A n xs :=
  k.keep fun p hp => h.cell (by omega) (hn _ hp)
theorem Only.own {base : Nat} {e : TypeId} {size n : Nat} {v : Value} {xs : List Value} (h : Only S a w) (k : a.ownsRow base e size v n xs) (hn : ∀ g, base ≤ g → ¬ S g) : w.ownsRow base e size v n xs := by
  refine ⟨k.1, ?_⟩
  rcases k.2 with h0 | ⟨g, cap, cur, hv, hg, hh, hr⟩
  · exact .inl h0
  · refine .inr ⟨g, cap, cur, hv, hg, ?_, hr⟩
    have hlt : g < a.heap.size := by
      rcases Nat.lt_or_ge g a.heap.size with h1 | h1
      · exact h1
      · rw [Array.getElem?_eq_none h1] at hh; cases hh
    exact (h.block g hlt (hn g hg)).trans hh
end
/-- A row of the call's own from a place on, read. -/
theorem own_set {w : World} {base : Nat} {e : TypeId} {size n : Nat} {v : Value} {xs : List Value} (k : w.ownsRow base e size v n xs) {g o : Nat} (hg : g < base) (u : Value) : (w.setCell ⟨g, o, none⟩ u).ownsRow base e size v n xs :=
  ((Only.refl (fun x => x = g) w).set (.inl rfl) u).own k (fun x hx hs => by omega)
end Go.Proofs.YtbpkckahonmpkaaDoor
namespace Go.Proofs.YtbpkckahonmpkaaDoor
open Go.RowKit

/-- A copy: a slice that owns its row. -/
def CopyOwn (t : TypeId) (size n : Nat) (xs : List Value) (w : World) (e : Ending) (w' : World) : Prop :=
  ∃ A c, e = .returned (.slice A n c) ∧ w'.ownsRow w.heap.size t size (.slice A n c) n xs ∧ Below w.heap.size w w'
set_option maxHeartbeats 400000 in
theorem CloneI_own (A : Option Addr) (l : List Int) (c : Nat) (w : World) (hr : Reads w w.heap.size 1 A l.length (cellsI .i64 l)) (hl : l.length ≤ 1000000) :
    Calls Tryd.prog 44 #[.slice A l.length c] w (CopyOwn 3 1 l.length (cellsI .i64 l) w) := by
  obtain ⟨i0, hi, hz0, hz1, hz2⟩ := info_parts infoI
  have HR := Lib.hid hr
  cases A with
  | none =>
    have hn : l = [] := by
      rcases Nat.eq_zero_or_pos l.length with h0 | h0
      · exact List.eq_nil_of_length_eq_zero h0
      · obtain ⟨ad, hx, _⟩ := hr.2 h0
        cases hx
    subst hn
    clear hr
    have hnil := fun W => Lib.run_eql_slice_nil (P := Tryd.prog) W 23 _ none 0 c 0 0 Tryd.underlying23
    go_enter Tryd.func44, Tryd.ntmps44
    go_wp2
    go_ret
    exact ⟨none, 0, rfl, World.ownsRow_nil _ _ _ _, Below.refl _ _⟩
  | some ad =>
    clear hr
    have hnil := fun W => Lib.run_eql_slice_nil (P := Tryd.prog) W 23 _ (some ad) l.length c 0 0 Tryd.underlying23
    go_enter Tryd.func44, Tryd.ntmps44
    go_wp2_with (at_builtin; refine wpList_append_any _ rfl (.tmp 5) (.tmp 6) 23 rfl w.heap.size 3 i0 (.int .i64 0) 1 8 Tryd.underlying23 hi hz0 hz1 hz2 rfl (by decide) (.slice (some ⟨w.heap.size, 0, none⟩) 0 0) 0 [] rfl (own_empty' _ _ _) w.heap.size (some ad) l.length c (cellsI .i64 l) rfl (HR.out.alloc (Nat.le_refl _) _) (cellsI_one _) (by unfold maxLen; omega) (by omega) (by simp) ?_; intro v3 w3 hown3 hg3 hat3)
    go_ret
    rw [Nat.zero_add, List.nil_append] at hown3
    obtain ⟨A3, c3, rfl, hc3⟩ := own_slice hown3
    exact ⟨A3, c3, rfl, hown3, ((Below.refl _ w).alloc (Nat.le_refl _) _).grown hg3 (by simp) (fun k e => by simp [Value.ownBlock] at e; omega)⟩

set_option maxHeartbeats 400000 in
theorem CloneP_own (A : Option Addr) (l : List Pd) (c : Nat) (w : World) (hr : Reads w w.heap.size 3 A l.length (cellsP l)) (hl : l.length ≤ 1000000) :
    Calls Tryd.prog 45 #[.slice A l.length c] w (CopyOwn 33 3 l.length (cellsP l) w) := by
  obtain ⟨i0, hi, hz0, hz1, hz2⟩ := info_parts infoP
  have HR := Lib.hid hr
  cases A with
  | none =>
    have hn : l = [] := by
      rcases Nat.eq_zero_or_pos l.length with h0 | h0
      · exact List.eq_nil_of_length_eq_zero h0
      · obtain ⟨ad, hx, _⟩ := hr.2 h0
        cases hx
    subst hn
    clear hr
    have hnil := fun W => Lib.run_eql_slice_nil (P := Tryd.prog) W 24 _ none 0 c 0 0 Tryd.underlying24
    go_enter Tryd.func45, Tryd.ntmps45
    go_wp2
    go_ret
    exact ⟨none, 0, rfl, World.ownsRow_nil _ _ _ _, Below.refl _ _⟩
  | some ad =>
    clear hr
    have hnil := fun W => Lib.run_eql_slice_nil (P := Tryd.prog) W 24 _ (some ad) l.length c 0 0 Tryd.underlying24
    go_enter Tryd.func45, Tryd.ntmps45
    go_wp2_with (at_builtin; refine wpList_append_any _ rfl (.tmp 5) (.tmp 6) 24 rfl w.heap.size 33 i0 _ 3 24 Tryd.underlying24 hi hz0 hz1 hz2 rfl (by decide) (.slice (some ⟨w.heap.size, 0, none⟩) 0 0) 0 [] rfl (own_empty' _ _ _) w.heap.size (some ad) l.length c (cellsP l) rfl (HR.out.alloc (Nat.le_refl _) _) (cellsP_one _) (by unfold maxLen; omega) (by omega) (by simp) ?_; intro v3 w3 hown3 hg3 hat3)
    go_ret
    rw [Nat.zero_add, List.nil_append] at hown3
    obtain ⟨A3, c3, rfl, hc3⟩ := own_slice hown3
    exact ⟨A3, c3, rfl, hown3, ((Below.refl _ w).alloc (Nat.le_refl _) _).grown hg3 (by simp) (fun k e => by simp [Value.ownBlock] at e; omega)⟩
/-- A transactional id that owns its lists, each in a block of its own. -/
def CoOwn (c : Co) (w : World) (e : Ending) (w' : World) : Prop :=
  ∃ (A1 D1 : Option Addr) (c1 e1 : Nat), e = .returned (.agg #[.int .i8 c.st, .int .i64 c.pid, .int .i64 c.ep, .int .i64 c.tm, .int .i64 c.th, .slice A1 c.ps.length c1, .slice D1 c.qs.length e1, .int .i64 c.ag]) ∧ w'.ownsRow w.heap.size 3 1 (.slice A1 c.ps.length c1) c.ps.length (cellsI .i64 c.ps) ∧ w'.ownsRow w.heap.size 33 3 (.slice D1 c.qs.length e1) c.qs.length (cellsP c.qs) ∧
    (∀ y, (Value.slice A1 c.ps.length c1).ownBlock = some y → (Value.slice D1 c.qs.length e1).ownBlock ≠ some y) ∧ Below w.heap.size w w'

set_option maxRecDepth 100000 in
set_option maxHeartbeats 1000000 in
theorem own_own (c : Co) (A1 D1 : Option Addr) (c1 e1 : Nat) (w : World) (h1 : CoR w w.heap.size c A1 D1) :
    Calls Tryd.prog 71 #[(.agg #[.int .i8 c.st, .int .i64 c.pid, .int .i64 c.ep, .int .i64 c.tm, .int .i64 c.th, .slice A1 c.ps.length c1, .slice D1 c.qs.length e1, .int .i64 c.ag])] w (CoOwn c w) := by
  have hps := h1.2.2.1
  have hqs := h1.2.2.2
  have h2 := (h1.al (.cells #[.int .i8 c.st, .int .i64 c.pid, .int .i64 c.ep, .int .i64 c.tm, .int .i64 c.th, .slice A1 c.ps.length c1, .slice D1 c.qs.length e1, .int .i64 c.ag] 26)).al (.cells #[.int .i8 0, .int .i64 0, .int .i64 0, .int .i64 0, .int .i64 0, .slice none 0 0, .slice none 0 0, .int .i64 0] 26)
  have HC := Lib.hid (CloneI_own A1 c.ps c1 _ h2.1 (by omega))
  have H2 := Lib.hid h2
  have K1 := Lib.hid ((Blk.new w 26 #[.int .i8 c.st, .int .i64 c.pid, .int .i64 c.ep, .int .i64 c.tm, .int .i64 c.th, .slice A1 c.ps.length c1, .slice D1 c.qs.length e1, .int .i64 c.ag]).alloc (.cells #[.int .i8 0, .int .i64 0, .int .i64 0, .int .i64 0, .int .i64 0, .slice none 0 0, .slice none 0 0, .int .i64 0] 26))
  have kk := Blk.new (w.alloc (.cells #[.int .i8 c.st, .int .i64 c.pid, .int .i64 c.ep, .int .i64 c.tm, .int .i64 c.th, .slice A1 c.ps.length c1, .slice D1 c.qs.length e1, .int .i64 c.ag] 26)) 26 #[.int .i8 0, .int .i64 0, .int .i64 0, .int .i64 0, .int .i64 0, .slice none 0 0, .slice none 0 0, .int .i64 0]
  rw [World.size_alloc] at kk
  have K2 := Lib.hid kk
  have HB := Lib.hid (bal (bal (Below.refl w.heap.size w) (.cells #[.int .i8 c.st, .int .i64 c.pid, .int .i64 c.ep, .int .i64 c.tm, .int .i64 c.th, .slice A1 c.ps.length c1, .slice D1 c.qs.length e1, .int .i64 c.ag] 26)) (.cells #[.int .i8 0, .int .i64 0, .int .i64 0, .int .i64 0, .int .i64 0, .slice none 0 0, .slice none 0 0, .int .i64 0] 26))
  have Q1 := Lib.hid h1.2.1
  clear h1 h2 kk
  go_enter Tryd.func71, Tryd.ntmps71
  go_wp2_with fail
  refine HC.out.mono ?_
  rintro e w2 ⟨A2, c2, rfl, r2, b2⟩
  have hz2 := b2.size
  simp only [World.size_alloc] at hz2 r2
  have k1 := K1.out.below b2 (by simp only [World.size_alloc]; omega)
  have k2 := K2.out.below b2 (by simp only [World.size_alloc]; omega)
  have u1 := k1.cell 5
  have u2 := k1.frozen 5
  have u3 := k1.cell 6
  have R2 := Lib.hid r2
  clear r2
  go_wp2_with fail
  clear u1 u2 u3
  have k3 := k1.set_ 5 (.slice A2 c.ps.length c2)
  have k4 := k2.far (p := ⟨w.heap.size, 5, none⟩) (by simp) (.slice A2 c.ps.length c2)
  have b3 : Below w.heap.size w (w2.setCell ⟨w.heap.size, 5, none⟩ (.slice A2 c.ps.length c2)) := bset (btrans HB.out b2) (Nat.le_refl _) _
  have rr : Reads (w2.setCell ⟨w.heap.size, 5, none⟩ (.slice A2 c.ps.length c2)) w.heap.size 3 D1 c.qs.length (cellsP c.qs) := Q1.out.below b3
  have r3 := own_set R2.out (g := w.heap.size) (o := 5) (by omega) (.slice A2 c.ps.length c2)
  have hle := b2.size
  generalize hw3 : w2.setCell ⟨w.heap.size, 5, none⟩ (.slice A2 c.ps.length c2) = w3 at *
  have hz3 : w.heap.size + 2 ≤ w3.heap.size := by rw [← hw3]; simpa [World.setCell] using hz2
  have R3 := Lib.hid r3
  clear r3
  refine (CloneP_own D1 c.qs e1 w3 (rr.more b3.size) (by omega)).mono ?_
  rintro e w4 ⟨A4, c4, rfl, r4, b4⟩
  have R5 := Lib.hid (own_below R3.out b4)
  have R4 := Lib.hid r4
  have SEP := Lib.hid (show ∀ y, (Value.slice A2 c.ps.length c2).ownBlock = some y → (Value.slice A4 c.qs.length c4).ownBlock ≠ some y from fun y hy e => by
    have h1 := (R3.out.lt y hy).2
    have h2 := (R4.out.lt y e).1
    omega)
  clear r4
  have k5 := k3.below b4 (by omega)
  have k6 := k4.below b4 (by omega)
  have x1 := k5.cell 0
  have x2 := k5.cell 1
  have x3 := k5.cell 2
  have x4 := k5.cell 3
  have x5 := k5.cell 4
  have x6 := k5.cell 5
  have x7 := k5.cell 6
  have x8 := k5.cell 7
  have x9 := k5.frozen 6
  have y0 := k6.cell 0
  have z0 := k6.frozen 0
  have y1 := k6.cell 1
  have z1 := k6.frozen 1
  have y2 := k6.cell 2
  have z2 := k6.frozen 2
  have y3 := k6.cell 3
  have z3 := k6.frozen 3
  have y4 := k6.cell 4
  have z4 := k6.frozen 4
  have y5 := k6.cell 5
  have z5 := k6.frozen 5
  have y6 := k6.cell 6
  have z6 := k6.frozen 6
  have y7 := k6.cell 7
  have z7 := k6.frozen 7
  go_wp2_with fail
  refine bodyPost_ret (v := .agg #[.int .i8 c.st, .int .i64 c.pid, .int .i64 c.ep, .int .i64 c.tm, .int .i64 c.th, .slice A2 c.ps.length c2, .slice A4 c.qs.length c4, .int .i64 c.ag]) (by simp [results, Tryd.results71, go_sem, y0, y1, y2, y3, y4, y5, y6, y7]) rfl ⟨A2, A4, c2, c4, rfl, ?_, ?_, SEP.out, ?_⟩
  · refine own_base (base := w.heap.size + 1 + 1) ?_ (by omega)
    repeat refine own_set ?_ (by omega) _
    exact R5.out
  · refine own_base (base := w3.heap.size) ?_ (by omega)
    repeat refine own_set ?_ (by omega) _
    exact R4.out
  · exact bset (bset (bset (bset (bset (bset (bset (bset (bset (btrans b3 b4) (Nat.le_refl _) _) (by omega) _) (by omega) _) (by omega) _) (by omega) _) (by omega) _) (by omega) _) (by omega) _) (by omega) _

set_option maxRecDepth 100000 in
set_option maxHeartbeats 1000000 in
theorem ongoing_any (c : Co) (A1 D1 : Option Addr) (c1 e1 : Nat) (w : World) (h1 : CoR w w.heap.size c A1 D1) :
    Calls Tryd.prog 67 #[(.agg #[.int .i8 c.st, .int .i64 c.pid, .int .i64 c.ep, .int .i64 c.tm, .int .i64 c.th, .slice A1 c.ps.length c1, .slice D1 c.qs.length e1, .int .i64 c.ag])] w (CoOwn { c with st := 2 } w) := by
  have h2 := (h1.al (.cells #[.int .i8 c.st, .int .i64 c.pid, .int .i64 c.ep, .int .i64 c.tm, .int .i64 c.th, .slice A1 c.ps.length c1, .slice D1 c.qs.length e1, .int .i64 c.ag] 26)).al (.cells #[.int .i8 0, .int .i64 0, .int .i64 0, .int .i64 0, .int .i64 0, .slice none 0 0, .slice none 0 0, .int .i64 0] 26)
  have HC := Lib.hid (own_own c A1 D1 c1 e1 _ h2)
  have K1 := Lib.hid ((Blk.new w 26 #[.int .i8 c.st, .int .i64 c.pid, .int .i64 c.ep, .int .i64 c.tm, .int .i64 c.th, .slice A1 c.ps.length c1, .slice D1 c.qs.length e1, .int .i64 c.ag]).alloc (.cells #[.int .i8 0, .int .i64 0, .int .i64 0, .int .i64 0, .int .i64 0, .slice none 0 0, .slice none 0 0, .int .i64 0] 26))
  have kk := Blk.new (w.alloc (.cells #[.int .i8 c.st, .int .i64 c.pid, .int .i64 c.ep, .int .i64 c.tm, .int .i64 c.th, .slice A1 c.ps.length c1, .slice D1 c.qs.length e1, .int .i64 c.ag] 26)) 26 #[.int .i8 0, .int .i64 0, .int .i64 0, .int .i64 0, .int .i64 0, .slice none 0 0, .slice none 0 0, .int .i64 0]
  rw [World.size_alloc] at kk
  have K2 := Lib.hid kk
  have HB := Lib.hid (bal (bal (Below.refl w.heap.size w) (.cells #[.int .i8 c.st, .int .i64 c.pid, .int .i64 c.ep, .int .i64 c.tm, .int .i64 c.th, .slice A1 c.ps.length c1, .slice D1 c.qs.length e1, .int .i64 c.ag] 26)) (.cells #[.int .i8 0, .int .i64 0, .int .i64 0, .int .i64 0, .int .i64 0, .slice none 0 0, .slice none 0 0, .int .i64 0] 26))
  clear h1 h2 kk
  go_enter Tryd.func67, Tryd.ntmps67
  go_wp2_with fail
  refine HC.out.mono ?_
  rintro e w2 ⟨A2, D2, c2, e2, rfl, r2, r3, sep, b2⟩
  have hz2 := b2.size
  simp only [World.size_alloc] at hz2 r2 r3
  have R2 := Lib.hid r2
  have R3 := Lib.hid r3
  have SEP := Lib.hid sep
  clear r2 r3 sep
  have k1 := K1.out.below b2 (by simp only [World.size_alloc]; omega)
  have k2 := K2.out.below b2 (by simp only [World.size_alloc]; omega)
  have x0 := k1.cell 0
  have f0 := k1.frozen 0
  have x1 := k1.cell 1
  have f1 := k1.frozen 1
  have x2 := k1.cell 2
  have f2 := k1.frozen 2
  have x3 := k1.cell 3
  have f3 := k1.frozen 3
  have x4 := k1.cell 4
  have f4 := k1.frozen 4
  have x5 := k1.cell 5
  have f5 := k1.frozen 5
  have x6 := k1.cell 6
  have f6 := k1.frozen 6
  have x7 := k1.cell 7
  have f7 := k1.frozen 7
  have y0 := k2.cell 0
  have z0 := k2.frozen 0
  have y1 := k2.cell 1
  have z1 := k2.frozen 1
  have y2 := k2.cell 2
  have z2 := k2.frozen 2
  have y3 := k2.cell 3
  have z3 := k2.frozen 3
  have y4 := k2.cell 4
  have z4 := k2.frozen 4
  have y5 := k2.cell 5
  have z5 := k2.frozen 5
  have y6 := k2.cell 6
  have z6 := k2.frozen 6
  have y7 := k2.cell 7
  have z7 := k2.frozen 7
  have hlt1 : w.heap.size < w2.heap.size := by omega
  have hlt2 : w.heap.size + 1 < w2.heap.size := by omega
  have B2 := Lib.hid (btrans HB.out b2)
  clear k1 k2 b2
  go_wp2_with fail
  refine bodyPost_ret (v := .agg #[.int .i8 2, .int .i64 c.pid, .int .i64 c.ep, .int .i64 c.tm, .int .i64 c.th, .slice A2 c.ps.length c2, .slice D2 c.qs.length e2, .int .i64 c.ag]) (by simp [results, Tryd.results67, go_sem, y0, y1, y2, y3, y4, y5, y6, y7]) rfl ⟨A2, D2, c2, e2, rfl, ?_, ?_, SEP.out, ?_⟩
  · refine own_base (base := w.heap.size + 1 + 1) ?_ (by omega)
    repeat refine own_set ?_ (by omega) _
    exact R2.out
  · refine own_base (base := w.heap.size + 1 + 1) ?_ (by omega)
    repeat refine own_set ?_ (by omega) _
    exact R3.out
  · repeat refine bset ?_ (by omega) _
    exact B2.out
end Go.Proofs.YtbpkckahonmpkaaDoor
namespace Go.Proofs.YtbpkckahonmpkaaDoor
open Go.RowKit

/-- How many items stand ahead. -/
def posF {α : Type} (f : α → Int) (l : List α) : Nat := (l.takeWhile (fun q => decide (f q < 0))).length
/-- The list with an item in its place. -/
def keepF {α : Type} (f : α → Int) (l : List α) (x : α) : List α :=
  match l[posF f l]? with
  | some y => if f y = 0 then l.set (posF f l) x else l.take (posF f l) ++ [x] ++ l.drop (posF f l)
  | none => l.take (posF f l) ++ [x] ++ l.drop (posF f l)
theorem posF_eq {α : Type} {f : α → Int} : ∀ {l : List α} {k : Nat}, (∀ j y, j < k → l[j]? = some y → f y < 0) → k ≤ l.length → (∀ y, l[k]? = some y → ¬ f y < 0) → posF f l = k
  | [], k, _, hk, _ => by simp at hk; subst hk; rfl
  | a :: t, 0, _, _, hs => by
    have := hs a rfl
    simp [posF, List.takeWhile_cons, this]
  | a :: t, k + 1, h, hk, hs => by
    have h0 := h 0 a (Nat.succ_pos _) rfl
    have ih := posF_eq (f := f) (l := t) (k := k) (fun j y hj hy => h (j + 1) y (by omega) (by simpa using hy)) (by simpa using hk) (fun y hy => hs y (by simpa using hy))
    unfold posF at ih ⊢
    simp [List.takeWhile_cons, h0, ih]
theorem keepF_set {α : Type} {f : α → Int} {l : List α} {k : Nat} {x y : α} (h : posF f l = k) (hy : l[k]? = some y) (h0 : f y = 0) : keepF f l x = l.set k x := by
  unfold keepF; rw [h, hy]; simp [h0]
theorem keepF_ins {α : Type} {f : α → Int} {l : List α} {k : Nat} {x : α} (h : posF f l = k) (h0 : ∀ y, l[k]? = some y → ¬ f y = 0) : keepF f l x = l.take k ++ [x] ++ l.drop k := by
  unfold keepF; rw [h]
  cases hy : l[k]? with
  | none => rfl
  | some y => simp [h0 y hy]
theorem length_keepF {α : Type} (f : α → Int) (l : List α) (x : α) : (keepF f l x).length ≤ l.length + 1 := by
  unfold keepF
  split
  · split
    · simp
    · simp; omega
  · simp; omega
/-- What keep leaves. -/
def KeepPost (t : TypeId) (sz B : Nat) (v : Value) (n : Nat) (cs : List Value) (w : World) (e : Ending) (w' : World) : Prop :=
  ∃ A' c', e = .returned (.slice A' n c') ∧ w'.ownsRow B t sz (.slice A' n c') n cs ∧ w.grownBy w' v.ownBlock
theorem grown_setCell (w : World) (g o : Nat) (u : Value) : w.grownBy (w.setCell ⟨g, o, none⟩ u) (some g) :=
  ⟨rfl, rfl, rfl, by simp [World.setCell], fun k hk hne => Below.heap_setCell _ _ _ _ (fun e => hne (by rw [e]))⟩
theorem grown_below {w w' : World} {B : Nat} (h : Below B w w') (hB : w.heap.size ≤ B) (r : Option Nat) : w.grownBy w' r :=
  ⟨h.os, h.tape, h.output, h.size, fun k hk _ => h.block k (by omega)⟩
/-- A cell of an own row is set. -/
theorem own_cell {w : World} {B : Nat} {t : TypeId} {sz n g c : Nat} {xs : List Value} (h : w.ownsRow B t sz (.slice (some ⟨g, 0, none⟩) n c) n xs) (j : Nat) (hj : j < n * sz) (u : Value) :
    (w.setCell ⟨g, j, none⟩ u).ownsRow B t sz (.slice (some ⟨g, 0, none⟩) n c) n (xs.set j u) := by
  refine ⟨by rw [List.length_set]; exact h.1, ?_⟩
  rcases h.2 with ⟨he, _⟩ | ⟨g', cap, cur, he, hB, hg, hn, hm, hs, ht⟩
  · cases he
  · injection he with e1 _ e3
    injection e1 with e1
    injection e1 with e1 _ _
    subst e1; subst e3
    refine .inr ⟨g, c, cur.setIfInBounds j u, rfl, hB, Blk.set_ (w := w) hg j u, hn, hm, by simpa using hs, ?_⟩
    rw [Array.toList_setIfInBounds, ← ht]
    rw [List.take_set]
theorem own_some {w : World} {B : Nat} {t : TypeId} {sz n c : Nat} {A : Option Addr} {xs : List Value} (h : w.ownsRow B t sz (.slice A n c) n xs) (hn : 0 < n) : ∃ g, A = some ⟨g, 0, none⟩ ∧ B ≤ g ∧ g < w.heap.size := by
  rcases h.2 with ⟨_, h0⟩ | ⟨g, cap, cur, he, hB, hg, _⟩
  · omega
  · injection he with he _ _
    exact ⟨g, he, hB, (Array.getElem?_eq_some_iff.1 hg).1⟩
theorem own_at {w : World} {B : Nat} {t : TypeId} {sz n c g : Nat} {xs : List Value} (h : w.ownsRow B t sz (.slice (some ⟨g, 0, none⟩) n c) n xs) {j : Nat} {u : Value} (hj : xs[j]? = some u) : w.cell? ⟨g, j, none⟩ = some u ∧ w.frozen? ⟨g, j, none⟩ = false := by
  rcases h.2 with ⟨he, _⟩ | ⟨g', cap, cur, he, hB, hg, hn, hm, hs, ht⟩
  · cases he
  · injection he with e1 _ e3
    injection e1 with e1
    injection e1 with e1 _ _
    subst e1
    refine ⟨?_, Blk.frozen (w := w) hg j⟩
    rw [← ht, List.getElem?_take] at hj
    split at hj
    · exact blk_at hg rfl hj
    · cases hj
theorem cellsP_take (l : List Pd) : ∀ k, (cellsP l).take (k * 3) = cellsP (l.take k) := by
  induction l with
  | nil => intro k; simp [cellsP]
  | cons a t ih =>
    intro k
    cases k with
    | zero => simp [cellsP]
    | succ k => rw [cellsP_cons, show (k + 1) * 3 = k * 3 + 1 + 1 + 1 by omega]; simp only [List.take_succ_cons]; rw [ih k, cellsP_cons]
theorem cellsP_drop (l : List Pd) : ∀ k, (cellsP l).drop (k * 3) = cellsP (l.drop k) := by
  induction l with
  | nil => intro k; simp [cellsP]
  | cons a t ih =>
    intro k
    cases k with
    | zero => simp
    | succ k => rw [cellsP_cons, show (k + 1) * 3 = k * 3 + 1 + 1 + 1 by omega]; simp only [List.drop_succ_cons]; rw [ih k]
theorem cellsP_ins (l : List Pd) (k : Nat) (x : Pd) : (cellsP l).take (k * 3) ++ cellsP [x] ++ (cellsP l).drop (k * 3) = cellsP (l.take k ++ [x] ++ l.drop k) := by
  rw [cellsP_take, cellsP_drop, cellsP_append, cellsP_append]
theorem cellsP_set (x : Pd) : ∀ (l : List Pd) (k : Nat), k < l.length → (((cellsP l).set (k * 3) (.int .i64 x.1)).set (k * 3 + 1) (.int .i64 x.2.1)).set (k * 3 + 2) (.int .i64 x.2.2) = cellsP (l.set k x)
  | [], k, h => by simp at h
  | a :: t, 0, _ => by simp [cellsP_cons]
  | a :: t, k + 1, h => by
    have ih := cellsP_set x t k (by simpa using h)
    rw [List.set_cons_succ, cellsP_cons, cellsP_cons, ← ih, show (k + 1) * 3 = k * 3 + 1 + 1 + 1 by omega, show k * 3 + 1 + 1 + 1 + 1 = (k * 3 + 1) + 1 + 1 + 1 by omega, show k * 3 + 1 + 1 + 1 + 2 = (k * 3 + 2) + 1 + 1 + 1 by omega]
    simp only [List.set_cons_succ]

set_option maxRecDepth 100000 in
theorem Set1_any (q x : Pd) (p : Nat) (w : World) (h0 : w.cell? ⟨p, 0, none⟩ = some (.int .i64 x.1)) (h1 : w.cell? ⟨p, 1, none⟩ = some (.int .i64 x.2.1)) (h2 : w.cell? ⟨p, 2, none⟩ = some (.int .i64 x.2.2)) :
    Calls Tryd.prog 69 #[.agg #[.int .i64 q.1, .int .i64 q.2.1, .int .i64 q.2.2], .pointer (some ⟨p, 0, none⟩)] w fun e w' => e = .returned (.int .i64 (plI q x)) ∧ Below w.heap.size w w' := by
  have HC := Lib.hid (fun W => byPlace_any q x W)
  have hp : p < w.heap.size := World.block_lt_of_cell? w _ h0
  have hne : ¬ p = w.heap.size := by omega
  go_enter Tryd.func69, Tryd.ntmps69
  go_wp2_with fail
  refine (HC.out _).mono ?_
  rintro e w1 ⟨rfl, b⟩
  go_wp2_with fail
  go_ret
  exact ⟨rfl, btrans (bal (Below.refl _ _) _) b⟩
end Go.Proofs.YtbpkckahonmpkaaDoor
namespace Go.Proofs.YtbpkckahonmpkaaDoor
open Go.RowKit

set_option maxRecDepth 100000 in
set_option maxHeartbeats 4000000 in
theorem keepP_any (B : Nat) (A : Option Addr) (c p : Nat) (l : List Pd) (x : Pd) (w : World) (hown : w.ownsRow B 33 3 (.slice A l.length c) l.length (cellsP l)) (hB : B ≤ w.heap.size) (hl : l.length ≤ 1000)
    (hp0 : w.cell? ⟨p, 0, none⟩ = some (.int .i64 x.1)) (hp1 : w.cell? ⟨p, 1, none⟩ = some (.int .i64 x.2.1)) (hp2 : w.cell? ⟨p, 2, none⟩ = some (.int .i64 x.2.2)) :
    Calls Tryd.prog 68 #[.slice A l.length c, .agg #[.int .i64 x.1, .int .i64 x.2.1, .int .i64 x.2.2], .func (.func 69) #[] #[.pointer (some ⟨p, 0, none⟩)]] w (KeepPost 33 3 B (.slice A l.length c) (keepF (fun q => plI q x) l x).length (cellsP (keepF (fun q => plI q x) l x)) w) := by
  have hmf : ∀ (args : Array Value) (W : World), (callFunc 69 args).run Tryd.prog W = .ok (.enter 69 args) W := fun args W => by kernel_rfl
  have hpw : p < w.heap.size := World.block_lt_of_cell? w _ hp0
  have HO := Lib.hid (hown.alloc (.cells #[.int .i64 x.1, .int .i64 x.2.1, .int .i64 x.2.2] 33))
  have KX := Lib.hid (Blk.new w 33 #[.int .i64 x.1, .int .i64 x.2.1, .int .i64 x.2.2])
  obtain ⟨w0, hw0⟩ : ∃ w0, w0 = w.alloc (.cells #[.int .i64 x.1, .int .i64 x.2.1, .int .i64 x.2.2] 33) := ⟨_, rfl⟩
  have hz0 : w0.heap.size = w.heap.size + 1 := by rw [hw0]; simp
  have hcx := fun (W : World) (hb : Below w0.heap.size w0 W) => show W.cell? ⟨p, 0, none⟩ = some (.int .i64 x.1) ∧ W.cell? ⟨p, 1, none⟩ = some (.int .i64 x.2.1) ∧ W.cell? ⟨p, 2, none⟩ = some (.int .i64 x.2.2) from by
    have hal : ∀ j, w0.cell? ⟨p, j, none⟩ = w.cell? ⟨p, j, none⟩ := fun j => by rw [hw0]; exact World.cell?_alloc_past _ _ _ hpw
    refine ⟨?_, ?_, ?_⟩ <;> rw [hb.cell (by show p < _; omega), hal] <;> assumption
  have HC := Lib.hid (fun q W (hb : Below w0.heap.size w0 W) => Set1_any q x p W (hcx W hb).1 (hcx W hb).2.1 (hcx W hb).2.2)
  have G0 := Lib.hid (show w.grownBy w0 (Value.slice A l.length c).ownBlock by rw [hw0]; exact grown_alloc _ _ _)
  rw [← hw0] at HO KX
  have INS := Lib.hid (fun k (hk : k ≤ l.length) W (hb : Below w0.heap.size w0 W) => InsertP_any B A l.length c k W.heap.size (cellsP l) (cellsP [x]) (W.alloc (.cells #[.int .i64 x.1, .int .i64 x.2.1, .int .i64 x.2.2] 33)) ((own_below HO.out hb).alloc _) (by rw [World.size_alloc]; have := hb.size; omega) (by omega) hk rfl (Blk.new W 33 #[.int .i64 x.1, .int .i64 x.2.1, .int .i64 x.2.2]) (cellsP_one _) (cellsP_one _) (fun e => by have := (HO.out.lt _ e).2; have := hb.size; omega))
  have FIN := Lib.hid (fun (k : Nat) (hk : k ≤ l.length) (hpos : posF (fun q => plI q x) l = k) (h0 : ∀ y, l[k]? = some y → ¬ plI y x = 0) (W : World) (hb : Below w0.heap.size w0 W) (e : Ending) (w' : World) (h : InsPost 33 3 B (.slice A l.length c) l.length ((cellsP l).take (k * 3) ++ cellsP [x] ++ (cellsP l).drop (k * 3)) (W.alloc (.cells #[.int .i64 x.1, .int .i64 x.2.1, .int .i64 x.2.2] 33)) e w') => show KeepPost 33 3 B (.slice A l.length c) (keepF (fun q => plI q x) l x).length (cellsP (keepF (fun q => plI q x) l x)) w e w' from by
    obtain ⟨A', c', he, ho, hg⟩ := h
    rw [keepF_ins hpos h0]
    rw [cellsP_ins] at ho
    have hlen : (l.take k ++ [x] ++ l.drop k).length = l.length + 1 := by simp; omega
    rw [hlen]
    exact ⟨A', c', he, ho, grown_tr G0.out (grown_tr (grown_below hb (Nat.le_refl _) _) (grown_tr (grown_alloc _ _ _) hg))⟩)
  have HZ0 := Lib.hid hz0
  have HW0 := Lib.hid hw0
  have hxl := KX.out.lt
  clear hown hp0 hp1 hp2 hcx hz0 hw0 hxl hpw
  go_enter Tryd.func68, Tryd.ntmps68
  go_wp2_with fail
  rw [← HW0.out]
  go_loopw [7] (fun y wr => ∃ k : Nat, k ≤ l.length ∧ y = .int .i64 k ∧ Below w0.heap.size w0 wr ∧ ∀ j z, j < k → l[j]? = some z → plI z x < 0) (fun y _ => l.length - (intOf y).toNat)
  case atStart => exact ⟨0, Nat.zero_le _, rfl, Below.refl _ _, fun j z h => by omega⟩
  case round =>
    obtain ⟨k, hk, rfl, hbel, hlo⟩ := hrel
    have HLO := Lib.hid hlo
    have HB := Lib.hid hbel
    have KR := Lib.hid (KX.out.below hbel KX.out.lt)
    clear hlo hbel
    by_cases hlt : k < l.length
    · have d1 : decide ((k : Int) < (l.length : Int)) = true := by simp; omega
      obtain ⟨z, hz⟩ : ∃ z, l[k]? = some z := ⟨_, List.getElem?_eq_getElem hlt⟩
      obtain ⟨g, rfl, hBg, hgl⟩ := own_some HO.out (by omega)
      have cells := fun (W : World) (hb : Below w0.heap.size w0 W) (j : Nat) (u : Value) (hj : (cellsP l)[j]? = some u) => own_at (own_below HO.out hb) hj
      obtain ⟨p0, p1, p2⟩ := cellsP_at l k z hz
      have q0 := (cells _ HB.out _ _ p0).1
      have q1 := (cells _ HB.out _ _ p1).1
      have q2 := (cells _ HB.out _ _ p2).1
      have CE := Lib.hid (fun W hb => And.intro (cells W hb _ _ p0) (And.intro (cells W hb _ _ p1) (cells W hb _ _ p2)))
      have i1 : (0 : Int) ≤ (k : Int) := by omega
      have i2 : (k : Int) < (l.length : Int) := by omega
      have HZ := Lib.hid hz
      clear hz p0 p1 p2 cells
      by_cases hneg : plI z x < 0
      · have d2 : decide (plI z x < 0) = true := by simpa using hneg
        have HN := Lib.hid hneg
        clear hneg
        go_wp2_with fail
        refine (HC.out z _ HB.out).mono ?_
        rintro e w1 ⟨rfl, b1⟩
        have B1 := Lib.hid (HB.out.trans (b1.mono HB.out.size))
        clear b1
        go_wp2_with fail
        go_roundw
        case rel =>
          refine ⟨k + 1, by omega, by go_num, B1.out, fun j y hj hy => ?_⟩
          by_cases hjk : j = k
          · subst hjk
            rw [HZ.out] at hy
            injection hy with hy
            subst hy
            exact HN.out
          · exact HLO.out j y (by omega) hy
        case measure => simp [intOf]; omega
      · have hpos : posF (fun q => plI q x) l = k := posF_eq HLO.out hk (fun y hy => by rw [HZ.out] at hy; injection hy with hy; subst hy; exact hneg)
        have HPOS := Lib.hid hpos
        have d2 : decide (plI z x < 0) = false := by simpa using hneg
        clear hneg hpos
        by_cases h0 : plI z x = 0
        · have d3 : (plI z x == 0) = true := by simpa using h0
          have H0 := Lib.hid h0
          clear h0
          go_wp2_with fail
          refine (HC.out z _ HB.out).mono ?_
          rintro e w1 ⟨rfl, b1⟩
          have B1 := Lib.hid (HB.out.trans (b1.mono HB.out.size))
          clear b1
          obtain ⟨⟨r0, _⟩, ⟨r1, _⟩, r2, _⟩ := CE.out _ B1.out
          clear q0 q1 q2
          go_wp2_with fail
          refine (HC.out z _ B1.out).mono ?_
          rintro e w2 ⟨rfl, b2⟩
          have B2 := Lib.hid (B1.out.trans (b2.mono B1.out.size))
          clear b2
          obtain ⟨⟨q0, f0⟩, ⟨q1, f1⟩, q2, f2⟩ := CE.out _ B2.out
          have k2 := KX.out.below B2.out KX.out.lt
          have x0 := k2.cell 0
          have x1 := k2.cell 1
          have x2 := k2.cell 2
          clear r0 r1 r2 k2
          go_wp2_with fail
          go_ret
          rw [keepF_set HPOS.out HZ.out H0.out]
          refine ⟨some ⟨g, 0, none⟩, c, by rw [List.length_set]; rfl, ?_, grown_tr G0.out (grown_tr (grown_below B2.out (Nat.le_refl _) _) (grown_tr (grown_setCell _ _ _ _) (grown_tr (grown_setCell _ _ _ _) (grown_setCell _ _ _ _))))⟩
          rw [List.length_set, ← cellsP_set x l k hlt]
          exact own_cell (own_cell (own_cell (own_below HO.out B2.out) (k * 3) (by omega) _) (k * 3 + 1) (by omega) _) (k * 3 + 2) (by omega) _
        · have d3 : (plI z x == 0) = false := by simpa using h0
          have H0 := Lib.hid h0
          clear h0
          go_wp2_with fail
          refine (HC.out z _ HB.out).mono ?_
          rintro e w1 ⟨rfl, b1⟩
          have B1 := Lib.hid (HB.out.trans (b1.mono HB.out.size))
          clear b1
          obtain ⟨⟨r0, _⟩, ⟨r1, _⟩, r2, _⟩ := CE.out _ B1.out
          clear q0 q1 q2
          go_wp2_with fail
          refine (HC.out z _ B1.out).mono ?_
          rintro e w2 ⟨rfl, b2⟩
          have B2 := Lib.hid (B1.out.trans (b2.mono B1.out.size))
          clear b2 r0 r1 r2
          have k2 := KX.out.below B2.out KX.out.lt
          have x0 := k2.cell 0
          have x1 := k2.cell 1
          have x2 := k2.cell 2
          clear k2
          go_wp2_with fail
          refine (INS.out k hk _ B2.out).mono fun e w' h => ?_
          have F := FIN.out k hk HPOS.out (fun y hy => by rw [HZ.out] at hy; injection hy with hy; subst hy; exact H0.out) _ B2.out e w' h
          obtain ⟨A', c', rfl, hh⟩ := F
          have HH := Lib.hid hh
          clear h hh x0 x1 x2
          go_wp2_with fail
          go_ret
          exact ⟨A', c', rfl, HH.out⟩
    · obtain rfl : k = l.length := by omega
      have d1 : decide ((l.length : Int) < (l.length : Int)) = false := by simp
      have HPOS := Lib.hid (show posF (fun q => plI q x) l = l.length from posF_eq HLO.out (Nat.le_refl _) (fun y hy => by simp at hy))
      have k2 := KX.out.below HB.out KX.out.lt
      have x0 := k2.cell 0
      have x1 := k2.cell 1
      have x2 := k2.cell 2
      clear k2
      go_wp2_with fail
      refine (INS.out l.length (Nat.le_refl _) _ HB.out).mono fun e w' h => ?_
      have F := FIN.out l.length (Nat.le_refl _) HPOS.out (fun y hy => by simp at hy) _ HB.out e w' h
      obtain ⟨A', c', rfl, hh⟩ := F
      have HH := Lib.hid hh
      clear h hh x0 x1 x2
      go_wp2_with fail
      go_ret
      exact ⟨A', c', rfl, HH.out⟩
end Go.Proofs.YtbpkckahonmpkaaDoor
