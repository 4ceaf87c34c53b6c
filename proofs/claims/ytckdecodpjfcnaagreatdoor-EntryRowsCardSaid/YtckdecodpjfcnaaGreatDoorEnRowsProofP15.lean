/-
  Layer 7, the document's: bare: an entry with the fields that its kind names alone; which entries may be, in the document's words.
-/
import Derived.Test.YtckdecodpjfcnaaGreatDoorEnRowsProofP14
set_option linter.unusedVariables false
set_option linter.unusedSimpArgs false
namespace Go.Proofs.YtckdecodpjfcnaaGreatDoor
open Go.RowKit

/-- An entry with the fields that its kind names alone. -/
def bareEn (x : En) : En :=
  if x.kd = 0 then { baseEn x.kd with b := x.b }
  else if x.kd = 1 then { baseEn x.kd with b := wh x.b.pid x.b.ep, yes := x.yes }
  else if x.kd = 2 then { baseEn x.kd with off := x.off }
  else if x.kd = 3 then { baseEn x.kd with b := x.b, yes := x.yes, nx := if x.yes then x.nx else 0 }
  else if x.kd = 4 then { baseEn x.kd with b := wh x.b.pid x.b.ep, nx := x.nx }
  else if x.kd = 5 then { baseEn x.kd with row := (0, x.row.2.1, x.row.2.2.1, x.row.2.2.2.1, x.row.2.2.2.2) }
  else if x.kd = 6 then { baseEn x.kd with prod := x.prod }
  else baseEn x.kd
/-- What the document asks of a kind's fields. -/
def okR (x : En) : Bool :=
  if x.kd = 0 then mayBt x.b
  else if x.kd = 1 then prodB x.b.pid x.b.ep
  else if x.kd = 2 then seqB x.off
  else if x.kd = 3 then mayBt x.b && (x.b.txn && seqB x.nx)
  else if x.kd = 4 then prodB x.b.pid x.b.ep && seqB x.nx
  else if x.kd = 5 then rowB (0, x.row.2.1, x.row.2.2.1, x.row.2.2.2.1, x.row.2.2.2.2)
  else if x.kd = 6 then knownB x.prod
  else false
theorem mayR_eq (x : En) : (sameEn x (bareEn x) && okR x) = mayEn x := by
  rw [Bool.eq_iff_iff, mayEn, Bool.and_eq_true, Bool.and_eq_true, sameEn_iff, sameEn_iff]
  obtain ⟨kd, ⟨p1, p2, p3, p4, p5⟩, yes, nx, off, ⟨r1, r2, r3, r4, r5⟩, prod⟩ := x
  unfold bareEn okR okEn restEn
  simp only
  by_cases k0 : kd = 0
  · subst k0
    simp [baseEn]
    constructor <;> intro h <;> simp_all
  by_cases k1 : kd = 1
  · subst k1
    simp [baseEn, wh, Bat0]
    constructor <;> intro h <;> simp_all
  by_cases k2 : kd = 2
  · subst k2
    simp [baseEn, Bat0]
    constructor <;> intro h <;> simp_all
  by_cases k3 : kd = 3
  · subst k3
    cases yes
    · simp [baseEn, Bat0]
      constructor
      · rintro ⟨⟨h1, h2, h3, h4⟩, h5, h6, h7⟩
        exact ⟨⟨h6, h5⟩, h1, h2, h3, h4⟩
      · rintro ⟨⟨h6, h5⟩, h1, h2, h3, h4⟩
        exact ⟨⟨h1, h2, h3, h4⟩, h5, h6, by rw [h1]; decide⟩
    · simp [baseEn, Bat0]
      constructor
      · rintro ⟨h1, h5, h6, h7⟩
        exact ⟨⟨⟨h6, h7⟩, h5⟩, h1⟩
      · rintro ⟨⟨⟨h6, h7⟩, h5⟩, h1⟩
        exact ⟨h1, h5, h6, h7⟩
  by_cases k4 : kd = 4
  · subst k4
    cases yes
    · simp [baseEn, wh, Bat0]
      constructor <;> intro h <;> simp_all
    · simp [baseEn, wh, Bat0]
  by_cases k5 : kd = 5
  · subst k5
    simp [baseEn, Bat0, Rw0]
    constructor
    · rintro ⟨⟨h1, h2, h3, h4, h5, h6⟩, h7⟩
      subst h5
      exact ⟨h7, h1, h2, h3, h4, h6⟩
    · rintro ⟨h7, h1, h2, h3, h4, h6⟩
      have h5 : r1 = 0 := by
        unfold rowB at h7
        rw [Bool.and_eq_true, decide_eq_true_eq] at h7
        exact h7.1
      subst h5
      exact ⟨⟨h1, h2, h3, h4, rfl, h6⟩, h7⟩
  by_cases k6 : kd = 6
  · subst k6
    simp [baseEn, Bat0]
    constructor <;> intro h <;> simp_all
  simp [k0, k1, k2, k3, k4, k5, k6]

theorem cells_off {W : World} {b : Nat} {t : TypeId} {cs : List Value} (h : Blk W b t cs.toArray) (o n : Nat) {vs : List Value} (hvs : (cs.drop o).take n = vs) (hn : vs.length = n) : (loadCells ⟨b, o, none⟩ n).run Tryz.prog W = .ok vs.toArray W := by
  have := run_loadCells_list (P := Tryz.prog) W ⟨b, o, none⟩ vs (fun j v hv => by
    rw [Addr.add_mid, h.cell (o + j)]
    subst hvs
    have hj : j < n := by
      have := (List.getElem?_eq_some_iff.1 hv).1
      rw [List.length_take] at this
      omega
    rw [List.getElem?_take_of_lt hj, List.getElem?_drop] at hv
    simpa using hv)
  rw [hn] at this
  exact this
theorem setAll_mid (post : List Value) : ∀ (vs zs pre : List Value), zs.length = vs.length → setAll (pre ++ (zs ++ post)).toArray pre.length vs = (pre ++ (vs ++ post)).toArray
  | [], zs, pre, h => by
    rw [List.length_eq_zero_iff.1 h]
    rfl
  | v :: vs, [], pre, h => by simp at h
  | v :: vs, z :: zs, pre, h => by
    rw [setAll]
    have e : (pre ++ (z :: zs ++ post)).toArray.setIfInBounds pre.length v = ((pre ++ [v]) ++ (zs ++ post)).toArray := by
      rw [List.setIfInBounds_toArray]
      congr 1
      rw [List.set_append_right _ _ (Nat.le_refl _)]
      simp
    rw [e]
    have := setAll_mid post vs zs (pre ++ [v]) (by simpa using h)
    rw [List.length_append, List.length_singleton] at this
    rw [this]
    simp
theorem blk_there_off {W : World} {b : Nat} {t : TypeId} {cs : Array Value} (h : Blk W b t cs) (o n : Nat) (hn : o + n ≤ cs.size) : W.there b o n := fun j hj => by
  refine ⟨?_, h.frozen _⟩
  rw [h.cell (o + j)]
  simp; omega
/-- A part of a struct stored into a block. -/
theorem store_off {W : World} {b : Nat} {t : TypeId} (pre zs post : List Value) (ty : TypeId) (cs : Array Value) (h : Blk W b t (pre ++ (zs ++ post)).toArray) (hz : zs.length = cs.toList.length) (hi : (Tryz.prog.info? ty).map (·.size) = some cs.size) (h1 : cs.all (·.oneCell') = true) :
    ∃ W', (storeVar ty ⟨b, pre.length, none⟩ (.agg cs)).run Tryz.prog W = .ok () W' ∧ Blk W' b t (pre ++ (cs.toList ++ post)).toArray ∧ W'.heap.size = W.heap.size ∧ (∀ n (w : World), n ≤ b → Below n w W → Below n w W') ∧ ∀ g t ds, g ≠ b → Blk W g t ds → Blk W' g t ds :=
  ⟨_, run_storeVar_mid W b pre.length ty cs (blk_there_off h _ _ (by show pre.length + cs.size ≤ (pre ++ (zs ++ post)).length; rw [List.length_append, List.length_append, hz]; simp)) hi h1, (by have := blk_setCells cs.toList pre.length _ _ h; rw [setAll_mid post cs.toList zs pre hz] at this; exact this), size_setCells .., fun n w hb hB => below_setCells hb _ _ _ hB, fun g t ds hg hk => blk_setCells_far hg _ _ _ hk⟩
theorem store_int7 {W : World} {a : Addr} {u : Value} (k : Int) (h : W.cell? a = some u) (hf : W.frozen? a = false) : (storeVar 3 a (.int .i64 k)).run Tryz.prog W = .ok () (W.setCell a (.int .i64 k)) := by
  simp [go_sem, h, hf]
theorem store_bool7 {W : World} {a : Addr} {u : Value} (k : Bool) (h : W.cell? a = some u) (hf : W.frozen? a = false) : (storeVar 4 a (.bool k)).run Tryz.prog W = .ok () (W.setCell a (.bool k)) := by
  simp [go_sem, h, hf]
/-- One cell of a struct stored into a block. -/
theorem store_cell {W : World} {b : Nat} {t : TypeId} (pre : List Value) (z : Value) (post : List Value) (ty : TypeId) (v : Value) (hst : ∀ (W : World) (u : Value), W.cell? ⟨b, pre.length, none⟩ = some u → W.frozen? ⟨b, pre.length, none⟩ = false → (storeVar ty ⟨b, pre.length, none⟩ v).run Tryz.prog W = .ok () (W.setCell ⟨b, pre.length, none⟩ v)) (h : Blk W b t (pre ++ (z :: post)).toArray) :
    ∃ W', (storeVar ty ⟨b, pre.length, none⟩ v).run Tryz.prog W = .ok () W' ∧ Blk W' b t (pre ++ (v :: post)).toArray ∧ W'.heap.size = W.heap.size ∧ (∀ n (w : World), n ≤ b → Below n w W → Below n w W') ∧ ∀ g t ds, g ≠ b → Blk W g t ds → Blk W' g t ds :=
  ⟨_, hst W z (by rw [h.cell]; simp) (h.frozen _), (by
    have := h.set_ pre.length v
    rw [List.setIfInBounds_toArray, List.set_append_right _ _ (Nat.le_refl _)] at this
    simpa using this), by simp, fun n w hb hB => hB.setCell (p := ⟨b, pre.length, none⟩) hb v, fun g t ds hg hk => hk.far (p := ⟨b, pre.length, none⟩) hg v⟩
/-- What bare gives. -/
def BarePost (x : En) (w : World) : Ending → World → Prop := fun e w' => ∃ A9 D9 c9 e9, e = .returned (.agg #[.int .i8 (bareEn x).kd, .int .i64 (bareEn x).b.pid, .int .i64 (bareEn x).b.ep, .int .i64 (bareEn x).b.seq, .bool (bareEn x).b.txn, .slice A9 (bareEn x).b.rs.length c9, .bool (bareEn x).yes, .int .i64 (bareEn x).nx, .int .i64 (bareEn x).off, .int .i64 (bareEn x).row.1, .int .i64 (bareEn x).row.2.1, .int .i64 (bareEn x).row.2.2.1, .string (bareEn x).row.2.2.2.1, .string (bareEn x).row.2.2.2.2, .int .i64 (bareEn x).prod.pid, .int .i64 (bareEn x).prod.ep, .int .i64 (bareEn x).prod.nx, .slice D9 (bareEn x).prod.seen.length e9]) ∧ EnR w' (bareEn x) A9 D9 ∧ Below w.heap.size w w'
section
attribute [-go_sem] loadCells storeVar
set_option maxRecDepth 100000 in
set_option maxHeartbeats 1000000 in
theorem bare_ret (x : En) (A5 D5 : Option Addr) (c5 e5 : Nat) (tmps : Array Value) (b : Nat) (W : World) (h2 : tmps[2]?.getD undef = .pointer (some ⟨b, 0, none⟩)) (hK : Blk W b 32 #[.int .i8 x.kd, .int .i64 x.b.pid, .int .i64 x.b.ep, .int .i64 x.b.seq, .bool x.b.txn, .slice A5 x.b.rs.length c5, .bool x.yes, .int .i64 x.nx, .int .i64 x.off, .int .i64 x.row.1, .int .i64 x.row.2.1, .int .i64 x.row.2.2.1, .string x.row.2.2.2.1, .string x.row.2.2.2.2, .int .i64 x.prod.pid, .int .i64 x.prod.ep, .int .i64 x.prod.nx, .slice D5 x.prod.seen.length e5]) :
    (results Tryz.f39 tmps).run Tryz.prog W = .ok (.agg #[.int .i8 x.kd, .int .i64 x.b.pid, .int .i64 x.b.ep, .int .i64 x.b.seq, .bool x.b.txn, .slice A5 x.b.rs.length c5, .bool x.yes, .int .i64 x.nx, .int .i64 x.off, .int .i64 x.row.1, .int .i64 x.row.2.1, .int .i64 x.row.2.2.1, .string x.row.2.2.2.1, .string x.row.2.2.2.2, .int .i64 x.prod.pid, .int .i64 x.prod.ep, .int .i64 x.prod.nx, .slice D5 x.prod.seen.length e5]) W := by
  have LC := cells_blk hK rfl
  clear hK
  simp [results, Tryz.results39, go_sem, h2, LC]
set_option maxRecDepth 100000 in
set_option maxHeartbeats 4000000 in
theorem bare_0 (x : En) (hk : x.kd = 0) (A1 D1 : Option Addr) (c1 e1 : Nat) (w : World) (hr : EnR w x A1 D1) :
    Calls Tryz.prog 39 #[(.agg #[.int .i8 x.kd, .int .i64 x.b.pid, .int .i64 x.b.ep, .int .i64 x.b.seq, .bool x.b.txn, .slice A1 x.b.rs.length c1, .bool x.yes, .int .i64 x.nx, .int .i64 x.off, .int .i64 x.row.1, .int .i64 x.row.2.1, .int .i64 x.row.2.2.1, .string x.row.2.2.2.1, .string x.row.2.2.2.2, .int .i64 x.prod.pid, .int .i64 x.prod.ep, .int .i64 x.prod.nx, .slice D1 x.prod.seen.length e1])] w (BarePost x w) := by
  have HR := Lib.hid hr
  have HQ := Lib.hid (show bareEn x = { baseEn x.kd with b := x.b } by unfold bareEn; rw [hk]; rfl)
  have cc0 : (x.kd == 0) = true := by rw [hk]; rfl
  have cc1 : (x.kd == 1) = false := by rw [hk]; rfl
  have cc2 : (x.kd == 2) = false := by rw [hk]; rfl
  have cc3 : (x.kd == 3) = false := by rw [hk]; rfl
  have cc4 : (x.kd == 4) = false := by rw [hk]; rfl
  have cc5 : (x.kd == 5) = false := by rw [hk]; rfl
  have cc6 : (x.kd == 6) = false := by rw [hk]; rfl
  obtain ⟨W0, hW0⟩ : ∃ W0, W0 = (w.alloc (.cells #[.int .i8 x.kd, .int .i64 x.b.pid, .int .i64 x.b.ep, .int .i64 x.b.seq, .bool x.b.txn, .slice A1 x.b.rs.length c1, .bool x.yes, .int .i64 x.nx, .int .i64 x.off, .int .i64 x.row.1, .int .i64 x.row.2.1, .int .i64 x.row.2.2.1, .string x.row.2.2.2.1, .string x.row.2.2.2.2, .int .i64 x.prod.pid, .int .i64 x.prod.ep, .int .i64 x.prod.nx, .slice D1 x.prod.seen.length e1] 32)).alloc (.cells #[.int .i8 0, .int .i64 0, .int .i64 0, .int .i64 0, .bool false, .slice none 0 0, .bool false, .int .i64 0, .int .i64 0, .int .i64 0, .int .i64 0, .int .i64 0, .string ⟨#[]⟩, .string ⟨#[]⟩, .int .i64 0, .int .i64 0, .int .i64 0, .slice none 0 0] 32) := ⟨_, rfl⟩
  have KX0 : Blk W0 w.heap.size 32 #[.int .i8 x.kd, .int .i64 x.b.pid, .int .i64 x.b.ep, .int .i64 x.b.seq, .bool x.b.txn, .slice A1 x.b.rs.length c1, .bool x.yes, .int .i64 x.nx, .int .i64 x.off, .int .i64 x.row.1, .int .i64 x.row.2.1, .int .i64 x.row.2.2.1, .string x.row.2.2.2.1, .string x.row.2.2.2.2, .int .i64 x.prod.pid, .int .i64 x.prod.ep, .int .i64 x.prod.nx, .slice D1 x.prod.seen.length e1] := by rw [hW0]; exact (Blk.new _ _ _).alloc _
  have KR0 : Blk W0 (w.heap.size + 1) 32 ezero := by rw [hW0]; exact blk_new _ _ _ (by simp)
  have b0 : Below w.heap.size w W0 := by rw [hW0]; exact bal (bal (Below.refl _ _) _) _
  have hs0 : W0.heap.size = w.heap.size + 2 := by rw [hW0]; simp
  obtain ⟨W1, st1, kO, bb⟩ := fresh_en W0 #[Value.int .i8 x.kd, Value.int .i64 0, Value.int .i64 0, Value.int .i64 0, Value.bool false, Value.slice none 0 0, Value.bool false, Value.int .i64 0, Value.int .i64 0, Value.int .i64 0, Value.int .i64 0, Value.int .i64 0, Value.string ⟨#[]⟩, Value.string ⟨#[]⟩, Value.int .i64 0, Value.int .i64 0, Value.int .i64 0, Value.slice none 0 0] rfl (by simp [Value.oneCell'])
  have KX := KX0.below bb KX0.lt
  have KR := KR0.below bb KR0.lt
  have b1 := btrans b0 (bb.mono (by omega))
  have HW0 := Lib.hid hW0
  have x0 := KX0.cell 0
  have ST1 := Lib.hid st1
  have KX1 := Lib.hid KX
  have KR1 := Lib.hid KR
  have KO1 := Lib.hid kO
  have B1 := Lib.hid b1
  have HS0 := Lib.hid hs0
  have g1 : w.heap.size ≠ W0.heap.size := by omega
  have g2 : w.heap.size + 1 ≠ W0.heap.size := by omega
  have g3 : w.heap.size ≤ W0.heap.size := by omega
  have HG := Lib.hid (And.intro g1 (And.intro g2 g3))
  clear hW0 KX0 KR0 b0 hs0 st1 kO bb KX KR b1 g1 g2 g3 hr hk
  go_enter Tryz.func39, Tryz.ntmps39
  go_upto_region 1 with (fail)
  rw [← HW0.out]
  have st1 := ST1.out
  go_upto_region 2 with (fail)
  clear st1 x0
  have x0 := KX1.out.cell 0
  have LB := cells_off KX1.out 1 5 rfl rfl
  obtain ⟨W2, st, kO, _, fb, fk⟩ := store_off ([Value.int .i8 x.kd] : List Value) ([Value.int .i64 0, Value.int .i64 0, Value.int .i64 0, Value.bool false, Value.slice none 0 0] : List Value) ([Value.bool false, Value.int .i64 0, Value.int .i64 0, Value.int .i64 0, Value.int .i64 0, Value.int .i64 0, Value.string ⟨#[]⟩, Value.string ⟨#[]⟩, Value.int .i64 0, Value.int .i64 0, Value.int .i64 0, Value.slice none 0 0] : List Value) 25 (#[Value.int .i64 x.b.pid, Value.int .i64 x.b.ep, Value.int .i64 x.b.seq, Value.bool x.b.txn, Value.slice A1 x.b.rs.length c1] : Array Value) (show Blk W1 W0.heap.size 32 (([Value.int .i8 x.kd] : List Value) ++ ([Value.int .i64 0, Value.int .i64 0, Value.int .i64 0, Value.bool false, Value.slice none 0 0] ++ [Value.bool false, Value.int .i64 0, Value.int .i64 0, Value.int .i64 0, Value.int .i64 0, Value.int .i64 0, Value.string ⟨#[]⟩, Value.string ⟨#[]⟩, Value.int .i64 0, Value.int .i64 0, Value.int .i64 0, Value.slice none 0 0])).toArray from KO1.out) rfl (by kernel_rfl) (by simp [Value.oneCell'])
  have st2 : _ := st
  have KX2 := Lib.hid (fk _ _ _ HG.out.1 KX1.out)
  have KR2 := Lib.hid (fk _ _ _ HG.out.2.1 KR1.out)
  have B2 := Lib.hid (fb _ w HG.out.2.2 B1.out)
  have KO2 := Lib.hid (show Blk W2 W0.heap.size 32 #[Value.int .i8 x.kd, Value.int .i64 x.b.pid, Value.int .i64 x.b.ep, Value.int .i64 x.b.seq, Value.bool x.b.txn, Value.slice A1 x.b.rs.length c1, Value.bool false, Value.int .i64 0, Value.int .i64 0, Value.int .i64 0, Value.int .i64 0, Value.int .i64 0, Value.string ⟨#[]⟩, Value.string ⟨#[]⟩, Value.int .i64 0, Value.int .i64 0, Value.int .i64 0, Value.slice none 0 0] from kO)
  clear st kO fb fk
  simp only [List.length_cons, List.length_nil, Nat.reduceAdd, Nat.zero_add] at st2
  go_upto_region 23 with (fail)
  clear st2 LB 
  have LO := cells_blk KO2.out rfl
  obtain ⟨W9, st9, kw, fb, _⟩ := store_blk2 (cs := #[Value.int .i8 x.kd, Value.int .i64 x.b.pid, Value.int .i64 x.b.ep, Value.int .i64 x.b.seq, Value.bool x.b.txn, Value.slice A1 x.b.rs.length c1, Value.bool false, Value.int .i64 0, Value.int .i64 0, Value.int .i64 0, Value.int .i64 0, Value.int .i64 0, Value.string ⟨#[]⟩, Value.string ⟨#[]⟩, Value.int .i64 0, Value.int .i64 0, Value.int .i64 0, Value.slice none 0 0]) KR2.out rfl rfl (by simp [Value.oneCell'])
  have BW := Lib.hid (fb _ w (Nat.le_succ _) B2.out)
  have KW := Lib.hid kw
  clear kw fb
  go_wp2_with fail
  have kq : Blk W9 (w.heap.size + 1) 32 #[.int .i8 (bareEn x).kd, .int .i64 (bareEn x).b.pid, .int .i64 (bareEn x).b.ep, .int .i64 (bareEn x).b.seq, .bool (bareEn x).b.txn, .slice A1 (bareEn x).b.rs.length c1, .bool (bareEn x).yes, .int .i64 (bareEn x).nx, .int .i64 (bareEn x).off, .int .i64 (bareEn x).row.1, .int .i64 (bareEn x).row.2.1, .int .i64 (bareEn x).row.2.2.1, .string (bareEn x).row.2.2.2.1, .string (bareEn x).row.2.2.2.2, .int .i64 (bareEn x).prod.pid, .int .i64 (bareEn x).prod.ep, .int .i64 (bareEn x).prod.nx, .slice none (bareEn x).prod.seen.length 0] := by rw [HQ.out]; exact KW.out
  refine bodyPost_ret (bare_ret (bareEn x) A1 none c1 0 _ (w.heap.size + 1) _ rfl kq) rfl ?_
  refine ⟨A1, none, c1, 0, rfl, ?_, BW.out⟩
  rw [HQ.out]
  exact ⟨(HR.out.up BW.out).1, Reads.none_, HR.out.2.2.1, Nat.zero_le _⟩
set_option maxRecDepth 100000 in
set_option maxHeartbeats 4000000 in
theorem bare_1 (x : En) (hk : x.kd = 1) (A1 D1 : Option Addr) (c1 e1 : Nat) (w : World) (hr : EnR w x A1 D1) :
    Calls Tryz.prog 39 #[(.agg #[.int .i8 x.kd, .int .i64 x.b.pid, .int .i64 x.b.ep, .int .i64 x.b.seq, .bool x.b.txn, .slice A1 x.b.rs.length c1, .bool x.yes, .int .i64 x.nx, .int .i64 x.off, .int .i64 x.row.1, .int .i64 x.row.2.1, .int .i64 x.row.2.2.1, .string x.row.2.2.2.1, .string x.row.2.2.2.2, .int .i64 x.prod.pid, .int .i64 x.prod.ep, .int .i64 x.prod.nx, .slice D1 x.prod.seen.length e1])] w (BarePost x w) := by
  have HR := Lib.hid hr
  have HQ := Lib.hid (show bareEn x = { baseEn x.kd with b := wh x.b.pid x.b.ep, yes := x.yes } by unfold bareEn; rw [hk]; rfl)
  have cc0 : (x.kd == 0) = false := by rw [hk]; rfl
  have cc1 : (x.kd == 1) = true := by rw [hk]; rfl
  have cc2 : (x.kd == 2) = false := by rw [hk]; rfl
  have cc3 : (x.kd == 3) = false := by rw [hk]; rfl
  have cc4 : (x.kd == 4) = false := by rw [hk]; rfl
  have cc5 : (x.kd == 5) = false := by rw [hk]; rfl
  have cc6 : (x.kd == 6) = false := by rw [hk]; rfl
  obtain ⟨W0, hW0⟩ : ∃ W0, W0 = (w.alloc (.cells #[.int .i8 x.kd, .int .i64 x.b.pid, .int .i64 x.b.ep, .int .i64 x.b.seq, .bool x.b.txn, .slice A1 x.b.rs.length c1, .bool x.yes, .int .i64 x.nx, .int .i64 x.off, .int .i64 x.row.1, .int .i64 x.row.2.1, .int .i64 x.row.2.2.1, .string x.row.2.2.2.1, .string x.row.2.2.2.2, .int .i64 x.prod.pid, .int .i64 x.prod.ep, .int .i64 x.prod.nx, .slice D1 x.prod.seen.length e1] 32)).alloc (.cells #[.int .i8 0, .int .i64 0, .int .i64 0, .int .i64 0, .bool false, .slice none 0 0, .bool false, .int .i64 0, .int .i64 0, .int .i64 0, .int .i64 0, .int .i64 0, .string ⟨#[]⟩, .string ⟨#[]⟩, .int .i64 0, .int .i64 0, .int .i64 0, .slice none 0 0] 32) := ⟨_, rfl⟩
  have KX0 : Blk W0 w.heap.size 32 #[.int .i8 x.kd, .int .i64 x.b.pid, .int .i64 x.b.ep, .int .i64 x.b.seq, .bool x.b.txn, .slice A1 x.b.rs.length c1, .bool x.yes, .int .i64 x.nx, .int .i64 x.off, .int .i64 x.row.1, .int .i64 x.row.2.1, .int .i64 x.row.2.2.1, .string x.row.2.2.2.1, .string x.row.2.2.2.2, .int .i64 x.prod.pid, .int .i64 x.prod.ep, .int .i64 x.prod.nx, .slice D1 x.prod.seen.length e1] := by rw [hW0]; exact (Blk.new _ _ _).alloc _
  have KR0 : Blk W0 (w.heap.size + 1) 32 ezero := by rw [hW0]; exact blk_new _ _ _ (by simp)
  have b0 : Below w.heap.size w W0 := by rw [hW0]; exact bal (bal (Below.refl _ _) _) _
  have hs0 : W0.heap.size = w.heap.size + 2 := by rw [hW0]; simp
  obtain ⟨W1, st1, kO, bb⟩ := fresh_en W0 #[Value.int .i8 x.kd, Value.int .i64 0, Value.int .i64 0, Value.int .i64 0, Value.bool false, Value.slice none 0 0, Value.bool false, Value.int .i64 0, Value.int .i64 0, Value.int .i64 0, Value.int .i64 0, Value.int .i64 0, Value.string ⟨#[]⟩, Value.string ⟨#[]⟩, Value.int .i64 0, Value.int .i64 0, Value.int .i64 0, Value.slice none 0 0] rfl (by simp [Value.oneCell'])
  have KX := KX0.below bb KX0.lt
  have KR := KR0.below bb KR0.lt
  have b1 := btrans b0 (bb.mono (by omega))
  have HW0 := Lib.hid hW0
  have x0 := KX0.cell 0
  have ST1 := Lib.hid st1
  have KX1 := Lib.hid KX
  have KR1 := Lib.hid KR
  have KO1 := Lib.hid kO
  have B1 := Lib.hid b1
  have HS0 := Lib.hid hs0
  have g1 : w.heap.size ≠ W0.heap.size := by omega
  have g2 : w.heap.size + 1 ≠ W0.heap.size := by omega
  have g3 : w.heap.size ≤ W0.heap.size := by omega
  have HG := Lib.hid (And.intro g1 (And.intro g2 g3))
  clear hW0 KX0 KR0 b0 hs0 st1 kO bb KX KR b1 g1 g2 g3 hr hk
  go_enter Tryz.func39, Tryz.ntmps39
  go_upto_region 1 with (fail)
  rw [← HW0.out]
  have st1 := ST1.out
  go_upto_region 2 with (fail)
  clear st1 x0
  have x0 := KX1.out.cell 0
  have x1 := KX1.out.cell 1
  have x2 := KX1.out.cell 2
  obtain ⟨W2, st, kO, _, fb, fk⟩ := store_off ([Value.int .i8 x.kd] : List Value) ([Value.int .i64 0, Value.int .i64 0, Value.int .i64 0, Value.bool false, Value.slice none 0 0] : List Value) ([Value.bool false, Value.int .i64 0, Value.int .i64 0, Value.int .i64 0, Value.int .i64 0, Value.int .i64 0, Value.string ⟨#[]⟩, Value.string ⟨#[]⟩, Value.int .i64 0, Value.int .i64 0, Value.int .i64 0, Value.slice none 0 0] : List Value) 25 (#[Value.int .i64 x.b.pid, Value.int .i64 x.b.ep, Value.int .i64 0, Value.bool false, Value.slice none 0 0] : Array Value) (show Blk W1 W0.heap.size 32 (([Value.int .i8 x.kd] : List Value) ++ ([Value.int .i64 0, Value.int .i64 0, Value.int .i64 0, Value.bool false, Value.slice none 0 0] ++ [Value.bool false, Value.int .i64 0, Value.int .i64 0, Value.int .i64 0, Value.int .i64 0, Value.int .i64 0, Value.string ⟨#[]⟩, Value.string ⟨#[]⟩, Value.int .i64 0, Value.int .i64 0, Value.int .i64 0, Value.slice none 0 0])).toArray from KO1.out) rfl (by kernel_rfl) (by simp [Value.oneCell'])
  have st2 : _ := st
  have KX2 := Lib.hid (fk _ _ _ HG.out.1 KX1.out)
  have KR2 := Lib.hid (fk _ _ _ HG.out.2.1 KR1.out)
  have B2 := Lib.hid (fb _ w HG.out.2.2 B1.out)
  have KO2 := Lib.hid (show Blk W2 W0.heap.size 32 #[Value.int .i8 x.kd, Value.int .i64 x.b.pid, Value.int .i64 x.b.ep, Value.int .i64 0, Value.bool false, Value.slice none 0 0, Value.bool false, Value.int .i64 0, Value.int .i64 0, Value.int .i64 0, Value.int .i64 0, Value.int .i64 0, Value.string ⟨#[]⟩, Value.string ⟨#[]⟩, Value.int .i64 0, Value.int .i64 0, Value.int .i64 0, Value.slice none 0 0] from kO)
  clear st kO fb fk
  simp only [List.length_cons, List.length_nil, Nat.reduceAdd, Nat.zero_add] at st2
  go_upto_region 7 with (fail)
  clear st2 x1 x2
  have x6 := KX2.out.cell 6
  obtain ⟨W3, st, kO, _, fb, fk⟩ := store_cell ([Value.int .i8 x.kd, Value.int .i64 x.b.pid, Value.int .i64 x.b.ep, Value.int .i64 0, Value.bool false, Value.slice none 0 0] : List Value) (Value.bool false) ([Value.int .i64 0, Value.int .i64 0, Value.int .i64 0, Value.int .i64 0, Value.int .i64 0, Value.string ⟨#[]⟩, Value.string ⟨#[]⟩, Value.int .i64 0, Value.int .i64 0, Value.int .i64 0, Value.slice none 0 0] : List Value) 4 (Value.bool x.yes) (fun W u h1 h2 => store_bool7 (x.yes) h1 h2) (show Blk W2 W0.heap.size 32 (([Value.int .i8 x.kd, Value.int .i64 x.b.pid, Value.int .i64 x.b.ep, Value.int .i64 0, Value.bool false, Value.slice none 0 0] : List Value) ++ ((Value.bool false) :: [Value.int .i64 0, Value.int .i64 0, Value.int .i64 0, Value.int .i64 0, Value.int .i64 0, Value.string ⟨#[]⟩, Value.string ⟨#[]⟩, Value.int .i64 0, Value.int .i64 0, Value.int .i64 0, Value.slice none 0 0])).toArray from KO2.out)
  have st3 : _ := st
  have KX3 := Lib.hid (fk _ _ _ HG.out.1 KX2.out)
  have KR3 := Lib.hid (fk _ _ _ HG.out.2.1 KR2.out)
  have B3 := Lib.hid (fb _ w HG.out.2.2 B2.out)
  have KO3 := Lib.hid (show Blk W3 W0.heap.size 32 #[Value.int .i8 x.kd, Value.int .i64 x.b.pid, Value.int .i64 x.b.ep, Value.int .i64 0, Value.bool false, Value.slice none 0 0, Value.bool x.yes, Value.int .i64 0, Value.int .i64 0, Value.int .i64 0, Value.int .i64 0, Value.int .i64 0, Value.string ⟨#[]⟩, Value.string ⟨#[]⟩, Value.int .i64 0, Value.int .i64 0, Value.int .i64 0, Value.slice none 0 0] from kO)
  clear st kO fb fk
  simp only [List.length_cons, List.length_nil, Nat.reduceAdd, Nat.zero_add] at st3
  go_upto_region 23 with (fail)
  clear st3 x6
  have LO := cells_blk KO3.out rfl
  obtain ⟨W9, st9, kw, fb, _⟩ := store_blk2 (cs := #[Value.int .i8 x.kd, Value.int .i64 x.b.pid, Value.int .i64 x.b.ep, Value.int .i64 0, Value.bool false, Value.slice none 0 0, Value.bool x.yes, Value.int .i64 0, Value.int .i64 0, Value.int .i64 0, Value.int .i64 0, Value.int .i64 0, Value.string ⟨#[]⟩, Value.string ⟨#[]⟩, Value.int .i64 0, Value.int .i64 0, Value.int .i64 0, Value.slice none 0 0]) KR3.out rfl rfl (by simp [Value.oneCell'])
  have BW := Lib.hid (fb _ w (Nat.le_succ _) B3.out)
  have KW := Lib.hid kw
  clear kw fb
  go_wp2_with fail
  have kq : Blk W9 (w.heap.size + 1) 32 #[.int .i8 (bareEn x).kd, .int .i64 (bareEn x).b.pid, .int .i64 (bareEn x).b.ep, .int .i64 (bareEn x).b.seq, .bool (bareEn x).b.txn, .slice none (bareEn x).b.rs.length 0, .bool (bareEn x).yes, .int .i64 (bareEn x).nx, .int .i64 (bareEn x).off, .int .i64 (bareEn x).row.1, .int .i64 (bareEn x).row.2.1, .int .i64 (bareEn x).row.2.2.1, .string (bareEn x).row.2.2.2.1, .string (bareEn x).row.2.2.2.2, .int .i64 (bareEn x).prod.pid, .int .i64 (bareEn x).prod.ep, .int .i64 (bareEn x).prod.nx, .slice none (bareEn x).prod.seen.length 0] := by rw [HQ.out]; exact KW.out
  refine bodyPost_ret (bare_ret (bareEn x) none none 0 0 _ (w.heap.size + 1) _ rfl kq) rfl ?_
  refine ⟨none, none, 0, 0, rfl, ?_, BW.out⟩
  rw [HQ.out]
  exact ⟨Reads.none_, Reads.none_, Nat.zero_le _, Nat.zero_le _⟩
set_option maxRecDepth 100000 in
set_option maxHeartbeats 4000000 in
theorem bare_2 (x : En) (hk : x.kd = 2) (A1 D1 : Option Addr) (c1 e1 : Nat) (w : World) (hr : EnR w x A1 D1) :
    Calls Tryz.prog 39 #[(.agg #[.int .i8 x.kd, .int .i64 x.b.pid, .int .i64 x.b.ep, .int .i64 x.b.seq, .bool x.b.txn, .slice A1 x.b.rs.length c1, .bool x.yes, .int .i64 x.nx, .int .i64 x.off, .int .i64 x.row.1, .int .i64 x.row.2.1, .int .i64 x.row.2.2.1, .string x.row.2.2.2.1, .string x.row.2.2.2.2, .int .i64 x.prod.pid, .int .i64 x.prod.ep, .int .i64 x.prod.nx, .slice D1 x.prod.seen.length e1])] w (BarePost x w) := by
  have HR := Lib.hid hr
  have HQ := Lib.hid (show bareEn x = { baseEn x.kd with off := x.off } by unfold bareEn; rw [hk]; rfl)
  have cc0 : (x.kd == 0) = false := by rw [hk]; rfl
  have cc1 : (x.kd == 1) = false := by rw [hk]; rfl
  have cc2 : (x.kd == 2) = true := by rw [hk]; rfl
  have cc3 : (x.kd == 3) = false := by rw [hk]; rfl
  have cc4 : (x.kd == 4) = false := by rw [hk]; rfl
  have cc5 : (x.kd == 5) = false := by rw [hk]; rfl
  have cc6 : (x.kd == 6) = false := by rw [hk]; rfl
  obtain ⟨W0, hW0⟩ : ∃ W0, W0 = (w.alloc (.cells #[.int .i8 x.kd, .int .i64 x.b.pid, .int .i64 x.b.ep, .int .i64 x.b.seq, .bool x.b.txn, .slice A1 x.b.rs.length c1, .bool x.yes, .int .i64 x.nx, .int .i64 x.off, .int .i64 x.row.1, .int .i64 x.row.2.1, .int .i64 x.row.2.2.1, .string x.row.2.2.2.1, .string x.row.2.2.2.2, .int .i64 x.prod.pid, .int .i64 x.prod.ep, .int .i64 x.prod.nx, .slice D1 x.prod.seen.length e1] 32)).alloc (.cells #[.int .i8 0, .int .i64 0, .int .i64 0, .int .i64 0, .bool false, .slice none 0 0, .bool false, .int .i64 0, .int .i64 0, .int .i64 0, .int .i64 0, .int .i64 0, .string ⟨#[]⟩, .string ⟨#[]⟩, .int .i64 0, .int .i64 0, .int .i64 0, .slice none 0 0] 32) := ⟨_, rfl⟩
  have KX0 : Blk W0 w.heap.size 32 #[.int .i8 x.kd, .int .i64 x.b.pid, .int .i64 x.b.ep, .int .i64 x.b.seq, .bool x.b.txn, .slice A1 x.b.rs.length c1, .bool x.yes, .int .i64 x.nx, .int .i64 x.off, .int .i64 x.row.1, .int .i64 x.row.2.1, .int .i64 x.row.2.2.1, .string x.row.2.2.2.1, .string x.row.2.2.2.2, .int .i64 x.prod.pid, .int .i64 x.prod.ep, .int .i64 x.prod.nx, .slice D1 x.prod.seen.length e1] := by rw [hW0]; exact (Blk.new _ _ _).alloc _
  have KR0 : Blk W0 (w.heap.size + 1) 32 ezero := by rw [hW0]; exact blk_new _ _ _ (by simp)
  have b0 : Below w.heap.size w W0 := by rw [hW0]; exact bal (bal (Below.refl _ _) _) _
  have hs0 : W0.heap.size = w.heap.size + 2 := by rw [hW0]; simp
  obtain ⟨W1, st1, kO, bb⟩ := fresh_en W0 #[Value.int .i8 x.kd, Value.int .i64 0, Value.int .i64 0, Value.int .i64 0, Value.bool false, Value.slice none 0 0, Value.bool false, Value.int .i64 0, Value.int .i64 0, Value.int .i64 0, Value.int .i64 0, Value.int .i64 0, Value.string ⟨#[]⟩, Value.string ⟨#[]⟩, Value.int .i64 0, Value.int .i64 0, Value.int .i64 0, Value.slice none 0 0] rfl (by simp [Value.oneCell'])
  have KX := KX0.below bb KX0.lt
  have KR := KR0.below bb KR0.lt
  have b1 := btrans b0 (bb.mono (by omega))
  have HW0 := Lib.hid hW0
  have x0 := KX0.cell 0
  have ST1 := Lib.hid st1
  have KX1 := Lib.hid KX
  have KR1 := Lib.hid KR
  have KO1 := Lib.hid kO
  have B1 := Lib.hid b1
  have HS0 := Lib.hid hs0
  have g1 : w.heap.size ≠ W0.heap.size := by omega
  have g2 : w.heap.size + 1 ≠ W0.heap.size := by omega
  have g3 : w.heap.size ≤ W0.heap.size := by omega
  have HG := Lib.hid (And.intro g1 (And.intro g2 g3))
  clear hW0 KX0 KR0 b0 hs0 st1 kO bb KX KR b1 g1 g2 g3 hr hk
  go_enter Tryz.func39, Tryz.ntmps39
  go_upto_region 1 with (fail)
  rw [← HW0.out]
  have st1 := ST1.out
  go_upto_region 2 with (fail)
  clear st1 x0
  have x0 := KX1.out.cell 0
  have x8 := KX1.out.cell 8
  obtain ⟨W2, st, kO, _, fb, fk⟩ := store_cell ([Value.int .i8 x.kd, Value.int .i64 0, Value.int .i64 0, Value.int .i64 0, Value.bool false, Value.slice none 0 0, Value.bool false, Value.int .i64 0] : List Value) (Value.int .i64 0) ([Value.int .i64 0, Value.int .i64 0, Value.int .i64 0, Value.string ⟨#[]⟩, Value.string ⟨#[]⟩, Value.int .i64 0, Value.int .i64 0, Value.int .i64 0, Value.slice none 0 0] : List Value) 3 (Value.int .i64 x.off) (fun W u h1 h2 => store_int7 (x.off) h1 h2) (show Blk W1 W0.heap.size 32 (([Value.int .i8 x.kd, Value.int .i64 0, Value.int .i64 0, Value.int .i64 0, Value.bool false, Value.slice none 0 0, Value.bool false, Value.int .i64 0] : List Value) ++ ((Value.int .i64 0) :: [Value.int .i64 0, Value.int .i64 0, Value.int .i64 0, Value.string ⟨#[]⟩, Value.string ⟨#[]⟩, Value.int .i64 0, Value.int .i64 0, Value.int .i64 0, Value.slice none 0 0])).toArray from KO1.out)
  have st2 : _ := st
  have KX2 := Lib.hid (fk _ _ _ HG.out.1 KX1.out)
  have KR2 := Lib.hid (fk _ _ _ HG.out.2.1 KR1.out)
  have B2 := Lib.hid (fb _ w HG.out.2.2 B1.out)
  have KO2 := Lib.hid (show Blk W2 W0.heap.size 32 #[Value.int .i8 x.kd, Value.int .i64 0, Value.int .i64 0, Value.int .i64 0, Value.bool false, Value.slice none 0 0, Value.bool false, Value.int .i64 0, Value.int .i64 x.off, Value.int .i64 0, Value.int .i64 0, Value.int .i64 0, Value.string ⟨#[]⟩, Value.string ⟨#[]⟩, Value.int .i64 0, Value.int .i64 0, Value.int .i64 0, Value.slice none 0 0] from kO)
  clear st kO fb fk
  simp only [List.length_cons, List.length_nil, Nat.reduceAdd, Nat.zero_add] at st2
  go_upto_region 23 with (fail)
  clear st2 x8
  have LO := cells_blk KO2.out rfl
  obtain ⟨W9, st9, kw, fb, _⟩ := store_blk2 (cs := #[Value.int .i8 x.kd, Value.int .i64 0, Value.int .i64 0, Value.int .i64 0, Value.bool false, Value.slice none 0 0, Value.bool false, Value.int .i64 0, Value.int .i64 x.off, Value.int .i64 0, Value.int .i64 0, Value.int .i64 0, Value.string ⟨#[]⟩, Value.string ⟨#[]⟩, Value.int .i64 0, Value.int .i64 0, Value.int .i64 0, Value.slice none 0 0]) KR2.out rfl rfl (by simp [Value.oneCell'])
  have BW := Lib.hid (fb _ w (Nat.le_succ _) B2.out)
  have KW := Lib.hid kw
  clear kw fb
  go_wp2_with fail
  have kq : Blk W9 (w.heap.size + 1) 32 #[.int .i8 (bareEn x).kd, .int .i64 (bareEn x).b.pid, .int .i64 (bareEn x).b.ep, .int .i64 (bareEn x).b.seq, .bool (bareEn x).b.txn, .slice none (bareEn x).b.rs.length 0, .bool (bareEn x).yes, .int .i64 (bareEn x).nx, .int .i64 (bareEn x).off, .int .i64 (bareEn x).row.1, .int .i64 (bareEn x).row.2.1, .int .i64 (bareEn x).row.2.2.1, .string (bareEn x).row.2.2.2.1, .string (bareEn x).row.2.2.2.2, .int .i64 (bareEn x).prod.pid, .int .i64 (bareEn x).prod.ep, .int .i64 (bareEn x).prod.nx, .slice none (bareEn x).prod.seen.length 0] := by rw [HQ.out]; exact KW.out
  refine bodyPost_ret (bare_ret (bareEn x) none none 0 0 _ (w.heap.size + 1) _ rfl kq) rfl ?_
  refine ⟨none, none, 0, 0, rfl, ?_, BW.out⟩
  rw [HQ.out]
  exact ⟨Reads.none_, Reads.none_, Nat.zero_le _, Nat.zero_le _⟩
set_option maxRecDepth 100000 in
set_option maxHeartbeats 4000000 in
theorem bare_3f (x : En) (hk : x.kd = 3) (hy : x.yes = false) (A1 D1 : Option Addr) (c1 e1 : Nat) (w : World) (hr : EnR w x A1 D1) :
    Calls Tryz.prog 39 #[(.agg #[.int .i8 x.kd, .int .i64 x.b.pid, .int .i64 x.b.ep, .int .i64 x.b.seq, .bool x.b.txn, .slice A1 x.b.rs.length c1, .bool x.yes, .int .i64 x.nx, .int .i64 x.off, .int .i64 x.row.1, .int .i64 x.row.2.1, .int .i64 x.row.2.2.1, .string x.row.2.2.2.1, .string x.row.2.2.2.2, .int .i64 x.prod.pid, .int .i64 x.prod.ep, .int .i64 x.prod.nx, .slice D1 x.prod.seen.length e1])] w (BarePost x w) := by
  have HR := Lib.hid hr
  have HQ := Lib.hid (show bareEn x = { baseEn x.kd with b := x.b, yes := x.yes } by unfold bareEn; rw [hk, hy]; rfl)
  have cc0 : (x.kd == 0) = false := by rw [hk]; rfl
  have cc1 : (x.kd == 1) = false := by rw [hk]; rfl
  have cc2 : (x.kd == 2) = false := by rw [hk]; rfl
  have cc3 : (x.kd == 3) = true := by rw [hk]; rfl
  have cc4 : (x.kd == 4) = false := by rw [hk]; rfl
  have cc5 : (x.kd == 5) = false := by rw [hk]; rfl
  have cc6 : (x.kd == 6) = false := by rw [hk]; rfl
  obtain ⟨W0, hW0⟩ : ∃ W0, W0 = (w.alloc (.cells #[.int .i8 x.kd, .int .i64 x.b.pid, .int .i64 x.b.ep, .int .i64 x.b.seq, .bool x.b.txn, .slice A1 x.b.rs.length c1, .bool x.yes, .int .i64 x.nx, .int .i64 x.off, .int .i64 x.row.1, .int .i64 x.row.2.1, .int .i64 x.row.2.2.1, .string x.row.2.2.2.1, .string x.row.2.2.2.2, .int .i64 x.prod.pid, .int .i64 x.prod.ep, .int .i64 x.prod.nx, .slice D1 x.prod.seen.length e1] 32)).alloc (.cells #[.int .i8 0, .int .i64 0, .int .i64 0, .int .i64 0, .bool false, .slice none 0 0, .bool false, .int .i64 0, .int .i64 0, .int .i64 0, .int .i64 0, .int .i64 0, .string ⟨#[]⟩, .string ⟨#[]⟩, .int .i64 0, .int .i64 0, .int .i64 0, .slice none 0 0] 32) := ⟨_, rfl⟩
  have KX0 : Blk W0 w.heap.size 32 #[.int .i8 x.kd, .int .i64 x.b.pid, .int .i64 x.b.ep, .int .i64 x.b.seq, .bool x.b.txn, .slice A1 x.b.rs.length c1, .bool x.yes, .int .i64 x.nx, .int .i64 x.off, .int .i64 x.row.1, .int .i64 x.row.2.1, .int .i64 x.row.2.2.1, .string x.row.2.2.2.1, .string x.row.2.2.2.2, .int .i64 x.prod.pid, .int .i64 x.prod.ep, .int .i64 x.prod.nx, .slice D1 x.prod.seen.length e1] := by rw [hW0]; exact (Blk.new _ _ _).alloc _
  have KR0 : Blk W0 (w.heap.size + 1) 32 ezero := by rw [hW0]; exact blk_new _ _ _ (by simp)
  have b0 : Below w.heap.size w W0 := by rw [hW0]; exact bal (bal (Below.refl _ _) _) _
  have hs0 : W0.heap.size = w.heap.size + 2 := by rw [hW0]; simp
  obtain ⟨W1, st1, kO, bb⟩ := fresh_en W0 #[Value.int .i8 x.kd, Value.int .i64 0, Value.int .i64 0, Value.int .i64 0, Value.bool false, Value.slice none 0 0, Value.bool false, Value.int .i64 0, Value.int .i64 0, Value.int .i64 0, Value.int .i64 0, Value.int .i64 0, Value.string ⟨#[]⟩, Value.string ⟨#[]⟩, Value.int .i64 0, Value.int .i64 0, Value.int .i64 0, Value.slice none 0 0] rfl (by simp [Value.oneCell'])
  have KX := KX0.below bb KX0.lt
  have KR := KR0.below bb KR0.lt
  have b1 := btrans b0 (bb.mono (by omega))
  have HW0 := Lib.hid hW0
  have x0 := KX0.cell 0
  have ST1 := Lib.hid st1
  have KX1 := Lib.hid KX
  have KR1 := Lib.hid KR
  have KO1 := Lib.hid kO
  have B1 := Lib.hid b1
  have HS0 := Lib.hid hs0
  have g1 : w.heap.size ≠ W0.heap.size := by omega
  have g2 : w.heap.size + 1 ≠ W0.heap.size := by omega
  have g3 : w.heap.size ≤ W0.heap.size := by omega
  have HG := Lib.hid (And.intro g1 (And.intro g2 g3))
  clear hW0 KX0 KR0 b0 hs0 st1 kO bb KX KR b1 g1 g2 g3 hr hk
  have HY := Lib.hid hy
  clear hy
  go_enter Tryz.func39, Tryz.ntmps39
  go_upto_region 1 with (fail)
  rw [← HW0.out]
  have st1 := ST1.out
  go_upto_region 2 with (fail)
  clear st1 x0
  have x0 := KX1.out.cell 0
  have LB := cells_off KX1.out 1 5 rfl rfl
  obtain ⟨W2, st, kO, _, fb, fk⟩ := store_off ([Value.int .i8 x.kd] : List Value) ([Value.int .i64 0, Value.int .i64 0, Value.int .i64 0, Value.bool false, Value.slice none 0 0] : List Value) ([Value.bool false, Value.int .i64 0, Value.int .i64 0, Value.int .i64 0, Value.int .i64 0, Value.int .i64 0, Value.string ⟨#[]⟩, Value.string ⟨#[]⟩, Value.int .i64 0, Value.int .i64 0, Value.int .i64 0, Value.slice none 0 0] : List Value) 25 (#[Value.int .i64 x.b.pid, Value.int .i64 x.b.ep, Value.int .i64 x.b.seq, Value.bool x.b.txn, Value.slice A1 x.b.rs.length c1] : Array Value) (show Blk W1 W0.heap.size 32 (([Value.int .i8 x.kd] : List Value) ++ ([Value.int .i64 0, Value.int .i64 0, Value.int .i64 0, Value.bool false, Value.slice none 0 0] ++ [Value.bool false, Value.int .i64 0, Value.int .i64 0, Value.int .i64 0, Value.int .i64 0, Value.int .i64 0, Value.string ⟨#[]⟩, Value.string ⟨#[]⟩, Value.int .i64 0, Value.int .i64 0, Value.int .i64 0, Value.slice none 0 0])).toArray from KO1.out) rfl (by kernel_rfl) (by simp [Value.oneCell'])
  have st2 : _ := st
  have KX2 := Lib.hid (fk _ _ _ HG.out.1 KX1.out)
  have KR2 := Lib.hid (fk _ _ _ HG.out.2.1 KR1.out)
  have B2 := Lib.hid (fb _ w HG.out.2.2 B1.out)
  have KO2 := Lib.hid (show Blk W2 W0.heap.size 32 #[Value.int .i8 x.kd, Value.int .i64 x.b.pid, Value.int .i64 x.b.ep, Value.int .i64 x.b.seq, Value.bool x.b.txn, Value.slice A1 x.b.rs.length c1, Value.bool false, Value.int .i64 0, Value.int .i64 0, Value.int .i64 0, Value.int .i64 0, Value.int .i64 0, Value.string ⟨#[]⟩, Value.string ⟨#[]⟩, Value.int .i64 0, Value.int .i64 0, Value.int .i64 0, Value.slice none 0 0] from kO)
  clear st kO fb fk
  simp only [List.length_cons, List.length_nil, Nat.reduceAdd, Nat.zero_add] at st2
  go_upto_region 12 with (fail)
  clear st2 LB 
  have x6 := KX2.out.cell 6
  obtain ⟨W3, st, kO, _, fb, fk⟩ := store_cell ([Value.int .i8 x.kd, Value.int .i64 x.b.pid, Value.int .i64 x.b.ep, Value.int .i64 x.b.seq, Value.bool x.b.txn, Value.slice A1 x.b.rs.length c1] : List Value) (Value.bool false) ([Value.int .i64 0, Value.int .i64 0, Value.int .i64 0, Value.int .i64 0, Value.int .i64 0, Value.string ⟨#[]⟩, Value.string ⟨#[]⟩, Value.int .i64 0, Value.int .i64 0, Value.int .i64 0, Value.slice none 0 0] : List Value) 4 (Value.bool x.yes) (fun W u h1 h2 => store_bool7 (x.yes) h1 h2) (show Blk W2 W0.heap.size 32 (([Value.int .i8 x.kd, Value.int .i64 x.b.pid, Value.int .i64 x.b.ep, Value.int .i64 x.b.seq, Value.bool x.b.txn, Value.slice A1 x.b.rs.length c1] : List Value) ++ ((Value.bool false) :: [Value.int .i64 0, Value.int .i64 0, Value.int .i64 0, Value.int .i64 0, Value.int .i64 0, Value.string ⟨#[]⟩, Value.string ⟨#[]⟩, Value.int .i64 0, Value.int .i64 0, Value.int .i64 0, Value.slice none 0 0])).toArray from KO2.out)
  have st3 : _ := st
  have KX3 := Lib.hid (fk _ _ _ HG.out.1 KX2.out)
  have KR3 := Lib.hid (fk _ _ _ HG.out.2.1 KR2.out)
  have B3 := Lib.hid (fb _ w HG.out.2.2 B2.out)
  have KO3 := Lib.hid (show Blk W3 W0.heap.size 32 #[Value.int .i8 x.kd, Value.int .i64 x.b.pid, Value.int .i64 x.b.ep, Value.int .i64 x.b.seq, Value.bool x.b.txn, Value.slice A1 x.b.rs.length c1, Value.bool x.yes, Value.int .i64 0, Value.int .i64 0, Value.int .i64 0, Value.int .i64 0, Value.int .i64 0, Value.string ⟨#[]⟩, Value.string ⟨#[]⟩, Value.int .i64 0, Value.int .i64 0, Value.int .i64 0, Value.slice none 0 0] from kO)
  clear st kO fb fk
  simp only [List.length_cons, List.length_nil, Nat.reduceAdd, Nat.zero_add] at st3
  go_upto_region 13 with (fail)
  clear st3 x6
  have x6 := KX3.out.cell 6
  rw [HY.out] at x6
  go_upto_region 23 with (fail)
  clear x6
  have LO := cells_blk KO3.out rfl
  obtain ⟨W9, st9, kw, fb, _⟩ := store_blk2 (cs := #[Value.int .i8 x.kd, Value.int .i64 x.b.pid, Value.int .i64 x.b.ep, Value.int .i64 x.b.seq, Value.bool x.b.txn, Value.slice A1 x.b.rs.length c1, Value.bool x.yes, Value.int .i64 0, Value.int .i64 0, Value.int .i64 0, Value.int .i64 0, Value.int .i64 0, Value.string ⟨#[]⟩, Value.string ⟨#[]⟩, Value.int .i64 0, Value.int .i64 0, Value.int .i64 0, Value.slice none 0 0]) KR3.out rfl rfl (by simp [Value.oneCell'])
  have BW := Lib.hid (fb _ w (Nat.le_succ _) B3.out)
  have KW := Lib.hid kw
  clear kw fb
  go_wp2_with fail
  have kq : Blk W9 (w.heap.size + 1) 32 #[.int .i8 (bareEn x).kd, .int .i64 (bareEn x).b.pid, .int .i64 (bareEn x).b.ep, .int .i64 (bareEn x).b.seq, .bool (bareEn x).b.txn, .slice A1 (bareEn x).b.rs.length c1, .bool (bareEn x).yes, .int .i64 (bareEn x).nx, .int .i64 (bareEn x).off, .int .i64 (bareEn x).row.1, .int .i64 (bareEn x).row.2.1, .int .i64 (bareEn x).row.2.2.1, .string (bareEn x).row.2.2.2.1, .string (bareEn x).row.2.2.2.2, .int .i64 (bareEn x).prod.pid, .int .i64 (bareEn x).prod.ep, .int .i64 (bareEn x).prod.nx, .slice none (bareEn x).prod.seen.length 0] := by rw [HQ.out]; exact KW.out
  refine bodyPost_ret (bare_ret (bareEn x) A1 none c1 0 _ (w.heap.size + 1) _ rfl kq) rfl ?_
  refine ⟨A1, none, c1, 0, rfl, ?_, BW.out⟩
  rw [HQ.out]
  exact ⟨(HR.out.up BW.out).1, Reads.none_, HR.out.2.2.1, Nat.zero_le _⟩
set_option maxRecDepth 100000 in
set_option maxHeartbeats 4000000 in
theorem bare_3t (x : En) (hk : x.kd = 3) (hy : x.yes = true) (A1 D1 : Option Addr) (c1 e1 : Nat) (w : World) (hr : EnR w x A1 D1) :
    Calls Tryz.prog 39 #[(.agg #[.int .i8 x.kd, .int .i64 x.b.pid, .int .i64 x.b.ep, .int .i64 x.b.seq, .bool x.b.txn, .slice A1 x.b.rs.length c1, .bool x.yes, .int .i64 x.nx, .int .i64 x.off, .int .i64 x.row.1, .int .i64 x.row.2.1, .int .i64 x.row.2.2.1, .string x.row.2.2.2.1, .string x.row.2.2.2.2, .int .i64 x.prod.pid, .int .i64 x.prod.ep, .int .i64 x.prod.nx, .slice D1 x.prod.seen.length e1])] w (BarePost x w) := by
  have HR := Lib.hid hr
  have HQ := Lib.hid (show bareEn x = { baseEn x.kd with b := x.b, yes := x.yes, nx := x.nx } by unfold bareEn; rw [hk, hy]; rfl)
  have cc0 : (x.kd == 0) = false := by rw [hk]; rfl
  have cc1 : (x.kd == 1) = false := by rw [hk]; rfl
  have cc2 : (x.kd == 2) = false := by rw [hk]; rfl
  have cc3 : (x.kd == 3) = true := by rw [hk]; rfl
  have cc4 : (x.kd == 4) = false := by rw [hk]; rfl
  have cc5 : (x.kd == 5) = false := by rw [hk]; rfl
  have cc6 : (x.kd == 6) = false := by rw [hk]; rfl
  obtain ⟨W0, hW0⟩ : ∃ W0, W0 = (w.alloc (.cells #[.int .i8 x.kd, .int .i64 x.b.pid, .int .i64 x.b.ep, .int .i64 x.b.seq, .bool x.b.txn, .slice A1 x.b.rs.length c1, .bool x.yes, .int .i64 x.nx, .int .i64 x.off, .int .i64 x.row.1, .int .i64 x.row.2.1, .int .i64 x.row.2.2.1, .string x.row.2.2.2.1, .string x.row.2.2.2.2, .int .i64 x.prod.pid, .int .i64 x.prod.ep, .int .i64 x.prod.nx, .slice D1 x.prod.seen.length e1] 32)).alloc (.cells #[.int .i8 0, .int .i64 0, .int .i64 0, .int .i64 0, .bool false, .slice none 0 0, .bool false, .int .i64 0, .int .i64 0, .int .i64 0, .int .i64 0, .int .i64 0, .string ⟨#[]⟩, .string ⟨#[]⟩, .int .i64 0, .int .i64 0, .int .i64 0, .slice none 0 0] 32) := ⟨_, rfl⟩
  have KX0 : Blk W0 w.heap.size 32 #[.int .i8 x.kd, .int .i64 x.b.pid, .int .i64 x.b.ep, .int .i64 x.b.seq, .bool x.b.txn, .slice A1 x.b.rs.length c1, .bool x.yes, .int .i64 x.nx, .int .i64 x.off, .int .i64 x.row.1, .int .i64 x.row.2.1, .int .i64 x.row.2.2.1, .string x.row.2.2.2.1, .string x.row.2.2.2.2, .int .i64 x.prod.pid, .int .i64 x.prod.ep, .int .i64 x.prod.nx, .slice D1 x.prod.seen.length e1] := by rw [hW0]; exact (Blk.new _ _ _).alloc _
  have KR0 : Blk W0 (w.heap.size + 1) 32 ezero := by rw [hW0]; exact blk_new _ _ _ (by simp)
  have b0 : Below w.heap.size w W0 := by rw [hW0]; exact bal (bal (Below.refl _ _) _) _
  have hs0 : W0.heap.size = w.heap.size + 2 := by rw [hW0]; simp
  obtain ⟨W1, st1, kO, bb⟩ := fresh_en W0 #[Value.int .i8 x.kd, Value.int .i64 0, Value.int .i64 0, Value.int .i64 0, Value.bool false, Value.slice none 0 0, Value.bool false, Value.int .i64 0, Value.int .i64 0, Value.int .i64 0, Value.int .i64 0, Value.int .i64 0, Value.string ⟨#[]⟩, Value.string ⟨#[]⟩, Value.int .i64 0, Value.int .i64 0, Value.int .i64 0, Value.slice none 0 0] rfl (by simp [Value.oneCell'])
  have KX := KX0.below bb KX0.lt
  have KR := KR0.below bb KR0.lt
  have b1 := btrans b0 (bb.mono (by omega))
  have HW0 := Lib.hid hW0
  have x0 := KX0.cell 0
  have ST1 := Lib.hid st1
  have KX1 := Lib.hid KX
  have KR1 := Lib.hid KR
  have KO1 := Lib.hid kO
  have B1 := Lib.hid b1
  have HS0 := Lib.hid hs0
  have g1 : w.heap.size ≠ W0.heap.size := by omega
  have g2 : w.heap.size + 1 ≠ W0.heap.size := by omega
  have g3 : w.heap.size ≤ W0.heap.size := by omega
  have HG := Lib.hid (And.intro g1 (And.intro g2 g3))
  clear hW0 KX0 KR0 b0 hs0 st1 kO bb KX KR b1 g1 g2 g3 hr hk
  have HY := Lib.hid hy
  clear hy
  go_enter Tryz.func39, Tryz.ntmps39
  go_upto_region 1 with (fail)
  rw [← HW0.out]
  have st1 := ST1.out
  go_upto_region 2 with (fail)
  clear st1 x0
  have x0 := KX1.out.cell 0
  have LB := cells_off KX1.out 1 5 rfl rfl
  obtain ⟨W2, st, kO, _, fb, fk⟩ := store_off ([Value.int .i8 x.kd] : List Value) ([Value.int .i64 0, Value.int .i64 0, Value.int .i64 0, Value.bool false, Value.slice none 0 0] : List Value) ([Value.bool false, Value.int .i64 0, Value.int .i64 0, Value.int .i64 0, Value.int .i64 0, Value.int .i64 0, Value.string ⟨#[]⟩, Value.string ⟨#[]⟩, Value.int .i64 0, Value.int .i64 0, Value.int .i64 0, Value.slice none 0 0] : List Value) 25 (#[Value.int .i64 x.b.pid, Value.int .i64 x.b.ep, Value.int .i64 x.b.seq, Value.bool x.b.txn, Value.slice A1 x.b.rs.length c1] : Array Value) (show Blk W1 W0.heap.size 32 (([Value.int .i8 x.kd] : List Value) ++ ([Value.int .i64 0, Value.int .i64 0, Value.int .i64 0, Value.bool false, Value.slice none 0 0] ++ [Value.bool false, Value.int .i64 0, Value.int .i64 0, Value.int .i64 0, Value.int .i64 0, Value.int .i64 0, Value.string ⟨#[]⟩, Value.string ⟨#[]⟩, Value.int .i64 0, Value.int .i64 0, Value.int .i64 0, Value.slice none 0 0])).toArray from KO1.out) rfl (by kernel_rfl) (by simp [Value.oneCell'])
  have st2 : _ := st
  have KX2 := Lib.hid (fk _ _ _ HG.out.1 KX1.out)
  have KR2 := Lib.hid (fk _ _ _ HG.out.2.1 KR1.out)
  have B2 := Lib.hid (fb _ w HG.out.2.2 B1.out)
  have KO2 := Lib.hid (show Blk W2 W0.heap.size 32 #[Value.int .i8 x.kd, Value.int .i64 x.b.pid, Value.int .i64 x.b.ep, Value.int .i64 x.b.seq, Value.bool x.b.txn, Value.slice A1 x.b.rs.length c1, Value.bool false, Value.int .i64 0, Value.int .i64 0, Value.int .i64 0, Value.int .i64 0, Value.int .i64 0, Value.string ⟨#[]⟩, Value.string ⟨#[]⟩, Value.int .i64 0, Value.int .i64 0, Value.int .i64 0, Value.slice none 0 0] from kO)
  clear st kO fb fk
  simp only [List.length_cons, List.length_nil, Nat.reduceAdd, Nat.zero_add] at st2
  go_upto_region 12 with (fail)
  clear st2 LB 
  have x6 := KX2.out.cell 6
  obtain ⟨W3, st, kO, _, fb, fk⟩ := store_cell ([Value.int .i8 x.kd, Value.int .i64 x.b.pid, Value.int .i64 x.b.ep, Value.int .i64 x.b.seq, Value.bool x.b.txn, Value.slice A1 x.b.rs.length c1] : List Value) (Value.bool false) ([Value.int .i64 0, Value.int .i64 0, Value.int .i64 0, Value.int .i64 0, Value.int .i64 0, Value.string ⟨#[]⟩, Value.string ⟨#[]⟩, Value.int .i64 0, Value.int .i64 0, Value.int .i64 0, Value.slice none 0 0] : List Value) 4 (Value.bool x.yes) (fun W u h1 h2 => store_bool7 (x.yes) h1 h2) (show Blk W2 W0.heap.size 32 (([Value.int .i8 x.kd, Value.int .i64 x.b.pid, Value.int .i64 x.b.ep, Value.int .i64 x.b.seq, Value.bool x.b.txn, Value.slice A1 x.b.rs.length c1] : List Value) ++ ((Value.bool false) :: [Value.int .i64 0, Value.int .i64 0, Value.int .i64 0, Value.int .i64 0, Value.int .i64 0, Value.string ⟨#[]⟩, Value.string ⟨#[]⟩, Value.int .i64 0, Value.int .i64 0, Value.int .i64 0, Value.slice none 0 0])).toArray from KO2.out)
  have st3 : _ := st
  have KX3 := Lib.hid (fk _ _ _ HG.out.1 KX2.out)
  have KR3 := Lib.hid (fk _ _ _ HG.out.2.1 KR2.out)
  have B3 := Lib.hid (fb _ w HG.out.2.2 B2.out)
  have KO3 := Lib.hid (show Blk W3 W0.heap.size 32 #[Value.int .i8 x.kd, Value.int .i64 x.b.pid, Value.int .i64 x.b.ep, Value.int .i64 x.b.seq, Value.bool x.b.txn, Value.slice A1 x.b.rs.length c1, Value.bool x.yes, Value.int .i64 0, Value.int .i64 0, Value.int .i64 0, Value.int .i64 0, Value.int .i64 0, Value.string ⟨#[]⟩, Value.string ⟨#[]⟩, Value.int .i64 0, Value.int .i64 0, Value.int .i64 0, Value.slice none 0 0] from kO)
  clear st kO fb fk
  simp only [List.length_cons, List.length_nil, Nat.reduceAdd, Nat.zero_add] at st3
  go_upto_region 13 with (fail)
  clear st3 x6
  have x6 := KX3.out.cell 6
  rw [HY.out] at x6
  go_upto_region 14 with (fail)
  clear x6
  have x7 := KX3.out.cell 7
  obtain ⟨W4, st, kO, _, fb, fk⟩ := store_cell ([Value.int .i8 x.kd, Value.int .i64 x.b.pid, Value.int .i64 x.b.ep, Value.int .i64 x.b.seq, Value.bool x.b.txn, Value.slice A1 x.b.rs.length c1, Value.bool x.yes] : List Value) (Value.int .i64 0) ([Value.int .i64 0, Value.int .i64 0, Value.int .i64 0, Value.int .i64 0, Value.string ⟨#[]⟩, Value.string ⟨#[]⟩, Value.int .i64 0, Value.int .i64 0, Value.int .i64 0, Value.slice none 0 0] : List Value) 3 (Value.int .i64 x.nx) (fun W u h1 h2 => store_int7 (x.nx) h1 h2) (show Blk W3 W0.heap.size 32 (([Value.int .i8 x.kd, Value.int .i64 x.b.pid, Value.int .i64 x.b.ep, Value.int .i64 x.b.seq, Value.bool x.b.txn, Value.slice A1 x.b.rs.length c1, Value.bool x.yes] : List Value) ++ ((Value.int .i64 0) :: [Value.int .i64 0, Value.int .i64 0, Value.int .i64 0, Value.int .i64 0, Value.string ⟨#[]⟩, Value.string ⟨#[]⟩, Value.int .i64 0, Value.int .i64 0, Value.int .i64 0, Value.slice none 0 0])).toArray from KO3.out)
  have st4 : _ := st
  have KX4 := Lib.hid (fk _ _ _ HG.out.1 KX3.out)
  have KR4 := Lib.hid (fk _ _ _ HG.out.2.1 KR3.out)
  have B4 := Lib.hid (fb _ w HG.out.2.2 B3.out)
  have KO4 := Lib.hid (show Blk W4 W0.heap.size 32 #[Value.int .i8 x.kd, Value.int .i64 x.b.pid, Value.int .i64 x.b.ep, Value.int .i64 x.b.seq, Value.bool x.b.txn, Value.slice A1 x.b.rs.length c1, Value.bool x.yes, Value.int .i64 x.nx, Value.int .i64 0, Value.int .i64 0, Value.int .i64 0, Value.int .i64 0, Value.string ⟨#[]⟩, Value.string ⟨#[]⟩, Value.int .i64 0, Value.int .i64 0, Value.int .i64 0, Value.slice none 0 0] from kO)
  clear st kO fb fk
  simp only [List.length_cons, List.length_nil, Nat.reduceAdd, Nat.zero_add] at st4
  go_upto_region 23 with (fail)
  clear st4 x7
  have LO := cells_blk KO4.out rfl
  obtain ⟨W9, st9, kw, fb, _⟩ := store_blk2 (cs := #[Value.int .i8 x.kd, Value.int .i64 x.b.pid, Value.int .i64 x.b.ep, Value.int .i64 x.b.seq, Value.bool x.b.txn, Value.slice A1 x.b.rs.length c1, Value.bool x.yes, Value.int .i64 x.nx, Value.int .i64 0, Value.int .i64 0, Value.int .i64 0, Value.int .i64 0, Value.string ⟨#[]⟩, Value.string ⟨#[]⟩, Value.int .i64 0, Value.int .i64 0, Value.int .i64 0, Value.slice none 0 0]) KR4.out rfl rfl (by simp [Value.oneCell'])
  have BW := Lib.hid (fb _ w (Nat.le_succ _) B4.out)
  have KW := Lib.hid kw
  clear kw fb
  go_wp2_with fail
  have kq : Blk W9 (w.heap.size + 1) 32 #[.int .i8 (bareEn x).kd, .int .i64 (bareEn x).b.pid, .int .i64 (bareEn x).b.ep, .int .i64 (bareEn x).b.seq, .bool (bareEn x).b.txn, .slice A1 (bareEn x).b.rs.length c1, .bool (bareEn x).yes, .int .i64 (bareEn x).nx, .int .i64 (bareEn x).off, .int .i64 (bareEn x).row.1, .int .i64 (bareEn x).row.2.1, .int .i64 (bareEn x).row.2.2.1, .string (bareEn x).row.2.2.2.1, .string (bareEn x).row.2.2.2.2, .int .i64 (bareEn x).prod.pid, .int .i64 (bareEn x).prod.ep, .int .i64 (bareEn x).prod.nx, .slice none (bareEn x).prod.seen.length 0] := by rw [HQ.out]; exact KW.out
  refine bodyPost_ret (bare_ret (bareEn x) A1 none c1 0 _ (w.heap.size + 1) _ rfl kq) rfl ?_
  refine ⟨A1, none, c1, 0, rfl, ?_, BW.out⟩
  rw [HQ.out]
  exact ⟨(HR.out.up BW.out).1, Reads.none_, HR.out.2.2.1, Nat.zero_le _⟩
set_option maxRecDepth 100000 in
set_option maxHeartbeats 4000000 in
theorem bare_4 (x : En) (hk : x.kd = 4) (A1 D1 : Option Addr) (c1 e1 : Nat) (w : World) (hr : EnR w x A1 D1) :
    Calls Tryz.prog 39 #[(.agg #[.int .i8 x.kd, .int .i64 x.b.pid, .int .i64 x.b.ep, .int .i64 x.b.seq, .bool x.b.txn, .slice A1 x.b.rs.length c1, .bool x.yes, .int .i64 x.nx, .int .i64 x.off, .int .i64 x.row.1, .int .i64 x.row.2.1, .int .i64 x.row.2.2.1, .string x.row.2.2.2.1, .string x.row.2.2.2.2, .int .i64 x.prod.pid, .int .i64 x.prod.ep, .int .i64 x.prod.nx, .slice D1 x.prod.seen.length e1])] w (BarePost x w) := by
  have HR := Lib.hid hr
  have HQ := Lib.hid (show bareEn x = { baseEn x.kd with b := wh x.b.pid x.b.ep, nx := x.nx } by unfold bareEn; rw [hk]; rfl)
  have cc0 : (x.kd == 0) = false := by rw [hk]; rfl
  have cc1 : (x.kd == 1) = false := by rw [hk]; rfl
  have cc2 : (x.kd == 2) = false := by rw [hk]; rfl
  have cc3 : (x.kd == 3) = false := by rw [hk]; rfl
  have cc4 : (x.kd == 4) = true := by rw [hk]; rfl
  have cc5 : (x.kd == 5) = false := by rw [hk]; rfl
  have cc6 : (x.kd == 6) = false := by rw [hk]; rfl
  obtain ⟨W0, hW0⟩ : ∃ W0, W0 = (w.alloc (.cells #[.int .i8 x.kd, .int .i64 x.b.pid, .int .i64 x.b.ep, .int .i64 x.b.seq, .bool x.b.txn, .slice A1 x.b.rs.length c1, .bool x.yes, .int .i64 x.nx, .int .i64 x.off, .int .i64 x.row.1, .int .i64 x.row.2.1, .int .i64 x.row.2.2.1, .string x.row.2.2.2.1, .string x.row.2.2.2.2, .int .i64 x.prod.pid, .int .i64 x.prod.ep, .int .i64 x.prod.nx, .slice D1 x.prod.seen.length e1] 32)).alloc (.cells #[.int .i8 0, .int .i64 0, .int .i64 0, .int .i64 0, .bool false, .slice none 0 0, .bool false, .int .i64 0, .int .i64 0, .int .i64 0, .int .i64 0, .int .i64 0, .string ⟨#[]⟩, .string ⟨#[]⟩, .int .i64 0, .int .i64 0, .int .i64 0, .slice none 0 0] 32) := ⟨_, rfl⟩
  have KX0 : Blk W0 w.heap.size 32 #[.int .i8 x.kd, .int .i64 x.b.pid, .int .i64 x.b.ep, .int .i64 x.b.seq, .bool x.b.txn, .slice A1 x.b.rs.length c1, .bool x.yes, .int .i64 x.nx, .int .i64 x.off, .int .i64 x.row.1, .int .i64 x.row.2.1, .int .i64 x.row.2.2.1, .string x.row.2.2.2.1, .string x.row.2.2.2.2, .int .i64 x.prod.pid, .int .i64 x.prod.ep, .int .i64 x.prod.nx, .slice D1 x.prod.seen.length e1] := by rw [hW0]; exact (Blk.new _ _ _).alloc _
  have KR0 : Blk W0 (w.heap.size + 1) 32 ezero := by rw [hW0]; exact blk_new _ _ _ (by simp)
  have b0 : Below w.heap.size w W0 := by rw [hW0]; exact bal (bal (Below.refl _ _) _) _
  have hs0 : W0.heap.size = w.heap.size + 2 := by rw [hW0]; simp
  obtain ⟨W1, st1, kO, bb⟩ := fresh_en W0 #[Value.int .i8 x.kd, Value.int .i64 0, Value.int .i64 0, Value.int .i64 0, Value.bool false, Value.slice none 0 0, Value.bool false, Value.int .i64 0, Value.int .i64 0, Value.int .i64 0, Value.int .i64 0, Value.int .i64 0, Value.string ⟨#[]⟩, Value.string ⟨#[]⟩, Value.int .i64 0, Value.int .i64 0, Value.int .i64 0, Value.slice none 0 0] rfl (by simp [Value.oneCell'])
  have KX := KX0.below bb KX0.lt
  have KR := KR0.below bb KR0.lt
  have b1 := btrans b0 (bb.mono (by omega))
  have HW0 := Lib.hid hW0
  have x0 := KX0.cell 0
  have ST1 := Lib.hid st1
  have KX1 := Lib.hid KX
  have KR1 := Lib.hid KR
  have KO1 := Lib.hid kO
  have B1 := Lib.hid b1
  have HS0 := Lib.hid hs0
  have g1 : w.heap.size ≠ W0.heap.size := by omega
  have g2 : w.heap.size + 1 ≠ W0.heap.size := by omega
  have g3 : w.heap.size ≤ W0.heap.size := by omega
  have HG := Lib.hid (And.intro g1 (And.intro g2 g3))
  clear hW0 KX0 KR0 b0 hs0 st1 kO bb KX KR b1 g1 g2 g3 hr hk
  go_enter Tryz.func39, Tryz.ntmps39
  go_upto_region 1 with (fail)
  rw [← HW0.out]
  have st1 := ST1.out
  go_upto_region 2 with (fail)
  clear st1 x0
  have x0 := KX1.out.cell 0
  have x1 := KX1.out.cell 1
  have x2 := KX1.out.cell 2
  obtain ⟨W2, st, kO, _, fb, fk⟩ := store_off ([Value.int .i8 x.kd] : List Value) ([Value.int .i64 0, Value.int .i64 0, Value.int .i64 0, Value.bool false, Value.slice none 0 0] : List Value) ([Value.bool false, Value.int .i64 0, Value.int .i64 0, Value.int .i64 0, Value.int .i64 0, Value.int .i64 0, Value.string ⟨#[]⟩, Value.string ⟨#[]⟩, Value.int .i64 0, Value.int .i64 0, Value.int .i64 0, Value.slice none 0 0] : List Value) 25 (#[Value.int .i64 x.b.pid, Value.int .i64 x.b.ep, Value.int .i64 0, Value.bool false, Value.slice none 0 0] : Array Value) (show Blk W1 W0.heap.size 32 (([Value.int .i8 x.kd] : List Value) ++ ([Value.int .i64 0, Value.int .i64 0, Value.int .i64 0, Value.bool false, Value.slice none 0 0] ++ [Value.bool false, Value.int .i64 0, Value.int .i64 0, Value.int .i64 0, Value.int .i64 0, Value.int .i64 0, Value.string ⟨#[]⟩, Value.string ⟨#[]⟩, Value.int .i64 0, Value.int .i64 0, Value.int .i64 0, Value.slice none 0 0])).toArray from KO1.out) rfl (by kernel_rfl) (by simp [Value.oneCell'])
  have st2 : _ := st
  have KX2 := Lib.hid (fk _ _ _ HG.out.1 KX1.out)
  have KR2 := Lib.hid (fk _ _ _ HG.out.2.1 KR1.out)
  have B2 := Lib.hid (fb _ w HG.out.2.2 B1.out)
  have KO2 := Lib.hid (show Blk W2 W0.heap.size 32 #[Value.int .i8 x.kd, Value.int .i64 x.b.pid, Value.int .i64 x.b.ep, Value.int .i64 0, Value.bool false, Value.slice none 0 0, Value.bool false, Value.int .i64 0, Value.int .i64 0, Value.int .i64 0, Value.int .i64 0, Value.int .i64 0, Value.string ⟨#[]⟩, Value.string ⟨#[]⟩, Value.int .i64 0, Value.int .i64 0, Value.int .i64 0, Value.slice none 0 0] from kO)
  clear st kO fb fk
  simp only [List.length_cons, List.length_nil, Nat.reduceAdd, Nat.zero_add] at st2
  go_upto_region 17 with (fail)
  clear st2 x1 x2
  have x7 := KX2.out.cell 7
  obtain ⟨W3, st, kO, _, fb, fk⟩ := store_cell ([Value.int .i8 x.kd, Value.int .i64 x.b.pid, Value.int .i64 x.b.ep, Value.int .i64 0, Value.bool false, Value.slice none 0 0, Value.bool false] : List Value) (Value.int .i64 0) ([Value.int .i64 0, Value.int .i64 0, Value.int .i64 0, Value.int .i64 0, Value.string ⟨#[]⟩, Value.string ⟨#[]⟩, Value.int .i64 0, Value.int .i64 0, Value.int .i64 0, Value.slice none 0 0] : List Value) 3 (Value.int .i64 x.nx) (fun W u h1 h2 => store_int7 (x.nx) h1 h2) (show Blk W2 W0.heap.size 32 (([Value.int .i8 x.kd, Value.int .i64 x.b.pid, Value.int .i64 x.b.ep, Value.int .i64 0, Value.bool false, Value.slice none 0 0, Value.bool false] : List Value) ++ ((Value.int .i64 0) :: [Value.int .i64 0, Value.int .i64 0, Value.int .i64 0, Value.int .i64 0, Value.string ⟨#[]⟩, Value.string ⟨#[]⟩, Value.int .i64 0, Value.int .i64 0, Value.int .i64 0, Value.slice none 0 0])).toArray from KO2.out)
  have st3 : _ := st
  have KX3 := Lib.hid (fk _ _ _ HG.out.1 KX2.out)
  have KR3 := Lib.hid (fk _ _ _ HG.out.2.1 KR2.out)
  have B3 := Lib.hid (fb _ w HG.out.2.2 B2.out)
  have KO3 := Lib.hid (show Blk W3 W0.heap.size 32 #[Value.int .i8 x.kd, Value.int .i64 x.b.pid, Value.int .i64 x.b.ep, Value.int .i64 0, Value.bool false, Value.slice none 0 0, Value.bool false, Value.int .i64 x.nx, Value.int .i64 0, Value.int .i64 0, Value.int .i64 0, Value.int .i64 0, Value.string ⟨#[]⟩, Value.string ⟨#[]⟩, Value.int .i64 0, Value.int .i64 0, Value.int .i64 0, Value.slice none 0 0] from kO)
  clear st kO fb fk
  simp only [List.length_cons, List.length_nil, Nat.reduceAdd, Nat.zero_add] at st3
  go_upto_region 23 with (fail)
  clear st3 x7
  have LO := cells_blk KO3.out rfl
  obtain ⟨W9, st9, kw, fb, _⟩ := store_blk2 (cs := #[Value.int .i8 x.kd, Value.int .i64 x.b.pid, Value.int .i64 x.b.ep, Value.int .i64 0, Value.bool false, Value.slice none 0 0, Value.bool false, Value.int .i64 x.nx, Value.int .i64 0, Value.int .i64 0, Value.int .i64 0, Value.int .i64 0, Value.string ⟨#[]⟩, Value.string ⟨#[]⟩, Value.int .i64 0, Value.int .i64 0, Value.int .i64 0, Value.slice none 0 0]) KR3.out rfl rfl (by simp [Value.oneCell'])
  have BW := Lib.hid (fb _ w (Nat.le_succ _) B3.out)
  have KW := Lib.hid kw
  clear kw fb
  go_wp2_with fail
  have kq : Blk W9 (w.heap.size + 1) 32 #[.int .i8 (bareEn x).kd, .int .i64 (bareEn x).b.pid, .int .i64 (bareEn x).b.ep, .int .i64 (bareEn x).b.seq, .bool (bareEn x).b.txn, .slice none (bareEn x).b.rs.length 0, .bool (bareEn x).yes, .int .i64 (bareEn x).nx, .int .i64 (bareEn x).off, .int .i64 (bareEn x).row.1, .int .i64 (bareEn x).row.2.1, .int .i64 (bareEn x).row.2.2.1, .string (bareEn x).row.2.2.2.1, .string (bareEn x).row.2.2.2.2, .int .i64 (bareEn x).prod.pid, .int .i64 (bareEn x).prod.ep, .int .i64 (bareEn x).prod.nx, .slice none (bareEn x).prod.seen.length 0] := by rw [HQ.out]; exact KW.out
  refine bodyPost_ret (bare_ret (bareEn x) none none 0 0 _ (w.heap.size + 1) _ rfl kq) rfl ?_
  refine ⟨none, none, 0, 0, rfl, ?_, BW.out⟩
  rw [HQ.out]
  exact ⟨Reads.none_, Reads.none_, Nat.zero_le _, Nat.zero_le _⟩
set_option maxRecDepth 100000 in
set_option maxHeartbeats 4000000 in
theorem bare_5 (x : En) (hk : x.kd = 5) (A1 D1 : Option Addr) (c1 e1 : Nat) (w : World) (hr : EnR w x A1 D1) :
    Calls Tryz.prog 39 #[(.agg #[.int .i8 x.kd, .int .i64 x.b.pid, .int .i64 x.b.ep, .int .i64 x.b.seq, .bool x.b.txn, .slice A1 x.b.rs.length c1, .bool x.yes, .int .i64 x.nx, .int .i64 x.off, .int .i64 x.row.1, .int .i64 x.row.2.1, .int .i64 x.row.2.2.1, .string x.row.2.2.2.1, .string x.row.2.2.2.2, .int .i64 x.prod.pid, .int .i64 x.prod.ep, .int .i64 x.prod.nx, .slice D1 x.prod.seen.length e1])] w (BarePost x w) := by
  have HR := Lib.hid hr
  have HQ := Lib.hid (show bareEn x = { baseEn x.kd with row := (0, x.row.2.1, x.row.2.2.1, x.row.2.2.2.1, x.row.2.2.2.2) } by unfold bareEn; rw [hk]; rfl)
  have cc0 : (x.kd == 0) = false := by rw [hk]; rfl
  have cc1 : (x.kd == 1) = false := by rw [hk]; rfl
  have cc2 : (x.kd == 2) = false := by rw [hk]; rfl
  have cc3 : (x.kd == 3) = false := by rw [hk]; rfl
  have cc4 : (x.kd == 4) = false := by rw [hk]; rfl
  have cc5 : (x.kd == 5) = true := by rw [hk]; rfl
  have cc6 : (x.kd == 6) = false := by rw [hk]; rfl
  obtain ⟨W0, hW0⟩ : ∃ W0, W0 = (w.alloc (.cells #[.int .i8 x.kd, .int .i64 x.b.pid, .int .i64 x.b.ep, .int .i64 x.b.seq, .bool x.b.txn, .slice A1 x.b.rs.length c1, .bool x.yes, .int .i64 x.nx, .int .i64 x.off, .int .i64 x.row.1, .int .i64 x.row.2.1, .int .i64 x.row.2.2.1, .string x.row.2.2.2.1, .string x.row.2.2.2.2, .int .i64 x.prod.pid, .int .i64 x.prod.ep, .int .i64 x.prod.nx, .slice D1 x.prod.seen.length e1] 32)).alloc (.cells #[.int .i8 0, .int .i64 0, .int .i64 0, .int .i64 0, .bool false, .slice none 0 0, .bool false, .int .i64 0, .int .i64 0, .int .i64 0, .int .i64 0, .int .i64 0, .string ⟨#[]⟩, .string ⟨#[]⟩, .int .i64 0, .int .i64 0, .int .i64 0, .slice none 0 0] 32) := ⟨_, rfl⟩
  have KX0 : Blk W0 w.heap.size 32 #[.int .i8 x.kd, .int .i64 x.b.pid, .int .i64 x.b.ep, .int .i64 x.b.seq, .bool x.b.txn, .slice A1 x.b.rs.length c1, .bool x.yes, .int .i64 x.nx, .int .i64 x.off, .int .i64 x.row.1, .int .i64 x.row.2.1, .int .i64 x.row.2.2.1, .string x.row.2.2.2.1, .string x.row.2.2.2.2, .int .i64 x.prod.pid, .int .i64 x.prod.ep, .int .i64 x.prod.nx, .slice D1 x.prod.seen.length e1] := by rw [hW0]; exact (Blk.new _ _ _).alloc _
  have KR0 : Blk W0 (w.heap.size + 1) 32 ezero := by rw [hW0]; exact blk_new _ _ _ (by simp)
  have b0 : Below w.heap.size w W0 := by rw [hW0]; exact bal (bal (Below.refl _ _) _) _
  have hs0 : W0.heap.size = w.heap.size + 2 := by rw [hW0]; simp
  obtain ⟨W1, st1, kO, bb⟩ := fresh_en W0 #[Value.int .i8 x.kd, Value.int .i64 0, Value.int .i64 0, Value.int .i64 0, Value.bool false, Value.slice none 0 0, Value.bool false, Value.int .i64 0, Value.int .i64 0, Value.int .i64 0, Value.int .i64 0, Value.int .i64 0, Value.string ⟨#[]⟩, Value.string ⟨#[]⟩, Value.int .i64 0, Value.int .i64 0, Value.int .i64 0, Value.slice none 0 0] rfl (by simp [Value.oneCell'])
  have KX := KX0.below bb KX0.lt
  have KR := KR0.below bb KR0.lt
  have b1 := btrans b0 (bb.mono (by omega))
  have HW0 := Lib.hid hW0
  have x0 := KX0.cell 0
  have ST1 := Lib.hid st1
  have KX1 := Lib.hid KX
  have KR1 := Lib.hid KR
  have KO1 := Lib.hid kO
  have B1 := Lib.hid b1
  have HS0 := Lib.hid hs0
  have g1 : w.heap.size ≠ W0.heap.size := by omega
  have g2 : w.heap.size + 1 ≠ W0.heap.size := by omega
  have g3 : w.heap.size ≤ W0.heap.size := by omega
  have HG := Lib.hid (And.intro g1 (And.intro g2 g3))
  clear hW0 KX0 KR0 b0 hs0 st1 kO bb KX KR b1 g1 g2 g3 hr hk
  go_enter Tryz.func39, Tryz.ntmps39
  go_upto_region 1 with (fail)
  rw [← HW0.out]
  have st1 := ST1.out
  go_upto_region 2 with (fail)
  clear st1 x0
  have x0 := KX1.out.cell 0
  have LB := cells_off KX1.out 9 5 rfl rfl
  obtain ⟨W2, st, kO, _, fb, fk⟩ := store_off ([Value.int .i8 x.kd, Value.int .i64 0, Value.int .i64 0, Value.int .i64 0, Value.bool false, Value.slice none 0 0, Value.bool false, Value.int .i64 0, Value.int .i64 0] : List Value) ([Value.int .i64 0, Value.int .i64 0, Value.int .i64 0, Value.string ⟨#[]⟩, Value.string ⟨#[]⟩] : List Value) ([Value.int .i64 0, Value.int .i64 0, Value.int .i64 0, Value.slice none 0 0] : List Value) 27 (#[Value.int .i64 x.row.1, Value.int .i64 x.row.2.1, Value.int .i64 x.row.2.2.1, Value.string x.row.2.2.2.1, Value.string x.row.2.2.2.2] : Array Value) (show Blk W1 W0.heap.size 32 (([Value.int .i8 x.kd, Value.int .i64 0, Value.int .i64 0, Value.int .i64 0, Value.bool false, Value.slice none 0 0, Value.bool false, Value.int .i64 0, Value.int .i64 0] : List Value) ++ ([Value.int .i64 0, Value.int .i64 0, Value.int .i64 0, Value.string ⟨#[]⟩, Value.string ⟨#[]⟩] ++ [Value.int .i64 0, Value.int .i64 0, Value.int .i64 0, Value.slice none 0 0])).toArray from KO1.out) rfl (by kernel_rfl) (by simp [Value.oneCell'])
  have st2 : _ := st
  have KX2 := Lib.hid (fk _ _ _ HG.out.1 KX1.out)
  have KR2 := Lib.hid (fk _ _ _ HG.out.2.1 KR1.out)
  have B2 := Lib.hid (fb _ w HG.out.2.2 B1.out)
  have KO2 := Lib.hid (show Blk W2 W0.heap.size 32 #[Value.int .i8 x.kd, Value.int .i64 0, Value.int .i64 0, Value.int .i64 0, Value.bool false, Value.slice none 0 0, Value.bool false, Value.int .i64 0, Value.int .i64 0, Value.int .i64 x.row.1, Value.int .i64 x.row.2.1, Value.int .i64 x.row.2.2.1, Value.string x.row.2.2.2.1, Value.string x.row.2.2.2.2, Value.int .i64 0, Value.int .i64 0, Value.int .i64 0, Value.slice none 0 0] from kO)
  clear st kO fb fk
  simp only [List.length_cons, List.length_nil, Nat.reduceAdd, Nat.zero_add] at st2
  go_upto_region 20 with (fail)
  clear st2 LB 
  obtain ⟨W3, st, kO, _, fb, fk⟩ := store_cell ([Value.int .i8 x.kd, Value.int .i64 0, Value.int .i64 0, Value.int .i64 0, Value.bool false, Value.slice none 0 0, Value.bool false, Value.int .i64 0, Value.int .i64 0] : List Value) (Value.int .i64 x.row.1) ([Value.int .i64 x.row.2.1, Value.int .i64 x.row.2.2.1, Value.string x.row.2.2.2.1, Value.string x.row.2.2.2.2, Value.int .i64 0, Value.int .i64 0, Value.int .i64 0, Value.slice none 0 0] : List Value) 3 (Value.int .i64 0) (fun W u h1 h2 => store_int7 (0) h1 h2) (show Blk W2 W0.heap.size 32 (([Value.int .i8 x.kd, Value.int .i64 0, Value.int .i64 0, Value.int .i64 0, Value.bool false, Value.slice none 0 0, Value.bool false, Value.int .i64 0, Value.int .i64 0] : List Value) ++ ((Value.int .i64 x.row.1) :: [Value.int .i64 x.row.2.1, Value.int .i64 x.row.2.2.1, Value.string x.row.2.2.2.1, Value.string x.row.2.2.2.2, Value.int .i64 0, Value.int .i64 0, Value.int .i64 0, Value.slice none 0 0])).toArray from KO2.out)
  have st3 : _ := st
  have KX3 := Lib.hid (fk _ _ _ HG.out.1 KX2.out)
  have KR3 := Lib.hid (fk _ _ _ HG.out.2.1 KR2.out)
  have B3 := Lib.hid (fb _ w HG.out.2.2 B2.out)
  have KO3 := Lib.hid (show Blk W3 W0.heap.size 32 #[Value.int .i8 x.kd, Value.int .i64 0, Value.int .i64 0, Value.int .i64 0, Value.bool false, Value.slice none 0 0, Value.bool false, Value.int .i64 0, Value.int .i64 0, Value.int .i64 0, Value.int .i64 x.row.2.1, Value.int .i64 x.row.2.2.1, Value.string x.row.2.2.2.1, Value.string x.row.2.2.2.2, Value.int .i64 0, Value.int .i64 0, Value.int .i64 0, Value.slice none 0 0] from kO)
  clear st kO fb fk
  simp only [List.length_cons, List.length_nil, Nat.reduceAdd, Nat.zero_add] at st3
  go_upto_region 23 with (fail)
  clear st3 
  have LO := cells_blk KO3.out rfl
  obtain ⟨W9, st9, kw, fb, _⟩ := store_blk2 (cs := #[Value.int .i8 x.kd, Value.int .i64 0, Value.int .i64 0, Value.int .i64 0, Value.bool false, Value.slice none 0 0, Value.bool false, Value.int .i64 0, Value.int .i64 0, Value.int .i64 0, Value.int .i64 x.row.2.1, Value.int .i64 x.row.2.2.1, Value.string x.row.2.2.2.1, Value.string x.row.2.2.2.2, Value.int .i64 0, Value.int .i64 0, Value.int .i64 0, Value.slice none 0 0]) KR3.out rfl rfl (by simp [Value.oneCell'])
  have BW := Lib.hid (fb _ w (Nat.le_succ _) B3.out)
  have KW := Lib.hid kw
  clear kw fb
  go_wp2_with fail
  have kq : Blk W9 (w.heap.size + 1) 32 #[.int .i8 (bareEn x).kd, .int .i64 (bareEn x).b.pid, .int .i64 (bareEn x).b.ep, .int .i64 (bareEn x).b.seq, .bool (bareEn x).b.txn, .slice none (bareEn x).b.rs.length 0, .bool (bareEn x).yes, .int .i64 (bareEn x).nx, .int .i64 (bareEn x).off, .int .i64 (bareEn x).row.1, .int .i64 (bareEn x).row.2.1, .int .i64 (bareEn x).row.2.2.1, .string (bareEn x).row.2.2.2.1, .string (bareEn x).row.2.2.2.2, .int .i64 (bareEn x).prod.pid, .int .i64 (bareEn x).prod.ep, .int .i64 (bareEn x).prod.nx, .slice none (bareEn x).prod.seen.length 0] := by rw [HQ.out]; exact KW.out
  refine bodyPost_ret (bare_ret (bareEn x) none none 0 0 _ (w.heap.size + 1) _ rfl kq) rfl ?_
  refine ⟨none, none, 0, 0, rfl, ?_, BW.out⟩
  rw [HQ.out]
  exact ⟨Reads.none_, Reads.none_, Nat.zero_le _, Nat.zero_le _⟩
set_option maxRecDepth 100000 in
set_option maxHeartbeats 4000000 in
theorem bare_6 (x : En) (hk : x.kd = 6) (A1 D1 : Option Addr) (c1 e1 : Nat) (w : World) (hr : EnR w x A1 D1) :
    Calls Tryz.prog 39 #[(.agg #[.int .i8 x.kd, .int .i64 x.b.pid, .int .i64 x.b.ep, .int .i64 x.b.seq, .bool x.b.txn, .slice A1 x.b.rs.length c1, .bool x.yes, .int .i64 x.nx, .int .i64 x.off, .int .i64 x.row.1, .int .i64 x.row.2.1, .int .i64 x.row.2.2.1, .string x.row.2.2.2.1, .string x.row.2.2.2.2, .int .i64 x.prod.pid, .int .i64 x.prod.ep, .int .i64 x.prod.nx, .slice D1 x.prod.seen.length e1])] w (BarePost x w) := by
  have HR := Lib.hid hr
  have HQ := Lib.hid (show bareEn x = { baseEn x.kd with prod := x.prod } by unfold bareEn; rw [hk]; rfl)
  have cc0 : (x.kd == 0) = false := by rw [hk]; rfl
  have cc1 : (x.kd == 1) = false := by rw [hk]; rfl
  have cc2 : (x.kd == 2) = false := by rw [hk]; rfl
  have cc3 : (x.kd == 3) = false := by rw [hk]; rfl
  have cc4 : (x.kd == 4) = false := by rw [hk]; rfl
  have cc5 : (x.kd == 5) = false := by rw [hk]; rfl
  have cc6 : (x.kd == 6) = true := by rw [hk]; rfl
  obtain ⟨W0, hW0⟩ : ∃ W0, W0 = (w.alloc (.cells #[.int .i8 x.kd, .int .i64 x.b.pid, .int .i64 x.b.ep, .int .i64 x.b.seq, .bool x.b.txn, .slice A1 x.b.rs.length c1, .bool x.yes, .int .i64 x.nx, .int .i64 x.off, .int .i64 x.row.1, .int .i64 x.row.2.1, .int .i64 x.row.2.2.1, .string x.row.2.2.2.1, .string x.row.2.2.2.2, .int .i64 x.prod.pid, .int .i64 x.prod.ep, .int .i64 x.prod.nx, .slice D1 x.prod.seen.length e1] 32)).alloc (.cells #[.int .i8 0, .int .i64 0, .int .i64 0, .int .i64 0, .bool false, .slice none 0 0, .bool false, .int .i64 0, .int .i64 0, .int .i64 0, .int .i64 0, .int .i64 0, .string ⟨#[]⟩, .string ⟨#[]⟩, .int .i64 0, .int .i64 0, .int .i64 0, .slice none 0 0] 32) := ⟨_, rfl⟩
  have KX0 : Blk W0 w.heap.size 32 #[.int .i8 x.kd, .int .i64 x.b.pid, .int .i64 x.b.ep, .int .i64 x.b.seq, .bool x.b.txn, .slice A1 x.b.rs.length c1, .bool x.yes, .int .i64 x.nx, .int .i64 x.off, .int .i64 x.row.1, .int .i64 x.row.2.1, .int .i64 x.row.2.2.1, .string x.row.2.2.2.1, .string x.row.2.2.2.2, .int .i64 x.prod.pid, .int .i64 x.prod.ep, .int .i64 x.prod.nx, .slice D1 x.prod.seen.length e1] := by rw [hW0]; exact (Blk.new _ _ _).alloc _
  have KR0 : Blk W0 (w.heap.size + 1) 32 ezero := by rw [hW0]; exact blk_new _ _ _ (by simp)
  have b0 : Below w.heap.size w W0 := by rw [hW0]; exact bal (bal (Below.refl _ _) _) _
  have hs0 : W0.heap.size = w.heap.size + 2 := by rw [hW0]; simp
  obtain ⟨W1, st1, kO, bb⟩ := fresh_en W0 #[Value.int .i8 x.kd, Value.int .i64 0, Value.int .i64 0, Value.int .i64 0, Value.bool false, Value.slice none 0 0, Value.bool false, Value.int .i64 0, Value.int .i64 0, Value.int .i64 0, Value.int .i64 0, Value.int .i64 0, Value.string ⟨#[]⟩, Value.string ⟨#[]⟩, Value.int .i64 0, Value.int .i64 0, Value.int .i64 0, Value.slice none 0 0] rfl (by simp [Value.oneCell'])
  have KX := KX0.below bb KX0.lt
  have KR := KR0.below bb KR0.lt
  have b1 := btrans b0 (bb.mono (by omega))
  have HW0 := Lib.hid hW0
  have x0 := KX0.cell 0
  have ST1 := Lib.hid st1
  have KX1 := Lib.hid KX
  have KR1 := Lib.hid KR
  have KO1 := Lib.hid kO
  have B1 := Lib.hid b1
  have HS0 := Lib.hid hs0
  have g1 : w.heap.size ≠ W0.heap.size := by omega
  have g2 : w.heap.size + 1 ≠ W0.heap.size := by omega
  have g3 : w.heap.size ≤ W0.heap.size := by omega
  have HG := Lib.hid (And.intro g1 (And.intro g2 g3))
  clear hW0 KX0 KR0 b0 hs0 st1 kO bb KX KR b1 g1 g2 g3 hr hk
  go_enter Tryz.func39, Tryz.ntmps39
  go_upto_region 1 with (fail)
  rw [← HW0.out]
  have st1 := ST1.out
  go_upto_region 2 with (fail)
  clear st1 x0
  have x0 := KX1.out.cell 0
  have LB := cells_off KX1.out 14 4 rfl rfl
  obtain ⟨W2, st, kO, _, fb, fk⟩ := store_off ([Value.int .i8 x.kd, Value.int .i64 0, Value.int .i64 0, Value.int .i64 0, Value.bool false, Value.slice none 0 0, Value.bool false, Value.int .i64 0, Value.int .i64 0, Value.int .i64 0, Value.int .i64 0, Value.int .i64 0, Value.string ⟨#[]⟩, Value.string ⟨#[]⟩] : List Value) ([Value.int .i64 0, Value.int .i64 0, Value.int .i64 0, Value.slice none 0 0] : List Value) ([] : List Value) 30 (#[Value.int .i64 x.prod.pid, Value.int .i64 x.prod.ep, Value.int .i64 x.prod.nx, Value.slice D1 x.prod.seen.length e1] : Array Value) (show Blk W1 W0.heap.size 32 (([Value.int .i8 x.kd, Value.int .i64 0, Value.int .i64 0, Value.int .i64 0, Value.bool false, Value.slice none 0 0, Value.bool false, Value.int .i64 0, Value.int .i64 0, Value.int .i64 0, Value.int .i64 0, Value.int .i64 0, Value.string ⟨#[]⟩, Value.string ⟨#[]⟩] : List Value) ++ ([Value.int .i64 0, Value.int .i64 0, Value.int .i64 0, Value.slice none 0 0] ++ [])).toArray from KO1.out) rfl (by kernel_rfl) (by simp [Value.oneCell'])
  have st2 : _ := st
  have KX2 := Lib.hid (fk _ _ _ HG.out.1 KX1.out)
  have KR2 := Lib.hid (fk _ _ _ HG.out.2.1 KR1.out)
  have B2 := Lib.hid (fb _ w HG.out.2.2 B1.out)
  have KO2 := Lib.hid (show Blk W2 W0.heap.size 32 #[Value.int .i8 x.kd, Value.int .i64 0, Value.int .i64 0, Value.int .i64 0, Value.bool false, Value.slice none 0 0, Value.bool false, Value.int .i64 0, Value.int .i64 0, Value.int .i64 0, Value.int .i64 0, Value.int .i64 0, Value.string ⟨#[]⟩, Value.string ⟨#[]⟩, Value.int .i64 x.prod.pid, Value.int .i64 x.prod.ep, Value.int .i64 x.prod.nx, Value.slice D1 x.prod.seen.length e1] from kO)
  clear st kO fb fk
  simp only [List.length_cons, List.length_nil, Nat.reduceAdd, Nat.zero_add] at st2
  go_upto_region 23 with (fail)
  clear st2 LB 
  have LO := cells_blk KO2.out rfl
  obtain ⟨W9, st9, kw, fb, _⟩ := store_blk2 (cs := #[Value.int .i8 x.kd, Value.int .i64 0, Value.int .i64 0, Value.int .i64 0, Value.bool false, Value.slice none 0 0, Value.bool false, Value.int .i64 0, Value.int .i64 0, Value.int .i64 0, Value.int .i64 0, Value.int .i64 0, Value.string ⟨#[]⟩, Value.string ⟨#[]⟩, Value.int .i64 x.prod.pid, Value.int .i64 x.prod.ep, Value.int .i64 x.prod.nx, Value.slice D1 x.prod.seen.length e1]) KR2.out rfl rfl (by simp [Value.oneCell'])
  have BW := Lib.hid (fb _ w (Nat.le_succ _) B2.out)
  have KW := Lib.hid kw
  clear kw fb
  go_wp2_with fail
  have kq : Blk W9 (w.heap.size + 1) 32 #[.int .i8 (bareEn x).kd, .int .i64 (bareEn x).b.pid, .int .i64 (bareEn x).b.ep, .int .i64 (bareEn x).b.seq, .bool (bareEn x).b.txn, .slice none (bareEn x).b.rs.length 0, .bool (bareEn x).yes, .int .i64 (bareEn x).nx, .int .i64 (bareEn x).off, .int .i64 (bareEn x).row.1, .int .i64 (bareEn x).row.2.1, .int .i64 (bareEn x).row.2.2.1, .string (bareEn x).row.2.2.2.1, .string (bareEn x).row.2.2.2.2, .int .i64 (bareEn x).prod.pid, .int .i64 (bareEn x).prod.ep, .int .i64 (bareEn x).prod.nx, .slice D1 (bareEn x).prod.seen.length e1] := by rw [HQ.out]; exact KW.out
  refine bodyPost_ret (bare_ret (bareEn x) none D1 0 e1 _ (w.heap.size + 1) _ rfl kq) rfl ?_
  refine ⟨none, D1, 0, e1, rfl, ?_, BW.out⟩
  rw [HQ.out]
  exact ⟨Reads.none_, (HR.out.up BW.out).2.1, Nat.zero_le _, HR.out.2.2.2⟩
set_option maxRecDepth 100000 in
set_option maxHeartbeats 4000000 in
theorem bare_9 (x : En) (h0 : ¬ x.kd = 0) (h1 : ¬ x.kd = 1) (h2 : ¬ x.kd = 2) (h3 : ¬ x.kd = 3) (h4 : ¬ x.kd = 4) (h5 : ¬ x.kd = 5) (h6 : ¬ x.kd = 6) (A1 D1 : Option Addr) (c1 e1 : Nat) (w : World) (hr : EnR w x A1 D1) :
    Calls Tryz.prog 39 #[(.agg #[.int .i8 x.kd, .int .i64 x.b.pid, .int .i64 x.b.ep, .int .i64 x.b.seq, .bool x.b.txn, .slice A1 x.b.rs.length c1, .bool x.yes, .int .i64 x.nx, .int .i64 x.off, .int .i64 x.row.1, .int .i64 x.row.2.1, .int .i64 x.row.2.2.1, .string x.row.2.2.2.1, .string x.row.2.2.2.2, .int .i64 x.prod.pid, .int .i64 x.prod.ep, .int .i64 x.prod.nx, .slice D1 x.prod.seen.length e1])] w (BarePost x w) := by
  have HR := Lib.hid hr
  have HQ := Lib.hid (show bareEn x = baseEn x.kd by unfold bareEn; rw [if_neg h0, if_neg h1, if_neg h2, if_neg h3, if_neg h4, if_neg h5, if_neg h6])
  have cc0 : (x.kd == 0) = false := by simpa using h0
  have cc1 : (x.kd == 1) = false := by simpa using h1
  have cc2 : (x.kd == 2) = false := by simpa using h2
  have cc3 : (x.kd == 3) = false := by simpa using h3
  have cc4 : (x.kd == 4) = false := by simpa using h4
  have cc5 : (x.kd == 5) = false := by simpa using h5
  have cc6 : (x.kd == 6) = false := by simpa using h6
  obtain ⟨W0, hW0⟩ : ∃ W0, W0 = (w.alloc (.cells #[.int .i8 x.kd, .int .i64 x.b.pid, .int .i64 x.b.ep, .int .i64 x.b.seq, .bool x.b.txn, .slice A1 x.b.rs.length c1, .bool x.yes, .int .i64 x.nx, .int .i64 x.off, .int .i64 x.row.1, .int .i64 x.row.2.1, .int .i64 x.row.2.2.1, .string x.row.2.2.2.1, .string x.row.2.2.2.2, .int .i64 x.prod.pid, .int .i64 x.prod.ep, .int .i64 x.prod.nx, .slice D1 x.prod.seen.length e1] 32)).alloc (.cells #[.int .i8 0, .int .i64 0, .int .i64 0, .int .i64 0, .bool false, .slice none 0 0, .bool false, .int .i64 0, .int .i64 0, .int .i64 0, .int .i64 0, .int .i64 0, .string ⟨#[]⟩, .string ⟨#[]⟩, .int .i64 0, .int .i64 0, .int .i64 0, .slice none 0 0] 32) := ⟨_, rfl⟩
  have KX0 : Blk W0 w.heap.size 32 #[.int .i8 x.kd, .int .i64 x.b.pid, .int .i64 x.b.ep, .int .i64 x.b.seq, .bool x.b.txn, .slice A1 x.b.rs.length c1, .bool x.yes, .int .i64 x.nx, .int .i64 x.off, .int .i64 x.row.1, .int .i64 x.row.2.1, .int .i64 x.row.2.2.1, .string x.row.2.2.2.1, .string x.row.2.2.2.2, .int .i64 x.prod.pid, .int .i64 x.prod.ep, .int .i64 x.prod.nx, .slice D1 x.prod.seen.length e1] := by rw [hW0]; exact (Blk.new _ _ _).alloc _
  have KR0 : Blk W0 (w.heap.size + 1) 32 ezero := by rw [hW0]; exact blk_new _ _ _ (by simp)
  have b0 : Below w.heap.size w W0 := by rw [hW0]; exact bal (bal (Below.refl _ _) _) _
  have hs0 : W0.heap.size = w.heap.size + 2 := by rw [hW0]; simp
  obtain ⟨W1, st1, kO, bb⟩ := fresh_en W0 #[Value.int .i8 x.kd, Value.int .i64 0, Value.int .i64 0, Value.int .i64 0, Value.bool false, Value.slice none 0 0, Value.bool false, Value.int .i64 0, Value.int .i64 0, Value.int .i64 0, Value.int .i64 0, Value.int .i64 0, Value.string ⟨#[]⟩, Value.string ⟨#[]⟩, Value.int .i64 0, Value.int .i64 0, Value.int .i64 0, Value.slice none 0 0] rfl (by simp [Value.oneCell'])
  have KX := KX0.below bb KX0.lt
  have KR := KR0.below bb KR0.lt
  have b1 := btrans b0 (bb.mono (by omega))
  have HW0 := Lib.hid hW0
  have x0 := KX0.cell 0
  have ST1 := Lib.hid st1
  have KX1 := Lib.hid KX
  have KR1 := Lib.hid KR
  have KO1 := Lib.hid kO
  have B1 := Lib.hid b1
  have HS0 := Lib.hid hs0
  have g1 : w.heap.size ≠ W0.heap.size := by omega
  have g2 : w.heap.size + 1 ≠ W0.heap.size := by omega
  have g3 : w.heap.size ≤ W0.heap.size := by omega
  have HG := Lib.hid (And.intro g1 (And.intro g2 g3))
  clear hW0 KX0 KR0 b0 hs0 st1 kO bb KX KR b1 g1 g2 g3 hr h0 h1 h2 h3 h4 h5 h6
  go_enter Tryz.func39, Tryz.ntmps39
  go_upto_region 1 with (fail)
  rw [← HW0.out]
  have st1 := ST1.out
  go_upto_region 2 with (fail)
  clear st1 x0
  have x0 := KX1.out.cell 0
  go_upto_region 23 with (fail)
  have LO := cells_blk KO1.out rfl
  obtain ⟨W9, st9, kw, fb, _⟩ := store_blk2 (cs := #[Value.int .i8 x.kd, Value.int .i64 0, Value.int .i64 0, Value.int .i64 0, Value.bool false, Value.slice none 0 0, Value.bool false, Value.int .i64 0, Value.int .i64 0, Value.int .i64 0, Value.int .i64 0, Value.int .i64 0, Value.string ⟨#[]⟩, Value.string ⟨#[]⟩, Value.int .i64 0, Value.int .i64 0, Value.int .i64 0, Value.slice none 0 0]) KR1.out rfl rfl (by simp [Value.oneCell'])
  have BW := Lib.hid (fb _ w (Nat.le_succ _) B1.out)
  have KW := Lib.hid kw
  clear kw fb
  go_wp2_with fail
  have kq : Blk W9 (w.heap.size + 1) 32 #[.int .i8 (bareEn x).kd, .int .i64 (bareEn x).b.pid, .int .i64 (bareEn x).b.ep, .int .i64 (bareEn x).b.seq, .bool (bareEn x).b.txn, .slice none (bareEn x).b.rs.length 0, .bool (bareEn x).yes, .int .i64 (bareEn x).nx, .int .i64 (bareEn x).off, .int .i64 (bareEn x).row.1, .int .i64 (bareEn x).row.2.1, .int .i64 (bareEn x).row.2.2.1, .string (bareEn x).row.2.2.2.1, .string (bareEn x).row.2.2.2.2, .int .i64 (bareEn x).prod.pid, .int .i64 (bareEn x).prod.ep, .int .i64 (bareEn x).prod.nx, .slice none (bareEn x).prod.seen.length 0] := by rw [HQ.out]; exact KW.out
  refine bodyPost_ret (bare_ret (bareEn x) none none 0 0 _ (w.heap.size + 1) _ rfl kq) rfl ?_
  refine ⟨none, none, 0, 0, rfl, ?_, BW.out⟩
  rw [HQ.out]
  exact ⟨Reads.none_, Reads.none_, Nat.zero_le _, Nat.zero_le _⟩
end
theorem bare_any (x : En) (A1 D1 : Option Addr) (c1 e1 : Nat) (w : World) (hr : EnR w x A1 D1) :
    Calls Tryz.prog 39 #[(.agg #[.int .i8 x.kd, .int .i64 x.b.pid, .int .i64 x.b.ep, .int .i64 x.b.seq, .bool x.b.txn, .slice A1 x.b.rs.length c1, .bool x.yes, .int .i64 x.nx, .int .i64 x.off, .int .i64 x.row.1, .int .i64 x.row.2.1, .int .i64 x.row.2.2.1, .string x.row.2.2.2.1, .string x.row.2.2.2.2, .int .i64 x.prod.pid, .int .i64 x.prod.ep, .int .i64 x.prod.nx, .slice D1 x.prod.seen.length e1])] w (BarePost x w) := by
  by_cases h0 : x.kd = 0
  · exact bare_0 x h0 A1 D1 c1 e1 w hr
  by_cases h1 : x.kd = 1
  · exact bare_1 x h1 A1 D1 c1 e1 w hr
  by_cases h2 : x.kd = 2
  · exact bare_2 x h2 A1 D1 c1 e1 w hr
  by_cases h3 : x.kd = 3
  · have hyy : x.yes = false ∨ x.yes = true := by cases x.yes <;> simp
    rcases hyy with hy | hy
    · exact bare_3f x h3 hy A1 D1 c1 e1 w hr
    · exact bare_3t x h3 hy A1 D1 c1 e1 w hr
  by_cases h4 : x.kd = 4
  · exact bare_4 x h4 A1 D1 c1 e1 w hr
  by_cases h5 : x.kd = 5
  · exact bare_5 x h5 A1 D1 c1 e1 w hr
  by_cases h6 : x.kd = 6
  · exact bare_6 x h6 A1 D1 c1 e1 w hr
  exact bare_9 x h0 h1 h2 h3 h4 h5 h6 A1 D1 c1 e1 w hr
end Go.Proofs.YtckdecodpjfcnaaGreatDoor
