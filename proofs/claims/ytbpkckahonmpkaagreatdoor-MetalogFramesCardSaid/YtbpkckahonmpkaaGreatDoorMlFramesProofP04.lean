/-
  The code that an error of package varint wraps.
  A region that draws its order, whose operations only read what was there and whose callees may make memory but leave what was there as it was: walked once, in the order of the text, over the class of all such worlds.
  Words for structs that lie in a block of their own: loaded, stored and made whole, whatever their size (for walks with loadCells and storeVar out of the simp set).
  Words for a whole state: its cells as an array that stays shut; what a walk loads and stores of it.
  Layer 19, in plain words: an entry of a coordinator's log; its cells as an array that stays shut.
  Layer 21: what becomes of a transactional id and of a whole state behind a tick, or made young: the program's parts.
  An entry of a coordinator's log in memory, and one that is made of it field by field: what is stored.
  Layer 19, plainly: an entry's way of writing; what is read is what was written, by the program's ranges or by the document's. No program in sight.
  errors.As, errors.Is at an error that wraps its code: what the library's entries give. (After the guide's worked text for errors.As at a concrete target.)
  errors.As and errors.Is at an error of type varint.broken, which wraps its code.
-/
import Derived.Test.YtbpkckahonmpkaaGreatDoorMlFramesProofP03
import Derived.Below
import Derived.Deep.MidRow
import Derived.Deep.Cut
import Derived.Deep.CutBlock
import Derived.Deep.DeepCutAuto
import Derived.Deep.LoopGhost
import Derived.Deep.RegionWith
import Derived.Deep.RegionHeld3
import Derived.Deep.RegionLaw
import Derived.Deep.DrawnRows
import Derived.StillTailTactics
import Derived.Test.YtbpkckahonmpkaaGreatDoorRows
import Derived.WalkKit
import Derived.LaidEql
import Derived.Stop.Asserts
import Derived.RowKitTokens
import Derived.Lib.Hide
import Derived.LoopN
set_option linter.unusedVariables false
set_option linter.unusedSimpArgs false
namespace Go.Proofs.YtbpkckahonmpkaaGreatDoor
open Go.RowKit

/-- The worlds that are as w was below block B. -/
def BW (B : Nat) (w : World) : Type := { W : World // Below B w W }
instance nonempty_BW (B : Nat) (w : World) : Nonempty (BW B w) := ⟨⟨w, Below.refl _ _⟩⟩
end Go.Proofs.YtbpkckahonmpkaaGreatDoor
namespace Go.Proofs.YtbpkckahonmpkaaGreatDoor
open Go.RowKit

section
variable {P : Program}
def bkSet (cs : Array Value) : Nat → List Value → Array Value
  | _, [] => cs
  | o, v :: r => bkSet (cs.setIfInBounds o v) (o + 1) r
theorem bkSet_pre : ∀ (vs zs pre : List Value), zs.length = vs.length → bkSet (pre ++ zs).toArray pre.length vs = (pre ++ vs).toArray
  | [], zs, pre, h => by
    rw [List.length_eq_zero_iff.1 h]
    rfl
  | v :: vs, [], pre, h => by simp at h
  | v :: vs, z :: zs, pre, h => by
    rw [bkSet]
    have e : (pre ++ z :: zs).toArray.setIfInBounds pre.length v = ((pre ++ [v]) ++ zs).toArray := by
      rw [List.setIfInBounds_toArray]
      congr 1
      rw [List.set_append_right _ _ (Nat.le_refl _)]
      simp
    rw [e]
    have := bkSet_pre vs zs (pre ++ [v]) (by simpa using h)
    rw [List.length_append, List.length_singleton] at this
    rw [this]
    simp
theorem bkSet_all (zs cs : Array Value) (h : zs.size = cs.size) : bkSet zs 0 cs.toList = cs := by
  have := bkSet_pre cs.toList zs.toList [] (by simpa using h)
  simpa using this
theorem bk_setCells {b : Nat} {t : TypeId} : ∀ (vs : List Value) (o : Nat) (W : World) (cs : Array Value), Blk W b t cs → Blk (W.setCells b o vs) b t (bkSet cs o vs)
  | [], _, _, _, h => h
  | v :: r, o, W, cs, h => by
    rw [World.setCells]
    exact bk_setCells r (o + 1) _ _ (h.set_ o v)
theorem bk_setCells_heap (b : Nat) : ∀ (vs : List Value) (o : Nat) (W : World) (k : Nat), k ≠ b → (W.setCells b o vs).heap[k]? = W.heap[k]?
  | [], _, _, _, _ => rfl
  | v :: r, o, W, k, hk => by
    rw [World.setCells, bk_setCells_heap b r (o + 1) _ k hk]
    exact Below.heap_setCell _ _ _ _ hk
theorem bk_setCells_below {n b : Nat} {w : World} (hb : n ≤ b) : ∀ (vs : List Value) (o : Nat) (W : World), Below n w W → Below n w (W.setCells b o vs)
  | [], _, _, h => h
  | v :: r, o, W, h => by
    rw [World.setCells]
    exact bk_setCells_below hb r (o + 1) _ (h.setCell (p := ⟨b, o, none⟩) hb v)
theorem bk_setCells_size (b : Nat) : ∀ (vs : List Value) (o : Nat) (W : World), (W.setCells b o vs).heap.size = W.heap.size
  | [], _, _ => rfl
  | v :: r, o, W => by
    rw [World.setCells, bk_setCells_size b r (o + 1)]
    simp
theorem bk_new (w : World) (t : TypeId) (cs : Array Value) {g : Nat} (hg : w.heap.size = g) : Blk (w.alloc (.cells cs t)) g t cs := hg ▸ Blk.new w t cs
/-- A struct that lies in a block, its cells loaded. -/
theorem bk_load {W : World} {b : Nat} {t : TypeId} {cs : Array Value} (n : Nat) (h : Blk W b t cs) (hn : cs.size = n) : (loadCells ⟨b, 0, none⟩ n).run P W = .ok cs W := by
  have := run_loadCells_list (P := P) W ⟨b, 0, none⟩ cs.toList (fun j v hv => by
    rw [Addr.add_mid, Nat.zero_add, h.cell j]
    simpa using hv)
  rw [Array.length_toList, hn] at this
  simpa using this
/-- .. a part of one. -/
theorem bk_load_off {W : World} {b : Nat} {t : TypeId} {cs : Array Value} (o n : Nat) (h : Blk W b t cs) {vs : Array Value} (hvs : (cs.toList.drop o).take n = vs.toList) (hn : vs.size = n) : (loadCells ⟨b, o, none⟩ n).run P W = .ok vs W := by
  have := run_loadCells_list (P := P) W ⟨b, o, none⟩ vs.toList (fun j v hv => by
    have hj : j < n := by
      have := (List.getElem?_eq_some_iff.1 hv).1
      rw [Array.length_toList] at this
      omega
    rw [Addr.add_mid, h.cell (o + j), ← hv, ← hvs, List.getElem?_take_of_lt hj, List.getElem?_drop]
    simp)
  rw [Array.length_toList, hn] at this
  simpa using this
/-- A struct stored into a block. -/
theorem bk_store {W : World} {b : Nat} {t ty : TypeId} {cs zs : Array Value} (n : Nat) (h : Blk W b t zs) (hi : (P.info? ty).map (·.size) = some n) (hz : zs.size = n) (hn : cs.size = n) (h1 : cs.all (·.oneCell') = true) :
    ∃ W', (storeVar ty ⟨b, 0, none⟩ (.agg cs)).run P W = .ok () W' ∧ Blk W' b t cs ∧ (∀ m (w : World), m ≤ b → Below m w W → Below m w W') ∧ (∀ k, k ≠ b → W'.heap[k]? = W.heap[k]?) ∧ W'.heap.size = W.heap.size :=
  ⟨_, run_storeVar_mid W b 0 ty cs (fun j hj => by
      rw [Nat.zero_add]
      exact ⟨by rw [h.cell j]; simp; omega, h.frozen j⟩) (by rw [hi, hn]) h1,
    (by have := bk_setCells cs.toList 0 _ _ h; rw [bkSet_all zs cs (by rw [hz, hn])] at this; exact this), fun m w hb hB => bk_setCells_below hb _ _ _ hB, fun k hk => bk_setCells_heap b _ _ _ k hk, bk_setCells_size ..⟩
/-- A new block for a struct, filled at once. -/
theorem bk_fresh (w1 : World) (ty : TypeId) (zs cs : Array Value) (n : Nat) (hi : (P.info? ty).map (·.size) = some n) (hz : zs.size = n) (hn : cs.size = n) (h1 : cs.all (·.oneCell') = true) :
    ∃ W', (storeVar ty ⟨w1.heap.size, 0, none⟩ (.agg cs)).run P (w1.alloc (.cells zs ty)) = .ok () W' ∧ Blk W' w1.heap.size ty cs ∧ Below w1.heap.size w1 W' ∧ W'.heap.size = w1.heap.size + 1 := by
  obtain ⟨W', st, kw, fb, _, hs⟩ := bk_store (ty := ty) (cs := cs) n (Blk.new w1 ty zs) hi hz hn h1
  exact ⟨W', st, kw, fb _ w1 (Nat.le_refl _) ((Below.refl _ _).alloc (Nat.le_refl _) _), by rw [hs, World.size_alloc]⟩
end
end Go.Proofs.YtbpkckahonmpkaaGreatDoor
namespace Go.Proofs.YtbpkckahonmpkaaGreatDoor
open Go.RowKit

theorem infoCoS : (Tryz.prog.info? 29).map (·.size) = some 8 := by kernel_rfl
structure Sta where
  made : Int
  tid : Nat → Co
  gr : Nat → Int
/-- Where the lists of a state's transactional ids lie. -/
structure Sad where
  A : Nat → Option Addr
  D : Nat → Option Addr
  c : Nat → Nat
  e : Nat → Nat
def coL (x : Co) (A D : Option Addr) (c e : Nat) : List Value := [.int .i8 x.st, .int .i64 x.pid, .int .i64 x.ep, .int .i64 x.tm, .int .i64 x.th, .slice A x.ps.length c, .slice D x.qs.length e, .int .i64 x.ag]
def coAt (s : Sta) (a : Sad) (k : Nat) : List Value := coL (s.tid k) (a.A k) (a.D k) (a.c k) (a.e k)
def tidL (s : Sta) (a : Sad) : List Value := coAt s a 0 ++ (coAt s a 1 ++ coAt s a 2)
def grL (s : Sta) : List Value := [.int .i64 (s.gr 0), .int .i64 (s.gr 1), .int .i64 (s.gr 2), .int .i64 (s.gr 3), .int .i64 (s.gr 4), .int .i64 (s.gr 5)]
def stL (s : Sta) (a : Sad) : List Value := .int .i64 s.made :: (tidL s a ++ grL s)
def stX (s : Sta) (a : Sad) : Array Value := (stL s a).toArray
/-- Its lists, as they lie in memory. -/
def StR (w : World) (B : Nat) (s : Sta) (a : Sad) : Prop := ∀ k, k < 3 → CoR w B (s.tid k) (a.A k) (a.D k)
theorem StR.below {w w' : World} {B : Nat} {s : Sta} {a : Sad} (h : StR w B s a) (hb : Below B w w') : StR w' B s a := fun k hk => (h k hk).below hb
theorem StR.more {w : World} {B B' : Nat} {s : Sta} {a : Sad} (h : StR w B s a) (hb : B ≤ B') : StR w B' s a := fun k hk => (h k hk).more hb
theorem StR.up {w w' : World} {s : Sta} {a : Sad} (h : StR w w.heap.size s a) (hb : Below w.heap.size w w') : StR w' w'.heap.size s a := fun k hk => (h k hk).up hb
section
variable {W : World} {b : Nat} {t : TypeId} {s : Sta} {a : Sad}
end
end Go.Proofs.YtbpkckahonmpkaaGreatDoor
namespace Go.Proofs.YtbpkckahonmpkaaGreatDoor
open Go.RowKit
structure Mt where
  kd : Int
  tid : Int
  tm : Int
  p : Pd
  yes : Bool
  th : Int
  c : Co
  nx : Int
def Pd0 : Pd := (0, 0, 0)
/-- Its cells. -/
def mtL (m : Mt) (A D : Option Addr) (c e : Nat) : List Value := [.int .i8 m.kd, .int .i64 m.tid, .int .i64 m.tm, .int .i64 m.p.1, .int .i64 m.p.2.1, .int .i64 m.p.2.2, .bool m.yes, .int .i64 m.th] ++ (coL m.c A D c e ++ [.int .i64 m.nx])
def mtX (m : Mt) (A D : Option Addr) (c e : Nat) : Array Value := (mtL m A D c e).toArray
theorem mtX_size (m : Mt) (A D : Option Addr) (c e : Nat) : (mtX m A D c e).size = 17 := rfl
theorem mtX_one (m : Mt) (A D : Option Addr) (c e : Nat) : (mtX m A D c e).all (·.oneCell') = true := by
  simp [mtX, mtL, coL, Value.oneCell']
section
variable {P : Program} {W : World} {b : Nat} {t : TypeId} {m : Mt} {A D : Option Addr} {c e : Nat}
theorem mt_load (h : Blk W b t (mtX m A D c e)) : (loadCells ⟨b, 0, none⟩ 17).run P W = .ok (mtX m A D c e) W := bk_load 17 h rfl
theorem mt_pend (h : Blk W b t (mtX m A D c e)) : (loadCells ⟨b, 3, none⟩ 3).run P W = .ok #[.int .i64 m.p.1, .int .i64 m.p.2.1, .int .i64 m.p.2.2] W := bk_load_off 3 3 h rfl rfl
theorem mt_co (h : Blk W b t (mtX m A D c e)) : (loadCells ⟨b, 8, none⟩ 8).run P W = .ok #[.int .i8 m.c.st, .int .i64 m.c.pid, .int .i64 m.c.ep, .int .i64 m.c.tm, .int .i64 m.c.th, .slice A m.c.ps.length c, .slice D m.c.qs.length e, .int .i64 m.c.ag] W := bk_load_off 8 8 h rfl rfl
theorem mt_cell (h : Blk W b t (mtX m A D c e)) {j : Nat} {v : Value} (hv : (mtL m A D c e)[j]? = some v) : W.cell? ⟨b, j, none⟩ = some v := by
  rw [h.cell, ← hv]
  unfold mtX
  simp
end
/-- An entry with the fields alone that its kind names. -/
def bareM (m : Mt) : Mt :=
  { kd := m.kd
    tid := if m.kd = 1 ∨ m.kd = 2 ∨ m.kd = 3 ∨ m.kd = 4 ∨ m.kd = 6 then m.tid else 0
    tm := if m.kd = 1 then m.tm else 0
    p := if m.kd = 2 ∨ m.kd = 5 then m.p else Pd0
    yes := if m.kd = 3 then m.yes else false
    th := if m.kd = 3 then m.th else 0
    c := if m.kd = 6 then m.c else Co0
    nx := if m.kd = 7 then m.nx else 0 }
def sameM (a b : Mt) : Bool := (a.kd == b.kd) && ((a.tid == b.tid) && ((a.tm == b.tm) && (decide (a.p = b.p) && ((a.yes == b.yes) && ((a.th == b.th) && ((a.nx == b.nx) && sameB a.c b.c))))))
noncomputable def fitM (m : Mt) : Bool :=
  if m.kd = 0 ∨ m.kd = 4 then true
  else if m.kd = 1 then decide (1 ≤ m.tm) && decide (m.tm ≤ 20)
  else if m.kd = 2 ∨ m.kd = 5 then pendB m.p
  else if m.kd = 3 then decide (0 ≤ m.th) && (decide (m.th ≤ 20) && (!m.yes || decide (m.th = 0)))
  else if m.kd = 6 then decide (m.c.ps.length = 0) && mayB m.c
  else if m.kd = 7 then decide (0 ≤ m.nx) && decide (m.nx ≤ 8)
  else false
noncomputable def mayM (m : Mt) : Bool := sameM m (bareM m) && (decide (0 ≤ m.tid) && (decide (m.tid < 3) && fitM m))
end Go.Proofs.YtbpkckahonmpkaaGreatDoor
namespace Go.Proofs.YtbpkckahonmpkaaGreatDoor
open Go.RowKit
def Sta.put (s : Sta) (k : Nat) (c : Co) : Sta := { s with tid := fun j => if j = k then c else s.tid j }
def Sad.put (a : Sad) (k : Nat) (A D : Option Addr) (c e : Nat) : Sad := ⟨fun j => if j = k then A else a.A j, fun j => if j = k then D else a.D j, fun j => if j = k then c else a.c j, fun j => if j = k then e else a.e j⟩
theorem bkSet_mid : ∀ (vs mid pre post : List Value), mid.length = vs.length → bkSet (pre ++ (mid ++ post)).toArray pre.length vs = (pre ++ (vs ++ post)).toArray
  | [], mid, pre, post, h => by
    rw [List.length_eq_zero_iff.1 h]
    rfl
  | v :: vs, [], pre, post, h => by simp at h
  | v :: vs, z :: mid, pre, post, h => by
    rw [bkSet]
    have e : (pre ++ (z :: mid ++ post)).toArray.setIfInBounds pre.length v = ((pre ++ [v]) ++ (mid ++ post)).toArray := by
      rw [List.setIfInBounds_toArray]
      congr 1
      rw [List.set_append_right _ _ (Nat.le_refl _)]
      simp
    rw [e]
    have := bkSet_mid vs mid (pre ++ [v]) post (by simpa using h)
    rw [List.length_append, List.length_singleton] at this
    rw [this]
    simp
theorem blk_is {W : World} {b : Nat} {t : TypeId} {cs : Array Value} (h : Blk W b t cs) {j : Nat} (hj : j < cs.size) : (W.cell? ⟨b, j, none⟩).isSome = true ∧ W.frozen? ⟨b, j, none⟩ = false := by
  refine ⟨?_, h.frozen _⟩
  rw [h.cell, Array.getElem?_eq_getElem hj]
  rfl
theorem store_intS {W : World} {a : Addr} {u : Value} (k : Int) (h : W.cell? a = some u) (hf : W.frozen? a = false) : (storeVar 3 a (.int .i64 k)).run Tryz.prog W = .ok () (W.setCell a (.int .i64 k)) := by
  simp [go_sem, h, hf]
section
attribute [-go_sem] loadCells storeVar
end
end Go.Proofs.YtbpkckahonmpkaaGreatDoor
namespace Go.Proofs.YtbpkckahonmpkaaGreatDoor
open Go.RowKit
theorem infoMt : (Tryz.prog.info? 42).map (·.size) = some 17 := by kernel_rfl
theorem infoPdM : (Tryz.prog.info? 40).map (·.size) = some 3 := by kernel_rfl
def Mt0 (k : Int) : Mt := ⟨k, 0, 0, Pd0, false, 0, Co0, 0⟩
/-- Two entries' blocks. -/
structure MtE (lo x y : Nat) (w : World) (X Y : Array Value) (W : World) : Prop where
  k1 : Blk W x 42 X
  k2 : Blk W y 42 Y
  bel : Below lo w W
  ne : x ≠ y
  hy : lo ≤ y
theorem MtE.below {lo x y : Nat} {w W W' : World} {X Y : Array Value} (h : MtE lo x y w X Y W) (hl : lo ≤ W.heap.size) (hb : Below W.heap.size W W') : MtE lo x y w X Y W' :=
  ⟨h.k1.below hb h.k1.lt, h.k2.below hb h.k2.lt, h.bel.trans (hb.mono hl), h.ne, h.hy⟩
theorem MtE.drew {lo x y : Nat} {w W : World} {X Y : Array Value} (h : MtE lo x y w X Y W) : MtE lo x y w X Y W.drew := ⟨h.k1.drew, h.k2.drew, h.bel.drew, h.ne, h.hy⟩
theorem MtE.cellSet {lo x y : Nat} {w W : World} {X Y Y' : Array Value} (h : MtE lo x y w X Y W) (j : Nat) (v : Value) (ho : Y.setIfInBounds j v = Y') : MtE lo x y w X Y' (W.setCell ⟨y, j, none⟩ v) := by
  refine ⟨h.k1.far (p := ⟨y, j, none⟩) h.ne v, ?_, h.bel.setCell (p := ⟨y, j, none⟩) h.hy v, h.ne, h.hy⟩
  rw [← ho]; exact h.k2.set_ j v
theorem store_boolM {W : World} {a : Addr} {u : Value} (k : Bool) (h : W.cell? a = some u) (hf : W.frozen? a = false) : (storeVar 4 a (.bool k)).run Tryz.prog W = .ok () (W.setCell a (.bool k)) := by
  simp [go_sem, h, hf]
theorem cell_is {W : World} {y : Nat} {t : TypeId} {Y : Array Value} (h : Blk W y t Y) {j : Nat} (hj : j < Y.size) : ∃ u, W.cell? ⟨y, j, none⟩ = some u := ⟨Y[j], by rw [h.cell]; simp [hj]⟩
theorem MtE.int {lo x y : Nat} {w W : World} {X Y : Array Value} (h : MtE lo x y w X Y W) (j : Nat) (n : Int) (Y' : Array Value) (hj : j < Y.size) (ho : Y.setIfInBounds j (.int .i64 n) = Y') :
    ∃ W', (storeVar 3 ⟨y, j, none⟩ (.int .i64 n)).run Tryz.prog W = .ok () W' ∧ MtE lo x y w X Y' W' := by
  obtain ⟨u, hu⟩ := cell_is h.k2 hj
  exact ⟨_, store_intS n hu (h.k2.frozen j), h.cellSet j _ ho⟩
theorem MtE.bool {lo x y : Nat} {w W : World} {X Y : Array Value} (h : MtE lo x y w X Y W) (j : Nat) (n : Bool) (Y' : Array Value) (hj : j < Y.size) (ho : Y.setIfInBounds j (.bool n) = Y') :
    ∃ W', (storeVar 4 ⟨y, j, none⟩ (.bool n)).run Tryz.prog W = .ok () W' ∧ MtE lo x y w X Y' W' := by
  obtain ⟨u, hu⟩ := cell_is h.k2 hj
  exact ⟨_, store_boolM n hu (h.k2.frozen j), h.cellSet j _ ho⟩
theorem MtE.many {lo x y : Nat} {w W : World} {X Y : Array Value} (h : MtE lo x y w X Y W) (ty : TypeId) (o : Nat) (vs : List Value) (Y' : Array Value) (hi : (Tryz.prog.info? ty).map (·.size) = some vs.length) (hj : o + vs.length ≤ Y.size) (h1 : vs.toArray.all (·.oneCell') = true) (ho : bkSet Y o vs = Y') :
    ∃ W', (storeVar ty ⟨y, o, none⟩ (.agg vs.toArray)).run Tryz.prog W = .ok () W' ∧ MtE lo x y w X Y' W' := by
  refine ⟨_, run_storeVar_mid W y o ty vs.toArray (fun j hj' => ?_) (by rw [hi]; rfl) h1, ?_⟩
  · exact blk_is h.k2 (by simp at hj'; omega)
  · refine ⟨?_, ?_, bk_setCells_below h.hy _ _ _ h.bel, h.ne, h.hy⟩
    · exact (bk_setCells_heap y _ _ _ x h.ne).trans h.k1
    · rw [← ho]; exact bk_setCells vs o _ _ h.k2
theorem mt_pendS (m : Mt) (A D : Option Addr) (c e : Nat) (p : Pd) : bkSet (mtX m A D c e) 3 [.int .i64 p.1, .int .i64 p.2.1, .int .i64 p.2.2] = mtX { m with p := p } A D c e := by
  have h := bkSet_mid [.int .i64 p.1, .int .i64 p.2.1, .int .i64 p.2.2] [.int .i64 m.p.1, .int .i64 m.p.2.1, .int .i64 m.p.2.2] [.int .i8 m.kd, .int .i64 m.tid, .int .i64 m.tm] (.bool m.yes :: .int .i64 m.th :: (coL m.c A D c e ++ [.int .i64 m.nx])) rfl
  unfold mtX mtL
  simp only [List.cons_append, List.nil_append] at h ⊢
  exact h
theorem mt_coS (m : Mt) (A D : Option Addr) (c e : Nat) (d : Co) (A5 D5 : Option Addr) (c5 e5 : Nat) : bkSet (mtX m A D c e) 8 (coL d A5 D5 c5 e5) = mtX { m with c := d } A5 D5 c5 e5 := by
  have h := bkSet_mid (coL d A5 D5 c5 e5) (coL m.c A D c e) [.int .i8 m.kd, .int .i64 m.tid, .int .i64 m.tm, .int .i64 m.p.1, .int .i64 m.p.2.1, .int .i64 m.p.2.2, .bool m.yes, .int .i64 m.th] [.int .i64 m.nx] rfl
  unfold mtX mtL
  exact h
theorem MtE.pend {lo x y : Nat} {w W : World} {X : Array Value} {o : Mt} {A D : Option Addr} {c e : Nat} (h : MtE lo x y w X (mtX o A D c e) W) (p : Pd) :
    ∃ W', (storeVar 40 ⟨y, 3, none⟩ (.agg #[.int .i64 p.1, .int .i64 p.2.1, .int .i64 p.2.2])).run Tryz.prog W = .ok () W' ∧ MtE lo x y w X (mtX { o with p := p } A D c e) W' :=
  h.many 40 3 [.int .i64 p.1, .int .i64 p.2.1, .int .i64 p.2.2] _ infoPdM (by rw [mtX_size]; simp) (by simp [Value.oneCell']) (mt_pendS o A D c e p)
theorem MtE.co {lo x y : Nat} {w W : World} {X : Array Value} {o : Mt} {A D : Option Addr} {c e : Nat} (h : MtE lo x y w X (mtX o A D c e) W) (d : Co) (A5 D5 : Option Addr) (c5 e5 : Nat) :
    ∃ W', (storeVar 29 ⟨y, 8, none⟩ (.agg #[.int .i8 d.st, .int .i64 d.pid, .int .i64 d.ep, .int .i64 d.tm, .int .i64 d.th, .slice A5 d.ps.length c5, .slice D5 d.qs.length e5, .int .i64 d.ag])).run Tryz.prog W = .ok () W' ∧ MtE lo x y w X (mtX { o with c := d } A5 D5 c5 e5) W' :=
  h.many 29 8 (coL d A5 D5 c5 e5) _ infoCoS (by rw [mtX_size]; simp [coL]) (by simp [coL, Value.oneCell']) (mt_coS o A D c e d A5 D5 c5 e5)
theorem sameM_tid {a b : Mt} (h : sameM a b = true) : a.tid = b.tid := by
  unfold sameM at h
  simp only [Bool.and_eq_true, beq_iff_eq] at h
  exact h.2.1
theorem co0_R (w : World) (B : Nat) : CoR w B Co0 none none := ⟨Reads.none_, Reads.none_, by simp [Co0], by simp [Co0]⟩
end Go.Proofs.YtbpkckahonmpkaaGreatDoor
namespace Go.Proofs.YtbpkckahonmpkaaGreatDoor
open Go.RowKit

def MtNil : Mt := ⟨0, 0, 0, Pd0, false, 0, Co0, 0⟩
/-- An entry without its kind. -/
abbrev Mb := Int × Int × Pd × Bool × Int × Co × Int
def Mb0 : Mb := (0, 0, Pd0, false, 0, Co0, 0)
def mtOf (kd : Int) (y : Mb) : Mt := ⟨kd, y.1, y.2.1, y.2.2.1, y.2.2.2.1, y.2.2.2.2.1, y.2.2.2.2.2.1, y.2.2.2.2.2.2⟩
def mbOf (m : Mt) : Mb := (m.tid, m.tm, m.p, m.yes, m.th, m.c, m.nx)
abbrev rI (lo hi : Nat) : Rdr Int := fun l i b => rdNum l i b lo hi

section
variable {α β γ : Type}
/-- Two, one behind the other, where the second does not ask for the first. -/
theorem Fol.pair {rd : Rdr α} {c : Cd α} {rd' : Rdr β} {d : Cd β} (h : Fol rd c id) (k : Fol rd' d id) : Fol (rdBind rd fun x => rdMap rd' fun y => (x, y)) (c.bind fun _ => d) id :=
  Fol.congr (h.bind (d := fun _ => d) (g := fun x y => (x, y)) (fun x => k.map (fun y => (x, y))) (fun x => (k.map (fun y => (x, y))).stop) (fun x => (k.map (fun y => (x, y))).le)) (fun _ _ _ => rfl) (fun _ => rfl)
/-- Two, where the second hangs on the first. -/
theorem Fol.dep {rd : Rdr α} {c : Cd α} {rd' : α → Rdr β} {d : α → Cd β} (h : Fol rd c id) (k : ∀ x, Fol (rd' x) (d x) id) : Fol (rdBind rd fun x => rdMap (rd' x) fun y => (x, y)) (c.bind d) id :=
  Fol.congr (h.bind (d := d) (g := fun x y => (x, y)) (fun x => (k x).map (fun y => (x, y))) (fun x => ((k x).map (fun y => (x, y))).stop) (fun x => ((k x).map (fun y => (x, y))).le)) (fun _ _ _ => rfl) (fun _ => rfl)
theorem Fol.emb1 {rd : Rdr α} {c : Cd α} (h : Fol rd c id) (f : α → β) (g : β → α) (hg : ∀ x, c.v x → g (f x) = x) : Fol (rdMap rd f) (c.emb f g hg) id := h.emb f g hg f id (fun _ => rfl)
theorem Fol.rep1 {rd : Rdr α} {c : Cd α} (h : Fol rd c id) (n : Nat) : Fol (rdRep rd n) (c.rep n) id := Fol.congr (h.rep n) (fun _ _ _ => rfl) (fun y => by simp)
end

def cPn : Cd Pd := (cI 0 1).bind fun _ => (cI 0 2).bind fun _ => cI 0 1048576
def rdPn : Rdr Pd := rdBind (rI 0 1) fun g => rdMap (rdBind (rI 0 2) fun q => rdMap (rI 0 1048576) fun o => (q, o)) fun t => (g, t)
theorem fol_pn : Fol rdPn cPn id := (fol_I 0 1).pair ((fol_I 0 2).pair (fol_I 0 1048576))

/-- What a transactional id is. -/
abbrev Cb := Int × Int × Int × Int × Int × Int × List Pd × Int
def coOf (t : Cb) : Co := ⟨t.1, t.2.1, t.2.2.1, t.2.2.2.1, t.2.2.2.2.1, [], t.2.2.2.2.2.2.1, t.2.2.2.2.2.2.2⟩
def cbOf (c : Co) : Cb := (c.st, c.pid, c.ep, c.tm, c.th, (c.qs.length : Int), c.qs, c.ag)
def cCb (S : Nat) : Cd Cb := (cI 0 S).bind fun _ => (cI 0 8).bind fun _ => (cI 0 100).bind fun _ => (cI 0 20).bind fun _ => (cI 0 20).bind fun _ => (cI 0 6).bind fun n => (cPn.rep n.toNat).bind fun _ => cI 0 1048576
def rdCb (S : Nat) : Rdr Cb := rdBind (rI 0 S) fun s => rdMap (rdBind (rI 0 8) fun p => rdMap (rdBind (rI 0 100) fun e => rdMap (rdBind (rI 0 20) fun t => rdMap (rdBind (rI 0 20) fun h => rdMap (rdBind (rI 0 6) fun n => rdMap (rdBind (rdRep rdPn n.toNat) fun qs => rdMap (rI 0 1048576) fun a => (qs, a)) fun y => (n, y)) fun y => (h, y)) fun y => (t, y)) fun y => (e, y)) fun y => (p, y)) fun y => (s, y)
theorem fol_cb (S : Nat) : Fol (rdCb S) (cCb S) id :=
  (fol_I 0 S).pair ((fol_I 0 8).pair ((fol_I 0 100).pair ((fol_I 0 20).pair ((fol_I 0 20).pair ((fol_I 0 6).dep fun n => (fol_pn.rep1 n.toNat).pair (fol_I 0 1048576))))))
theorem cb_back (S : Nat) (x : Cb) (h : (cCb S).v x) : cbOf (coOf x) = x := by
  obtain ⟨s, p, e, t, hh, n, qs, a⟩ := x
  have h1 : 0 ≤ n := h.2.2.2.2.2.1.1
  have h2 : qs.length = n.toNat := h.2.2.2.2.2.2.1.1
  unfold cbOf coOf
  simp only [Prod.mk.injEq, and_true, true_and]
  omega
def cCo (S : Nat) : Cd Co := (cCb S).emb coOf cbOf (cb_back S)
def rdCo (S : Nat) : Rdr Co := rdMap (rdCb S) coOf
theorem fol_co (S : Nat) : Fol (rdCo S) (cCo S) id := (fol_cb S).emb1 _ _ _

def cM0 : Cd Mb := cNil.emb (fun _ => Mb0) (fun _ => ()) (fun _ _ => rfl)
def rM0 : Rdr Mb := rdMap (fun _ i b => ((), i, b)) fun _ => Mb0
def cM1 : Cd Mb := ((cI 0 2).bind fun _ => cI 1 20).emb (fun t => (t.1, t.2, Pd0, false, 0, Co0, 0)) (fun y => (y.1, y.2.1)) (fun _ _ => rfl)
def rM1 : Rdr Mb := rdMap (rdBind (rI 0 2) fun x => rdMap (rI 1 20) fun y => (x, y)) fun t => (t.1, t.2, Pd0, false, 0, Co0, 0)
def cM2 : Cd Mb := ((cI 0 2).bind fun _ => cPn).emb (fun t => (t.1, 0, t.2, false, 0, Co0, 0)) (fun y => (y.1, y.2.2.1)) (fun _ _ => rfl)
def rM2 : Rdr Mb := rdMap (rdBind (rI 0 2) fun x => rdMap rdPn fun y => (x, y)) fun t => (t.1, 0, t.2, false, 0, Co0, 0)
def cM3 : Cd Mb := ((cI 0 2).bind fun _ => cFlag.bind fun _ => cI 0 20).emb (fun t => (t.1, 0, Pd0, t.2.1, t.2.2, Co0, 0)) (fun y => (y.1, y.2.2.2.1, y.2.2.2.2.1)) (fun _ _ => rfl)
def rM3 : Rdr Mb := rdMap (rdBind (rI 0 2) fun x => rdMap (rdBind rdFlag fun f => rdMap (rI 0 20) fun t => (f, t)) fun y => (x, y)) fun t => (t.1, 0, Pd0, t.2.1, t.2.2, Co0, 0)
def cM4 : Cd Mb := (cI 0 2).emb (fun t => (t, 0, Pd0, false, 0, Co0, 0)) (fun y => y.1) (fun _ _ => rfl)
def rM4 : Rdr Mb := rdMap (rI 0 2) fun t => (t, 0, Pd0, false, 0, Co0, 0)
def cM5 : Cd Mb := cPn.emb (fun t => (0, 0, t, false, 0, Co0, 0)) (fun y => y.2.2.1) (fun _ _ => rfl)
def rM5 : Rdr Mb := rdMap rdPn fun t => (0, 0, t, false, 0, Co0, 0)
def cM6 (S : Nat) : Cd Mb := ((cI 0 2).bind fun _ => cCo S).emb (fun t => (t.1, 0, Pd0, false, 0, t.2, 0)) (fun y => (y.1, y.2.2.2.2.2.1)) (fun _ _ => rfl)
def rM6 (S : Nat) : Rdr Mb := rdMap (rdBind (rI 0 2) fun x => rdMap (rdCo S) fun y => (x, y)) fun t => (t.1, 0, Pd0, false, 0, t.2, 0)
def cM7 : Cd Mb := (cI 0 8).emb (fun t => (0, 0, Pd0, false, 0, Co0, t)) (fun y => y.2.2.2.2.2.2) (fun _ _ => rfl)
def rM7 : Rdr Mb := rdMap (rI 0 8) fun t => (0, 0, Pd0, false, 0, Co0, t)
def cM (S : Nat) (kd : Int) : Cd Mb := if kd = 0 then cM0 else if kd = 1 then cM1 else if kd = 2 then cM2 else if kd = 3 then cM3 else if kd = 5 then cM5 else if kd = 6 then cM6 S else if kd = 7 then cM7 else cM4
def rM (S : Nat) (kd : Int) : Rdr Mb := if kd = 0 then rM0 else if kd = 1 then rM1 else if kd = 2 then rM2 else if kd = 3 then rM3 else if kd = 5 then rM5 else if kd = 6 then rM6 S else if kd = 7 then rM7 else rM4
theorem fol_M (S : Nat) (kd : Int) : Fol (rM S kd) (cM S kd) id := by
  unfold rM cM
  repeat' split
  · exact (fol_nil ()).emb1 _ _ _
  · exact ((fol_I 0 2).pair (fol_I 1 20)).emb1 _ _ _
  · exact ((fol_I 0 2).pair fol_pn).emb1 _ _ _
  · exact ((fol_I 0 2).pair (fol_flag.pair (fol_I 0 20))).emb1 _ _ _
  · exact fol_pn.emb1 _ _ _
  · exact ((fol_I 0 2).pair (fol_co S)).emb1 _ _ _
  · exact (fol_I 0 8).emb1 _ _ _
  · exact (fol_I 0 2).emb1 _ _ _
/-- The way of writing of entries: kinds to K, states to S. -/
def cMt (K S : Nat) : Cd Mt := ((cI 0 K).bind fun kd => cM S kd).emb (fun t => mtOf t.1 t.2) (fun x => (x.kd, mbOf x)) (fun _ _ => rfl)
def rdMt (K S : Nat) : Rdr Mt := rdMap (rdBind (rI 0 K) fun kd => rdMap (rM S kd) fun y => (kd, y)) fun t => mtOf t.1 t.2
theorem fol_mt (K S : Nat) : Fol (rdMt K S) (cMt K S) id := ((fol_I 0 K).dep (fol_M S)).emb1 _ _ _

/-- The bytes of an entry. -/
def encMb (x : Mt) : List UInt8 := (cM 6 x.kd).e (mbOf x)
def encM (x : Mt) : List UInt8 := enc x.kd.toNat ++ encMb x
theorem cMt_e (K S : Nat) (x : Mt) : (cMt K S).e x = encM x := by
  show enc x.kd.toNat ++ (cM S x.kd).e (mbOf x) = _
  unfold encM encMb cM
  repeat' split
  all_goals rfl

theorem co_eq {c d : Co} (h : sameB c d = true) : c = d := by
  unfold sameB at h
  simp only [Bool.and_eq_true, beq_iff_eq, decide_eq_true_eq] at h
  obtain ⟨h1, h2, h3, h4, h5, h6, h7, h8⟩ := h
  cases c; cases d
  simp only at h1 h2 h3 h4 h5 h6 h7 h8
  subst h1; subst h2; subst h3; subst h4; subst h5; subst h6; subst h7; subst h8
  rfl
theorem co_none {c : Co} (h : mayB c = true) (h0 : c.st = 0) : c = Co0 := by
  unfold mayB at h
  rw [if_pos h0] at h
  exact co_eq h
/-- The states. -/
theorem co_st {c : Co} (h : mayB c = true) : 0 ≤ c.st ∧ c.st ≤ 6 := by
  unfold mayB at h
  by_cases h0 : c.st = 0
  · omega
  · rw [if_neg h0] at h
    by_cases h2 : c.st = 2
    · omega
    · rw [if_neg h2] at h
      by_cases h3 : c.st = 3
      · omega
      · rw [if_neg h3] at h
        by_cases h4 : c.st = 4
        · omega
        · rw [if_neg h4] at h
          by_cases h5 : c.st = 1 ∨ c.st = 5 ∨ c.st = 6
          · omega
          · rw [if_neg h5] at h; cases h
theorem qs_few {l : List Pd} (h1 : l.all pendB = true) (h2 : adjB aheadP l = true) : l.length ≤ 6 := by
  have ha : Adj aheadP l l.length := Classical.byContradiction fun hn => by rw [adjB_false hn] at h2; cases h2
  have hb : ∀ p ∈ l, 0 ≤ p.1 ∧ p.1 < 2 ∧ 0 ≤ p.2.1 ∧ p.2.1 < 3 := fun p hp => by
    have := List.all_eq_true.1 h1 p hp
    unfold pendB partB at this
    simp only [Bool.and_eq_true, decide_eq_true_eq] at this
    omega
  have key : ∀ (i : Nat) (p : Pd), l[i]? = some p → (i : Int) ≤ p.1 * 3 + p.2.1 := by
    intro i
    induction i with
    | zero =>
      intro p hp
      have := hb p (List.mem_of_getElem? hp)
      omega
    | succ i ih =>
      intro p hp
      have hi : i + 1 < l.length := (List.getElem?_eq_some_iff.1 hp).1
      have hq : l[i]? = some l[i] := List.getElem?_eq_getElem (by omega)
      have h3 := ih _ hq
      have h4 : aheadP l[i] p := ha i _ _ hi hq hp
      unfold aheadP aheadB at h4
      simp only [Bool.or_eq_true, Bool.and_eq_true, decide_eq_true_eq] at h4
      have h5 := hb _ (List.mem_of_getElem? hq)
      have h6 := hb p (List.mem_of_getElem? hp)
      omega
  by_cases hl : l.length ≤ 6
  · exact hl
  · have hq : l[6]? = some l[6] := List.getElem?_eq_getElem (by omega)
    have h3 := key 6 _ hq
    have h5 := hb _ (List.mem_of_getElem? hq)
    omega
theorem range_box {c : Co} (h : rangeB c = true) : (0 ≤ c.pid ∧ c.pid ≤ 8) ∧ (0 ≤ c.ep ∧ c.ep ≤ 100) ∧ (0 ≤ c.tm ∧ c.tm ≤ 20) ∧ (0 ≤ c.ag ∧ c.ag ≤ 1048576) ∧ c.qs.all pendB = true ∧ c.qs.length ≤ 6 := by
  unfold rangeB at h
  simp only [Bool.and_eq_true, decide_eq_true_eq] at h
  obtain ⟨h1, h2, h3, h4, h5, h6, h7, h8, h9, _, h10⟩ := h
  exact ⟨by omega, by omega, by omega, by omega, h1, qs_few h1 h10⟩
theorem may_box {c : Co} (h : mayB c = true) : (0 ≤ c.st ∧ c.st ≤ 6) ∧ (0 ≤ c.th ∧ c.th ≤ 20) ∧ (0 ≤ c.pid ∧ c.pid ≤ 8) ∧ (0 ≤ c.ep ∧ c.ep ≤ 100) ∧ (0 ≤ c.tm ∧ c.tm ≤ 20) ∧ (0 ≤ c.ag ∧ c.ag ≤ 1048576) ∧ c.qs.all pendB = true ∧ c.qs.length ≤ 6 := by
  refine ⟨co_st h, ?_⟩
  by_cases h0 : c.st = 0
  · rw [co_none h h0]
    simp [Co0]
  have tl : ∀ {c : Co}, tailB c = true → (0 ≤ c.th ∧ c.th ≤ 20) ∧ rangeB c = true := fun {c} h => by
    unfold tailB at h
    rw [Bool.and_eq_true, Bool.not_eq_true', Bool.or_eq_false_iff, Bool.or_eq_false_iff, decide_eq_false_iff_not, decide_eq_false_iff_not] at h
    exact ⟨by omega, h.2⟩
  unfold mayB at h
  rw [if_neg h0] at h
  split at h
  · rw [Bool.and_eq_true, Bool.and_eq_true] at h
    exact ⟨(tl h.2.2).1, range_box (tl h.2.2).2⟩
  · split at h
    · rw [Bool.and_eq_true] at h
      exact ⟨(tl h.2).1, range_box (tl h.2).2⟩
    · split at h
      · exact ⟨(tl h).1, range_box (tl h).2⟩
      · split at h
        · unfold idleB at h
          simp only [Bool.and_eq_true, decide_eq_true_eq, beq_iff_eq] at h
          exact ⟨by omega, range_box h.2.2.2.2⟩
        · cases h
theorem cPn_v {p : Pd} (h : pendB p = true) : cPn.v p := by
  unfold pendB partB at h
  simp only [Bool.and_eq_true, decide_eq_true_eq] at h
  show (cI 0 1).v p.1 ∧ (cI 0 2).v p.2.1 ∧ (cI 0 1048576).v p.2.2
  rw [cI_v _ _ _ (by decide), cI_v _ _ _ (by decide), cI_v _ _ _ (by decide)]
  omega
theorem cCo_v {S : Nat} (hS : 6 ≤ S) (hS2 : S ≤ 1048577) {c : Co} (h : mayB c = true) (hp : c.ps = []) : (cCo S).v c := by
  obtain ⟨h1, h2, h3, h4, h5, h6, h7, h8⟩ := may_box h
  show coOf (cbOf c) = c ∧ (cI 0 S).v c.st ∧ (cI 0 8).v c.pid ∧ (cI 0 100).v c.ep ∧ (cI 0 20).v c.tm ∧ (cI 0 20).v c.th ∧ (cI 0 6).v (c.qs.length : Int) ∧ (c.qs.length = (c.qs.length : Int).toNat ∧ ∀ s ∈ c.qs, cPn.v s) ∧ (cI 0 1048576).v c.ag
  refine ⟨?_, (cI_v _ _ _ hS2).2 (by omega), (cI_v _ _ _ (by decide)).2 (by omega), (cI_v _ _ _ (by decide)).2 (by omega), (cI_v _ _ _ (by decide)).2 (by omega), (cI_v _ _ _ (by decide)).2 (by omega), (cI_v _ _ _ (by decide)).2 (by omega), ⟨by omega, fun s hs => cPn_v (List.all_eq_true.1 h7 s hs)⟩, (cI_v _ _ _ (by decide)).2 (by omega)⟩
  unfold coOf cbOf
  rw [← hp]
theorem mayM_bare {m : Mt} (h : mayM m = true) : m = bareM m ∧ 0 ≤ m.tid ∧ m.tid < 3 ∧ fitM m = true := by
  unfold mayM at h
  rw [Bool.and_eq_true, Bool.and_eq_true, Bool.and_eq_true, decide_eq_true_eq, decide_eq_true_eq] at h
  obtain ⟨h1, h2, h3, h4⟩ := h
  refine ⟨?_, h2, h3, h4⟩
  unfold sameM at h1
  simp only [Bool.and_eq_true, decide_eq_true_eq, beq_iff_eq] at h1
  obtain ⟨k0, k1, k2, k3, k4, k5, k6, k7⟩ := h1
  have k8 := co_eq k7
  generalize bareM m = b at *
  cases m; cases b
  simp only at *
  subst k0 k1 k2 k3 k4 k5 k6 k8
  rfl
/-- What may be is written and read. -/
theorem cMt_v {K S : Nat} (hK : 7 ≤ K) (hK2 : K ≤ 1048577) (hS : 6 ≤ S) (hS2 : S ≤ 1048577) {m : Mt} (h : mayM m = true) : (cMt K S).v m := by
  obtain ⟨h1, h2, h3, h4⟩ := mayM_bare h
  obtain ⟨kd, tid, tm, p, yes, th, c, nx⟩ := m
  show mtOf kd (tid, tm, p, yes, th, c, nx) = ⟨kd, tid, tm, p, yes, th, c, nx⟩ ∧ (cI 0 K).v kd ∧ (cM S kd).v (tid, tm, p, yes, th, c, nx)
  rw [cI_v _ _ _ hK2]
  refine ⟨rfl, ?_⟩
  unfold bareM at h1
  injection h1 with _ e1 e2 e3 e4 e5 e6 e7
  unfold fitM at h4
  simp only at e1 e2 e3 e4 e5 e6 e7 h2 h3 h4
  by_cases k0 : kd = 0
  · subst k0
    simp at e1 e2 e3 e4 e5 e6 e7
    subst e1; subst e2; subst e3; subst e4; subst e5; subst e6; subst e7
    exact ⟨by omega, rfl, trivial⟩
  by_cases k1 : kd = 1
  · subst k1
    simp at e1 e2 e3 e4 e5 e6 e7 h4
    subst e3; subst e4; subst e5; subst e6; subst e7
    refine ⟨by omega, rfl, ?_⟩
    show (cI 0 2).v tid ∧ (cI 1 20).v tm
    rw [cI_v _ _ _ (by decide), cI_v _ _ _ (by decide)]
    omega
  by_cases k2 : kd = 2
  · subst k2
    simp at e1 e2 e3 e4 e5 e6 e7 h4
    subst e2; subst e4; subst e5; subst e6; subst e7
    refine ⟨by omega, rfl, ?_⟩
    show (cI 0 2).v tid ∧ cPn.v p
    rw [cI_v _ _ _ (by decide)]
    exact ⟨by omega, cPn_v h4⟩
  by_cases k3 : kd = 3
  · subst k3
    simp at e1 e2 e3 e4 e5 e6 e7 h4
    subst e2; subst e3; subst e6; subst e7
    refine ⟨by omega, rfl, ?_⟩
    exact ⟨(cI_v 0 2 tid (by decide)).2 (by omega), trivial, (cI_v 0 20 th (by decide)).2 (by omega)⟩
  by_cases k4 : kd = 4
  · subst k4
    simp at e1 e2 e3 e4 e5 e6 e7
    subst e2; subst e3; subst e4; subst e5; subst e6; subst e7
    refine ⟨by omega, rfl, ?_⟩
    show (cI 0 2).v tid
    rw [cI_v _ _ _ (by decide)]
    omega
  by_cases k5 : kd = 5
  · subst k5
    simp at e1 e2 e3 e4 e5 e6 e7 h4
    subst e1; subst e2; subst e4; subst e5; subst e6; subst e7
    exact ⟨by omega, rfl, cPn_v h4⟩
  by_cases k6 : kd = 6
  · subst k6
    simp at e1 e2 e3 e4 e5 e6 e7 h4
    subst e2; subst e3; subst e4; subst e5; subst e7
    refine ⟨by omega, rfl, ?_⟩
    show (cI 0 2).v tid ∧ (cCo S).v c
    rw [cI_v _ _ _ (by decide)]
    exact ⟨by omega, cCo_v hS hS2 h4.2 h4.1⟩
  by_cases k7 : kd = 7
  · subst k7
    simp at e1 e2 e3 e4 e5 e6 e7 h4
    subst e1; subst e2; subst e3; subst e4; subst e5; subst e6
    refine ⟨by omega, rfl, ?_⟩
    show (cI 0 8).v nx
    rw [cI_v _ _ _ (by decide)]
    omega
  · rw [if_neg (by omega), if_neg k1, if_neg (by omega), if_neg k3, if_neg k6, if_neg k7] at h4
    cases h4

/-- Bytes as an entry, or ErrCode. -/
noncomputable def readM (K S : Nat) (l : List UInt8) : Mt × Int := if (rdMt K S l 0 false).2.2 = true ∨ (rdMt K S l 0 false).2.1 ≠ l.length ∨ mayM (rdMt K S l 0 false).1 = false then (MtNil, 70) else ((rdMt K S l 0 false).1, 0)
theorem readM_ok {K S : Nat} (hK : 7 ≤ K) (hK2 : K ≤ 1048577) (hS : 6 ≤ S) (hS2 : S ≤ 1048577) {x : Mt} (h : mayM x = true) : readM K S (encM x) = (x, 0) := by
  have hv := cMt_v hK hK2 hS hS2 h
  have h1 : rdMt K S (encM x) 0 false = (x, (encM x).length, false) := by
    rw [← cMt_e K S x]
    exact (fol_mt K S).all.2 ⟨x, hv, rfl, rfl⟩
  unfold readM
  rw [h1, if_neg (by simp [h])]
/-- No entry's bytes are longer than 100. -/
theorem enc_bt {n : Int} (h : n ≤ 1048577) : (enc n.toNat).length ≤ 3 := enc_len3x _ (by omega)
theorem flat_le {α : Type} (e : α → List UInt8) (k : Nat) : ∀ (l : List α), (∀ x ∈ l, (e x).length ≤ k) → (l.flatMap e).length ≤ l.length * k
  | [], _ => by simp
  | x :: l, h => by
    have h1 := h x (List.mem_cons_self ..)
    have h2 := flat_le e k l (fun y hy => h y (List.mem_cons_of_mem _ hy))
    rw [List.flatMap_cons, List.length_append, List.length_cons, Nat.succ_mul]
    omega
theorem cI_len {lo hi : Nat} {x : Int} (hh : hi ≤ 1048577) (h : (cI lo hi).v x) : (enc x.toNat).length ≤ 3 := enc_bt (by have := ((cI_v lo hi x hh).1 h).2; omega)
theorem cPn_len {p : Pd} (h : cPn.v p) : (cPn.e p).length ≤ 9 := by
  have a1 := cI_len (by decide) h.1
  have a2 := cI_len (by decide) h.2.1
  have a3 := cI_len (by decide) h.2.2
  show (enc p.1.toNat ++ (enc p.2.1.toNat ++ enc p.2.2.toNat)).length ≤ 9
  simp only [List.length_append]
  omega
theorem cCo_len {c : Co} (h : (cCo 6).v c) : ((cCo 6).e c).length ≤ 75 := by
  obtain ⟨_, h1, h2, h3, h4, h5, h6, ⟨h7, h8⟩, h9⟩ := h
  have hn : (c.qs.length : Int) ≤ 6 := ((cI_v 0 6 _ (by decide)).1 h6).2
  have hq := flat_le cPn.e 9 c.qs (fun s hs => cPn_len (h8 s hs))
  have a1 : (enc c.st.toNat).length ≤ 3 := cI_len (by decide) h1
  have a2 : (enc c.pid.toNat).length ≤ 3 := cI_len (by decide) h2
  have a3 : (enc c.ep.toNat).length ≤ 3 := cI_len (by decide) h3
  have a4 : (enc c.tm.toNat).length ≤ 3 := cI_len (by decide) h4
  have a5 : (enc c.th.toNat).length ≤ 3 := cI_len (by decide) h5
  have a6 : (enc ((c.qs.length : Int)).toNat).length ≤ 3 := cI_len (by decide) h6
  have a9 : (enc c.ag.toNat).length ≤ 3 := cI_len (by decide) h9
  show (enc c.st.toNat ++ (enc c.pid.toNat ++ (enc c.ep.toNat ++ (enc c.tm.toNat ++ (enc c.th.toNat ++ (enc ((c.qs.length : Int)).toNat ++ (c.qs.flatMap cPn.e ++ enc c.ag.toNat))))))).length ≤ 75
  simp only [List.length_append]
  omega
theorem cM_len (kd : Int) (y : Mb) (h : (cM 6 kd).v y) : ((cM 6 kd).e y).length ≤ 78 := by
  unfold cM at h ⊢
  by_cases k0 : kd = 0
  · rw [if_pos k0]; exact Nat.zero_le _
  rw [if_neg k0] at h ⊢
  by_cases k1 : kd = 1
  · rw [if_pos k1] at h ⊢
    have a1 : (enc y.1.toNat).length ≤ 3 := cI_len (by decide) h.2.1
    have a2 : (enc y.2.1.toNat).length ≤ 3 := cI_len (by decide) h.2.2
    show (enc y.1.toNat ++ enc y.2.1.toNat).length ≤ 78
    rw [List.length_append]; omega
  rw [if_neg k1] at h ⊢
  by_cases k2 : kd = 2
  · rw [if_pos k2] at h ⊢
    have a1 : (enc y.1.toNat).length ≤ 3 := cI_len (by decide) h.2.1
    have a2 : (cPn.e y.2.2.1).length ≤ 9 := cPn_len h.2.2
    show (enc y.1.toNat ++ cPn.e y.2.2.1).length ≤ 78
    rw [List.length_append]; omega
  rw [if_neg k2] at h ⊢
  by_cases k3 : kd = 3
  · rw [if_pos k3] at h ⊢
    have a1 : (enc y.1.toNat).length ≤ 3 := cI_len (by decide) h.2.1
    have a2 : (enc y.2.2.2.2.1.toNat).length ≤ 3 := cI_len (by decide) h.2.2.2
    show (enc y.1.toNat ++ (encY y.2.2.2.1 ++ enc y.2.2.2.2.1.toNat)).length ≤ 78
    have a3 : (encY y.2.2.2.1).length = 1 := rfl
    simp only [List.length_append]; omega
  rw [if_neg k3] at h ⊢
  by_cases k5 : kd = 5
  · rw [if_pos k5] at h ⊢
    have a2 : (cPn.e y.2.2.1).length ≤ 9 := cPn_len h.2
    show (cPn.e y.2.2.1).length ≤ 78
    omega
  rw [if_neg k5] at h ⊢
  by_cases k6 : kd = 6
  · rw [if_pos k6] at h ⊢
    have a1 : (enc y.1.toNat).length ≤ 3 := cI_len (by decide) h.2.1
    have a2 : ((cCo 6).e y.2.2.2.2.2.1).length ≤ 75 := cCo_len h.2.2
    show (enc y.1.toNat ++ (cCo 6).e y.2.2.2.2.2.1).length ≤ 78
    rw [List.length_append]; omega
  rw [if_neg k6] at h ⊢
  by_cases k7 : kd = 7
  · rw [if_pos k7] at h ⊢
    have a1 : (enc y.2.2.2.2.2.2.toNat).length ≤ 3 := cI_len (by decide) h.2
    show (enc y.2.2.2.2.2.2.toNat).length ≤ 78
    omega
  rw [if_neg k7] at h ⊢
  have a1 : (enc y.1.toNat).length ≤ 3 := cI_len (by decide) h.2
  show (enc y.1.toNat).length ≤ 78
  omega
theorem encM_len {m : Mt} (h : mayM m = true) : (encM m).length ≤ 100 := by
  obtain ⟨_, h1, h2⟩ := cMt_v (K := 7) (S := 6) (by decide) (by decide) (by decide) (by decide) h
  have h1 := (cI_v 0 7 m.kd (by decide)).1 h1
  have h3 := enc_bt (n := m.kd) (by omega)
  have h4 := cM_len m.kd (mbOf m) h2
  show (enc m.kd.toNat ++ (cM 6 m.kd).e (mbOf m)).length ≤ 100
  rw [List.length_append]
  omega
end Go.Proofs.YtbpkckahonmpkaaGreatDoor
namespace Go.Proofs.YtbpkckahonmpkaaGreatDoor
open Go.RowKit Go.Stop Go.Extern

/-! The model's entries for internal/reflectlite at this program's types. -/
theorem asValueOf (t : Addr) (w : World) : (callFunc 108 #[.iface 117 (.pointer (some t))]).run Tryz.prog w
    = .ok (.value (.agg #[.pointer (some ⟨1, 117, none⟩), .pointer (some ⟨w.heap.size, 0, none⟩), .int .u64 150])) (w.alloc (.cells #[.pointer (some t)] 117)) := by kernel_rfl
theorem asType (a : Addr) (w : World) : (callFunc 109 #[.agg #[.pointer (some ⟨1, 117, none⟩), .pointer (some a), .int .u64 150]]).run Tryz.prog w
    = .ok (.value (.iface 178 (.agg #[.pointer (some ⟨1, 117, none⟩)]))) w := by kernel_rfl
theorem asMethodKind (k : Nat) (h : Value) (w : World) : (Go.method (k + 1) 178 (.agg #[h]) "Kind").run Tryz.prog w = .ok (165, h) w := by kernel_rfl
theorem asKindP (w : World) : (callFunc 165 #[.pointer (some ⟨1, 117, none⟩)]).run Tryz.prog w = .ok (.value (.int .u8 22)) w := by kernel_rfl
theorem asKindE (w : World) : (callFunc 165 #[.pointer (some ⟨1, 35, none⟩)]).run Tryz.prog w = .ok (.value (.int .u8 2)) w := by kernel_rfl
theorem asMethodElem (k : Nat) (h : Value) (w : World) : (Go.method (k + 1) 178 (.agg #[h]) "Elem").run Tryz.prog w = .ok (193, .agg #[h]) w := by kernel_rfl
theorem asMethodImplements (k : Nat) (h : Value) (w : World) : (Go.method (k + 1) 178 (.agg #[h]) "Implements").run Tryz.prog w = .ok (194, .agg #[h]) w := by kernel_rfl
theorem asMethodAssignable (k : Nat) (h : Value) (w : World) : (Go.method (k + 1) 178 (.agg #[h]) "AssignableTo").run Tryz.prog w = .ok (191, .agg #[h]) w := by kernel_rfl
theorem asElem (w : World) : (callFunc 193 #[.agg #[.pointer (some ⟨1, 117, none⟩)]]).run Tryz.prog w = .ok (.value (.iface 178 (.agg #[.pointer (some ⟨1, 35, none⟩)]))) w := by kernel_rfl
theorem asImplements (w : World) : (callFunc 194 #[.agg #[.pointer (some ⟨1, 35, none⟩)], .iface 178 (.agg #[.pointer (some ⟨1, 71, none⟩)])]).run Tryz.prog w = .ok (.value (.bool true)) w := by kernel_rfl
theorem asTypeOfE (v : Value) (w : World) : (callFunc 106 #[.iface 35 v]).run Tryz.prog w = .ok (.value (.iface 178 (.agg #[.pointer (some ⟨1, 35, none⟩)]))) w := by kernel_rfl
theorem asAssignE (w : World) : (callFunc 191 #[.agg #[.pointer (some ⟨1, 35, none⟩)], .iface 178 (.agg #[.pointer (some ⟨1, 35, none⟩)])]).run Tryz.prog w = .ok (.value (.bool true)) w := by kernel_rfl
theorem asValueOfE (n : Int) (w : World) : (callFunc 108 #[.iface 35 (.int .i64 n)]).run Tryz.prog w
    = .ok (.value (.agg #[.pointer (some ⟨1, 35, none⟩), .pointer (some ⟨w.heap.size, 0, none⟩), .int .u64 130])) (w.alloc (.cells #[.int .i64 n] 35)) := by kernel_rfl

/-! The entries that read or write memory. -/
-- (a line of the guide's worked text for errors.As)
theorem rlm (z : Sem Value) (f : TypeId → Addr → Nat → Nat → Sem Value) (v : Value) :
    ReflectliteValue.method z f #[v] = (do match ← ReflectliteValue.parts v with | none => z | some (t, a, fl) => f t a fl (fl % 32)) := rfl
theorem asPartsP (a : Addr) (w : World) : (ReflectliteValue.parts (.agg #[.pointer (some ⟨1, 117, none⟩), .pointer (some a), .int .u64 150])).run Tryz.prog w = .ok (some (117, a, 150)) w := by kernel_rfl
theorem asIsNil (a p : Addr) (W : World) (ha : W.cell? a = some (.pointer (some p))) :
    (callFunc 110 #[.agg #[.pointer (some ⟨1, 117, none⟩), .pointer (some a), .int .u64 150]]).run Tryz.prog W = .ok (.value (.bool false)) W := by
  rw [@run_callFunc_extern Tryz.prog 110 _ (ReflectliteValue.method (ReflectliteValue.valueError "reflectlite.Value.IsNil" 0) ReflectliteValue.isNil) Tryz.func110 (by kernel_rfl) (by kernel_rfl) (by kernel_rfl) (by kernel_rfl), rlm]
  simp only [Sem.run_bind, asPartsP, Result.andThen]
  simp [ReflectliteValue.isNil, loadVar, isAgg, underlying, Tryz.underlying117, ha, Result.andThen]
theorem asElemOf (w : World) : (Rtype.elem? 117).run Tryz.prog w = .ok (some 35) w := by kernel_rfl
theorem asMk (p : Addr) (w : World) : (ReflectliteValue.mk 35 p ReflectliteValue.flagAddr).run Tryz.prog w = .ok (.agg #[.pointer (some ⟨1, 35, none⟩), .pointer (some p), .int .u64 386]) w := by kernel_rfl
theorem asElemV (a p : Addr) (W : World) (ha : W.cell? a = some (.pointer (some p))) :
    (callFunc 128 #[.agg #[.pointer (some ⟨1, 117, none⟩), .pointer (some a), .int .u64 150]]).run Tryz.prog W
      = .ok (.value (.agg #[.pointer (some ⟨1, 35, none⟩), .pointer (some p), .int .u64 386])) W := by
  rw [@run_callFunc_extern Tryz.prog 128 _ (ReflectliteValue.method (ReflectliteValue.valueError "reflectlite.Value.Elem" 0) ReflectliteValue.elem) Tryz.func128 (by kernel_rfl) (by kernel_rfl) (by kernel_rfl) (by kernel_rfl), rlm]
  simp only [Sem.run_bind, asPartsP, Result.andThen]
  simp [ReflectliteValue.elem, loadVar, isAgg, underlying, Tryz.underlying117, ha, Result.andThen, asElemOf, asMk]

theorem asPartsD (a : Addr) (w : World) : (ReflectliteValue.parts (.agg #[.pointer (some ⟨1, 35, none⟩), .pointer (some a), .int .u64 386])).run Tryz.prog w = .ok (some (35, a, 386)) w := by kernel_rfl
theorem asPartsS (a : Addr) (w : World) : (ReflectliteValue.parts (.agg #[.pointer (some ⟨1, 35, none⟩), .pointer (some a), .int .u64 130])).run Tryz.prog w = .ok (some (35, a, 130)) w := by kernel_rfl
theorem asDirect (w : World) : (Rtype.directlyAssignable 35 35).run Tryz.prog w = .ok true w := by kernel_rfl
-- (a line of the guide's worked text for errors.As)
theorem rls (v x : Value) : ReflectliteValue.set #[v, x] = (do
    let (some (dst, a, fl), some (src, b, _)) := (← ReflectliteValue.parts v, ← ReflectliteValue.parts x)
      | unsupported (.noEntry "extern/(internal/reflectlite.Value).Set.zeroValue")
    if fl / ReflectliteValue.flagAddr % 2 == 0 then unsupported (.noEntry "extern/(internal/reflectlite.Value).Set.unaddressable")
    let val ← loadVar src b
    if ← Rtype.directlyAssignable dst src then storeVar dst a val
    else if ← Rtype.implements dst src then
      if (← Rtype.kind src) == 20 then
        match val with
        | .nilIface => unsupported (.noEntry "extern/reflectlite: a nil value of one interface type handed on as a value of another")
        | _ => storeVar dst a val
      else storeVar dst a (.iface src val)
    else panicString ("reflectlite.Set: value of type " ++ (← Rtype.spelt src) ++ " is not assignable to type " ++ (← Rtype.spelt dst))
    pure (.tuple #[])) := rfl
theorem asSet (ta b : Addr) (n : Int) (old : Value) (W : World) (hb : W.cell? b = some (.int .i64 n)) (ht : W.cell? ta = some old) (hf : W.frozen? ta = false) :
    (callFunc 129 #[.agg #[.pointer (some ⟨1, 35, none⟩), .pointer (some ta), .int .u64 386], .agg #[.pointer (some ⟨1, 35, none⟩), .pointer (some b), .int .u64 130]]).run Tryz.prog W
      = .ok (.value (.tuple #[])) (W.setCell ta (.int .i64 n)) := by
  rw [@run_callFunc_extern Tryz.prog 129 _ ReflectliteValue.set Tryz.func129 (by kernel_rfl) (by kernel_rfl) (by kernel_rfl) (by kernel_rfl), rls]
  simp only [Sem.run_bind, asPartsD, asPartsS, Result.andThen]
  simp [ReflectliteValue.flagAddr, loadVar, isAgg, underlying, Tryz.underlying35, hb, Result.andThen, asDirect, storeVar, Value.cells, storeCells, Addr.add]
  rw [run_store Tryz.prog W ta _ _ (by rfl)]
  simp [ht, hf]

/-- The world that errors.As leaves behind: four new blocks, and what the target points to is set. -/
def asWorld (w : World) (t : Nat) (n : Int) : World :=
  ((((w.alloc (.cells #[.pointer (some ⟨t, 0, none⟩)] 117)).alloc (.cells #[.pointer (some ⟨1, 117, none⟩), .pointer (some ⟨w.heap.size, 0, none⟩), .int .u64 150] 148)).alloc (.cells #[.pointer (some ⟨1, 117, none⟩), .pointer (some ⟨w.heap.size, 0, none⟩), .int .u64 150] 148)).alloc (.cells #[.int .i64 n] 35)).setCell ⟨t, 0, none⟩ (.int .i64 n)


theorem isMethodComparable (k : Nat) (h : Value) (w : World) : (Go.method (k + 1) 178 (.agg #[h]) "Comparable").run Tryz.prog w = .ok (192, .agg #[h]) w := by kernel_rfl
theorem isComparableE (w : World) : (callFunc 192 #[.agg #[.pointer (some ⟨1, 35, none⟩)]]).run Tryz.prog w = .ok (.value (.bool true)) w := by kernel_rfl
theorem isNoIsE (v : Value) (xT : TypeId) (w : World) : (Instr.typeAssert (.iface 35 v) xT 180 true).run Tryz.prog w = .ok (.tuple #[.nilIface, .bool false]) w := run_typeAssert_lacksB Tryz.underlying180 (by kernel_rfl) (by kernel_rfl) v xT w
theorem isNoUnwrapE (v : Value) (xT : TypeId) (w : World) : (Instr.typeAssert (.iface 35 v) xT 183 true).run Tryz.prog w = .ok (.tuple #[.nilIface, .bool false]) w := run_typeAssert_lacksB Tryz.underlying183 (by kernel_rfl) (by kernel_rfl) v xT w
theorem isNoUnwrapsE (v : Value) (xT : TypeId) (w : World) : (Instr.typeAssert (.iface 35 v) xT 185 true).run Tryz.prog w = .ok (.tuple #[.nilIface, .bool false]) w := run_typeAssert_lacksB Tryz.underlying185 (by kernel_rfl) (by kernel_rfl) v xT w

theorem run_equalIn_ifc {P : Program} (w : World) (d : Nat) {ti tn : TypeId} {ms : Array (String × TypeId)} {i : TypeInfo} {k : IntKind} (a b : Int)
    (hi : P.underlying ti = some (.interface ms)) (hn : P.underlying tn = some (.int k)) (hinfo : P.info? tn = some i) (hcomp : i.comparable = true) :
    (Op.equalIn (d + 2) ti (.iface tn (.int k a)) (.iface tn (.int k b))).run P w = .ok (a == b) w := by
  simp [Op.equalIn, run_underlying hi, run_underlying hn, typeInfo, hinfo, hcomp]
theorem eqErrno (a b : Int) (w : World) : (binOp .eql 71 (.iface 35 (.int .i64 a)) (.iface 35 (.int .i64 b))).run Tryz.prog w = .ok (.bool (a == b)) w := by
  obtain ⟨i, hi, hc⟩ : ∃ i, Tryz.prog.info? 35 = some i ∧ i.comparable = true := by
    have h : (Tryz.prog.info? 35).map (·.comparable) = some true := by kernel_rfl
    cases hx : Tryz.prog.info? 35 with
    | none => rw [hx] at h; cases h
    | some i => rw [hx] at h; exact ⟨i, rfl, by simpa using h⟩
  simp only [binOp]
  simp [Op.equal, Op.maxDepth, run_equalIn_ifc w 9998 a b Tryz.underlying71 Tryz.underlying35 hi hc]
end Go.Proofs.YtbpkckahonmpkaaGreatDoor
namespace Go.Proofs.YtbpkckahonmpkaaGreatDoor.ErVa
open Go.RowKit Go.Stop Go.Extern

theorem asTypeOfB (v : Value) (w : World) : (callFunc 106 #[.iface 212 v]).run Tryz.prog w = .ok (.value (.iface 178 (.agg #[.pointer (some ⟨1, 212, none⟩)]))) w := by kernel_rfl
theorem asAssignB (w : World) : (callFunc 191 #[.agg #[.pointer (some ⟨1, 212, none⟩)], .iface 178 (.agg #[.pointer (some ⟨1, 35, none⟩)])]).run Tryz.prog w = .ok (.value (.bool false)) w := by kernel_rfl
theorem asNoAs (v : Value) (xT : TypeId) (w : World) : (Instr.typeAssert (.iface 212 v) xT 190 true).run Tryz.prog w = .ok (.tuple #[.nilIface, .bool false]) w := run_typeAssert_lacksB Tryz.underlying190 (by kernel_rfl) (by kernel_rfl) v xT w
theorem asHasUnwrap (v : Value) (xT : TypeId) (w : World) : (Instr.typeAssert (.iface 212 v) xT 183 true).run Tryz.prog w = .ok (.tuple #[.iface 212 v, .bool true]) w := run_typeAssert_hasB Tryz.underlying183 (by kernel_rfl) v xT w
theorem asMethodUnwrap (k : Nat) (v : Value) (w : World) : (Go.method (k + 1) 212 v "Unwrap").run Tryz.prog w = .ok (204, v) w := by kernel_rfl
set_option maxHeartbeats 4000000 in
/-- errors.As(&error{.., n}, &e): true, and e is n. -/
theorem as_any (b t : Nat) (n : Int) (old : Value) (w : World) (hg : w.cell? ⟨0, 0, none⟩ = some (.iface 178 (.agg #[.pointer (some ⟨1, 71, none⟩)])))
    (hb1 : w.cell? ⟨b, 1, none⟩ = some (.int .i64 n)) (ht0 : w.cell? ⟨t, 0, none⟩ = some old) (hf0 : w.frozen? ⟨t, 0, none⟩ = false) :
    Calls Tryz.prog 70 #[.iface 212 (.pointer (some ⟨b, 0, none⟩)), .iface 117 (.pointer (some ⟨t, 0, none⟩))] w fun ev w' => ev = .returned (.bool true) ∧ asWorld w t n = w' := by
  have hlt : 0 < w.heap.size := by
    rcases Nat.lt_or_ge 0 w.heap.size with h | h
    · exact h
    · simp [World.cell?, Array.getElem?_eq_none h] at hg
  have hbl : b < w.heap.size := by
    rcases Nat.lt_or_ge b w.heap.size with h | h
    · exact h
    · simp [World.cell?, Array.getElem?_eq_none h] at hb1
  have htl : t < w.heap.size := by
    rcases Nat.lt_or_ge t w.heap.size with h | h
    · exact h
    · simp [World.cell?, Array.getElem?_eq_none h] at ht0
  have f1 := asValueOf
  have f2 := asType
  have f3 := asMethodKind
  have f4 := asKindP
  have f5 := asKindE
  have f6 := asMethodElem
  have f7 := asMethodImplements
  have f8 := asMethodAssignable
  have f9 := asElem
  have f10 := asImplements
  have f11 := asTypeOfB
  have f12 := asTypeOfE
  have f13 := asAssignB
  have f14 := asAssignE
  have f15 := asValueOfE
  have f16 := asNoAs
  have f17 := asHasUnwrap
  have f18 := asMethodUnwrap
  have n8 := asIsNil ⟨w.heap.size, 0, none⟩ ⟨t, 0, none⟩ ((w.alloc (.cells #[.pointer (some ⟨t, 0, none⟩)] 117)).alloc (.cells #[.pointer (some ⟨1, 117, none⟩), .pointer (some ⟨w.heap.size, 0, none⟩), .int .u64 150] 148)) (by simp)
  have hg2 : ((w.alloc (.cells #[.pointer (some ⟨t, 0, none⟩)] 117)).alloc (.cells #[.pointer (some ⟨1, 117, none⟩), .pointer (some ⟨w.heap.size, 0, none⟩), .int .u64 150] 148)).cell? ⟨0, 0, none⟩ = some (.iface 178 (.agg #[.pointer (some ⟨1, 71, none⟩)])) := by
    rw [World.cell?_alloc_lt _ _ ⟨0, 0, none⟩ (by simp only [World.size_alloc]; omega), World.cell?_alloc_lt _ _ ⟨0, 0, none⟩ hlt]; exact hg
  have hb2 : (((w.alloc (.cells #[.pointer (some ⟨t, 0, none⟩)] 117)).alloc (.cells #[.pointer (some ⟨1, 117, none⟩), .pointer (some ⟨w.heap.size, 0, none⟩), .int .u64 150] 148)).alloc (.cells #[.pointer (some ⟨1, 117, none⟩), .pointer (some ⟨w.heap.size, 0, none⟩), .int .u64 150] 148)).cell? ⟨b, 1, none⟩ = some (.int .i64 n) := by
    rw [World.cell?_alloc_lt _ _ ⟨b, 1, none⟩ (by simp only [World.size_alloc]; omega), World.cell?_alloc_lt _ _ ⟨b, 1, none⟩ (by simp only [World.size_alloc]; omega), World.cell?_alloc_lt _ _ ⟨b, 1, none⟩ hbl]; exact hb1
  have el := asElemV ⟨w.heap.size, 0, none⟩ ⟨t, 0, none⟩ (((w.alloc (.cells #[.pointer (some ⟨t, 0, none⟩)] 117)).alloc (.cells #[.pointer (some ⟨1, 117, none⟩), .pointer (some ⟨w.heap.size, 0, none⟩), .int .u64 150] 148)).alloc (.cells #[.pointer (some ⟨1, 117, none⟩), .pointer (some ⟨w.heap.size, 0, none⟩), .int .u64 150] 148)) (by rw [World.cell?_alloc_lt _ _ ⟨w.heap.size, 0, none⟩ (by simp only [World.size_alloc]; omega)]; simp)
  have st := asSet ⟨t, 0, none⟩ ⟨w.heap.size + 1 + 1 + 1, 0, none⟩ n old ((((w.alloc (.cells #[.pointer (some ⟨t, 0, none⟩)] 117)).alloc (.cells #[.pointer (some ⟨1, 117, none⟩), .pointer (some ⟨w.heap.size, 0, none⟩), .int .u64 150] 148)).alloc (.cells #[.pointer (some ⟨1, 117, none⟩), .pointer (some ⟨w.heap.size, 0, none⟩), .int .u64 150] 148)).alloc (.cells #[.int .i64 n] 35))
    (by rw [World.cell?_alloc_at _ _ _ _ (by simp)]; rfl)
    (by rw [World.cell?_alloc_lt _ _ ⟨t, 0, none⟩ (by simp only [World.size_alloc]; omega), World.cell?_alloc_lt _ _ ⟨t, 0, none⟩ (by simp only [World.size_alloc]; omega), World.cell?_alloc_lt _ _ ⟨t, 0, none⟩ (by simp only [World.size_alloc]; omega), World.cell?_alloc_lt _ _ ⟨t, 0, none⟩ htl]; exact ht0)
    (by rw [World.frozen?_alloc_old _ _ ⟨t, 0, none⟩ (by simp only [World.size_alloc]; omega), World.frozen?_alloc_old _ _ ⟨t, 0, none⟩ (by simp only [World.size_alloc]; omega), World.frozen?_alloc_old _ _ ⟨t, 0, none⟩ (by simp only [World.size_alloc]; omega), World.frozen?_alloc_old _ _ ⟨t, 0, none⟩ (Nat.ne_of_lt htl)]; exact hf0)
  go_enter Tryz.func70, Tryz.ntmps70
  go_wp2
  refine wp_loop_rounds 2 ?_
  iterate 2 (rw [rounds_succ]; go_wp2)
  go_ret
  exact ⟨rfl, rfl⟩

theorem isNoIs (v : Value) (xT : TypeId) (w : World) : (Instr.typeAssert (.iface 212 v) xT 180 true).run Tryz.prog w = .ok (.tuple #[.nilIface, .bool false]) w := run_typeAssert_lacksB Tryz.underlying180 (by kernel_rfl) (by kernel_rfl) v xT w
theorem eqOther (v : Value) (b : Int) (w : World) : (binOp .eql 71 (.iface 212 v) (.iface 35 (.int .i64 b))).run Tryz.prog w = .ok (.bool false) w := by kernel_rfl

set_option maxRecDepth 100000 in
set_option maxHeartbeats 4000000 in
/-- errors.Is(&error{.., n}, m): whether n is m. -/
theorem is_any (b : Nat) (n m : Int) (w : World) (hb1 : w.cell? ⟨b, 1, none⟩ = some (.int .i64 n)) :
    Calls Tryz.prog 69 #[.iface 212 (.pointer (some ⟨b, 0, none⟩)), .iface 35 (.int .i64 m)] w fun ev w' => ev = .returned (.bool (n == m)) ∧ w = w' := by
  have f6 := isMethodComparable
  have f7 := isComparableE
  have f8 := isNoIsE
  have f9 := isNoUnwrapE
  have f10 := isNoUnwrapsE
  have f11 := eqErrno
  have f12 := asTypeOfE
  have f16 := isNoIs
  have f17 := asHasUnwrap
  have f18 := asMethodUnwrap
  have f19 := eqOther
  by_cases hnm : n = m
  · subst hnm
    go_enter Tryz.func69, Tryz.ntmps69
    go_wp2
    refine wp_loop_rounds 2 ?_
    iterate 2 (rw [rounds_succ]; go_wp2)
    go_ret
    exact ⟨by simp, rfl⟩
  · have d1 : (n == m) = false := beq_eq_false_iff_ne.2 hnm
    have D1 := Lib.hid d1
    go_enter Tryz.func69, Tryz.ntmps69
    go_wp2
    refine wp_loop_rounds 2 ?_
    iterate 2 (rw [rounds_succ]; go_wp2)
    go_ret
    exact ⟨by rw [D1.out]; rfl, rfl⟩
end Go.Proofs.YtbpkckahonmpkaaGreatDoor.ErVa
namespace Go.Proofs.YtbpkckahonmpkaaGreatDoor
open Go.RowKit

theorem asWorld_cell (w : World) (n : Int) : (asWorld (w.alloc (.cells #[.int .i64 0] 35)) w.heap.size n).cell? ⟨w.heap.size, 0, none⟩ = some (.int .i64 n) := by
  unfold asWorld
  refine World.cell?_setCell_same' _ _ _ ?_
  rw [World.cell?_alloc_lt _ _ ⟨w.heap.size, 0, none⟩ (by simp only [World.size_alloc]; omega), World.cell?_alloc_lt _ _ ⟨w.heap.size, 0, none⟩ (by simp only [World.size_alloc]; omega), World.cell?_alloc_lt _ _ ⟨w.heap.size, 0, none⟩ (by simp only [World.size_alloc]; omega), World.cell?_alloc_lt _ _ ⟨w.heap.size, 0, none⟩ (by simp only [World.size_alloc]; omega)]
  simp

set_option maxHeartbeats 1000000 in
/-- varint.code(&broken{.., n}) is n. -/
theorem code_broken (b : Nat) (n : Int) (w : World) (hg : w.cell? ⟨0, 0, none⟩ = some (.iface 178 (.agg #[.pointer (some ⟨1, 71, none⟩)])))
    (hb1 : w.cell? ⟨b, 1, none⟩ = some (.int .i64 n)) :
    Calls Tryz.prog 148 #[.iface 212 (.pointer (some ⟨b, 0, none⟩))] w fun e w' => e = .returned (.int .i64 n) ∧ Below w.heap.size w w' := by
  have hg1 := (World.cell?_alloc_lt w (.cells #[.int .i64 0] 35) ⟨0, 0, none⟩ (by
    rcases Nat.lt_or_ge 0 w.heap.size with h | h
    · exact h
    · simp [World.cell?, Array.getElem?_eq_none h] at hg)).trans hg
  have hbl : b < w.heap.size := by
    rcases Nat.lt_or_ge b w.heap.size with h | h
    · exact h
    · simp [World.cell?, Array.getElem?_eq_none h] at hb1
  have hb2 := (World.cell?_alloc_lt w (.cells #[.int .i64 0] 35) ⟨b, 1, none⟩ hbl).trans hb1
  have HAS := Lib.hid (ErVa.as_any b w.heap.size n (.int .i64 0) (w.alloc (.cells #[.int .i64 0] 35)) hg1 hb2 (by simp) (by simp))
  clear hg1 hb2 hb1 hg
  go_enter Tryz.func148, Tryz.ntmps148
  go_wp2_with (go_at_call 70; refine HAS.out.mono ?_; rintro e w1 ⟨rfl, hw1⟩; have hc1 : w1.cell? ⟨w.heap.size, 0, none⟩ = some (.int .i64 n) := (by rw [← hw1]; exact asWorld_cell w n); have HW1 := Lib.hid hw1; clear hw1)
  go_ret
  refine ⟨rfl, ?_⟩
  rw [← HW1.out, asWorld]
  refine Below.setCell (p := ⟨w.heap.size, 0, none⟩) ?_ (Nat.le_refl _) _
  exact ((((((Below.refl _ w).alloc (Nat.le_refl _) _).alloc (by simp) _).alloc (by simp only [World.size_alloc]; omega) _).alloc (by simp only [World.size_alloc]; omega) _).alloc (by simp only [World.size_alloc]; omega) _)
end Go.Proofs.YtbpkckahonmpkaaGreatDoor
