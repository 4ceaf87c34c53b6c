/-
  A region that draws its order, by its orders: all of them are listed, and each is walked as a plain region is (what a guard leaves out is left out).
  Layer 18: keep: an item put into its place in a list in order. Plain; the two orders as functions of the code.
  Layer 18: keep.
-/
import Derived.Test.YtbpkckahonmpkaaDoorMeBackProofP07
import Derived.Orders
import Derived.Tactics
import Derived.WalkKit
set_option linter.unusedVariables false
set_option linter.unusedSimpArgs false
namespace Go.Proofs.YtbpkckahonmpkaaDoor
open Go.RowKit

/-- How many items stand ahead. -/
def posF {α : Type} (f : α → Int) (l : List α) : Nat := (l.takeWhile (fun q => decide (f q < 0))).length
/-- The list with an item in its place. -/
def keepF {α : Type} (f : α → Int) (l : List α) (x : α) : List α :=
  match l[posF f l]? with
  | some y => if f y = 0 then l.set (posF f l) x else l.take (posF f l) ++ [x] ++ l.drop (posF f l)
  | none => l.take (posF f l) ++ [x] ++ l.drop (posF f l)
theorem posF_eq {α : Type} {f : α → Int} : ∀ {l : List α} {k : Nat}, (∀ j y, j < k → l[j]? = some y → f y < 0) → k ≤ l.length → (∀ y, l[k]? = some y → ¬ f y < 0) → posF f l = k
  | [], k, _, hk, _ => by simp at hk; subst hk; rfl
  | a :: t, 0, _, _, hs => by
    have := hs a rfl
    simp [posF, List.takeWhile_cons, this]
  | a :: t, k + 1, h, hk, hs => by
    have h0 := h 0 a (Nat.succ_pos _) rfl
    have ih := posF_eq (f := f) (l := t) (k := k) (fun j y hj hy => h (j + 1) y (by omega) (by simpa using hy)) (by simpa using hk) (fun y hy => hs y (by simpa using hy))
    unfold posF at ih ⊢
    simp [List.takeWhile_cons, h0, ih]
theorem keepF_set {α : Type} {f : α → Int} {l : List α} {k : Nat} {x y : α} (h : posF f l = k) (hy : l[k]? = some y) (h0 : f y = 0) : keepF f l x = l.set k x := by
  unfold keepF; rw [h, hy]; simp [h0]
theorem keepF_ins {α : Type} {f : α → Int} {l : List α} {k : Nat} {x : α} (h : posF f l = k) (h0 : ∀ y, l[k]? = some y → ¬ f y = 0) : keepF f l x = l.take k ++ [x] ++ l.drop k := by
  unfold keepF; rw [h]
  cases hy : l[k]? with
  | none => rfl
  | some y => simp [h0 y hy]
theorem length_keepF {α : Type} (f : α → Int) (l : List α) (x : α) : (keepF f l x).length ≤ l.length + 1 := by
  unfold keepF
  split
  · split
    · simp
    · simp; omega
  · simp; omega
/-- What keep leaves. -/
def KeepPost (t : TypeId) (sz B : Nat) (v : Value) (n : Nat) (cs : List Value) (w : World) (e : Ending) (w' : World) : Prop :=
  ∃ A' c', e = .returned (.slice A' n c') ∧ w'.ownsRow B t sz (.slice A' n c') n cs ∧ w.grownBy w' v.ownBlock
theorem grown_setCell (w : World) (g o : Nat) (u : Value) : w.grownBy (w.setCell ⟨g, o, none⟩ u) (some g) :=
  ⟨rfl, rfl, rfl, by simp [World.setCell], fun k hk hne => Below.heap_setCell _ _ _ _ (fun e => hne (by rw [e]))⟩
theorem grown_below {w w' : World} {B : Nat} (h : Below B w w') (hB : w.heap.size ≤ B) (r : Option Nat) : w.grownBy w' r :=
  ⟨h.os, h.tape, h.output, h.size, fun k hk _ => h.block k (by omega)⟩
/-- A cell of an own row is set. -/
theorem own_cell {w : World} {B : Nat} {t : TypeId} {sz n g c : Nat} {xs : List Value} (h : w.ownsRow B t sz (.slice (some ⟨g, 0, none⟩) n c) n xs) (j : Nat) (hj : j < n * sz) (u : Value) :
    (w.setCell ⟨g, j, none⟩ u).ownsRow B t sz (.slice (some ⟨g, 0, none⟩) n c) n (xs.set j u) := by
  refine ⟨by rw [List.length_set]; exact h.1, ?_⟩
  rcases h.2 with ⟨he, _⟩ | ⟨g', cap, cur, he, hB, hg, hn, hm, hs, ht⟩
  · cases he
  · injection he with e1 _ e3
    injection e1 with e1
    injection e1 with e1 _ _
    subst e1; subst e3
    refine .inr ⟨g, c, cur.setIfInBounds j u, rfl, hB, Blk.set_ (w := w) hg j u, hn, hm, by simpa using hs, ?_⟩
    rw [Array.toList_setIfInBounds, ← ht]
    rw [List.take_set]
theorem own_some {w : World} {B : Nat} {t : TypeId} {sz n c : Nat} {A : Option Addr} {xs : List Value} (h : w.ownsRow B t sz (.slice A n c) n xs) (hn : 0 < n) : ∃ g, A = some ⟨g, 0, none⟩ ∧ B ≤ g ∧ g < w.heap.size := by
  rcases h.2 with ⟨_, h0⟩ | ⟨g, cap, cur, he, hB, hg, _⟩
  · omega
  · injection he with he _ _
    exact ⟨g, he, hB, (Array.getElem?_eq_some_iff.1 hg).1⟩
theorem own_at {w : World} {B : Nat} {t : TypeId} {sz n c g : Nat} {xs : List Value} (h : w.ownsRow B t sz (.slice (some ⟨g, 0, none⟩) n c) n xs) {j : Nat} {u : Value} (hj : xs[j]? = some u) : w.cell? ⟨g, j, none⟩ = some u ∧ w.frozen? ⟨g, j, none⟩ = false := by
  rcases h.2 with ⟨he, _⟩ | ⟨g', cap, cur, he, hB, hg, hn, hm, hs, ht⟩
  · cases he
  · injection he with e1 _ e3
    injection e1 with e1
    injection e1 with e1 _ _
    subst e1
    refine ⟨?_, Blk.frozen (w := w) hg j⟩
    rw [← ht, List.getElem?_take] at hj
    split at hj
    · exact blk_at hg rfl hj
    · cases hj
theorem cellsP_take (l : List Pd) : ∀ k, (cellsP l).take (k * 3) = cellsP (l.take k) := by
  induction l with
  | nil => intro k; simp [cellsP]
  | cons a t ih =>
    intro k
    cases k with
    | zero => simp [cellsP]
    | succ k => rw [cellsP_cons, show (k + 1) * 3 = k * 3 + 1 + 1 + 1 by omega]; simp only [List.take_succ_cons]; rw [ih k, cellsP_cons]
theorem cellsP_drop (l : List Pd) : ∀ k, (cellsP l).drop (k * 3) = cellsP (l.drop k) := by
  induction l with
  | nil => intro k; simp [cellsP]
  | cons a t ih =>
    intro k
    cases k with
    | zero => simp
    | succ k => rw [cellsP_cons, show (k + 1) * 3 = k * 3 + 1 + 1 + 1 by omega]; simp only [List.drop_succ_cons]; rw [ih k]
theorem cellsP_ins (l : List Pd) (k : Nat) (x : Pd) : (cellsP l).take (k * 3) ++ cellsP [x] ++ (cellsP l).drop (k * 3) = cellsP (l.take k ++ [x] ++ l.drop k) := by
  rw [cellsP_take, cellsP_drop, cellsP_append, cellsP_append]
theorem cellsP_set (x : Pd) : ∀ (l : List Pd) (k : Nat), k < l.length → (((cellsP l).set (k * 3) (.int .i64 x.1)).set (k * 3 + 1) (.int .i64 x.2.1)).set (k * 3 + 2) (.int .i64 x.2.2) = cellsP (l.set k x)
  | [], k, h => by simp at h
  | a :: t, 0, _ => by simp [cellsP_cons]
  | a :: t, k + 1, h => by
    have ih := cellsP_set x t k (by simpa using h)
    rw [List.set_cons_succ, cellsP_cons, cellsP_cons, ← ih, show (k + 1) * 3 = k * 3 + 1 + 1 + 1 by omega, show k * 3 + 1 + 1 + 1 + 1 = (k * 3 + 1) + 1 + 1 + 1 by omega, show k * 3 + 1 + 1 + 1 + 2 = (k * 3 + 2) + 1 + 1 + 1 by omega]
    simp only [List.set_cons_succ]

set_option maxRecDepth 100000 in
theorem Set1_any (q x : Pd) (p : Nat) (w : World) (h0 : w.cell? ⟨p, 0, none⟩ = some (.int .i64 x.1)) (h1 : w.cell? ⟨p, 1, none⟩ = some (.int .i64 x.2.1)) (h2 : w.cell? ⟨p, 2, none⟩ = some (.int .i64 x.2.2)) :
    Calls Tryd.prog 69 #[.agg #[.int .i64 q.1, .int .i64 q.2.1, .int .i64 q.2.2], .pointer (some ⟨p, 0, none⟩)] w fun e w' => e = .returned (.int .i64 (plI q x)) ∧ Below w.heap.size w w' := by
  have HC := Lib.hid (fun W => byPlace_any q x W)
  have hp : p < w.heap.size := World.block_lt_of_cell? w _ h0
  have hne : ¬ p = w.heap.size := by omega
  go_enter Tryd.func69, Tryd.ntmps69
  go_wp2_with fail
  refine (HC.out _).mono ?_
  rintro e w1 ⟨rfl, b⟩
  go_wp2_with fail
  go_ret
  exact ⟨rfl, btrans (bal (Below.refl _ _) _) b⟩
end Go.Proofs.YtbpkckahonmpkaaDoor
namespace Go.Proofs.YtbpkckahonmpkaaDoor
open Go.RowKit

set_option maxRecDepth 100000 in
set_option maxHeartbeats 4000000 in
theorem keepP_any (B : Nat) (A : Option Addr) (c p : Nat) (l : List Pd) (x : Pd) (w : World) (hown : w.ownsRow B 33 3 (.slice A l.length c) l.length (cellsP l)) (hB : B ≤ w.heap.size) (hl : l.length ≤ 1000)
    (hp0 : w.cell? ⟨p, 0, none⟩ = some (.int .i64 x.1)) (hp1 : w.cell? ⟨p, 1, none⟩ = some (.int .i64 x.2.1)) (hp2 : w.cell? ⟨p, 2, none⟩ = some (.int .i64 x.2.2)) :
    Calls Tryd.prog 68 #[.slice A l.length c, .agg #[.int .i64 x.1, .int .i64 x.2.1, .int .i64 x.2.2], .func (.func 69) #[] #[.pointer (some ⟨p, 0, none⟩)]] w (KeepPost 33 3 B (.slice A l.length c) (keepF (fun q => plI q x) l x).length (cellsP (keepF (fun q => plI q x) l x)) w) := by
  have hmf : ∀ (args : Array Value) (W : World), (callFunc 69 args).run Tryd.prog W = .ok (.enter 69 args) W := fun args W => by kernel_rfl
  have hpw : p < w.heap.size := World.block_lt_of_cell? w _ hp0
  have HO := Lib.hid (hown.alloc (.cells #[.int .i64 x.1, .int .i64 x.2.1, .int .i64 x.2.2] 33))
  have KX := Lib.hid (Blk.new w 33 #[.int .i64 x.1, .int .i64 x.2.1, .int .i64 x.2.2])
  obtain ⟨w0, hw0⟩ : ∃ w0, w0 = w.alloc (.cells #[.int .i64 x.1, .int .i64 x.2.1, .int .i64 x.2.2] 33) := ⟨_, rfl⟩
  have hz0 : w0.heap.size = w.heap.size + 1 := by rw [hw0]; simp
  have hcx := fun (W : World) (hb : Below w0.heap.size w0 W) => show W.cell? ⟨p, 0, none⟩ = some (.int .i64 x.1) ∧ W.cell? ⟨p, 1, none⟩ = some (.int .i64 x.2.1) ∧ W.cell? ⟨p, 2, none⟩ = some (.int .i64 x.2.2) from by
    have hal : ∀ j, w0.cell? ⟨p, j, none⟩ = w.cell? ⟨p, j, none⟩ := fun j => by rw [hw0]; exact World.cell?_alloc_past _ _ _ hpw
    refine ⟨?_, ?_, ?_⟩ <;> rw [hb.cell (by show p < _; omega), hal] <;> assumption
  have HC := Lib.hid (fun q W (hb : Below w0.heap.size w0 W) => Set1_any q x p W (hcx W hb).1 (hcx W hb).2.1 (hcx W hb).2.2)
  have G0 := Lib.hid (show w.grownBy w0 (Value.slice A l.length c).ownBlock by rw [hw0]; exact grown_alloc _ _ _)
  rw [← hw0] at HO KX
  have INS := Lib.hid (fun k (hk : k ≤ l.length) W (hb : Below w0.heap.size w0 W) => InsertP_any B A l.length c k W.heap.size (cellsP l) (cellsP [x]) (W.alloc (.cells #[.int .i64 x.1, .int .i64 x.2.1, .int .i64 x.2.2] 33)) ((own_below HO.out hb).alloc _) (by rw [World.size_alloc]; have := hb.size; omega) (by omega) hk rfl (Blk.new W 33 #[.int .i64 x.1, .int .i64 x.2.1, .int .i64 x.2.2]) (cellsP_one _) (cellsP_one _) (fun e => by have := (HO.out.lt _ e).2; have := hb.size; omega))
  have FIN := Lib.hid (fun (k : Nat) (hk : k ≤ l.length) (hpos : posF (fun q => plI q x) l = k) (h0 : ∀ y, l[k]? = some y → ¬ plI y x = 0) (W : World) (hb : Below w0.heap.size w0 W) (e : Ending) (w' : World) (h : InsPost 33 3 B (.slice A l.length c) l.length ((cellsP l).take (k * 3) ++ cellsP [x] ++ (cellsP l).drop (k * 3)) (W.alloc (.cells #[.int .i64 x.1, .int .i64 x.2.1, .int .i64 x.2.2] 33)) e w') => show KeepPost 33 3 B (.slice A l.length c) (keepF (fun q => plI q x) l x).length (cellsP (keepF (fun q => plI q x) l x)) w e w' from by
    obtain ⟨A', c', he, ho, hg⟩ := h
    rw [keepF_ins hpos h0]
    rw [cellsP_ins] at ho
    have hlen : (l.take k ++ [x] ++ l.drop k).length = l.length + 1 := by simp; omega
    rw [hlen]
    exact ⟨A', c', he, ho, grown_tr G0.out (grown_tr (grown_below hb (Nat.le_refl _) _) (grown_tr (grown_alloc _ _ _) hg))⟩)
  have HZ0 := Lib.hid hz0
  have HW0 := Lib.hid hw0
  have hxl := KX.out.lt
  clear hown hp0 hp1 hp2 hcx hz0 hw0 hxl hpw
  go_enter Tryd.func68, Tryd.ntmps68
  go_wp2_with fail
  rw [← HW0.out]
  go_loopw [7] (fun y wr => ∃ k : Nat, k ≤ l.length ∧ y = .int .i64 k ∧ Below w0.heap.size w0 wr ∧ ∀ j z, j < k → l[j]? = some z → plI z x < 0) (fun y _ => l.length - (intOf y).toNat)
  case atStart => exact ⟨0, Nat.zero_le _, rfl, Below.refl _ _, fun j z h => by omega⟩
  case round =>
    obtain ⟨k, hk, rfl, hbel, hlo⟩ := hrel
    have HLO := Lib.hid hlo
    have HB := Lib.hid hbel
    have KR := Lib.hid (KX.out.below hbel KX.out.lt)
    clear hlo hbel
    by_cases hlt : k < l.length
    · have d1 : decide ((k : Int) < (l.length : Int)) = true := by simp; omega
      obtain ⟨z, hz⟩ : ∃ z, l[k]? = some z := ⟨_, List.getElem?_eq_getElem hlt⟩
      obtain ⟨g, rfl, hBg, hgl⟩ := own_some HO.out (by omega)
      have cells := fun (W : World) (hb : Below w0.heap.size w0 W) (j : Nat) (u : Value) (hj : (cellsP l)[j]? = some u) => own_at (own_below HO.out hb) hj
      obtain ⟨p0, p1, p2⟩ := cellsP_at l k z hz
      have q0 := (cells _ HB.out _ _ p0).1
      have q1 := (cells _ HB.out _ _ p1).1
      have q2 := (cells _ HB.out _ _ p2).1
      have CE := Lib.hid (fun W hb => And.intro (cells W hb _ _ p0) (And.intro (cells W hb _ _ p1) (cells W hb _ _ p2)))
      have i1 : (0 : Int) ≤ (k : Int) := by omega
      have i2 : (k : Int) < (l.length : Int) := by omega
      have HZ := Lib.hid hz
      clear hz p0 p1 p2 cells
      by_cases hneg : plI z x < 0
      · have d2 : decide (plI z x < 0) = true := by simpa using hneg
        have HN := Lib.hid hneg
        clear hneg
        go_wp2_with fail
        refine (HC.out z _ HB.out).mono ?_
        rintro e w1 ⟨rfl, b1⟩
        have B1 := Lib.hid (HB.out.trans (b1.mono HB.out.size))
        clear b1
        go_wp2_with fail
        go_roundw
        case rel =>
          refine ⟨k + 1, by omega, by go_num, B1.out, fun j y hj hy => ?_⟩
          by_cases hjk : j = k
          · subst hjk
            rw [HZ.out] at hy
            injection hy with hy
            subst hy
            exact HN.out
          · exact HLO.out j y (by omega) hy
        case measure => simp [intOf]; omega
      · have hpos : posF (fun q => plI q x) l = k := posF_eq HLO.out hk (fun y hy => by rw [HZ.out] at hy; injection hy with hy; subst hy; exact hneg)
        have HPOS := Lib.hid hpos
        have d2 : decide (plI z x < 0) = false := by simpa using hneg
        clear hneg hpos
        by_cases h0 : plI z x = 0
        · have d3 : (plI z x == 0) = true := by simpa using h0
          have H0 := Lib.hid h0
          clear h0
          go_wp2_with fail
          refine (HC.out z _ HB.out).mono ?_
          rintro e w1 ⟨rfl, b1⟩
          have B1 := Lib.hid (HB.out.trans (b1.mono HB.out.size))
          clear b1
          obtain ⟨⟨r0, _⟩, ⟨r1, _⟩, r2, _⟩ := CE.out _ B1.out
          clear q0 q1 q2
          go_wp2_with fail
          refine (HC.out z _ B1.out).mono ?_
          rintro e w2 ⟨rfl, b2⟩
          have B2 := Lib.hid (B1.out.trans (b2.mono B1.out.size))
          clear b2
          obtain ⟨⟨q0, f0⟩, ⟨q1, f1⟩, q2, f2⟩ := CE.out _ B2.out
          have k2 := KX.out.below B2.out KX.out.lt
          have x0 := k2.cell 0
          have x1 := k2.cell 1
          have x2 := k2.cell 2
          clear r0 r1 r2 k2
          go_wp2_with fail
          go_ret
          rw [keepF_set HPOS.out HZ.out H0.out]
          refine ⟨some ⟨g, 0, none⟩, c, by rw [List.length_set]; rfl, ?_, grown_tr G0.out (grown_tr (grown_below B2.out (Nat.le_refl _) _) (grown_tr (grown_setCell _ _ _ _) (grown_tr (grown_setCell _ _ _ _) (grown_setCell _ _ _ _))))⟩
          rw [List.length_set, ← cellsP_set x l k hlt]
          exact own_cell (own_cell (own_cell (own_below HO.out B2.out) (k * 3) (by omega) _) (k * 3 + 1) (by omega) _) (k * 3 + 2) (by omega) _
        · have d3 : (plI z x == 0) = false := by simpa using h0
          have H0 := Lib.hid h0
          clear h0
          go_wp2_with fail
          refine (HC.out z _ HB.out).mono ?_
          rintro e w1 ⟨rfl, b1⟩
          have B1 := Lib.hid (HB.out.trans (b1.mono HB.out.size))
          clear b1
          obtain ⟨⟨r0, _⟩, ⟨r1, _⟩, r2, _⟩ := CE.out _ B1.out
          clear q0 q1 q2
          go_wp2_with fail
          refine (HC.out z _ B1.out).mono ?_
          rintro e w2 ⟨rfl, b2⟩
          have B2 := Lib.hid (B1.out.trans (b2.mono B1.out.size))
          clear b2 r0 r1 r2
          have k2 := KX.out.below B2.out KX.out.lt
          have x0 := k2.cell 0
          have x1 := k2.cell 1
          have x2 := k2.cell 2
          clear k2
          go_wp2_with fail
          refine (INS.out k hk _ B2.out).mono fun e w' h => ?_
          have F := FIN.out k hk HPOS.out (fun y hy => by rw [HZ.out] at hy; injection hy with hy; subst hy; exact H0.out) _ B2.out e w' h
          obtain ⟨A', c', rfl, hh⟩ := F
          have HH := Lib.hid hh
          clear h hh x0 x1 x2
          go_wp2_with fail
          go_ret
          exact ⟨A', c', rfl, HH.out⟩
    · obtain rfl : k = l.length := by omega
      have d1 : decide ((l.length : Int) < (l.length : Int)) = false := by simp
      have HPOS := Lib.hid (show posF (fun q => plI q x) l = l.length from posF_eq HLO.out (Nat.le_refl _) (fun y hy => by simp at hy))
      have k2 := KX.out.below HB.out KX.out.lt
      have x0 := k2.cell 0
      have x1 := k2.cell 1
      have x2 := k2.cell 2
      clear k2
      go_wp2_with fail
      refine (INS.out l.length (Nat.le_refl _) _ HB.out).mono fun e w' h => ?_
      have F := FIN.out l.length (Nat.le_refl _) HPOS.out (fun y hy => by simp at hy) _ HB.out e w' h
      obtain ⟨A', c', rfl, hh⟩ := F
      have HH := Lib.hid hh
      clear h hh x0 x1 x2
      go_wp2_with fail
      go_ret
      exact ⟨A', c', rfl, HH.out⟩
end Go.Proofs.YtbpkckahonmpkaaDoor
namespace Go.Proofs.YtbpkckahonmpkaaDoor
open Go.RowKit

/-- All orders that a region's edges allow. -/
def ordersAll (md : Region.Mode) (ops : Array Oper) : Nat → Array Bool → List (List Nat)
  | 0, _ => [[]]
  | fuel + 1, listed =>
    match Region.ready md ops listed with
    | [] => [[]]
    | r :: rs => (r :: rs).flatMap fun i => (ordersAll md ops fuel (listed.setIfInBounds i true)).map (i :: ·)
theorem order_mem (md : Region.Mode) (ops : Array Oper) : ∀ (fuel t : Nat) (listed : Array Bool), Region.linearise.go md ops fuel t listed [] ∈ ordersAll md ops fuel listed := by
  intro fuel
  induction fuel with
  | zero => intro t listed; simp [Region.linearise.go, ordersAll]
  | succ fuel ih =>
    intro t listed
    simp only [Region.linearise.go, ordersAll]
    change (match (Region.ready md ops listed)[t % (Region.ready md ops listed).length]? with
      | some i => Region.linearise.go md ops fuel (t / (Region.ready md ops listed).length) (listed.setIfInBounds i true) [i]
      | none => [].reverse) ∈ _
    cases hr : Region.ready md ops listed with
    | nil => simp
    | cons x xs =>
      have hlt : t % (x :: xs).length < (x :: xs).length := Nat.mod_lt _ (by simp)
      rw [List.getElem?_eq_getElem hlt]
      simp only
      rw [linearise_go_acc, List.reverse_singleton, List.singleton_append]
      exact List.mem_flatMap.2 ⟨_, List.getElem_mem hlt, List.mem_map.2 ⟨_, ih _ _, rfl⟩⟩
theorem wpOps_pick {P : Program} {Q : Exit → Act → World → Prop} (l : List Oper) : ∀ (o : List Nat) (a : Act) (w : World), wpList P l.toArray Q (o.filterMap (l[·]?)) a w → wpOps P l.toArray Q o a w
  | [], _, _, h => h
  | i :: o, a, w, h => by
    rw [wpOps_cons]
    unfold wpOp
    rw [List.getElem?_toArray]
    cases hi : l[i]? with
    | none =>
      rw [List.filterMap_cons_none hi] at h
      exact wpOps_pick l o a w h
    | some x =>
      rw [List.filterMap_cons_some hi] at h
      simp only
      unfold wpList at h
      split
      · rename_i hw
        rw [if_pos hw] at h
        exact h.imp (Oper.wp_mono (fun a w => wpOps_pick l o a w)) id
      · rename_i hw
        rw [if_neg hw] at h
        exact wpOps_pick l o _ _ h
theorem wp_region_orders {P : Program} {id : Nat} {Q : Exit → Act → World → Prop} {a : Act} {w : World} {l : List Oper} (os : List (List Nat)) (hm : P.follows .mixedOrders = true)
    (ho : ordersAll .any l.toArray l.length (Array.replicate l.length false) = os) (h : ∀ o ∈ os, wpList P l.toArray Q (o.filterMap (l[·]?)) a w.drew) : (Code.region id l.toArray true).wp P Q a w :=
  wp_region_draw fun t => by
    simp only [Region.schedule, hm, Bool.true_or, if_true]
    have := order_mem .any l.toArray l.toArray.size t (Array.replicate l.toArray.size false)
    rw [show l.toArray.size = l.length from by simp] at this
    rw [ho] at this
    have h2 := wpOps_pick l _ a w.drew (h _ this)
    rw [show l.length = l.toArray.size from by simp] at h2
    exact h2

/-- What follows a part of a region. -/
def joinQ (Q : Exit → Act → World → Prop) (R : Act → World → Prop) : Exit → Act → World → Prop
  | .normal, a, w => R a w
  | e, a, w => Q e a w
theorem Oper.wp_join {P : Program} {Q : Exit → Act → World → Prop} {R : Act → World → Prop} {o : Oper} {a : Act} {w : World} {K : Act → World → Prop} (h : o.wp P a w K (joinQ Q R)) : o.wp P a w K Q := by
  unfold Oper.wp at *
  generalize (execOp a.eval o).run P w = r at *
  cases r with
  | ok n w' =>
    cases n <;> simp only [Oper.upon] at h ⊢ <;>
      first
        | exact h
        | exact Calls.mono h (fun e w'' he => by cases e <;> exact he)
        | exact Rows.mono h (fun _ _ he => he)
  | halt x w' => cases x <;> simp only [Oper.upon] at h ⊢ <;> exact h
theorem wpList_join {P : Program} {ops : Array Oper} {Q : Exit → Act → World → Prop} {R : Act → World → Prop} (rest : List Oper) (hR : ∀ a w, R a w → wpList P ops Q rest a w) :
    ∀ (pre : List Oper) (a : Act) (w : World), wpList P ops (joinQ Q R) pre a w → wpList P ops Q (pre ++ rest) a w
  | [], a, w, h => hR a w h
  | o :: pre, a, w, h => by
    rw [List.cons_append]
    unfold wpList at h ⊢
    split
    · rename_i hw
      rw [if_pos hw] at h
      rcases h with h | h
      · exact .inl (Oper.wp_mono (fun a w => wpList_join rest hR pre a w) (Oper.wp_join h))
      · exact .inr h
    · rename_i hw
      rw [if_neg hw] at h
      exact wpList_join rest hR pre _ _ h
/-- A region that draws: its first operations in all their orders lead to one frame; what follows is walked once. -/
theorem wp_region_join {P : Program} {id : Nat} {Q : Exit → Act → World → Prop} {a : Act} {w : World} {l : List Oper} (pre : List (List Nat)) (rest : List Nat) (F : World → Prop) (a3 : Act) (hm : P.follows .mixedOrders = true)
    (ho : ordersAll .any l.toArray l.length (Array.replicate l.length false) = pre.map (· ++ rest))
    (h1 : ∀ o ∈ pre, wpList P l.toArray (joinQ Q fun a' w' => a' = a3 ∧ F w') (o.filterMap (l[·]?)) a w.drew)
    (h2 : ∀ w', F w' → wpList P l.toArray Q (rest.filterMap (l[·]?)) a3 w') : (Code.region id l.toArray true).wp P Q a w :=
  wp_region_orders _ hm ho fun o hm' => by
    obtain ⟨p, hp, rfl⟩ := List.mem_map.1 hm'
    rw [List.filterMap_append]
    exact wpList_join _ (fun a' w' ⟨ha, hw⟩ => by subst ha; exact h2 w' hw) _ _ _ (h1 p hp)
end Go.Proofs.YtbpkckahonmpkaaDoor
