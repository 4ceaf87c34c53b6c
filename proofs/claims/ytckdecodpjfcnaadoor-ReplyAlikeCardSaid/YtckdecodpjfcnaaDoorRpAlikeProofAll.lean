/-
  The card of ReplyAlike is proved: for every input the call returns true, and each argument reads as before. No condition but the row's own list, which the card ties to the program's text.
  Layer 9: what is alike, plainly; a reply whose offsets are moved.
  The statement ReplyAlike: its walk.
-/
import Derived.Test.YtckdecodpjfcnaaDoorGrp16
import Derived.Test.YtckdecodpjfcnaaDoorGrp22
import Derived.Test.YtckdecodpjfcnaaDoorGrp05
import Derived.Deep.Cut
import Derived.Deep.CutRange
import Derived.Deep.DeepCutAuto
import Derived.Test.YtckdecodpjfcnaaDoorGrp23
set_option linter.unusedVariables false
set_option linter.unusedSimpArgs false
namespace Go.Proofs.YtckdecodpjfcnaaDoor
open Go.RowKit

theorem alikeW_iff (a b : Rw) : alikeW a b = true ↔ (a.1 = -1 ↔ b.1 = -1) ∧ a.2 = b.2 := by
  unfold alikeW
  rw [Bool.and_eq_true, decide_eq_true_eq, beq_iff_eq, Bool.eq_iff_iff, beq_iff_eq, beq_iff_eq]
theorem alikeW_refl (a : Rw) : alikeW a a = true := (alikeW_iff a a).2 ⟨Iff.rfl, rfl⟩
theorem alikeW_symm (a b : Rw) : alikeW a b = alikeW b a := by
  rw [Bool.eq_iff_iff, alikeW_iff, alikeW_iff]
  exact ⟨fun h => ⟨h.1.symm, h.2.symm⟩, fun h => ⟨h.1.symm, h.2.symm⟩⟩
theorem alikeW_trans {a b c : Rw} (h : alikeW a b = true) (k : alikeW b c = true) : alikeW a c = true := by
  rw [alikeW_iff] at *
  exact ⟨h.1.trans k.1, h.2.trans k.2⟩
theorem alikeL_refl : ∀ l : List Rw, alikeL l l = true
  | [] => rfl
  | a :: l => by rw [alikeL, alikeW_refl, alikeL_refl l]; rfl
theorem alikeL_symm : ∀ l m : List Rw, alikeL l m = alikeL m l
  | [], [] => rfl
  | a :: l, b :: m => by rw [alikeL, alikeL, alikeW_symm, alikeL_symm l m]
  | [], _ :: _ => rfl
  | _ :: _, [] => rfl
theorem alikeL_trans : ∀ {l m n : List Rw}, alikeL l m = true → alikeL m n = true → alikeL l n = true
  | [], [], [], _, _ => rfl
  | a :: l, b :: m, c :: n, h, k => by
    rw [alikeL, Bool.and_eq_true] at *
    exact ⟨alikeW_trans h.1 k.1, alikeL_trans h.2 k.2⟩
  | [], _ :: _, _, h, _ => by cases h
  | _ :: _, [], _, h, _ => by cases h
  | _, [], _ :: _, _, k => by cases k
  | _, _ :: _, [], _, k => by cases k

theorem alikeRp_iff (a b : Rp) : alikeRp a b = true ↔ a.kd = b.kd ∧ a.er = b.er ∧ a.pid = b.pid ∧ a.ep = b.ep ∧ (a.off = -1 ↔ b.off = -1) ∧ alikeL a.rows b.rows = true := by
  unfold alikeRp
  rw [Bool.and_eq_true, Bool.and_eq_true, Bool.and_eq_true, Bool.and_eq_true, Bool.and_eq_true, beq_iff_eq, beq_iff_eq, beq_iff_eq, beq_iff_eq, beq_iff_eq, Bool.eq_iff_iff, beq_iff_eq, beq_iff_eq]
theorem alikeRp_refl (a : Rp) : alikeRp a a = true := (alikeRp_iff a a).2 ⟨rfl, rfl, rfl, rfl, Iff.rfl, alikeL_refl _⟩
theorem alikeRp_symm (a b : Rp) : alikeRp a b = alikeRp b a := by
  rw [Bool.eq_iff_iff, alikeRp_iff, alikeRp_iff, alikeL_symm a.rows b.rows]
  exact ⟨fun ⟨h1, h2, h3, h4, h5, h6⟩ => ⟨h1.symm, h2.symm, h3.symm, h4.symm, h5.symm, h6⟩, fun ⟨h1, h2, h3, h4, h5, h6⟩ => ⟨h1.symm, h2.symm, h3.symm, h4.symm, h5.symm, h6⟩⟩
theorem alikeRp_trans {a b c : Rp} (h : alikeRp a b = true) (k : alikeRp b c = true) : alikeRp a c = true := by
  rw [alikeRp_iff] at *
  obtain ⟨h1, h2, h3, h4, h5, h6⟩ := h
  obtain ⟨k1, k2, k3, k4, k5, k6⟩ := k
  exact ⟨h1.trans k1, h2.trans k2, h3.trans k3, h4.trans k4, h5.trans k5, alikeL_trans h6 k6⟩
theorem alikeRp_same {a b : Rp} (h : sameRp a b = true) : alikeRp a b = true := by
  obtain rfl := (sameRp_iff a b).1 h
  exact alikeRp_refl a

/-- An offset that is told, moved. -/
def mvO (d x : Int) : Int := if 0 ≤ x then x + d else x
def mvW (d : Int) (r : Rw) : Rw := (mvO d r.1, r.2)
def mvRp (d : Int) (q : Rp) : Rp := { q with off := mvO d q.off, rows := q.rows.map (mvW d) }
theorem mvO_m1 {d x : Int} (hd : 0 ≤ d) : (x = -1 ↔ mvO d x = -1) := by
  unfold mvO
  split <;> omega
theorem alikeL_mv {d : Int} (hd : 0 ≤ d) : ∀ l : List Rw, alikeL l (l.map (mvW d)) = true
  | [] => rfl
  | a :: l => by
    rw [List.map_cons, alikeL, alikeL_mv hd l, Bool.and_true]
    exact (alikeW_iff _ _).2 ⟨mvO_m1 hd, rfl⟩
theorem alikeRp_mv {d : Int} (hd : 0 ≤ d) (q : Rp) : alikeRp q (mvRp d q) = true :=
  (alikeRp_iff _ _).2 ⟨rfl, rfl, rfl, rfl, mvO_m1 hd, alikeL_mv hd q.rows⟩
/-- What may be has no great offsets. -/
theorem may_off {q : Rp} (h : mayB q = true) : (-1 ≤ q.off ∧ q.off ≤ 1048576) ∧ q.rows.length ≤ 64 ∧ ∀ r ∈ q.rows, -1 ≤ r.1 ∧ r.1 ≤ 1048576 := by
  have hv : (cB q.er q.kd).v (q.pid, q.ep, q.off, q.rows) := ((mayB_iff q).1 h).2.2.2
  have hnil : q.rows.length = 0 → ∀ r ∈ q.rows, -1 ≤ r.1 ∧ r.1 ≤ 1048576 := fun h0 r hr => by
    rw [List.length_eq_zero_iff.1 h0] at hr
    cases hr
  unfold cB at hv
  split at hv
  · rw [cB_v0] at hv
    obtain ⟨_, _, h3, h4⟩ := hv
    simp only at h3 h4
    exact ⟨by omega, by omega, hnil h4⟩
  split at hv
  · rw [cB_vp] at hv
    obtain ⟨_, _, h3, h4⟩ := hv
    simp only at h3 h4
    exact ⟨by omega, by omega, hnil h4⟩
  split at hv
  · rw [cB_vpe] at hv
    obtain ⟨_, _, h3, h4⟩ := hv
    simp only at h3 h4
    exact ⟨by omega, by omega, hnil h4⟩
  split at hv
  · rw [cB_vf] at hv
    obtain ⟨_, _, h3, h4, h5⟩ := hv
    simp only at h3 h4 h5
    refine ⟨by omega, h4, fun r hr => ?_⟩
    have := List.all_eq_true.1 h5 r hr
    unfold vis at this
    simp only [Bool.and_eq_true, decide_eq_true_eq] at this
    omega
  split at hv
  · rw [cB_vo] at hv
    obtain ⟨_, _, h3, h4⟩ := hv
    simp only at h3 h4
    exact ⟨by omega, by omega, hnil h4⟩
  · rw [cB_v0] at hv
    obtain ⟨_, _, h3, h4⟩ := hv
    simp only at h3 h4
    exact ⟨by omega, by omega, hnil h4⟩
end Go.Proofs.YtckdecodpjfcnaaDoor
namespace Go.Proofs.YtckdecodpjfcnaaDoor
open Go.RowKit

theorem own_addrN {w : World} {base : Nat} {e : TypeId} {size : Nat} {v : Value} {n : Nat} {xs : List Value} (h : w.ownsRow base e size v n xs) (hn : 0 < n) (hs : 0 < size) : ∃ g cap, v = .slice (some ⟨g, 0, none⟩) n cap ∧ base ≤ g ∧ n ≤ cap := by
  rcases h.2 with ⟨rfl, h0⟩ | ⟨g, cap, cur, hv, hg, _, hnc, _⟩
  · have h1 := h.1
    rw [h0] at h1
    have := Nat.mul_pos hn hs
    simp at h1
    omega
  · exact ⟨g, cap, hv, hg, hnc⟩
/-- The first k rows moved. -/
def rowsK (d : Int) : List Rw → Nat → List Rw
  | [], _ => []
  | l, 0 => l
  | r :: l, k + 1 => mvW d r :: rowsK d l k
theorem rowsK_zero (d : Int) (l : List Rw) : rowsK d l 0 = l := by cases l <;> rfl
theorem rowsK_all (d : Int) : ∀ l : List Rw, rowsK d l l.length = l.map (mvW d)
  | [] => rfl
  | r :: l => by rw [List.length_cons, rowsK, rowsK_all d l, List.map_cons]
theorem rowsK_at (d : Int) : ∀ (l : List Rw) (k : Nat) (r : Rw), l[k]? = some r → (rowsK d l k)[k]? = some r
  | [], k, r, h => by simp at h
  | x :: l, 0, r, h => h
  | x :: l, k + 1, r, h => by
    rw [rowsK]
    have := rowsK_at d l k r (by simpa using h)
    simpa using this
theorem rowsK_set (d : Int) : ∀ (l : List Rw) (k : Nat) (r : Rw), l[k]? = some r → (rowsK d l k).set k (mvW d r) = rowsK d l (k + 1)
  | [], k, r, h => by simp at h
  | x :: l, 0, r, h => by
    simp at h
    subst h
    show mvW d x :: l = mvW d x :: rowsK d l 0
    rw [rowsK_zero]
  | x :: l, k + 1, r, h => by
    rw [rowsK, rowsK, List.set_cons_succ, rowsK_set d l k r (by simpa using h)]
theorem rowsK_same (d : Int) (l : List Rw) (k : Nat) (r : Rw) (h : l[k]? = some r) (hr : mvW d r = r) : rowsK d l (k + 1) = rowsK d l k := by
  have h1 := rowsK_set d l k r h
  rw [hr] at h1
  rw [← h1]
  obtain ⟨h2, h3⟩ := List.getElem?_eq_some_iff.1 (rowsK_at d l k r h)
  rw [← h3]
  exact List.set_getElem_self h2
theorem cellsW_set : ∀ (l : List Rw) (k : Nat) (r : Rw) (x : Int), l[k]? = some r → (cellsW l).set (k * 5) (.int .i64 x) = cellsW (l.set k (x, r.2))
  | [], k, r, x, h => by simp at h
  | q :: l, 0, r, x, h => by
    simp at h
    subst h
    rw [List.set_cons_zero, cellsW_cons, cellsW_cons]
    rfl
  | q :: l, k + 1, r, x, h => by
    rw [List.set_cons_succ, cellsW_cons, cellsW_cons, show (k + 1) * 5 = k * 5 + 1 + 1 + 1 + 1 + 1 by omega, List.set_cons_succ, List.set_cons_succ, List.set_cons_succ, List.set_cons_succ, List.set_cons_succ, cellsW_set l k r x (by simpa using h)]
set_option maxRecDepth 100000 in
set_option maxHeartbeats 16000000 in
theorem ralike_great1 (a b c : Rp) (d : Int) (A1 A2 A3 : Option Addr) (c1 c2 c3 : Nat) (w : World) (hg : HasET w) (ha : Reads w w.heap.size 5 A1 a.rows.length (cellsW a.rows)) (hb : Reads w w.heap.size 5 A2 b.rows.length (cellsW b.rows)) (hc : Reads w w.heap.size 5 A3 c.rows.length (cellsW c.rows)) (h1 : greatRp a = true) :
    Calls Tryd.prog 4 #[(.agg #[.int .i8 a.kd, .int .i64 a.er, .int .i64 a.pid, .int .i64 a.ep, .int .i64 a.off, .slice A1 a.rows.length c1]), (.agg #[.int .i8 b.kd, .int .i64 b.er, .int .i64 b.pid, .int .i64 b.ep, .int .i64 b.off, .slice A2 b.rows.length c2]), (.agg #[.int .i8 c.kd, .int .i64 c.er, .int .i64 c.pid, .int .i64 c.ep, .int .i64 c.off, .slice A3 c.rows.length c3]), .int .i64 d] w fun e w' => e = .returned (.bool true) ∧ Below w.heap.size w w' := by
  have HB := Lib.hid (bal (bal (bal (Below.refl w.heap.size w) (.cells #[.int .i8 a.kd, .int .i64 a.er, .int .i64 a.pid, .int .i64 a.ep, .int .i64 a.off, .slice A1 a.rows.length c1] 26)) (.cells #[.int .i8 b.kd, .int .i64 b.er, .int .i64 b.pid, .int .i64 b.ep, .int .i64 b.off, .slice A2 b.rows.length c2] 26)) (.cells #[.int .i8 c.kd, .int .i64 c.er, .int .i64 c.pid, .int .i64 c.ep, .int .i64 c.off, .slice A3 c.rows.length c3] 26))
  have KA0 := Lib.hid (((Blk.new w 26 #[.int .i8 a.kd, .int .i64 a.er, .int .i64 a.pid, .int .i64 a.ep, .int .i64 a.off, .slice A1 a.rows.length c1]).alloc (.cells #[.int .i8 b.kd, .int .i64 b.er, .int .i64 b.pid, .int .i64 b.ep, .int .i64 b.off, .slice A2 b.rows.length c2] 26)).alloc (.cells #[.int .i8 c.kd, .int .i64 c.er, .int .i64 c.pid, .int .i64 c.ep, .int .i64 c.off, .slice A3 c.rows.length c3] 26))
  have KB0 := Lib.hid ((blk_new (w.alloc (.cells #[.int .i8 a.kd, .int .i64 a.er, .int .i64 a.pid, .int .i64 a.ep, .int .i64 a.off, .slice A1 a.rows.length c1] 26)) 26 #[.int .i8 b.kd, .int .i64 b.er, .int .i64 b.pid, .int .i64 b.ep, .int .i64 b.off, .slice A2 b.rows.length c2] (g := w.heap.size + 1) (by simp)).alloc (.cells #[.int .i8 c.kd, .int .i64 c.er, .int .i64 c.pid, .int .i64 c.ep, .int .i64 c.off, .slice A3 c.rows.length c3] 26))
  have KC0 := Lib.hid (blk_new ((w.alloc (.cells #[.int .i8 a.kd, .int .i64 a.er, .int .i64 a.pid, .int .i64 a.ep, .int .i64 a.off, .slice A1 a.rows.length c1] 26)).alloc (.cells #[.int .i8 b.kd, .int .i64 b.er, .int .i64 b.pid, .int .i64 b.ep, .int .i64 b.off, .slice A2 b.rows.length c2] 26)) 26 #[.int .i8 c.kd, .int .i64 c.er, .int .i64 c.pid, .int .i64 c.ep, .int .i64 c.off, .slice A3 c.rows.length c3] (g := w.heap.size + 1 + 1) (by simp))
  have G1 := Lib.hid (fun W (h : Below w.heap.size w W) => RpGreat_any a A1 c1 W ((ha.below h).more h.size))
  have G2 := Lib.hid (fun W (h : Below w.heap.size w W) => RpGreat_any b A2 c2 W ((hb.below h).more h.size))
  have G3 := Lib.hid (fun W (h : Below w.heap.size w W) => RpGreat_any c A3 c3 W ((hc.below h).more h.size))
  have WK := Lib.hid (fun W (h : Below w.heap.size w W) => wakes09 W (hg.up h))
  rw [h1] at G1
  clear ha hb hc hg
  go_enter Tryd.func4, Tryd.ntmps4
  go_wp2_with fail
  refine (G1.out _ HB.out).mono ?_
  rintro e w1 ⟨rfl, b1⟩
  have KA1 := Lib.hid (KA0.out.below b1 KA0.out.lt)
  have KB1 := Lib.hid (KB0.out.below b1 KB0.out.lt)
  have KC1 := Lib.hid (KC0.out.below b1 KC0.out.lt)
  have HB1 := Lib.hid (btrans HB.out b1)
  clear KA0 KB0 KC0 HB b1
  have KA0 := Lib.hid KA1.out
  have KB0 := Lib.hid KB1.out
  have KC0 := Lib.hid KC1.out
  have HB := Lib.hid HB1.out
  clear KA1 KB1 KC1 HB1
  have x0 := KB0.out.cell 0
  have x1 := KB0.out.cell 1
  have x2 := KB0.out.cell 2
  have x3 := KB0.out.cell 3
  have x4 := KB0.out.cell 4
  have x5 := KB0.out.cell 5
  go_wp2_with fail
  refine (WK.out _ HB.out).mono ?_
  rintro e wz ⟨rfl, bz⟩
  go_wp2_with fail
  go_ret
  exact ⟨rfl, btrans HB.out bz⟩
set_option maxRecDepth 100000 in
set_option maxHeartbeats 16000000 in
theorem ralike_great2 (a b c : Rp) (d : Int) (A1 A2 A3 : Option Addr) (c1 c2 c3 : Nat) (w : World) (hg : HasET w) (ha : Reads w w.heap.size 5 A1 a.rows.length (cellsW a.rows)) (hb : Reads w w.heap.size 5 A2 b.rows.length (cellsW b.rows)) (hc : Reads w w.heap.size 5 A3 c.rows.length (cellsW c.rows)) (h1 : greatRp a = false) (h2 : greatRp b = true) :
    Calls Tryd.prog 4 #[(.agg #[.int .i8 a.kd, .int .i64 a.er, .int .i64 a.pid, .int .i64 a.ep, .int .i64 a.off, .slice A1 a.rows.length c1]), (.agg #[.int .i8 b.kd, .int .i64 b.er, .int .i64 b.pid, .int .i64 b.ep, .int .i64 b.off, .slice A2 b.rows.length c2]), (.agg #[.int .i8 c.kd, .int .i64 c.er, .int .i64 c.pid, .int .i64 c.ep, .int .i64 c.off, .slice A3 c.rows.length c3]), .int .i64 d] w fun e w' => e = .returned (.bool true) ∧ Below w.heap.size w w' := by
  have HB := Lib.hid (bal (bal (bal (Below.refl w.heap.size w) (.cells #[.int .i8 a.kd, .int .i64 a.er, .int .i64 a.pid, .int .i64 a.ep, .int .i64 a.off, .slice A1 a.rows.length c1] 26)) (.cells #[.int .i8 b.kd, .int .i64 b.er, .int .i64 b.pid, .int .i64 b.ep, .int .i64 b.off, .slice A2 b.rows.length c2] 26)) (.cells #[.int .i8 c.kd, .int .i64 c.er, .int .i64 c.pid, .int .i64 c.ep, .int .i64 c.off, .slice A3 c.rows.length c3] 26))
  have KA0 := Lib.hid (((Blk.new w 26 #[.int .i8 a.kd, .int .i64 a.er, .int .i64 a.pid, .int .i64 a.ep, .int .i64 a.off, .slice A1 a.rows.length c1]).alloc (.cells #[.int .i8 b.kd, .int .i64 b.er, .int .i64 b.pid, .int .i64 b.ep, .int .i64 b.off, .slice A2 b.rows.length c2] 26)).alloc (.cells #[.int .i8 c.kd, .int .i64 c.er, .int .i64 c.pid, .int .i64 c.ep, .int .i64 c.off, .slice A3 c.rows.length c3] 26))
  have KB0 := Lib.hid ((blk_new (w.alloc (.cells #[.int .i8 a.kd, .int .i64 a.er, .int .i64 a.pid, .int .i64 a.ep, .int .i64 a.off, .slice A1 a.rows.length c1] 26)) 26 #[.int .i8 b.kd, .int .i64 b.er, .int .i64 b.pid, .int .i64 b.ep, .int .i64 b.off, .slice A2 b.rows.length c2] (g := w.heap.size + 1) (by simp)).alloc (.cells #[.int .i8 c.kd, .int .i64 c.er, .int .i64 c.pid, .int .i64 c.ep, .int .i64 c.off, .slice A3 c.rows.length c3] 26))
  have KC0 := Lib.hid (blk_new ((w.alloc (.cells #[.int .i8 a.kd, .int .i64 a.er, .int .i64 a.pid, .int .i64 a.ep, .int .i64 a.off, .slice A1 a.rows.length c1] 26)).alloc (.cells #[.int .i8 b.kd, .int .i64 b.er, .int .i64 b.pid, .int .i64 b.ep, .int .i64 b.off, .slice A2 b.rows.length c2] 26)) 26 #[.int .i8 c.kd, .int .i64 c.er, .int .i64 c.pid, .int .i64 c.ep, .int .i64 c.off, .slice A3 c.rows.length c3] (g := w.heap.size + 1 + 1) (by simp))
  have G1 := Lib.hid (fun W (h : Below w.heap.size w W) => RpGreat_any a A1 c1 W ((ha.below h).more h.size))
  have G2 := Lib.hid (fun W (h : Below w.heap.size w W) => RpGreat_any b A2 c2 W ((hb.below h).more h.size))
  have G3 := Lib.hid (fun W (h : Below w.heap.size w W) => RpGreat_any c A3 c3 W ((hc.below h).more h.size))
  have WK := Lib.hid (fun W (h : Below w.heap.size w W) => wakes09 W (hg.up h))
  rw [h1] at G1
  rw [h2] at G2
  clear ha hb hc hg
  go_enter Tryd.func4, Tryd.ntmps4
  go_wp2_with fail
  refine (G1.out _ HB.out).mono ?_
  rintro e w1 ⟨rfl, b1⟩
  have KA1 := Lib.hid (KA0.out.below b1 KA0.out.lt)
  have KB1 := Lib.hid (KB0.out.below b1 KB0.out.lt)
  have KC1 := Lib.hid (KC0.out.below b1 KC0.out.lt)
  have HB1 := Lib.hid (btrans HB.out b1)
  clear KA0 KB0 KC0 HB b1
  have KA0 := Lib.hid KA1.out
  have KB0 := Lib.hid KB1.out
  have KC0 := Lib.hid KC1.out
  have HB := Lib.hid HB1.out
  clear KA1 KB1 KC1 HB1
  have x0 := KB0.out.cell 0
  have x1 := KB0.out.cell 1
  have x2 := KB0.out.cell 2
  have x3 := KB0.out.cell 3
  have x4 := KB0.out.cell 4
  have x5 := KB0.out.cell 5
  go_wp2_with fail
  refine (G2.out _ HB.out).mono ?_
  rintro e w2 ⟨rfl, b2⟩
  have KA1 := Lib.hid (KA0.out.below b2 KA0.out.lt)
  have KB1 := Lib.hid (KB0.out.below b2 KB0.out.lt)
  have KC1 := Lib.hid (KC0.out.below b2 KC0.out.lt)
  have HB1 := Lib.hid (btrans HB.out b2)
  clear KA0 KB0 KC0 HB b2
  have KA0 := Lib.hid KA1.out
  have KB0 := Lib.hid KB1.out
  have KC0 := Lib.hid KC1.out
  have HB := Lib.hid HB1.out
  clear KA1 KB1 KC1 HB1
  clear x0 x1 x2 x3 x4 x5
  have x0 := KC0.out.cell 0
  have x1 := KC0.out.cell 1
  have x2 := KC0.out.cell 2
  have x3 := KC0.out.cell 3
  have x4 := KC0.out.cell 4
  have x5 := KC0.out.cell 5
  go_wp2_with fail
  refine (WK.out _ HB.out).mono ?_
  rintro e wz ⟨rfl, bz⟩
  go_wp2_with fail
  go_ret
  exact ⟨rfl, btrans HB.out bz⟩
set_option maxRecDepth 100000 in
set_option maxHeartbeats 16000000 in
theorem ralike_great3 (a b c : Rp) (d : Int) (A1 A2 A3 : Option Addr) (c1 c2 c3 : Nat) (w : World) (hg : HasET w) (ha : Reads w w.heap.size 5 A1 a.rows.length (cellsW a.rows)) (hb : Reads w w.heap.size 5 A2 b.rows.length (cellsW b.rows)) (hc : Reads w w.heap.size 5 A3 c.rows.length (cellsW c.rows)) (h1 : greatRp a = false) (h2 : greatRp b = false) (h3 : greatRp c = true) :
    Calls Tryd.prog 4 #[(.agg #[.int .i8 a.kd, .int .i64 a.er, .int .i64 a.pid, .int .i64 a.ep, .int .i64 a.off, .slice A1 a.rows.length c1]), (.agg #[.int .i8 b.kd, .int .i64 b.er, .int .i64 b.pid, .int .i64 b.ep, .int .i64 b.off, .slice A2 b.rows.length c2]), (.agg #[.int .i8 c.kd, .int .i64 c.er, .int .i64 c.pid, .int .i64 c.ep, .int .i64 c.off, .slice A3 c.rows.length c3]), .int .i64 d] w fun e w' => e = .returned (.bool true) ∧ Below w.heap.size w w' := by
  have HB := Lib.hid (bal (bal (bal (Below.refl w.heap.size w) (.cells #[.int .i8 a.kd, .int .i64 a.er, .int .i64 a.pid, .int .i64 a.ep, .int .i64 a.off, .slice A1 a.rows.length c1] 26)) (.cells #[.int .i8 b.kd, .int .i64 b.er, .int .i64 b.pid, .int .i64 b.ep, .int .i64 b.off, .slice A2 b.rows.length c2] 26)) (.cells #[.int .i8 c.kd, .int .i64 c.er, .int .i64 c.pid, .int .i64 c.ep, .int .i64 c.off, .slice A3 c.rows.length c3] 26))
  have KA0 := Lib.hid (((Blk.new w 26 #[.int .i8 a.kd, .int .i64 a.er, .int .i64 a.pid, .int .i64 a.ep, .int .i64 a.off, .slice A1 a.rows.length c1]).alloc (.cells #[.int .i8 b.kd, .int .i64 b.er, .int .i64 b.pid, .int .i64 b.ep, .int .i64 b.off, .slice A2 b.rows.length c2] 26)).alloc (.cells #[.int .i8 c.kd, .int .i64 c.er, .int .i64 c.pid, .int .i64 c.ep, .int .i64 c.off, .slice A3 c.rows.length c3] 26))
  have KB0 := Lib.hid ((blk_new (w.alloc (.cells #[.int .i8 a.kd, .int .i64 a.er, .int .i64 a.pid, .int .i64 a.ep, .int .i64 a.off, .slice A1 a.rows.length c1] 26)) 26 #[.int .i8 b.kd, .int .i64 b.er, .int .i64 b.pid, .int .i64 b.ep, .int .i64 b.off, .slice A2 b.rows.length c2] (g := w.heap.size + 1) (by simp)).alloc (.cells #[.int .i8 c.kd, .int .i64 c.er, .int .i64 c.pid, .int .i64 c.ep, .int .i64 c.off, .slice A3 c.rows.length c3] 26))
  have KC0 := Lib.hid (blk_new ((w.alloc (.cells #[.int .i8 a.kd, .int .i64 a.er, .int .i64 a.pid, .int .i64 a.ep, .int .i64 a.off, .slice A1 a.rows.length c1] 26)).alloc (.cells #[.int .i8 b.kd, .int .i64 b.er, .int .i64 b.pid, .int .i64 b.ep, .int .i64 b.off, .slice A2 b.rows.length c2] 26)) 26 #[.int .i8 c.kd, .int .i64 c.er, .int .i64 c.pid, .int .i64 c.ep, .int .i64 c.off, .slice A3 c.rows.length c3] (g := w.heap.size + 1 + 1) (by simp))
  have G1 := Lib.hid (fun W (h : Below w.heap.size w W) => RpGreat_any a A1 c1 W ((ha.below h).more h.size))
  have G2 := Lib.hid (fun W (h : Below w.heap.size w W) => RpGreat_any b A2 c2 W ((hb.below h).more h.size))
  have G3 := Lib.hid (fun W (h : Below w.heap.size w W) => RpGreat_any c A3 c3 W ((hc.below h).more h.size))
  have WK := Lib.hid (fun W (h : Below w.heap.size w W) => wakes09 W (hg.up h))
  rw [h1] at G1
  rw [h2] at G2
  rw [h3] at G3
  clear ha hb hc hg
  go_enter Tryd.func4, Tryd.ntmps4
  go_wp2_with fail
  refine (G1.out _ HB.out).mono ?_
  rintro e w1 ⟨rfl, b1⟩
  have KA1 := Lib.hid (KA0.out.below b1 KA0.out.lt)
  have KB1 := Lib.hid (KB0.out.below b1 KB0.out.lt)
  have KC1 := Lib.hid (KC0.out.below b1 KC0.out.lt)
  have HB1 := Lib.hid (btrans HB.out b1)
  clear KA0 KB0 KC0 HB b1
  have KA0 := Lib.hid KA1.out
  have KB0 := Lib.hid KB1.out
  have KC0 := Lib.hid KC1.out
  have HB := Lib.hid HB1.out
  clear KA1 KB1 KC1 HB1
  have x0 := KB0.out.cell 0
  have x1 := KB0.out.cell 1
  have x2 := KB0.out.cell 2
  have x3 := KB0.out.cell 3
  have x4 := KB0.out.cell 4
  have x5 := KB0.out.cell 5
  go_wp2_with fail
  refine (G2.out _ HB.out).mono ?_
  rintro e w2 ⟨rfl, b2⟩
  have KA1 := Lib.hid (KA0.out.below b2 KA0.out.lt)
  have KB1 := Lib.hid (KB0.out.below b2 KB0.out.lt)
  have KC1 := Lib.hid (KC0.out.below b2 KC0.out.lt)
  have HB1 := Lib.hid (btrans HB.out b2)
  clear KA0 KB0 KC0 HB b2
  have KA0 := Lib.hid KA1.out
  have KB0 := Lib.hid KB1.out
  have KC0 := Lib.hid KC1.out
  have HB := Lib.hid HB1.out
  clear KA1 KB1 KC1 HB1
  clear x0 x1 x2 x3 x4 x5
  have x0 := KC0.out.cell 0
  have x1 := KC0.out.cell 1
  have x2 := KC0.out.cell 2
  have x3 := KC0.out.cell 3
  have x4 := KC0.out.cell 4
  have x5 := KC0.out.cell 5
  go_wp2_with fail
  refine (G3.out _ HB.out).mono ?_
  rintro e w3 ⟨rfl, b3⟩
  have KA1 := Lib.hid (KA0.out.below b3 KA0.out.lt)
  have KB1 := Lib.hid (KB0.out.below b3 KB0.out.lt)
  have KC1 := Lib.hid (KC0.out.below b3 KC0.out.lt)
  have HB1 := Lib.hid (btrans HB.out b3)
  clear KA0 KB0 KC0 HB b3
  have KA0 := Lib.hid KA1.out
  have KB0 := Lib.hid KB1.out
  have KC0 := Lib.hid KC1.out
  have HB := Lib.hid HB1.out
  clear KA1 KB1 KC1 HB1
  clear x0 x1 x2 x3 x4 x5
  go_wp2_with fail
  refine (WK.out _ HB.out).mono ?_
  rintro e wz ⟨rfl, bz⟩
  go_wp2_with fail
  go_ret
  exact ⟨rfl, btrans HB.out bz⟩
set_option maxRecDepth 100000 in
set_option maxHeartbeats 16000000 in
theorem ralike_by (a b c : Rp) (d : Int) (A1 A2 A3 : Option Addr) (c1 c2 c3 : Nat) (w : World) (hg : HasET w) (ha : Reads w w.heap.size 5 A1 a.rows.length (cellsW a.rows)) (hb : Reads w w.heap.size 5 A2 b.rows.length (cellsW b.rows)) (hc : Reads w w.heap.size 5 A3 c.rows.length (cellsW c.rows)) (h1 : greatRp a = false) (h2 : greatRp b = false) (h3 : greatRp c = false) (h4 : d < 1 ∨ 1048576 < d) :
    Calls Tryd.prog 4 #[(.agg #[.int .i8 a.kd, .int .i64 a.er, .int .i64 a.pid, .int .i64 a.ep, .int .i64 a.off, .slice A1 a.rows.length c1]), (.agg #[.int .i8 b.kd, .int .i64 b.er, .int .i64 b.pid, .int .i64 b.ep, .int .i64 b.off, .slice A2 b.rows.length c2]), (.agg #[.int .i8 c.kd, .int .i64 c.er, .int .i64 c.pid, .int .i64 c.ep, .int .i64 c.off, .slice A3 c.rows.length c3]), .int .i64 d] w fun e w' => e = .returned (.bool true) ∧ Below w.heap.size w w' := by
  have HB := Lib.hid (bal (bal (bal (Below.refl w.heap.size w) (.cells #[.int .i8 a.kd, .int .i64 a.er, .int .i64 a.pid, .int .i64 a.ep, .int .i64 a.off, .slice A1 a.rows.length c1] 26)) (.cells #[.int .i8 b.kd, .int .i64 b.er, .int .i64 b.pid, .int .i64 b.ep, .int .i64 b.off, .slice A2 b.rows.length c2] 26)) (.cells #[.int .i8 c.kd, .int .i64 c.er, .int .i64 c.pid, .int .i64 c.ep, .int .i64 c.off, .slice A3 c.rows.length c3] 26))
  have KA0 := Lib.hid (((Blk.new w 26 #[.int .i8 a.kd, .int .i64 a.er, .int .i64 a.pid, .int .i64 a.ep, .int .i64 a.off, .slice A1 a.rows.length c1]).alloc (.cells #[.int .i8 b.kd, .int .i64 b.er, .int .i64 b.pid, .int .i64 b.ep, .int .i64 b.off, .slice A2 b.rows.length c2] 26)).alloc (.cells #[.int .i8 c.kd, .int .i64 c.er, .int .i64 c.pid, .int .i64 c.ep, .int .i64 c.off, .slice A3 c.rows.length c3] 26))
  have KB0 := Lib.hid ((blk_new (w.alloc (.cells #[.int .i8 a.kd, .int .i64 a.er, .int .i64 a.pid, .int .i64 a.ep, .int .i64 a.off, .slice A1 a.rows.length c1] 26)) 26 #[.int .i8 b.kd, .int .i64 b.er, .int .i64 b.pid, .int .i64 b.ep, .int .i64 b.off, .slice A2 b.rows.length c2] (g := w.heap.size + 1) (by simp)).alloc (.cells #[.int .i8 c.kd, .int .i64 c.er, .int .i64 c.pid, .int .i64 c.ep, .int .i64 c.off, .slice A3 c.rows.length c3] 26))
  have KC0 := Lib.hid (blk_new ((w.alloc (.cells #[.int .i8 a.kd, .int .i64 a.er, .int .i64 a.pid, .int .i64 a.ep, .int .i64 a.off, .slice A1 a.rows.length c1] 26)).alloc (.cells #[.int .i8 b.kd, .int .i64 b.er, .int .i64 b.pid, .int .i64 b.ep, .int .i64 b.off, .slice A2 b.rows.length c2] 26)) 26 #[.int .i8 c.kd, .int .i64 c.er, .int .i64 c.pid, .int .i64 c.ep, .int .i64 c.off, .slice A3 c.rows.length c3] (g := w.heap.size + 1 + 1) (by simp))
  have G1 := Lib.hid (fun W (h : Below w.heap.size w W) => RpGreat_any a A1 c1 W ((ha.below h).more h.size))
  have G2 := Lib.hid (fun W (h : Below w.heap.size w W) => RpGreat_any b A2 c2 W ((hb.below h).more h.size))
  have G3 := Lib.hid (fun W (h : Below w.heap.size w W) => RpGreat_any c A3 c3 W ((hc.below h).more h.size))
  have WK := Lib.hid (fun W (h : Below w.heap.size w W) => wakes09 W (hg.up h))
  rw [h1] at G1
  rw [h2] at G2
  rw [h3] at G3
  clear ha hb hc hg
  have dd : decide (d < 1) = true ∨ decide (d < 1) = false ∧ decide (1048576 < d) = true := by
    rcases Classical.em (d < 1) with h | h
    · exact .inl (decide_eq_true h)
    · exact .inr ⟨decide_eq_false h, decide_eq_true (by omega)⟩
  clear h1 h2 h3 h4
  rcases dd with d1 | ⟨d1, d2⟩
  ·
    go_enter Tryd.func4, Tryd.ntmps4
    go_wp2_with fail
    refine (G1.out _ HB.out).mono ?_
    rintro e w1 ⟨rfl, b1⟩
    have KA1 := Lib.hid (KA0.out.below b1 KA0.out.lt)
    have KB1 := Lib.hid (KB0.out.below b1 KB0.out.lt)
    have KC1 := Lib.hid (KC0.out.below b1 KC0.out.lt)
    have HB1 := Lib.hid (btrans HB.out b1)
    clear KA0 KB0 KC0 HB b1
    have KA0 := Lib.hid KA1.out
    have KB0 := Lib.hid KB1.out
    have KC0 := Lib.hid KC1.out
    have HB := Lib.hid HB1.out
    clear KA1 KB1 KC1 HB1
    have x0 := KB0.out.cell 0
    have x1 := KB0.out.cell 1
    have x2 := KB0.out.cell 2
    have x3 := KB0.out.cell 3
    have x4 := KB0.out.cell 4
    have x5 := KB0.out.cell 5
    go_wp2_with fail
    refine (G2.out _ HB.out).mono ?_
    rintro e w2 ⟨rfl, b2⟩
    have KA1 := Lib.hid (KA0.out.below b2 KA0.out.lt)
    have KB1 := Lib.hid (KB0.out.below b2 KB0.out.lt)
    have KC1 := Lib.hid (KC0.out.below b2 KC0.out.lt)
    have HB1 := Lib.hid (btrans HB.out b2)
    clear KA0 KB0 KC0 HB b2
    have KA0 := Lib.hid KA1.out
    have KB0 := Lib.hid KB1.out
    have KC0 := Lib.hid KC1.out
    have HB := Lib.hid HB1.out
    clear KA1 KB1 KC1 HB1
    clear x0 x1 x2 x3 x4 x5
    have x0 := KC0.out.cell 0
    have x1 := KC0.out.cell 1
    have x2 := KC0.out.cell 2
    have x3 := KC0.out.cell 3
    have x4 := KC0.out.cell 4
    have x5 := KC0.out.cell 5
    go_wp2_with fail
    refine (G3.out _ HB.out).mono ?_
    rintro e w3 ⟨rfl, b3⟩
    have KA1 := Lib.hid (KA0.out.below b3 KA0.out.lt)
    have KB1 := Lib.hid (KB0.out.below b3 KB0.out.lt)
    have KC1 := Lib.hid (KC0.out.below b3 KC0.out.lt)
    have HB1 := Lib.hid (btrans HB.out b3)
    clear KA0 KB0 KC0 HB b3
    have KA0 := Lib.hid KA1.out
    have KB0 := Lib.hid KB1.out
    have KC0 := Lib.hid KC1.out
    have HB := Lib.hid HB1.out
    clear KA1 KB1 KC1 HB1
    clear x0 x1 x2 x3 x4 x5
    go_wp2_with fail
    refine (WK.out _ HB.out).mono ?_
    rintro e wz ⟨rfl, bz⟩
    go_wp2_with fail
    go_ret
    exact ⟨rfl, btrans HB.out bz⟩
  ·
    go_enter Tryd.func4, Tryd.ntmps4
    go_wp2_with fail
    refine (G1.out _ HB.out).mono ?_
    rintro e w1 ⟨rfl, b1⟩
    have KA1 := Lib.hid (KA0.out.below b1 KA0.out.lt)
    have KB1 := Lib.hid (KB0.out.below b1 KB0.out.lt)
    have KC1 := Lib.hid (KC0.out.below b1 KC0.out.lt)
    have HB1 := Lib.hid (btrans HB.out b1)
    clear KA0 KB0 KC0 HB b1
    have KA0 := Lib.hid KA1.out
    have KB0 := Lib.hid KB1.out
    have KC0 := Lib.hid KC1.out
    have HB := Lib.hid HB1.out
    clear KA1 KB1 KC1 HB1
    have x0 := KB0.out.cell 0
    have x1 := KB0.out.cell 1
    have x2 := KB0.out.cell 2
    have x3 := KB0.out.cell 3
    have x4 := KB0.out.cell 4
    have x5 := KB0.out.cell 5
    go_wp2_with fail
    refine (G2.out _ HB.out).mono ?_
    rintro e w2 ⟨rfl, b2⟩
    have KA1 := Lib.hid (KA0.out.below b2 KA0.out.lt)
    have KB1 := Lib.hid (KB0.out.below b2 KB0.out.lt)
    have KC1 := Lib.hid (KC0.out.below b2 KC0.out.lt)
    have HB1 := Lib.hid (btrans HB.out b2)
    clear KA0 KB0 KC0 HB b2
    have KA0 := Lib.hid KA1.out
    have KB0 := Lib.hid KB1.out
    have KC0 := Lib.hid KC1.out
    have HB := Lib.hid HB1.out
    clear KA1 KB1 KC1 HB1
    clear x0 x1 x2 x3 x4 x5
    have x0 := KC0.out.cell 0
    have x1 := KC0.out.cell 1
    have x2 := KC0.out.cell 2
    have x3 := KC0.out.cell 3
    have x4 := KC0.out.cell 4
    have x5 := KC0.out.cell 5
    go_wp2_with fail
    refine (G3.out _ HB.out).mono ?_
    rintro e w3 ⟨rfl, b3⟩
    have KA1 := Lib.hid (KA0.out.below b3 KA0.out.lt)
    have KB1 := Lib.hid (KB0.out.below b3 KB0.out.lt)
    have KC1 := Lib.hid (KC0.out.below b3 KC0.out.lt)
    have HB1 := Lib.hid (btrans HB.out b3)
    clear KA0 KB0 KC0 HB b3
    have KA0 := Lib.hid KA1.out
    have KB0 := Lib.hid KB1.out
    have KC0 := Lib.hid KC1.out
    have HB := Lib.hid HB1.out
    clear KA1 KB1 KC1 HB1
    clear x0 x1 x2 x3 x4 x5
    go_wp2_with fail
    refine (WK.out _ HB.out).mono ?_
    rintro e wz ⟨rfl, bz⟩
    go_wp2_with fail
    go_ret
    exact ⟨rfl, btrans HB.out bz⟩
theorem alike_cfg (a b c : Rp) : ∃ sb ab bc ac : Bool, sameRp a b = sb ∧ alikeRp a b = ab ∧ alikeRp b a = ab ∧ alikeRp b c = bc ∧ alikeRp a c = ac ∧ ((ab = false ∧ sb = false) ∨ (ab = true ∧ bc = false) ∨ (ab = true ∧ bc = true ∧ ac = true)) := by
  refine ⟨_, _, _, _, rfl, rfl, alikeRp_symm b a, rfl, rfl, ?_⟩
  cases hab : alikeRp a b
  · left
    refine ⟨rfl, ?_⟩
    cases hs : sameRp a b
    · rfl
    · rw [alikeRp_same hs] at hab; cases hab
  · cases hbc : alikeRp b c
    · exact .inr (.inl ⟨rfl, rfl⟩)
    · exact .inr (.inr ⟨rfl, rfl, alikeRp_trans hab hbc⟩)
set_option maxRecDepth 100000 in
set_option maxHeartbeats 16000000 in
theorem ralike_ok (a b c : Rp) (d : Int) (A1 A2 A3 : Option Addr) (c1 c2 c3 : Nat) (w : World) (hg : HasET w) (ha : Reads w w.heap.size 5 A1 a.rows.length (cellsW a.rows)) (hb : Reads w w.heap.size 5 A2 b.rows.length (cellsW b.rows)) (hc : Reads w w.heap.size 5 A3 c.rows.length (cellsW c.rows)) (h1 : greatRp a = false) (h2 : greatRp b = false) (h3 : greatRp c = false) (h4 : 1 ≤ d ∧ d ≤ 1048576) :
    Calls Tryd.prog 4 #[(.agg #[.int .i8 a.kd, .int .i64 a.er, .int .i64 a.pid, .int .i64 a.ep, .int .i64 a.off, .slice A1 a.rows.length c1]), (.agg #[.int .i8 b.kd, .int .i64 b.er, .int .i64 b.pid, .int .i64 b.ep, .int .i64 b.off, .slice A2 b.rows.length c2]), (.agg #[.int .i8 c.kd, .int .i64 c.er, .int .i64 c.pid, .int .i64 c.ep, .int .i64 c.off, .slice A3 c.rows.length c3]), .int .i64 d] w fun e w' => e = .returned (.bool true) ∧ Below w.heap.size w w' := by
  have HB := Lib.hid (bal (bal (bal (Below.refl w.heap.size w) (.cells #[.int .i8 a.kd, .int .i64 a.er, .int .i64 a.pid, .int .i64 a.ep, .int .i64 a.off, .slice A1 a.rows.length c1] 26)) (.cells #[.int .i8 b.kd, .int .i64 b.er, .int .i64 b.pid, .int .i64 b.ep, .int .i64 b.off, .slice A2 b.rows.length c2] 26)) (.cells #[.int .i8 c.kd, .int .i64 c.er, .int .i64 c.pid, .int .i64 c.ep, .int .i64 c.off, .slice A3 c.rows.length c3] 26))
  have KA0 := Lib.hid (((Blk.new w 26 #[.int .i8 a.kd, .int .i64 a.er, .int .i64 a.pid, .int .i64 a.ep, .int .i64 a.off, .slice A1 a.rows.length c1]).alloc (.cells #[.int .i8 b.kd, .int .i64 b.er, .int .i64 b.pid, .int .i64 b.ep, .int .i64 b.off, .slice A2 b.rows.length c2] 26)).alloc (.cells #[.int .i8 c.kd, .int .i64 c.er, .int .i64 c.pid, .int .i64 c.ep, .int .i64 c.off, .slice A3 c.rows.length c3] 26))
  have KB0 := Lib.hid ((blk_new (w.alloc (.cells #[.int .i8 a.kd, .int .i64 a.er, .int .i64 a.pid, .int .i64 a.ep, .int .i64 a.off, .slice A1 a.rows.length c1] 26)) 26 #[.int .i8 b.kd, .int .i64 b.er, .int .i64 b.pid, .int .i64 b.ep, .int .i64 b.off, .slice A2 b.rows.length c2] (g := w.heap.size + 1) (by simp)).alloc (.cells #[.int .i8 c.kd, .int .i64 c.er, .int .i64 c.pid, .int .i64 c.ep, .int .i64 c.off, .slice A3 c.rows.length c3] 26))
  have KC0 := Lib.hid (blk_new ((w.alloc (.cells #[.int .i8 a.kd, .int .i64 a.er, .int .i64 a.pid, .int .i64 a.ep, .int .i64 a.off, .slice A1 a.rows.length c1] 26)).alloc (.cells #[.int .i8 b.kd, .int .i64 b.er, .int .i64 b.pid, .int .i64 b.ep, .int .i64 b.off, .slice A2 b.rows.length c2] 26)) 26 #[.int .i8 c.kd, .int .i64 c.er, .int .i64 c.pid, .int .i64 c.ep, .int .i64 c.off, .slice A3 c.rows.length c3] (g := w.heap.size + 1 + 1) (by simp))
  have G1 := Lib.hid (fun W (h : Below w.heap.size w W) => RpGreat_any a A1 c1 W ((ha.below h).more h.size))
  have G2 := Lib.hid (fun W (h : Below w.heap.size w W) => RpGreat_any b A2 c2 W ((hb.below h).more h.size))
  have G3 := Lib.hid (fun W (h : Below w.heap.size w W) => RpGreat_any c A3 c3 W ((hc.below h).more h.size))
  have WK := Lib.hid (fun W (h : Below w.heap.size w W) => wakes09 W (hg.up h))
  rw [h1] at G1
  rw [h2] at G2
  rw [h3] at G3
  have hla : a.rows.length ≤ 200 := (not_greatRp h1).1
  have hlb : b.rows.length ≤ 200 := (not_greatRp h2).1
  obtain ⟨i0, hi, hi0, hi1, hi2⟩ := info_parts infoW
  have d1 : decide (d < 1) = false := decide_eq_false (by omega)
  have d2 : decide (1048576 < d) = false := decide_eq_false (by omega)
  have HA := Lib.hid ha
  have HBR := Lib.hid hb
  have HCR := Lib.hid hc
  have HD := Lib.hid h4
  have SM := (fun W (h : Below w.heap.size w W) => RpSame_any a b A1 A2 c1 c2 W ((ha.below h).more h.size) ((hb.below h).more h.size) (by omega))
  have AB := (fun W (h : Below w.heap.size w W) => RpAlike_any a b A1 A2 c1 c2 W ((ha.below h).more h.size) ((hb.below h).more h.size) (by omega))
  have BA := (fun W (h : Below w.heap.size w W) => RpAlike_any b a A2 A1 c2 c1 W ((hb.below h).more h.size) ((ha.below h).more h.size) (by omega))
  have BC := (fun W (h : Below w.heap.size w W) => RpAlike_any b c A2 A3 c2 c3 W ((hb.below h).more h.size) ((hc.below h).more h.size) (by omega))
  have AC := (fun W (h : Below w.heap.size w W) => RpAlike_any a c A1 A3 c1 c3 W ((ha.below h).more h.size) ((hc.below h).more h.size) (by omega))
  have MY := Lib.hid (fun W (h : Below w.heap.size w W) => RpMay_any a A1 c1 W ((ha.below h).more h.size) (by omega))
  have AM := Lib.hid (fun W A8 c8 (h : Below w.heap.size w W) (h8 : Reads W W.heap.size 5 A8 a.rows.length (cellsW (a.rows.map (mvW d)))) =>
    show Calls Tryd.prog 12 #[(.agg #[.int .i8 a.kd, .int .i64 a.er, .int .i64 a.pid, .int .i64 a.ep, .int .i64 a.off, .slice A1 a.rows.length c1]), .agg #[.int .i8 a.kd, .int .i64 a.er, .int .i64 a.pid, .int .i64 a.ep, .int .i64 (mvO d a.off), .slice A8 a.rows.length c8]] W (fun e w' => e = .returned (.bool true) ∧ Below W.heap.size W w') by
      have hlen : (mvRp d a).rows.length = a.rows.length := List.length_map _
      have := RpAlike_any a (mvRp d a) A1 A8 c1 c8 W ((ha.below h).more h.size) (by rw [hlen]; exact h8) (by omega)
      rw [alikeRp_mv (by omega) a, hlen] at this
      exact this)
  obtain ⟨sb, ab, bc, ac, e1, e2, e3, e4, e5, hcfg⟩ := alike_cfg a b c
  rw [e1] at SM
  rw [e2] at AB
  rw [e3] at BA
  rw [e4] at BC
  rw [e5] at AC
  have SM' := Lib.hid SM
  have AB' := Lib.hid AB
  have BA' := Lib.hid BA
  have BC' := Lib.hid BC
  have AC' := Lib.hid AC
  have CFG := Lib.hid hcfg
  have MOFF := Lib.hid (fun h : mayB a = true => may_off h)
  have HLA := Lib.hid hla
  clear ha hb hc hg h1 h2 h3 h4 SM AB BA BC AC e1 e2 e3 e4 e5 hcfg hla hlb
  go_enter Tryd.func4, Tryd.ntmps4
  go_wp2_with fail
  refine (G1.out _ HB.out).mono ?_
  rintro e w1 ⟨rfl, b1⟩
  have KA1 := Lib.hid (KA0.out.below b1 KA0.out.lt)
  have KB1 := Lib.hid (KB0.out.below b1 KB0.out.lt)
  have KC1 := Lib.hid (KC0.out.below b1 KC0.out.lt)
  have HB1 := Lib.hid (btrans HB.out b1)
  clear KA0 KB0 KC0 HB b1
  have KA0 := Lib.hid KA1.out
  have KB0 := Lib.hid KB1.out
  have KC0 := Lib.hid KC1.out
  have HB := Lib.hid HB1.out
  clear KA1 KB1 KC1 HB1
  have x0 := KB0.out.cell 0
  have x1 := KB0.out.cell 1
  have x2 := KB0.out.cell 2
  have x3 := KB0.out.cell 3
  have x4 := KB0.out.cell 4
  have x5 := KB0.out.cell 5
  go_wp2_with fail
  refine (G2.out _ HB.out).mono ?_
  rintro e w2 ⟨rfl, b2⟩
  have KA1 := Lib.hid (KA0.out.below b2 KA0.out.lt)
  have KB1 := Lib.hid (KB0.out.below b2 KB0.out.lt)
  have KC1 := Lib.hid (KC0.out.below b2 KC0.out.lt)
  have HB1 := Lib.hid (btrans HB.out b2)
  clear KA0 KB0 KC0 HB b2
  have KA0 := Lib.hid KA1.out
  have KB0 := Lib.hid KB1.out
  have KC0 := Lib.hid KC1.out
  have HB := Lib.hid HB1.out
  clear KA1 KB1 KC1 HB1
  clear x0 x1 x2 x3 x4 x5
  have x0 := KC0.out.cell 0
  have x1 := KC0.out.cell 1
  have x2 := KC0.out.cell 2
  have x3 := KC0.out.cell 3
  have x4 := KC0.out.cell 4
  have x5 := KC0.out.cell 5
  go_wp2_with fail
  refine (G3.out _ HB.out).mono ?_
  rintro e w3 ⟨rfl, b3⟩
  have KA1 := Lib.hid (KA0.out.below b3 KA0.out.lt)
  have KB1 := Lib.hid (KB0.out.below b3 KB0.out.lt)
  have KC1 := Lib.hid (KC0.out.below b3 KC0.out.lt)
  have HB1 := Lib.hid (btrans HB.out b3)
  clear KA0 KB0 KC0 HB b3
  have KA0 := Lib.hid KA1.out
  have KB0 := Lib.hid KB1.out
  have KC0 := Lib.hid KC1.out
  have HB := Lib.hid HB1.out
  clear KA1 KB1 KC1 HB1
  clear x0 x1 x2 x3 x4 x5
  go_upto_region 3 with (fail)
  go_cut [63] (fun s wx => s = .bool false ∧ Below w3.heap.size w3 wx)
  case first =>
    have la := KA0.out.lt
    have lb := KB0.out.lt
    have lc := KC0.out.lt
    have p0 := bw_cell (B := w3.heap.size) (KA0.out.cell 0) la
    have p1 := bw_cell (B := w3.heap.size) (KA0.out.cell 1) la
    have p2 := bw_cell (B := w3.heap.size) (KA0.out.cell 2) la
    have p3 := bw_cell (B := w3.heap.size) (KA0.out.cell 3) la
    have p4 := bw_cell (B := w3.heap.size) (KA0.out.cell 4) la
    have p5 := bw_cell (B := w3.heap.size) (KA0.out.cell 5) la
    have q0 := bw_cell (B := w3.heap.size) (KB0.out.cell 0) lb
    have q1 := bw_cell (B := w3.heap.size) (KB0.out.cell 1) lb
    have q2 := bw_cell (B := w3.heap.size) (KB0.out.cell 2) lb
    have q3 := bw_cell (B := w3.heap.size) (KB0.out.cell 3) lb
    have q4 := bw_cell (B := w3.heap.size) (KB0.out.cell 4) lb
    have q5 := bw_cell (B := w3.heap.size) (KB0.out.cell 5) lb
    have r0 := bw_cell (B := w3.heap.size) (KC0.out.cell 0) lc
    have r1 := bw_cell (B := w3.heap.size) (KC0.out.cell 1) lc
    have r2 := bw_cell (B := w3.heap.size) (KC0.out.cell 2) lc
    have r3 := bw_cell (B := w3.heap.size) (KC0.out.cell 3) lc
    have r4 := bw_cell (B := w3.heap.size) (KC0.out.cell 4) lc
    have r5 := bw_cell (B := w3.heap.size) (KC0.out.cell 5) lc
    have S1 := Lib.hid (fun n : BW w3.heap.size w3 => SM'.out n.1 (btrans HB.out n.2))
    have S2 := Lib.hid (fun n : BW w3.heap.size w3 => AB'.out n.1 (btrans HB.out n.2))
    have S3 := Lib.hid (fun n : BW w3.heap.size w3 => BA'.out n.1 (btrans HB.out n.2))
    have S4 := Lib.hid (fun n : BW w3.heap.size w3 => BC'.out n.1 (btrans HB.out n.2))
    have S5 := Lib.hid (fun n : BW w3.heap.size w3 => AC'.out n.1 (btrans HB.out n.2))
    have la' := Lib.hid la
    clear la lb lc
    rcases CFG.out with ⟨rfl, rfl⟩ | ⟨rfl, rfl⟩ | ⟨rfl, rfl, rfl⟩
    case' inr.inl => cases sb
    case' inr.inr => cases sb
    all_goals
      refine wp_region_bq w3.heap.size (by kernel_rfl) (by kernel_rfl) ?_
      repeat (go_big_quiet_step ((first | (go_at_call 10; exact bw_call (Nat.le_refl _) (S1.out _)) | (go_at_call 12; first | with_reducible exact bw_call (Nat.le_refl _) (S2.out _) | with_reducible exact bw_call (Nat.le_refl _) (S3.out _) | with_reducible exact bw_call (Nat.le_refl _) (S4.out _) | with_reducible exact bw_call (Nat.le_refl _) (S5.out _)))))
      refine wpQuiet_nil ?_
      rintro _ ⟨n, rfl⟩
      go_wp2_with fail
      go_meet
      exact ⟨rfl, n.2⟩
  case rest =>
    obtain ⟨rfl, hbc⟩ := hcut
    have KA4 := Lib.hid (KA0.out.below hbc KA0.out.lt)
    have B4 := Lib.hid (btrans HB.out hbc)
    clear hbc KA0 KB0 KC0 HB SM' AB' BA' BC' AC' CFG
    have x0 := KA4.out.cell 0
    have x1 := KA4.out.cell 1
    have x2 := KA4.out.cell 2
    have x3 := KA4.out.cell 3
    have x4 := KA4.out.cell 4
    have x5 := KA4.out.cell 5
    cases hm : mayB a
    · rw [hm] at MY
      clear hm
      go_wp2_with fail
      refine (MY.out _ B4.out).mono ?_
      rintro e w4 ⟨rfl, b4⟩
      have B5 := Lib.hid (btrans B4.out b4)
      clear b4
      go_wp2_with fail
      refine (WK.out _ B5.out).mono ?_
      rintro e w5 ⟨rfl, b5⟩
      go_wp2_with fail
      go_ret
      exact ⟨rfl, btrans B5.out b5⟩
    · rw [hm] at MY
      have hmo := MOFF.out hm
      have HM1 := Lib.hid hmo.1
      have HM2 := Lib.hid hmo.2.2
      clear hm hmo MOFF
      go_wp2_with fail
      refine (MY.out _ B4.out).mono ?_
      rintro e w4 ⟨rfl, b4⟩
      have KA5 := Lib.hid (KA4.out.below b4 KA4.out.lt)
      have B5 := Lib.hid (btrans B4.out b4)
      clear b4 x0 x1 x2 x3 x4 x5
      have x0 := KA5.out.cell 0
      have x1 := KA5.out.cell 1
      have x2 := KA5.out.cell 2
      have x3 := KA5.out.cell 3
      have x4 := KA5.out.cell 4
      have x5 := KA5.out.cell 5
      have kz := KA5.out.alloc (.cells #[.int .i8 a.kd, .int .i64 a.er, .int .i64 a.pid, .int .i64 a.ep, .int .i64 a.off, .slice A1 a.rows.length c1] 26)
      have kz2 := kz.alloc (.cells #[] 37)
      have y5 := kz2.cell 5
      have KM := Lib.hid ((Blk.new w4 26 #[.int .i8 a.kd, .int .i64 a.er, .int .i64 a.pid, .int .i64 a.ep, .int .i64 a.off, .slice A1 a.rows.length c1]).alloc (.cells #[] 37))
      have ow : ((w4.alloc (.cells #[.int .i8 a.kd, .int .i64 a.er, .int .i64 a.pid, .int .i64 a.ep, .int .i64 a.off, .slice A1 a.rows.length c1] 26)).alloc (.cells #[] 37)).ownsRow (w4.heap.size + 1) 37 5 (.slice (some ⟨w4.heap.size + 1, 0, none⟩) 0 0) 0 [] := by
        have := World.ownsRow_lit (e := 37) (base := w4.heap.size + 1) (size := 5) (w4.alloc (.cells #[.int .i8 a.kd, .int .i64 a.er, .int .i64 a.pid, .int .i64 a.ep, .int .i64 a.off, .slice A1 a.rows.length c1] 26)) #[] 0 (by simp) (by unfold maxLen; omega) rfl
        simpa using this
      have OW := Lib.hid ow
      have KA6 := Lib.hid kz2
      have BB := Lib.hid (bal (bal B5.out (.cells #[.int .i8 a.kd, .int .i64 a.er, .int .i64 a.pid, .int .i64 a.ep, .int .i64 a.off, .slice A1 a.rows.length c1] 26)) (.cells #[] 37))
      have RL := Lib.hid (HA.out.below BB.out)
      have hs4 := B5.out.size
      have HLA2 := HLA.out
      clear kz kz2 ow
      go_upto_region 9 with ((at_builtin; refine wpList_append_any _ rfl (.tmp 69) (.tmp 71) 24 rfl (w4.heap.size + 1) 37 i0 _ 5 56 Tryd.underlying24 hi hi0 hi1 hi2 rfl (by decide) _ 0 _ rfl OW.out _ _ a.rows.length c1 (cellsW a.rows) rfl RL.out (cellsW_one a.rows) (by unfold maxLen; omega) (by omega) (by simp only [World.size_alloc]; omega) ?_; intro v' w8 hown hgrow _; simp only [Nat.zero_add, List.nil_append] at hown; obtain ⟨A8, c8, rfl, hc8⟩ := own_slice hown; have km := KM.out.grown hgrow (Ne.symm (own_blk_ne OW.out KM.out (by decide))); have m5 := km.cell 5; have f5 := km.frozen 5; have KA7 := Lib.hid (KA6.out.grown hgrow (Ne.symm (own_blk_ne OW.out KA6.out (by decide)))); have B8 := Lib.hid (BB.out.grown hgrow (by simp only [World.size_alloc]; omega) (fun y hy => by have := (OW.out.lt y hy).1; omega)); have OWN := Lib.hid hown; have KM8 := Lib.hid km; have hs8 := hgrow.size; clear hown hgrow km))
      have KM9 := Lib.hid (KM8.out.set_ 5 (.slice A8 a.rows.length c8))
      have la9 := KA7.out.lt
      have lk9 := KA5.out.lt
      have KA9 := Lib.hid (KA7.out.far (p := ⟨w4.heap.size, 5, none⟩) (show w.heap.size ≠ w4.heap.size by omega) (.slice A8 a.rows.length c8))
      have B9 := Lib.hid (bset B8.out (show w.heap.size ≤ w4.heap.size by omega) (o := 5) (.slice A8 a.rows.length c8))
      have OW9 := Lib.hid (own_set OWN.out (Nat.lt_succ_self w4.heap.size) (o := 5) (.slice A8 a.rows.length c8))
      clear KM8 KA7 B8 OWN m5 f5 y5 x0 x1 x2 x3 x4 x5 OW KA6 BB RL KA5 B5 KM hs8 la9 KA4 B4
      generalize hW9 : w8.setCell ⟨w4.heap.size, 5, none⟩ (.slice A8 a.rows.length c8) = W9 at *
      clear hW9
      have km9 := KM9.out
      change Blk W9 w4.heap.size 26 #[.int .i8 a.kd, .int .i64 a.er, .int .i64 a.pid, .int .i64 a.ep, .int .i64 a.off, .slice A8 a.rows.length c8] at km9
      have m4 := km9.cell 4
      have f4 := km9.frozen 4
      have KM9' := Lib.hid km9
      have hm1 := HM1.out
      have hdd := HD.out
      clear km9 KM9
      have cw : IntKind.i64.wrap (a.off + d) = a.off + d := IntWalk.i64_in _ (by omega)
      have key : ∃ O, O = mvO d a.off := ⟨_, rfl⟩
      obtain ⟨O, hO⟩ := key
      rw [← hO] at AM
      have HO := Lib.hid hO
      clear hO
      by_cases ho : 0 ≤ a.off
      · have d9 : decide (0 ≤ a.off) = true := decide_eq_true ho
        have HO2 := Lib.hid (show a.off + d = O by rw [HO.out]; unfold mvO; rw [if_pos ho])
        go_upto_region 11 with (fail)
        have kA := KA9.out.far (p := ⟨w4.heap.size, 4, none⟩) (show w.heap.size ≠ w4.heap.size by omega) (.int .i64 (a.off + d))
        have bA := bset B9.out (show w.heap.size ≤ w4.heap.size by omega) (o := 4) (.int .i64 (a.off + d))
        have oA := own_set OW9.out (Nat.lt_succ_self w4.heap.size) (o := 4) (.int .i64 (a.off + d))
        have kM := KM9'.out.set_ 4 (.int .i64 (a.off + d))
        change Blk _ w4.heap.size 26 #[.int .i8 a.kd, .int .i64 a.er, .int .i64 a.pid, .int .i64 a.ep, .int .i64 (a.off + d), .slice A8 a.rows.length c8] at kM
        rw [HO2.out] at kA bA oA kM
        generalize hWA : W9.setCell ⟨w4.heap.size, 4, none⟩ (.int .i64 O) = WA at *
        rw [HO2.out, hWA]
        clear hWA d9 HO2 m4 f4 ho
        have KAA := Lib.hid kA
        have BA := Lib.hid bA
        have OA := Lib.hid oA
        have KMA := Lib.hid kM
        clear kA bA oA cw HO KA9 B9 OW9 KM9' HM1 hm1
        have m5 := KMA.out.cell 5
        clear kM
        go_wp2_with fail
        clear m5
        go_loopw [85] (fun x wr => ∃ k : Nat, k ≤ a.rows.length ∧ x = .int .i64 k ∧ Blk wr w.heap.size 26 #[.int .i8 a.kd, .int .i64 a.er, .int .i64 a.pid, .int .i64 a.ep, .int .i64 a.off, .slice A1 a.rows.length c1] ∧ Below w.heap.size w wr ∧ Blk wr w4.heap.size 26 #[.int .i8 a.kd, .int .i64 a.er, .int .i64 a.pid, .int .i64 a.ep, .int .i64 O, .slice A8 a.rows.length c8] ∧ wr.ownsRow (w4.heap.size + 1) 37 5 (.slice A8 a.rows.length c8) a.rows.length (cellsW (rowsK d a.rows k))) (fun x _ => a.rows.length - (intOf x).toNat)
        case atStart => exact ⟨0, Nat.zero_le _, rfl, KAA.out, BA.out, KMA.out, by rw [rowsK_zero]; exact OA.out⟩
        case round =>
          obtain ⟨k, hk, rfl, r1, r2, r3, r4⟩ := hrel
          have R1 := Lib.hid r1
          have R2 := Lib.hid r2
          have R3 := Lib.hid r3
          have R4 := Lib.hid r4
          clear r1 r2 r3 r4
          by_cases hlt : k < a.rows.length
          · have dk : decide ((k : Int) < (a.rows.length : Int)) = true := by simp; omega
            have i1 : (0 : Int) ≤ (k : Int) := by omega
            have i2 : (k : Int) < (a.rows.length : Int) := by omega
            obtain ⟨r, hx⟩ : ∃ z, a.rows[k]? = some z := ⟨_, List.getElem?_eq_getElem hlt⟩
            have hrm := HM2.out r (List.mem_of_getElem? hx)
            obtain ⟨gg, cap, hv, hgb, hnc⟩ := own_addrN R4.out (by omega) (by decide)
            injection hv with hv1 hv2 hv3
            subst hv1; subst hv3
            have y0 := (R4.out.cellAt (k * 5) (by omega)).trans (cellsW_at _ k r (rowsK_at d a.rows k r hx)).1
            have f0 := R4.out.frozenAt (k * 5)
            have m5 := R3.out.cell 5
            have cr : IntKind.i64.wrap (r.1 + d) = r.1 + d := IntWalk.i64_in _ (by omega)
            have ST := Lib.hid (R4.out.stored (k * 5) (.int .i64 (r.1 + d))).1
            rw [cellsW_set _ k r (r.1 + d) (rowsK_at d a.rows k r hx)] at ST
            have HSET := Lib.hid (rowsK_set d a.rows k r hx)
            have HSAME := Lib.hid (rowsK_same d a.rows k r hx)
            have HGB := Lib.hid hgb
            clear hx hrm hgb hnc
            by_cases h0 : 0 ≤ r.1
            · have dr : decide (0 ≤ r.1) = true := decide_eq_true h0
              have hmv : (r.1 + d, r.2) = mvW d r := by unfold mvW mvO; rw [if_pos h0]
              rw [hmv, HSET.out] at ST
              clear hmv h0
              have m5' := (R3.out.far (p := ⟨gg, k * 5, none⟩) (show w4.heap.size ≠ gg by have := HGB.out; omega) (.int .i64 (r.1 + d))).cell 5
              go_wp2_with fail
              go_roundw
              case rel => exact ⟨k + 1, by omega, by go_num, R1.out.far (p := ⟨gg, k * 5, none⟩) (show w.heap.size ≠ gg by have := HGB.out; omega) _, bset R2.out (show w.heap.size ≤ gg by have := HGB.out; omega) _, R3.out.far (p := ⟨gg, k * 5, none⟩) (show w4.heap.size ≠ gg by have := HGB.out; omega) _, ST.out⟩
              case measure => simp [intOf]; omega
            · have dr : decide (0 ≤ r.1) = false := decide_eq_false h0
              have hmv : mvW d r = r := by unfold mvW mvO; rw [if_neg h0]
              have hsm := HSAME.out hmv
              have HSM := Lib.hid hsm
              clear hmv h0 hsm
              go_wp2_with fail
              go_roundw
              case rel => exact ⟨k + 1, by omega, by go_num, R1.out, R2.out, R3.out, by rw [HSM.out]; exact R4.out⟩
              case measure => simp [intOf]; omega
          · obtain rfl : k = a.rows.length := by omega
            have dk : decide ((a.rows.length : Int) < (a.rows.length : Int)) = false := by simp
            have r4 := R4.out
            rw [rowsK_all] at r4
            have AMM := Lib.hid (AM.out _ A8 c8 R2.out (Reads.of_own r4))
            clear r4
            have x0 := R1.out.cell 0
            have x1 := R1.out.cell 1
            have x2 := R1.out.cell 2
            have x3 := R1.out.cell 3
            have x4 := R1.out.cell 4
            have x5 := R1.out.cell 5
            have m0 := R3.out.cell 0
            have m1 := R3.out.cell 1
            have m2 := R3.out.cell 2
            have m3 := R3.out.cell 3
            have m4 := R3.out.cell 4
            have m5 := R3.out.cell 5
            go_wp2_with fail
            refine AMM.out.mono ?_
            rintro e wy ⟨rfl, by_⟩
            have BY := Lib.hid (btrans R2.out by_)
            clear by_ x0 x1 x2 x3 x4 x5 m0 m1 m2 m3 m4 m5
            go_wp2_with fail
            refine (WK.out _ BY.out).mono ?_
            rintro e wz ⟨rfl, bz⟩
            go_wp2_with fail
            go_ret
            exact ⟨rfl, btrans BY.out bz⟩
      · have d9 : decide (0 ≤ a.off) = false := decide_eq_false ho
        have HO2 := Lib.hid (show a.off = O by rw [HO.out]; unfold mvO; rw [if_neg ho])
        go_upto_region 11 with (fail)
        have kA := KA9.out
        have bA := B9.out
        have oA := OW9.out
        have kM := KM9'.out
        generalize hWA : W9 = WA at *
        rw [HO2.out] at kM
        clear hWA d9 HO2 m4 f4 ho
        have KAA := Lib.hid kA
        have BA := Lib.hid bA
        have OA := Lib.hid oA
        have KMA := Lib.hid kM
        clear kA bA oA cw HO KA9 B9 OW9 KM9' HM1 hm1
        have m5 := KMA.out.cell 5
        clear kM
        go_wp2_with fail
        clear m5
        go_loopw [85] (fun x wr => ∃ k : Nat, k ≤ a.rows.length ∧ x = .int .i64 k ∧ Blk wr w.heap.size 26 #[.int .i8 a.kd, .int .i64 a.er, .int .i64 a.pid, .int .i64 a.ep, .int .i64 a.off, .slice A1 a.rows.length c1] ∧ Below w.heap.size w wr ∧ Blk wr w4.heap.size 26 #[.int .i8 a.kd, .int .i64 a.er, .int .i64 a.pid, .int .i64 a.ep, .int .i64 O, .slice A8 a.rows.length c8] ∧ wr.ownsRow (w4.heap.size + 1) 37 5 (.slice A8 a.rows.length c8) a.rows.length (cellsW (rowsK d a.rows k))) (fun x _ => a.rows.length - (intOf x).toNat)
        case atStart => exact ⟨0, Nat.zero_le _, rfl, KAA.out, BA.out, KMA.out, by rw [rowsK_zero]; exact OA.out⟩
        case round =>
          obtain ⟨k, hk, rfl, r1, r2, r3, r4⟩ := hrel
          have R1 := Lib.hid r1
          have R2 := Lib.hid r2
          have R3 := Lib.hid r3
          have R4 := Lib.hid r4
          clear r1 r2 r3 r4
          by_cases hlt : k < a.rows.length
          · have dk : decide ((k : Int) < (a.rows.length : Int)) = true := by simp; omega
            have i1 : (0 : Int) ≤ (k : Int) := by omega
            have i2 : (k : Int) < (a.rows.length : Int) := by omega
            obtain ⟨r, hx⟩ : ∃ z, a.rows[k]? = some z := ⟨_, List.getElem?_eq_getElem hlt⟩
            have hrm := HM2.out r (List.mem_of_getElem? hx)
            obtain ⟨gg, cap, hv, hgb, hnc⟩ := own_addrN R4.out (by omega) (by decide)
            injection hv with hv1 hv2 hv3
            subst hv1; subst hv3
            have y0 := (R4.out.cellAt (k * 5) (by omega)).trans (cellsW_at _ k r (rowsK_at d a.rows k r hx)).1
            have f0 := R4.out.frozenAt (k * 5)
            have m5 := R3.out.cell 5
            have cr : IntKind.i64.wrap (r.1 + d) = r.1 + d := IntWalk.i64_in _ (by omega)
            have ST := Lib.hid (R4.out.stored (k * 5) (.int .i64 (r.1 + d))).1
            rw [cellsW_set _ k r (r.1 + d) (rowsK_at d a.rows k r hx)] at ST
            have HSET := Lib.hid (rowsK_set d a.rows k r hx)
            have HSAME := Lib.hid (rowsK_same d a.rows k r hx)
            have HGB := Lib.hid hgb
            clear hx hrm hgb hnc
            by_cases h0 : 0 ≤ r.1
            · have dr : decide (0 ≤ r.1) = true := decide_eq_true h0
              have hmv : (r.1 + d, r.2) = mvW d r := by unfold mvW mvO; rw [if_pos h0]
              rw [hmv, HSET.out] at ST
              clear hmv h0
              have m5' := (R3.out.far (p := ⟨gg, k * 5, none⟩) (show w4.heap.size ≠ gg by have := HGB.out; omega) (.int .i64 (r.1 + d))).cell 5
              go_wp2_with fail
              go_roundw
              case rel => exact ⟨k + 1, by omega, by go_num, R1.out.far (p := ⟨gg, k * 5, none⟩) (show w.heap.size ≠ gg by have := HGB.out; omega) _, bset R2.out (show w.heap.size ≤ gg by have := HGB.out; omega) _, R3.out.far (p := ⟨gg, k * 5, none⟩) (show w4.heap.size ≠ gg by have := HGB.out; omega) _, ST.out⟩
              case measure => simp [intOf]; omega
            · have dr : decide (0 ≤ r.1) = false := decide_eq_false h0
              have hmv : mvW d r = r := by unfold mvW mvO; rw [if_neg h0]
              have hsm := HSAME.out hmv
              have HSM := Lib.hid hsm
              clear hmv h0 hsm
              go_wp2_with fail
              go_roundw
              case rel => exact ⟨k + 1, by omega, by go_num, R1.out, R2.out, R3.out, by rw [HSM.out]; exact R4.out⟩
              case measure => simp [intOf]; omega
          · obtain rfl : k = a.rows.length := by omega
            have dk : decide ((a.rows.length : Int) < (a.rows.length : Int)) = false := by simp
            have r4 := R4.out
            rw [rowsK_all] at r4
            have AMM := Lib.hid (AM.out _ A8 c8 R2.out (Reads.of_own r4))
            clear r4
            have x0 := R1.out.cell 0
            have x1 := R1.out.cell 1
            have x2 := R1.out.cell 2
            have x3 := R1.out.cell 3
            have x4 := R1.out.cell 4
            have x5 := R1.out.cell 5
            have m0 := R3.out.cell 0
            have m1 := R3.out.cell 1
            have m2 := R3.out.cell 2
            have m3 := R3.out.cell 3
            have m4 := R3.out.cell 4
            have m5 := R3.out.cell 5
            go_wp2_with fail
            refine AMM.out.mono ?_
            rintro e wy ⟨rfl, by_⟩
            have BY := Lib.hid (btrans R2.out by_)
            clear by_ x0 x1 x2 x3 x4 x5 m0 m1 m2 m3 m4 m5
            go_wp2_with fail
            refine (WK.out _ BY.out).mono ?_
            rintro e wz ⟨rfl, bz⟩
            go_wp2_with fail
            go_ret
            exact ⟨rfl, btrans BY.out bz⟩
theorem ralike_walk (a b c : Rp) (d : Int) (A1 A2 A3 : Option Addr) (c1 c2 c3 : Nat) (w : World) (hg : HasET w) (ha : Reads w w.heap.size 5 A1 a.rows.length (cellsW a.rows)) (hb : Reads w w.heap.size 5 A2 b.rows.length (cellsW b.rows)) (hc : Reads w w.heap.size 5 A3 c.rows.length (cellsW c.rows)) :
    Calls Tryd.prog 4 #[(.agg #[.int .i8 a.kd, .int .i64 a.er, .int .i64 a.pid, .int .i64 a.ep, .int .i64 a.off, .slice A1 a.rows.length c1]), (.agg #[.int .i8 b.kd, .int .i64 b.er, .int .i64 b.pid, .int .i64 b.ep, .int .i64 b.off, .slice A2 b.rows.length c2]), (.agg #[.int .i8 c.kd, .int .i64 c.er, .int .i64 c.pid, .int .i64 c.ep, .int .i64 c.off, .slice A3 c.rows.length c3]), .int .i64 d] w fun e w' => e = .returned (.bool true) ∧ Below w.heap.size w w' := by
  cases h1 : greatRp a
  · cases h2 : greatRp b
    · cases h3 : greatRp c
      · by_cases h4 : 1 ≤ d ∧ d ≤ 1048576
        · exact ralike_ok a b c d A1 A2 A3 c1 c2 c3 w hg ha hb hc h1 h2 h3 h4
        · exact ralike_by a b c d A1 A2 A3 c1 c2 c3 w hg ha hb hc h1 h2 h3 (by omega)
      · exact ralike_great3 a b c d A1 A2 A3 c1 c2 c3 w hg ha hb hc h1 h2 h3
    · exact ralike_great2 a b c d A1 A2 A3 c1 c2 c3 w hg ha hb hc h1 h2
  · exact ralike_great1 a b c d A1 A2 A3 c1 c2 c3 w hg ha hb hc h1
end Go.Proofs.YtckdecodpjfcnaaDoor
namespace Go.Proofs.YtckdecodpjfcnaaDoor.replyAlike
open Go.ChangeShapes Go.WideShapes Go.ChangeAt Go.RowKit
open Go.ChangeMaps (open_string shut_string)
set_option linter.unusedVariables false

theorem laid_met (os : Os) : laidMetH Tryd.prog Rows.replyAlikeRow.laid ((laidWorld os).forCall (fun _ _ => 0) ⟨#[], #[.agg #[.int .i8 0, .int .i64 0, .int .i64 0, .int .i64 0, .int .i64 0, .slice none 0 0], .agg #[.int .i8 0, .int .i64 0, .int .i64 0, .int .i64 0, .int .i64 0, .slice none 0 0], .agg #[.int .i8 0, .int .i64 0, .int .i64 0, .int .i64 0, .int .i64 0, .slice none 0 0], .int .i64 0], []⟩).memory :=
  laidMetH_of_parts (laidMet_nil _ _) (by kernel_rfl)
theorem reads (os : Os) {H : Type} (enc : TypeId × Value → H) : ∃ places, DataW.whole enc Tryd.prog ((laidWorld os).forCall (fun _ _ => 0) ⟨#[], #[.agg #[.int .i8 0, .int .i64 0, .int .i64 0, .int .i64 0, .int .i64 0, .slice none 0 0], .agg #[.int .i8 0, .int .i64 0, .int .i64 0, .int .i64 0, .int .i64 0, .slice none 0 0], .agg #[.int .i8 0, .int .i64 0, .int .i64 0, .int .i64 0, .int .i64 0, .slice none 0 0], .int .i64 0], []⟩).memory Tryd.f4.params.toList Rows.replyAlikeSpec.vars false (#[.agg #[.int .i8 0, .int .i64 0, .int .i64 0, .int .i64 0, .int .i64 0, .slice none 0 0], .agg #[.int .i8 0, .int .i64 0, .int .i64 0, .int .i64 0, .int .i64 0, .slice none 0 0], .agg #[.int .i8 0, .int .i64 0, .int .i64 0, .int .i64 0, .int .i64 0, .slice none 0 0], .int .i64 0] : Array Value).toList 8 = some ([.agg [.lit (.int .i8 0), .lit (.int .i64 0), .lit (.int .i64 0), .lit (.int .i64 0), .lit (.int .i64 0), .nil], .agg [.lit (.int .i8 0), .lit (.int .i64 0), .lit (.int .i64 0), .lit (.int .i64 0), .lit (.int .i64 0), .nil], .agg [.lit (.int .i8 0), .lit (.int .i64 0), .lit (.int .i64 0), .lit (.int .i64 0), .lit (.int .i64 0), .nil], .lit (.int .i64 0)], [], places) :=
  ⟨[], by kernel_rfl⟩

set_option maxRecDepth 100000 in
theorem lifted (os : Os) (started : os.Started) (H : Type) (enc : TypeId × Value → H) (F : Stop.Interp) :
    ReturnsInHanded {} Tryd.checked os 4 .any ((OpenSpec.ofChange Rows.replyAlikeSpec).preRow enc Tryd.prog Tryd.f4 Rows.replyAlikeRow.domain false Rows.replyAlikeRow.laid) (((OpenSpec.ofChange Rows.replyAlikeSpec).at F).post enc Tryd.prog Tryd.f4 false true false false) := by
  obtain ⟨places, hx⟩ := reads os enc
  refine returnsInHanded_of_row (C := Tryd.checked) (s := OpenSpec.ofChange Rows.replyAlikeSpec) own started (by kernel_rfl) Tryd.func4
    (witness_row_at (enc := enc) (C := Tryd.checked) false (laidWorld os) #[.agg #[.int .i8 0, .int .i64 0, .int .i64 0, .int .i64 0, .int .i64 0, .slice none 0 0], .agg #[.int .i8 0, .int .i64 0, .int .i64 0, .int .i64 0, .int .i64 0, .slice none 0 0], .agg #[.int .i8 0, .int .i64 0, .int .i64 0, .int .i64 0, .int .i64 0, .slice none 0 0], .int .i64 0] rfl (by kernel_rfl) (by kernel_rfl) (by kernel_rfl)
      (OpenSpec.preRow_of_cond 8 hx (by kernel_rfl) (fun k hk => by cases hk) (by kernel_rfl) (laid_met os))) ?_
  intro W base args ds gs before hval0 hW _ _ hsz0 hL _ _
  have hg : HasET W := hasErr_of_laid hL
  have hval : ∀ (j : Nat) t v, Tryd.f4.params[j]? = some t → args[j]? = some v → Value.okWide Tryd.prog W .any base t v := hval0
  have hsz : (DataW.weightsEach Tryd.prog (Tryd.f4.params.toList ++ Rows.replyAlikeSpec.plain.varTypes Tryd.prog) (ds ++ gs)).all (· ≤ reachBytes) = true := hsz0
  have hW' := hW
  obtain ⟨p, q, hA0, hV, rfl, hfz, hnd⟩ := hW
  have hA : DataW.TrodAll enc Tryd.prog W 0 (fun _ => true) true Tryd.f4.params.toList args.toList ds p := hA0
  rw [Tryd.params4] at hA hval hsz
  obtain ⟨v0, vs0, d0, ds0, p0, q0, hargs, rfl, rfl, h0, r0⟩ := trodAll_cons hA
  obtain ⟨v1, vs1, d1, ds1, p1, q1, rfl, rfl, rfl, h1, r1⟩ := trodAll_cons r0
  obtain ⟨v2, vs2, d2, ds2, p2, q2, rfl, rfl, rfl, h2, r2⟩ := trodAll_cons r1
  obtain ⟨v3, vs3, d3, ds3, p3, q3, rfl, rfl, rfl, h3, r3⟩ := trodAll_cons r2
  obtain ⟨rfl, rfl, rfl⟩ := trodAll_nil r3
  obtain rfl : args = #[v0, v1, v2, v3] := by cases args; simp_all
  obtain ⟨rfl, rfl⟩ := trodVars_none hV
  have k0 := h0
  have lt0 : ∀ x ∈ p0, x.block < W.heap.size := by obtain ⟨m, hm⟩ := k0; exact DataW.trod_lt m _ _ _ hm
  obtain ⟨rp0, A0, c0, rfl, qr0⟩ := open_rp (hval 0 26 v0 rfl rfl) h0
  have k1 := h1
  have lt1 : ∀ x ∈ p1, x.block < W.heap.size := by obtain ⟨m, hm⟩ := k1; exact DataW.trod_lt m _ _ _ hm
  obtain ⟨rp1, A1, c1, rfl, qr1⟩ := open_rp (hval 1 26 v1 rfl rfl) h1
  have k2 := h2
  have lt2 : ∀ x ∈ p2, x.block < W.heap.size := by obtain ⟨m, hm⟩ := k2; exact DataW.trod_lt m _ _ _ hm
  obtain ⟨rp2, A2, c2, rfl, qr2⟩ := open_rp (hval 2 26 v2 rfl rfl) h2
  obtain ⟨a3, rfl, rfl, rfl, w3⟩ := open_int Tryd.underlying3 (hval 3 3 v3 rfl rfl) h3
  clear hA0 hval0 hsz0
  refine (ralike_walk rp0 rp1 rp2 a3 A0 A1 A2 c0 c1 c2 W hg qr0 qr1 qr2).mono fun e W' ⟨he, bel⟩ => ?_
  subst he
  exact ⟨_, rfl, _, _, _, [], _, [], hW', trodAll_mk1 (shut_bool Tryd.underlying4 _), (trodAll_cons_mk (Below.trod laidOut (by kernel_rfl) (of_decide_eq_true (by kernel_rfl)) k0 bel lt0) (trodAll_cons_mk (Below.trod laidOut (by kernel_rfl) (of_decide_eq_true (by kernel_rfl)) k1 bel lt1) (trodAll_cons_mk (Below.trod laidOut (by kernel_rfl) (of_decide_eq_true (by kernel_rfl)) k2 bel lt2) (trodAll_cons_mk (shut_int Tryd.underlying3 w3) trodAll_mk0)))), rfl, bel.frame _, fun h => by cases h⟩

theorem said : Rows.ReplyAlikeSaid :=
  OpenClaim.holds_of_cond 4 Tryd.f4 rfl rfl rfl rfl rfl rfl rfl ⟨rfl, rfl, rfl, rfl, rfl⟩ rfl rfl rfl rfl rfl (by kernel_rfl) Tryd.func4 (by kernel_rfl)
    (of_decide_eq_true (by kernel_rfl)) (by unfold Func.isWrapper; first | (rw [if_pos (by decide +kernel)]; kernel_rfl) | (rw [if_neg (by decide +kernel)]; exact ⟨rfl, rfl⟩))
    (fun os started H enc _ F => by rw [OpenClaim.pre_eq_preRow]; exact lifted os started H enc F)

theorem plain (f : FuncId) (fn : Func) (hf : Tryd.pinned.checked.prog.funcNamed "roving/rovinglaw09.ReplyAlike" = some f) (hfn : Tryd.pinned.checked.prog.funcs[f]? = some fn) :
    true = Tryd.pinned.checked.prog.looks [] ∧ ∀ (j : Nat) t, fn.params[j]? = some t → Tryd.pinned.checked.prog.wantsStandIn t = false := by
  obtain rfl : f = 4 := Option.some.inj ((show Tryd.prog.funcNamed "roving/rovinglaw09.ReplyAlike" = some 4 by kernel_rfl).symm.trans hf) |>.symm
  obtain rfl : fn = Tryd.f4 := (Option.some.inj (Tryd.func4.symm.trans hfn)).symm
  refine ⟨by kernel_rfl, fun j t ht => ?_⟩
  rw [Tryd.params4] at ht
  have hm : t = 26 ∨ t = 26 ∨ t = 26 ∨ t = 3 := by simpa using Array.mem_of_getElem? ht
  rcases hm with rfl | rfl | rfl | rfl <;> exact (show Tryd.prog.wantsStandIn _ = false by kernel_rfl)

/-- THE CARD. -/
theorem card : Rows.ReplyAlikeCardSaid :=
  Claim7.holds_tied_plain_at .later [] _ _ _ _ said (fun _ h => by cases h) (by kernel_rfl) (fun _ h => by cases h) replyAlike_row_tie rfl ⟨rfl, rfl⟩ (by kernel_rfl) rfl plain (by kernel_rfl)
end Go.Proofs.YtckdecodpjfcnaaDoor.replyAlike
