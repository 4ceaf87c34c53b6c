/-
  Layer 18: a transactional id: whether two are the same; within its ranges; whether it may be.
-/
import Derived.Test.YtagclnmchkgpdaaDoorStD
namespace Go.Proofs.YtagclnmchkgpdaaDoor
open Go.RowKit

structure Co where
  st : Int
  pid : Int
  ep : Int
  tm : Int
  th : Int
  ps : List Int
  qs : List Pd
  ag : Int

def Co0 : Co := ⟨0, 0, 0, 0, 0, [], [], 0⟩
/-- Its lists, as they lie in memory. -/
def CoR (w : World) (B : Nat) (c : Co) (A D : Option Addr) : Prop :=
  Reads w B 1 A c.ps.length (cellsI .i64 c.ps) ∧ Reads w B 3 D c.qs.length (cellsP c.qs) ∧ c.ps.length ≤ 1000 ∧ c.qs.length ≤ 1000
theorem CoR.below {w w' : World} {B : Nat} {c : Co} {A D : Option Addr} (h : CoR w B c A D) (hb : Below B w w') : CoR w' B c A D := ⟨h.1.below hb, h.2.1.below hb, h.2.2⟩
theorem CoR.more {w : World} {B B' : Nat} {c : Co} {A D : Option Addr} (h : CoR w B c A D) (hb : B ≤ B') : CoR w B' c A D := ⟨h.1.more hb, h.2.1.more hb, h.2.2⟩
theorem CoR.up {w w' : World} {c : Co} {A D : Option Addr} (h : CoR w w.heap.size c A D) (hb : Below w.heap.size w w') : CoR w' w'.heap.size c A D := (h.below hb).more hb.size
theorem CoR.al {w : World} {c : Co} {A D : Option Addr} (h : CoR w w.heap.size c A D) (o : Obj) : CoR (w.alloc o) (w.alloc o).heap.size c A D := h.up (bal (Below.refl _ _) o)
theorem CoR.zero (w : World) (B : Nat) (A D : Option Addr) : CoR w B Co0 A D := ⟨Reads.none_, Reads.none_, by decide, by decide⟩

def sameB (c d : Co) : Bool := (c.st == d.st) && ((c.pid == d.pid) && ((c.ep == d.ep) && ((c.tm == d.tm) && ((c.th == d.th) && ((c.ag == d.ag) && (decide (c.ps = d.ps) && decide (c.qs = d.qs)))))))
noncomputable def rangeB (c : Co) : Bool := c.qs.all pendB && (decide (1 ≤ c.pid) && (decide (c.pid ≤ 8) && (decide (0 ≤ c.ep) && (decide (c.ep ≤ 100) && (decide (1 ≤ c.tm) && (decide (c.tm ≤ 20) && (decide (0 ≤ c.ag) && (decide (c.ag ≤ 1048576) && (partsB c.ps && adjB aheadP c.qs)))))))))

set_option maxRecDepth 100000 in
set_option maxHeartbeats 1000000 in
theorem Same_any (c d : Co) (A1 D1 : Option Addr) (c1 e1 : Nat) (A2 D2 : Option Addr) (c2 e2 : Nat) (B1 B2 : Nat) (w : World) (h1 : CoR w B1 c A1 D1) (h2 : CoR w B2 d A2 D2) (hB1 : B1 ≤ w.heap.size) (hB2 : B2 ≤ w.heap.size) :
    Calls Tryd.prog 18 #[(.agg #[.int .i8 c.st, .int .i64 c.pid, .int .i64 c.ep, .int .i64 c.tm, .int .i64 c.th, .slice A1 c.ps.length c1, .slice D1 c.qs.length e1, .int .i64 c.ag]), (.agg #[.int .i8 d.st, .int .i64 d.pid, .int .i64 d.ep, .int .i64 d.tm, .int .i64 d.th, .slice A2 d.ps.length c2, .slice D2 d.qs.length e2, .int .i64 d.ag])] w fun e w' => e = .returned (.bool (sameB c d)) ∧ Below w.heap.size w w' := by
  obtain ⟨r1, q1, n1, m1⟩ := h1
  obtain ⟨r2, q2, n2, m2⟩ := h2
  have HB := Lib.hid (fun x y => bal (bal (Below.refl w.heap.size w) x) y)
  have HE := Lib.hid (fun x y => EqualI_any A1 A2 c.ps d.ps c1 c2 B1 B2 ((w.alloc x).alloc y) ((r1.alloc hB1 _).alloc (by simp; omega) _) ((r2.alloc hB2 _).alloc (by simp; omega) _) (by omega))
  have HQ := Lib.hid (fun x y (q : Nat) => EqualP_any D1 D2 c.qs d.qs e1 e2 B1 B2 (((w.alloc x).alloc y).drewN q) (((q1.alloc hB1 _).alloc (by simp; omega) _).drewN q) (((q2.alloc hB2 _).alloc (by simp; omega) _).drewN q) (by omega))
  have hs : sameB c d = ((c.st == d.st) && ((c.pid == d.pid) && ((c.ep == d.ep) && ((c.tm == d.tm) && ((c.th == d.th) && ((c.ag == d.ag) && (decide (c.ps = d.ps) && decide (c.qs = d.qs)))))))) := rfl
  generalize decide (c.ps = d.ps) = bp at *
  generalize decide (c.qs = d.qs) = bq at *
  have HS := Lib.hid hs
  clear r1 q1 r2 q2 hs
  go_enter Tryd.func18, Tryd.ntmps18
  go_wp2_with (first | (go_at_call 33; refine (HE.out _ _).mono ?_; rintro e w1 ⟨rfl, qa, rfl⟩) | (go_at_call 34; refine (HQ.out _ _ _).mono ?_; rintro e w1 ⟨rfl, qb, rfl⟩))
  all_goals go_ret
  all_goals refine ⟨ret_bool (by rw [HS.out]; simp [*]), ?_⟩
  all_goals first | exact HB.out _ _ | exact below_drewN (HB.out _ _) _ | exact below_drewN (below_drewN (HB.out _ _) _) _
end Go.Proofs.YtagclnmchkgpdaaDoor
