/-
  A region that draws its order, whose operations only read what was there and whose callees may make memory but leave what was there as it was: walked once, in the order of the text, over the class of all such worlds.
-/
import Derived.Test.YtcockikekgmfkaaDoorQt
import Derived.Below
namespace Go.Proofs.YtcockikekgmfkaaDoor
open Go.RowKit

/-- The worlds that are as w was below block B. -/
def BW (B : Nat) (w : World) : Type := { W : World // Below B w W }
instance nonempty_BW (B : Nat) (w : World) : Nonempty (BW B w) := ⟨⟨w, Below.refl _ _⟩⟩
theorem wp_region_bq {P : Program} {id : Nat} {Q : Exit → Act → World → Prop} {a : Act} {w : World} {l : List Oper} (B : Nat) (hm : P.follows .mixedOrders = true) (hB : Region.lexB .any l.toArray = true)
    (h : wpQuiet P l.toArray (fun W => ∃ n : BW B w, W = n.1) (fun a' => ∀ W, (∃ n : BW B w, W = n.1) → Q .normal a' W) l a) : (Code.region id l.toArray true).wp P Q a w :=
  wp_region_quiet (C := fun W => ∃ n : BW B w, W = n.1) hm hB ⟨⟨w.drew, (Below.refl _ _).drew⟩, rfl⟩ (by simpa using h)
theorem bw_call {P : Program} {f : FuncId} {args : Array Value} {B : Nat} {w : World} (hB : B ≤ w.heap.size) {n : BW B w} {v : Value} (h : Calls P f args n.1 fun e w' => e = .returned v ∧ Below n.1.heap.size n.1 w') :
    Calls P f args n.1 fun e w'' => e = .returned v ∧ ∃ m : BW B w, w'' = m.1 :=
  h.mono fun _ w' ⟨he, hb⟩ => ⟨he, ⟨w', n.2.trans (hb.mono (Nat.le_trans hB n.2.size))⟩, rfl⟩
theorem bw_same {P : Program} {f : FuncId} {args : Array Value} {B : Nat} {w : World} {n : BW B w} {v : Value} (h : Calls P f args n.1 fun e w' => e = .returned v ∧ n.1 = w') :
    Calls P f args n.1 fun e w'' => e = .returned v ∧ ∃ m : BW B w, w'' = m.1 :=
  h.mono fun _ _ ⟨he, hb⟩ => ⟨he, n, hb.symm⟩
theorem bw_cell {B : Nat} {w : World} {b o : Nat} {v : Value} (h : w.cell? ⟨b, o, none⟩ = some v) (hb : b < B) (n : BW B w) : n.1.cell? ⟨b, o, none⟩ = some v := (n.2.cell (p := ⟨b, o, none⟩) hb).trans h
end Go.Proofs.YtcockikekgmfkaaDoor
