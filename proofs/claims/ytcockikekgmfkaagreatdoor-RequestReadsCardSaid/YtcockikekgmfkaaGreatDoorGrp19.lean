/-
  A region that draws its order, whose operations only read what was there and whose callees may make memory but leave what was there as it was: walked once, in the order of the text, over the class of all such worlds.
  Layer 6, the document's Rows; two lists of rows.
  Layer 6: what the statements' own test of life tells.
-/
import Derived.Test.YtcockikekgmfkaaGreatDoorGrp18
import Derived.Test.YtcockikekgmfkaaGreatDoorGrp07
import Derived.Deep.RegionHeld3
import Derived.Below
namespace Go.Proofs.YtcockikekgmfkaaGreatDoor
open Go.RowKit

end Go.Proofs.YtcockikekgmfkaaGreatDoor
namespace Go.Proofs.YtcockikekgmfkaaGreatDoor
open Go.RowKit

def bw6 : Bat := ⟨1, 0, 2, false, [(⟨#[97]⟩, ⟨#[98]⟩)]⟩
theorem bw6_may : mayBt bw6 = true := by decide
theorem bw6_enc : encBt bw6 = [1, 0, 2, 0, 1, 1, 97, 1, 98] := by decide
theorem bw6_rows : rowsBt bw6 7 = [(7, 1, 2, ⟨#[97]⟩, ⟨#[98]⟩)] := by kernel_rfl
theorem bw6_behind : behindB bw6 = 3 := by kernel_rfl

theorem reads_newR (w : World) (t : TypeId) (p : Rec) (g : Nat) (hg : w.heap.size = g) : Reads (w.alloc (.cells #[.string p.1, .string p.2] t)) (g + 1) 2 (some ⟨g, 0, none⟩) 1 (cellsR [p]) := by
  subst hg
  refine ⟨by rw [length_cellsR]; rfl, fun _ => ⟨_, rfl, Nat.lt_succ_self _, fun j u hu => ?_⟩⟩
  rw [add_none, Nat.zero_add]
  rw [(Blk.new w t _).cell j]
  have e : cellsR [p] = (#[.string p.1, .string p.2] : Array Value).toList := by rw [cellsR_cons]; rfl
  rw [e] at hu
  simpa using hu

end Go.Proofs.YtcockikekgmfkaaGreatDoor
namespace Go.Proofs.YtcockikekgmfkaaGreatDoor
open Go.RowKit

/-- The worlds that are as w was below block B. -/
def BW (B : Nat) (w : World) : Type := { W : World // Below B w W }
instance nonempty_BW (B : Nat) (w : World) : Nonempty (BW B w) := ⟨⟨w, Below.refl _ _⟩⟩
theorem wp_region_bq {P : Program} {id : Nat} {Q : Exit → Act → World → Prop} {a : Act} {w : World} {l : List Oper} (B : Nat) (hm : P.follows .mixedOrders = true) (hB : Region.lexB .any l.toArray = true)
    (h : wpQuiet P l.toArray (fun W => ∃ n : BW B w, W = n.1) (fun a' => ∀ W, (∃ n : BW B w, W = n.1) → Q .normal a' W) l a) : (Code.region id l.toArray true).wp P Q a w :=
  wp_region_quiet (C := fun W => ∃ n : BW B w, W = n.1) hm hB ⟨⟨w.drew, (Below.refl _ _).drew⟩, rfl⟩ (by simpa using h)
theorem bw_call {P : Program} {f : FuncId} {args : Array Value} {B : Nat} {w : World} (hB : B ≤ w.heap.size) {n : BW B w} {v : Value} (h : Calls P f args n.1 fun e w' => e = .returned v ∧ Below n.1.heap.size n.1 w') :
    Calls P f args n.1 fun e w'' => e = .returned v ∧ ∃ m : BW B w, w'' = m.1 :=
  h.mono fun _ w' ⟨he, hb⟩ => ⟨he, ⟨w', n.2.trans (hb.mono (Nat.le_trans hB n.2.size))⟩, rfl⟩
theorem bw_same {P : Program} {f : FuncId} {args : Array Value} {B : Nat} {w : World} {n : BW B w} {v : Value} (h : Calls P f args n.1 fun e w' => e = .returned v ∧ n.1 = w') :
    Calls P f args n.1 fun e w'' => e = .returned v ∧ ∃ m : BW B w, w'' = m.1 :=
  h.mono fun _ _ ⟨he, hb⟩ => ⟨he, n, hb.symm⟩
theorem bw_cell {B : Nat} {w : World} {b o : Nat} {v : Value} (h : w.cell? ⟨b, o, none⟩ = some v) (hb : b < B) (n : BW B w) : n.1.cell? ⟨b, o, none⟩ = some v := (n.2.cell (p := ⟨b, o, none⟩) hb).trans h
end Go.Proofs.YtcockikekgmfkaaGreatDoor
