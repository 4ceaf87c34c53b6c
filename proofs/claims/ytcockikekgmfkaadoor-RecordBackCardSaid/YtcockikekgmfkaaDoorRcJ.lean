/-
  Layer 6: what the statements' own test of life tells.
-/
import Derived.Test.YtcockikekgmfkaaDoorRcI
namespace Go.Proofs.YtcockikekgmfkaaDoor
open Go.RowKit

def bw6 : Bat := ⟨1, 0, 2, false, [(⟨#[97]⟩, ⟨#[98]⟩)]⟩
theorem bw6_may : mayBt bw6 = true := by decide
theorem bw6_enc : encBt bw6 = [1, 0, 2, 0, 1, 1, 97, 1, 98] := by decide
theorem bw6_rows : rowsBt bw6 7 = [(7, 1, 2, ⟨#[97]⟩, ⟨#[98]⟩)] := by kernel_rfl
theorem bw6_behind : behindB bw6 = 3 := by kernel_rfl

theorem reads_newR (w : World) (t : TypeId) (p : Rec) (g : Nat) (hg : w.heap.size = g) : Reads (w.alloc (.cells #[.string p.1, .string p.2] t)) (g + 1) 2 (some ⟨g, 0, none⟩) 1 (cellsR [p]) := by
  subst hg
  refine ⟨by rw [length_cellsR]; rfl, fun _ => ⟨_, rfl, Nat.lt_succ_self _, fun j u hu => ?_⟩⟩
  rw [add_none, Nat.zero_add]
  rw [(Blk.new w t _).cell j]
  have e : cellsR [p] = (#[.string p.1, .string p.2] : Array Value).toList := by rw [cellsR_cons]; rfl
  rw [e] at hu
  simpa using hu

set_option maxRecDepth 100000 in
set_option maxHeartbeats 1000000 in
theorem wakes06 (w : World) : Calls Tryd.prog 27 #[] w fun e w' => e = .returned (.bool true) ∧ Below w.heap.size w w' := by
  have hm : Tryd.prog.eqGuardType Tryd.prog.depth 68 = false := by kernel_rfl
  have hrd : Reads ((w.alloc (.cells #[.string ⟨#[97]⟩, .string ⟨#[98]⟩] 70)).alloc (.cells #[.int .i64 1, .int .i64 0, .int .i64 2, .bool false, .slice (some ⟨w.heap.size, 0, none⟩) 1 1] 40)) ((w.alloc (.cells #[.string ⟨#[97]⟩, .string ⟨#[98]⟩] 70)).alloc (.cells #[.int .i64 1, .int .i64 0, .int .i64 2, .bool false, .slice (some ⟨w.heap.size, 0, none⟩) 1 1] 40)).heap.size 2 (some ⟨w.heap.size, 0, none⟩) 1 (cellsR bw6.rs) :=
    ((reads_newR w _ (⟨#[97]⟩, ⟨#[98]⟩) w.heap.size rfl).alloc (by simp) _).more (by simp)
  have hk : Blk ((w.alloc (.cells #[.string ⟨#[97]⟩, .string ⟨#[98]⟩] 70)).alloc (.cells #[.int .i64 1, .int .i64 0, .int .i64 2, .bool false, .slice (some ⟨w.heap.size, 0, none⟩) 1 1] 40)) (w.heap.size + 1) 40 #[.int .i64 1, .int .i64 0, .int .i64 2, .bool false, .slice (some ⟨w.heap.size, 0, none⟩) 1 1] := by
    have := Blk.new (w.alloc (.cells #[.string ⟨#[97]⟩, .string ⟨#[98]⟩] 70)) 40 #[.int .i64 1, .int .i64 0, .int .i64 2, .bool false, .slice (some ⟨w.heap.size, 0, none⟩) 1 1]
    rwa [World.size_alloc] at this
  have hbel := bal (bal (Below.refl w.heap.size w) (.cells #[.string ⟨#[97]⟩, .string ⟨#[98]⟩] 70)) (.cells #[.int .i64 1, .int .i64 0, .int .i64 2, .bool false, .slice (some ⟨w.heap.size, 0, none⟩) 1 1] 40)
  have hby := RcBytes_ok bw6 (some ⟨w.heap.size, 0, none⟩) 1 _ hrd bw6_may
  rw [bw6_enc] at hby
  have HBY := Lib.hid hby
  have HRD := Lib.hid hrd
  have HK := Lib.hid hk
  have HBEL := Lib.hid hbel
  have hse : ((bs [1, 0, 2, 0, 1, 1, 97, 1, 98]).toList == [1, 0, 2, 0, 1, 1, 97, 1, 98]) = true := by rw [toList_lb, lb_bs]; rfl
  clear hby hrd hk hbel
  go_enter Tryd.func27, Tryd.ntmps27
  go_wp2_with fail
  refine HBY.out.mono ?_
  rintro e w1 ⟨rfl, hb1⟩
  have k1 := HK.out.below hb1 HK.out.lt
  have x0 := k1.cell 0
  have x1 := k1.cell 1
  have x2 := k1.cell 2
  have x3 := k1.cell 3
  have x4 := k1.cell 4
  have hro := Rows_any bw6 (some ⟨w.heap.size, 0, none⟩) 1 7 w1 ((HRD.out.below hb1).more hb1.size) (by decide)
  rw [bw6_rows] at hro
  have HRO := Lib.hid hro
  have BF1 := Lib.hid (btrans HBEL.out hb1)
  have K1 := Lib.hid k1
  clear hro k1 hb1
  go_wp2_with fail
  refine HRO.out.mono ?_
  rintro e w2 ⟨A2, c2, rfl, r2, hc2, hb2⟩
  have k2 := K1.out.below hb2 K1.out.lt
  clear x0 x1 x2 x3 x4
  have x0 := k2.cell 0
  have x1 := k2.cell 1
  have x2 := k2.cell 2
  have x3 := k2.cell 3
  have x4 := k2.cell 4
  obtain ⟨b2, o2, rfl, _, hc⟩ := r2.plain5 (by decide)
  obtain ⟨g1, g2, g3, g4, g5⟩ := hc 0 _ rfl
  have heq := fun W => eqRw (7, 1, 2, ⟨#[97]⟩, ⟨#[98]⟩) (7, 1, 2, ⟨#[97]⟩, ⟨#[98]⟩) W
  rw [decide_eq_true rfl] at heq
  have hbe := fun W => Behind_any bw6 (some ⟨w.heap.size, 0, none⟩) 1 W
  rw [bw6_behind] at hbe
  have HBE := Lib.hid hbe
  have BF2 := Lib.hid (btrans BF1.out hb2)
  clear hbe hc k2 hb2 r2
  simp only [Nat.zero_mul, Nat.add_zero] at g1 g2 g3 g4 g5
  go_wp2_with fail
  refine (HBE.out _).mono ?_
  rintro e w3 ⟨rfl, hb3⟩
  go_wp2_with fail
  go_ret
  exact ⟨rfl, btrans BF2.out hb3⟩
end Go.Proofs.YtcockikekgmfkaaDoor
