/-
  Layer 2: what the statements' own test of life tells; the walk of FieldsWrite.
-/
import Derived.Test.YtcockikekgmfkaaDoorFiJ
import Derived.Test.YtcockikekgmfkaaDoorFiB
namespace Go.Proofs.YtcockikekgmfkaaDoor
open Go.RowKit

theorem only_below {g : Nat} {w w1 w2 : World} (h : Below w.heap.size w w1) (hg : w.heap.size ≤ g) (k : Only (fun x => x = g) w1 w2) : Below w.heap.size w w2 :=
  h.trans (k.below h.size (fun x hx => by omega))
theorem drewN_below {w : World} (n : Nat) : Below w.heap.size w (w.drewN n) := below_drewN (Below.refl _ _) n

def s9 : ByteArray := ⟨#[2, 97, 98, 1]⟩
theorem s9_txt : rdTxt (lb s9) 0 false 9 = ([97, 98], 3, false) := by decide
theorem s9_flag : rdFlag (lb s9) 3 false = (true, 4, false) := by decide
theorem s9_end : endOf s9.size 4 false = 0 := by decide

set_option maxRecDepth 100000 in
set_option maxHeartbeats 1000000 in
theorem wakes02 (w : World) (hg : HasET w) : Calls Tryd.prog 13 #[] w fun e w' => e = .returned (.bool true) ∧ Below w.heap.size w w' := by
  have ht := Text_ok none [] 0 ⟨#[97, 98]⟩ w Reads.none_ (by decide) (by decide)
  rw [show ([] : List UInt8) ++ (cTxt 1024).e (lb ⟨#[97, 98]⟩) = [2, 97, 98] by decide] at ht
  have HT := Lib.hid ht
  have HG := Lib.hid hg
  have q1 : (bs [2, 97, 98]).toList = [2, 97, 98] := by rw [toList_lb, lb_bs]
  have q2 : (bs [97, 98]).toList = [97, 98] := by rw [toList_lb, lb_bs]
  clear ht hg
  go_enter Tryd.func13, Tryd.ntmps13
  go_wp2_with fail
  refine HT.out.mono ?_
  rintro e w1 ⟨A, c, rfl, o1, hc, b1⟩
  have r1 : Reads w1 w1.heap.size 1 A 3 (cellsB [2, 97, 98]) := Reads.of_own o1
  have HN := Lib.hid (RNew_any s9 w1)
  have b2 : Below w.heap.size w (w1.alloc (.cells #[.string s9, .int .i64 0, .bool false] 35)) := b1.alloc b1.size _
  have rr : RdB (w1.alloc (.cells #[.string s9, .int .i64 0, .bool false] 35)) w1.heap.size s9 0 false := blk_new _ _ _ rfl
  have HX := Lib.hid (RTxt_any w1.heap.size s9 0 false 9 _ rr (HG.out.up b2) (by decide) (by decide))
  rw [s9_txt] at HX
  have hst := fun cap => run_string_of (P := Tryd.prog) (src := 50) (dst := 9) (c := cap) Tryd.underlying50 Tryd.underlying5 Tryd.underlying9 (r1.alloc (Nat.le_refl _) (.cells #[.string s9, .int .i64 0, .bool false] 35))
  have B2 := Lib.hid b2
  have hz := b1.size
  clear o1 r1 hc b1 b2 rr
  go_wp2_with fail
  refine HN.out.mono ?_
  rintro e w2 ⟨rfl, rfl⟩
  go_wp2_with fail
  refine HX.out.mono ?_
  rintro e w3 ⟨rfl, k3, o3⟩
  have HF := Lib.hid (RFlag_any w1.heap.size s9 3 false w3 k3 (by decide) (by decide))
  rw [s9_flag] at HF
  have B3 := Lib.hid (only_below B2.out hz o3)
  clear k3 o3 hst
  go_wp2_with fail
  refine HF.out.mono ?_
  rintro e w4 ⟨rfl, k4, o4⟩
  have HE := Lib.hid (REnd_any w1.heap.size s9 4 false w4 k4)
  rw [s9_end] at HE
  have B4 := Lib.hid (only_below B3.out hz o4)
  clear k4 o4
  go_wp2_with fail
  refine HE.out.mono ?_
  rintro e w5 ⟨rfl, n, rfl⟩
  go_wp2_with fail
  go_ret
  exact ⟨rfl, below_drewN B4.out n⟩
end Go.Proofs.YtcockikekgmfkaaDoor
