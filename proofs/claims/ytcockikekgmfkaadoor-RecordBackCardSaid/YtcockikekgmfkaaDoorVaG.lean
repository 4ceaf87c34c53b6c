/-
  Package varint's Get: what it gives.
-/
import Derived.Test.YtcockikekgmfkaaDoorVaF
namespace Go.Proofs.YtcockikekgmfkaaDoor
open Go.RowKit

/-- The library's own variable holds the handle of the type error. -/
def HasErr (w : World) : Prop := w.cell? ⟨0, 0, none⟩ = some (.iface 136 (.agg #[.pointer (some ⟨1, 87, none⟩)]))
theorem HasErr.lt {w : World} (h : HasErr w) : 0 < w.heap.size := by
  rcases Nat.lt_or_ge 0 w.heap.size with h1 | h1
  · exact h1
  · unfold HasErr at h; simp [World.cell?, Array.getElem?_eq_none h1] at h
theorem HasErr.below {w w' : World} (h : HasErr w) {B : Nat} (hb : Below B w w') (hB : 0 < B) : HasErr w' := (hb.cell (p := ⟨0, 0, none⟩) hB).trans h

/-- What varint.Get says of bytes and a place. -/
def getOf (L : List UInt8) (k : Int) : Int × Int × Int :=
  if k < 0 ∨ (L.length : Int) < k then (0, 0, 70)
  else match dec (L.drop k.toNat) with
    | none => (0, 0, 70)
    | some (n, m) => (n, k + m, 0)

def GetPost (L : List UInt8) (k : Int) (w : World) (e : Ending) (w' : World) : Prop :=
  e = .returned (.tuple #[.int .i64 (getOf L k).1, .int .i64 (getOf L k).2.1, .int .i64 (getOf L k).2.2]) ∧ Below w.heap.size w w'

set_option maxRecDepth 100000 in
set_option maxHeartbeats 1000000 in
theorem Get_any (A : Option Addr) (L : List UInt8) (c : Nat) (k : Int) (w : World) (hL : L.length ≤ 100000) (hg : HasErr w) (hr : Reads w w.heap.size 1 A L.length (cellsB L)) :
    Calls Tryd.prog 80 #[.slice A L.length c, .int .i64 k] w (GetPost L k w) := by
  have hb0 : Below w.heap.size w (w.alloc (.cells #[.slice A L.length c, .int .i64 k] 132)) := (Below.refl _ _).alloc (Nat.le_refl _) _
  have hg1 := hg.below hb0 hg.lt
  have blk := Blk.new w 132 #[.slice A L.length c, .int .i64 k]
  have c0 := blk.cell 0
  have c1 := blk.cell 1
  have f1 := blk.frozen 1
  have hgl := hg.lt
  -- the ways on which it fails
  have bad : ∀ (hgo : getOf L k = (0, 0, 70)) (hn : Calls Tryd.prog 90 #[.pointer (some ⟨w.heap.size, 0, none⟩)] (w.alloc (.cells #[.slice A L.length c, .int .i64 k] 132)) (Broken (w.alloc (.cells #[.slice A L.length c, .int .i64 k] 132)))),
      Calls Tryd.prog 80 #[.slice A L.length c, .int .i64 k] w (GetPost L k w) := by
    intro hgo hn
    have HN := Lib.hid hn
    have HGO := Lib.hid hgo
    have HG1 := Lib.hid hg1
    clear hn hgo hg1 hg blk c0 c1 f1 hr
    go_enter Tryd.func80, Tryd.ntmps80
    go_wp2_with (first | (go_at_call 90; refine HN.out.mono ?_; rintro e w1 ⟨b, rfl, hc70, hbge, hb1⟩; have HC := Lib.hid (code_broken b 70 w1 (HG1.out.below hb1 (by simp only [World.size_alloc]; omega)) hc70)) | (go_at_call 91; refine HC.out.mono ?_; rintro e w2 ⟨rfl, hb2⟩))
    go_ret3
    unfold GetPost
    rw [HGO.out]
    refine ⟨rfl, ?_⟩
    have k1 := hb0.trans (hb1.mono (by simp))
    exact k1.trans (hb2.mono k1.size)
  by_cases hk : k < 0 ∨ (L.length : Int) < k
  · exact bad (by unfold getOf; rw [if_pos hk]) (next_out _ A L c k _ c0 c1 hk)
  · obtain ⟨n, rfl⟩ := Int.eq_ofNat_of_zero_le (show 0 ≤ k by omega)
    have hgo : getOf L (n : Int) = match dec (L.drop n) with
        | none => (0, 0, 70)
        | some (x, m) => ((x : Int), (n : Int) + m, 0) := by unfold getOf; rw [if_neg hk, Int.toNat_natCast]
    have hn := next_in w.heap.size A L c n w.heap.size _ c0 c1 f1 (by omega) hL (hr.alloc (Nat.le_refl _) _)
    unfold NextPost at hn
    cases hd : dec (L.drop n) with
    | none =>
      rw [hd] at hn hgo
      exact bad hgo hn
    | some r =>
      obtain ⟨x, m⟩ := r
      rw [hd] at hn hgo
      simp only at hn hgo
      have HN := Lib.hid hn
      have HGO := Lib.hid hgo
      clear bad hn hgo hg1 hg blk hr hd hk
      go_enter Tryd.func80, Tryd.ntmps80
      go_wp2_with (go_at_call 90; refine HN.out.mono ?_; rintro e w1 ⟨rfl, q, rfl⟩)
      go_quiet (fail)
      go_wp2
      go_ret3
      unfold GetPost
      rw [HGO.out]
      refine ⟨rfl, ?_⟩
      exact below_drewN ((below_drewN hb0 q).setCell (p := ⟨w.heap.size, 1, none⟩) (Nat.le_refl _) _) _
end Go.Proofs.YtcockikekgmfkaaDoor
