/-
  Package frame's iterator over frames: it yields the loads with which its bytes begin, in order.
-/
import Derived.RangeFuncNested
import Derived.RangeFuncBound
import Derived.RangeFuncCalls
import Derived.RangeFuncLeaves
import Derived.Shelf.Abstract
import Derived.Shelf.RegionOpen
import Derived.OwnWalkIn
import Derived.TacticsInMore
import Derived.LoopNIn
import Derived.LoopIn
import Derived.Sort.BigQuietIn
import Derived.Test.YtlojphajdefkdaaFrC
import Derived.Test.YtlojphajdefkdaaFrP
namespace Go.Proofs.Ytlojphajdefkdaa
open Go.RowKit Go.Shelf

theorem wide_fn (f : FuncId) : Fence.wide.fn f = True := rfl
attribute [local go_sem] Oper.semAt_some wide_fn

/-- The window of a span. -/
def win (b : Nat) (lo hi : Nat) : Value := .slice (some (if hi = lo then ⟨b, 0, none⟩ else ⟨b, lo, none⟩)) (hi - lo) (hi - lo)

theorem win_run (b lo hi len cap : Nat) (x y : Int) (hx : x = lo) (hy : y = hi) (h1 : lo ≤ hi) (h2 : hi ≤ cap) (w : World) :
    (Instr.slice 41 (.slice (some ⟨b, 0, none⟩) len cap) (some (.int .i64 x)) (some (.int .i64 y)) (some (.int .i64 y))).run Try.prog w = .ok (win b lo hi) w := by
  subst hx hy
  rw [run_slice_lhm w 41 _ len cap Try.underlying41 .i64 .i64 .i64 _ _ _ (by omega) (by omega) (by omega) (by omega)]
  have hs : (sizeOf (Try.prog.elem 41)).run Try.prog w = .ok 1 w := by kernel_rfl
  rw [hs]
  simp only [Result.andThen_ok, Int.toNat_natCast, win, sliced, Nat.mul_one, Option.map_some]
  by_cases h : hi = lo
  · simp [h]
  · have : (⟨b, 0, none⟩ : Addr).add lo = ⟨b, lo, none⟩ := by unfold Addr.add; split <;> simp_all
    simp [h, this]

/-- Two blocks lie as they lay. -/
def KeepTwo (b c : Nat) (W W' : World) : Prop := W'.heap[b]? = W.heap[b]? ∧ W'.heap[c]? = W.heap[c]?
theorem KeepTwo.refl (b c : Nat) (W : World) : KeepTwo b c W W := ⟨rfl, rfl⟩
theorem KeepTwo.trans {b c : Nat} {U V W : World} (h : KeepTwo b c U V) (k : KeepTwo b c V W) : KeepTwo b c U W := ⟨k.1.trans h.1, k.2.trans h.2⟩
theorem lt_of_same {b : Nat} {W W' : World} (h : W'.heap[b]? = W.heap[b]?) (hb : b < W.heap.size) : b < W'.heap.size := by
  rcases Nat.lt_or_ge b W'.heap.size with hlt | hge
  · exact hlt
  · rw [Array.getElem?_eq_none hge, Array.getElem?_eq_getElem hb] at h; cases h
theorem KeepTwo.lt {b c : Nat} {W W' : World} (h : KeepTwo b c W W') (hb : b < W.heap.size) (hc : c < W.heap.size) : b < W'.heap.size ∧ c < W'.heap.size := ⟨lt_of_same h.1 hb, lt_of_same h.2 hc⟩
theorem KeepTwo.of_below {b c : Nat} {W W' : World} (h : Below W.heap.size W W') (hb : b < W.heap.size) (hc : c < W.heap.size) : KeepTwo b c W W' := ⟨h.block b hb, h.block c hc⟩
theorem KeepTwo.of_grown {b c : Nat} {W W' : World} {row : Option Nat} (h : W.grownBy W' row) (hb : b < W.heap.size) (hc : c < W.heap.size) (nb : some b ≠ row) (nc : some c ≠ row) : KeepTwo b c W W' := ⟨h.block b hb nb, h.block c hc nc⟩
theorem keepTwo_b {b c : Nat} {w : World} (hb : b < w.heap.size) (hc : c < w.heap.size) (W : World) (l : Nat) (o o' : Obj) (hl : w.heap.size ≤ l) (_ : W.heap[l]? = some o) (_ : o.isCells = false) (_ : o.isWalk = false) : KeepTwo b c W (W.putObj l o') :=
  ⟨World.putObj_heap_other (by omega), World.putObj_heap_other (by omega)⟩

theorem arr4 (b k : Nat) (w : World) : (Instr.arrayAt 50 (.slice (some ⟨b, k, none⟩) 4 4)).run Try.prog w = .ok (.pointer (some ⟨b, k, none⟩)) w := by kernel_rfl

set_option maxRecDepth 100000 in
set_option maxHeartbeats 1000000 in
theorem frames1_in (l Bs b cap : Nat) (L : List UInt8) (hL : L.length ≤ 100000) (hcap : L.length ≤ cap) (J Jx : List (Span L) → World → Prop) (W : World) (hb : b < W.heap.size) (hBs : Bs < W.heap.size) (hJ : AbidesFrom W.heap.size J)
    (hY : ∀ pre x W, J pre W → pre.length < L.length → YieldAt Fence.wide 3 Try.prog l #[win b x.1.1 x.1.2, .int .i64 (x.1.2 : Int)] W fun e W' =>
      (e = .returned (.bool true) ∧ J (pre ++ [x]) W' ∧ KeepTwo b Bs W W') ∨ (e = .returned (.bool false) ∧ Jx (pre ++ [x]) W'))
    (hBc : W.cell? ⟨Bs, 0, none⟩ = some (.slice (some ⟨b, 0, none⟩) L.length cap)) (hc : ∀ j, j < L.length → W.cell? ⟨b, j, none⟩ = some (.int .u8 (byteAt L j))) (h0 : J [] W) :
    CallsIn Fence.wide 4 Try.prog 22 #[.func (.yield l) #[] #[], .pointer (some ⟨Bs, 0, none⟩)] W fun e W' => (∃ v, e = .returned v) ∧
      ((∃ ys, ys = spans L 0 ∧ J ys W') ∨ (∃ pre, pre <+: spans L 0 ∧ Jx pre W')) := by
  refine callsIn_of_wp Try.func22 rfl trivial ?_ rfl
  simp only [Try.ntmps22, List.size_toArray, List.length_cons, List.length_nil, Nat.reduceAdd, Nat.reduceSub, Array.replicate_succ, Array.replicate_zero, List.push_toArray, List.append_toArray, List.nil_append, List.cons_append]
  gi_wp2
  gi_loopw [3] (fun i wr => ∃ (k : Nat) (pre : List (Span L)), k ≤ L.length ∧ i = .int .i64 k ∧ J pre wr ∧ KeepTwo b Bs W wr ∧ spans L 0 = pre ++ spans L k ∧ pre.length ≤ k)
    (fun i _ => L.length - (intOf i).toNat)
  case atStart => exact ⟨0, [], Nat.zero_le _, rfl, h0, KeepTwo.refl _ _ _, rfl, Nat.le_refl _⟩
  case round =>
    obtain ⟨k, pre, hk, rfl, hJs, hnx, hsp, hpl⟩ := hrel
    have hcx : wr.cell? ⟨Bs, 0, none⟩ = some (.slice (some ⟨b, 0, none⟩) L.length cap) := (World.cell?_of_block hnx.2).trans hBc
    have HS := Lib.hid hsp; clear hsp
    by_cases h4 : k + 4 ≤ L.length
    · have g0 := (World.cell?_of_block (a := ⟨b, k, none⟩) hnx.1).trans (hc k (by omega))
      have g1 := (World.cell?_of_block (a := ⟨b, k + 1, none⟩) hnx.1).trans (hc (k + 1) (by omega))
      have g2 := (World.cell?_of_block (a := ⟨b, k + 2, none⟩) hnx.1).trans (hc (k + 2) (by omega))
      have g3 := (World.cell?_of_block (a := ⟨b, k + 3, none⟩) hnx.1).trans (hc (k + 3) (by omega))
      have hg := byteAt_lt L k
      have hg1 := byteAt_lt L (k + 1)
      have hg2 := byteAt_lt L (k + 2)
      have hg3 := byteAt_lt L (k + 3)
      have hd4 : decide ((4 : Int) ≤ (L.length : Int) - (k : Int)) = true := by simp; omega
      have ha4 := arr4 b k
      have hlen : Hid (le4 (byteAt L k) (byteAt L (k + 1)) (byteAt L (k + 2)) (byteAt L (k + 3)) = (lenAt L k : Int)) := lenAt_le4 L k
      have hll := lenAt_lt L k
      have hcl := load_any (byteAt L k) (byteAt L (k + 1)) (byteAt L (k + 2)) (byteAt L (k + 3)) wr (by omega) (by omega) (by omega) (by omega) (by omega) (by omega) (by omega) (by omega)
      have HC := Lib.hid hcl
      clear hc h0 hcl
      gi_wp2_with fail
      refine (callsIn_wide.2 HC.out).mono ?_
      rw [hlen.out]
      rintro e w1 ⟨rfl, hb1⟩
      have hlt := hnx.lt hb hBs
      have hnx1 : KeepTwo b Bs W w1 := hnx.trans (KeepTwo.of_below hb1 hlt.1 hlt.2)
      have hcx1 : w1.cell? ⟨Bs, 0, none⟩ = some (.slice (some ⟨b, 0, none⟩) L.length cap) := (World.cell?_of_block hnx1.2).trans hBc
      have hJ1 : J pre w1 := hJ _ _ _ none hJs (only_of_below hb1 none) (fun r e => by cases e)
      clear HC hb1 g0 g1 g2 g3 hg hg1 hg2 hg3 hlen ha4 hcx hJs hnx
      by_cases hz : lenAt L k ≤ 1024
      · have hs0 : ∀ W, Calls Try.prog 11 #[.int .i64 (lenAt L k : Int)] W fun e w' => e = .returned (.int .i64 (4 + (lenAt L k : Int))) ∧ w' = W :=
          fun W => (size_any _ _).mono fun e w' ⟨h1, h2⟩ => ⟨by rw [h1, frSize, if_neg (by omega)], h2.symm⟩
        have H0 := Lib.hid hs0; clear hs0
        have hne : ((4 + (lenAt L k : Int)) == 0) = false := beq_eq_false_iff_ne.2 (by omega)
        by_cases hw : k + 4 + lenAt L k ≤ L.length
        · have hd : decide ((L.length : Int) - (k : Int) < 4 + (lenAt L k : Int)) = false := by simp; omega
          have hwr := win_run b (k + 4) (k + 4 + lenAt L k) L.length cap ((k : Int) + 4) ((k : Int) + 4 + (lenAt L k : Int)) (by omega) (by omega) (by omega) (by omega)
          gi_wp2_with fail
          gi_big_quiet_th ((gi_at_call 11; exact CallsIn.quiet_of_same (callsIn_wide.2 (H0.out _))))
          obtain ⟨fn, tmps, assign, body, hy, hR⟩ := hY pre ⟨(k + 4, k + 4 + lenAt L k), by simp; omega⟩ (w1.drewN nq) (hJ _ _ _ none hJ1 (only_drewN (World.grownBy.refl w1 none) nq) (fun r e => by cases e)) (by omega)
          have he : ((k + 4 + lenAt L k : Nat) : Int) = (k : Int) + 4 + (lenAt L k : Int) := by omega
          dsimp only at hy
          rw [he] at hy
          clear he hY
          gi_wp2
          refine hR.mono ?_
          rintro e W3 (⟨rfl, hJ3, hk3⟩ | ⟨rfl, hJx3⟩)
          · have hnx3 : KeepTwo b Bs W W3 := hnx1.trans hk3
            gi_wp2
            go_roundw
            case rel => exact ⟨k + 4 + lenAt L k, _, by omega, by simp, hJ3, hnx3, by rw [HS.out, spans_frame L k ⟨h4, hz, hw⟩]; simp, by simp; omega⟩
            case measure => simp [intOf]; omega
          · gi_wp2
            refine bodyPost_ret (results_none rfl _ _ _) rfl ?_
            exact ⟨⟨_, rfl⟩, .inr ⟨_, ⟨spans L (k + 4 + lenAt L k), by rw [HS.out, spans_frame L k ⟨h4, hz, hw⟩]; simp⟩, hJx3⟩⟩
        · have hd : decide ((L.length : Int) - (k : Int) < 4 + (lenAt L k : Int)) = true := by simp; omega
          gi_wp2_with fail
          gi_big_quiet_th ((gi_at_call 11; exact CallsIn.quiet_of_same (callsIn_wide.2 (H0.out _))))
          gi_wp2
          refine bodyPost_ret (results_none rfl _ _ _) rfl ?_
          exact ⟨⟨_, rfl⟩, .inl ⟨pre, by rw [HS.out, spans_none L k (fun h => hw h.2.2)]; simp, hJ _ _ _ none hJ1 (only_drewN (World.grownBy.refl w1 none) nq) (fun r e => by cases e)⟩⟩
      · have hs0 : ∀ W, Calls Try.prog 11 #[.int .i64 (lenAt L k : Int)] W fun e w' => e = .returned (.int .i64 0) ∧ w' = W :=
          fun W => (size_any _ _).mono fun e w' ⟨h1, h2⟩ => ⟨by rw [h1, frSize, if_pos (by omega)], h2.symm⟩
        have H0 := Lib.hid hs0; clear hs0
        gi_wp2_with fail
        gi_big_quiet_th ((gi_at_call 11; exact CallsIn.quiet_of_same (callsIn_wide.2 (H0.out _))))
        gi_wp2
        refine bodyPost_ret (results_none rfl _ _ _) rfl ?_
        exact ⟨⟨_, rfl⟩, .inl ⟨pre, by rw [HS.out, spans_none L k (fun h => hz h.2.1)]; simp, hJ _ _ _ none hJ1 (only_drewN (World.grownBy.refl w1 none) nq) (fun r e => by cases e)⟩⟩
    · have hd4 : decide ((4 : Int) ≤ (L.length : Int) - (k : Int)) = false := by simp; omega
      gi_wp2
      go_end0
      exact ⟨⟨_, rfl⟩, .inl ⟨pre, by rw [HS.out, spans_none L k (fun h => h4 h.1)]; simp, hJs⟩⟩
end Go.Proofs.Ytlojphajdefkdaa
