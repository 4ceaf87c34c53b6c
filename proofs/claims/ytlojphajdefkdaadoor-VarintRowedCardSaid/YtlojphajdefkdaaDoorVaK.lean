/-
  The walk of VarintOnly.
-/
import Derived.Test.YtlojphajdefkdaaDoorVaI
import Derived.StillTailTactics
namespace Go.Proofs.YtlojphajdefkdaaDoor
open Go.RowKit

/-- A slice from a place up to another. -/
theorem cut_mid {P : Program} {t : TypeId} {w : World} {B n c : Nat} {A : Option Addr} {xs : List Value} (ht : P.underlying t = some (.slice (P.elem t))) (hs : ∀ W, (Go.sizeOf (P.elem t)).run P W = .ok 1 W)
    (h : Reads w B 1 A n xs) (lo hi : Nat) (hl : lo ≤ hi) (hk : hi ≤ n) (hc : n ≤ c) :
    ∃ A', (∀ (x y : Int) (W : World), x = lo → y = hi → (Instr.slice t (.slice A n c) (some (.int .i64 x)) (some (.int .i64 y)) none).run P W = .ok (.slice A' (hi - lo) (c - lo)) W) ∧ Reads w B 1 A' (hi - lo) ((xs.drop lo).take (hi - lo)) := by
  refine ⟨if c = lo then A else A.map (·.add (lo * 1)), fun x y W hx hy => ?_, ?_⟩
  · subst hx; subst hy
    rw [run_slice_lh W t A n c ht .i64 .i64 _ _ (by omega) (by omega) (by omega), hs]
    simp only [Result.andThen_ok, sliced, Int.toNat_natCast]
  · have h1 : Reads w B 1 (if c = lo then A else A.map (·.add (lo * 1))) (n - lo) (xs.drop lo) := by simpa using h.cut (show lo ≤ n by omega) hc
    exact (cut_upto (c := c) ht hs h1 (hi - lo) (by omega) (by omega)).2

set_option maxRecDepth 100000 in
set_option maxHeartbeats 1000000 in
theorem only_walk (A : Option Addr) (l : List UInt8) (c : Nat) (k : Int) (w : World) (hr : Reads w w.heap.size 1 A l.length (cellsB l)) (hl : l.length ≤ 140737488351232) (hlc : l.length ≤ c) (hg : HasErr w) :
    Calls Tryd.prog 5 #[.slice A l.length c, .int .i64 k] w fun e w' => e = .returned (.bool true) ∧ Below w.heap.size w w' := by
  by_cases hbig : 2000 < l.length
  · have hd : decide ((2000 : Int) < (l.length : Int)) = true := by simp; omega
    have HWK := Lib.hid (wakes_any w hg)
    clear hr hg
    go_enter Tryd.func5, Tryd.ntmps5
    go_wp2_with (go_at_call 9; refine HWK.out.mono ?_; rintro e w' ⟨rfl, hb⟩)
    go_ret
    exact ⟨rfl, hb⟩
  · have hd : decide ((2000 : Int) < (l.length : Int)) = false := by simp; omega
    have HGet := Lib.hid (Get_any A l c k w (by omega) hg hr)
    have HG := Lib.hid hg
    have HR := Lib.hid hr
    clear hr hg
    by_cases hbad : getOf l k = (0, 0, 70)
    · have HB := Lib.hid hbad
      clear hbad
      have HWK := Lib.hid (fun W (h : HasErr W) => wakes_any W h)
      go_enter Tryd.func5, Tryd.ntmps5
      go_wp2_with (first | (go_at_call 12; refine HGet.out.mono ?_; rintro e w1 ⟨he, hb1⟩; rw [HB.out] at he; subst he; have HG1 := Lib.hid (HG.out.below hb1 HG.out.lt)) | (go_at_call 9; refine (HWK.out _ HG1.out).mono ?_; rintro e w' ⟨rfl, hb⟩))
      go_ret
      exact ⟨rfl, hb1.trans (hb.mono hb1.size)⟩
    · obtain ⟨p, n, m, rfl, hp, hdec⟩ : ∃ p n m : Nat, k = (p : Int) ∧ p ≤ l.length ∧ dec (l.drop p) = some (n, m) := by
        by_cases hk : k < 0 ∨ (l.length : Int) < k
        · exact absurd (by unfold getOf; rw [if_pos hk]) hbad
        · obtain ⟨p, rfl⟩ := Int.eq_ofNat_of_zero_le (show 0 ≤ k by omega)
          cases hd : dec (l.drop p) with
          | none => exact absurd (getOf_bad l p hd (by omega)) hbad
          | some q => exact ⟨p, q.1, q.2, rfl, by omega, hd⟩
      have hgo := getOf_ok l p n m hdec hp
      obtain ⟨hn, hm0, hm6, hml, htk⟩ := dec_only _ _ _ hdec
      rw [List.length_drop] at hml
      have HGO := Lib.hid hgo
      have HPut := Lib.hid (fun W => Put_ok none [] 0 n W Reads.none_ (by decide) hn)
      have HWK := Lib.hid (fun W (h : HasErr W) => wakes_any W h)
      have d1 : decide ((p : Int) < 0) = false := by simp
      have d2 : decide ((p : Int) + m ≤ p) = false := by simp; omega
      have d3 : decide ((l.length : Int) < (p : Int) + m) = false := by simp; omega
      clear hbad hgo hdec
      go_enter Tryd.func5, Tryd.ntmps5
      go_wp2_with (first | (go_at_call 12; refine HGet.out.mono ?_; rintro e w1 ⟨he, hb1⟩; rw [HGO.out] at he; subst he; have HG1 := Lib.hid (HG.out.below hb1 HG.out.lt)) | (go_at_call 10; refine (HPut.out _).mono ?_; rintro e w2 ⟨A2, c2, rfl, r2, _, hb2⟩))
      rw [List.nil_append] at r2
      have b12 := hb1.trans (hb2.mono hb1.size)
      obtain ⟨A3, hcut, r3⟩ := cut_mid (P := Tryd.prog) (t := 22) Tryd.underlying22 (fun _ => by kernel_rfl) (HR.out.below b12) p (p + m) (by omega) (by omega) hlc
      rw [show p + m - p = m by omega] at hcut r3
      rw [cellsB_drop, cellsB_take, htk] at r3
      have hcv1 := run_string_of (c := c2) (w := w2.drew) Tryd.underlying22 Tryd.underlying5 Tryd.underlying9 r2
      have hcv2 := run_string_of (c := c - p) (w := w2.drew) Tryd.underlying22 Tryd.underlying5 Tryd.underlying9 r3
      have hcut' := fun W => hcut (p : Int) ((p : Int) + m) W rfl (by omega)
      have HG2 := Lib.hid (show HasErr w2.drew from HG1.out.below hb2.drew HG1.out.lt)
      go_still_tail 13, (by kernel_rfl)
      go_wp2_with (go_at_call 9; refine (HWK.out _ HG2.out).mono ?_; rintro e w3 ⟨rfl, hb3⟩)
      go_ret
      have b3' := b12.drew
      exact ⟨rfl, b3'.trans (hb3.mono b3'.size)⟩
end Go.Proofs.YtlojphajdefkdaaDoor
