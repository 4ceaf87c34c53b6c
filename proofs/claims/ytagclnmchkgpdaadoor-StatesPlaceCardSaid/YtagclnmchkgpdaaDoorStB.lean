/-
  Layer 18: lists that rise; equal lists; copies of lists.
-/
import Derived.Test.YtagclnmchkgpdaaDoorStA
namespace Go.Proofs.YtagclnmchkgpdaaDoor
open Go.RowKit

set_option maxRecDepth 100000 in
set_option maxHeartbeats 1000000 in
theorem risingI_any (A : Option Addr) (l : List Int) (c B : Nat) (w : World) (hr : Reads w B 1 A l.length (cellsI .i64 l)) (hl : l.length ≤ 1000000) :
    Calls Tryd.prog 58 #[.slice A l.length c, .func (.func 53) #[] #[]] w fun e w' => e = .returned (.bool (adjB ltP l)) ∧ ∃ q, w' = w.drewN q := by
  have HR := Lib.hid hr
  clear hr
  go_enter Tryd.func58, Tryd.ntmps58
  go_wp2_with fail
  go_loopw [5] (fun x wr => ∃ k q : Nat, 1 ≤ k ∧ (k ≤ l.length ∨ k = 1) ∧ x = .int .i64 k ∧ wr = w.drewN q ∧ Adj ltP l k) (fun x _ => l.length - (intOf x).toNat)
  case atStart => exact ⟨1, 0, Nat.le_refl _, .inr rfl, rfl, rfl, Adj.one (Nat.le_refl _)⟩
  case round =>
    obtain ⟨k, q, hk1, hk, rfl, rfl, hadj⟩ := hrel
    have HADJ := Lib.hid hadj
    clear hadj
    by_cases hlt : k < l.length
    · have d1 : decide ((k : Int) < (l.length : Int)) = true := by simp; omega
      obtain ⟨b1, o1, rfl, _, hc1⟩ := HR.out.plain (by omega)
      obtain ⟨j, rfl⟩ : ∃ j, k = j + 1 := ⟨k - 1, by omega⟩
      obtain ⟨x, hx⟩ : ∃ z, l[j]? = some z := ⟨_, List.getElem?_eq_getElem (by omega)⟩
      obtain ⟨y, hy⟩ : ∃ z, l[j + 1]? = some z := ⟨_, List.getElem?_eq_getElem hlt⟩
      have g1 := hc1 j _ (by rw [getElem?_cellsI, hx]; rfl)
      have g2 := hc1 (j + 1) _ (by rw [getElem?_cellsI, hy]; rfl)
      have e1 : IntKind.i64.wrap (((j + 1 : Nat) : Int) - 1) = (j : Int) := by rw [show ((j + 1 : Nat) : Int) - 1 = (j : Int) by omega]; exact IntWalk.i64_in _ (by omega)
      have i1 : (0 : Int) ≤ (j : Int) := by omega
      have i2 : (j : Int) < (l.length : Int) := by omega
      have i3 : (0 : Int) ≤ ((j + 1 : Nat) : Int) := by omega
      have i4 : ((j + 1 : Nat) : Int) < (l.length : Int) := by omega
      have hstep : ltP x y → Adj ltP l (j + 1 + 1) := fun h => HADJ.out.step (by omega) hx hy h
      have hnot : ¬ ltP x y → adjB ltP l = false := fun h => adjB_false (Adj.not (n := j + 1) (by omega) hlt hx hy h)
      have HST := Lib.hid hstep
      have HNO := Lib.hid hnot
      clear hc1 hx hy hstep hnot
      have hcm := cmpI_neg x y
      by_cases hxy : x < y
      · have d2 : decide (0 ≤ cmpI x y) = false := by simp; omega
        clear hcm
        go_wp2_with fail
        go_quiet ((go_at_call 53; exact quiet_add_left (Compare_any _ _ _)))
        go_wp2_with fail
        go_roundw
        case rel => exact ⟨j + 1 + 1, _, by omega, by omega, by go_num, rfl, HST.out hxy⟩
        case measure => simp [intOf]; omega
      · have d2 : decide (0 ≤ cmpI x y) = true := by simp; omega
        clear hcm
        go_wp2_with fail
        go_quiet ((go_at_call 53; exact quiet_add_left (Compare_any _ _ _)))
        go_wp2_with fail
        go_ret
        exact ⟨ret_bool (HNO.out (by unfold ltP; omega)).symm, _, World.drewN_drewN ..⟩
    · have d1 : decide ((k : Int) < (l.length : Int)) = false := by simp; omega
      have hfin : adjB ltP l = true := adjB_true (by
        rcases hk with hk | hk
        · obtain rfl : k = l.length := by omega
          exact HADJ.out
        · exact Adj.one (by omega))
      have HF := Lib.hid hfin
      clear hfin
      go_wp2_with fail
      go_ret
      exact ⟨ret_bool HF.out.symm, _, rfl⟩

set_option maxRecDepth 100000 in
set_option maxHeartbeats 1000000 in
theorem risingP_any (A : Option Addr) (l : List Pd) (c : Nat) (w : World) (hr : Reads w w.heap.size 3 A l.length (cellsP l)) (hl : l.length ≤ 1000000) :
    Calls Tryd.prog 55 #[.slice A l.length c, .func (.func 56) #[] #[]] w fun e w' => e = .returned (.bool (adjB aheadP l)) ∧ Below w.heap.size w w' := by
  have HR := Lib.hid hr
  clear hr
  go_enter Tryd.func55, Tryd.ntmps55
  go_wp2_with fail
  go_loopw [5] (fun x wr => ∃ k : Nat, 1 ≤ k ∧ (k ≤ l.length ∨ k = 1) ∧ x = .int .i64 k ∧ Below w.heap.size w wr ∧ Adj aheadP l k) (fun x _ => l.length - (intOf x).toNat)
  case atStart => exact ⟨1, Nat.le_refl _, .inr rfl, rfl, Below.refl _ _, Adj.one (Nat.le_refl _)⟩
  case round =>
    obtain ⟨k, hk1, hk, rfl, hbel, hadj⟩ := hrel
    have HADJ := Lib.hid hadj
    have HBEL := Lib.hid hbel
    clear hadj hbel
    by_cases hlt : k < l.length
    · have d1 : decide ((k : Int) < (l.length : Int)) = true := by simp; omega
      obtain ⟨b1, o1, rfl, _, hc1⟩ := (HR.out.below HBEL.out).plain3 (by omega)
      obtain ⟨j, rfl⟩ : ∃ j, k = j + 1 := ⟨k - 1, by omega⟩
      obtain ⟨x, hx⟩ : ∃ z, l[j]? = some z := ⟨_, List.getElem?_eq_getElem (by omega)⟩
      obtain ⟨y, hy⟩ : ∃ z, l[j + 1]? = some z := ⟨_, List.getElem?_eq_getElem hlt⟩
      obtain ⟨g1, g2, g3⟩ := hc1 j _ hx
      obtain ⟨g4, g5, g6⟩ := hc1 (j + 1) _ hy
      have e1 : IntKind.i64.wrap (((j + 1 : Nat) : Int) - 1) = (j : Int) := by rw [show ((j + 1 : Nat) : Int) - 1 = (j : Int) by omega]; exact IntWalk.i64_in _ (by omega)
      have i1 : (0 : Int) ≤ (j : Int) := by omega
      have i2 : (j : Int) < (l.length : Int) := by omega
      have i3 : (0 : Int) ≤ ((j + 1 : Nat) : Int) := by omega
      have i4 : ((j + 1 : Nat) : Int) < (l.length : Int) := by omega
      have hstep : aheadP x y → Adj aheadP l (j + 1 + 1) := fun h => HADJ.out.step (by omega) hx hy h
      have hnot : ¬ aheadP x y → adjB aheadP l = false := fun h => adjB_false (Adj.not (n := j + 1) (by omega) hlt hx hy h)
      have HST := Lib.hid hstep
      have HNO := Lib.hid hnot
      have HBP := Lib.hid (fun W => byPlace_any x y W)
      clear hc1 hx hy hstep hnot
      have hcm := plI_neg x y
      by_cases hxy : aheadB x y = true
      · have d2 : decide (0 ≤ plI x y) = false := by
          have := hcm.2 hxy
          simp; omega
        have HXY := Lib.hid hxy
        clear hcm hxy
        go_wp2_with fail
        refine wp_region_qtail 10 (by kernel_rfl) (by kernel_rfl) ?_
        simp only [List.take_succ_cons, List.take_zero, List.drop_succ_cons, List.drop_zero]
        repeat (go_big_quiet_step (fail))
        refine wpQuiet_nil ?_
        go_wp2_with (go_at_call 56; refine (HBP.out _).mono ?_; rintro e w2 ⟨rfl, hb2⟩)
        go_roundw
        case rel => exact ⟨j + 1 + 1, by omega, by omega, by go_num, btrans HBEL.out.drew hb2, HST.out HXY.out⟩
        case measure => simp [intOf]; omega
      · have d2 : decide (0 ≤ plI x y) = true := by
          have h2 : ¬ plI x y < 0 := fun h => hxy (hcm.1 h)
          simp; omega
        have HXY := Lib.hid hxy
        clear hcm hxy
        go_wp2_with fail
        refine wp_region_qtail 10 (by kernel_rfl) (by kernel_rfl) ?_
        simp only [List.take_succ_cons, List.take_zero, List.drop_succ_cons, List.drop_zero]
        repeat (go_big_quiet_step (fail))
        refine wpQuiet_nil ?_
        go_wp2_with (go_at_call 56; refine (HBP.out _).mono ?_; rintro e w2 ⟨rfl, hb2⟩)
        go_ret
        exact ⟨ret_bool (HNO.out HXY.out).symm, btrans HBEL.out.drew hb2⟩
    · have d1 : decide ((k : Int) < (l.length : Int)) = false := by simp; omega
      have hfin : adjB aheadP l = true := adjB_true (by
        rcases hk with hk | hk
        · obtain rfl : k = l.length := by omega
          exact HADJ.out
        · exact Adj.one (by omega))
      have HF := Lib.hid hfin
      clear hfin
      go_wp2_with fail
      go_ret
      exact ⟨ret_bool HF.out.symm, HBEL.out⟩

set_option maxRecDepth 100000 in
set_option maxHeartbeats 1000000 in
theorem areParts_any (A : Option Addr) (l : List Int) (c B : Nat) (w : World) (hr : Reads w B 1 A l.length (cellsI .i64 l)) (hl : l.length ≤ 1000000) :
    Calls Tryd.prog 35 #[.slice A l.length c] w fun e w' => e = .returned (.bool (partsB l)) ∧ ∃ q, w' = w.drewN q := by
  have HRI := Lib.hid (risingI_any A l c B w hr hl)
  have HR := Lib.hid hr
  clear hr
  by_cases h0 : l.length = 0
  · have hfin : partsB l = adjB ltP l := by unfold partsB; simp [h0]
    have d0 : ((l.length : Int) == 0) = true := by rw [h0]; rfl
    have HF := Lib.hid hfin
    clear hfin h0
    go_enter Tryd.func35, Tryd.ntmps35
    go_wp2_with (go_at_call 58; refine HRI.out.mono ?_; rintro e w1 ⟨rfl, q, rfl⟩)
    all_goals (go_ret; exact ⟨ret_bool (by rw [HF.out]; simp [*]), _, rfl⟩)
  · have d0 : ((l.length : Int) == 0) = false := beq_eq_false_iff_ne.2 (by omega)
    obtain ⟨b1, o1, rfl, _, hc1⟩ := HR.out.plain (by omega)
    have hx : l[0]? = some (l.getD 0 0) := by rw [List.getD_eq_getElem?_getD, List.getElem?_eq_getElem (by omega)]; rfl
    have hy : l[l.length - 1]? = some (l.getD (l.length - 1) 0) := by rw [List.getD_eq_getElem?_getD, List.getElem?_eq_getElem (by omega)]; rfl
    have g1 := hc1 0 _ (by rw [getElem?_cellsI, hx]; rfl)
    rw [Nat.add_zero] at g1
    have g2 := hc1 (l.length - 1) _ (by rw [getElem?_cellsI, hy]; rfl)
    have hfin : partsB l = (adjB ltP l && (partB (l.getD 0 0) && partB (l.getD (l.length - 1) 0))) := by unfold partsB; simp [h0]
    have hlp : 0 < l.length := by omega
    have HF := Lib.hid hfin
    obtain ⟨n, hn⟩ : ∃ n, n = l.length - 1 := ⟨_, rfl⟩
    have hn2 : (l.length : Int) - 1 = (n : Int) := by omega
    rw [← hn] at g2 HF
    have hnl : n < l.length := by omega
    generalize l.getD 0 0 = x at *
    generalize l.getD n 0 = y at *
    generalize adjB ltP l = ab at *
    clear hfin h0 hc1 hx hy hn HR
    have P1 := Lib.hid (fun W => isPart_any x W)
    have P2 := Lib.hid (fun W => isPart_any y W)
    cases hab : ab
    · subst hab
      go_enter Tryd.func35, Tryd.ntmps35
      go_wp2_with (go_at_call 58; refine HRI.out.mono ?_; rintro e w1 ⟨rfl, q, rfl⟩)
      go_ret
      exact ⟨ret_bool (by rw [HF.out]; rfl), _, rfl⟩
    · subst hab
      go_enter Tryd.func35, Tryd.ntmps35
      go_wp2_with (go_at_call 58; refine HRI.out.mono ?_; rintro e w1 ⟨rfl, q, rfl⟩)
      refine (P1.out _).mono ?_
      rintro e w1 ⟨rfl, rfl⟩
      cases hpx : partB x
      · go_wp2_with fail
        go_ret
        exact ⟨ret_bool (by rw [HF.out]; simp [hpx]), _, rfl⟩
      · go_wp2_with fail
        refine (P2.out _).mono ?_
        rintro e w1 ⟨rfl, rfl⟩
        go_wp2_with fail
        go_ret
        exact ⟨ret_bool (by rw [HF.out]; simp [hpx]), _, rfl⟩
end Go.Proofs.YtagclnmchkgpdaaDoor
