/-
  Layer 18: equal lists; copies of lists; the document's rise.
  Layer 18: lists that rise; equal lists; copies of lists.
-/
import Derived.Test.YtagclnmchkgpdaaGrp02
set_option linter.unusedVariables false
set_option linter.unusedSimpArgs false
namespace Go.Proofs.Ytagclnmchkgpdaa
open Go.RowKit

set_option maxRecDepth 100000 in
set_option maxHeartbeats 1000000 in
theorem risingI_any (A : Option Addr) (l : List Int) (c B : Nat) (w : World) (hr : Reads w B 1 A l.length (cellsI .i64 l)) (hl : l.length ≤ 1000000) :
    Calls Try.prog 58 #[.slice A l.length c, .func (.func 59) #[] #[]] w fun e w' => e = .returned (.bool (adjB ltP l)) ∧ ∃ q, w' = w.drewN q := by
  have HR := Lib.hid hr
  clear hr
  go_enter Try.func58, Try.ntmps58
  go_wp2_with fail
  go_loopw [5] (fun x wr => ∃ k q : Nat, 1 ≤ k ∧ (k ≤ l.length ∨ k = 1) ∧ x = .int .i64 k ∧ wr = w.drewN q ∧ Adj ltP l k) (fun x _ => l.length - (intOf x).toNat)
  case atStart => exact ⟨1, 0, Nat.le_refl _, .inr rfl, rfl, rfl, Adj.one (Nat.le_refl _)⟩
  case round =>
    obtain ⟨k, q, hk1, hk, rfl, rfl, hadj⟩ := hrel
    have HADJ := Lib.hid hadj
    clear hadj
    by_cases hlt : k < l.length
    · have d1 : decide ((k : Int) < (l.length : Int)) = true := by simp; omega
      obtain ⟨b1, o1, rfl, _, hc1⟩ := HR.out.plain (by omega)
      obtain ⟨j, rfl⟩ : ∃ j, k = j + 1 := ⟨k - 1, by omega⟩
      obtain ⟨x, hx⟩ : ∃ z, l[j]? = some z := ⟨_, List.getElem?_eq_getElem (by omega)⟩
      obtain ⟨y, hy⟩ : ∃ z, l[j + 1]? = some z := ⟨_, List.getElem?_eq_getElem hlt⟩
      have g1 := hc1 j _ (by rw [getElem?_cellsI, hx]; rfl)
      have g2 := hc1 (j + 1) _ (by rw [getElem?_cellsI, hy]; rfl)
      have e1 : IntKind.i64.wrap (((j + 1 : Nat) : Int) - 1) = (j : Int) := by rw [show ((j + 1 : Nat) : Int) - 1 = (j : Int) by omega]; exact IntWalk.i64_in _ (by omega)
      have i1 : (0 : Int) ≤ (j : Int) := by omega
      have i2 : (j : Int) < (l.length : Int) := by omega
      have i3 : (0 : Int) ≤ ((j + 1 : Nat) : Int) := by omega
      have i4 : ((j + 1 : Nat) : Int) < (l.length : Int) := by omega
      have hstep : ltP x y → Adj ltP l (j + 1 + 1) := fun h => HADJ.out.step (by omega) hx hy h
      have hnot : ¬ ltP x y → adjB ltP l = false := fun h => adjB_false (Adj.not (n := j + 1) (by omega) hlt hx hy h)
      have HST := Lib.hid hstep
      have HNO := Lib.hid hnot
      clear hc1 hx hy hstep hnot
      have hcm := cmpI_neg x y
      by_cases hxy : x < y
      · have d2 : decide (0 ≤ cmpI x y) = false := by simp; omega
        clear hcm
        go_wp2_with fail
        go_quiet ((go_at_call 59; exact quiet_add_left (Compare_any _ _ _)))
        go_wp2_with fail
        go_roundw
        case rel => exact ⟨j + 1 + 1, _, by omega, by omega, by go_num, rfl, HST.out hxy⟩
        case measure => simp [intOf]; omega
      · have d2 : decide (0 ≤ cmpI x y) = true := by simp; omega
        clear hcm
        go_wp2_with fail
        go_quiet ((go_at_call 59; exact quiet_add_left (Compare_any _ _ _)))
        go_wp2_with fail
        go_ret
        exact ⟨ret_bool (HNO.out (by unfold ltP; omega)).symm, _, World.drewN_drewN ..⟩
    · have d1 : decide ((k : Int) < (l.length : Int)) = false := by simp; omega
      have hfin : adjB ltP l = true := adjB_true (by
        rcases hk with hk | hk
        · obtain rfl : k = l.length := by omega
          exact HADJ.out
        · exact Adj.one (by omega))
      have HF := Lib.hid hfin
      clear hfin
      go_wp2_with fail
      go_ret
      exact ⟨ret_bool HF.out.symm, _, rfl⟩

set_option maxRecDepth 100000 in
set_option maxHeartbeats 1000000 in
theorem risingP_any (A : Option Addr) (l : List Pd) (c : Nat) (w : World) (hr : Reads w w.heap.size 3 A l.length (cellsP l)) (hl : l.length ≤ 1000000) :
    Calls Try.prog 54 #[.slice A l.length c, .func (.func 55) #[] #[]] w fun e w' => e = .returned (.bool (adjB aheadP l)) ∧ Below w.heap.size w w' := by
  have HR := Lib.hid hr
  clear hr
  go_enter Try.func54, Try.ntmps54
  go_wp2_with fail
  go_loopw [5] (fun x wr => ∃ k : Nat, 1 ≤ k ∧ (k ≤ l.length ∨ k = 1) ∧ x = .int .i64 k ∧ Below w.heap.size w wr ∧ Adj aheadP l k) (fun x _ => l.length - (intOf x).toNat)
  case atStart => exact ⟨1, Nat.le_refl _, .inr rfl, rfl, Below.refl _ _, Adj.one (Nat.le_refl _)⟩
  case round =>
    obtain ⟨k, hk1, hk, rfl, hbel, hadj⟩ := hrel
    have HADJ := Lib.hid hadj
    have HBEL := Lib.hid hbel
    clear hadj hbel
    by_cases hlt : k < l.length
    · have d1 : decide ((k : Int) < (l.length : Int)) = true := by simp; omega
      obtain ⟨b1, o1, rfl, _, hc1⟩ := (HR.out.below HBEL.out).plain3 (by omega)
      obtain ⟨j, rfl⟩ : ∃ j, k = j + 1 := ⟨k - 1, by omega⟩
      obtain ⟨x, hx⟩ : ∃ z, l[j]? = some z := ⟨_, List.getElem?_eq_getElem (by omega)⟩
      obtain ⟨y, hy⟩ : ∃ z, l[j + 1]? = some z := ⟨_, List.getElem?_eq_getElem hlt⟩
      obtain ⟨g1, g2, g3⟩ := hc1 j _ hx
      obtain ⟨g4, g5, g6⟩ := hc1 (j + 1) _ hy
      have e1 : IntKind.i64.wrap (((j + 1 : Nat) : Int) - 1) = (j : Int) := by rw [show ((j + 1 : Nat) : Int) - 1 = (j : Int) by omega]; exact IntWalk.i64_in _ (by omega)
      have i1 : (0 : Int) ≤ (j : Int) := by omega
      have i2 : (j : Int) < (l.length : Int) := by omega
      have i3 : (0 : Int) ≤ ((j + 1 : Nat) : Int) := by omega
      have i4 : ((j + 1 : Nat) : Int) < (l.length : Int) := by omega
      have hstep : aheadP x y → Adj aheadP l (j + 1 + 1) := fun h => HADJ.out.step (by omega) hx hy h
      have hnot : ¬ aheadP x y → adjB aheadP l = false := fun h => adjB_false (Adj.not (n := j + 1) (by omega) hlt hx hy h)
      have HST := Lib.hid hstep
      have HNO := Lib.hid hnot
      have HBP := Lib.hid (fun W => byPlace_any x y W)
      clear hc1 hx hy hstep hnot
      have hcm := plI_neg x y
      by_cases hxy : aheadB x y = true
      · have d2 : decide (0 ≤ plI x y) = false := by
          have := hcm.2 hxy
          simp; omega
        have HXY := Lib.hid hxy
        clear hcm hxy
        go_wp2_with fail
        refine wp_region_qtail 10 (by kernel_rfl) (by kernel_rfl) ?_
        simp only [List.take_succ_cons, List.take_zero, List.drop_succ_cons, List.drop_zero]
        repeat (go_big_quiet_step (fail))
        refine wpQuiet_nil ?_
        go_wp2_with (go_at_call 55; refine (HBP.out _).mono ?_; rintro e w2 ⟨rfl, hb2⟩)
        go_roundw
        case rel => exact ⟨j + 1 + 1, by omega, by omega, by go_num, btrans HBEL.out.drew hb2, HST.out HXY.out⟩
        case measure => simp [intOf]; omega
      · have d2 : decide (0 ≤ plI x y) = true := by
          have h2 : ¬ plI x y < 0 := fun h => hxy (hcm.1 h)
          simp; omega
        have HXY := Lib.hid hxy
        clear hcm hxy
        go_wp2_with fail
        refine wp_region_qtail 10 (by kernel_rfl) (by kernel_rfl) ?_
        simp only [List.take_succ_cons, List.take_zero, List.drop_succ_cons, List.drop_zero]
        repeat (go_big_quiet_step (fail))
        refine wpQuiet_nil ?_
        go_wp2_with (go_at_call 55; refine (HBP.out _).mono ?_; rintro e w2 ⟨rfl, hb2⟩)
        go_ret
        exact ⟨ret_bool (HNO.out HXY.out).symm, btrans HBEL.out.drew hb2⟩
    · have d1 : decide ((k : Int) < (l.length : Int)) = false := by simp; omega
      have hfin : adjB aheadP l = true := adjB_true (by
        rcases hk with hk | hk
        · obtain rfl : k = l.length := by omega
          exact HADJ.out
        · exact Adj.one (by omega))
      have HF := Lib.hid hfin
      clear hfin
      go_wp2_with fail
      go_ret
      exact ⟨ret_bool HF.out.symm, HBEL.out⟩

set_option maxRecDepth 100000 in
set_option maxHeartbeats 1000000 in
theorem areParts_any (A : Option Addr) (l : List Int) (c B : Nat) (w : World) (hr : Reads w B 1 A l.length (cellsI .i64 l)) (hl : l.length ≤ 1000000) :
    Calls Try.prog 53 #[.slice A l.length c] w fun e w' => e = .returned (.bool (partsB l)) ∧ ∃ q, w' = w.drewN q := by
  have HRI := Lib.hid (risingI_any A l c B w hr hl)
  have HR := Lib.hid hr
  clear hr
  by_cases h0 : l.length = 0
  · have hfin : partsB l = adjB ltP l := by unfold partsB; simp [h0]
    have d0 : ((l.length : Int) == 0) = true := by rw [h0]; rfl
    have HF := Lib.hid hfin
    clear hfin h0
    go_enter Try.func53, Try.ntmps53
    go_wp2_with (go_at_call 58; refine HRI.out.mono ?_; rintro e w1 ⟨rfl, q, rfl⟩)
    all_goals (go_ret; exact ⟨ret_bool (by rw [HF.out]; simp [*]), _, rfl⟩)
  · have d0 : ((l.length : Int) == 0) = false := beq_eq_false_iff_ne.2 (by omega)
    obtain ⟨b1, o1, rfl, _, hc1⟩ := HR.out.plain (by omega)
    have hx : l[0]? = some (l.getD 0 0) := by rw [List.getD_eq_getElem?_getD, List.getElem?_eq_getElem (by omega)]; rfl
    have hy : l[l.length - 1]? = some (l.getD (l.length - 1) 0) := by rw [List.getD_eq_getElem?_getD, List.getElem?_eq_getElem (by omega)]; rfl
    have g1 := hc1 0 _ (by rw [getElem?_cellsI, hx]; rfl)
    rw [Nat.add_zero] at g1
    have g2 := hc1 (l.length - 1) _ (by rw [getElem?_cellsI, hy]; rfl)
    have hfin : partsB l = (adjB ltP l && (partB (l.getD 0 0) && partB (l.getD (l.length - 1) 0))) := by unfold partsB; simp [h0]
    have hlp : 0 < l.length := by omega
    have HF := Lib.hid hfin
    obtain ⟨n, hn⟩ : ∃ n, n = l.length - 1 := ⟨_, rfl⟩
    have hn2 : (l.length : Int) - 1 = (n : Int) := by omega
    rw [← hn] at g2 HF
    have hnl : n < l.length := by omega
    generalize l.getD 0 0 = x at *
    generalize l.getD n 0 = y at *
    generalize adjB ltP l = ab at *
    clear hfin h0 hc1 hx hy hn HR
    have P1 := Lib.hid (fun W => isPart_any x W)
    have P2 := Lib.hid (fun W => isPart_any y W)
    cases hab : ab
    · subst hab
      go_enter Try.func53, Try.ntmps53
      go_wp2_with (go_at_call 58; refine HRI.out.mono ?_; rintro e w1 ⟨rfl, q, rfl⟩)
      go_ret
      exact ⟨ret_bool (by rw [HF.out]; rfl), _, rfl⟩
    · subst hab
      go_enter Try.func53, Try.ntmps53
      go_wp2_with (go_at_call 58; refine HRI.out.mono ?_; rintro e w1 ⟨rfl, q, rfl⟩)
      refine (P1.out _).mono ?_
      rintro e w1 ⟨rfl, rfl⟩
      cases hpx : partB x
      · go_wp2_with fail
        go_ret
        exact ⟨ret_bool (by rw [HF.out]; simp [hpx]), _, rfl⟩
      · go_wp2_with fail
        refine (P2.out _).mono ?_
        rintro e w1 ⟨rfl, rfl⟩
        go_wp2_with fail
        go_ret
        exact ⟨ret_bool (by rw [HF.out]; simp [hpx]), _, rfl⟩
end Go.Proofs.Ytagclnmchkgpdaa
namespace Go.Proofs.Ytagclnmchkgpdaa
open Go.RowKit

theorem eqPend (a b : Pd) (w : World) : (Op.equalIn 10000 53 (.agg #[.int .i64 a.1, .int .i64 a.2.1, .int .i64 a.2.2]) (.agg #[.int .i64 b.1, .int .i64 b.2.1, .int .i64 b.2.2])).run Try.prog w = .ok (decide (a = b)) w := by
  have u3 := Try.underlying3
  have hS : Try.prog.underlying 53 = some (.struct (Try.prog.fieldsOf 53)) := by kernel_rfl
  have hp : Try.prog.stoodInHeld 53 = false := by kernel_rfl
  have a3 := Try.isAgg3
  have z3 := Try.sizeOf3
  obtain ⟨a1, a2, a4⟩ := a
  obtain ⟨b1, b2, b4⟩ := b
  rw [show (10000 : Nat) = 9999 + 1 from rfl, run_equalIn_agg w 9999 53 _ _ hS hp]
  simp only [Program.fieldsOf, Try.underlying53]
  go_simp
  by_cases h1 : a1 = b1 <;> by_cases h2 : a2 = b2 <;> by_cases h3 : a4 = b4 <;> simp [h1, h2, h3]

set_option maxRecDepth 100000 in
set_option maxHeartbeats 1000000 in
theorem EqualI_any (A1 A2 : Option Addr) (l1 l2 : List Int) (c1 c2 B1 B2 : Nat) (w : World) (h1 : Reads w B1 1 A1 l1.length (cellsI .i64 l1)) (h2 : Reads w B2 1 A2 l2.length (cellsI .i64 l2)) (hl : l1.length ≤ 1000000) :
    Calls Try.prog 50 #[.slice A1 l1.length c1, .slice A2 l2.length c2] w fun e w' => e = .returned (.bool (decide (l1 = l2))) ∧ ∃ q, w' = w.drewN q := by
  by_cases hlen : l1.length = l2.length
  · have d0 : ((l1.length : Int) != (l2.length : Int)) = false := by rw [hlen]; simp
    have HH1 := Lib.hid h1
    have HH2 := Lib.hid h2
    have HLEN := Lib.hid hlen
    have hl2 : l1.length ≤ l2.length := by omega
    have hl3 : l2.length ≤ l1.length := by omega
    clear h1 h2 hlen
    go_enter Try.func50, Try.ntmps50
    go_wp2_with fail
    go_loopw [13] (fun y wr => ∃ k q : Nat, k ≤ l1.length ∧ y = .int .i64 k ∧ wr = w.drewN q ∧ l1.take k = l2.take k) (fun y _ => l1.length - (intOf y).toNat)
    case atStart => exact ⟨0, 0, Nat.zero_le _, rfl, rfl, by simp⟩
    case round =>
      obtain ⟨k, q, hk, rfl, rfl, htk⟩ := hrel
      have HTK := Lib.hid htk
      clear htk
      by_cases hlt : k < l1.length
      · have d1 : decide ((k : Int) < (l1.length : Int)) = true := by simp; omega
        obtain ⟨b1, o1, rfl, _, hc1⟩ := HH1.out.plain (by omega)
        obtain ⟨b2, o2, rfl, _, hc2⟩ := HH2.out.plain (by omega)
        obtain ⟨x, hx⟩ : ∃ z, l1[k]? = some z := ⟨_, List.getElem?_eq_getElem hlt⟩
        obtain ⟨y, hy⟩ : ∃ z, l2[k]? = some z := ⟨_, List.getElem?_eq_getElem (by omega)⟩
        have g1 := hc1 k _ (by rw [getElem?_cellsI, hx]; rfl)
        have g2 := hc2 k _ (by rw [getElem?_cellsI, hy]; rfl)
        have i1 : (0 : Int) ≤ (k : Int) := by omega
        have i2 : (k : Int) < (l1.length : Int) := by omega
        have i3 : (k : Int) < (l2.length : Int) := by omega
        have hts := take_snoc_eq HTK.out hx hy
        have HTS := Lib.hid hts
        have HX := Lib.hid hx
        have HY := Lib.hid hy
        clear hc1 hc2 hx hy hts
        by_cases hxy : x = y
        · subst hxy
          have d2 : (x != x) = false := by simp
          go_wp2_with fail
          go_quiet (fail)
          go_wp2_with fail
          go_roundw
          case rel => exact ⟨k + 1, _, by omega, by go_num, rfl, HTS.out.2 trivial⟩
          case measure => simp [intOf]; omega
        · have d2 : (x != y) = true := by simpa using hxy
          have hne : l1 ≠ l2 := ne_of_at HX.out HY.out hxy
          have hf : decide (l1 = l2) = false := by simpa using hne
          have HF := Lib.hid hf
          clear hne hf hxy
          go_wp2_with fail
          go_quiet (fail)
          go_wp2_with fail
          go_ret
          exact ⟨by rw [HF.out]; rfl, _, World.drewN_drewN ..⟩
      · obtain rfl : k = l1.length := by omega
        have d1 : decide ((l1.length : Int) < (l1.length : Int)) = false := by simp
        have he : l1 = l2 := by
          have h3 := HTK.out
          rw [List.take_length, HLEN.out, List.take_length] at h3
          exact h3
        have hf : decide (l1 = l2) = true := by simpa using he
        have HF := Lib.hid hf
        clear he hf
        go_wp2_with fail
        go_ret
        exact ⟨by rw [HF.out]; rfl, _, rfl⟩
  · have d0 : ((l1.length : Int) != (l2.length : Int)) = true := by simp; omega
    have hne : ¬ l1 = l2 := fun h => hlen (by rw [h])
    have hf : decide (l1 = l2) = false := by simpa using hne
    have HF := Lib.hid hf
    clear hf hne hlen h1 h2
    go_enter Try.func50, Try.ntmps50
    go_wp2_with fail
    go_ret
    exact ⟨by rw [HF.out]; rfl, 0, rfl⟩

set_option maxRecDepth 100000 in
set_option maxHeartbeats 1000000 in
theorem EqualP_any (A1 A2 : Option Addr) (l1 l2 : List Pd) (c1 c2 B1 B2 : Nat) (w : World) (h1 : Reads w B1 3 A1 l1.length (cellsP l1)) (h2 : Reads w B2 3 A2 l2.length (cellsP l2)) (hl : l1.length ≤ 1000000) :
    Calls Try.prog 51 #[.slice A1 l1.length c1, .slice A2 l2.length c2] w fun e w' => e = .returned (.bool (decide (l1 = l2))) ∧ ∃ q, w' = w.drewN q := by
  have hm : Try.prog.eqGuardType Try.prog.depth 53 = false := by kernel_rfl
  by_cases hlen : l1.length = l2.length
  · have d0 : ((l1.length : Int) != (l2.length : Int)) = false := by rw [hlen]; simp
    have HH1 := Lib.hid h1
    have HH2 := Lib.hid h2
    have HLEN := Lib.hid hlen
    have hl2 : l1.length ≤ l2.length := by omega
    have hl3 : l2.length ≤ l1.length := by omega
    clear h1 h2 hlen
    go_enter Try.func51, Try.ntmps51
    go_wp2_with fail
    go_loopw [13] (fun y wr => ∃ k q : Nat, k ≤ l1.length ∧ y = .int .i64 k ∧ wr = w.drewN q ∧ l1.take k = l2.take k) (fun y _ => l1.length - (intOf y).toNat)
    case atStart => exact ⟨0, 0, Nat.zero_le _, rfl, rfl, by simp⟩
    case round =>
      obtain ⟨k, q, hk, rfl, rfl, htk⟩ := hrel
      have HTK := Lib.hid htk
      clear htk
      by_cases hlt : k < l1.length
      · have d1 : decide ((k : Int) < (l1.length : Int)) = true := by simp; omega
        obtain ⟨b1, o1, rfl, _, hc1⟩ := HH1.out.plain3 (by omega)
        obtain ⟨b2, o2, rfl, _, hc2⟩ := HH2.out.plain3 (by omega)
        obtain ⟨x, hx⟩ : ∃ z, l1[k]? = some z := ⟨_, List.getElem?_eq_getElem hlt⟩
        obtain ⟨y, hy⟩ : ∃ z, l2[k]? = some z := ⟨_, List.getElem?_eq_getElem (by omega)⟩
        obtain ⟨g1, g2, g3⟩ := hc1 k _ hx
        obtain ⟨g4, g5, g6⟩ := hc2 k _ hy
        have heq := fun W => eqPend x y W
        have i1 : (0 : Int) ≤ (k : Int) := by omega
        have i2 : (k : Int) < (l1.length : Int) := by omega
        have i3 : (k : Int) < (l2.length : Int) := by omega
        have hts := take_snoc_eq HTK.out hx hy
        have HTS := Lib.hid hts
        have HX := Lib.hid hx
        have HY := Lib.hid hy
        clear hc1 hc2 hx hy hts
        by_cases hxy : x = y
        · have HXY := Lib.hid hxy
          rw [decide_eq_true hxy] at heq
          clear hxy
          go_wp2_with fail
          go_quiet (fail)
          go_wp2_with fail
          go_roundw
          case rel => exact ⟨k + 1, _, by omega, by go_num, rfl, HTS.out.2 HXY.out⟩
          case measure => simp [intOf]; omega
        · rw [decide_eq_false hxy] at heq
          have hne : l1 ≠ l2 := ne_of_at HX.out HY.out hxy
          have hf : decide (l1 = l2) = false := by simpa using hne
          have HF := Lib.hid hf
          clear hne hf hxy
          go_wp2_with fail
          go_quiet (fail)
          go_wp2_with fail
          go_ret
          exact ⟨by rw [HF.out]; rfl, _, World.drewN_drewN ..⟩
      · obtain rfl : k = l1.length := by omega
        have d1 : decide ((l1.length : Int) < (l1.length : Int)) = false := by simp
        have he : l1 = l2 := by
          have h3 := HTK.out
          rw [List.take_length, HLEN.out, List.take_length] at h3
          exact h3
        have hf : decide (l1 = l2) = true := by simpa using he
        have HF := Lib.hid hf
        clear he hf
        go_wp2_with fail
        go_ret
        exact ⟨by rw [HF.out]; rfl, _, rfl⟩
  · have d0 : ((l1.length : Int) != (l2.length : Int)) = true := by simp; omega
    have hne : ¬ l1 = l2 := fun h => hlen (by rw [h])
    have hf : decide (l1 = l2) = false := by simpa using hne
    have HF := Lib.hid hf
    clear hf hne hlen h1 h2
    go_enter Try.func51, Try.ntmps51
    go_wp2_with fail
    go_ret
    exact ⟨by rw [HF.out]; rfl, 0, rfl⟩
end Go.Proofs.Ytagclnmchkgpdaa
