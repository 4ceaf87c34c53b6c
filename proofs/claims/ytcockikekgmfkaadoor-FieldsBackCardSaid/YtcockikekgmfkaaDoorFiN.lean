/-
  Layer 2: the law's own reads: are fields just those of some bytes?
-/
import Derived.Test.YtcockikekgmfkaaDoorFiM
import Derived.Test.YtcockikekgmfkaaDoorOpF
import Derived.Test.YtcockikekgmfkaaDoorOr
namespace Go.Proofs.YtcockikekgmfkaaDoor
open Go.RowKit
attribute [local go_sem ↓] Go.wp_at_zero Go.wp_at_succ

theorem stepF_le {l : List UInt8} {x : Fld} {i j : Nat} (h : stepF l x i = some j) (hi : i ≤ l.length) : j ≤ l.length := by
  unfold stepF at h
  split at h
  · split at h
    · injection h with h; subst h; exact rdNum_le false _ _ hi
    · cases h
  · split at h
    · split at h
      · injection h with h; subst h; exact rdTxt_le false _ hi
      · cases h
    · split at h
      · injection h with h; subst h; exact rdFlag_le false hi
      · cases h
theorem readsF_step {l : List UInt8} {xs : List Fld} {k i : Nat} {x : Fld} (hx : xs[k]? = some x) : readsF l (xs.drop k) i = match stepF l x i with | some j => readsF l (xs.drop (k + 1)) j | none => false := by
  obtain ⟨h1, h2⟩ := List.getElem?_eq_some_iff.1 hx
  rw [List.drop_eq_getElem_cons h1, h2]
  rfl
/-- Where the reading stands. -/
def RdSt (s : ByteArray) (l : List Fld) (g k : Nat) (w W : World) : Prop :=
  ∃ i : Nat, RdB W g s i false ∧ i ≤ s.size ∧ readsF (lb s) (l.drop k) i = readsF (lb s) l 0 ∧ Below w.heap.size w W

set_option maxRecDepth 100000 in
set_option maxHeartbeats 8000000 in
theorem reads_any (s : ByteArray) (A : Option Addr) (l : List Fld) (c : Nat) (w : World) (hg : HasET w) (hr : Reads w w.heap.size 3 A l.length (cellsF l)) (hs : s.size ≤ 1000000) (hl : l.length ≤ 100) :
    Calls Tryd.prog 47 #[.string s, .slice A l.length c] w fun e w' => e = .returned (.bool (readsF (lb s) l 0)) ∧ Below w.heap.size w w' := by
  have HG := Lib.hid hg
  have HR := Lib.hid hr
  clear hr hg
  obtain ⟨RF, hRF⟩ : ∃ RF, RF = readsF (lb s) l 0 := ⟨_, rfl⟩
  rw [← hRF]
  have HRF := Lib.hid hRF
  clear hRF
  have hsz : s.size = (lb s).length := (length_lb s).symm
  have HSZ := Lib.hid hsz
  clear hsz
  go_enter Tryd.func47, Tryd.ntmps47
  go_wp2_with fail
  refine (RNew_any s w).mono ?_
  rintro e w1 ⟨rfl, rfl⟩
  have t0 : RdSt s l w.heap.size 0 w (w.alloc (.cells #[.string s, .int .i64 0, .bool false] 35)) :=
    ⟨0, blk_new _ _ _ rfl, Nat.zero_le _, rfl, bal (Below.refl _ _) _⟩
  have T0 := Lib.hid t0
  clear t0
  go_wp2_with fail
  go_loopg [6] l.length (fun m i wr => ∃ k : Nat, k ≤ l.length ∧ i = .int .i64 k ∧ m = l.length - k ∧ RdSt s l w.heap.size k w wr)
  case atStart => exact ⟨0, Nat.zero_le _, rfl, rfl, T0.out⟩
  case round =>
    obtain ⟨k, hk, rfl, hm, ht⟩ := hrel
    have HM := Lib.hid hm
    have HT := Lib.hid ht
    clear hm ht
    by_cases hlt : k < l.length
    · obtain ⟨p, hp⟩ : ∃ p, l[k]? = some p := ⟨_, List.getElem?_eq_getElem hlt⟩
      obtain ⟨i, k1, hi, hrd, bW⟩ := HT.out
      obtain ⟨b1, o1, rfl, hb1, hc1⟩ := HR.out.plainF (by omega)
      obtain ⟨x0, x1, x2⟩ := hc1 k p hp
      have y0 := (bW.cell (p := ⟨b1, o1 + k * 3, none⟩) hb1).trans x0
      have y1 := (bW.cell (p := ⟨b1, o1 + k * 3 + 1, none⟩) hb1).trans x1
      have y2 := (bW.cell (p := ⟨b1, o1 + k * 3 + 2, none⟩) hb1).trans x2
      have i1 : (0 : Int) ≤ (k : Int) := by omega
      have i2 : (k : Int) < (l.length : Int) := by omega
      rw [readsF_step hp] at hrd
      have hbs := bW.size
      have hgl := k1.lt
      obtain ⟨d, n, t⟩ := p
      simp only at y0 y1 y2
      have K1 := Lib.hid (k1.alloc (.cells #[.int .i64 d, .int .i64 n, .string t] 59))
      have BX := Lib.hid (blk_new wr 59 #[.int .i64 d, .int .i64 n, .string t] rfl)
      have BW1 := Lib.hid (bal bW (.cells #[.int .i64 d, .int .i64 n, .string t] 59))
      have hgW := HG.out.up (bal bW (.cells #[.int .i64 d, .int .i64 n, .string t] 59))
      have HRD := Lib.hid hrd
      have hil : i ≤ (lb s).length := by rw [← HSZ.out]; exact hi
      have HIL := Lib.hid hil
      have N1 := Lib.hid (RNum_any w.heap.size s i false 0 1099511627776 _ K1.out.drew hgW hs hi)
      have M1 := Lib.hid (RTxt_any w.heap.size s i false 1024 _ K1.out.drew hgW hs hi)
      have F1 := Lib.hid (RFlag_any w.heap.size s i false _ K1.out.drew hs hi)
      clear x0 x1 x2 hc1 hp k1 bW hgW hrd hil
      go_upto_block 1 with (fail)
      go_cut [4] (fun s4 wx => RdSt s l w.heap.size (k + 1) w wx)
      case first =>
        by_cases d0 : d = 0
        · have e0 : (d == 0) = true := eqb_true d0
          clear M1 F1
          have hst : stepF (lb s) (d, n, t) i = if (rdNum (lb s) i false 0 1099511627776).1 = n ∧ (rdNum (lb s) i false 0 1099511627776).2.2 = false then some (rdNum (lb s) i false 0 1099511627776).2.1 else none := by unfold stepF; rw [if_pos d0]
          clear d0
          have L1 := rdNum_le (l := lb s) false 0 1099511627776 HIL.out
          have xc : (wr.alloc (.cells #[.int .i64 d, .int .i64 n, .string t] 59)).cell? ⟨wr.heap.size, 1, none⟩ = some (.int .i64 n) := BX.out.cell 1
          have XC := Lib.hid (BX.out.drew.cell 1)
          have hne : ¬ wr.heap.size = w.heap.size := by omega
          generalize rdNum (lb s) i false 0 1099511627776 = z at *
          obtain ⟨zv, zj, zb⟩ := z
          simp only at hst L1 N1
          have HST := Lib.hid hst
          have HL1 := Lib.hid L1
          clear hst L1
          go_wp2_with fail
          apply wp_region_join [[0, 1, 2, 3], [0, 2, 1, 3], [0, 2, 3, 1], [2, 0, 1, 3], [2, 0, 3, 1], [2, 3, 0, 1]] [4, 5, 6, 7, 8, 9, 10] (fun W3 => RdB W3 w.heap.size s zj zb ∧ Only (fun x => x = w.heap.size) (wr.alloc (.cells #[.int .i64 d, .int .i64 n, .string t] 59)).drew W3)
          · kernel_rfl
          · kernel_rfl
          · intro o ho
            simp only [List.mem_cons, List.not_mem_nil, or_false] at ho
            rcases ho with rfl | rfl | rfl | rfl | rfl | rfl
            all_goals simp only [List.filterMap_cons, List.filterMap_nil, List.getElem?_cons_succ, List.getElem?_cons_zero]
            all_goals go_wp2_with (first | ((with_reducible refine N1.out.mono ?_); rintro e w3 ⟨rfl, k3, oo⟩; have xc3 := keepO XC.out oo hne))
            all_goals exact ⟨rfl, k3, oo⟩
          rintro w3 ⟨k3, oo⟩
          simp only [List.filterMap_cons, List.filterMap_nil, List.getElem?_cons_succ, List.getElem?_cons_zero]
          have b3 := k3.cell 2
          have K3 := Lib.hid k3
          have OO := Lib.hid oo
          clear k3 oo xc
          by_cases hv : zv = n
          · cases zb
            · have hrs : readsF (lb s) (l.drop (k + 1)) zj = readsF (lb s) l 0 := by have h1 := HRD.out; rw [HST.out, if_pos ⟨hv, rfl⟩] at h1; exact h1
              have HRS := Lib.hid hrs
              have ev : (zv != n) = false := ne_false hv
              clear hrs hv
              go_wp2_with fail
              go_meet
              exact ⟨zj, K3.out, by rw [HSZ.out]; exact HL1.out, HRS.out, only_below BW1.out.drew (Nat.le_refl _) OO.out⟩
            · have hrs : RF = false := by have h1 := HRD.out; rw [HST.out, if_neg (fun h => by cases h.2)] at h1; rw [HRF.out, ← h1]
              have HRS := Lib.hid hrs
              have ev : (zv != n) = false := ne_false hv
              clear hrs hv
              go_wp2_with fail
              go_ret
              exact ⟨ret_bool HRS.out.symm, only_below BW1.out.drew (Nat.le_refl _) OO.out⟩
          · have hrs : RF = false := by have h1 := HRD.out; rw [HST.out, if_neg (fun h => hv h.1)] at h1; rw [HRF.out, ← h1]
            have HRS := Lib.hid hrs
            have ev : (zv != n) = true := ne_true hv
            clear hrs hv
            go_wp2_with fail
            go_ret
            exact ⟨ret_bool HRS.out.symm, only_below BW1.out.drew (Nat.le_refl _) OO.out⟩
        · have e0 : (d == 0) = false := eqb_false d0
          by_cases d1 : d = 1
          · have e1 : (d == 1) = true := eqb_true d1
            clear N1 F1
            have hst : stepF (lb s) (d, n, t) i = if bs (rdTxt (lb s) i false 1024).1 = t ∧ (rdTxt (lb s) i false 1024).2.2 = false then some (rdTxt (lb s) i false 1024).2.1 else none := by unfold stepF; rw [if_neg d0, if_pos d1]
            clear d0 d1
            have L1 := rdTxt_le (l := lb s) false 1024 HIL.out
            have xc : (wr.alloc (.cells #[.int .i64 d, .int .i64 n, .string t] 59)).cell? ⟨wr.heap.size, 2, none⟩ = some (.string t) := BX.out.cell 2
            have XC := Lib.hid (BX.out.drew.cell 2)
            have hne : ¬ wr.heap.size = w.heap.size := by omega
            generalize rdTxt (lb s) i false 1024 = z at *
            obtain ⟨zv, zj, zb⟩ := z
            simp only at hst L1 M1
            have HST := Lib.hid hst
            have HL1 := Lib.hid L1
            clear hst L1
            go_wp2_with fail
            apply wp_region_join [[0, 1, 2, 3], [0, 2, 1, 3], [0, 2, 3, 1], [2, 0, 1, 3], [2, 0, 3, 1], [2, 3, 0, 1]] [4, 5, 6, 7, 8, 9, 10] (fun W3 => RdB W3 w.heap.size s zj zb ∧ Only (fun x => x = w.heap.size) (wr.alloc (.cells #[.int .i64 d, .int .i64 n, .string t] 59)).drew W3)
            · kernel_rfl
            · kernel_rfl
            · intro o ho
              simp only [List.mem_cons, List.not_mem_nil, or_false] at ho
              rcases ho with rfl | rfl | rfl | rfl | rfl | rfl
              all_goals simp only [List.filterMap_cons, List.filterMap_nil, List.getElem?_cons_succ, List.getElem?_cons_zero]
              all_goals go_wp2_with (first | ((with_reducible refine M1.out.mono ?_); rintro e w3 ⟨rfl, k3, oo⟩; have xc3 := keepO XC.out oo hne))
              all_goals exact ⟨rfl, k3, oo⟩
            rintro w3 ⟨k3, oo⟩
            simp only [List.filterMap_cons, List.filterMap_nil, List.getElem?_cons_succ, List.getElem?_cons_zero]
            have b3 := k3.cell 2
            have K3 := Lib.hid k3
            have OO := Lib.hid oo
            clear k3 oo xc
            by_cases hv : bs zv = t
            · cases zb
              · have hrs : readsF (lb s) (l.drop (k + 1)) zj = readsF (lb s) l 0 := by have h1 := HRD.out; rw [HST.out, if_pos ⟨hv, rfl⟩] at h1; exact h1
                have HRS := Lib.hid hrs
                have ev : ((bs zv).toList == t.toList) = true := by rw [beq_str]; exact decide_eq_true hv
                have ev2 : ((bs zv).toList != t.toList) = false := by rw [bne, ev]; rfl
                clear hrs hv
                go_wp2_with fail
                go_meet
                exact ⟨zj, K3.out, by rw [HSZ.out]; exact HL1.out, HRS.out, only_below BW1.out.drew (Nat.le_refl _) OO.out⟩
              · have hrs : RF = false := by have h1 := HRD.out; rw [HST.out, if_neg (fun h => by cases h.2)] at h1; rw [HRF.out, ← h1]
                have HRS := Lib.hid hrs
                have ev : ((bs zv).toList == t.toList) = true := by rw [beq_str]; exact decide_eq_true hv
                have ev2 : ((bs zv).toList != t.toList) = false := by rw [bne, ev]; rfl
                clear hrs hv
                go_wp2_with fail
                go_ret
                exact ⟨ret_bool HRS.out.symm, only_below BW1.out.drew (Nat.le_refl _) OO.out⟩
            · have hrs : RF = false := by have h1 := HRD.out; rw [HST.out, if_neg (fun h => hv h.1)] at h1; rw [HRF.out, ← h1]
              have HRS := Lib.hid hrs
              have ev : ((bs zv).toList == t.toList) = false := by rw [beq_str]; exact decide_eq_false hv
              have ev2 : ((bs zv).toList != t.toList) = true := by rw [bne, ev]; rfl
              clear hrs hv
              go_wp2_with fail
              go_ret
              exact ⟨ret_bool HRS.out.symm, only_below BW1.out.drew (Nat.le_refl _) OO.out⟩
          · have e1 : (d == 1) = false := eqb_false d1
            clear N1 M1
            have hst : stepF (lb s) (d, n, t) i = if (rdFlag (lb s) i false).1 = (n == 1) ∧ (rdFlag (lb s) i false).2.2 = false then some (rdFlag (lb s) i false).2.1 else none := by unfold stepF; rw [if_neg d0, if_neg d1]; rfl
            clear d0 d1
            have L1 := rdFlag_le (l := lb s) false HIL.out
            have xc : (wr.alloc (.cells #[.int .i64 d, .int .i64 n, .string t] 59)).cell? ⟨wr.heap.size, 1, none⟩ = some (.int .i64 n) := BX.out.cell 1
            have XC := Lib.hid (BX.out.drew.cell 1)
            have hne : ¬ wr.heap.size = w.heap.size := by omega
            generalize rdFlag (lb s) i false = z at *
            obtain ⟨zv, zj, zb⟩ := z
            simp only at hst L1 F1
            have HST := Lib.hid hst
            have HL1 := Lib.hid L1
            clear hst L1
            go_wp2_with fail
            apply wp_region_join [[0, 1, 2, 3, 4], [0, 2, 1, 3, 4], [0, 2, 3, 1, 4], [0, 2, 3, 4, 1], [2, 0, 1, 3, 4], [2, 0, 3, 1, 4], [2, 0, 3, 4, 1], [2, 3, 0, 1, 4], [2, 3, 0, 4, 1], [2, 3, 4, 0, 1]] [5, 6, 7, 8, 9, 10, 11] (fun W3 => RdB W3 w.heap.size s zj zb ∧ Only (fun x => x = w.heap.size) (wr.alloc (.cells #[.int .i64 d, .int .i64 n, .string t] 59)).drew W3)
            · kernel_rfl
            · kernel_rfl
            · intro o ho
              simp only [List.mem_cons, List.not_mem_nil, or_false] at ho
              rcases ho with rfl | rfl | rfl | rfl | rfl | rfl | rfl | rfl | rfl | rfl
              all_goals simp only [List.filterMap_cons, List.filterMap_nil, List.getElem?_cons_succ, List.getElem?_cons_zero]
              all_goals go_wp2_with (first | ((with_reducible refine F1.out.mono ?_); rintro e w3 ⟨rfl, k3, oo⟩; have xc3 := keepO XC.out oo hne))
              all_goals exact ⟨rfl, k3, oo⟩
            rintro w3 ⟨k3, oo⟩
            simp only [List.filterMap_cons, List.filterMap_nil, List.getElem?_cons_succ, List.getElem?_cons_zero]
            have b3 := k3.cell 2
            have K3 := Lib.hid k3
            have OO := Lib.hid oo
            clear k3 oo xc
            rcases Bool.eq_false_or_eq_true (n == 1) with hy | hy
            · cases zv
              · have hrs : RF = false := by have h1 := HRD.out; rw [HST.out, if_neg (fun h => by have h2 := h.1; rw [hy] at h2; cases h2)] at h1; rw [HRF.out, ← h1]
                have HRS := Lib.hid hrs
                have tt : True := trivial
                clear hrs tt
                go_wp2_with fail
                go_ret
                exact ⟨ret_bool HRS.out.symm, only_below BW1.out.drew (Nat.le_refl _) OO.out⟩
              · cases zb
                · have hrs : readsF (lb s) (l.drop (k + 1)) zj = readsF (lb s) l 0 := by have h1 := HRD.out; rw [HST.out, if_pos ⟨hy.symm, rfl⟩] at h1; exact h1
                  have HRS := Lib.hid hrs
                  have tt : True := trivial
                  clear hrs tt
                  go_wp2_with fail
                  go_meet
                  exact ⟨zj, K3.out, by rw [HSZ.out]; exact HL1.out, HRS.out, only_below BW1.out.drew (Nat.le_refl _) OO.out⟩
                · have hrs : RF = false := by have h1 := HRD.out; rw [HST.out, if_neg (fun h => by cases h.2)] at h1; rw [HRF.out, ← h1]
                  have HRS := Lib.hid hrs
                  have tt : True := trivial
                  clear hrs tt
                  go_wp2_with fail
                  go_ret
                  exact ⟨ret_bool HRS.out.symm, only_below BW1.out.drew (Nat.le_refl _) OO.out⟩
            · cases zv
              · cases zb
                · have hrs : readsF (lb s) (l.drop (k + 1)) zj = readsF (lb s) l 0 := by have h1 := HRD.out; rw [HST.out, if_pos ⟨hy.symm, rfl⟩] at h1; exact h1
                  have HRS := Lib.hid hrs
                  have tt : True := trivial
                  clear hrs tt
                  go_wp2_with fail
                  go_meet
                  exact ⟨zj, K3.out, by rw [HSZ.out]; exact HL1.out, HRS.out, only_below BW1.out.drew (Nat.le_refl _) OO.out⟩
                · have hrs : RF = false := by have h1 := HRD.out; rw [HST.out, if_neg (fun h => by cases h.2)] at h1; rw [HRF.out, ← h1]
                  have HRS := Lib.hid hrs
                  have tt : True := trivial
                  clear hrs tt
                  go_wp2_with fail
                  go_ret
                  exact ⟨ret_bool HRS.out.symm, only_below BW1.out.drew (Nat.le_refl _) OO.out⟩
              · have hrs : RF = false := by have h1 := HRD.out; rw [HST.out, if_neg (fun h => by have h2 := h.1; rw [hy] at h2; cases h2)] at h1; rw [HRF.out, ← h1]
                have HRS := Lib.hid hrs
                have tt : True := trivial
                clear hrs tt
                go_wp2_with fail
                go_ret
                exact ⟨ret_bool HRS.out.symm, only_below BW1.out.drew (Nat.le_refl _) OO.out⟩
      case rest =>
        clear N1 M1 F1 K1 BX y0 y1 y2 BW1 HT HRD HIL
        have v1 : IntKind.i64.wrap ((k : Int) + 1) = (k : Int) + 1 := IntWalk.i64_in _ (by omega)
        have HC := Lib.hid hcut
        clear hcut
        go_wp2_with fail
        go_roundg (gk - 1)
        case measure => have := HM.out; omega
        case rel => exact ⟨k + 1, by omega, by go_num, by have := HM.out; omega, HC.out⟩
    · obtain rfl : k = l.length := by omega
      obtain ⟨i, k1, hi, hrd, bW⟩ := HT.out
      have E1 := Lib.hid (REnd_any w.heap.size s i false wr k1)
      have BW1 := Lib.hid bW
      have hfin : ((endOf s.size i false) == 0) = RF := by
        rw [HRF.out, ← hrd, List.drop_length]
        unfold readsF endOf
        rw [HSZ.out, Bool.eq_iff_iff]
        by_cases hh : i = (lb s).length <;> simp [hh]
      have HF := Lib.hid hfin
      clear k1 bW hrd hfin HT HM
      generalize endOf s.size i false = en at *
      go_wp2_with fail
      refine E1.out.mono ?_
      rintro e w3 ⟨rfl, n, rfl⟩
      go_wp2_with fail
      go_ret
      exact ⟨ret_bool HF.out, below_drewN BW1.out n⟩
end Go.Proofs.YtcockikekgmfkaaDoor
