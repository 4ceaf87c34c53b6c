/-
  The statement FieldsBack: its walk.
-/
import Derived.Test.YtcockikekgmfkaaDoorFiN
import Derived.Test.YtcockikekgmfkaaDoorFiL
namespace Go.Proofs.YtcockikekgmfkaaDoor
open Go.RowKit

theorem encFd_len (x : Fld) (h : validF x) : (encFd x).length ≤ 1030 := by
  unfold encFd
  split
  · rename_i h0
    have := h.1 h0
    have := encLen_le x.2.1.toNat (by unfold maxNum; omega)
    unfold encLen at this
    omega
  · split
    · rename_i h1
      have h2 := h.2 h1
      show (enc (lb x.2.2).length ++ lb x.2.2).length ≤ 1030
      rw [List.length_append, length_lb]
      have := encLen_le x.2.2.size (by unfold maxNum; omega)
      unfold encLen at this
      omega
    · show 1 ≤ 1030; omega
theorem encFds_len : ∀ (l : List Fld), (∀ x ∈ l, validF x) → (encFds l).length ≤ 1030 * l.length
  | [], _ => by simp [encFds]
  | x :: l, h => by
    have h1 := encFd_len x (h x (List.mem_cons_self ..))
    have h2 := encFds_len l (fun y hy => h y (List.mem_cons_of_mem _ hy))
    show (encFd x ++ encFds l).length ≤ _
    rw [List.length_append, List.length_cons]
    omega
theorem encFds_take {l : List Fld} {k : Nat} {x : Fld} (hx : l[k]? = some x) : encFds (l.take (k + 1)) = encFds (l.take k) ++ encFd x := by
  unfold encFds
  rw [List.take_add_one, hx]
  simp
theorem valid_take {l : List Fld} {k : Nat} {x : Fld} (hx : l[k]? = some x) (h : ∀ y ∈ l.take k, validF y) (hv : validF x) : ∀ y ∈ l.take (k + 1), validF y := by
  intro y hy
  rw [List.take_add_one, hx] at hy
  simp at hy
  rcases hy with hy | rfl
  · exact h y hy
  · exact hv
theorem encFds_pos {l : List Fld} (h : 0 < l.length) : 0 < (encFds l).length := by
  match l, h with
  | x :: l, _ =>
    show 0 < (encFd x ++ encFds l).length
    rw [List.length_append]
    have := encFd_pos x
    omega
/-- Go's remainder, brought into its range. -/
theorem cut_in (cut : Int) (n : Nat) (h : 0 < n) : ∃ k : Nat, k < n ∧ ((cut.tmod n + n).tmod n) = (k : Int) := by
  have h1 := Int.tmod_lt_of_pos cut (show (0 : Int) < n by omega)
  have h2 : -(n : Int) < cut.tmod n := by
    have h3 := Int.lt_tmod_of_pos cut (show (0 : Int) < n by omega)
    exact h3
  have h3 : 0 ≤ (cut.tmod n + n).tmod n := Int.tmod_nonneg _ (by omega)
  have h4 := Int.tmod_lt_of_pos (cut.tmod n + n) (show (0 : Int) < n by omega)
  exact ⟨((cut.tmod n + n).tmod n).toNat, by omega, by omega⟩

/-- What has been written so far. -/
def BkSt (l : List Fld) (k : Nat) (v : Value) (w W : World) : Prop :=
  ∃ (A7 : Option Addr) (c7 : Nat), v = .slice A7 (encFds (l.take k)).length c7 ∧ Reads W W.heap.size 1 A7 (encFds (l.take k)).length (cellsB (encFds (l.take k))) ∧ (encFds (l.take k)).length ≤ c7 ∧ (∀ x ∈ l.take k, validF x) ∧ Below w.heap.size w W

set_option maxRecDepth 100000 in
set_option maxHeartbeats 8000000 in
theorem fback_walk (A : Option Addr) (l : List Fld) (c : Nat) (cut : Int) (w : World) (hg : HasET w) (hr : Reads w w.heap.size 3 A l.length (cellsF l)) (hl : l.length ≤ 9223372036854775807) (hss : ∀ r ∈ l, r.2.2.size ≤ 9223372036854775807) :
    Calls Tryd.prog 7 #[.slice A l.length c, .int .i64 cut] w fun e w' => e = .returned (.bool true) ∧ Below w.heap.size w w' := by
  have HG := Lib.hid hg
  have HR := Lib.hid hr
  have HSS := Lib.hid hss
  have HWK := Lib.hid (fun W (bW : Below w.heap.size w W) => wakes02 W (hg.up bW))
  clear hr hg hss
  go_enter Tryd.func7, Tryd.ntmps7
  go_wp2_with fail
  go_loop [5, 6] (fun n i => ∃ k m : Nat, k ≤ l.length ∧ k ≤ 61 ∧ m ≤ 5000 * k ∧ i = .int .i64 k ∧ n = .int .i64 m) (fun _ i => l.length - (intOf i).toNat)
  case atStart => exact ⟨0, 0, Nat.zero_le _, by omega, by omega, rfl, rfl⟩
  case round =>
    obtain ⟨k, m, hk, hk2, hm, rfl, rfl⟩ := hrel
    by_cases hlt : k < l.length
    · have d1 : decide ((k : Int) < (l.length : Int)) = true := by simp; omega
      by_cases h60 : k ≤ 60
      · have d2 : decide ((k : Int) ≤ 60) = true := by simp; omega
        obtain ⟨b1, o1, rfl, _, hc1⟩ := HR.out.plainF (by omega)
        obtain ⟨r, hx⟩ : ∃ z, l[k]? = some z := ⟨_, List.getElem?_eq_getElem hlt⟩
        obtain ⟨g1, g2, g3⟩ := hc1 k _ hx
        have hs1 := HSS.out r (List.mem_of_getElem? hx)
        have i1 : (0 : Int) ≤ (k : Int) := by omega
        have i2 : (k : Int) < (l.length : Int) := by omega
        have m1 : min (r.2.2.size : Int) 5000 = ((min r.2.2.size 5000 : Nat) : Int) := by omega
        have w1 : IntKind.i64.wrap ((m : Int) + ((min r.2.2.size 5000 : Nat) : Int)) = (m : Int) + ((min r.2.2.size 5000 : Nat) : Int) := IntWalk.i64_in _ (by omega)
        clear hc1 hx
        go_wp2_with fail
        go_round
        case rel => exact ⟨k + 1, m + min r.2.2.size 5000, by omega, by omega, by omega, by go_num, by go_num⟩
        case measure => simp [intOf]; omega
      · have d2 : decide ((k : Int) ≤ 60) = false := by simp; omega
        have d3 : decide ((60 : Int) < (l.length : Int)) = true := by simp; omega
        go_wp2_with fail
        refine (HWK.out _ (Below.refl _ _)).mono ?_
        rintro e w' ⟨rfl, hb⟩
        go_wp2_with fail
        go_ret
        exact ⟨rfl, hb⟩
    · obtain rfl : k = l.length := by omega
      have d1 : decide ((l.length : Int) < (l.length : Int)) = false := by simp
      by_cases h60 : 60 < l.length ∨ 4000 < m
      · have dd : decide ((60 : Int) < (l.length : Int)) = true ∨ (decide ((60 : Int) < (l.length : Int)) = false ∧ decide ((4000 : Int) < (m : Int)) = true) := by
          by_cases h : 60 < l.length
          · exact .inl (by simp; omega)
          · exact .inr ⟨by simp; omega, by simp; omega⟩
        clear h60
        rcases dd with d3 | ⟨d3, d4⟩
        · go_wp2_with fail
          refine (HWK.out _ (Below.refl _ _)).mono ?_
          rintro e w' ⟨rfl, hb⟩
          go_wp2_with fail
          go_ret
          exact ⟨rfl, hb⟩
        · go_wp2_with fail
          refine (HWK.out _ (Below.refl _ _)).mono ?_
          rintro e w' ⟨rfl, hb⟩
          go_wp2_with fail
          go_ret
          exact ⟨rfl, hb⟩
      · have d3 : decide ((60 : Int) < (l.length : Int)) = false := by simp; omega
        have d4 : decide ((4000 : Int) < (m : Int)) = false := by simp; omega
        have hl60 : l.length ≤ 60 := by omega
        clear h60 hlt hk hk2 hm
        have T0 : Hid (BkSt l 0 (.slice none 0 0) w w) := Lib.hid ⟨none, 0, rfl, Reads.none_, Nat.le_refl _, by simp, Below.refl _ _⟩
        go_wp2_with fail
        go_loopg [7, 8, 9, 10] l.length (fun mm v i x e wr => ∃ k : Nat, k ≤ l.length ∧ i = .int .i64 k ∧ mm = l.length - k ∧ BkSt l k v w wr)
        case atStart => exact ⟨0, Nat.zero_le _, rfl, rfl, T0.out⟩
        case round =>
          clear T0
          obtain ⟨k, hk, rfl, hmm, ht⟩ := hrel
          have HM := Lib.hid hmm
          obtain ⟨A7, c7, rfl, r7, hc7, hv7, b7⟩ := ht
          have hlen7 := encFds_len (l.take k) hv7
          have hl7 : (encFds (l.take k)).length ≤ 61800 := by rw [List.length_take] at hlen7; omega
          have HV := Lib.hid hv7
          have B7 := Lib.hid b7
          have R7 := Lib.hid r7
          have bz := b7.size
          clear hmm hv7 hlen7
          by_cases hlt : k < l.length
          · obtain ⟨p, hp⟩ : ∃ p, l[k]? = some p := ⟨_, List.getElem?_eq_getElem hlt⟩
            obtain ⟨b1, o1, rfl, hb1, hc1⟩ := HR.out.plainF (by omega)
            obtain ⟨x0, x1, x2⟩ := hc1 k p hp
            have y0 := (b7.cell (p := ⟨b1, o1 + k * 3, none⟩) hb1).trans x0
            have y1 := (b7.cell (p := ⟨b1, o1 + k * 3 + 1, none⟩) hb1).trans x1
            have y2 := (b7.cell (p := ⟨b1, o1 + k * 3 + 2, none⟩) hb1).trans x2
            have i1 : (0 : Int) ≤ (k : Int) := by omega
            have i2 : (k : Int) < (l.length : Int) := by omega
            have TK := Lib.hid (encFds_take hp)
            have VT := Lib.hid (fun hv => valid_take hp HV.out hv)
            obtain ⟨d, n, t⟩ := p
            simp only at y0 y1 y2
            have BX := Lib.hid (bal b7 (.cells #[.int .i64 d, .int .i64 n, .string t] 59))
            have rr := (r7.alloc (Nat.le_refl _) (.cells #[.int .i64 d, .int .i64 n, .string t] 59)).more (show wr.heap.size ≤ (wr.alloc (.cells #[.int .i64 d, .int .i64 n, .string t] 59)).heap.size by simp)
            have v1 : IntKind.i64.wrap ((k : Int) + 1) = (k : Int) + 1 := IntWalk.i64_in _ (by omega)
            clear x0 x1 x2 hc1 hp b7 r7
            by_cases d0 : d = 0
            · have e0 : (d == 0) = true := eqb_true d0
              by_cases hn : n < 0 ∨ 1099511627776 < n
              · have dd : decide (n < 0) = true ∨ (decide (n < 0) = false ∧ decide (1099511627776 < n) = true) := by
                  by_cases h : n < 0
                  · exact .inl (decide_eq_true h)
                  · exact .inr ⟨decide_eq_false h, decide_eq_true (by omega)⟩
                clear hn d0 rr
                rcases dd with d5 | ⟨d5, d6⟩
                · go_wp2_with fail
                  refine (HWK.out _ BX.out).mono ?_
                  rintro e w' ⟨rfl, hb⟩
                  go_wp2_with fail
                  go_ret
                  exact ⟨rfl, btrans BX.out hb⟩
                · go_wp2_with fail
                  refine (HWK.out _ BX.out).mono ?_
                  rintro e w' ⟨rfl, hb⟩
                  go_wp2_with fail
                  go_ret
                  exact ⟨rfl, btrans BX.out hb⟩
              · have d5 : decide (n < 0) = false := decide_eq_false (by omega)
                have d6 : decide (1099511627776 < n) = false := decide_eq_false (by omega)
                obtain ⟨m', rfl⟩ := Int.eq_ofNat_of_zero_le (show 0 ≤ n by omega)
                have hv : validF (d, (m' : Int), t) := ⟨fun _ => show (0 : Int) ≤ (m' : Int) ∧ (m' : Int) ≤ 1099511627776 from ⟨by omega, by omega⟩, fun h => absurd (show d = 1 from h) (by omega)⟩
                have he : encFds (l.take k) ++ enc m' = encFds (l.take (k + 1)) := by rw [TK.out]; unfold encFd; rw [if_pos d0, Int.toNat_natCast]
                obtain ⟨L', HL⟩ : ∃ L', Hid (L' = encFds (l.take (k + 1))) := ⟨_, Lib.hid rfl⟩
                have N1 := Lib.hid (Number_ok A7 (encFds (l.take k)) c7 m' _ rr (by omega) (by unfold maxNum; omega))
                rw [he, ← HL.out] at N1
                have VV := Lib.hid (VT.out hv)
                clear hn d0 rr hv he TK VT
                go_wp2_with fail
                refine N1.out.mono ?_
                rintro e w3 ⟨A3, c3, rfl, r3, hc3, b3⟩
                have B3 := Lib.hid (btrans BX.out b3)
                have R3 := Lib.hid r3
                clear r3 b3 hc7 bz hl7 y0 y1 y2
                go_wp2_with fail
                go_roundg (gk - 1)
                case measure => have := HM.out; omega
                case rel => exact ⟨k + 1, by omega, by go_num, by have := HM.out; omega, A3, c3, by rw [← HL.out], by rw [← HL.out]; exact R3.out, by rw [← HL.out]; exact hc3, VV.out, B3.out⟩
            · have e0 : (d == 0) = false := eqb_false d0
              by_cases d1 : d = 1
              · have e1 : (d == 1) = true := eqb_true d1
                by_cases hn : 1024 < t.size
                · have d5 : decide ((1024 : Int) < (t.size : Int)) = true := decide_eq_true (by omega)
                  clear hn d0 d1 rr
                  go_wp2_with fail
                  refine (HWK.out _ BX.out).mono ?_
                  rintro e w' ⟨rfl, hb⟩
                  go_wp2_with fail
                  go_ret
                  exact ⟨rfl, btrans BX.out hb⟩
                · have d5 : decide ((1024 : Int) < (t.size : Int)) = false := decide_eq_false (by omega)
                  have hv : validF (d, n, t) := ⟨fun h => absurd h d0, fun _ => show t.size ≤ 1024 by omega⟩
                  have he : encFds (l.take k) ++ (cTxt 1024).e (lb t) = encFds (l.take (k + 1)) := by rw [TK.out]; unfold encFd; rw [if_neg d0, if_pos d1]
                  obtain ⟨L', HL⟩ : ∃ L', Hid (L' = encFds (l.take (k + 1))) := ⟨_, Lib.hid rfl⟩
                  have N1 := Lib.hid ((Text_ok A7 (encFds (l.take k)) c7 t _ rr (by omega) (by omega)).mono fun _ _ h => h.bytes)
                  rw [he, ← HL.out] at N1
                  have VV := Lib.hid (VT.out hv)
                  clear hn d0 d1 rr hv he TK VT
                  go_wp2_with fail
                  refine N1.out.mono ?_
                  rintro e w3 ⟨A3, c3, rfl, r3, hc3, b3⟩
                  have B3 := Lib.hid (btrans BX.out b3)
                  have R3 := Lib.hid r3
                  clear r3 b3 hc7 bz hl7 y0 y1 y2
                  go_wp2_with fail
                  go_roundg (gk - 1)
                  case measure => have := HM.out; omega
                  case rel => exact ⟨k + 1, by omega, by go_num, by have := HM.out; omega, A3, c3, by rw [← HL.out], by rw [← HL.out]; exact R3.out, by rw [← HL.out]; exact hc3, VV.out, B3.out⟩
              · have e1 : (d == 1) = false := eqb_false d1
                have hv : validF (d, n, t) := ⟨fun h => absurd h d0, fun h => absurd h d1⟩
                obtain ⟨y, HY⟩ : ∃ y, Hid (y = decide (n = 1)) := ⟨_, Lib.hid rfl⟩
                have ey : (n == 1) = y := by rw [HY.out]; rfl
                have he : encFds (l.take k) ++ encY y = encFds (l.take (k + 1)) := by rw [TK.out]; unfold encFd; rw [if_neg d0, if_neg d1, HY.out]
                obtain ⟨L', HL⟩ : ∃ L', Hid (L' = encFds (l.take (k + 1))) := ⟨_, Lib.hid rfl⟩
                have N1 := Lib.hid (Flag_any A7 (encFds (l.take k)) c7 y _ rr (by omega))
                rw [he, ← HL.out] at N1
                have VV := Lib.hid (VT.out hv)
                clear d0 d1 rr hv he TK VT
                go_wp2_with fail
                refine N1.out.mono ?_
                rintro e w3 ⟨A3, c3, rfl, o3, hc3, b3⟩
                have B3 := Lib.hid (btrans BX.out b3)
                have R3 := Lib.hid (Reads.of_own o3)
                clear o3 b3 hc7 bz hl7 y0 y1 y2
                go_wp2_with fail
                go_roundg (gk - 1)
                case measure => have := HM.out; omega
                case rel => exact ⟨k + 1, by omega, by go_num, by have := HM.out; omega, A3, c3, by rw [← HL.out], by rw [← HL.out]; exact R3.out, by rw [← HL.out]; exact hc3, VV.out, B3.out⟩
          · obtain rfl : k = l.length := by omega
            generalize hL : encFds (l.take l.length) = L at *
            rw [List.take_length] at hL
            have hv : ∀ x ∈ l, validF x := by have := HV.out; rwa [List.take_length] at this
            have HBK := Lib.hid (backF l hv)
            have HCT := Lib.hid (cutF l hv)
            rw [hL] at HBK HCT
            have HPOS := Lib.hid (fun h : 0 < l.length => hL ▸ encFds_pos h)
            have HZ := Lib.hid (fun h : l = [] => (show L.length = 0 by rw [← hL, h]; rfl))
            have R1 := Lib.hid (fun W bW s hs => reads_any s A l c W (HG.out.up bW) ((HR.out.below bW).more bW.size) hs (by omega))
            have t7 := str_at (c := c7) R7.out
            unfold StrAt at t7
            have g1 : (bs L).size ≤ 1000000 := by rw [size_bs]; omega
            have N1 := Lib.hid (R1.out wr B7.out (bs L) g1)
            rw [lb_bs, HBK.out] at N1
            clear hL hv hlt g1 HM HV hk
            by_cases hz : l = []
            · have hL0 := HZ.out hz
              have q1 : decide ((0 : Int) < (l.length : Int)) = false := by rw [hz]; rfl
              have q3 : decide (0 < l.length) = false := by rw [hz]; rfl
              have q2 : ((L.length : Int) == 0) = true := by rw [hL0]; rfl
              clear hz hL0 HPOS HZ R7
              go_wp2_with fail
              refine N1.out.mono ?_
              rintro e w3 ⟨rfl, b3⟩
              have B3 := Lib.hid (btrans B7.out b3)
              clear b3
              go_wp2_with fail
              refine (HWK.out _ B3.out).mono ?_
              rintro e w4 ⟨rfl, b4⟩
              go_wp2_with fail
              go_ret
              exact ⟨rfl, btrans B3.out b4⟩
            · have hp : 0 < l.length := List.length_pos_iff.2 hz
              have hL0 := HPOS.out hp
              have q1 : decide ((0 : Int) < (l.length : Int)) = true := by simp; omega
              have q3 : decide (0 < l.length) = true := by simp; omega
              have q2 : ((L.length : Int) == 0) = false := eqb_false (by omega)
              obtain ⟨kk, hkk, hkv⟩ := cut_in cut L.length hL0
              have hN := HCT.out kk hkk
              obtain ⟨cq, hcq⟩ : ∃ cq, cut.tmod (L.length : Int) = cq := ⟨_, rfl⟩
              have hc1 := Int.tmod_lt_of_pos cut (show (0 : Int) < L.length by omega)
              have hc2 := Int.lt_tmod_of_pos cut (show (0 : Int) < L.length by omega)
              rw [hcq] at hkv hc1 hc2
              have hkw : (cq + (L.length : Int)) % (L.length : Int) = kk := by rw [← hkv]; exact (Int.tmod_eq_emod_of_nonneg (by omega)).symm
              have CU := Lib.hid (cut_upto (P := Tryd.prog) (t := 50) Tryd.underlying50 (fun _ => by kernel_rfl) R7.out kk (by omega) hc7)
              have hcu := fun W => CU.out.1 (kk : Int) W rfl
              have RK := Lib.hid (CU.out.2)
              have lk : (L.take kk).length = kk := by rw [List.length_take]; omega
              have N2 := Lib.hid (fun W bW => R1.out W bW (bs (L.take kk)) (by rw [size_bs]; omega))
              rw [lb_bs, hN] at N2
              have LK := Lib.hid lk
              clear hz hp hN lk CU HPOS HZ HCT HBK
              go_wp2_with fail
              refine N1.out.mono ?_
              rintro e w3 ⟨rfl, b3⟩
              have B3 := Lib.hid (btrans B7.out b3)
              have rk3 : Reads w3 wr.heap.size 1 A7 kk (cellsB (L.take kk)) := by have := RK.out.below b3; rwa [cellsB_take] at this
              have t8 := str_at (c := c7) rk3
              unfold StrAt at t8
              clear b3 rk3 t7
              go_wp2_with fail
              refine (N2.out _ B3.out).mono ?_
              rintro e w4 ⟨rfl, b4⟩
              have B4 := Lib.hid (btrans B3.out b4)
              clear b4 t8
              go_wp2_with fail
              refine (HWK.out _ B4.out).mono ?_
              rintro e w5 ⟨rfl, b5⟩
              go_wp2_with fail
              go_ret
              exact ⟨rfl, btrans B4.out b5⟩
end Go.Proofs.YtcockikekgmfkaaDoor
