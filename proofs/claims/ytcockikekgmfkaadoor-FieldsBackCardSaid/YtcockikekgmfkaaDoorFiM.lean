/-
  Layer 2: readers that are nil; the walk of FieldsRead.
-/
import Derived.Test.YtcockikekgmfkaaDoorFiK
import Derived.Test.YtcockikekgmfkaaDoorStP
import Derived.Deep.DeepCutAuto
import Derived.Deep.CutBlock
import Derived.Deep.LoopGhost
import Derived.Deep.DrawnRows
import Derived.Outline
namespace Go.Proofs.YtcockikekgmfkaaDoor
open Go.RowKit
attribute [local go_sem ↓] Go.wp_at_zero Go.wp_at_succ

theorem RNum_nil (lo hi : Int) (w : World) : Calls Tryd.prog 16 #[.pointer none, .int .i64 lo, .int .i64 hi] w fun e w' => e = .returned (.int .i64 0) ∧ Below w.heap.size w w' := by
  have hmf : ∀ (fn : Fn) (first cap : Array Value) (w : World), (Instr.makeFunc fn first cap).run Tryd.prog w = .ok (.func fn first cap) w := fun _ _ _ _ => rfl
  have L3 := Lib.hid ((((Below.refl w.heap.size w).alloc (Nat.le_refl _) (.cells #[.int .i64 lo] 3)).alloc (by simp) (.cells #[.int .i64 hi] 3)).alloc (by simp; omega) (.cells #[.int .i64 0] 3))
  go_enter Tryd.func16, Tryd.ntmps16
  go_wp2_with fail
  refine (field_nil _ _ _).mono ?_
  rintro e w1 ⟨b, rfl, hb, b1⟩
  have HB := Lib.hid (is_stop b w1 hb)
  have B1 := Lib.hid (btrans L3.out b1)
  clear hb b1
  go_wp2_with fail
  refine HB.out.mono ?_
  rintro e w2 ⟨rfl, rfl⟩
  go_wp2_with fail
  go_ret
  exact ⟨rfl, B1.out⟩
theorem RTxt_nil (most : Int) (w : World) : Calls Tryd.prog 18 #[.pointer none, .int .i64 most] w fun e w' => e = .returned (.string ByteArray.empty) ∧ Below w.heap.size w w' := by
  have hmf : ∀ (fn : Fn) (first cap : Array Value) (w : World), (Instr.makeFunc fn first cap).run Tryd.prog w = .ok (.func fn first cap) w := fun _ _ _ _ => rfl
  have L3 := Lib.hid (((Below.refl w.heap.size w).alloc (Nat.le_refl _) (.cells #[.int .i64 most] 3)).alloc (by simp) (.cells #[.string ByteArray.empty] 9))
  go_enter Tryd.func18, Tryd.ntmps18
  go_wp2_with fail
  refine (field_nil _ _ _).mono ?_
  rintro e w1 ⟨b, rfl, hb, b1⟩
  have HB := Lib.hid (is_stop b w1 hb)
  have B1 := Lib.hid (btrans L3.out b1)
  clear hb b1
  go_wp2_with fail
  refine HB.out.mono ?_
  rintro e w2 ⟨rfl, rfl⟩
  go_wp2_with fail
  go_ret
  exact ⟨rfl, B1.out⟩
theorem RFlag_nil (w : World) : Calls Tryd.prog 20 #[.pointer none] w fun e w' => e = .returned (.bool false) ∧ Below w.heap.size w w' := by
  have hmf : ∀ (fn : Fn) (first cap : Array Value) (w : World), (Instr.makeFunc fn first cap).run Tryd.prog w = .ok (.func fn first cap) w := fun _ _ _ _ => rfl
  have L3 := Lib.hid ((Below.refl w.heap.size w).alloc (Nat.le_refl _) (.cells #[.bool false] 4))
  go_enter Tryd.func20, Tryd.ntmps20
  go_wp2_with fail
  refine (field_nil _ _ _).mono ?_
  rintro e w1 ⟨b, rfl, hb, b1⟩
  have HB := Lib.hid (is_stop b w1 hb)
  have B1 := Lib.hid (btrans L3.out b1)
  clear hb b1
  go_wp2_with fail
  refine HB.out.mono ?_
  rintro e w2 ⟨rfl, rfl⟩
  go_wp2_with fail
  go_ret
  exact ⟨rfl, B1.out⟩
theorem REnd_nil (w : World) : Calls Tryd.prog 24 #[.pointer none] w fun e w' => e = .returned (.int .i64 70) ∧ Below w.heap.size w w' := by
  go_enter Tryd.func24, Tryd.ntmps24
  go_wp2_with fail
  go_quiet (fail)
  go_wp2_with fail
  go_ret
  exact ⟨rfl, drewN_below _⟩
theorem RWrong_nil (w : World) : Calls Tryd.prog 22 #[.pointer none] w fun e w' => e = .returned (.tuple #[]) ∧ w = w' := by
  go_enter Tryd.func22, Tryd.ntmps22
  go_wp2_with fail
  go_end0
  exact ⟨rfl, rfl⟩

theorem keepO {g b o : Nat} {w w' : World} {v : Value} (h : w.cell? ⟨b, o, none⟩ = some v) (k : Only (fun x => x = g) w w') (hne : ¬ b = g) : w'.cell? ⟨b, o, none⟩ = some v := (k.cell (p := ⟨b, o, none⟩) (cell_lt h) hne).trans h
/-- Both readers, at one place. -/
def Two (s : ByteArray) (g : Nat) (w W : World) : Prop := ∃ (i : Nat) (bad : Bool), RdB W g s i bad ∧ RdR W (g + 1) s i bad ∧ i ≤ s.size ∧ Below w.heap.size w W
theorem two_step {s : ByteArray} {g i : Nat} {bad : Bool} {w W W1 W2 : World} (hg : w.heap.size ≤ g) (hb : Below w.heap.size w W) (o1 : Only (fun x => x = g) W W1) (k1 : RdB W1 g s i bad) (o2 : Only (fun x => x = g + 1) W1 W2) (k2 : RdR W2 (g + 1) s i bad) (hi : i ≤ s.size) : Two s g w W2 :=
  ⟨i, bad, o2.blk k1 (by omega), k2, hi, (hb.trans (o1.below hb.size (fun x hx => by omega))).trans (o2.below (Nat.le_trans hb.size o1.size) (fun x hx => by omega))⟩

set_option maxRecDepth 100000 in
set_option maxHeartbeats 8000000 in
theorem fread_walk (s : ByteArray) (A : Option Addr) (l : List Pd) (c : Nat) (w : World) (hg : HasET w) (hr : Reads w w.heap.size 3 A l.length (cellsP l)) (hs : s.size ≤ 140737488351232) (hl : l.length ≤ 9223372036854775807) :
    Calls Tryd.prog 3 #[.string s, .slice A l.length c] w fun e w' => e = .returned (.bool true) ∧ Below w.heap.size w w' := by
  by_cases hbig : 4000 < s.size ∨ (s.size ≤ 4000 ∧ 100 < l.length)
  · have HWK := Lib.hid (wakes02 w hg)
    have dd : decide ((4000 : Int) < (s.size : Int)) = true ∨ (decide ((4000 : Int) < (s.size : Int)) = false ∧ decide ((100 : Int) < (l.length : Int)) = true) := by
      rcases hbig with h | h
      · exact .inl (by simp; omega)
      · exact .inr ⟨by simp; omega, by simp; omega⟩
    clear hr hg hbig
    rcases dd with d1 | ⟨d1, d2⟩
    · go_enter Tryd.func3, Tryd.ntmps3
      go_wp2_with fail
      refine HWK.out.mono ?_
      rintro e w' ⟨rfl, hb⟩
      go_wp2_with fail
      go_ret
      exact ⟨rfl, hb⟩
    · go_enter Tryd.func3, Tryd.ntmps3
      go_wp2_with fail
      refine HWK.out.mono ?_
      rintro e w' ⟨rfl, hb⟩
      go_wp2_with fail
      go_ret
      exact ⟨rfl, hb⟩
  · have d1 : decide ((4000 : Int) < (s.size : Int)) = false := by simp; omega
    have d2 : decide ((100 : Int) < (l.length : Int)) = false := by simp; omega
    have hs' : s.size ≤ 4000 := by omega
    have hl' : l.length ≤ 100 := by omega
    have HG := Lib.hid hg
    have HR := Lib.hid hr
    have HWK := Lib.hid (fun W (bW : Below w.heap.size w W) => wakes02 W (hg.up bW))
    clear hr hg hbig hs hl
    go_enter Tryd.func3, Tryd.ntmps3
    go_wp2_with fail
    refine (RNew_any s w).mono ?_
    rintro e w1 ⟨rfl, rfl⟩
    go_wp2_with fail
    refine (rRNew_any s _).mono ?_
    rintro e w1 ⟨rfl, rfl⟩
    have t0 : Two s w.heap.size w ((w.alloc (.cells #[.string s, .int .i64 0, .bool false] 35)).alloc (.cells #[.string s, .int .i64 0, .bool false] 36)) :=
      ⟨0, false, (blk_new _ _ _ rfl).alloc _, blk_new _ _ _ (by simp), Nat.zero_le _, bal (bal (Below.refl _ _) _) _⟩
    have T0 := Lib.hid t0
    clear t0
    go_wp2_with fail
    go_loopg [7, 8] l.length (fun m i x wr => ∃ k : Nat, k ≤ l.length ∧ i = .int .i64 k ∧ m = l.length - k ∧ Two s w.heap.size w wr)
    case atStart => exact ⟨0, Nat.zero_le _, rfl, rfl, T0.out⟩
    case round =>
      obtain ⟨k, hk, rfl, hm, ht⟩ := hrel
      have HM := Lib.hid hm
      have HT := Lib.hid ht
      clear hm ht
      by_cases hlt : k < l.length
      · obtain ⟨p, hp⟩ : ∃ p, l[k]? = some p := ⟨_, List.getElem?_eq_getElem hlt⟩
        obtain ⟨i, bad, k1, k2, hi, bW⟩ := HT.out
        obtain ⟨b1, o1, rfl, hb1, hc1⟩ := HR.out.plain3 (by omega)
        obtain ⟨x0, x1, x2⟩ := hc1 k p hp
        have y0 := (bW.cell (p := ⟨b1, o1 + k * 3, none⟩) hb1).trans x0
        have y1 := (bW.cell (p := ⟨b1, o1 + k * 3 + 1, none⟩) hb1).trans x1
        have y2 := (bW.cell (p := ⟨b1, o1 + k * 3 + 2, none⟩) hb1).trans x2
        have i1 : (0 : Int) ≤ (k : Int) := by omega
        have i2 : (k : Int) < (l.length : Int) := by omega
        have K1 := Lib.hid k1
        have K2 := Lib.hid k2
        have BW1 := Lib.hid bW
        have hgW := HG.out.up bW
        have hsz : (lb s).length = s.size := length_lb s
        have N1 := Lib.hid (RNum_any w.heap.size s i bad p.2.1 p.2.2 wr.drew k1.drew hgW (by omega) hi)
        have N2 := Lib.hid (fun W kW => rRNum_any (w.heap.size + 1) s i bad p.2.1 p.2.2 W kW (by omega) hi)
        have L1 := Lib.hid (rdNum_le (l := lb s) bad p.2.1 p.2.2 (by omega : i ≤ (lb s).length))
        have M1 := Lib.hid (RTxt_any w.heap.size s i bad p.2.2 wr.drew k1.drew hgW (by omega) hi)
        have M2 := Lib.hid (fun W kW => rRTxt_any (w.heap.size + 1) s i bad p.2.2 W kW (by omega) hi)
        have L2 := Lib.hid (rdTxt_le (l := lb s) bad p.2.2 (by omega : i ≤ (lb s).length))
        have F1 := Lib.hid (RFlag_any w.heap.size s i bad wr k1 (by omega) hi)
        have F2 := Lib.hid (fun W kW => rRFlag_any (w.heap.size + 1) s i bad W kW (by omega) hi)
        have L3 := Lib.hid (rdFlag_le (l := lb s) bad (by omega : i ≤ (lb s).length))
        rw [hsz] at L1 L2 L3
        generalize rdNum (lb s) i bad p.2.1 p.2.2 = z1 at *
        generalize rdTxt (lb s) i bad p.2.2 = z2 at *
        generalize rdFlag (lb s) i bad = z3 at *
        clear x0 x1 x2 hc1 hp k1 k2 bW hgW hsz
        go_upto_block 2 with (fail)
        go_cut [8] (fun s8 wx => s8 = .bool true ∧ Two s w.heap.size w wx)
        case first =>
          by_cases d0 : p.1 = 0
          · have e0 : (p.1 == 0) = true := eqb_true d0
            clear d0
            go_wp2_with fail
            go_region_held (fun W => W.cell? ⟨b1, o1 + k * 3 + 1, none⟩ = some (.int .i64 p.2.1) ∧ W.cell? ⟨b1, o1 + k * 3 + 2, none⟩ = some (.int .i64 p.2.2)) (first | exact ⟨y1, y2⟩ | (go_split_ands; exact ⟨keepO (by assumption) oo (by omega), keepO (by assumption) oo (by omega)⟩)) (first | (go_at_call 16; refine N1.out.mono ?_; rintro e w3 ⟨rfl, k3, oo⟩; have o3 := Lib.hid oo) | (go_at_call 17; refine (N2.out _ (oo.blk K2.out.drew (by omega))).mono ?_; rintro e w4 ⟨rfl, k4, oo⟩))
            go_wp2_with fail
            go_meet
            exact ⟨rfl, two_step (Nat.le_refl _) BW1.out.drew o3.out k3 oo k4 L1.out⟩
          · have e0 : (p.1 == 0) = false := eqb_false d0
            clear d0 N1 N2 L1
            by_cases d1 : p.1 = 1
            · have e1 : (p.1 == 1) = true := eqb_true d1
              clear d1 F1 F2 L3
              go_wp2_with fail
              go_region_held (fun W => W.cell? ⟨b1, o1 + k * 3 + 2, none⟩ = some (.int .i64 p.2.2)) (first | exact y2 | (go_split_ands; exact keepO (by assumption) oo (by omega))) (first | (go_at_call 18; refine M1.out.mono ?_; rintro e w3 ⟨rfl, k3, oo⟩; have o3 := Lib.hid oo) | (go_at_call 19; refine (M2.out _ (oo.blk K2.out.drew (by omega))).mono ?_; rintro e w4 ⟨rfl, k4, oo⟩))
              go_wp2_with fail
              go_meet
              exact ⟨rfl, two_step (Nat.le_refl _) BW1.out.drew o3.out k3 oo k4 L2.out⟩
            · have e1 : (p.1 == 1) = false := eqb_false d1
              clear d1 M1 M2 L2
              by_cases d2 : p.1 = 2
              · have e2 : (p.1 == 2) = true := eqb_true d2
                clear d2
                go_wp2_with fail
                refine F1.out.mono ?_
                rintro e w3 ⟨rfl, k3, o3⟩
                have N2 := Lib.hid (F2.out w3 (o3.blk K2.out (by omega)))
                have K3 := Lib.hid k3
                have O3 := Lib.hid o3
                clear k3 o3
                go_wp2_with fail
                refine N2.out.mono ?_
                rintro e w4 ⟨rfl, k4, o4⟩
                have K4 := Lib.hid k4
                have O4 := Lib.hid o4
                clear k4 o4
                go_wp2_with fail
                go_meet
                exact ⟨rfl, two_step (Nat.le_refl _) BW1.out O3.out K3.out O4.out K4.out L3.out⟩
              · have e2 : (p.1 == 2) = false := eqb_false d2
                clear d2 F1 F2 L3
                by_cases d3 : p.1 = 3
                · have e3 : (p.1 == 3) = true := eqb_true d3
                  clear d3
                  go_wp2_with fail
                  refine (RWrong_any w.heap.size s i bad wr K1.out).mono ?_
                  rintro e w3 ⟨rfl, k3, o3⟩
                  have N2 := Lib.hid (rRWrong_any (w.heap.size + 1) s i bad w3 (o3.blk K2.out (by omega)))
                  have K3 := Lib.hid k3
                  have O3 := Lib.hid o3
                  clear k3 o3
                  go_wp2_with fail
                  refine N2.out.mono ?_
                  rintro e w4 ⟨rfl, k4, o4⟩
                  have K4 := Lib.hid k4
                  have O4 := Lib.hid o4
                  clear k4 o4
                  go_wp2_with fail
                  go_meet
                  exact ⟨rfl, two_step (Nat.le_refl _) BW1.out O3.out K3.out O4.out K4.out hi⟩
                · have e3 : (p.1 == 3) = false := eqb_false d3
                  clear d3
                  go_wp2_with fail
                  go_meet
                  exact ⟨rfl, HT.out⟩
        case rest =>
          clear N1 N2 L1 M1 M2 L2 F1 F2 L3 K1 K2 y0 y1 y2 BW1 HT
          obtain ⟨rfl, i', bad', k1, k2, hi', bW⟩ := hcut
          have E1 := Lib.hid (fun n => REnd_any w.heap.size s i' bad' (wc.drewN n) (k1.drewN n))
          have E2 := Lib.hid (fun n => rREnd_any (w.heap.size + 1) s i' bad' (wc.drewN n) (k2.drewN n))
          have x1 := k1.cell 1
          have x2 := k1.cell 2
          have x3 := k2.cell 1
          have x4 := k2.cell 2
          have TT := Lib.hid (fun n => show Two s w.heap.size w (wc.drewN n) from ⟨i', bad', k1.drewN n, k2.drewN n, hi', below_drewN bW n⟩)
          clear k1 k2 bW
          generalize endOf s.size i' bad' = en at *
          have v1 : IntKind.i64.wrap ((k : Int) + 1) = (k : Int) + 1 := IntWalk.i64_in _ (by omega)
          cases bad'
          all_goals
            go_wp2_with fail
            go_quiet ((first | (go_at_call 24; exact Calls.quiet_of (E1.out _)) | (go_at_call 25; exact Calls.quiet_of (E2.out _))))
            go_wp2_with fail
            go_roundg (gk - 1)
            case measure => have := HM.out; omega
            case rel => exact ⟨k + 1, by omega, by go_num, by have := HM.out; omega, TT.out _⟩
      · obtain rfl : k = l.length := by omega
        obtain ⟨i, bad, k1, k2, hi, bW⟩ := HT.out
        have BW1 := Lib.hid bW
        clear k1 k2 bW HT HM
        go_wp2_with fail
        refine (RWrong_nil _).mono ?_
        rintro e w3 ⟨rfl, rfl⟩
        go_wp2_with fail
        refine (RNum_nil _ _ _).mono ?_
        rintro e w3 ⟨rfl, b3⟩
        have B3 := Lib.hid (btrans BW1.out b3)
        clear b3
        go_wp2_with fail
        refine (RTxt_nil _ _).mono ?_
        rintro e w4 ⟨rfl, b4⟩
        have B4 := Lib.hid (btrans B3.out b4)
        clear b4
        go_wp2_with fail
        refine (RFlag_nil _).mono ?_
        rintro e w5 ⟨rfl, b5⟩
        have B5 := Lib.hid (btrans B4.out b5)
        clear b5
        go_wp2_with fail
        refine (REnd_nil _).mono ?_
        rintro e w6 ⟨rfl, b6⟩
        have B6 := Lib.hid (btrans B5.out b6)
        clear b6
        go_wp2_with fail
        refine (HWK.out _ B6.out).mono ?_
        rintro e w7 ⟨rfl, b7⟩
        have B7 := Lib.hid (btrans B6.out b7)
        clear b7
        go_wp2_with fail
        go_ret
        exact ⟨rfl, B7.out⟩
end Go.Proofs.YtcockikekgmfkaaDoor
