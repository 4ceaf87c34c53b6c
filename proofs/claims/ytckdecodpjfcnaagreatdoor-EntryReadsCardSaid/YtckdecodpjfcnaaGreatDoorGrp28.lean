/-
  Layer 7: how the fields of any kind are read.
  Layer 7: how copies and states are read.
-/
import Derived.Test.YtckdecodpjfcnaaGreatDoorGrp27
import Derived.Deep.RegionLaw
import Derived.Deep.LoopGhost
import Derived.Deep.DeepCutAuto
import Derived.Laws.EntriesVeiled
set_option linter.unusedVariables false
set_option linter.unusedSimpArgs false
namespace Go.Proofs.YtckdecodpjfcnaaGreatDoor
open Go.RowKit
attribute [local go_sem ↓] Go.wp_at_zero Go.wp_at_succ

set_option maxRecDepth 100000 in
set_option maxHeartbeats 2000000 in
theorem ercopied_any (B g gr : Nat) (s : ByteArray) (kd : Int) (i : Nat) (b : Bool) (W : World) (h : ErS0 B g gr s i b kd W) (bt : Bat) (j j2 j3 : Nat) (b1 b2 b3 : Bool) (t : Bool) (n : Int) (hz : rdBat (lb s) i b = (bt, j, b1)) (hz2 : rdFlag (lb s) j b1 = (t, j2, b2)) (hz3 : rdIf t (lb s) j2 b2 = (n, j3, b3)) :
    Calls Tryz.prog 81 #[.pointer (some ⟨g, 0, none⟩)] W (ErOk B g gr s j3 b3 { baseEn kd with b := bt, yes := t, nx := n } W) := by
  have DT := Lib.hid (erdata_any B g gr s kd i b W h bt j b1 hz)
  have HZ2 := Lib.hid hz2
  have HZ3 := Lib.hid hz3
  clear h hz hz2 hz3
  go_enter Tryz.func81, Tryz.ntmps81
  go_wp2_with fail
  refine DT.out.mono ?_
  rintro e w1 ⟨rfl, s1, o1⟩
  have S1 := Lib.hid s1
  have O1 := Lib.hid o1
  obtain ⟨_, _, _, _, k1, r1, _⟩ := s1
  have x0 : w1.cell? ⟨g, 0, none⟩ = some (.pointer (some ⟨gr, 0, none⟩)) := k1.cell 0
  have N1 := Lib.hid (RFlag_z HZ2.out r1)
  clear k1 r1 o1
  go_wp2_with fail
  refine N1.out.mono ?_
  rintro e w2 ⟨rfl, r2, o2⟩
  have T2 := Lib.hid (S1.out.next r2 o2)
  have O2 := Lib.hid (O1.out.trans (only_ge o2))
  obtain ⟨_, _, _, _, k2, _⟩ := T2.out
  have y := k2.cell 7
  have z := k2.frozen 7
  clear k2 r2 o2 x0
  go_upto_region 2 with (fail)
  have S2 := Lib.hid (T2.out.put { baseEn kd with b := bt, yes := t } 7 (.bool t) rfl rfl (fun _ _ _ _ => rfl))
  have P2 := Lib.hid (O2.out.set (g := g) (o := 7) (.inl (.inr (Nat.le_refl _))) (.bool t))
  clear y z
  generalize w2.setCell ⟨g, 7, none⟩ (.bool t) = v2 at *
  obtain ⟨_, _, _, _, k3, r3, _⟩ := S2.out
  have x0 : v2.cell? ⟨g, 0, none⟩ = some (.pointer (some ⟨gr, 0, none⟩)) := k3.cell 0
  have x7 : v2.cell? ⟨g, 7, none⟩ = some (.bool t) := k3.cell 7
  have R3 := Lib.hid r3
  clear k3 r3
  cases t
  · have hz : ((0 : Int), j2, b2) = (n, j3, b3) := HZ3.out
    injection hz with e1 e2
    injection e2 with e2 e3
    subst e1; subst e2; subst e3
    go_wp2_with fail
    go_end0
    exact ⟨rfl, S2.out, P2.out⟩
  · have hz : rdNum (lb s) j2 b2 0 1048576 = (n, j3, b3) := HZ3.out
    have N2 := Lib.hid (RNum_z hz R3.out)
    clear hz
    go_wp2_with fail
    refine N2.out.mono ?_
    rintro e w3 ⟨rfl, r4, o4⟩
    have T3 := Lib.hid (S2.out.next r4 o4)
    have O3 := Lib.hid (P2.out.trans (only_ge o4))
    obtain ⟨_, _, _, _, k4, _⟩ := T3.out
    have y := k4.cell 8
    have z := k4.frozen 8
    clear k4 r4 o4 x0 x7
    go_wp2_with fail
    go_end0
    exact ⟨rfl, T3.out.put { baseEn kd with b := bt, yes := true, nx := n } 8 (.int .i64 n) rfl rfl (fun _ _ _ _ => rfl), O3.out.set (.inl (.inr (Nat.le_refl _))) _⟩

theorem infoN : (Tryz.prog.info? 73).map (fun i => (i.zero, i.size, i.bytes)) = some (some (.agg #[.int .i64 0, .int .i64 0, .int .i64 0]), 3, 24) := by kernel_rfl
theorem reads_newN (w : World) (t : TypeId) (p : Sn) (g : Nat) (hg : w.heap.size = g) : Reads (w.alloc (.cells #[.int .i64 p.1, .int .i64 p.2.1, .int .i64 p.2.2] t)) (g + 1) 3 (some ⟨g, 0, none⟩) 1 (cellsN [p]) := by
  subst hg
  refine ⟨by rw [length_cellsN]; rfl, fun _ => ⟨_, rfl, Nat.lt_succ_self _, fun j u hu => ?_⟩⟩
  rw [add_none, Nat.zero_add]
  rw [(Blk.new w t _).cell j]
  have e : cellsN [p] = (#[.int .i64 p.1, .int .i64 p.2.1, .int .i64 p.2.2] : Array Value).toList := by rw [cellsN_cons]; rfl
  rw [e] at hu
  simpa using hu
theorem own_keepN {w w' : World} {base : Nat} {e : TypeId} {size n : Nat} {v : Value} {xs : List Value} (k : w.ownsRow base e size v n xs) (h : ∀ x, v.ownBlock = some x → w'.heap[x]? = w.heap[x]?) : w'.ownsRow base e size v n xs := by
  refine ⟨k.1, ?_⟩
  rcases k.2 with h0 | ⟨g, cap, cur, hv, hg, hh, hr⟩
  · exact .inl h0
  · exact .inr ⟨g, cap, cur, hv, hg, (h g (by rw [hv]; rfl)).trans hh, hr⟩
/-- A producer that is read. -/
def stEn (kd p q n : Int) (rs : List Sn) : En := { baseEn kd with prod := ⟨p, q, n, rs⟩ }
/-- Reading a producer. -/
def EsSt (B g gr : Nat) (s : ByteArray) (i : Nat) (b : Bool) (x : En) (W : World) : Prop :=
  ∃ D5 e5, Blk W g 89 (erC gr x none D5 0 e5) ∧ RdOk B W gr s i b ∧ B ≤ g ∧ W.ownsRow (g + 1) 73 3 (.slice D5 x.prod.seen.length e5) x.prod.seen.length (cellsN x.prod.seen)
/-- Reading what a producer was seen with: as above, and the block that is filled. -/
def EwSt (B g gr : Nat) (s : ByteArray) (i : Nat) (b : Bool) (x : En) (D5 : Option Addr) (e5 Y : Nat) (cs : Array Value) (w W : World) : Prop :=
  Blk W g 89 (erC gr x none D5 0 e5) ∧ RdOk B W gr s i b ∧ W.ownsRow (g + 1) 73 3 (.slice D5 x.prod.seen.length e5) x.prod.seen.length (cellsN x.prod.seen) ∧ Blk W Y 73 cs ∧ B ≤ g ∧ g < Y ∧ (∀ y, (Value.slice D5 x.prod.seen.length e5).ownBlock = some y → y < Y) ∧ Only (fun y => y = gr ∨ g ≤ y) w W
section
variable {B g gr i j e5 Y : Nat} {b b' : Bool} {s : ByteArray} {x : En} {D5 : Option Addr} {cs : Array Value} {w W W' : World}
theorem EsSt.next (h : EsSt B g gr s i b x W) (k : RdOk B W' gr s j b') (o : Only (fun x => x = gr) W W') : EsSt B g gr s j b' x W' := by
  obtain ⟨D5, e5, h1, h2, h3, h5⟩ := h
  have := h2.2.2.2.2.1
  exact ⟨D5, e5, o.blk h1 (by omega), k, h3, o.own h5 (fun x hx e => by omega)⟩
theorem EsSt.put (h : EsSt B g gr s i b x W) (x' : En) (o : Nat) (v : Value) (hs : x'.prod.seen = x.prod.seen) (hc : ∀ D5 e5, erC gr x' none D5 0 e5 = (erC gr x none D5 0 e5).setIfInBounds o v) : EsSt B g gr s i b x' (W.setCell ⟨g, o, none⟩ v) := by
  obtain ⟨D5, e5, h1, h2, h3, h5⟩ := h
  refine ⟨D5, e5, ?_, h2.set h3 v, h3, ?_⟩
  · rw [hc]; exact h1.set_ o v
  · rw [hs]; exact own_set h5 (Nat.lt_succ_self _) v
theorem EwSt.next (h : EwSt B g gr s i b x D5 e5 Y cs w W) (k : RdOk B W' gr s j b') (o : Only (fun x => x = gr) W W') : EwSt B g gr s j b' x D5 e5 Y cs w W' := by
  obtain ⟨h1, h2, h3, h4, h5, h6, h7, h8⟩ := h
  have := h2.2.2.2.2.1
  exact ⟨o.blk h1 (by omega), k, o.own h3 (fun x hx e => by omega), o.blk h4 (by omega), h5, h6, h7, h8.trans (only_ge o)⟩
theorem EwSt.put (h : EwSt B g gr s i b x D5 e5 Y cs w W) (o : Nat) (v : Value) : EwSt B g gr s i b x D5 e5 Y (cs.setIfInBounds o v) w (W.setCell ⟨Y, o, none⟩ v) := by
  obtain ⟨h1, h2, h3, h4, h5, h6, h7, h8⟩ := h
  refine ⟨h1.far (p := ⟨Y, o, none⟩) (by show g ≠ Y; omega) v, h2.set (by omega) v, own_keepN h3 (fun x hx => Below.heap_setCell W ⟨Y, o, none⟩ v x (by have := h7 x hx; show x ≠ Y; omega)), h4.set_ o v, h5, h6, h7, h8.set (.inl (.inr (by omega))) v⟩
end
set_option maxRecDepth 100000 in
set_option maxHeartbeats 4000000 in
theorem erstate_any (B g gr : Nat) (s : ByteArray) (kd : Int) (i : Nat) (b : Bool) (W : World) (h : ErS0 B g gr s i b kd W) (j1 j2 j3 j4 : Nat) (b1 b2 b3 b4 : Bool) (p q n m0 : Int)
    (hz1 : rdNum (lb s) i b 1 8 = (p, j1, b1)) (hz2 : rdNum (lb s) j1 b1 0 100 = (q, j2, b2)) (hz3 : rdNum (lb s) j2 b2 0 1048576 = (n, j3, b3)) (hz4 : rdNum (lb s) j3 b3 0 3 = (m0, j4, b4)) :
    Calls Tryz.prog 84 #[.pointer (some ⟨g, 0, none⟩)] W (ErOk B g gr s (rdRep (rdSn 1) m0.toNat (lb s) j4 b4).2.1 (rdRep (rdSn 1) m0.toNat (lb s) j4 b4).2.2 (stEn kd p q n (rdRep (rdSn 1) m0.toNat (lb s) j4 b4).1) W) := by
  obtain ⟨i0, hi, hi0, hi1, hi2⟩ := info_parts infoN
  have hn : 0 ≤ m0 ∧ m0 ≤ 3 := by rcases rdNum_rng hz4 with h | h <;> omega
  obtain ⟨m, rfl⟩ := Int.eq_ofNat_of_zero_le hn.1
  rw [Int.toNat_natCast]
  have WH := Lib.hid (rwho_any B g gr s i j1 j2 b b1 b2 p q kd W h hz1 hz2)
  have x0 : W.cell? ⟨g, 0, none⟩ = some (.pointer (some ⟨gr, 0, none⟩)) := h.1.cell 0
  have hgr : gr < B := h.2.1.2.2.2.2.1
  have h3 : B ≤ g := h.2.2
  have HZ3 := Lib.hid hz3
  have HZ4 := Lib.hid hz4
  clear h hz1 hz2 hz3 hz4
  go_enter Tryz.func84, Tryz.ntmps84
  go_wp2_with fail
  refine WH.out.mono ?_
  rintro e w1 ⟨rfl, s1, o1⟩
  have S1 := Lib.hid (show EsSt B g gr s j2 b2 (baseEn kd) w1 from ⟨none, 0, s1.1, s1.2.1, s1.2.2, World.ownsRow_nil _ _ _ _⟩)
  have O1 := Lib.hid o1
  have y2 := s1.1.cell 15
  have z2 := s1.1.frozen 15
  have y3 := s1.1.cell 16
  have z3 := s1.1.frozen 16
  clear s1 o1
  go_upto_region 2 with (fail)
  have S2 := Lib.hid ((S1.out.put (stEn kd p 0 0 []) 15 (.int .i64 p) rfl (fun _ _ => rfl)).put (stEn kd p q 0 []) 16 (.int .i64 q) rfl (fun _ _ => rfl))
  have O2 := Lib.hid (((only_ge (g := g) O1.out).set (g := g) (o := 15) (.inl (.inr (Nat.le_refl _))) (.int .i64 p)).set (g := g) (o := 16) (.inl (.inr (Nat.le_refl _))) (.int .i64 q))
  clear y2 z2 y3 z3 x0
  generalize (w1.setCell ⟨g, 15, none⟩ (.int .i64 p)).setCell ⟨g, 16, none⟩ (.int .i64 q) = w2 at *
  obtain ⟨D2, e2, k2, r2, _⟩ := S2.out
  have x0 : w2.cell? ⟨g, 0, none⟩ = some (.pointer (some ⟨gr, 0, none⟩)) := k2.cell 0
  have N3 := Lib.hid (RNum_z HZ3.out r2)
  clear k2 r2
  go_wp2_with fail
  refine N3.out.mono ?_
  rintro e w3 ⟨rfl, r3, o3⟩
  have T3 := Lib.hid (S2.out.next r3 o3)
  have O3 := Lib.hid (O2.out.trans (only_ge o3))
  obtain ⟨D3, e3, k3, _⟩ := T3.out
  have y := k3.cell 17
  have z := k3.frozen 17
  clear k3 r3 o3 x0
  go_upto_region 3 with (fail)
  have S3 := Lib.hid (T3.out.put (stEn kd p q n []) 17 (.int .i64 n) rfl (fun _ _ => rfl))
  have P3 := Lib.hid (O3.out.set (g := g) (o := 17) (.inl (.inr (Nat.le_refl _))) (.int .i64 n))
  clear y z
  generalize w3.setCell ⟨g, 17, none⟩ (.int .i64 n) = v3 at *
  obtain ⟨D4, e4, k4, r4, _⟩ := S3.out
  have x0 : v3.cell? ⟨g, 0, none⟩ = some (.pointer (some ⟨gr, 0, none⟩)) := k4.cell 0
  have N4 := Lib.hid (RNum_z HZ4.out r4)
  clear k4 r4
  go_wp2_with fail
  refine N4.out.mono ?_
  rintro e w4 ⟨rfl, r4, o4⟩
  have S4 := Lib.hid (S3.out.next r4 o4)
  have O4 := Lib.hid (P3.out.trans (only_ge o4))
  clear r4 o4 x0
  go_wp2_with fail
  go_loopg [32] m (fun mm x wr => ∃ k : Nat, k ≤ m ∧ x = .int .i64 k ∧ mm = m - k ∧ EsSt B g gr s (rdRep (rdSn 1) k (lb s) j4 b4).2.1 (rdRep (rdSn 1) k (lb s) j4 b4).2.2 (stEn kd p q n (rdRep (rdSn 1) k (lb s) j4 b4).1) wr ∧ Only (fun x => x = gr ∨ g ≤ x) W wr)
  case atStart => exact ⟨0, Nat.zero_le _, rfl, rfl, S4.out, O4.out⟩
  case round =>
    obtain ⟨k, hk, rfl, hmm, hst, how⟩ := hrel
    have HM := Lib.hid hmm
    have HST := Lib.hid hst
    have HOW := Lib.hid how
    clear hmm hst how
    by_cases hlt : k < m
    · have d1 : decide ((k : Int) < (m : Int)) = true := by simp; omega
      obtain ⟨rs, i6, b6, hrep⟩ : ∃ rs i6 b6, rdRep (rdSn 1) k (lb s) j4 b4 = (rs, i6, b6) := ⟨_, _, _, rfl⟩
      obtain ⟨v1, i7, b7, hza⟩ : ∃ v i' b', rdNum (lb s) i6 b6 0 1048576 = (v, i', b') := ⟨_, _, _, rfl⟩
      obtain ⟨v2, i8, b8, hzb⟩ : ∃ v i' b', rdNum (lb s) i7 b7 1 4 = (v, i', b') := ⟨_, _, _, rfl⟩
      obtain ⟨v3, i9, b9, hzc⟩ : ∃ v i' b', rdNum (lb s) i8 b8 0 1048577 = (v, i', b') := ⟨_, _, _, rfl⟩
      have hnx : rdRep (rdSn 1) (k + 1) (lb s) j4 b4 = (rs ++ [(v1, v2, v3 - 1)], i9, b9) := by
        rw [rdRep_snoc, hrep]
        have hzb' : rdNum (lb s) i7 b7 ((1 : Nat) : Int) 4 = (v2, i8, b8) := hzb
        simp only [rdSn, rdMap, rdBind, hza, hzb', hzc]
      have hrl : rs.length = k := by have := rdRep_len (rdSn 1) k (lb s) j4 b4; rw [hrep] at this; exact this
      have hst := HST.out
      rw [hrep] at hst
      have hv3 : 0 ≤ v3 ∧ v3 ≤ 1048577 := by rcases rdNum_rng hzc with h | h <;> omega
      have cw : IntKind.i64.wrap (v3 - 1) = v3 - 1 := IntWalk.i64_in _ (by omega)
      obtain ⟨D2, e2, k2, r2, _, own2⟩ := hst
      have x0 : wr.cell? ⟨g, 0, none⟩ = some (.pointer (some ⟨gr, 0, none⟩)) := k2.cell 0
      have hgl := k2.lt
      obtain ⟨X, hX⟩ : ∃ X : En, X = stEn kd p q n rs := ⟨_, rfl⟩
      have hXl : X.prod.seen = rs := by rw [hX]; rfl
      have K2 := Lib.hid (show Blk wr g 89 (erC gr X none D2 0 e2) by rw [hX]; exact k2)
      have OW2 := Lib.hid (show wr.ownsRow (g + 1) 73 3 (.slice D2 X.prod.seen.length e2) X.prod.seen.length (cellsN X.prod.seen) by rw [hX]; exact own2)
      have NA := Lib.hid (RNum_z hza r2)
      have HZB := Lib.hid hzb
      have HZC := Lib.hid hzc
      have HNX := Lib.hid hnx
      have HX := Lib.hid hX
      have HXL := Lib.hid hXl
      have HRL := Lib.hid hrl
      clear k2 r2 own2 hza hzb hzc hnx hX hXl hrep hrl
      go_wp2_with fail
      refine NA.out.mono ?_
      rintro e w5 ⟨rfl, r3, o3⟩
      have hs3 := o3.size
      obtain ⟨Y, hY⟩ : ∃ Y, w5.heap.size = Y := ⟨_, rfl⟩
      have T0 : EwSt B g gr s i7 b7 X D2 e2 Y #[.int .i64 v1, .int .i64 0, .int .i64 0] W (w5.alloc (.cells #[.int .i64 v1, .int .i64 0, .int .i64 0] 73)) :=
        ⟨(o3.blk K2.out (by omega)).alloc _, r3.alloc _, (o3.own OW2.out (fun x hx e => by omega)).alloc _, blk_new w5 _ _ hY, h3, by omega, fun x hx => by have := (OW2.out.lt x hx).2; omega, (HOW.out.trans (only_ge o3)).alloc _⟩
      have TT0 := Lib.hid T0
      have y0 := T0.1.cell 0
      have NB := Lib.hid (RNum_z HZB.out T0.2.1)
      have HYH := Lib.hid hY
      have hYl : ¬ g = Y := by omega
      clear r3 o3 T0 x0
      go_upto_region 6 with (fail)
      go_wp2_with fail
      refine NB.out.mono ?_
      rintro e w6 ⟨rfl, r, o⟩
      have ta := TT0.out.next r o
      have y := ta.2.2.2.1.cell 1
      have z := ta.2.2.2.1.frozen 1
      have y0' := ta.1.cell 0
      have T1 := Lib.hid (ta.put 1 (.int .i64 v2))
      have NC := Lib.hid (RNum_z HZC.out T1.out.2.1)
      clear r o ta y0
      have y0 := y0'
      clear y0'
      go_upto_region 7 with (fail)
      clear y z
      go_wp2_with fail
      refine NC.out.mono ?_
      rintro e w7 ⟨rfl, r, o⟩
      have ta := T1.out.next r o
      have y := ta.2.2.2.1.cell 2
      have z := ta.2.2.2.1.frozen 2
      have T4 := Lib.hid (ta.put 2 (.int .i64 (v3 - 1)))
      clear r o ta y0
      go_upto_region 8 with (fail)
      clear y z
      have hsim : ((#[.int .i64 v1, .int .i64 0, .int .i64 0] : Array Value).setIfInBounds 1 (.int .i64 v2)).setIfInBounds 2 (.int .i64 (v3 - 1)) = #[.int .i64 v1, .int .i64 v2, .int .i64 (v3 - 1)] := rfl
      have T5 := T4.out
      rw [hsim] at T5
      generalize (World.setCell w7 ⟨Y, 2, none⟩ (.int .i64 (v3 - 1))) = WR at *
      have TT := Lib.hid T5
      have kg := T5.1.drew
      have kY := T5.2.2.2.1.drew
      have c6 := kg.cell 18
      have c6p := T5.1.cell 18
      have n6 : ∀ o, (WR.drew.alloc o).cell? ⟨g, 18, none⟩ = some (.slice D2 X.prod.seen.length e2) := fun o => (kg.alloc o).cell 18
      have d0 := kY.cell 0
      have d1' := kY.cell 1
      have d2 := kY.cell 2
      have hwr : g < WR.heap.size := kg.lt
      have hpl : X.prod.seen.length ≤ 3 := by rw [HXL.out, HRL.out]; omega
      clear T5 kg kY hsim
      go_region_law ((refine step_append_any _ (by rfl) (.tmp 57) (.tmp 59) 28 (by rfl) (g + 1) 73 i0 _ 3 24 Tryz.underlying28 hi hi0 hi1 hi2 rfl (by decide) _ X.prod.seen.length _ (by rfl) ((TT.out.2.2.1.drew).alloc _) _ _ 1 1 (cellsN [(v1, v2, v3 - 1)]) (by rfl) (reads_newN WR.drew _ (v1, v2, v3 - 1) _ rfl) (cellsN_one _) (by unfold maxLen; omega) (by omega) (by simp; omega) ?_); intro v' w8 hown' hgrow hat'; obtain ⟨A8, c8, rfl, hc8⟩ := own_slice hown'; have k8 := (TT.out.1.drew.alloc _).grown hgrow (fun e => by have := (TT.out.2.2.1.lt _ e.symm).1; omega); have y8 := k8.cell 18; have z8 := k8.frozen 18)
      all_goals
        go_wp2_with fail
        go_roundg (gk - 1)
        case measure => have := HM.out; omega
        case rel =>
          refine ⟨k + 1, by omega, by go_num, by have := HM.out; omega, ?_, ?_⟩
          · rw [HNX.out]
            have hlen : X.prod.seen.length + 1 = (rs ++ [(v1, v2, v3 - 1)]).length := by rw [List.length_append, HXL.out]; rfl
            refine ⟨A8, c8, ?_, ((TT.out.2.1.drew.alloc _).grown hgrow (fun x hx => by have := (TT.out.2.2.1.lt _ hx).1; omega)).set h3 _, h3, ?_⟩
            · show Blk _ g _ (erC gr (stEn kd p q n (rs ++ [(v1, v2, v3 - 1)])) none A8 0 c8)
              have := k8.set_ 18 (.slice A8 (X.prod.seen.length + 1) c8)
              rw [hlen] at this ⊢
              rw [HX.out] at this
              exact this
            · show World.ownsRow _ (g + 1) _ 3 (.slice A8 (rs ++ [(v1, v2, v3 - 1)]).length c8) (rs ++ [(v1, v2, v3 - 1)]).length (cellsN (rs ++ [(v1, v2, v3 - 1)]))
              rw [hlen] at hown' ⊢
              rw [HXL.out] at hown'
              rw [cellsN_append]
              exact own_set hown' (Nat.lt_succ_self _) _
          · exact (((TT.out.2.2.2.2.2.2.2.drew).alloc _).grown hgrow (fun x hx _ => .inr (by have := (TT.out.2.2.1.lt _ hx).1; omega))).set (.inl (.inr (Nat.le_refl _))) _
    · obtain rfl : k = m := by omega
      have d1 : decide ((k : Int) < (k : Int)) = false := by simp
      go_wp2_with fail
      go_end0
      obtain ⟨D9, e9, k9, r9, h9, o9⟩ := HST.out
      exact ⟨rfl, ⟨none, D9, 0, e9, k9, r9, h9, World.ownsRow_nil _ _ _ _, o9⟩, HOW.out⟩
end Go.Proofs.YtckdecodpjfcnaaGreatDoor
namespace Go.Proofs.YtckdecodpjfcnaaGreatDoor
open Go.RowKit
theorem ereading_data (k : Int) (hk : k = 0) (w : World) : Calls Tryz.prog 50 #[.int .i8 k] w (WePost 78 w) := by
  have HB := Lib.hid (fun o => bal (Below.refl w.heap.size w) o)
  subst hk
  go_enter Tryz.func50, Tryz.ntmps50
  go_wp2_with fail
  go_ret
  exact ⟨rfl, HB.out _⟩
theorem ereading_mark (k : Int) (hk : k = 1) (w : World) : Calls Tryz.prog 50 #[.int .i8 k] w (WePost 79 w) := by
  have HB := Lib.hid (fun o => bal (Below.refl w.heap.size w) o)
  subst hk
  go_enter Tryz.func50, Tryz.ntmps50
  go_wp2_with fail
  go_ret
  exact ⟨rfl, HB.out _⟩
theorem ereading_cut (k : Int) (hk : k = 2) (w : World) : Calls Tryz.prog 50 #[.int .i8 k] w (WePost 80 w) := by
  have HB := Lib.hid (fun o => bal (Below.refl w.heap.size w) o)
  subst hk
  go_enter Tryz.func50, Tryz.ntmps50
  go_wp2_with fail
  go_ret
  exact ⟨rfl, HB.out _⟩
theorem ereading_copied (k : Int) (hk : k = 3) (w : World) : Calls Tryz.prog 50 #[.int .i8 k] w (WePost 81 w) := by
  have HB := Lib.hid (fun o => bal (Below.refl w.heap.size w) o)
  subst hk
  go_enter Tryz.func50, Tryz.ntmps50
  go_wp2_with fail
  go_ret
  exact ⟨rfl, HB.out _⟩
theorem ereading_drop (k : Int) (hk : k = 4) (w : World) : Calls Tryz.prog 50 #[.int .i8 k] w (WePost 82 w) := by
  have HB := Lib.hid (fun o => bal (Below.refl w.heap.size w) o)
  subst hk
  go_enter Tryz.func50, Tryz.ntmps50
  go_wp2_with fail
  go_ret
  exact ⟨rfl, HB.out _⟩
theorem ereading_row (k : Int) (hk : k = 5) (w : World) : Calls Tryz.prog 50 #[.int .i8 k] w (WePost 83 w) := by
  have HB := Lib.hid (fun o => bal (Below.refl w.heap.size w) o)
  subst hk
  go_enter Tryz.func50, Tryz.ntmps50
  go_wp2_with fail
  go_ret
  exact ⟨rfl, HB.out _⟩
theorem ereading_state (k : Int) (hk : k = 6) (w : World) : Calls Tryz.prog 50 #[.int .i8 k] w (WePost 84 w) := by
  have HB := Lib.hid (fun o => bal (Below.refl w.heap.size w) o)
  subst hk
  go_enter Tryz.func50, Tryz.ntmps50
  go_wp2_with fail
  go_ret
  exact ⟨rfl, HB.out _⟩
/-- What is read has few rows. -/
theorem rdE_len (z m : Nat) (kd : Int) (l : List UInt8) (i : Nat) (b : Bool) : ((rdE z m kd l i b).1).1.rs.length ≤ 4 ∧ ((rdE z m kd l i b).1).2.2.2.2.2.seen.length ≤ 3 := by
  have h6 : ∀ l i b, (rdPd z l i b).1.seen.length ≤ 3 := fun l i b => by
    simp only [rdPd, rdMap, rdBind]
    rw [rdRep_len]
    generalize (rdNum l (rdNum l i b (↑z) 8).2.1 (rdNum l i b (↑z) 8).2.2 0 100) = a
    generalize hn : rdNum l _ _ 0 3 = r
    obtain ⟨v, j, c⟩ := r
    have := rdNum_rng hn
    simp only
    omega
  unfold rdE
  repeat' split
  · exact ⟨rdBat_rs l i b, Nat.zero_le _⟩
  · exact ⟨Nat.zero_le _, Nat.zero_le _⟩
  · exact ⟨Nat.zero_le _, Nat.zero_le _⟩
  · exact ⟨rdBat_rs l i b, Nat.zero_le _⟩
  · exact ⟨Nat.zero_le _, Nat.zero_le _⟩
  · exact ⟨Nat.zero_le _, Nat.zero_le _⟩
  · exact ⟨Nat.zero_le _, h6 l i b⟩
  · exact ⟨Nat.zero_le _, Nat.zero_le _⟩
theorem erbody_data (B g gr : Nat) (s : ByteArray) (kd : Int) (hk : kd = 0) (i j : Nat) (b b' : Bool) (y : Eb) (W : World) (h : ErS0 B g gr s i b kd W) (hz : rdE 1 1048575 kd (lb s) i b = (y, j, b')) :
    Calls Tryz.prog 78 #[.pointer (some ⟨g, 0, none⟩)] W (ErOk B g gr s j b' (enOf kd y) W) := by
  subst hk
  obtain ⟨bt, j1, b1, h1⟩ : ∃ v j c, rdBat (lb s) i b = (v, j, c) := ⟨_, _, _, rfl⟩
  have hz' : (((bt, false, 0, 0, Rw0, Pd0) : Eb), j1, b1) = (y, j, b') := by rw [← hz]; show _ = rdE0 (lb s) i b; simp only [rdE0, rdMap, h1]
  injection hz' with e1 e2
  injection e2 with e2 e3
  subst e1; subst e2; subst e3
  exact erdata_any B g gr s 0 i b W h bt _ _ h1
theorem erbody_mark (B g gr : Nat) (s : ByteArray) (kd : Int) (hk : kd = 1) (i j : Nat) (b b' : Bool) (y : Eb) (W : World) (h : ErS0 B g gr s i b kd W) (hz : rdE 1 1048575 kd (lb s) i b = (y, j, b')) :
    Calls Tryz.prog 79 #[.pointer (some ⟨g, 0, none⟩)] W (ErOk B g gr s j b' (enOf kd y) W) := by
  subst hk
  obtain ⟨p, j1, b1, h1⟩ : ∃ v j c, rdNum (lb s) i b 1 8 = (v, j, c) := ⟨_, _, _, rfl⟩
  obtain ⟨q, j2, b2, h2⟩ : ∃ v j c, rdNum (lb s) j1 b1 0 100 = (v, j, c) := ⟨_, _, _, rfl⟩
  obtain ⟨t, j3, b3, h3⟩ : ∃ v j c, rdFlag (lb s) j2 b2 = (v, j, c) := ⟨_, _, _, rfl⟩
  have h1' : rdNum (lb s) i b ((1 : Nat) : Int) 8 = (p, j1, b1) := h1
  have hz' : (((wh p q, t, 0, 0, Rw0, Pd0) : Eb), j3, b3) = (y, j, b') := by rw [← hz]; show _ = rdE1 1 (lb s) i b; simp only [rdE1, rdMap, rdBind, h1', h2, h3]
  injection hz' with e1 e2
  injection e2 with e2 e3
  subst e1; subst e2; subst e3
  exact ermark_any B g gr s 1 i b W h _ _ _ _ _ _ p q t h1 h2 h3
theorem erbody_cut (B g gr : Nat) (s : ByteArray) (kd : Int) (hk : kd = 2) (i j : Nat) (b b' : Bool) (y : Eb) (W : World) (h : ErS0 B g gr s i b kd W) (hz : rdE 1 1048575 kd (lb s) i b = (y, j, b')) :
    Calls Tryz.prog 80 #[.pointer (some ⟨g, 0, none⟩)] W (ErOk B g gr s j b' (enOf kd y) W) := by
  subst hk
  obtain ⟨v, j1, b1, h1⟩ : ∃ v j c, rdNum (lb s) i b 0 1048576 = (v, j, c) := ⟨_, _, _, rfl⟩
  have hz' : (((Bat0, false, 0, v, Rw0, Pd0) : Eb), j1, b1) = (y, j, b') := by rw [← hz]; show _ = rdE2 (lb s) i b; simp only [rdE2, rdMap, h1]
  injection hz' with e1 e2
  injection e2 with e2 e3
  subst e1; subst e2; subst e3
  exact ercut_any B g gr s 2 i b W h _ _ v h1
theorem erbody_copied (B g gr : Nat) (s : ByteArray) (kd : Int) (hk : kd = 3) (i j : Nat) (b b' : Bool) (y : Eb) (W : World) (h : ErS0 B g gr s i b kd W) (hz : rdE 1 1048575 kd (lb s) i b = (y, j, b')) :
    Calls Tryz.prog 81 #[.pointer (some ⟨g, 0, none⟩)] W (ErOk B g gr s j b' (enOf kd y) W) := by
  subst hk
  obtain ⟨bt, j1, b1, h1⟩ : ∃ v j c, rdBat (lb s) i b = (v, j, c) := ⟨_, _, _, rfl⟩
  obtain ⟨t, j2, b2, h2⟩ : ∃ v j c, rdFlag (lb s) j1 b1 = (v, j, c) := ⟨_, _, _, rfl⟩
  obtain ⟨n, j3, b3, h3⟩ : ∃ v j c, rdIf t (lb s) j2 b2 = (v, j, c) := ⟨_, _, _, rfl⟩
  have hz' : (((bt, t, n, 0, Rw0, Pd0) : Eb), j3, b3) = (y, j, b') := by rw [← hz]; show _ = rdE3 (lb s) i b; simp only [rdE3, rdMap, rdBind, h1, h2, h3]
  injection hz' with e1 e2
  injection e2 with e2 e3
  subst e1; subst e2; subst e3
  exact ercopied_any B g gr s 3 i b W h bt _ _ _ _ _ _ t n h1 h2 h3
theorem erbody_drop (B g gr : Nat) (s : ByteArray) (kd : Int) (hk : kd = 4) (i j : Nat) (b b' : Bool) (y : Eb) (W : World) (h : ErS0 B g gr s i b kd W) (hz : rdE 1 1048575 kd (lb s) i b = (y, j, b')) :
    Calls Tryz.prog 82 #[.pointer (some ⟨g, 0, none⟩)] W (ErOk B g gr s j b' (enOf kd y) W) := by
  subst hk
  obtain ⟨p, j1, b1, h1⟩ : ∃ v j c, rdNum (lb s) i b 1 8 = (v, j, c) := ⟨_, _, _, rfl⟩
  obtain ⟨q, j2, b2, h2⟩ : ∃ v j c, rdNum (lb s) j1 b1 0 100 = (v, j, c) := ⟨_, _, _, rfl⟩
  obtain ⟨n, j3, b3, h3⟩ : ∃ v j c, rdNum (lb s) j2 b2 0 1048576 = (v, j, c) := ⟨_, _, _, rfl⟩
  have h1' : rdNum (lb s) i b ((1 : Nat) : Int) 8 = (p, j1, b1) := h1
  have hz' : (((wh p q, false, n, 0, Rw0, Pd0) : Eb), j3, b3) = (y, j, b') := by rw [← hz]; show _ = rdE4 1 (lb s) i b; simp only [rdE4, rdMap, rdBind, h1', h2, h3]
  injection hz' with e1 e2
  injection e2 with e2 e3
  subst e1; subst e2; subst e3
  exact erdrop_any B g gr s 4 i b W h _ _ _ _ _ _ p q n h1 h2 h3
theorem erbody_row (B g gr : Nat) (s : ByteArray) (kd : Int) (hk : kd = 5) (i j : Nat) (b b' : Bool) (y : Eb) (W : World) (h : ErS0 B g gr s i b kd W) (hz : rdE 1 1048575 kd (lb s) i b = (y, j, b')) :
    Calls Tryz.prog 83 #[.pointer (some ⟨g, 0, none⟩)] W (ErOk B g gr s j b' (enOf kd y) W) := by
  subst hk
  obtain ⟨p, j1, b1, h1⟩ : ∃ v j c, rdNum (lb s) i b 1 8 = (v, j, c) := ⟨_, _, _, rfl⟩
  obtain ⟨q, j2, b2, h2⟩ : ∃ v j c, rdNum (lb s) j1 b1 0 1048575 = (v, j, c) := ⟨_, _, _, rfl⟩
  obtain ⟨k, j3, b3, h3⟩ : ∃ v j c, rdTxt (lb s) j2 b2 16 = (v, j, c) := ⟨_, _, _, rfl⟩
  obtain ⟨v, j4, b4, h4⟩ : ∃ v j c, rdTxt (lb s) j3 b3 16 = (v, j, c) := ⟨_, _, _, rfl⟩
  have h1' : rdNum (lb s) i b ((1 : Nat) : Int) 8 = (p, j1, b1) := h1
  have h2' : rdNum (lb s) j1 b1 0 ((1048575 : Nat) : Int) = (q, j2, b2) := h2
  have hz' : (((Bat0, false, 0, 0, (0, p, q, bs k, bs v), Pd0) : Eb), j4, b4) = (y, j, b') := by rw [← hz]; show _ = rdE5 1 1048575 (lb s) i b; simp only [rdE5, rdMap, rdBind, h1', h2', h3, h4]
  injection hz' with e1 e2
  injection e2 with e2 e3
  subst e1; subst e2; subst e3
  exact errow_any B g gr s 5 i b W h _ _ _ _ _ _ _ _ p q k v h1 h2 h3 h4
theorem erbody_state (B g gr : Nat) (s : ByteArray) (kd : Int) (hk : kd = 6) (i j : Nat) (b b' : Bool) (y : Eb) (W : World) (h : ErS0 B g gr s i b kd W) (hz : rdE 1 1048575 kd (lb s) i b = (y, j, b')) :
    Calls Tryz.prog 84 #[.pointer (some ⟨g, 0, none⟩)] W (ErOk B g gr s j b' (enOf kd y) W) := by
  subst hk
  obtain ⟨p, j1, b1, h1⟩ : ∃ v j c, rdNum (lb s) i b 1 8 = (v, j, c) := ⟨_, _, _, rfl⟩
  obtain ⟨q, j2, b2, h2⟩ : ∃ v j c, rdNum (lb s) j1 b1 0 100 = (v, j, c) := ⟨_, _, _, rfl⟩
  obtain ⟨n, j3, b3, h3⟩ : ∃ v j c, rdNum (lb s) j2 b2 0 1048576 = (v, j, c) := ⟨_, _, _, rfl⟩
  obtain ⟨m0, j4, b4, h4⟩ : ∃ v j c, rdNum (lb s) j3 b3 0 3 = (v, j, c) := ⟨_, _, _, rfl⟩
  have h1' : rdNum (lb s) i b ((1 : Nat) : Int) 8 = (p, j1, b1) := h1
  have hz' : (((Bat0, false, 0, 0, Rw0, (⟨p, q, n, (rdRep (rdSn 1) m0.toNat (lb s) j4 b4).1⟩ : Pd)) : Eb), (rdRep (rdSn 1) m0.toNat (lb s) j4 b4).2.1, (rdRep (rdSn 1) m0.toNat (lb s) j4 b4).2.2) = (y, j, b') := by rw [← hz]; show _ = rdE6 1 (lb s) i b; simp only [rdE6, rdPd, rdMap, rdBind, h1', h2, h3, h4]
  injection hz' with e1 e2
  injection e2 with e2 e3
  subst e1; subst e2; subst e3
  exact erstate_any B g gr s 6 i b W h _ _ _ _ _ _ _ _ p q n m0 h1 h2 h3 h4
end Go.Proofs.YtckdecodpjfcnaaGreatDoor
