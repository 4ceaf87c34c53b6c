/-
  Layer 9: how the fields of a kind are read.
-/
import Derived.Test.YtckdecodpjfcnaaDoorGrp19
import Derived.Deep.RegionHeld3
import Derived.Deep.DrawnRows
set_option linter.unusedVariables false
set_option linter.unusedSimpArgs false
namespace Go.Proofs.YtckdecodpjfcnaaDoor
open Go.RowKit
attribute [local go_sem ↓] Go.wp_at_zero Go.wp_at_succ

theorem infoW : (Tryd.prog.info? 37).map (fun i => (i.zero, i.size, i.bytes)) = some (some (.agg #[.int .i64 0, .int .i64 0, .int .i64 0, .string ByteArray.empty, .string ByteArray.empty]), 5, 56) := by kernel_rfl
theorem reads_newW (w : World) (t : TypeId) (p : Rw) (g : Nat) (hg : w.heap.size = g) : Reads (w.alloc (.cells #[.int .i64 p.1, .int .i64 p.2.1, .int .i64 p.2.2.1, .string p.2.2.2.1, .string p.2.2.2.2] t)) (g + 1) 5 (some ⟨g, 0, none⟩) 1 (cellsW [p]) := by
  subst hg
  refine ⟨by rw [length_cellsW]; rfl, fun _ => ⟨_, rfl, Nat.lt_succ_self _, fun j u hu => ?_⟩⟩
  rw [add_none, Nat.zero_add]
  rw [(Blk.new w t _).cell j]
  have e : cellsW [p] = (#[.int .i64 p.1, .int .i64 p.2.1, .int .i64 p.2.2.1, .string p.2.2.2.1, .string p.2.2.2.2] : Array Value).toList := by rw [cellsW_cons]; rfl
  rw [e] at hu
  simpa using hu

theorem own_keep {w w' : World} {base : Nat} {e : TypeId} {size n : Nat} {v : Value} {xs : List Value} (k : w.ownsRow base e size v n xs) (h : ∀ x, v.ownBlock = some x → w'.heap[x]? = w.heap[x]?) : w'.ownsRow base e size v n xs := by
  refine ⟨k.1, ?_⟩
  rcases k.2 with h0 | ⟨g, cap, cur, hv, hg, hh, hr⟩
  · exact .inl h0
  · exact .inr ⟨g, cap, cur, hv, hg, (h g (by rw [hv]; rfl)).trans hh, hr⟩

abbrev rpC (gr : Nat) (q : Rp) (A5 : Option Addr) (c5 : Nat) : Array Value := #[.pointer (some ⟨gr, 0, none⟩), .int .i8 q.kd, .int .i64 q.er, .int .i64 q.pid, .int .i64 q.ep, .int .i64 q.off, .slice A5 q.rows.length c5]
/-- Reading: what is read so far; where the reader is. -/
def RpSt (B g gr : Nat) (s : ByteArray) (i : Nat) (b : Bool) (q : Rp) (W : World) : Prop :=
  ∃ A c, Blk W g 52 (rpC gr q A c) ∧ RdOk B W gr s i b ∧ B ≤ g ∧ W.ownsRow (g + 1) 37 5 (.slice A q.rows.length c) q.rows.length (cellsW q.rows)
def RpOk (B g gr : Nat) (s : ByteArray) (i : Nat) (b : Bool) (q : Rp) (w : World) (e : Ending) (w' : World) : Prop :=
  e = .returned (.tuple #[]) ∧ RpSt B g gr s i b q w' ∧ Only (fun x => x = gr ∨ g ≤ x) w w'
section
variable {B g gr i j : Nat} {b b' : Bool} {s : ByteArray} {q : Rp} {w w' W W' : World}
theorem RpSt.next (h : RpSt B g gr s i b q W) (k : RdOk B W' gr s j b') (o : Only (fun x => x = gr) W W') : RpSt B g gr s j b' q W' := by
  obtain ⟨A, c, h1, h2, h3, h4⟩ := h
  have := h2.2.2.2.2.1
  exact ⟨A, c, o.blk h1 (by omega), k, h3, o.own h4 (fun x hx e => by omega)⟩
theorem RpSt.put (h : RpSt B g gr s i b q W) (q' : Rp) (o : Nat) (v : Value) (hr : q'.rows = q.rows) (hc : ∀ A c, rpC gr q' A c = (rpC gr q A c).setIfInBounds o v) : RpSt B g gr s i b q' (W.setCell ⟨g, o, none⟩ v) := by
  obtain ⟨A, c, h1, h2, h3, h4⟩ := h
  refine ⟨A, c, ?_, h2.set h3 v, h3, ?_⟩
  · rw [hc]; exact h1.set_ o v
  · rw [hr]; exact own_set h4 (Nat.lt_succ_self _) v
theorem only_gr (o : Only (fun x => x = gr) W W') : Only (fun x => x = gr ∨ g ≤ x) W W' := o.mono (fun _ _ h => .inl h)
end
set_option maxRecDepth 100000 in
set_option maxHeartbeats 1000000 in
theorem rmade_any (B g gr : Nat) (s : ByteArray) (i j : Nat) (b b' : Bool) (v : Int) (q : Rp) (W : World) (h : RpSt B g gr s i b q W) (hz : rdNum (lb s) i b 1 8 = (v, j, b')) :
    Calls Tryd.prog 37 #[.pointer (some ⟨g, 0, none⟩)] W (RpOk B g gr s j b' { q with pid := v } W) := by
  have H := Lib.hid h
  obtain ⟨A, c, h1, h2, h3, h4⟩ := h
  have N1 := Lib.hid (RNum_z hz h2)
  have x0 : W.cell? ⟨g, 0, none⟩ = some (.pointer (some ⟨gr, 0, none⟩)) := h1.cell 0
  clear h1 h2 h4 hz
  go_enter Tryd.func37, Tryd.ntmps37
  go_wp2_with fail
  refine N1.out.mono ?_
  rintro e w1 ⟨rfl, r1, o1⟩
  have S1 := Lib.hid (H.out.next r1 o1)
  obtain ⟨A1, c1, k1, _⟩ := S1.out
  have y := k1.cell 3
  have z := k1.frozen 3
  have O1 := Lib.hid o1
  clear k1 r1 o1
  go_wp2_with fail
  go_end0
  exact ⟨rfl, S1.out.put { q with pid := v } 3 (.int .i64 v) rfl (fun _ _ => rfl), (only_gr O1.out).set (.inl (.inr (Nat.le_refl _))) _⟩
set_option maxRecDepth 100000 in
set_option maxHeartbeats 1000000 in
theorem roffset_any (B g gr : Nat) (s : ByteArray) (i j : Nat) (b b' : Bool) (v : Int) (q : Rp) (W : World) (h : RpSt B g gr s i b q W) (hz : rdNum (lb s) i b 0 1048577 = (v, j, b')) :
    Calls Tryd.prog 39 #[.pointer (some ⟨g, 0, none⟩)] W (RpOk B g gr s j b' { q with off := v - 1 } W) := by
  have H := Lib.hid h
  obtain ⟨A, c, h1, h2, h3, h4⟩ := h
  have N1 := Lib.hid (RNum_z hz h2)
  have x0 : W.cell? ⟨g, 0, none⟩ = some (.pointer (some ⟨gr, 0, none⟩)) := h1.cell 0
  have hv : 0 ≤ v ∧ v ≤ 1048577 := by rcases rdNum_rng hz with h | h <;> omega
  have cw : IntKind.i64.wrap (v - 1) = v - 1 := IntWalk.i64_in _ (by omega)
  clear h1 h2 h4 hz
  go_enter Tryd.func39, Tryd.ntmps39
  go_wp2_with fail
  refine N1.out.mono ?_
  rintro e w1 ⟨rfl, r1, o1⟩
  have S1 := Lib.hid (H.out.next r1 o1)
  obtain ⟨A1, c1, k1, _⟩ := S1.out
  have y := k1.cell 5
  have z := k1.frozen 5
  have O1 := Lib.hid o1
  clear k1 r1 o1
  go_wp2_with fail
  go_end0
  exact ⟨rfl, S1.out.put { q with off := v - 1 } 5 (.int .i64 (v - 1)) rfl (fun _ _ => rfl), (only_gr O1.out).set (.inl (.inr (Nat.le_refl _))) _⟩
theorem rnone_any (B g gr : Nat) (s : ByteArray) (i : Nat) (b : Bool) (q : Rp) (W : World) (h : RpSt B g gr s i b q W) :
    Calls Tryd.prog 40 #[.pointer (some ⟨g, 0, none⟩)] W (RpOk B g gr s i b q W) := by
  have H := Lib.hid h
  clear h
  go_enter Tryd.func40, Tryd.ntmps40
  go_wp2_with fail
  go_end0
  exact ⟨rfl, H.out, Only.refl _ _⟩
set_option maxRecDepth 100000 in
set_option maxHeartbeats 1000000 in
theorem rbegun_any (B g gr : Nat) (s : ByteArray) (i j j2 : Nat) (b b' b2 : Bool) (v u : Int) (q : Rp) (W : World) (h : RpSt B g gr s i b q W) (hz : rdNum (lb s) i b 1 8 = (v, j, b')) (hz2 : rdNum (lb s) j b' 0 100 = (u, j2, b2)) :
    Calls Tryd.prog 38 #[.pointer (some ⟨g, 0, none⟩)] W (RpOk B g gr s j2 b2 { q with pid := v, ep := u } W) := by
  have M1 := Lib.hid (rmade_any B g gr s i j b b' v q W h hz)
  have HZ2 := Lib.hid hz2
  clear h hz hz2
  go_enter Tryd.func38, Tryd.ntmps38
  go_wp2_with fail
  refine M1.out.mono ?_
  rintro e w1 ⟨rfl, s1, o1⟩
  have S1 := Lib.hid s1
  have O1 := Lib.hid o1
  obtain ⟨A1, c1, k1, r1, h3, _⟩ := s1
  have x0 : w1.cell? ⟨g, 0, none⟩ = some (.pointer (some ⟨gr, 0, none⟩)) := k1.cell 0
  have N2 := Lib.hid (RNum_z HZ2.out r1)
  clear k1 r1 o1
  go_wp2_with fail
  refine N2.out.mono ?_
  rintro e w2 ⟨rfl, r2, o2⟩
  have S2 := Lib.hid (S1.out.next r2 o2)
  obtain ⟨A2, c2, k2, _⟩ := S2.out
  have y := k2.cell 4
  have z := k2.frozen 4
  have O2 := Lib.hid (O1.out.trans (only_gr o2))
  clear k2 r2 o2 x0
  go_wp2_with fail
  go_end0
  exact ⟨rfl, S2.out.put { q with pid := v, ep := u } 4 (.int .i64 u) rfl (fun _ _ => rfl), O2.out.set (.inl (.inr (Nat.le_refl _))) _⟩

/-- Reading a row: as above, and the block that is filled. -/
def RwSt (B g gr : Nat) (s : ByteArray) (i : Nat) (b : Bool) (q : Rp) (A : Option Addr) (c Y : Nat) (cs : Array Value) (w W : World) : Prop :=
  Blk W g 52 (rpC gr q A c) ∧ RdOk B W gr s i b ∧ W.ownsRow (g + 1) 37 5 (.slice A q.rows.length c) q.rows.length (cellsW q.rows) ∧ Blk W Y 37 cs ∧ B ≤ g ∧ g < Y ∧ (∀ x, (Value.slice A q.rows.length c).ownBlock = some x → x < Y) ∧ Only (fun x => x = gr ∨ g ≤ x) w W
section
variable {B g gr i j c Y : Nat} {b b' : Bool} {s : ByteArray} {q : Rp} {A : Option Addr} {cs : Array Value} {w W W' : World}
theorem RwSt.next (h : RwSt B g gr s i b q A c Y cs w W) (k : RdOk B W' gr s j b') (o : Only (fun x => x = gr) W W') : RwSt B g gr s j b' q A c Y cs w W' := by
  obtain ⟨h1, h2, h3, h4, h5, h6, h7, h8⟩ := h
  have := h2.2.2.2.2.1
  exact ⟨o.blk h1 (by omega), k, o.own h3 (fun x hx e => by omega), o.blk h4 (by omega), h5, h6, h7, h8.trans (only_gr o)⟩
theorem RwSt.put (h : RwSt B g gr s i b q A c Y cs w W) (o : Nat) (v : Value) : RwSt B g gr s i b q A c Y (cs.setIfInBounds o v) w (W.setCell ⟨Y, o, none⟩ v) := by
  obtain ⟨h1, h2, h3, h4, h5, h6, h7, h8⟩ := h
  refine ⟨h1.far (p := ⟨Y, o, none⟩) (by show g ≠ Y; omega) v, h2.set (by omega) v, own_keep h3 (fun x hx => Below.heap_setCell W ⟨Y, o, none⟩ v x (by have := h7 x hx; show x ≠ Y; omega)), h4.set_ o v, h5, h6, h7, h8.set (.inl (.inr (by omega))) v⟩
end
set_option maxRecDepth 100000 in
set_option maxHeartbeats 4000000 in
theorem rfetched_any (B g gr : Nat) (s : ByteArray) (i j j2 : Nat) (b b' b2 : Bool) (v n : Int) (q : Rp) (W : World) (h : RpSt B g gr s i b q W) (hq : q.rows = []) (hz : rdNum (lb s) i b 0 1048576 = (v, j, b')) (hz2 : rdNum (lb s) j b' 0 64 = (n, j2, b2)) :
    Calls Tryd.prog 41 #[.pointer (some ⟨g, 0, none⟩)] W (RpOk B g gr s (rdRep rdRow n.toNat (lb s) j2 b2).2.1 (rdRep rdRow n.toNat (lb s) j2 b2).2.2 { q with off := v, rows := (rdRep rdRow n.toNat (lb s) j2 b2).1 } W) := by
  obtain ⟨i0, hi, hi0, hi1, hi2⟩ := info_parts infoW
  have hn : 0 ≤ n ∧ n ≤ 64 := by rcases rdNum_rng hz2 with h | h <;> omega
  obtain ⟨m, rfl⟩ := Int.eq_ofNat_of_zero_le hn.1
  rw [Int.toNat_natCast]
  have H := Lib.hid h
  obtain ⟨A, c, h1, h2, h3, h4⟩ := h
  have N1 := Lib.hid (RNum_z hz h2)
  have hgr : gr < B := h2.2.2.2.2.1
  have x0 : W.cell? ⟨g, 0, none⟩ = some (.pointer (some ⟨gr, 0, none⟩)) := h1.cell 0
  have HZ2 := Lib.hid hz2
  have HQ := Lib.hid hq
  clear h1 h2 h4 hz hz2 hq
  go_enter Tryd.func41, Tryd.ntmps41
  go_wp2_with fail
  refine N1.out.mono ?_
  rintro e w1 ⟨rfl, r1, o1⟩
  have S1 := Lib.hid (H.out.next r1 o1)
  have S2 := Lib.hid (S1.out.put { q with off := v } 5 (.int .i64 v) rfl (fun _ _ => rfl))
  have O2 := Lib.hid ((only_gr (g := g) o1).set (g := g) (o := 5) (.inl (.inr (Nat.le_refl _))) (.int .i64 v))
  obtain ⟨A1, c1, k1, _⟩ := S1.out
  have y := k1.cell 5
  have z := k1.frozen 5
  have y0 := k1.cell 0
  have N2 := Lib.hid (RNum_z HZ2.out (by obtain ⟨_, _, _, r2, _⟩ := S2.out; exact r2))
  clear k1 r1 o1 x0
  go_wp2_with fail
  refine N2.out.mono ?_
  rintro e w2 ⟨rfl, r2, o2⟩
  have S3 := Lib.hid (S2.out.next r2 o2)
  have O3 := Lib.hid (O2.out.trans (only_gr o2))
  have hl : q.rows.length = 0 := by rw [HQ.out]; rfl
  clear r2 o2 y z y0
  go_wp2_with fail
  go_loopg [17] m (fun mm x wr => ∃ k : Nat, k ≤ m ∧ x = .int .i64 k ∧ mm = m - k ∧ RpSt B g gr s (rdRep rdRow k (lb s) j2 b2).2.1 (rdRep rdRow k (lb s) j2 b2).2.2 { q with off := v, rows := (rdRep rdRow k (lb s) j2 b2).1 } wr ∧ Only (fun x => x = gr ∨ g ≤ x) W wr)
  case atStart =>
    refine ⟨0, Nat.zero_le _, rfl, rfl, ?_, O3.out⟩
    have := S3.out
    rw [HQ.out] at this
    exact this
  case round =>
    obtain ⟨k, hk, rfl, hmm, hst, how⟩ := hrel
    have HM := Lib.hid hmm
    have HST := Lib.hid hst
    have HOW := Lib.hid how
    clear hmm hst how
    by_cases hlt : k < m
    · have d1 : decide ((k : Int) < (m : Int)) = true := by simp; omega
      obtain ⟨rs, i6, b6, hrep⟩ : ∃ rs i6 b6, rdRep rdRow k (lb s) j2 b2 = (rs, i6, b6) := ⟨_, _, _, rfl⟩
      obtain ⟨v1, i7, b7, hza⟩ : ∃ v i' b', rdNum (lb s) i6 b6 0 1048577 = (v, i', b') := ⟨_, _, _, rfl⟩
      obtain ⟨v2, i8, b8, hzb⟩ : ∃ v i' b', rdNum (lb s) i7 b7 1 8 = (v, i', b') := ⟨_, _, _, rfl⟩
      obtain ⟨v3, i9, b9, hzc⟩ : ∃ v i' b', rdNum (lb s) i8 b8 0 1048575 = (v, i', b') := ⟨_, _, _, rfl⟩
      obtain ⟨v4, ia, ba, hzd⟩ : ∃ v i' b', rdTxt (lb s) i9 b9 16 = (v, i', b') := ⟨_, _, _, rfl⟩
      obtain ⟨v5, ib, bb, hze⟩ : ∃ v i' b', rdTxt (lb s) ia ba 16 = (v, i', b') := ⟨_, _, _, rfl⟩
      have hnx : rdRep rdRow (k + 1) (lb s) j2 b2 = (rs ++ [(v1 - 1, v2, v3, bs v4, bs v5)], ib, bb) := by
        rw [rdRep_snoc, hrep]
        simp only [rdRow, rdMap, rdBind, hza, hzb, hzc, hzd, hze]
      have hrl : rs.length = k := by have := rdRep_len rdRow k (lb s) j2 b2; rw [hrep] at this; exact this
      have hst := HST.out
      rw [hrep] at hst
      have hv1 : 0 ≤ v1 ∧ v1 ≤ 1048577 := by rcases rdNum_rng hza with h | h <;> omega
      have cw : IntKind.i64.wrap (v1 - 1) = v1 - 1 := IntWalk.i64_in _ (by omega)
      obtain ⟨A2, c2, k2, r2, _, own2⟩ := hst
      have x0 : wr.cell? ⟨g, 0, none⟩ = some (.pointer (some ⟨gr, 0, none⟩)) := k2.cell 0
      have hgl := k2.lt
      obtain ⟨p, hp⟩ : ∃ p : Rp, p = { q with off := v, rows := rs } := ⟨_, rfl⟩
      have hpl : p.rows = rs := by rw [hp]
      have K2 := Lib.hid (show Blk wr g 52 (rpC gr p A2 c2) by rw [hp]; exact k2)
      have R2 := Lib.hid r2
      have OW2 := Lib.hid (show wr.ownsRow (g + 1) 37 5 (.slice A2 p.rows.length c2) p.rows.length (cellsW p.rows) by rw [hp]; exact own2)
      have NA := Lib.hid (RNum_z hza r2)
      have HZB := Lib.hid hzb
      have HZC := Lib.hid hzc
      have HZD := Lib.hid hzd
      have HZE := Lib.hid hze
      have HNX := Lib.hid hnx
      have HP := Lib.hid hp
      have HPL := Lib.hid hpl
      have HRL := Lib.hid hrl
      clear k2 r2 own2 hza hzb hzc hzd hze hnx hp hpl hrep hrl
      go_wp2_with fail
      refine NA.out.mono ?_
      rintro e w3 ⟨rfl, r3, o3⟩
      have hs3 := o3.size
      obtain ⟨Y, hY⟩ : ∃ Y, w3.heap.size = Y := ⟨_, rfl⟩
      have T0 : RwSt B g gr s i7 b7 p A2 c2 Y #[.int .i64 (v1 - 1), .int .i64 0, .int .i64 0, .string ⟨#[]⟩, .string ⟨#[]⟩] W (w3.alloc (.cells #[.int .i64 (v1 - 1), .int .i64 0, .int .i64 0, .string ⟨#[]⟩, .string ⟨#[]⟩] 37)) :=
        ⟨(o3.blk K2.out (by omega)).alloc _, r3.alloc _, (o3.own OW2.out (fun x hx e => by omega)).alloc _, blk_new w3 _ _ hY, h3, by omega, fun x hx => by have := (OW2.out.lt x hx).2; omega, (HOW.out.trans (only_gr o3)).alloc _⟩
      have TT0 := Lib.hid T0
      have y0 := T0.1.cell 0
      have NB := Lib.hid (RNum_z HZB.out T0.2.1)
      have HYH := Lib.hid hY
      have hYl : ¬ g = Y := by omega
      clear r3 o3 T0 x0
      go_upto_region 4 with (fail)
      go_wp2_with fail
      refine NB.out.mono ?_
      rintro e w4 ⟨rfl, r, o⟩
      have ta := TT0.out.next r o
      have y := ta.2.2.2.1.cell 1
      have z := ta.2.2.2.1.frozen 1
      have y0' := ta.1.cell 0
      have T1 := Lib.hid (ta.put 1 (.int .i64 v2))
      have NC := Lib.hid (RNum_z HZC.out T1.out.2.1)
      clear r o ta y0
      have y0 := y0'
      clear y0'
      go_upto_region 5 with (fail)
      clear y z
      go_wp2_with fail
      refine NC.out.mono ?_
      rintro e w5 ⟨rfl, r, o⟩
      have ta := T1.out.next r o
      have y := ta.2.2.2.1.cell 2
      have z := ta.2.2.2.1.frozen 2
      have y0' := ta.1.cell 0
      have T2 := Lib.hid (ta.put 2 (.int .i64 v3))
      have ND := Lib.hid (RTxt_z HZD.out T2.out.2.1)
      clear r o ta y0
      have y0 := y0'
      clear y0'
      go_upto_region 6 with (fail)
      clear y z
      go_wp2_with fail
      refine ND.out.mono ?_
      rintro e w6 ⟨rfl, r, o⟩
      have ta := T2.out.next r o
      have y := ta.2.2.2.1.cell 3
      have z := ta.2.2.2.1.frozen 3
      have y0' := ta.1.cell 0
      have T3 := Lib.hid (ta.put 3 (.string (bs v4)))
      have NE := Lib.hid (RTxt_z HZE.out T3.out.2.1)
      clear r o ta y0
      have y0 := y0'
      clear y0'
      go_upto_region 7 with (fail)
      clear y z
      go_wp2_with fail
      refine NE.out.mono ?_
      rintro e w7 ⟨rfl, r, o⟩
      have ta := T3.out.next r o
      have y := ta.2.2.2.1.cell 4
      have z := ta.2.2.2.1.frozen 4
      have T4 := Lib.hid (ta.put 4 (.string (bs v5)))
      clear r o ta y0
      go_upto_region 8 with (fail)
      clear y z
      have hsim : ((((#[.int .i64 (v1 - 1), .int .i64 0, .int .i64 0, .string ⟨#[]⟩, .string ⟨#[]⟩] : Array Value).setIfInBounds 1 (.int .i64 v2)).setIfInBounds 2 (.int .i64 v3)).setIfInBounds 3 (.string (bs v4))).setIfInBounds 4 (.string (bs v5)) = #[.int .i64 (v1 - 1), .int .i64 v2, .int .i64 v3, .string (bs v4), .string (bs v5)] := rfl
      have T5 := T4.out
      rw [hsim] at T5
      generalize (World.setCell w7 ⟨Y, 4, none⟩ (.string (bs v5))) = WR at *
      have TT := Lib.hid T5
      have kg := T5.1.drew
      have kY := T5.2.2.2.1.drew
      have c6 := kg.cell 6
      have c6p := T5.1.cell 6
      have n6 : ∀ o, (WR.drew.alloc o).cell? ⟨g, 6, none⟩ = some (.slice A2 p.rows.length c2) := fun o => (kg.alloc o).cell 6
      have d0 := kY.cell 0
      have d1' := kY.cell 1
      have d2 := kY.cell 2
      have d3 := kY.cell 3
      have d4 := kY.cell 4
      have hwr : g < WR.heap.size := kg.lt
      have hpl : p.rows.length ≤ 64 := by rw [HPL.out, HRL.out]; omega
      clear T5 kg kY hsim
      go_region_law ((refine step_append_any _ (by rfl) (.tmp 55) (.tmp 57) 24 (by rfl) (g + 1) 37 i0 _ 5 56 Tryd.underlying24 hi hi0 hi1 hi2 rfl (by decide) _ p.rows.length _ (by rfl) ((TT.out.2.2.1.drew).alloc _) _ _ 1 1 (cellsW [(v1 - 1, v2, v3, bs v4, bs v5)]) (by rfl) (reads_newW WR.drew _ (v1 - 1, v2, v3, bs v4, bs v5) _ rfl) (cellsW_one _) (by unfold maxLen; omega) (by omega) (by simp; omega) ?_); intro v' w8 hown' hgrow hat'; obtain ⟨A8, c8, rfl, hc8⟩ := own_slice hown'; have k8 := (TT.out.1.drew.alloc _).grown hgrow (fun e => by have := (TT.out.2.2.1.lt _ e.symm).1; omega); have y8 := k8.cell 6; have z8 := k8.frozen 6)
      all_goals
        go_wp2_with fail
        go_roundg (gk - 1)
        case measure => have := HM.out; omega
        case rel =>
          refine ⟨k + 1, by omega, by go_num, by have := HM.out; omega, ?_, ?_⟩
          · rw [HNX.out]
            have hlen : p.rows.length + 1 = (rs ++ [(v1 - 1, v2, v3, bs v4, bs v5)]).length := by rw [List.length_append, HPL.out]; rfl
            refine ⟨A8, c8, ?_, ((TT.out.2.1.drew.alloc _).grown hgrow (fun x hx => by have := (TT.out.2.2.1.lt _ hx).1; omega)).set h3 _, h3, ?_⟩
            · show Blk _ g _ (rpC gr ⟨q.kd, q.er, q.pid, q.ep, v, rs ++ [(v1 - 1, v2, v3, bs v4, bs v5)]⟩ A8 c8)
              have := k8.set_ 6 (.slice A8 (p.rows.length + 1) c8)
              rw [hlen] at this ⊢
              rw [HP.out] at this
              exact this
            · rw [hlen] at hown' ⊢
              rw [HPL.out] at hown'
              rw [cellsW_append]
              exact own_set hown' (Nat.lt_succ_self _) _
          · exact (((TT.out.2.2.2.2.2.2.2.drew).alloc _).grown hgrow (fun x hx _ => .inr (by have := (TT.out.2.2.1.lt _ hx).1; omega))).set (.inl (.inr (Nat.le_refl _))) _
    · obtain rfl : k = m := by omega
      have d1 : decide ((k : Int) < (k : Int)) = false := by simp
      go_wp2_with fail
      go_end0
      exact ⟨rfl, HST.out, HOW.out⟩
end Go.Proofs.YtckdecodpjfcnaaDoor
