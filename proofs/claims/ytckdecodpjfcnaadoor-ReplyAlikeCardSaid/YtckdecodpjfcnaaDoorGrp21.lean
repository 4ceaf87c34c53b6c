/-
  Layer 9: reading, Read of replies.
-/
import Derived.Test.YtckdecodpjfcnaaDoorGrp20
set_option linter.unusedVariables false
set_option linter.unusedSimpArgs false
namespace Go.Proofs.YtckdecodpjfcnaaDoor
open Go.RowKit

theorem reading_made (k : Int) (hk : k = 0) (w : World) : Calls Tryd.prog 18 #[.int .i8 k] w (WrPost 37 w) := by
  have HB := Lib.hid (fun o => bal (Below.refl w.heap.size w) o)
  rcases hk with rfl
  all_goals
    go_enter Tryd.func18, Tryd.ntmps18
    go_wp2_with fail
    go_ret
    exact ⟨rfl, HB.out _⟩
theorem reading_begun (k : Int) (hk : k = 1) (w : World) : Calls Tryd.prog 18 #[.int .i8 k] w (WrPost 38 w) := by
  have HB := Lib.hid (fun o => bal (Below.refl w.heap.size w) o)
  rcases hk with rfl
  all_goals
    go_enter Tryd.func18, Tryd.ntmps18
    go_wp2_with fail
    go_ret
    exact ⟨rfl, HB.out _⟩
theorem reading_fetched (k : Int) (hk : k = 5) (w : World) : Calls Tryd.prog 18 #[.int .i8 k] w (WrPost 41 w) := by
  have HB := Lib.hid (fun o => bal (Below.refl w.heap.size w) o)
  rcases hk with rfl
  all_goals
    go_enter Tryd.func18, Tryd.ntmps18
    go_wp2_with fail
    go_ret
    exact ⟨rfl, HB.out _⟩
theorem reading_offset (k : Int) (hk : k = 2 ∨ k = 7) (w : World) : Calls Tryd.prog 18 #[.int .i8 k] w (WrPost 39 w) := by
  have HB := Lib.hid (fun o => bal (Below.refl w.heap.size w) o)
  rcases hk with rfl | rfl
  all_goals
    go_enter Tryd.func18, Tryd.ntmps18
    go_wp2_with fail
    go_ret
    exact ⟨rfl, HB.out _⟩
theorem reading_none (k : Int) (hk : k = 3 ∨ k = 4 ∨ k = 6 ∨ k = 8 ∨ k = 9) (w : World) : Calls Tryd.prog 18 #[.int .i8 k] w (WrPost 40 w) := by
  have HB := Lib.hid (fun o => bal (Below.refl w.heap.size w) o)
  rcases hk with rfl | rfl | rfl | rfl | rfl
  all_goals
    go_enter Tryd.func18, Tryd.ntmps18
    go_wp2_with fail
    go_ret
    exact ⟨rfl, HB.out _⟩

theorem rpSt_below {B g gr i : Nat} {b : Bool} {s : ByteArray} {q : Rp} {W W' : World} (h : RpSt B g gr s i b q W) (k : Below W.heap.size W W') : RpSt B g gr s i b q W' := by
  obtain ⟨A, c, h1, h2, h3, h4⟩ := h
  exact ⟨A, c, h1.below k h1.lt, h2.below (k.mono h2.2.2.2.2.2.2), h3, own_below h4 k⟩
/-- What the fields of a kind are. -/
theorem rbody_made (B g gr : Nat) (s : ByteArray) (kd : Int) (hk : kd = 0) (i j : Nat) (b b' : Bool) (y : Bd) (W : World) (h : RpSt B g gr s i b (rpOf kd 0 (0, 0, 0, [])) W) (hz : rdB 0 kd (lb s) i b = (y, j, b')) :
    Calls Tryd.prog 37 #[.pointer (some ⟨g, 0, none⟩)] W (RpOk B g gr s j b' (rpOf kd 0 y) W) := by
  subst hk
  have hz' : rdBp (lb s) i b = (y, j, b') := hz
  obtain ⟨v, j', c, hv⟩ : ∃ v j c, rdNum (lb s) i b 1 8 = (v, j, c) := ⟨_, _, _, rfl⟩
  have e : rdBp (lb s) i b = ((v, 0, 0, []), j', c) := by simp only [rdBp, rdMap, hv]
  rw [e] at hz'
  injection hz' with e1 e2
  injection e2 with e2 e3
  subst e1; subst e2; subst e3
  exact rmade_any B g gr s i _ b _ v _ W h hv
theorem rbody_begun (B g gr : Nat) (s : ByteArray) (kd : Int) (hk : kd = 1) (i j : Nat) (b b' : Bool) (y : Bd) (W : World) (h : RpSt B g gr s i b (rpOf kd 0 (0, 0, 0, [])) W) (hz : rdB 0 kd (lb s) i b = (y, j, b')) :
    Calls Tryd.prog 38 #[.pointer (some ⟨g, 0, none⟩)] W (RpOk B g gr s j b' (rpOf kd 0 y) W) := by
  subst hk
  have hz' : rdBpe (lb s) i b = (y, j, b') := hz
  obtain ⟨v, j', c, hv⟩ : ∃ v j c, rdNum (lb s) i b 1 8 = (v, j, c) := ⟨_, _, _, rfl⟩
  obtain ⟨u, j2, c2, hu⟩ : ∃ u j d, rdNum (lb s) j' c 0 100 = (u, j, d) := ⟨_, _, _, rfl⟩
  have e : rdBpe (lb s) i b = ((v, u, 0, []), j2, c2) := by simp only [rdBpe, rdMap, rdBind, hv, hu]
  rw [e] at hz'
  injection hz' with e1 e2
  injection e2 with e2 e3
  subst e1; subst e2; subst e3
  exact rbegun_any B g gr s i _ _ b _ _ v u _ W h hv hu
theorem rbody_offset (B g gr : Nat) (s : ByteArray) (kd : Int) (hk : kd = 2 ∨ kd = 7) (i j : Nat) (b b' : Bool) (y : Bd) (W : World) (h : RpSt B g gr s i b (rpOf kd 0 (0, 0, 0, [])) W) (hz : rdB 0 kd (lb s) i b = (y, j, b')) :
    Calls Tryd.prog 39 #[.pointer (some ⟨g, 0, none⟩)] W (RpOk B g gr s j b' (rpOf kd 0 y) W) := by
  have hz' : rdBo (lb s) i b = (y, j, b') := by rcases hk with rfl | rfl <;> exact hz
  obtain ⟨v, j', c, hv⟩ : ∃ v j c, rdNum (lb s) i b 0 1048577 = (v, j, c) := ⟨_, _, _, rfl⟩
  have e : rdBo (lb s) i b = ((0, 0, v - 1, []), j', c) := by simp only [rdBo, rdMap, hv]
  rw [e] at hz'
  injection hz' with e1 e2
  injection e2 with e2 e3
  subst e1; subst e2; subst e3
  exact roffset_any B g gr s i _ b _ v _ W h hv
theorem rbody_none (B g gr : Nat) (s : ByteArray) (kd : Int) (hk : kd = 3 ∨ kd = 4 ∨ kd = 6 ∨ kd = 8 ∨ kd = 9) (i j : Nat) (b b' : Bool) (y : Bd) (W : World) (h : RpSt B g gr s i b (rpOf kd 0 (0, 0, 0, [])) W) (hz : rdB 0 kd (lb s) i b = (y, j, b')) :
    Calls Tryd.prog 40 #[.pointer (some ⟨g, 0, none⟩)] W (RpOk B g gr s j b' (rpOf kd 0 y) W) := by
  have hz' : rdB0 (lb s) i b = (y, j, b') := by rcases hk with rfl | rfl | rfl | rfl | rfl <;> exact hz
  have e : rdB0 (lb s) i b = ((0, 0, 0, []), i, b) := rfl
  rw [e] at hz'
  injection hz' with e1 e2
  injection e2 with e2 e3
  subst e1; subst e2; subst e3
  exact rnone_any B g gr s _ _ _ W h
theorem rbody_fetched (B g gr : Nat) (s : ByteArray) (kd : Int) (hk : kd = 5) (i j : Nat) (b b' : Bool) (y : Bd) (W : World) (h : RpSt B g gr s i b (rpOf kd 0 (0, 0, 0, [])) W) (hz : rdB 0 kd (lb s) i b = (y, j, b')) :
    Calls Tryd.prog 41 #[.pointer (some ⟨g, 0, none⟩)] W (RpOk B g gr s j b' (rpOf kd 0 y) W) := by
  subst hk
  have hz' : rdBf (lb s) i b = (y, j, b') := hz
  obtain ⟨v, j', c, hv⟩ : ∃ v j c, rdNum (lb s) i b 0 1048576 = (v, j, c) := ⟨_, _, _, rfl⟩
  obtain ⟨u, j2, c2, hu⟩ : ∃ u j d, rdNum (lb s) j' c 0 64 = (u, j, d) := ⟨_, _, _, rfl⟩
  have e : rdBf (lb s) i b = ((0, 0, v, (rdRep rdRow u.toNat (lb s) j2 c2).1), (rdRep rdRow u.toNat (lb s) j2 c2).2) := by simp only [rdBf, rdMap, rdBind, hv, hu]
  rw [e] at hz'
  injection hz' with e1 e2
  have e3 : (rdRep rdRow u.toNat (lb s) j2 c2).2.1 = j := by rw [e2]
  have e4 : (rdRep rdRow u.toNat (lb s) j2 c2).2.2 = b' := by rw [e2]
  subst e1; subst e3; subst e4
  exact rfetched_any B g gr s i _ _ b _ _ v u _ W h rfl hv hu


def RpRd (q : Rp) (n : Int) (w : World) (e : Ending) (w' : World) : Prop :=
  ∃ A5 c5, e = .returned (.tuple #[(.agg #[.int .i8 q.kd, .int .i64 q.er, .int .i64 q.pid, .int .i64 q.ep, .int .i64 q.off, .slice A5 q.rows.length c5]), .int .i64 n]) ∧ w'.ownsRow w.heap.size 37 5 (.slice A5 q.rows.length c5) q.rows.length (cellsW q.rows) ∧ Below w.heap.size w w'
abbrev rp0 : Array Value := #[.int .i8 0, .int .i64 0, .int .i64 0, .int .i64 0, .int .i64 0, .slice none 0 0]
theorem rpread_ret (q : Rp) (A5 : Option Addr) (c5 : Nat) (n : Int) (tmps : Array Value) (b : Nat) (W : World) (h2 : tmps[2]?.getD undef = .pointer (some ⟨b, 0, none⟩)) (h3 : tmps[3]?.getD undef = .int .i64 n) (hK : Blk W b 26 #[.int .i8 q.kd, .int .i64 q.er, .int .i64 q.pid, .int .i64 q.ep, .int .i64 q.off, .slice A5 q.rows.length c5]) :
    (results Tryd.f9 tmps).run Tryd.prog W = .ok (.tuple #[(.agg #[.int .i8 q.kd, .int .i64 q.er, .int .i64 q.pid, .int .i64 q.ep, .int .i64 q.off, .slice A5 q.rows.length c5]), .int .i64 n]) W := by
  have r0 := hK.cell 0
  have r1 := hK.cell 1
  have r2 := hK.cell 2
  have r3 := hK.cell 3
  have r4 := hK.cell 4
  have r5 := hK.cell 5
  clear hK
  simp [results, Tryd.results9, go_sem, h2, h3, r0, r1, r2, r3, r4, r5]

theorem wrap_kd8 {k : Int} (h : 0 ≤ k ∧ k ≤ 9) : IntKind.i8.wrap k = k := by
  have hh : k = 0 ∨ k = 1 ∨ k = 2 ∨ k = 3 ∨ k = 4 ∨ k = 5 ∨ k = 6 ∨ k = 7 ∨ k = 8 ∨ k = 9 := by omega
  rcases hh with rfl | rfl | rfl | rfl | rfl | rfl | rfl | rfl | rfl | rfl <;> decide

set_option maxRecDepth 100000 in
set_option maxHeartbeats 8000000 in
theorem rpRead_err (A : Option Addr) (l : List UInt8) (c : Nat) (w : World) (hr : Reads w w.heap.size 1 A l.length (cellsB l)) (hl : l.length ≤ 100000) (hg : HasET w) (kd er : Int) (j1 j2 j3 : Nat) (b1 b2 b3 : Bool) (y : Bd) (hz1 : rdNum l 0 false 0 9 = (kd, j1, b1)) (hz2 : rdNum l j1 b1 0 400 = (er, j2, b2)) (hz3 : rdB er kd l j2 b2 = (y, j3, b3)) (h0 : ¬ er = 0) :
    Calls Tryd.prog 9 #[.slice A l.length c] w (RpRd (readRp l).1 (readRp l).2 w) := by
  have ee : (er == 0) = false := eqb_false h0
  have hyy : y = (0, 0, 0, []) ∧ j3 = j2 ∧ b3 = b2 := by
    unfold rdB at hz3
    rw [if_pos h0] at hz3
    injection hz3 with e1 e2
    injection e2 with e2 e3
    exact ⟨e1.symm, e2.symm, e3.symm⟩
  clear h0
  have hraw : readRp l = if b3 = true ∨ j3 ≠ l.length then (Rp0, 70) else (rpOf kd er y, 0) := by
    unfold readRp
    have e : rdRp l 0 false = (rpOf kd er y, j3, b3) := by simp only [rdRp, rdMap, rdBind, hz1, hz2, hz3]
    rw [e]
  obtain ⟨s, hs⟩ : ∃ s, s = bs l := ⟨_, rfl⟩
  have hlb : lb s = l := by rw [hs, lb_bs]
  have hsz : s.size = l.length := by rw [hs, size_bs]
  rw [← hlb] at hz1 hz2 hz3
  have hkd : 0 ≤ kd ∧ kd ≤ 9 := by rcases rdNum_rng hz1 with h | h <;> omega
  have ht : ∀ W, Below w.heap.size w W → (convert 27 9 (.slice A l.length c)).run Tryd.prog W = .ok (.string s) W := fun W hW => by
    have := run_string_of (P := Tryd.prog) (src := 27) (dst := 9) (c := c) Tryd.underlying27 Tryd.underlying5 Tryd.underlying9 (hr.below hW)
    rw [← hs] at this
    exact this
  have t1 := ht (w.alloc (.cells rp0 26)) (bal (Below.refl _ _) _)
  obtain ⟨W0, hW0⟩ : ∃ W0, W0 = (((w.alloc (.cells rp0 26)).alloc (.cells #[.string s, .int .i64 0, .bool false] 73)).alloc (.cells #[.pointer (some ⟨w.heap.size + 1, 0, none⟩), .int .i8 0, .int .i64 0, .int .i64 0, .int .i64 0, .int .i64 0, .slice none 0 0] 52)) := ⟨_, rfl⟩
  have hs0 : W0.heap.size = w.heap.size + 1 + 1 + 1 := by rw [hW0]; simp
  have B0 : Below w.heap.size w W0 := by rw [hW0]; exact bal (bal (bal (Below.refl _ _) _) _) _
  have K0 : Blk W0 w.heap.size 26 rp0 := by rw [hW0]; exact ((blk_new w _ _ rfl).alloc _).alloc _
  have KR : RdB W0 (w.heap.size + 1) s 0 false := by rw [hW0]; exact (blk_new _ _ _ (by simp)).alloc _
  have KG : Blk W0 (w.heap.size + 1 + 1) 52 (rpC (w.heap.size + 1) Rp0 none 0) := by rw [hW0]; exact blk_new _ _ _ (by simp)
  have RK : RdOk (w.heap.size + 1 + 1) W0 (w.heap.size + 1) s 0 false := ⟨KR, Nat.zero_le _, hg.up B0, by omega, by omega, Nat.lt_of_lt_of_le hg.lt (by omega), by omega⟩
  have S0 := Lib.hid (show RpSt (w.heap.size + 1 + 1) (w.heap.size + 1 + 1) (w.heap.size + 1) s 0 false Rp0 W0 from ⟨none, 0, KG, RK, Nat.le_refl _, World.ownsRow_nil _ _ _ _⟩)
  have N1 := Lib.hid (RNum_z hz1 RK)
  have HR := Lib.hid hraw
  have HZ2 := Lib.hid hz2
  have HZ3 := Lib.hid hz3
  have HSZ := Lib.hid hsz
  have HW := Lib.hid hW0
  have HB0 := Lib.hid B0
  have HK0 := Lib.hid K0
  have x0 : W0.cell? ⟨w.heap.size + 1 + 1, 0, none⟩ = some (.pointer (some ⟨w.heap.size + 1, 0, none⟩)) := KG.cell 0
  have cv : IntKind.i8.wrap kd = kd := wrap_kd8 hkd
  clear hraw hlb hsz hz1 hz2 hz3 hs ht B0 K0 KR KG RK hW0 hr hg
  go_enter Tryd.func9, Tryd.ntmps9
  go_wp2_with fail
  refine (RNew_any s _).mono ?_
  rintro e w1 ⟨rfl, rfl⟩
  go_upto_region 2 with (fail)
  rw [← HW.out]
  clear t1
  go_wp2_with fail
  refine N1.out.mono ?_
  rintro e w1 ⟨rfl, r1, o1⟩
  have S1 := Lib.hid (S0.out.next r1 o1)
  have S2 := Lib.hid (S1.out.put { Rp0 with kd := kd } 1 (.int .i8 kd) rfl (fun _ _ => rfl))
  have O2 := Lib.hid ((only_gr (g := w.heap.size + 1 + 1) o1).set (g := w.heap.size + 1 + 1) (o := 1) (.inl (.inr (Nat.le_refl _))) (.int .i8 kd))
  obtain ⟨A1, c1, k1, _⟩ := S1.out
  have yy := k1.cell 1
  have zz := k1.frozen 1
  have y0 := k1.cell 0
  have N2 := Lib.hid (RNum_z HZ2.out (by obtain ⟨_, _, _, r2, _⟩ := S2.out; exact r2))
  clear k1 r1 o1 x0
  go_wp2_with fail
  refine N2.out.mono ?_
  rintro e w2 ⟨rfl, r2, o2⟩
  have S3 := Lib.hid (S2.out.next r2 o2)
  have S4 := Lib.hid (S3.out.put { Rp0 with kd := kd, er := er } 2 (.int .i64 er) rfl (fun _ _ => rfl))
  have O4 := Lib.hid ((O2.out.trans (only_gr o2)).set (g := w.heap.size + 1 + 1) (o := 2) (.inl (.inr (Nat.le_refl _))) (.int .i64 er))
  obtain ⟨A2, c2, k2, _⟩ := S3.out
  have y2 := k2.cell 2
  have z2 := k2.frozen 2
  clear k2 r2 o2 y0 yy zz
  go_upto_region 4 with (fail)
  generalize (World.setCell w2 ⟨w.heap.size + 1 + 1, 2, none⟩ (.int .i64 er)) = W4 at *
  clear y2 z2 S0 S1 S2 S3 N1 N2 HW O2
  obtain ⟨A4, c4, k4, _⟩ := S4.out
  have x1 : W4.cell? ⟨w.heap.size + 1 + 1, 1, none⟩ = some (.int .i8 kd) := k4.cell 1
  have x2 : W4.cell? ⟨w.heap.size + 1 + 1, 2, none⟩ = some (.int .i64 er) := k4.cell 2
  obtain ⟨rfl, rfl, rfl⟩ := hyy
  clear k4
  obtain ⟨WZ, hWZ⟩ : ∃ WZ, WZ = W4 := ⟨_, rfl⟩
  have SZ := Lib.hid (show RpSt (w.heap.size + 1 + 1) (w.heap.size + 1 + 1) (w.heap.size + 1) s j3 b3 (rpOf kd er (0, 0, 0, [])) WZ from hWZ ▸ S4.out)
  have OZ := Lib.hid (show Only (fun x => x = w.heap.size + 1 ∨ w.heap.size + 1 + 1 ≤ x) W0 WZ from hWZ ▸ O4.out)
  go_upto_region 6 with (fail)
  rw [← hWZ]
  clear x1 x2 hWZ S4 O4
  have KT := OZ.out.blk HK0.out (by omega)
  have hszz := OZ.out.size
  have BE := Lib.hid (HB0.out.trans (OZ.out.below HB0.out.size (fun x hx => by omega)))
  obtain ⟨AZ, cZ, kz, rz, _, oz⟩ := SZ.out
  have E1 := Lib.hid (REnd_any (w.heap.size + 1) s j3 b3 WZ rz.1)
  have x0 : WZ.cell? ⟨w.heap.size + 1 + 1, 0, none⟩ = some (.pointer (some ⟨w.heap.size + 1, 0, none⟩)) := kz.cell 0
  have KZ := Lib.hid kz
  have OWZ := Lib.hid oz
  clear kz rz oz SZ
  have u0 := KT.cell 0
  have f0 := KT.frozen 0
  have u1 := KT.cell 1
  have f1 := KT.frozen 1
  have u2 := KT.cell 2
  have f2 := KT.frozen 2
  have u3 := KT.cell 3
  have f3 := KT.frozen 3
  have u4 := KT.cell 4
  have f4 := KT.frozen 4
  have u5 := KT.cell 5
  have f5 := KT.frozen 5
  generalize rpOf kd er (0, 0, 0, []) = q at *
  by_cases hE : b3 = true ∨ j3 ≠ s.size
  · have he : endOf s.size j3 b3 = 70 := by unfold endOf; rw [if_pos hE]
    rw [he] at E1
    have hrr : readRp l = (Rp0, 70) := by rw [HR.out, if_pos (by rw [← HSZ.out]; exact hE)]
    have HRR := Lib.hid hrr
    clear hE he hrr
    go_wp2_with fail
    refine E1.out.mono ?_
    rintro e w3 ⟨rfl, n3, rfl⟩
    clear x0
    go_wp2_with fail
    refine bodyPost_ret (v := .tuple #[.agg #[.int .i8 0, .int .i64 0, .int .i64 0, .int .i64 0, .int .i64 0, .slice none 0 0], .int .i64 70]) (rpread_ret Rp0 none 0 70 _ w.heap.size _ rfl rfl (blk_set6 (KT.drewN n3))) rfl ?_
    rw [HRR.out]
    have bb := below_drewN BE.out n3
    exact ⟨none, 0, rfl, World.ownsRow_nil _ _ _ _, (bset (bset (bset (bset (bset (bset bb (Nat.le_refl _) _) (Nat.le_refl _) _) (Nat.le_refl _) _) (Nat.le_refl _) _) (Nat.le_refl _) _) (Nat.le_refl _) _)⟩
  · have he : endOf s.size j3 b3 = 0 := by unfold endOf; rw [if_neg hE]
    rw [he] at E1
    have hrr : readRp l = (q, 0) := by rw [HR.out, if_neg (by rw [← HSZ.out]; exact hE)]
    have HRR := Lib.hid hrr
    clear hE he hrr
    have yy0 : WZ.cell? ⟨w.heap.size + 1 + 1, 1, none⟩ = some (.int .i8 q.kd) := KZ.out.cell 1
    have yy1 : WZ.cell? ⟨w.heap.size + 1 + 1, 2, none⟩ = some (.int .i64 q.er) := KZ.out.cell 2
    have yy2 : WZ.cell? ⟨w.heap.size + 1 + 1, 3, none⟩ = some (.int .i64 q.pid) := KZ.out.cell 3
    have yy3 : WZ.cell? ⟨w.heap.size + 1 + 1, 4, none⟩ = some (.int .i64 q.ep) := KZ.out.cell 4
    have yy4 : WZ.cell? ⟨w.heap.size + 1 + 1, 5, none⟩ = some (.int .i64 q.off) := KZ.out.cell 5
    have yy5 : WZ.cell? ⟨w.heap.size + 1 + 1, 6, none⟩ = some (.slice AZ q.rows.length cZ) := KZ.out.cell 6
    go_wp2_with fail
    refine E1.out.mono ?_
    rintro e w3 ⟨rfl, n3, rfl⟩
    clear x0
    go_wp2_with fail
    refine bodyPost_ret (v := .tuple #[(.agg #[.int .i8 q.kd, .int .i64 q.er, .int .i64 q.pid, .int .i64 q.ep, .int .i64 q.off, .slice AZ q.rows.length cZ]), .int .i64 0]) (rpread_ret q AZ cZ 0 _ w.heap.size _ rfl rfl (blk_set6 (KT.drewN n3))) rfl ?_
    rw [HRR.out]
    have bb := below_drewN BE.out n3
    have ho := own_below (own_base OWZ.out (show w.heap.size + 1 ≤ w.heap.size + 1 + 1 + 1 by omega)) (below_drewN (Below.refl _ _) n3)
    exact ⟨AZ, cZ, rfl, own_base (base := w.heap.size + 1) (own_set (own_set (own_set (own_set (own_set (own_set ho (by omega) _) (by omega) _) (by omega) _) (by omega) _) (by omega) _) (by omega) _) (by omega), (bset (bset (bset (bset (bset (bset bb (Nat.le_refl _) _) (Nat.le_refl _) _) (Nat.le_refl _) _) (Nat.le_refl _) _) (Nat.le_refl _) _) (Nat.le_refl _) _)⟩
set_option maxRecDepth 100000 in
set_option maxHeartbeats 8000000 in
theorem rpRead_made (A : Option Addr) (l : List UInt8) (c : Nat) (w : World) (hr : Reads w w.heap.size 1 A l.length (cellsB l)) (hl : l.length ≤ 100000) (hg : HasET w) (kd er : Int) (j1 j2 j3 : Nat) (b1 b2 b3 : Bool) (y : Bd) (hz1 : rdNum l 0 false 0 9 = (kd, j1, b1)) (hz2 : rdNum l j1 b1 0 400 = (er, j2, b2)) (hz3 : rdB er kd l j2 b2 = (y, j3, b3)) (h0 : er = 0) (hk : kd = 0) :
    Calls Tryd.prog 9 #[.slice A l.length c] w (RpRd (readRp l).1 (readRp l).2 w) := by
  subst h0
  have HKK := Lib.hid hk
  clear hk
  have hraw : readRp l = if b3 = true ∨ j3 ≠ l.length then (Rp0, 70) else (rpOf kd 0 y, 0) := by
    unfold readRp
    have e : rdRp l 0 false = (rpOf kd 0 y, j3, b3) := by simp only [rdRp, rdMap, rdBind, hz1, hz2, hz3]
    rw [e]
  obtain ⟨s, hs⟩ : ∃ s, s = bs l := ⟨_, rfl⟩
  have hlb : lb s = l := by rw [hs, lb_bs]
  have hsz : s.size = l.length := by rw [hs, size_bs]
  rw [← hlb] at hz1 hz2 hz3
  have hkd : 0 ≤ kd ∧ kd ≤ 9 := by rcases rdNum_rng hz1 with h | h <;> omega
  have ht : ∀ W, Below w.heap.size w W → (convert 27 9 (.slice A l.length c)).run Tryd.prog W = .ok (.string s) W := fun W hW => by
    have := run_string_of (P := Tryd.prog) (src := 27) (dst := 9) (c := c) Tryd.underlying27 Tryd.underlying5 Tryd.underlying9 (hr.below hW)
    rw [← hs] at this
    exact this
  have t1 := ht (w.alloc (.cells rp0 26)) (bal (Below.refl _ _) _)
  obtain ⟨W0, hW0⟩ : ∃ W0, W0 = (((w.alloc (.cells rp0 26)).alloc (.cells #[.string s, .int .i64 0, .bool false] 73)).alloc (.cells #[.pointer (some ⟨w.heap.size + 1, 0, none⟩), .int .i8 0, .int .i64 0, .int .i64 0, .int .i64 0, .int .i64 0, .slice none 0 0] 52)) := ⟨_, rfl⟩
  have hs0 : W0.heap.size = w.heap.size + 1 + 1 + 1 := by rw [hW0]; simp
  have B0 : Below w.heap.size w W0 := by rw [hW0]; exact bal (bal (bal (Below.refl _ _) _) _) _
  have K0 : Blk W0 w.heap.size 26 rp0 := by rw [hW0]; exact ((blk_new w _ _ rfl).alloc _).alloc _
  have KR : RdB W0 (w.heap.size + 1) s 0 false := by rw [hW0]; exact (blk_new _ _ _ (by simp)).alloc _
  have KG : Blk W0 (w.heap.size + 1 + 1) 52 (rpC (w.heap.size + 1) Rp0 none 0) := by rw [hW0]; exact blk_new _ _ _ (by simp)
  have RK : RdOk (w.heap.size + 1 + 1) W0 (w.heap.size + 1) s 0 false := ⟨KR, Nat.zero_le _, hg.up B0, by omega, by omega, Nat.lt_of_lt_of_le hg.lt (by omega), by omega⟩
  have S0 := Lib.hid (show RpSt (w.heap.size + 1 + 1) (w.heap.size + 1 + 1) (w.heap.size + 1) s 0 false Rp0 W0 from ⟨none, 0, KG, RK, Nat.le_refl _, World.ownsRow_nil _ _ _ _⟩)
  have N1 := Lib.hid (RNum_z hz1 RK)
  have HR := Lib.hid hraw
  have HZ2 := Lib.hid hz2
  have HZ3 := Lib.hid hz3
  have HSZ := Lib.hid hsz
  have HW := Lib.hid hW0
  have HB0 := Lib.hid B0
  have HK0 := Lib.hid K0
  have x0 : W0.cell? ⟨w.heap.size + 1 + 1, 0, none⟩ = some (.pointer (some ⟨w.heap.size + 1, 0, none⟩)) := KG.cell 0
  have cv : IntKind.i8.wrap kd = kd := wrap_kd8 hkd
  clear hraw hlb hsz hz1 hz2 hz3 hs ht B0 K0 KR KG RK hW0 hr hg
  go_enter Tryd.func9, Tryd.ntmps9
  go_wp2_with fail
  refine (RNew_any s _).mono ?_
  rintro e w1 ⟨rfl, rfl⟩
  go_upto_region 2 with (fail)
  rw [← HW.out]
  clear t1
  go_wp2_with fail
  refine N1.out.mono ?_
  rintro e w1 ⟨rfl, r1, o1⟩
  have S1 := Lib.hid (S0.out.next r1 o1)
  have S2 := Lib.hid (S1.out.put { Rp0 with kd := kd } 1 (.int .i8 kd) rfl (fun _ _ => rfl))
  have O2 := Lib.hid ((only_gr (g := w.heap.size + 1 + 1) o1).set (g := w.heap.size + 1 + 1) (o := 1) (.inl (.inr (Nat.le_refl _))) (.int .i8 kd))
  obtain ⟨A1, c1, k1, _⟩ := S1.out
  have yy := k1.cell 1
  have zz := k1.frozen 1
  have y0 := k1.cell 0
  have N2 := Lib.hid (RNum_z HZ2.out (by obtain ⟨_, _, _, r2, _⟩ := S2.out; exact r2))
  clear k1 r1 o1 x0
  go_wp2_with fail
  refine N2.out.mono ?_
  rintro e w2 ⟨rfl, r2, o2⟩
  have S3 := Lib.hid (S2.out.next r2 o2)
  have S4 := Lib.hid (S3.out.put { Rp0 with kd := kd, er := 0 } 2 (.int .i64 0) rfl (fun _ _ => rfl))
  have O4 := Lib.hid ((O2.out.trans (only_gr o2)).set (g := w.heap.size + 1 + 1) (o := 2) (.inl (.inr (Nat.le_refl _))) (.int .i64 0))
  obtain ⟨A2, c2, k2, _⟩ := S3.out
  have y2 := k2.cell 2
  have z2 := k2.frozen 2
  clear k2 r2 o2 y0 yy zz
  go_upto_region 4 with (fail)
  generalize (World.setCell w2 ⟨w.heap.size + 1 + 1, 2, none⟩ (.int .i64 0)) = W4 at *
  clear y2 z2 S0 S1 S2 S3 N1 N2 HW O2
  obtain ⟨A4, c4, k4, _⟩ := S4.out
  have x1 : W4.cell? ⟨w.heap.size + 1 + 1, 1, none⟩ = some (.int .i8 kd) := k4.cell 1
  have x2 : W4.cell? ⟨w.heap.size + 1 + 1, 2, none⟩ = some (.int .i64 0) := k4.cell 2
  have WR := Lib.hid (reading_made kd HKK.out W4)
  clear k4
  go_wp2_with fail
  refine WR.out.mono ?_
  rintro e w5 ⟨rfl, b5⟩
  have S5 := rpSt_below S4.out b5
  have O5 := Lib.hid (O4.out.then_below b5)
  have FB := Lib.hid (rbody_made _ _ _ s kd HKK.out j2 j3 b2 b3 y w5 S5 HZ3.out)
  clear x1 x2 b5 S5 S4 O4
  go_wp2_with fail
  refine FB.out.mono ?_
  rintro e WZ ⟨rfl, s6, o6⟩
  have SZ := Lib.hid s6
  have OZ := Lib.hid (O5.out.trans o6)
  clear s6 o6
  have KT := OZ.out.blk HK0.out (by omega)
  have hszz := OZ.out.size
  have BE := Lib.hid (HB0.out.trans (OZ.out.below HB0.out.size (fun x hx => by omega)))
  obtain ⟨AZ, cZ, kz, rz, _, oz⟩ := SZ.out
  have E1 := Lib.hid (REnd_any (w.heap.size + 1) s j3 b3 WZ rz.1)
  have x0 : WZ.cell? ⟨w.heap.size + 1 + 1, 0, none⟩ = some (.pointer (some ⟨w.heap.size + 1, 0, none⟩)) := kz.cell 0
  have KZ := Lib.hid kz
  have OWZ := Lib.hid oz
  clear kz rz oz SZ
  have u0 := KT.cell 0
  have f0 := KT.frozen 0
  have u1 := KT.cell 1
  have f1 := KT.frozen 1
  have u2 := KT.cell 2
  have f2 := KT.frozen 2
  have u3 := KT.cell 3
  have f3 := KT.frozen 3
  have u4 := KT.cell 4
  have f4 := KT.frozen 4
  have u5 := KT.cell 5
  have f5 := KT.frozen 5
  generalize rpOf kd 0 y = q at *
  by_cases hE : b3 = true ∨ j3 ≠ s.size
  · have he : endOf s.size j3 b3 = 70 := by unfold endOf; rw [if_pos hE]
    rw [he] at E1
    have hrr : readRp l = (Rp0, 70) := by rw [HR.out, if_pos (by rw [← HSZ.out]; exact hE)]
    have HRR := Lib.hid hrr
    clear hE he hrr
    go_wp2_with fail
    refine E1.out.mono ?_
    rintro e w3 ⟨rfl, n3, rfl⟩
    clear x0
    go_wp2_with fail
    refine bodyPost_ret (v := .tuple #[.agg #[.int .i8 0, .int .i64 0, .int .i64 0, .int .i64 0, .int .i64 0, .slice none 0 0], .int .i64 70]) (rpread_ret Rp0 none 0 70 _ w.heap.size _ rfl rfl (blk_set6 (KT.drewN n3))) rfl ?_
    rw [HRR.out]
    have bb := below_drewN BE.out n3
    exact ⟨none, 0, rfl, World.ownsRow_nil _ _ _ _, (bset (bset (bset (bset (bset (bset bb (Nat.le_refl _) _) (Nat.le_refl _) _) (Nat.le_refl _) _) (Nat.le_refl _) _) (Nat.le_refl _) _) (Nat.le_refl _) _)⟩
  · have he : endOf s.size j3 b3 = 0 := by unfold endOf; rw [if_neg hE]
    rw [he] at E1
    have hrr : readRp l = (q, 0) := by rw [HR.out, if_neg (by rw [← HSZ.out]; exact hE)]
    have HRR := Lib.hid hrr
    clear hE he hrr
    have yy0 : WZ.cell? ⟨w.heap.size + 1 + 1, 1, none⟩ = some (.int .i8 q.kd) := KZ.out.cell 1
    have yy1 : WZ.cell? ⟨w.heap.size + 1 + 1, 2, none⟩ = some (.int .i64 q.er) := KZ.out.cell 2
    have yy2 : WZ.cell? ⟨w.heap.size + 1 + 1, 3, none⟩ = some (.int .i64 q.pid) := KZ.out.cell 3
    have yy3 : WZ.cell? ⟨w.heap.size + 1 + 1, 4, none⟩ = some (.int .i64 q.ep) := KZ.out.cell 4
    have yy4 : WZ.cell? ⟨w.heap.size + 1 + 1, 5, none⟩ = some (.int .i64 q.off) := KZ.out.cell 5
    have yy5 : WZ.cell? ⟨w.heap.size + 1 + 1, 6, none⟩ = some (.slice AZ q.rows.length cZ) := KZ.out.cell 6
    go_wp2_with fail
    refine E1.out.mono ?_
    rintro e w3 ⟨rfl, n3, rfl⟩
    clear x0
    go_wp2_with fail
    refine bodyPost_ret (v := .tuple #[(.agg #[.int .i8 q.kd, .int .i64 q.er, .int .i64 q.pid, .int .i64 q.ep, .int .i64 q.off, .slice AZ q.rows.length cZ]), .int .i64 0]) (rpread_ret q AZ cZ 0 _ w.heap.size _ rfl rfl (blk_set6 (KT.drewN n3))) rfl ?_
    rw [HRR.out]
    have bb := below_drewN BE.out n3
    have ho := own_below (own_base OWZ.out (show w.heap.size + 1 ≤ w.heap.size + 1 + 1 + 1 by omega)) (below_drewN (Below.refl _ _) n3)
    exact ⟨AZ, cZ, rfl, own_base (base := w.heap.size + 1) (own_set (own_set (own_set (own_set (own_set (own_set ho (by omega) _) (by omega) _) (by omega) _) (by omega) _) (by omega) _) (by omega) _) (by omega), (bset (bset (bset (bset (bset (bset bb (Nat.le_refl _) _) (Nat.le_refl _) _) (Nat.le_refl _) _) (Nat.le_refl _) _) (Nat.le_refl _) _) (Nat.le_refl _) _)⟩
set_option maxRecDepth 100000 in
set_option maxHeartbeats 8000000 in
theorem rpRead_begun (A : Option Addr) (l : List UInt8) (c : Nat) (w : World) (hr : Reads w w.heap.size 1 A l.length (cellsB l)) (hl : l.length ≤ 100000) (hg : HasET w) (kd er : Int) (j1 j2 j3 : Nat) (b1 b2 b3 : Bool) (y : Bd) (hz1 : rdNum l 0 false 0 9 = (kd, j1, b1)) (hz2 : rdNum l j1 b1 0 400 = (er, j2, b2)) (hz3 : rdB er kd l j2 b2 = (y, j3, b3)) (h0 : er = 0) (hk : kd = 1) :
    Calls Tryd.prog 9 #[.slice A l.length c] w (RpRd (readRp l).1 (readRp l).2 w) := by
  subst h0
  have HKK := Lib.hid hk
  clear hk
  have hraw : readRp l = if b3 = true ∨ j3 ≠ l.length then (Rp0, 70) else (rpOf kd 0 y, 0) := by
    unfold readRp
    have e : rdRp l 0 false = (rpOf kd 0 y, j3, b3) := by simp only [rdRp, rdMap, rdBind, hz1, hz2, hz3]
    rw [e]
  obtain ⟨s, hs⟩ : ∃ s, s = bs l := ⟨_, rfl⟩
  have hlb : lb s = l := by rw [hs, lb_bs]
  have hsz : s.size = l.length := by rw [hs, size_bs]
  rw [← hlb] at hz1 hz2 hz3
  have hkd : 0 ≤ kd ∧ kd ≤ 9 := by rcases rdNum_rng hz1 with h | h <;> omega
  have ht : ∀ W, Below w.heap.size w W → (convert 27 9 (.slice A l.length c)).run Tryd.prog W = .ok (.string s) W := fun W hW => by
    have := run_string_of (P := Tryd.prog) (src := 27) (dst := 9) (c := c) Tryd.underlying27 Tryd.underlying5 Tryd.underlying9 (hr.below hW)
    rw [← hs] at this
    exact this
  have t1 := ht (w.alloc (.cells rp0 26)) (bal (Below.refl _ _) _)
  obtain ⟨W0, hW0⟩ : ∃ W0, W0 = (((w.alloc (.cells rp0 26)).alloc (.cells #[.string s, .int .i64 0, .bool false] 73)).alloc (.cells #[.pointer (some ⟨w.heap.size + 1, 0, none⟩), .int .i8 0, .int .i64 0, .int .i64 0, .int .i64 0, .int .i64 0, .slice none 0 0] 52)) := ⟨_, rfl⟩
  have hs0 : W0.heap.size = w.heap.size + 1 + 1 + 1 := by rw [hW0]; simp
  have B0 : Below w.heap.size w W0 := by rw [hW0]; exact bal (bal (bal (Below.refl _ _) _) _) _
  have K0 : Blk W0 w.heap.size 26 rp0 := by rw [hW0]; exact ((blk_new w _ _ rfl).alloc _).alloc _
  have KR : RdB W0 (w.heap.size + 1) s 0 false := by rw [hW0]; exact (blk_new _ _ _ (by simp)).alloc _
  have KG : Blk W0 (w.heap.size + 1 + 1) 52 (rpC (w.heap.size + 1) Rp0 none 0) := by rw [hW0]; exact blk_new _ _ _ (by simp)
  have RK : RdOk (w.heap.size + 1 + 1) W0 (w.heap.size + 1) s 0 false := ⟨KR, Nat.zero_le _, hg.up B0, by omega, by omega, Nat.lt_of_lt_of_le hg.lt (by omega), by omega⟩
  have S0 := Lib.hid (show RpSt (w.heap.size + 1 + 1) (w.heap.size + 1 + 1) (w.heap.size + 1) s 0 false Rp0 W0 from ⟨none, 0, KG, RK, Nat.le_refl _, World.ownsRow_nil _ _ _ _⟩)
  have N1 := Lib.hid (RNum_z hz1 RK)
  have HR := Lib.hid hraw
  have HZ2 := Lib.hid hz2
  have HZ3 := Lib.hid hz3
  have HSZ := Lib.hid hsz
  have HW := Lib.hid hW0
  have HB0 := Lib.hid B0
  have HK0 := Lib.hid K0
  have x0 : W0.cell? ⟨w.heap.size + 1 + 1, 0, none⟩ = some (.pointer (some ⟨w.heap.size + 1, 0, none⟩)) := KG.cell 0
  have cv : IntKind.i8.wrap kd = kd := wrap_kd8 hkd
  clear hraw hlb hsz hz1 hz2 hz3 hs ht B0 K0 KR KG RK hW0 hr hg
  go_enter Tryd.func9, Tryd.ntmps9
  go_wp2_with fail
  refine (RNew_any s _).mono ?_
  rintro e w1 ⟨rfl, rfl⟩
  go_upto_region 2 with (fail)
  rw [← HW.out]
  clear t1
  go_wp2_with fail
  refine N1.out.mono ?_
  rintro e w1 ⟨rfl, r1, o1⟩
  have S1 := Lib.hid (S0.out.next r1 o1)
  have S2 := Lib.hid (S1.out.put { Rp0 with kd := kd } 1 (.int .i8 kd) rfl (fun _ _ => rfl))
  have O2 := Lib.hid ((only_gr (g := w.heap.size + 1 + 1) o1).set (g := w.heap.size + 1 + 1) (o := 1) (.inl (.inr (Nat.le_refl _))) (.int .i8 kd))
  obtain ⟨A1, c1, k1, _⟩ := S1.out
  have yy := k1.cell 1
  have zz := k1.frozen 1
  have y0 := k1.cell 0
  have N2 := Lib.hid (RNum_z HZ2.out (by obtain ⟨_, _, _, r2, _⟩ := S2.out; exact r2))
  clear k1 r1 o1 x0
  go_wp2_with fail
  refine N2.out.mono ?_
  rintro e w2 ⟨rfl, r2, o2⟩
  have S3 := Lib.hid (S2.out.next r2 o2)
  have S4 := Lib.hid (S3.out.put { Rp0 with kd := kd, er := 0 } 2 (.int .i64 0) rfl (fun _ _ => rfl))
  have O4 := Lib.hid ((O2.out.trans (only_gr o2)).set (g := w.heap.size + 1 + 1) (o := 2) (.inl (.inr (Nat.le_refl _))) (.int .i64 0))
  obtain ⟨A2, c2, k2, _⟩ := S3.out
  have y2 := k2.cell 2
  have z2 := k2.frozen 2
  clear k2 r2 o2 y0 yy zz
  go_upto_region 4 with (fail)
  generalize (World.setCell w2 ⟨w.heap.size + 1 + 1, 2, none⟩ (.int .i64 0)) = W4 at *
  clear y2 z2 S0 S1 S2 S3 N1 N2 HW O2
  obtain ⟨A4, c4, k4, _⟩ := S4.out
  have x1 : W4.cell? ⟨w.heap.size + 1 + 1, 1, none⟩ = some (.int .i8 kd) := k4.cell 1
  have x2 : W4.cell? ⟨w.heap.size + 1 + 1, 2, none⟩ = some (.int .i64 0) := k4.cell 2
  have WR := Lib.hid (reading_begun kd HKK.out W4)
  clear k4
  go_wp2_with fail
  refine WR.out.mono ?_
  rintro e w5 ⟨rfl, b5⟩
  have S5 := rpSt_below S4.out b5
  have O5 := Lib.hid (O4.out.then_below b5)
  have FB := Lib.hid (rbody_begun _ _ _ s kd HKK.out j2 j3 b2 b3 y w5 S5 HZ3.out)
  clear x1 x2 b5 S5 S4 O4
  go_wp2_with fail
  refine FB.out.mono ?_
  rintro e WZ ⟨rfl, s6, o6⟩
  have SZ := Lib.hid s6
  have OZ := Lib.hid (O5.out.trans o6)
  clear s6 o6
  have KT := OZ.out.blk HK0.out (by omega)
  have hszz := OZ.out.size
  have BE := Lib.hid (HB0.out.trans (OZ.out.below HB0.out.size (fun x hx => by omega)))
  obtain ⟨AZ, cZ, kz, rz, _, oz⟩ := SZ.out
  have E1 := Lib.hid (REnd_any (w.heap.size + 1) s j3 b3 WZ rz.1)
  have x0 : WZ.cell? ⟨w.heap.size + 1 + 1, 0, none⟩ = some (.pointer (some ⟨w.heap.size + 1, 0, none⟩)) := kz.cell 0
  have KZ := Lib.hid kz
  have OWZ := Lib.hid oz
  clear kz rz oz SZ
  have u0 := KT.cell 0
  have f0 := KT.frozen 0
  have u1 := KT.cell 1
  have f1 := KT.frozen 1
  have u2 := KT.cell 2
  have f2 := KT.frozen 2
  have u3 := KT.cell 3
  have f3 := KT.frozen 3
  have u4 := KT.cell 4
  have f4 := KT.frozen 4
  have u5 := KT.cell 5
  have f5 := KT.frozen 5
  generalize rpOf kd 0 y = q at *
  by_cases hE : b3 = true ∨ j3 ≠ s.size
  · have he : endOf s.size j3 b3 = 70 := by unfold endOf; rw [if_pos hE]
    rw [he] at E1
    have hrr : readRp l = (Rp0, 70) := by rw [HR.out, if_pos (by rw [← HSZ.out]; exact hE)]
    have HRR := Lib.hid hrr
    clear hE he hrr
    go_wp2_with fail
    refine E1.out.mono ?_
    rintro e w3 ⟨rfl, n3, rfl⟩
    clear x0
    go_wp2_with fail
    refine bodyPost_ret (v := .tuple #[.agg #[.int .i8 0, .int .i64 0, .int .i64 0, .int .i64 0, .int .i64 0, .slice none 0 0], .int .i64 70]) (rpread_ret Rp0 none 0 70 _ w.heap.size _ rfl rfl (blk_set6 (KT.drewN n3))) rfl ?_
    rw [HRR.out]
    have bb := below_drewN BE.out n3
    exact ⟨none, 0, rfl, World.ownsRow_nil _ _ _ _, (bset (bset (bset (bset (bset (bset bb (Nat.le_refl _) _) (Nat.le_refl _) _) (Nat.le_refl _) _) (Nat.le_refl _) _) (Nat.le_refl _) _) (Nat.le_refl _) _)⟩
  · have he : endOf s.size j3 b3 = 0 := by unfold endOf; rw [if_neg hE]
    rw [he] at E1
    have hrr : readRp l = (q, 0) := by rw [HR.out, if_neg (by rw [← HSZ.out]; exact hE)]
    have HRR := Lib.hid hrr
    clear hE he hrr
    have yy0 : WZ.cell? ⟨w.heap.size + 1 + 1, 1, none⟩ = some (.int .i8 q.kd) := KZ.out.cell 1
    have yy1 : WZ.cell? ⟨w.heap.size + 1 + 1, 2, none⟩ = some (.int .i64 q.er) := KZ.out.cell 2
    have yy2 : WZ.cell? ⟨w.heap.size + 1 + 1, 3, none⟩ = some (.int .i64 q.pid) := KZ.out.cell 3
    have yy3 : WZ.cell? ⟨w.heap.size + 1 + 1, 4, none⟩ = some (.int .i64 q.ep) := KZ.out.cell 4
    have yy4 : WZ.cell? ⟨w.heap.size + 1 + 1, 5, none⟩ = some (.int .i64 q.off) := KZ.out.cell 5
    have yy5 : WZ.cell? ⟨w.heap.size + 1 + 1, 6, none⟩ = some (.slice AZ q.rows.length cZ) := KZ.out.cell 6
    go_wp2_with fail
    refine E1.out.mono ?_
    rintro e w3 ⟨rfl, n3, rfl⟩
    clear x0
    go_wp2_with fail
    refine bodyPost_ret (v := .tuple #[(.agg #[.int .i8 q.kd, .int .i64 q.er, .int .i64 q.pid, .int .i64 q.ep, .int .i64 q.off, .slice AZ q.rows.length cZ]), .int .i64 0]) (rpread_ret q AZ cZ 0 _ w.heap.size _ rfl rfl (blk_set6 (KT.drewN n3))) rfl ?_
    rw [HRR.out]
    have bb := below_drewN BE.out n3
    have ho := own_below (own_base OWZ.out (show w.heap.size + 1 ≤ w.heap.size + 1 + 1 + 1 by omega)) (below_drewN (Below.refl _ _) n3)
    exact ⟨AZ, cZ, rfl, own_base (base := w.heap.size + 1) (own_set (own_set (own_set (own_set (own_set (own_set ho (by omega) _) (by omega) _) (by omega) _) (by omega) _) (by omega) _) (by omega) _) (by omega), (bset (bset (bset (bset (bset (bset bb (Nat.le_refl _) _) (Nat.le_refl _) _) (Nat.le_refl _) _) (Nat.le_refl _) _) (Nat.le_refl _) _) (Nat.le_refl _) _)⟩
set_option maxRecDepth 100000 in
set_option maxHeartbeats 8000000 in
theorem rpRead_fetched (A : Option Addr) (l : List UInt8) (c : Nat) (w : World) (hr : Reads w w.heap.size 1 A l.length (cellsB l)) (hl : l.length ≤ 100000) (hg : HasET w) (kd er : Int) (j1 j2 j3 : Nat) (b1 b2 b3 : Bool) (y : Bd) (hz1 : rdNum l 0 false 0 9 = (kd, j1, b1)) (hz2 : rdNum l j1 b1 0 400 = (er, j2, b2)) (hz3 : rdB er kd l j2 b2 = (y, j3, b3)) (h0 : er = 0) (hk : kd = 5) :
    Calls Tryd.prog 9 #[.slice A l.length c] w (RpRd (readRp l).1 (readRp l).2 w) := by
  subst h0
  have HKK := Lib.hid hk
  clear hk
  have hraw : readRp l = if b3 = true ∨ j3 ≠ l.length then (Rp0, 70) else (rpOf kd 0 y, 0) := by
    unfold readRp
    have e : rdRp l 0 false = (rpOf kd 0 y, j3, b3) := by simp only [rdRp, rdMap, rdBind, hz1, hz2, hz3]
    rw [e]
  obtain ⟨s, hs⟩ : ∃ s, s = bs l := ⟨_, rfl⟩
  have hlb : lb s = l := by rw [hs, lb_bs]
  have hsz : s.size = l.length := by rw [hs, size_bs]
  rw [← hlb] at hz1 hz2 hz3
  have hkd : 0 ≤ kd ∧ kd ≤ 9 := by rcases rdNum_rng hz1 with h | h <;> omega
  have ht : ∀ W, Below w.heap.size w W → (convert 27 9 (.slice A l.length c)).run Tryd.prog W = .ok (.string s) W := fun W hW => by
    have := run_string_of (P := Tryd.prog) (src := 27) (dst := 9) (c := c) Tryd.underlying27 Tryd.underlying5 Tryd.underlying9 (hr.below hW)
    rw [← hs] at this
    exact this
  have t1 := ht (w.alloc (.cells rp0 26)) (bal (Below.refl _ _) _)
  obtain ⟨W0, hW0⟩ : ∃ W0, W0 = (((w.alloc (.cells rp0 26)).alloc (.cells #[.string s, .int .i64 0, .bool false] 73)).alloc (.cells #[.pointer (some ⟨w.heap.size + 1, 0, none⟩), .int .i8 0, .int .i64 0, .int .i64 0, .int .i64 0, .int .i64 0, .slice none 0 0] 52)) := ⟨_, rfl⟩
  have hs0 : W0.heap.size = w.heap.size + 1 + 1 + 1 := by rw [hW0]; simp
  have B0 : Below w.heap.size w W0 := by rw [hW0]; exact bal (bal (bal (Below.refl _ _) _) _) _
  have K0 : Blk W0 w.heap.size 26 rp0 := by rw [hW0]; exact ((blk_new w _ _ rfl).alloc _).alloc _
  have KR : RdB W0 (w.heap.size + 1) s 0 false := by rw [hW0]; exact (blk_new _ _ _ (by simp)).alloc _
  have KG : Blk W0 (w.heap.size + 1 + 1) 52 (rpC (w.heap.size + 1) Rp0 none 0) := by rw [hW0]; exact blk_new _ _ _ (by simp)
  have RK : RdOk (w.heap.size + 1 + 1) W0 (w.heap.size + 1) s 0 false := ⟨KR, Nat.zero_le _, hg.up B0, by omega, by omega, Nat.lt_of_lt_of_le hg.lt (by omega), by omega⟩
  have S0 := Lib.hid (show RpSt (w.heap.size + 1 + 1) (w.heap.size + 1 + 1) (w.heap.size + 1) s 0 false Rp0 W0 from ⟨none, 0, KG, RK, Nat.le_refl _, World.ownsRow_nil _ _ _ _⟩)
  have N1 := Lib.hid (RNum_z hz1 RK)
  have HR := Lib.hid hraw
  have HZ2 := Lib.hid hz2
  have HZ3 := Lib.hid hz3
  have HSZ := Lib.hid hsz
  have HW := Lib.hid hW0
  have HB0 := Lib.hid B0
  have HK0 := Lib.hid K0
  have x0 : W0.cell? ⟨w.heap.size + 1 + 1, 0, none⟩ = some (.pointer (some ⟨w.heap.size + 1, 0, none⟩)) := KG.cell 0
  have cv : IntKind.i8.wrap kd = kd := wrap_kd8 hkd
  clear hraw hlb hsz hz1 hz2 hz3 hs ht B0 K0 KR KG RK hW0 hr hg
  go_enter Tryd.func9, Tryd.ntmps9
  go_wp2_with fail
  refine (RNew_any s _).mono ?_
  rintro e w1 ⟨rfl, rfl⟩
  go_upto_region 2 with (fail)
  rw [← HW.out]
  clear t1
  go_wp2_with fail
  refine N1.out.mono ?_
  rintro e w1 ⟨rfl, r1, o1⟩
  have S1 := Lib.hid (S0.out.next r1 o1)
  have S2 := Lib.hid (S1.out.put { Rp0 with kd := kd } 1 (.int .i8 kd) rfl (fun _ _ => rfl))
  have O2 := Lib.hid ((only_gr (g := w.heap.size + 1 + 1) o1).set (g := w.heap.size + 1 + 1) (o := 1) (.inl (.inr (Nat.le_refl _))) (.int .i8 kd))
  obtain ⟨A1, c1, k1, _⟩ := S1.out
  have yy := k1.cell 1
  have zz := k1.frozen 1
  have y0 := k1.cell 0
  have N2 := Lib.hid (RNum_z HZ2.out (by obtain ⟨_, _, _, r2, _⟩ := S2.out; exact r2))
  clear k1 r1 o1 x0
  go_wp2_with fail
  refine N2.out.mono ?_
  rintro e w2 ⟨rfl, r2, o2⟩
  have S3 := Lib.hid (S2.out.next r2 o2)
  have S4 := Lib.hid (S3.out.put { Rp0 with kd := kd, er := 0 } 2 (.int .i64 0) rfl (fun _ _ => rfl))
  have O4 := Lib.hid ((O2.out.trans (only_gr o2)).set (g := w.heap.size + 1 + 1) (o := 2) (.inl (.inr (Nat.le_refl _))) (.int .i64 0))
  obtain ⟨A2, c2, k2, _⟩ := S3.out
  have y2 := k2.cell 2
  have z2 := k2.frozen 2
  clear k2 r2 o2 y0 yy zz
  go_upto_region 4 with (fail)
  generalize (World.setCell w2 ⟨w.heap.size + 1 + 1, 2, none⟩ (.int .i64 0)) = W4 at *
  clear y2 z2 S0 S1 S2 S3 N1 N2 HW O2
  obtain ⟨A4, c4, k4, _⟩ := S4.out
  have x1 : W4.cell? ⟨w.heap.size + 1 + 1, 1, none⟩ = some (.int .i8 kd) := k4.cell 1
  have x2 : W4.cell? ⟨w.heap.size + 1 + 1, 2, none⟩ = some (.int .i64 0) := k4.cell 2
  have WR := Lib.hid (reading_fetched kd HKK.out W4)
  clear k4
  go_wp2_with fail
  refine WR.out.mono ?_
  rintro e w5 ⟨rfl, b5⟩
  have S5 := rpSt_below S4.out b5
  have O5 := Lib.hid (O4.out.then_below b5)
  have FB := Lib.hid (rbody_fetched _ _ _ s kd HKK.out j2 j3 b2 b3 y w5 S5 HZ3.out)
  clear x1 x2 b5 S5 S4 O4
  go_wp2_with fail
  refine FB.out.mono ?_
  rintro e WZ ⟨rfl, s6, o6⟩
  have SZ := Lib.hid s6
  have OZ := Lib.hid (O5.out.trans o6)
  clear s6 o6
  have KT := OZ.out.blk HK0.out (by omega)
  have hszz := OZ.out.size
  have BE := Lib.hid (HB0.out.trans (OZ.out.below HB0.out.size (fun x hx => by omega)))
  obtain ⟨AZ, cZ, kz, rz, _, oz⟩ := SZ.out
  have E1 := Lib.hid (REnd_any (w.heap.size + 1) s j3 b3 WZ rz.1)
  have x0 : WZ.cell? ⟨w.heap.size + 1 + 1, 0, none⟩ = some (.pointer (some ⟨w.heap.size + 1, 0, none⟩)) := kz.cell 0
  have KZ := Lib.hid kz
  have OWZ := Lib.hid oz
  clear kz rz oz SZ
  have u0 := KT.cell 0
  have f0 := KT.frozen 0
  have u1 := KT.cell 1
  have f1 := KT.frozen 1
  have u2 := KT.cell 2
  have f2 := KT.frozen 2
  have u3 := KT.cell 3
  have f3 := KT.frozen 3
  have u4 := KT.cell 4
  have f4 := KT.frozen 4
  have u5 := KT.cell 5
  have f5 := KT.frozen 5
  generalize rpOf kd 0 y = q at *
  by_cases hE : b3 = true ∨ j3 ≠ s.size
  · have he : endOf s.size j3 b3 = 70 := by unfold endOf; rw [if_pos hE]
    rw [he] at E1
    have hrr : readRp l = (Rp0, 70) := by rw [HR.out, if_pos (by rw [← HSZ.out]; exact hE)]
    have HRR := Lib.hid hrr
    clear hE he hrr
    go_wp2_with fail
    refine E1.out.mono ?_
    rintro e w3 ⟨rfl, n3, rfl⟩
    clear x0
    go_wp2_with fail
    refine bodyPost_ret (v := .tuple #[.agg #[.int .i8 0, .int .i64 0, .int .i64 0, .int .i64 0, .int .i64 0, .slice none 0 0], .int .i64 70]) (rpread_ret Rp0 none 0 70 _ w.heap.size _ rfl rfl (blk_set6 (KT.drewN n3))) rfl ?_
    rw [HRR.out]
    have bb := below_drewN BE.out n3
    exact ⟨none, 0, rfl, World.ownsRow_nil _ _ _ _, (bset (bset (bset (bset (bset (bset bb (Nat.le_refl _) _) (Nat.le_refl _) _) (Nat.le_refl _) _) (Nat.le_refl _) _) (Nat.le_refl _) _) (Nat.le_refl _) _)⟩
  · have he : endOf s.size j3 b3 = 0 := by unfold endOf; rw [if_neg hE]
    rw [he] at E1
    have hrr : readRp l = (q, 0) := by rw [HR.out, if_neg (by rw [← HSZ.out]; exact hE)]
    have HRR := Lib.hid hrr
    clear hE he hrr
    have yy0 : WZ.cell? ⟨w.heap.size + 1 + 1, 1, none⟩ = some (.int .i8 q.kd) := KZ.out.cell 1
    have yy1 : WZ.cell? ⟨w.heap.size + 1 + 1, 2, none⟩ = some (.int .i64 q.er) := KZ.out.cell 2
    have yy2 : WZ.cell? ⟨w.heap.size + 1 + 1, 3, none⟩ = some (.int .i64 q.pid) := KZ.out.cell 3
    have yy3 : WZ.cell? ⟨w.heap.size + 1 + 1, 4, none⟩ = some (.int .i64 q.ep) := KZ.out.cell 4
    have yy4 : WZ.cell? ⟨w.heap.size + 1 + 1, 5, none⟩ = some (.int .i64 q.off) := KZ.out.cell 5
    have yy5 : WZ.cell? ⟨w.heap.size + 1 + 1, 6, none⟩ = some (.slice AZ q.rows.length cZ) := KZ.out.cell 6
    go_wp2_with fail
    refine E1.out.mono ?_
    rintro e w3 ⟨rfl, n3, rfl⟩
    clear x0
    go_wp2_with fail
    refine bodyPost_ret (v := .tuple #[(.agg #[.int .i8 q.kd, .int .i64 q.er, .int .i64 q.pid, .int .i64 q.ep, .int .i64 q.off, .slice AZ q.rows.length cZ]), .int .i64 0]) (rpread_ret q AZ cZ 0 _ w.heap.size _ rfl rfl (blk_set6 (KT.drewN n3))) rfl ?_
    rw [HRR.out]
    have bb := below_drewN BE.out n3
    have ho := own_below (own_base OWZ.out (show w.heap.size + 1 ≤ w.heap.size + 1 + 1 + 1 by omega)) (below_drewN (Below.refl _ _) n3)
    exact ⟨AZ, cZ, rfl, own_base (base := w.heap.size + 1) (own_set (own_set (own_set (own_set (own_set (own_set ho (by omega) _) (by omega) _) (by omega) _) (by omega) _) (by omega) _) (by omega) _) (by omega), (bset (bset (bset (bset (bset (bset bb (Nat.le_refl _) _) (Nat.le_refl _) _) (Nat.le_refl _) _) (Nat.le_refl _) _) (Nat.le_refl _) _) (Nat.le_refl _) _)⟩
set_option maxRecDepth 100000 in
set_option maxHeartbeats 8000000 in
theorem rpRead_offset (A : Option Addr) (l : List UInt8) (c : Nat) (w : World) (hr : Reads w w.heap.size 1 A l.length (cellsB l)) (hl : l.length ≤ 100000) (hg : HasET w) (kd er : Int) (j1 j2 j3 : Nat) (b1 b2 b3 : Bool) (y : Bd) (hz1 : rdNum l 0 false 0 9 = (kd, j1, b1)) (hz2 : rdNum l j1 b1 0 400 = (er, j2, b2)) (hz3 : rdB er kd l j2 b2 = (y, j3, b3)) (h0 : er = 0) (hk : kd = 2 ∨ kd = 7) :
    Calls Tryd.prog 9 #[.slice A l.length c] w (RpRd (readRp l).1 (readRp l).2 w) := by
  subst h0
  have HKK := Lib.hid hk
  clear hk
  have hraw : readRp l = if b3 = true ∨ j3 ≠ l.length then (Rp0, 70) else (rpOf kd 0 y, 0) := by
    unfold readRp
    have e : rdRp l 0 false = (rpOf kd 0 y, j3, b3) := by simp only [rdRp, rdMap, rdBind, hz1, hz2, hz3]
    rw [e]
  obtain ⟨s, hs⟩ : ∃ s, s = bs l := ⟨_, rfl⟩
  have hlb : lb s = l := by rw [hs, lb_bs]
  have hsz : s.size = l.length := by rw [hs, size_bs]
  rw [← hlb] at hz1 hz2 hz3
  have hkd : 0 ≤ kd ∧ kd ≤ 9 := by rcases rdNum_rng hz1 with h | h <;> omega
  have ht : ∀ W, Below w.heap.size w W → (convert 27 9 (.slice A l.length c)).run Tryd.prog W = .ok (.string s) W := fun W hW => by
    have := run_string_of (P := Tryd.prog) (src := 27) (dst := 9) (c := c) Tryd.underlying27 Tryd.underlying5 Tryd.underlying9 (hr.below hW)
    rw [← hs] at this
    exact this
  have t1 := ht (w.alloc (.cells rp0 26)) (bal (Below.refl _ _) _)
  obtain ⟨W0, hW0⟩ : ∃ W0, W0 = (((w.alloc (.cells rp0 26)).alloc (.cells #[.string s, .int .i64 0, .bool false] 73)).alloc (.cells #[.pointer (some ⟨w.heap.size + 1, 0, none⟩), .int .i8 0, .int .i64 0, .int .i64 0, .int .i64 0, .int .i64 0, .slice none 0 0] 52)) := ⟨_, rfl⟩
  have hs0 : W0.heap.size = w.heap.size + 1 + 1 + 1 := by rw [hW0]; simp
  have B0 : Below w.heap.size w W0 := by rw [hW0]; exact bal (bal (bal (Below.refl _ _) _) _) _
  have K0 : Blk W0 w.heap.size 26 rp0 := by rw [hW0]; exact ((blk_new w _ _ rfl).alloc _).alloc _
  have KR : RdB W0 (w.heap.size + 1) s 0 false := by rw [hW0]; exact (blk_new _ _ _ (by simp)).alloc _
  have KG : Blk W0 (w.heap.size + 1 + 1) 52 (rpC (w.heap.size + 1) Rp0 none 0) := by rw [hW0]; exact blk_new _ _ _ (by simp)
  have RK : RdOk (w.heap.size + 1 + 1) W0 (w.heap.size + 1) s 0 false := ⟨KR, Nat.zero_le _, hg.up B0, by omega, by omega, Nat.lt_of_lt_of_le hg.lt (by omega), by omega⟩
  have S0 := Lib.hid (show RpSt (w.heap.size + 1 + 1) (w.heap.size + 1 + 1) (w.heap.size + 1) s 0 false Rp0 W0 from ⟨none, 0, KG, RK, Nat.le_refl _, World.ownsRow_nil _ _ _ _⟩)
  have N1 := Lib.hid (RNum_z hz1 RK)
  have HR := Lib.hid hraw
  have HZ2 := Lib.hid hz2
  have HZ3 := Lib.hid hz3
  have HSZ := Lib.hid hsz
  have HW := Lib.hid hW0
  have HB0 := Lib.hid B0
  have HK0 := Lib.hid K0
  have x0 : W0.cell? ⟨w.heap.size + 1 + 1, 0, none⟩ = some (.pointer (some ⟨w.heap.size + 1, 0, none⟩)) := KG.cell 0
  have cv : IntKind.i8.wrap kd = kd := wrap_kd8 hkd
  clear hraw hlb hsz hz1 hz2 hz3 hs ht B0 K0 KR KG RK hW0 hr hg
  go_enter Tryd.func9, Tryd.ntmps9
  go_wp2_with fail
  refine (RNew_any s _).mono ?_
  rintro e w1 ⟨rfl, rfl⟩
  go_upto_region 2 with (fail)
  rw [← HW.out]
  clear t1
  go_wp2_with fail
  refine N1.out.mono ?_
  rintro e w1 ⟨rfl, r1, o1⟩
  have S1 := Lib.hid (S0.out.next r1 o1)
  have S2 := Lib.hid (S1.out.put { Rp0 with kd := kd } 1 (.int .i8 kd) rfl (fun _ _ => rfl))
  have O2 := Lib.hid ((only_gr (g := w.heap.size + 1 + 1) o1).set (g := w.heap.size + 1 + 1) (o := 1) (.inl (.inr (Nat.le_refl _))) (.int .i8 kd))
  obtain ⟨A1, c1, k1, _⟩ := S1.out
  have yy := k1.cell 1
  have zz := k1.frozen 1
  have y0 := k1.cell 0
  have N2 := Lib.hid (RNum_z HZ2.out (by obtain ⟨_, _, _, r2, _⟩ := S2.out; exact r2))
  clear k1 r1 o1 x0
  go_wp2_with fail
  refine N2.out.mono ?_
  rintro e w2 ⟨rfl, r2, o2⟩
  have S3 := Lib.hid (S2.out.next r2 o2)
  have S4 := Lib.hid (S3.out.put { Rp0 with kd := kd, er := 0 } 2 (.int .i64 0) rfl (fun _ _ => rfl))
  have O4 := Lib.hid ((O2.out.trans (only_gr o2)).set (g := w.heap.size + 1 + 1) (o := 2) (.inl (.inr (Nat.le_refl _))) (.int .i64 0))
  obtain ⟨A2, c2, k2, _⟩ := S3.out
  have y2 := k2.cell 2
  have z2 := k2.frozen 2
  clear k2 r2 o2 y0 yy zz
  go_upto_region 4 with (fail)
  generalize (World.setCell w2 ⟨w.heap.size + 1 + 1, 2, none⟩ (.int .i64 0)) = W4 at *
  clear y2 z2 S0 S1 S2 S3 N1 N2 HW O2
  obtain ⟨A4, c4, k4, _⟩ := S4.out
  have x1 : W4.cell? ⟨w.heap.size + 1 + 1, 1, none⟩ = some (.int .i8 kd) := k4.cell 1
  have x2 : W4.cell? ⟨w.heap.size + 1 + 1, 2, none⟩ = some (.int .i64 0) := k4.cell 2
  have WR := Lib.hid (reading_offset kd HKK.out W4)
  clear k4
  go_wp2_with fail
  refine WR.out.mono ?_
  rintro e w5 ⟨rfl, b5⟩
  have S5 := rpSt_below S4.out b5
  have O5 := Lib.hid (O4.out.then_below b5)
  have FB := Lib.hid (rbody_offset _ _ _ s kd HKK.out j2 j3 b2 b3 y w5 S5 HZ3.out)
  clear x1 x2 b5 S5 S4 O4
  go_wp2_with fail
  refine FB.out.mono ?_
  rintro e WZ ⟨rfl, s6, o6⟩
  have SZ := Lib.hid s6
  have OZ := Lib.hid (O5.out.trans o6)
  clear s6 o6
  have KT := OZ.out.blk HK0.out (by omega)
  have hszz := OZ.out.size
  have BE := Lib.hid (HB0.out.trans (OZ.out.below HB0.out.size (fun x hx => by omega)))
  obtain ⟨AZ, cZ, kz, rz, _, oz⟩ := SZ.out
  have E1 := Lib.hid (REnd_any (w.heap.size + 1) s j3 b3 WZ rz.1)
  have x0 : WZ.cell? ⟨w.heap.size + 1 + 1, 0, none⟩ = some (.pointer (some ⟨w.heap.size + 1, 0, none⟩)) := kz.cell 0
  have KZ := Lib.hid kz
  have OWZ := Lib.hid oz
  clear kz rz oz SZ
  have u0 := KT.cell 0
  have f0 := KT.frozen 0
  have u1 := KT.cell 1
  have f1 := KT.frozen 1
  have u2 := KT.cell 2
  have f2 := KT.frozen 2
  have u3 := KT.cell 3
  have f3 := KT.frozen 3
  have u4 := KT.cell 4
  have f4 := KT.frozen 4
  have u5 := KT.cell 5
  have f5 := KT.frozen 5
  generalize rpOf kd 0 y = q at *
  by_cases hE : b3 = true ∨ j3 ≠ s.size
  · have he : endOf s.size j3 b3 = 70 := by unfold endOf; rw [if_pos hE]
    rw [he] at E1
    have hrr : readRp l = (Rp0, 70) := by rw [HR.out, if_pos (by rw [← HSZ.out]; exact hE)]
    have HRR := Lib.hid hrr
    clear hE he hrr
    go_wp2_with fail
    refine E1.out.mono ?_
    rintro e w3 ⟨rfl, n3, rfl⟩
    clear x0
    go_wp2_with fail
    refine bodyPost_ret (v := .tuple #[.agg #[.int .i8 0, .int .i64 0, .int .i64 0, .int .i64 0, .int .i64 0, .slice none 0 0], .int .i64 70]) (rpread_ret Rp0 none 0 70 _ w.heap.size _ rfl rfl (blk_set6 (KT.drewN n3))) rfl ?_
    rw [HRR.out]
    have bb := below_drewN BE.out n3
    exact ⟨none, 0, rfl, World.ownsRow_nil _ _ _ _, (bset (bset (bset (bset (bset (bset bb (Nat.le_refl _) _) (Nat.le_refl _) _) (Nat.le_refl _) _) (Nat.le_refl _) _) (Nat.le_refl _) _) (Nat.le_refl _) _)⟩
  · have he : endOf s.size j3 b3 = 0 := by unfold endOf; rw [if_neg hE]
    rw [he] at E1
    have hrr : readRp l = (q, 0) := by rw [HR.out, if_neg (by rw [← HSZ.out]; exact hE)]
    have HRR := Lib.hid hrr
    clear hE he hrr
    have yy0 : WZ.cell? ⟨w.heap.size + 1 + 1, 1, none⟩ = some (.int .i8 q.kd) := KZ.out.cell 1
    have yy1 : WZ.cell? ⟨w.heap.size + 1 + 1, 2, none⟩ = some (.int .i64 q.er) := KZ.out.cell 2
    have yy2 : WZ.cell? ⟨w.heap.size + 1 + 1, 3, none⟩ = some (.int .i64 q.pid) := KZ.out.cell 3
    have yy3 : WZ.cell? ⟨w.heap.size + 1 + 1, 4, none⟩ = some (.int .i64 q.ep) := KZ.out.cell 4
    have yy4 : WZ.cell? ⟨w.heap.size + 1 + 1, 5, none⟩ = some (.int .i64 q.off) := KZ.out.cell 5
    have yy5 : WZ.cell? ⟨w.heap.size + 1 + 1, 6, none⟩ = some (.slice AZ q.rows.length cZ) := KZ.out.cell 6
    go_wp2_with fail
    refine E1.out.mono ?_
    rintro e w3 ⟨rfl, n3, rfl⟩
    clear x0
    go_wp2_with fail
    refine bodyPost_ret (v := .tuple #[(.agg #[.int .i8 q.kd, .int .i64 q.er, .int .i64 q.pid, .int .i64 q.ep, .int .i64 q.off, .slice AZ q.rows.length cZ]), .int .i64 0]) (rpread_ret q AZ cZ 0 _ w.heap.size _ rfl rfl (blk_set6 (KT.drewN n3))) rfl ?_
    rw [HRR.out]
    have bb := below_drewN BE.out n3
    have ho := own_below (own_base OWZ.out (show w.heap.size + 1 ≤ w.heap.size + 1 + 1 + 1 by omega)) (below_drewN (Below.refl _ _) n3)
    exact ⟨AZ, cZ, rfl, own_base (base := w.heap.size + 1) (own_set (own_set (own_set (own_set (own_set (own_set ho (by omega) _) (by omega) _) (by omega) _) (by omega) _) (by omega) _) (by omega) _) (by omega), (bset (bset (bset (bset (bset (bset bb (Nat.le_refl _) _) (Nat.le_refl _) _) (Nat.le_refl _) _) (Nat.le_refl _) _) (Nat.le_refl _) _) (Nat.le_refl _) _)⟩
set_option maxRecDepth 100000 in
set_option maxHeartbeats 8000000 in
theorem rpRead_none (A : Option Addr) (l : List UInt8) (c : Nat) (w : World) (hr : Reads w w.heap.size 1 A l.length (cellsB l)) (hl : l.length ≤ 100000) (hg : HasET w) (kd er : Int) (j1 j2 j3 : Nat) (b1 b2 b3 : Bool) (y : Bd) (hz1 : rdNum l 0 false 0 9 = (kd, j1, b1)) (hz2 : rdNum l j1 b1 0 400 = (er, j2, b2)) (hz3 : rdB er kd l j2 b2 = (y, j3, b3)) (h0 : er = 0) (hk : kd = 3 ∨ kd = 4 ∨ kd = 6 ∨ kd = 8 ∨ kd = 9) :
    Calls Tryd.prog 9 #[.slice A l.length c] w (RpRd (readRp l).1 (readRp l).2 w) := by
  subst h0
  have HKK := Lib.hid hk
  clear hk
  have hraw : readRp l = if b3 = true ∨ j3 ≠ l.length then (Rp0, 70) else (rpOf kd 0 y, 0) := by
    unfold readRp
    have e : rdRp l 0 false = (rpOf kd 0 y, j3, b3) := by simp only [rdRp, rdMap, rdBind, hz1, hz2, hz3]
    rw [e]
  obtain ⟨s, hs⟩ : ∃ s, s = bs l := ⟨_, rfl⟩
  have hlb : lb s = l := by rw [hs, lb_bs]
  have hsz : s.size = l.length := by rw [hs, size_bs]
  rw [← hlb] at hz1 hz2 hz3
  have hkd : 0 ≤ kd ∧ kd ≤ 9 := by rcases rdNum_rng hz1 with h | h <;> omega
  have ht : ∀ W, Below w.heap.size w W → (convert 27 9 (.slice A l.length c)).run Tryd.prog W = .ok (.string s) W := fun W hW => by
    have := run_string_of (P := Tryd.prog) (src := 27) (dst := 9) (c := c) Tryd.underlying27 Tryd.underlying5 Tryd.underlying9 (hr.below hW)
    rw [← hs] at this
    exact this
  have t1 := ht (w.alloc (.cells rp0 26)) (bal (Below.refl _ _) _)
  obtain ⟨W0, hW0⟩ : ∃ W0, W0 = (((w.alloc (.cells rp0 26)).alloc (.cells #[.string s, .int .i64 0, .bool false] 73)).alloc (.cells #[.pointer (some ⟨w.heap.size + 1, 0, none⟩), .int .i8 0, .int .i64 0, .int .i64 0, .int .i64 0, .int .i64 0, .slice none 0 0] 52)) := ⟨_, rfl⟩
  have hs0 : W0.heap.size = w.heap.size + 1 + 1 + 1 := by rw [hW0]; simp
  have B0 : Below w.heap.size w W0 := by rw [hW0]; exact bal (bal (bal (Below.refl _ _) _) _) _
  have K0 : Blk W0 w.heap.size 26 rp0 := by rw [hW0]; exact ((blk_new w _ _ rfl).alloc _).alloc _
  have KR : RdB W0 (w.heap.size + 1) s 0 false := by rw [hW0]; exact (blk_new _ _ _ (by simp)).alloc _
  have KG : Blk W0 (w.heap.size + 1 + 1) 52 (rpC (w.heap.size + 1) Rp0 none 0) := by rw [hW0]; exact blk_new _ _ _ (by simp)
  have RK : RdOk (w.heap.size + 1 + 1) W0 (w.heap.size + 1) s 0 false := ⟨KR, Nat.zero_le _, hg.up B0, by omega, by omega, Nat.lt_of_lt_of_le hg.lt (by omega), by omega⟩
  have S0 := Lib.hid (show RpSt (w.heap.size + 1 + 1) (w.heap.size + 1 + 1) (w.heap.size + 1) s 0 false Rp0 W0 from ⟨none, 0, KG, RK, Nat.le_refl _, World.ownsRow_nil _ _ _ _⟩)
  have N1 := Lib.hid (RNum_z hz1 RK)
  have HR := Lib.hid hraw
  have HZ2 := Lib.hid hz2
  have HZ3 := Lib.hid hz3
  have HSZ := Lib.hid hsz
  have HW := Lib.hid hW0
  have HB0 := Lib.hid B0
  have HK0 := Lib.hid K0
  have x0 : W0.cell? ⟨w.heap.size + 1 + 1, 0, none⟩ = some (.pointer (some ⟨w.heap.size + 1, 0, none⟩)) := KG.cell 0
  have cv : IntKind.i8.wrap kd = kd := wrap_kd8 hkd
  clear hraw hlb hsz hz1 hz2 hz3 hs ht B0 K0 KR KG RK hW0 hr hg
  go_enter Tryd.func9, Tryd.ntmps9
  go_wp2_with fail
  refine (RNew_any s _).mono ?_
  rintro e w1 ⟨rfl, rfl⟩
  go_upto_region 2 with (fail)
  rw [← HW.out]
  clear t1
  go_wp2_with fail
  refine N1.out.mono ?_
  rintro e w1 ⟨rfl, r1, o1⟩
  have S1 := Lib.hid (S0.out.next r1 o1)
  have S2 := Lib.hid (S1.out.put { Rp0 with kd := kd } 1 (.int .i8 kd) rfl (fun _ _ => rfl))
  have O2 := Lib.hid ((only_gr (g := w.heap.size + 1 + 1) o1).set (g := w.heap.size + 1 + 1) (o := 1) (.inl (.inr (Nat.le_refl _))) (.int .i8 kd))
  obtain ⟨A1, c1, k1, _⟩ := S1.out
  have yy := k1.cell 1
  have zz := k1.frozen 1
  have y0 := k1.cell 0
  have N2 := Lib.hid (RNum_z HZ2.out (by obtain ⟨_, _, _, r2, _⟩ := S2.out; exact r2))
  clear k1 r1 o1 x0
  go_wp2_with fail
  refine N2.out.mono ?_
  rintro e w2 ⟨rfl, r2, o2⟩
  have S3 := Lib.hid (S2.out.next r2 o2)
  have S4 := Lib.hid (S3.out.put { Rp0 with kd := kd, er := 0 } 2 (.int .i64 0) rfl (fun _ _ => rfl))
  have O4 := Lib.hid ((O2.out.trans (only_gr o2)).set (g := w.heap.size + 1 + 1) (o := 2) (.inl (.inr (Nat.le_refl _))) (.int .i64 0))
  obtain ⟨A2, c2, k2, _⟩ := S3.out
  have y2 := k2.cell 2
  have z2 := k2.frozen 2
  clear k2 r2 o2 y0 yy zz
  go_upto_region 4 with (fail)
  generalize (World.setCell w2 ⟨w.heap.size + 1 + 1, 2, none⟩ (.int .i64 0)) = W4 at *
  clear y2 z2 S0 S1 S2 S3 N1 N2 HW O2
  obtain ⟨A4, c4, k4, _⟩ := S4.out
  have x1 : W4.cell? ⟨w.heap.size + 1 + 1, 1, none⟩ = some (.int .i8 kd) := k4.cell 1
  have x2 : W4.cell? ⟨w.heap.size + 1 + 1, 2, none⟩ = some (.int .i64 0) := k4.cell 2
  have WR := Lib.hid (reading_none kd HKK.out W4)
  clear k4
  go_wp2_with fail
  refine WR.out.mono ?_
  rintro e w5 ⟨rfl, b5⟩
  have S5 := rpSt_below S4.out b5
  have O5 := Lib.hid (O4.out.then_below b5)
  have FB := Lib.hid (rbody_none _ _ _ s kd HKK.out j2 j3 b2 b3 y w5 S5 HZ3.out)
  clear x1 x2 b5 S5 S4 O4
  go_wp2_with fail
  refine FB.out.mono ?_
  rintro e WZ ⟨rfl, s6, o6⟩
  have SZ := Lib.hid s6
  have OZ := Lib.hid (O5.out.trans o6)
  clear s6 o6
  have KT := OZ.out.blk HK0.out (by omega)
  have hszz := OZ.out.size
  have BE := Lib.hid (HB0.out.trans (OZ.out.below HB0.out.size (fun x hx => by omega)))
  obtain ⟨AZ, cZ, kz, rz, _, oz⟩ := SZ.out
  have E1 := Lib.hid (REnd_any (w.heap.size + 1) s j3 b3 WZ rz.1)
  have x0 : WZ.cell? ⟨w.heap.size + 1 + 1, 0, none⟩ = some (.pointer (some ⟨w.heap.size + 1, 0, none⟩)) := kz.cell 0
  have KZ := Lib.hid kz
  have OWZ := Lib.hid oz
  clear kz rz oz SZ
  have u0 := KT.cell 0
  have f0 := KT.frozen 0
  have u1 := KT.cell 1
  have f1 := KT.frozen 1
  have u2 := KT.cell 2
  have f2 := KT.frozen 2
  have u3 := KT.cell 3
  have f3 := KT.frozen 3
  have u4 := KT.cell 4
  have f4 := KT.frozen 4
  have u5 := KT.cell 5
  have f5 := KT.frozen 5
  generalize rpOf kd 0 y = q at *
  by_cases hE : b3 = true ∨ j3 ≠ s.size
  · have he : endOf s.size j3 b3 = 70 := by unfold endOf; rw [if_pos hE]
    rw [he] at E1
    have hrr : readRp l = (Rp0, 70) := by rw [HR.out, if_pos (by rw [← HSZ.out]; exact hE)]
    have HRR := Lib.hid hrr
    clear hE he hrr
    go_wp2_with fail
    refine E1.out.mono ?_
    rintro e w3 ⟨rfl, n3, rfl⟩
    clear x0
    go_wp2_with fail
    refine bodyPost_ret (v := .tuple #[.agg #[.int .i8 0, .int .i64 0, .int .i64 0, .int .i64 0, .int .i64 0, .slice none 0 0], .int .i64 70]) (rpread_ret Rp0 none 0 70 _ w.heap.size _ rfl rfl (blk_set6 (KT.drewN n3))) rfl ?_
    rw [HRR.out]
    have bb := below_drewN BE.out n3
    exact ⟨none, 0, rfl, World.ownsRow_nil _ _ _ _, (bset (bset (bset (bset (bset (bset bb (Nat.le_refl _) _) (Nat.le_refl _) _) (Nat.le_refl _) _) (Nat.le_refl _) _) (Nat.le_refl _) _) (Nat.le_refl _) _)⟩
  · have he : endOf s.size j3 b3 = 0 := by unfold endOf; rw [if_neg hE]
    rw [he] at E1
    have hrr : readRp l = (q, 0) := by rw [HR.out, if_neg (by rw [← HSZ.out]; exact hE)]
    have HRR := Lib.hid hrr
    clear hE he hrr
    have yy0 : WZ.cell? ⟨w.heap.size + 1 + 1, 1, none⟩ = some (.int .i8 q.kd) := KZ.out.cell 1
    have yy1 : WZ.cell? ⟨w.heap.size + 1 + 1, 2, none⟩ = some (.int .i64 q.er) := KZ.out.cell 2
    have yy2 : WZ.cell? ⟨w.heap.size + 1 + 1, 3, none⟩ = some (.int .i64 q.pid) := KZ.out.cell 3
    have yy3 : WZ.cell? ⟨w.heap.size + 1 + 1, 4, none⟩ = some (.int .i64 q.ep) := KZ.out.cell 4
    have yy4 : WZ.cell? ⟨w.heap.size + 1 + 1, 5, none⟩ = some (.int .i64 q.off) := KZ.out.cell 5
    have yy5 : WZ.cell? ⟨w.heap.size + 1 + 1, 6, none⟩ = some (.slice AZ q.rows.length cZ) := KZ.out.cell 6
    go_wp2_with fail
    refine E1.out.mono ?_
    rintro e w3 ⟨rfl, n3, rfl⟩
    clear x0
    go_wp2_with fail
    refine bodyPost_ret (v := .tuple #[(.agg #[.int .i8 q.kd, .int .i64 q.er, .int .i64 q.pid, .int .i64 q.ep, .int .i64 q.off, .slice AZ q.rows.length cZ]), .int .i64 0]) (rpread_ret q AZ cZ 0 _ w.heap.size _ rfl rfl (blk_set6 (KT.drewN n3))) rfl ?_
    rw [HRR.out]
    have bb := below_drewN BE.out n3
    have ho := own_below (own_base OWZ.out (show w.heap.size + 1 ≤ w.heap.size + 1 + 1 + 1 by omega)) (below_drewN (Below.refl _ _) n3)
    exact ⟨AZ, cZ, rfl, own_base (base := w.heap.size + 1) (own_set (own_set (own_set (own_set (own_set (own_set ho (by omega) _) (by omega) _) (by omega) _) (by omega) _) (by omega) _) (by omega) _) (by omega), (bset (bset (bset (bset (bset (bset bb (Nat.le_refl _) _) (Nat.le_refl _) _) (Nat.le_refl _) _) (Nat.le_refl _) _) (Nat.le_refl _) _) (Nat.le_refl _) _)⟩

theorem rpRead_any (A : Option Addr) (l : List UInt8) (c : Nat) (w : World) (hr : Reads w w.heap.size 1 A l.length (cellsB l)) (hl : l.length ≤ 100000) (hg : HasET w) :
    Calls Tryd.prog 9 #[.slice A l.length c] w (RpRd (readRp l).1 (readRp l).2 w) := by
  obtain ⟨kd, j1, b1, hz1⟩ : ∃ v j b, rdNum l 0 false 0 9 = (v, j, b) := ⟨_, _, _, rfl⟩
  obtain ⟨er, j2, b2, hz2⟩ : ∃ v j b, rdNum l j1 b1 0 400 = (v, j, b) := ⟨_, _, _, rfl⟩
  obtain ⟨y, j3, b3, hz3⟩ : ∃ v j b, rdB er kd l j2 b2 = (v, j, b) := ⟨_, _, _, rfl⟩
  have hkd : 0 ≤ kd ∧ kd ≤ 9 := by rcases rdNum_rng hz1 with h | h <;> omega
  by_cases h0 : er = 0
  · by_cases k0 : kd = 0
    · exact rpRead_made A l c w hr hl hg kd er j1 j2 j3 b1 b2 b3 y hz1 hz2 hz3 h0 k0
    by_cases k1 : kd = 1
    · exact rpRead_begun A l c w hr hl hg kd er j1 j2 j3 b1 b2 b3 y hz1 hz2 hz3 h0 k1
    by_cases k5 : kd = 5
    · exact rpRead_fetched A l c w hr hl hg kd er j1 j2 j3 b1 b2 b3 y hz1 hz2 hz3 h0 k5
    by_cases k27 : kd = 2 ∨ kd = 7
    · exact rpRead_offset A l c w hr hl hg kd er j1 j2 j3 b1 b2 b3 y hz1 hz2 hz3 h0 k27
    exact rpRead_none A l c w hr hl hg kd er j1 j2 j3 b1 b2 b3 y hz1 hz2 hz3 h0 (by omega)
  · exact rpRead_err A l c w hr hl hg kd er j1 j2 j3 b1 b2 b3 y hz1 hz2 hz3 h0
end Go.Proofs.YtckdecodpjfcnaaDoor
