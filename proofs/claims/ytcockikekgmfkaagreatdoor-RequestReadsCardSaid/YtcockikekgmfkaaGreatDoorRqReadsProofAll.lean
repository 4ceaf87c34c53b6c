/-
  The card of RequestReads is proved: for every input the call returns true, and each argument reads as before. No condition but the row's own list, which the card ties to the program's text.
  The document's reading of a request, plainly: fields of any numbers, then whether it may be: the same as the reading with ranges. No program in sight.
  Layer 8: words for the document's reading of a request.
  Layer 8: the document's reading of a request: its walk.
  The statement RequestReads: its walk.
-/
import Derived.Test.YtcockikekgmfkaaGreatDoorGrp04
import Derived.Test.YtcockikekgmfkaaGreatDoorGrp29
import Derived.Test.YtcockikekgmfkaaGreatDoorGrp26
import Derived.Test.YtcockikekgmfkaaGreatDoorGrp31
import Derived.Test.YtcockikekgmfkaaGreatDoorGrp32
import Derived.Test.YtcockikekgmfkaaGreatDoorGrp27
set_option linter.unusedVariables false
set_option linter.unusedSimpArgs false
namespace Go.Proofs.YtcockikekgmfkaaGreatDoor
open Go.RowKit

def cW : (f : Fl) → Cd (FV f)
  | .yes => cFlag
  | .bat => cBt
  | .tid | .tm | .pid | .ep | .part | .grp | .off | .most => cI 0 1099511627776
def rdW : (f : Fl) → Rdr (FV f)
  | .yes => rdFlag
  | .bat => rdBt
  | .tid | .tm | .pid | .ep | .part | .grp | .off | .most => fun l i b => rdNum l i b 0 1099511627776
theorem fol_W : (f : Fl) → Fol (rdW f) (cW f) id
  | .yes => fol_flag
  | .bat => fol_bt
  | .tid => fol_I 0 1099511627776
  | .tm => fol_I 0 1099511627776
  | .pid => fol_I 0 1099511627776
  | .ep => fol_I 0 1099511627776
  | .part => fol_I 0 1099511627776
  | .grp => fol_I 0 1099511627776
  | .off => fol_I 0 1099511627776
  | .most => fol_I 0 1099511627776
theorem wide_v {lo hi : Nat} {x : Int} (h : (cI lo hi).v x) : (cI 0 1099511627776).v x := by
  have h' : 0 ≤ x ∧ (lo ≤ x.toNat ∧ x.toNat ≤ hi ∧ x.toNat ≤ maxNum) := h
  show 0 ≤ x ∧ (0 ≤ x.toNat ∧ x.toNat ≤ 1099511627776 ∧ x.toNat ≤ maxNum)
  refine ⟨h'.1, Nat.zero_le _, ?_, h'.2.2.2⟩
  have := h'.2.2.2
  unfold maxNum at this
  exact this
theorem cW_v : ∀ (f : Fl) (x : FV f), (cF f).v x → (cW f).v x
  | .yes, _, h => h
  | .bat, _, h => h
  | .tid, _, h => wide_v h
  | .tm, _, h => wide_v h
  | .pid, _, h => wide_v h
  | .ep, _, h => wide_v h
  | .part, _, h => wide_v h
  | .grp, _, h => wide_v h
  | .off, _, h => wide_v h
  | .most, _, h => wide_v h
theorem cW_e : ∀ (f : Fl) (x : FV f), (cW f).e x = (cF f).e x
  | .yes, _ | .bat, _ | .tid, _ | .tm, _ | .pid, _ | .ep, _ | .part, _ | .grp, _ | .off, _ | .most, _ => rfl
theorem eFs_W : ∀ (fs : List Fl) (a : (f : Fl) → FV f), eFs cW fs a = eFs cF fs a
  | [], _ => rfl
  | f :: fs, a => by
    show (cW f).e (a f) ++ eFs cW fs a = (cF f).e (a f) ++ eFs cF fs a
    rw [cW_e, eFs_W fs a]
/-- If the document's reading comes to the end with a request that may be, it is what the bytes are; else they are none. -/
theorem read8 {l : List UInt8} {kd : Int} {j1 : Nat} {b1 : Bool} {a : (f : Fl) → FV f} {j2 : Nat} {b2 : Bool} (h1 : rdNum l 0 false 0 9 = (kd, j1, b1)) (h2 : rdFs rdW (flOf kd) zeroF l j1 b1 = (a, j2, b2)) :
    (b1 = true → readRq l = (Rq0, 70)) ∧ ((b2 = true ∨ j2 ≠ l.length) → readRq l = (Rq0, 70)) ∧ (¬ mayRq (Rq.of kd a) → readRq l = (Rq0, 70)) ∧ (b2 = false → j2 = l.length → mayRq (Rq.of kd a) → readRq l = (Rq.of kd a, 0)) := by
  have key : ∀ q, mayRq q → l = encRq q → b1 = false ∧ b2 = false ∧ j2 = l.length ∧ Rq.of kd a = q := by
    intro q hm hl
    have hk : (cI 0 9).p (l.drop 0) = some (q.kd, eFs cF (flOf q.kd) q.get) := by
      have hv : (cI 0 9).v q.kd := ⟨hm.1.1, show 0 ≤ q.kd.toNat ∧ q.kd.toNat ≤ 9 ∧ q.kd.toNat ≤ maxNum by have := hm.1; unfold maxNum; omega⟩
      have := (cI 0 9).back hv (eFs cF (flOf q.kd) q.get)
      rw [hl]; exact this
    obtain ⟨j, hj, e1, e2⟩ := (fol_I 0 9).ok l 0 q.kd _ (Nat.zero_le _) hk
    have e1' : rdNum l 0 false 0 9 = (q.kd, j, false) := e1
    rw [h1] at e1'
    injection e1' with e3 e4
    injection e4 with e4 e5
    subst e3; subst e4; subst e5
    obtain ⟨g1, _⟩ := rdFs_fol cW rdW fol_W (flOf q.kd) zeroF l j1 hj
    have hp : pFs cW (flOf q.kd) zeroF (l.drop j1) = some (q.get, []) := by
      rw [e2]
      refine (pFs_law cW _ (flOf_nodup q.kd) zeroF q.get _ []).2 ⟨fun f hf => cW_v f _ (hm.2.1 f hf), hm.2.2, ?_⟩
      rw [List.append_nil, eFs_W]
    obtain ⟨j', hj', e6, e7⟩ := g1 _ _ hp
    rw [h2] at e6
    injection e6 with e8 e9
    injection e9 with e9 e10
    refine ⟨rfl, e10, ?_, ?_⟩
    · rw [e9]
      have := congrArg List.length e7
      rw [List.length_drop] at this
      have h0 : l.length - j' = 0 := this
      omega
    · rw [e8, of_get]
  have no : (∀ q, mayRq q → l = encRq q → False) → readRq l = (Rq0, 70) := by
    intro h
    rcases readRq_cases l with ⟨q, _, hm, hl⟩ | h'
    · exact absurd (h q hm hl) id
    · exact h'
  refine ⟨fun h => no fun q hm hl => ?_, fun h => no fun q hm hl => ?_, fun h => no fun q hm hl => ?_, fun hb hj hm => ?_⟩
  · have := (key q hm hl).1; rw [h] at this; cases this
  · obtain ⟨_, k2, k3, _⟩ := key q hm hl
    rcases h with h | h
    · rw [h] at k2; cases k2
    · exact h k3
  · exact h ((key q hm hl).2.2.2 ▸ hm)
  · have hb1 : b1 = false := by
      cases hb1 : b1
      · rfl
      · rw [hb1] at h2
        have := rdFs_stop cW rdW fol_W (flOf kd) zeroF l j1
        rw [h2] at this
        rw [hb] at this; cases this
    rw [hb1] at h1 h2
    have hp1 : (cI 0 9).p (l.drop 0) ≠ none := fun h => by
      have := (fol_I 0 9).no l 0 (Nat.zero_le _) h
      have h0 : (rdNum l 0 false 0 9).2.2 = true := this
      rw [h1] at h0; cases h0
    obtain ⟨⟨k, r⟩, hk⟩ := Option.ne_none_iff_exists'.1 hp1
    obtain ⟨j, hjl, e1, e2⟩ := (fol_I 0 9).ok l 0 k r (Nat.zero_le _) hk
    have e1' : rdNum l 0 false 0 9 = (k, j, false) := e1
    rw [h1] at e1'
    injection e1' with e3 e4
    injection e4 with e4 _
    subst e3; subst e4
    obtain ⟨g1, g2⟩ := rdFs_fol cW rdW fol_W (flOf kd) zeroF l j1 hjl
    have hp2 : pFs cW (flOf kd) zeroF (l.drop j1) ≠ none := fun h => by
      have := g2 h
      rw [h2] at this
      rw [hb] at this; cases this
    obtain ⟨⟨a', r'⟩, hp⟩ := Option.ne_none_iff_exists'.1 hp2
    obtain ⟨j', hj', e6, e7⟩ := g1 _ _ hp
    rw [h2] at e6
    injection e6 with e8 e9
    injection e9 with e9 e10
    subst e8; subst e9
    have hr' : r' = [] := by rw [← e7, hj, List.drop_length]
    subst hr'
    obtain ⟨_, _, h7⟩ := (pFs_law cW _ (flOf_nodup kd) zeroF _ _ _).1 hp
    have h8 := ((cI 0 9).only hk).2
    have hl : l = encRq (Rq.of kd a) := by
      rw [List.append_nil, eFs_W, e2] at h7
      rw [h7] at h8
      have h9 : l = (cI 0 9).e kd ++ eFs cF (flOf kd) a := h8
      rw [h9]
      unfold encRq
      show _ = enc kd.toNat ++ eFs cF (flOf kd) (Rq.of kd a).get
      rw [get_of]; rfl
    rw [hl]
    exact readRq_ok hm
end Go.Proofs.YtcockikekgmfkaaGreatDoor
namespace Go.Proofs.YtcockikekgmfkaaGreatDoor
open Go.RowKit

/-- The document's reading at work: where the reader is, the result's block, the request that is filled. -/
def R8 (w : World) (s : ByteArray) (xb i : Nat) (b : Bool) (q : Rq) (W : World) : Prop :=
  RrOk (w.heap.size + 2) W (w.heap.size + 1) s i b ∧ Blk W w.heap.size 27 rq0 ∧ (∃ A5 c5, Blk W xb 27 #[.int .i8 q.kd, .int .i64 q.tid, .int .i64 q.tm, .int .i64 q.pid, .int .i64 q.ep, .int .i64 q.part, .int .i64 q.grp, .int .i64 q.off, .int .i64 q.most, .bool q.yes, .int .i64 q.b.pid, .int .i64 q.b.ep, .int .i64 q.b.seq, .bool q.b.txn, .slice A5 q.b.rs.length c5] ∧ W.ownsRow (xb + 1) 41 2 (.slice A5 q.b.rs.length c5) q.b.rs.length (cellsR q.b.rs)) ∧ w.heap.size + 2 ≤ xb ∧ Below w.heap.size w W ∧ q.b.rs.length ≤ 4
section
variable {w W W' : World} {s : ByteArray} {xb i j : Nat} {b b' : Bool} {q : Rq}
theorem R8.next (h : R8 w s xb i b q W) (k : RrOk (w.heap.size + 2) W' (w.heap.size + 1) s j b') (o : Only (fun x => x = w.heap.size + 1) W W') : R8 w s xb j b' q W' := by
  obtain ⟨h1, h2, ⟨A5, c5, h3, h4⟩, h5, h6, h7⟩ := h
  exact ⟨k, o.blk h2 (by omega), ⟨A5, c5, o.blk h3 (by omega), o.own h4 (fun x hx e => by omega)⟩, h5, h6.trans (o.below h6.size (fun x hx => by omega)), h7⟩
theorem R8.put (h : R8 w s xb i b q W) (q' : Rq) (o : Nat) (v : Value) (hb : q'.b = q.b) (hc : ∀ A5 c5, (#[.int .i8 q'.kd, .int .i64 q'.tid, .int .i64 q'.tm, .int .i64 q'.pid, .int .i64 q'.ep, .int .i64 q'.part, .int .i64 q'.grp, .int .i64 q'.off, .int .i64 q'.most, .bool q'.yes, .int .i64 q'.b.pid, .int .i64 q'.b.ep, .int .i64 q'.b.seq, .bool q'.b.txn, .slice A5 q'.b.rs.length c5] : Array Value) = (#[.int .i8 q.kd, .int .i64 q.tid, .int .i64 q.tm, .int .i64 q.pid, .int .i64 q.ep, .int .i64 q.part, .int .i64 q.grp, .int .i64 q.off, .int .i64 q.most, .bool q.yes, .int .i64 q.b.pid, .int .i64 q.b.ep, .int .i64 q.b.seq, .bool q.b.txn, .slice A5 q.b.rs.length c5] : Array Value).setIfInBounds o v) : R8 w s xb i b q' (W.setCell ⟨xb, o, none⟩ v) := by
  obtain ⟨h1, h2, ⟨A5, c5, h3, h4⟩, h5, h6, h7⟩ := h
  refine ⟨h1.set h5 v, h2.far (p := ⟨xb, o, none⟩) (by show w.heap.size ≠ xb; omega) v, ⟨A5, c5, ?_, ?_⟩, h5, bset h6 (by omega) v, by rw [hb]; exact h7⟩
  · rw [hc]; exact h3.set_ o v
  · rw [hb]; exact own_set h4 (Nat.lt_succ_self _) v
theorem R8.below (h : R8 w s xb i b q W) (hx : xb < W.heap.size) (k : Below W.heap.size W W') : R8 w s xb i b q W' := by
  obtain ⟨h1, h2, ⟨A5, c5, h3, h4⟩, h5, h6, h7⟩ := h
  exact ⟨h1.below (k.mono h1.2.2.2.2), h2.below k h2.lt, ⟨A5, c5, h3.below k h3.lt, own_below h4 k⟩, h5, btrans h6 k, h7⟩
theorem R8.lt (h : R8 w s xb i b q W) : xb < W.heap.size := by
  obtain ⟨_, _, ⟨_, _, h3, _⟩, _⟩ := h
  exact h3.lt
/-- A batch that was read, in new memory. -/
theorem R8.bat (h : R8 w s xb i b q W) (bt : Bat) (A6 : Option Addr) (c6 : Nat) (ho : W.ownsRow (xb + 1) 41 2 (.slice A6 bt.rs.length c6) bt.rs.length (cellsR bt.rs)) (h4 : bt.rs.length ≤ 4) :
    R8 w s xb i b { q with b := bt } (((((W.setCell ⟨xb, 10, none⟩ (.int .i64 bt.pid)).setCell ⟨xb, 11, none⟩ (.int .i64 bt.ep)).setCell ⟨xb, 12, none⟩ (.int .i64 bt.seq)).setCell ⟨xb, 13, none⟩ (.bool bt.txn)).setCell ⟨xb, 14, none⟩ (.slice A6 bt.rs.length c6)) := by
  obtain ⟨h1, h2, ⟨A5, c5, h3, _⟩, h5, h6, h7⟩ := h
  have e : ¬ w.heap.size = xb := by omega
  refine ⟨((((h1.set h5 _).set h5 _).set h5 _).set h5 _).set h5 _, ((((h2.far (p := ⟨xb, 10, none⟩) e _).far (p := ⟨xb, 11, none⟩) e _).far (p := ⟨xb, 12, none⟩) e _).far (p := ⟨xb, 13, none⟩) e _).far (p := ⟨xb, 14, none⟩) e _, ⟨A6, c6, ?_, ?_⟩, h5, bset (bset (bset (bset (bset h6 (by omega) _) (by omega) _) (by omega) _) (by omega) _) (by omega) _, h4⟩
  · exact ((((h3.set_ 10 _).set_ 11 _).set_ 12 _).set_ 13 _).set_ 14 _
  · exact own_set (own_set (own_set (own_set (own_set ho (Nat.lt_succ_self _) _) (Nat.lt_succ_self _) _) (Nat.lt_succ_self _) _) (Nat.lt_succ_self _) _) (Nat.lt_succ_self _) _
end

set_option maxRecDepth 100000 in
set_option maxHeartbeats 1000000 in
theorem rread_ret (q : Rq) (A5 : Option Addr) (c5 : Nat) (n : Int) (tmps : Array Value) (b : Nat) (W : World) (h2 : tmps[2]?.getD undef = .pointer (some ⟨b, 0, none⟩)) (h3 : tmps[3]?.getD undef = .int .i64 n) (hK : Blk W b 27 #[.int .i8 q.kd, .int .i64 q.tid, .int .i64 q.tm, .int .i64 q.pid, .int .i64 q.ep, .int .i64 q.part, .int .i64 q.grp, .int .i64 q.off, .int .i64 q.most, .bool q.yes, .int .i64 q.b.pid, .int .i64 q.b.ep, .int .i64 q.b.seq, .bool q.b.txn, .slice A5 q.b.rs.length c5]) :
    (results Tryz.f16 tmps).run Tryz.prog W = .ok (.tuple #[(.agg #[.int .i8 q.kd, .int .i64 q.tid, .int .i64 q.tm, .int .i64 q.pid, .int .i64 q.ep, .int .i64 q.part, .int .i64 q.grp, .int .i64 q.off, .int .i64 q.most, .bool q.yes, .int .i64 q.b.pid, .int .i64 q.b.ep, .int .i64 q.b.seq, .bool q.b.txn, .slice A5 q.b.rs.length c5]), .int .i64 n]) W := by
  have r0 := hK.cell 0
  have r1 := hK.cell 1
  have r2 := hK.cell 2
  have r3 := hK.cell 3
  have r4 := hK.cell 4
  have r5 := hK.cell 5
  have r6 := hK.cell 6
  have r7 := hK.cell 7
  have r8 := hK.cell 8
  have r9 := hK.cell 9
  have r10 := hK.cell 10
  have r11 := hK.cell 11
  have r12 := hK.cell 12
  have r13 := hK.cell 13
  have r14 := hK.cell 14
  clear hK
  simp [results, Tryz.results16, go_sem, h2, h3, r0, r1, r2, r3, r4, r5, r6, r7, r8, r9, r10, r11, r12, r13, r14]


theorem rdTxt_most {l : List UInt8} {i : Nat} {b : Bool} {most : Nat} {v : List UInt8} {j : Nat} {c : Bool} (h : rdTxt l i b most = (v, j, c)) : v.length ≤ most := by
  unfold rdTxt at h
  split at h
  · injection h with h _; subst h; simp
  · split at h
    · split at h
      · rename_i hh
        injection h with h _; subst h
        rw [List.length_take]
        omega
      · injection h with h _; subst h; simp
    · injection h with h _; subst h; simp
end Go.Proofs.YtcockikekgmfkaaGreatDoor
namespace Go.Proofs.YtcockikekgmfkaaGreatDoor
open Go.RowKit

set_option maxRecDepth 100000 in
set_option maxHeartbeats 16000000 in
theorem rrRead_any (A : Option Addr) (l : List UInt8) (c : Nat) (w : World) (hr : Reads w w.heap.size 1 A l.length (cellsB l)) (hl : l.length ≤ 100000) :
    Calls Tryz.prog 16 #[.slice A l.length c] w (RqRd (readRq l).1 (readRq l).2 w) := by
  obtain ⟨s, hs⟩ : ∃ s, s = bs l := ⟨_, rfl⟩
  have hlb : lb s = l := by rw [hs, lb_bs]
  have hsz : s.size = l.length := by rw [hs, size_bs]
  obtain ⟨kd, j1, b1, hz1⟩ : ∃ v j b, rdNum (lb s) 0 false 0 9 = (v, j, b) := ⟨_, _, _, rfl⟩
  have hkd : 0 ≤ kd ∧ kd ≤ 9 := by rcases rdNum_rng hz1 with h | h <;> omega
  obtain ⟨a2, j2, b2, hz2⟩ : ∃ a j b, rdFs rdW (flOf kd) zeroF (lb s) j1 b1 = (a, j, b) := ⟨_, _, _, rfl⟩
  have hz1' := hz1
  have hz2' := hz2
  rw [hlb] at hz1' hz2'
  have hraw := read8 hz1' hz2'
  clear hz1' hz2'
  have ht : ∀ W, Below w.heap.size w W → (convert 30 9 (.slice A l.length c)).run Tryz.prog W = .ok (.string s) W := fun W hW => by
    have := run_string_of (P := Tryz.prog) (src := 30) (dst := 9) (c := c) Tryz.underlying30 Tryz.underlying5 Tryz.underlying9 (hr.below hW)
    rw [← hs] at this
    exact this
  have t1 := ht (w.alloc (.cells rq0 27)) (bal (Below.refl _ _) _)
  obtain ⟨W0, hW0⟩ : ∃ W0, W0 = ((w.alloc (.cells rq0 27)).alloc (.cells #[.string s, .int .i64 0, .bool false] 65)) := ⟨_, rfl⟩
  have hs0 : W0.heap.size = w.heap.size + 1 + 1 := by rw [hW0]; simp
  have B0 : Below w.heap.size w W0 := by rw [hW0]; exact bal (bal (Below.refl _ _) _) _
  have K0 : Blk W0 w.heap.size 27 rq0 := by rw [hW0]; exact (blk_new w _ _ rfl).alloc _
  have KR : RdR W0 (w.heap.size + 1) s 0 false := by rw [hW0]; exact blk_new _ _ _ (by simp)
  have RK : RrOk (w.heap.size + 2) W0 (w.heap.size + 1) s 0 false := ⟨KR, Nat.zero_le _, by omega, by omega, by omega⟩
  have N1 := Lib.hid (rRNum_z hz1 RK)
  have HR := Lib.hid hraw
  have HZ2 := Lib.hid hz2
  have HSZ := Lib.hid hsz
  have HW := Lib.hid hW0
  have HB0 := Lib.hid B0
  have HK0 := Lib.hid K0
  have cv : IntKind.i8.wrap kd = kd := wrap_kd hkd
  have HKD := Lib.hid hkd
  clear hraw hlb hsz hz1 hz2 hs ht B0 K0 KR RK hW0 hr hkd
  go_enter Tryz.func16, Tryz.ntmps16
  go_wp2_with fail
  refine (rRNew_any s _).mono ?_
  rintro e w1 ⟨rfl, rfl⟩
  go_upto_region 2 with (fail)
  rw [← HW.out]
  clear t1
  go_wp2_with fail
  refine N1.out.mono ?_
  rintro e w1 ⟨rfl, r1, o1⟩
  have hs1 := o1.size
  obtain ⟨xb, hxb⟩ : ∃ xb, w1.heap.size = xb := ⟨_, rfl⟩
  have be1 : Below w.heap.size w w1 := HB0.out.trans (o1.below HB0.out.size (fun x hx => by omega))
  have RX : R8 w s xb j1 b1 (Rq.of kd zeroF) (w1.alloc (.cells #[.int .i8 kd, .int .i64 0, .int .i64 0, .int .i64 0, .int .i64 0, .int .i64 0, .int .i64 0, .int .i64 0, .int .i64 0, .bool false, .int .i64 0, .int .i64 0, .int .i64 0, .bool false, .slice none 0 0] 27)) :=
    ⟨r1.alloc _, (o1.blk HK0.out (by omega)).alloc _, ⟨none, 0, blk_new w1 _ _ hxb, World.ownsRow_nil _ _ _ _⟩, by omega, bal be1 _, Nat.zero_le _⟩
  have RX0 := Lib.hid RX
  have HXB := Lib.hid hxb
  clear o1 r1 be1 RX
  go_upto_region 3 with (fail)
  generalize (w1.alloc (.cells #[.int .i8 kd, .int .i64 0, .int .i64 0, .int .i64 0, .int .i64 0, .int .i64 0, .int .i64 0, .int .i64 0, .int .i64 0, .bool false, .int .i64 0, .int .i64 0, .int .i64 0, .bool false, .slice none 0 0] 27)) = wx at *
  have x2 : wx.cell? ⟨w.heap.size + 1, 2, none⟩ = some (.bool b1) := RX0.out.1.1.cell 2
  clear N1 HW HB0 HK0 hxb HXB hs0 hs1
  cases b1
  case true =>
    have KT := RX0.out.2.1
    have u0 := KT.cell 0
    have f0 := KT.frozen 0
    have u1 := KT.cell 1
    have f1 := KT.frozen 1
    have u2 := KT.cell 2
    have f2 := KT.frozen 2
    have u3 := KT.cell 3
    have f3 := KT.frozen 3
    have u4 := KT.cell 4
    have f4 := KT.frozen 4
    have u5 := KT.cell 5
    have f5 := KT.frozen 5
    have u6 := KT.cell 6
    have f6 := KT.frozen 6
    have u7 := KT.cell 7
    have f7 := KT.frozen 7
    have u8 := KT.cell 8
    have f8 := KT.frozen 8
    have u9 := KT.cell 9
    have f9 := KT.frozen 9
    have u10 := KT.cell 10
    have f10 := KT.frozen 10
    have u11 := KT.cell 11
    have f11 := KT.frozen 11
    have u12 := KT.cell 12
    have f12 := KT.frozen 12
    have u13 := KT.cell 13
    have f13 := KT.frozen 13
    have u14 := KT.cell 14
    have f14 := KT.frozen 14
    go_wp2_with fail
    refine bodyPost_ret (v := .tuple #[.agg #[.int .i8 0, .int .i64 0, .int .i64 0, .int .i64 0, .int .i64 0, .int .i64 0, .int .i64 0, .int .i64 0, .int .i64 0, .bool false, .int .i64 0, .int .i64 0, .int .i64 0, .bool false, .slice none 0 0], .int .i64 70]) (rread_ret Rq0 none 0 70 _ w.heap.size _ rfl rfl (blk_set15 KT)) rfl ?_
    rw [HR.out.1 (by first | rfl | trivial)]
    have bb := RX0.out.2.2.2.2.1
    exact ⟨none, 0, rfl, World.ownsRow_nil _ _ _ _, (bset (bset (bset (bset (bset (bset (bset (bset (bset (bset (bset (bset (bset (bset (bset bb (Nat.le_refl _) _) (Nat.le_refl _) _) (Nat.le_refl _) _) (Nat.le_refl _) _) (Nat.le_refl _) _) (Nat.le_refl _) _) (Nat.le_refl _) _) (Nat.le_refl _) _) (Nat.le_refl _) _) (Nat.le_refl _) _) (Nat.le_refl _) _) (Nat.le_refl _) _) (Nat.le_refl _) _) (Nat.le_refl _) _) (Nat.le_refl _) _)⟩
  case false =>
  have y0 : wx.cell? ⟨xb, 0, none⟩ = some (.int .i8 kd) := by obtain ⟨Ax, cx, kx, _⟩ := RX0.out.2.2.1; exact kx.cell 0
  go_upto_block 0 with (fail)
  clear x2 y0
  go_cut [4] (fun s4 wc => s4 = .pointer (some ⟨w.heap.size + 1, 0, none⟩) ∧ R8 w s xb j2 b2 (Rq.of kd a2) wc)
  case first =>
    obtain ⟨hk0, hk9⟩ := HKD.out
    have hh : kd = 0 ∨ kd = 1 ∨ kd = 2 ∨ kd = 3 ∨ kd = 4 ∨ kd = 5 ∨ kd = 6 ∨ kd = 7 ∨ kd = 8 ∨ kd = 9 := by omega
    clear hk0 hk9 HKD cv
    rcases hh with rfl | rfl | rfl | rfl | rfl | rfl | rfl | rfl | rfl | rfl
    · skip
      go_wp2_with fail
      go_meet
      have hfin : rdFs rdW (flOf 0) zeroF (lb s) j1 false = (zeroF, j1, false) := by
        show rdFs rdW [] zeroF (lb s) j1 false = _
        rfl
      have e := hfin.symm.trans HZ2.out
      injection e with e1 e2
      injection e2 with e2 e3
      subst e1; subst e2; subst e3
      exact ⟨rfl, RX0.out⟩
    · skip
      obtain ⟨v1, i1, c1, hz1⟩ : ∃ v j c, rdNum (lb s) j1 false 0 1099511627776 = (v, j, c) := ⟨_, _, _, rfl⟩
      have N1 := Lib.hid (rRNum_z hz1 RX0.out.1)
      have HZ_1 := Lib.hid hz1
      clear hz1
      go_wp2_with fail
      refine N1.out.mono ?_
      rintro e W1 ⟨rfl, r, o⟩
      have RA1 := Lib.hid (RX0.out.next r o)
      clear r o
      obtain ⟨Ax1, cx1, kx, _⟩ := RA1.out.2.2.1
      have y := kx.cell 1
      have z := kx.frozen 1
      clear kx
      have RB1 := Lib.hid (RA1.out.put { (Rq.of 1 zeroF) with tid := v1 } 1 (.int .i64 v1) rfl (fun _ _ => rfl))
      obtain ⟨v2, i2, c2, hz2⟩ : ∃ v j c, rdNum (lb s) i1 c1 0 1099511627776 = (v, j, c) := ⟨_, _, _, rfl⟩
      have N2 := Lib.hid (rRNum_z hz2 RB1.out.1)
      have HZ_2 := Lib.hid hz2
      clear hz2
      go_wp2_with fail
      refine N2.out.mono ?_
      rintro e W2 ⟨rfl, r, o⟩
      have RA2 := Lib.hid (RB1.out.next r o)
      clear r o y z
      obtain ⟨Ax2, cx2, kx, _⟩ := RA2.out.2.2.1
      have y := kx.cell 2
      have z := kx.frozen 2
      clear kx
      have RB2 := Lib.hid (RA2.out.put { ({ (Rq.of 1 zeroF) with tid := v1 } : Rq) with tm := v2 } 2 (.int .i64 v2) rfl (fun _ _ => rfl))
      go_wp2_with fail
      go_meet
      have hfin : rdFs rdW (flOf 1) zeroF (lb s) j1 false = ((upd (upd zeroF .tid v1) .tm v2), i2, c2) := by
        show rdFs rdW [.tid, .tm] zeroF (lb s) j1 false = _
        simp only [rdFs, rdW, HZ_1.out, HZ_2.out]
      have e := hfin.symm.trans HZ2.out
      injection e with e1 e2
      injection e2 with e2 e3
      subst e1; subst e2; subst e3
      exact ⟨rfl, RB2.out⟩
    · skip
      obtain ⟨v1, i1, c1, hz1⟩ : ∃ v j c, rdNum (lb s) j1 false 0 1099511627776 = (v, j, c) := ⟨_, _, _, rfl⟩
      have N1 := Lib.hid (rRNum_z hz1 RX0.out.1)
      have HZ_1 := Lib.hid hz1
      clear hz1
      go_wp2_with fail
      refine N1.out.mono ?_
      rintro e W1 ⟨rfl, r, o⟩
      have RA1 := Lib.hid (RX0.out.next r o)
      clear r o
      obtain ⟨Ax1, cx1, kx, _⟩ := RA1.out.2.2.1
      have y := kx.cell 5
      have z := kx.frozen 5
      clear kx
      have RB1 := Lib.hid (RA1.out.put { (Rq.of 2 zeroF) with part := v1 } 5 (.int .i64 v1) rfl (fun _ _ => rfl))
      obtain ⟨v2, i2, c2, hz2⟩ : ∃ v j c, rdTxt (lb s) i1 c1 1024 = (v, j, c) := ⟨_, _, _, rfl⟩
      have N2 := Lib.hid (rRTxt_z hz2 RB1.out.1)
      have HZ_2 := Lib.hid hz2
      clear hz2
      go_wp2_with fail
      refine N2.out.mono ?_
      rintro e W2 ⟨rfl, r, o⟩
      have RA2 := Lib.hid (RB1.out.next r o)
      clear r o y z
      have hts : (bs v2).size ≤ 100000 := by rw [size_bs]; have := rdTxt_most (most := 1024) HZ_2.out; omega
      have BT := rRcRead_any (bs v2) W2 hts
      rw [lb_bs] at BT
      have hrs := readBt_rs v2
      rcases readBt_code v2 with h0 | h0
      · obtain ⟨bt, hbt⟩ : ∃ bt, readBt v2 = (bt, 0) := ⟨_, Prod.ext rfl h0⟩
        rw [hbt] at BT hrs
        have BTH := Lib.hid BT
        have HBT := Lib.hid hbt
        have hrs' : bt.rs.length ≤ 4 := hrs
        clear BT h0 hbt hrs hts
        go_wp2_with fail
        refine BTH.out.mono ?_
        rintro e W3 ⟨A6, c6, rfl, o6, _, b6⟩
        have RC := Lib.hid ((RA2.out.below RA2.out.lt b6).below (RA2.out.below RA2.out.lt b6).lt (bal (Below.refl _ _) (.cells #[.int .i64 bt.pid, .int .i64 bt.ep, .int .i64 bt.seq, .bool bt.txn, .slice A6 bt.rs.length c6] 25)))
        have O6 := Lib.hid ((own_base o6 (show xb + 1 ≤ W2.heap.size from RA2.out.lt)).alloc (.cells #[.int .i64 bt.pid, .int .i64 bt.ep, .int .i64 bt.seq, .bool bt.txn, .slice A6 bt.rs.length c6] 25))
        obtain ⟨Ax, cx, kx, _⟩ := RC.out.2.2.1
        have y10 := kx.cell 10
        have z10 := kx.frozen 10
        have y11 := kx.cell 11
        have z11 := kx.frozen 11
        have y12 := kx.cell 12
        have z12 := kx.frozen 12
        have y13 := kx.cell 13
        have z13 := kx.frozen 13
        have y14 := kx.cell 14
        have z14 := kx.frozen 14
        have hlt6 := RC.out.lt
        clear kx o6 b6
        go_wp2_with fail
        go_meet
        have RD := RC.out.bat bt A6 c6 O6.out hrs'
        have hfin : rdFs rdW (flOf 2) zeroF (lb s) j1 false = (upd (upd zeroF .part v1) .bat bt, i2, c2) := by
          show rdFs rdW [.part, .bat] zeroF (lb s) j1 false = _
          simp only [rdFs, rdW, rdBt, HZ_1.out, HZ_2.out, HBT.out, if_true]
        have e := hfin.symm.trans HZ2.out
        injection e with e1 e2
        injection e2 with e2 e3
        subst e1; subst e2; subst e3
        exact ⟨rfl, RD⟩
      · obtain ⟨bt0, hb0⟩ : ∃ x, Bat0 = x := ⟨_, rfl⟩
        rw [hb0] at h0
        rw [h0] at BT
        have BTH := Lib.hid BT
        have hfin : b2 = true := by
          have hf : (rdFs rdW (flOf 2) zeroF (lb s) j1 false).2.2 = true := by
            show (rdFs rdW [.part, .bat] zeroF (lb s) j1 false).2.2 = true
            simp only [rdFs, rdW, rdBt, HZ_1.out, HZ_2.out, h0]
            rfl
          rw [HZ2.out] at hf; exact hf
        have HRR := Lib.hid (HR.out.2.1 (.inl hfin))
        clear BT h0 hrs hts hfin hb0
        go_wp2_with fail
        refine BTH.out.mono ?_
        rintro e W3 ⟨A6, c6, rfl, o6, _, b6⟩
        have RC := Lib.hid ((RA2.out.below RA2.out.lt b6).below (RA2.out.below RA2.out.lt b6).lt (bal (Below.refl _ _) (.cells #[.int .i64 bt0.pid, .int .i64 bt0.ep, .int .i64 bt0.seq, .bool bt0.txn, .slice A6 bt0.rs.length c6] 25)))
        have KT := RC.out.2.1
        have u0 := KT.cell 0
        have f0 := KT.frozen 0
        have u1 := KT.cell 1
        have f1 := KT.frozen 1
        have u2 := KT.cell 2
        have f2 := KT.frozen 2
        have u3 := KT.cell 3
        have f3 := KT.frozen 3
        have u4 := KT.cell 4
        have f4 := KT.frozen 4
        have u5 := KT.cell 5
        have f5 := KT.frozen 5
        have u6 := KT.cell 6
        have f6 := KT.frozen 6
        have u7 := KT.cell 7
        have f7 := KT.frozen 7
        have u8 := KT.cell 8
        have f8 := KT.frozen 8
        have u9 := KT.cell 9
        have f9 := KT.frozen 9
        have u10 := KT.cell 10
        have f10 := KT.frozen 10
        have u11 := KT.cell 11
        have f11 := KT.frozen 11
        have u12 := KT.cell 12
        have f12 := KT.frozen 12
        have u13 := KT.cell 13
        have f13 := KT.frozen 13
        have u14 := KT.cell 14
        have f14 := KT.frozen 14
        clear o6 b6
        go_wp2_with fail
        refine bodyPost_ret (v := .tuple #[.agg #[.int .i8 0, .int .i64 0, .int .i64 0, .int .i64 0, .int .i64 0, .int .i64 0, .int .i64 0, .int .i64 0, .int .i64 0, .bool false, .int .i64 0, .int .i64 0, .int .i64 0, .bool false, .slice none 0 0], .int .i64 70]) (rread_ret Rq0 none 0 70 _ w.heap.size _ rfl rfl (blk_set15 KT)) rfl ?_
        rw [HRR.out]
        have bb := RC.out.2.2.2.2.1
        exact ⟨none, 0, rfl, World.ownsRow_nil _ _ _ _, (bset (bset (bset (bset (bset (bset (bset (bset (bset (bset (bset (bset (bset (bset (bset bb (Nat.le_refl _) _) (Nat.le_refl _) _) (Nat.le_refl _) _) (Nat.le_refl _) _) (Nat.le_refl _) _) (Nat.le_refl _) _) (Nat.le_refl _) _) (Nat.le_refl _) _) (Nat.le_refl _) _) (Nat.le_refl _) _) (Nat.le_refl _) _) (Nat.le_refl _) _) (Nat.le_refl _) _) (Nat.le_refl _) _) (Nat.le_refl _) _)⟩
    · skip
      obtain ⟨v1, i1, c1, hz1⟩ : ∃ v j c, rdNum (lb s) j1 false 0 1099511627776 = (v, j, c) := ⟨_, _, _, rfl⟩
      have N1 := Lib.hid (rRNum_z hz1 RX0.out.1)
      have HZ_1 := Lib.hid hz1
      clear hz1
      go_wp2_with fail
      refine N1.out.mono ?_
      rintro e W1 ⟨rfl, r, o⟩
      have RA1 := Lib.hid (RX0.out.next r o)
      clear r o
      obtain ⟨Ax1, cx1, kx, _⟩ := RA1.out.2.2.1
      have y := kx.cell 3
      have z := kx.frozen 3
      clear kx
      have RB1 := Lib.hid (RA1.out.put { (Rq.of 3 zeroF) with pid := v1 } 3 (.int .i64 v1) rfl (fun _ _ => rfl))
      obtain ⟨v2, i2, c2, hz2⟩ : ∃ v j c, rdNum (lb s) i1 c1 0 1099511627776 = (v, j, c) := ⟨_, _, _, rfl⟩
      have N2 := Lib.hid (rRNum_z hz2 RB1.out.1)
      have HZ_2 := Lib.hid hz2
      clear hz2
      go_wp2_with fail
      refine N2.out.mono ?_
      rintro e W2 ⟨rfl, r, o⟩
      have RA2 := Lib.hid (RB1.out.next r o)
      clear r o y z
      obtain ⟨Ax2, cx2, kx, _⟩ := RA2.out.2.2.1
      have y := kx.cell 4
      have z := kx.frozen 4
      clear kx
      have RB2 := Lib.hid (RA2.out.put { ({ (Rq.of 3 zeroF) with pid := v1 } : Rq) with ep := v2 } 4 (.int .i64 v2) rfl (fun _ _ => rfl))
      obtain ⟨v3, i3, c3, hz3⟩ : ∃ v j c, rdNum (lb s) i2 c2 0 1099511627776 = (v, j, c) := ⟨_, _, _, rfl⟩
      have N3 := Lib.hid (rRNum_z hz3 RB2.out.1)
      have HZ_3 := Lib.hid hz3
      clear hz3
      go_wp2_with fail
      refine N3.out.mono ?_
      rintro e W3 ⟨rfl, r, o⟩
      have RA3 := Lib.hid (RB2.out.next r o)
      clear r o y z
      obtain ⟨Ax3, cx3, kx, _⟩ := RA3.out.2.2.1
      have y := kx.cell 6
      have z := kx.frozen 6
      clear kx
      have RB3 := Lib.hid (RA3.out.put { ({ ({ (Rq.of 3 zeroF) with pid := v1 } : Rq) with ep := v2 } : Rq) with grp := v3 } 6 (.int .i64 v3) rfl (fun _ _ => rfl))
      obtain ⟨v4, i4, c4, hz4⟩ : ∃ v j c, rdNum (lb s) i3 c3 0 1099511627776 = (v, j, c) := ⟨_, _, _, rfl⟩
      have N4 := Lib.hid (rRNum_z hz4 RB3.out.1)
      have HZ_4 := Lib.hid hz4
      clear hz4
      go_wp2_with fail
      refine N4.out.mono ?_
      rintro e W4 ⟨rfl, r, o⟩
      have RA4 := Lib.hid (RB3.out.next r o)
      clear r o y z
      obtain ⟨Ax4, cx4, kx, _⟩ := RA4.out.2.2.1
      have y := kx.cell 5
      have z := kx.frozen 5
      clear kx
      have RB4 := Lib.hid (RA4.out.put { ({ ({ ({ (Rq.of 3 zeroF) with pid := v1 } : Rq) with ep := v2 } : Rq) with grp := v3 } : Rq) with part := v4 } 5 (.int .i64 v4) rfl (fun _ _ => rfl))
      obtain ⟨v5, i5, c5, hz5⟩ : ∃ v j c, rdNum (lb s) i4 c4 0 1099511627776 = (v, j, c) := ⟨_, _, _, rfl⟩
      have N5 := Lib.hid (rRNum_z hz5 RB4.out.1)
      have HZ_5 := Lib.hid hz5
      clear hz5
      go_wp2_with fail
      refine N5.out.mono ?_
      rintro e W5 ⟨rfl, r, o⟩
      have RA5 := Lib.hid (RB4.out.next r o)
      clear r o y z
      obtain ⟨Ax5, cx5, kx, _⟩ := RA5.out.2.2.1
      have y := kx.cell 7
      have z := kx.frozen 7
      clear kx
      have RB5 := Lib.hid (RA5.out.put { ({ ({ ({ ({ (Rq.of 3 zeroF) with pid := v1 } : Rq) with ep := v2 } : Rq) with grp := v3 } : Rq) with part := v4 } : Rq) with off := v5 } 7 (.int .i64 v5) rfl (fun _ _ => rfl))
      go_wp2_with fail
      go_meet
      have hfin : rdFs rdW (flOf 3) zeroF (lb s) j1 false = ((upd (upd (upd (upd (upd zeroF .pid v1) .ep v2) .grp v3) .part v4) .off v5), i5, c5) := by
        show rdFs rdW [.pid, .ep, .grp, .part, .off] zeroF (lb s) j1 false = _
        simp only [rdFs, rdW, HZ_1.out, HZ_2.out, HZ_3.out, HZ_4.out, HZ_5.out]
      have e := hfin.symm.trans HZ2.out
      injection e with e1 e2
      injection e2 with e2 e3
      subst e1; subst e2; subst e3
      exact ⟨rfl, RB5.out⟩
    · skip
      obtain ⟨v1, i1, c1, hz1⟩ : ∃ v j c, rdNum (lb s) j1 false 0 1099511627776 = (v, j, c) := ⟨_, _, _, rfl⟩
      have N1 := Lib.hid (rRNum_z hz1 RX0.out.1)
      have HZ_1 := Lib.hid hz1
      clear hz1
      go_wp2_with fail
      refine N1.out.mono ?_
      rintro e W1 ⟨rfl, r, o⟩
      have RA1 := Lib.hid (RX0.out.next r o)
      clear r o
      obtain ⟨Ax1, cx1, kx, _⟩ := RA1.out.2.2.1
      have y := kx.cell 3
      have z := kx.frozen 3
      clear kx
      have RB1 := Lib.hid (RA1.out.put { (Rq.of 4 zeroF) with pid := v1 } 3 (.int .i64 v1) rfl (fun _ _ => rfl))
      obtain ⟨v2, i2, c2, hz2⟩ : ∃ v j c, rdNum (lb s) i1 c1 0 1099511627776 = (v, j, c) := ⟨_, _, _, rfl⟩
      have N2 := Lib.hid (rRNum_z hz2 RB1.out.1)
      have HZ_2 := Lib.hid hz2
      clear hz2
      go_wp2_with fail
      refine N2.out.mono ?_
      rintro e W2 ⟨rfl, r, o⟩
      have RA2 := Lib.hid (RB1.out.next r o)
      clear r o y z
      obtain ⟨Ax2, cx2, kx, _⟩ := RA2.out.2.2.1
      have y := kx.cell 4
      have z := kx.frozen 4
      clear kx
      have RB2 := Lib.hid (RA2.out.put { ({ (Rq.of 4 zeroF) with pid := v1 } : Rq) with ep := v2 } 4 (.int .i64 v2) rfl (fun _ _ => rfl))
      obtain ⟨v3, i3, c3, hz3⟩ : ∃ v j c, rdFlag (lb s) i2 c2 = (v, j, c) := ⟨_, _, _, rfl⟩
      have N3 := Lib.hid (rRFlag_z hz3 RB2.out.1)
      have HZ_3 := Lib.hid hz3
      clear hz3
      go_wp2_with fail
      refine N3.out.mono ?_
      rintro e W3 ⟨rfl, r, o⟩
      have RA3 := Lib.hid (RB2.out.next r o)
      clear r o y z
      obtain ⟨Ax3, cx3, kx, _⟩ := RA3.out.2.2.1
      have y := kx.cell 9
      have z := kx.frozen 9
      clear kx
      have RB3 := Lib.hid (RA3.out.put { ({ ({ (Rq.of 4 zeroF) with pid := v1 } : Rq) with ep := v2 } : Rq) with yes := v3 } 9 (.bool v3) rfl (fun _ _ => rfl))
      go_wp2_with fail
      go_meet
      have hfin : rdFs rdW (flOf 4) zeroF (lb s) j1 false = ((upd (upd (upd zeroF .pid v1) .ep v2) .yes v3), i3, c3) := by
        show rdFs rdW [.pid, .ep, .yes] zeroF (lb s) j1 false = _
        simp only [rdFs, rdW, HZ_1.out, HZ_2.out, HZ_3.out]
      have e := hfin.symm.trans HZ2.out
      injection e with e1 e2
      injection e2 with e2 e3
      subst e1; subst e2; subst e3
      exact ⟨rfl, RB3.out⟩
    · skip
      obtain ⟨v1, i1, c1, hz1⟩ : ∃ v j c, rdNum (lb s) j1 false 0 1099511627776 = (v, j, c) := ⟨_, _, _, rfl⟩
      have N1 := Lib.hid (rRNum_z hz1 RX0.out.1)
      have HZ_1 := Lib.hid hz1
      clear hz1
      go_wp2_with fail
      refine N1.out.mono ?_
      rintro e W1 ⟨rfl, r, o⟩
      have RA1 := Lib.hid (RX0.out.next r o)
      clear r o
      obtain ⟨Ax1, cx1, kx, _⟩ := RA1.out.2.2.1
      have y := kx.cell 5
      have z := kx.frozen 5
      clear kx
      have RB1 := Lib.hid (RA1.out.put { (Rq.of 5 zeroF) with part := v1 } 5 (.int .i64 v1) rfl (fun _ _ => rfl))
      obtain ⟨v2, i2, c2, hz2⟩ : ∃ v j c, rdNum (lb s) i1 c1 0 1099511627776 = (v, j, c) := ⟨_, _, _, rfl⟩
      have N2 := Lib.hid (rRNum_z hz2 RB1.out.1)
      have HZ_2 := Lib.hid hz2
      clear hz2
      go_wp2_with fail
      refine N2.out.mono ?_
      rintro e W2 ⟨rfl, r, o⟩
      have RA2 := Lib.hid (RB1.out.next r o)
      clear r o y z
      obtain ⟨Ax2, cx2, kx, _⟩ := RA2.out.2.2.1
      have y := kx.cell 7
      have z := kx.frozen 7
      clear kx
      have RB2 := Lib.hid (RA2.out.put { ({ (Rq.of 5 zeroF) with part := v1 } : Rq) with off := v2 } 7 (.int .i64 v2) rfl (fun _ _ => rfl))
      obtain ⟨v3, i3, c3, hz3⟩ : ∃ v j c, rdNum (lb s) i2 c2 0 1099511627776 = (v, j, c) := ⟨_, _, _, rfl⟩
      have N3 := Lib.hid (rRNum_z hz3 RB2.out.1)
      have HZ_3 := Lib.hid hz3
      clear hz3
      go_wp2_with fail
      refine N3.out.mono ?_
      rintro e W3 ⟨rfl, r, o⟩
      have RA3 := Lib.hid (RB2.out.next r o)
      clear r o y z
      obtain ⟨Ax3, cx3, kx, _⟩ := RA3.out.2.2.1
      have y := kx.cell 8
      have z := kx.frozen 8
      clear kx
      have RB3 := Lib.hid (RA3.out.put { ({ ({ (Rq.of 5 zeroF) with part := v1 } : Rq) with off := v2 } : Rq) with most := v3 } 8 (.int .i64 v3) rfl (fun _ _ => rfl))
      obtain ⟨v4, i4, c4, hz4⟩ : ∃ v j c, rdFlag (lb s) i3 c3 = (v, j, c) := ⟨_, _, _, rfl⟩
      have N4 := Lib.hid (rRFlag_z hz4 RB3.out.1)
      have HZ_4 := Lib.hid hz4
      clear hz4
      go_wp2_with fail
      refine N4.out.mono ?_
      rintro e W4 ⟨rfl, r, o⟩
      have RA4 := Lib.hid (RB3.out.next r o)
      clear r o y z
      obtain ⟨Ax4, cx4, kx, _⟩ := RA4.out.2.2.1
      have y := kx.cell 9
      have z := kx.frozen 9
      clear kx
      have RB4 := Lib.hid (RA4.out.put { ({ ({ ({ (Rq.of 5 zeroF) with part := v1 } : Rq) with off := v2 } : Rq) with most := v3 } : Rq) with yes := v4 } 9 (.bool v4) rfl (fun _ _ => rfl))
      go_wp2_with fail
      go_meet
      have hfin : rdFs rdW (flOf 5) zeroF (lb s) j1 false = ((upd (upd (upd (upd zeroF .part v1) .off v2) .most v3) .yes v4), i4, c4) := by
        show rdFs rdW [.part, .off, .most, .yes] zeroF (lb s) j1 false = _
        simp only [rdFs, rdW, HZ_1.out, HZ_2.out, HZ_3.out, HZ_4.out]
      have e := hfin.symm.trans HZ2.out
      injection e with e1 e2
      injection e2 with e2 e3
      subst e1; subst e2; subst e3
      exact ⟨rfl, RB4.out⟩
    · skip
      obtain ⟨v1, i1, c1, hz1⟩ : ∃ v j c, rdNum (lb s) j1 false 0 1099511627776 = (v, j, c) := ⟨_, _, _, rfl⟩
      have N1 := Lib.hid (rRNum_z hz1 RX0.out.1)
      have HZ_1 := Lib.hid hz1
      clear hz1
      go_wp2_with fail
      refine N1.out.mono ?_
      rintro e W1 ⟨rfl, r, o⟩
      have RA1 := Lib.hid (RX0.out.next r o)
      clear r o
      obtain ⟨Ax1, cx1, kx, _⟩ := RA1.out.2.2.1
      have y := kx.cell 6
      have z := kx.frozen 6
      clear kx
      have RB1 := Lib.hid (RA1.out.put { (Rq.of 6 zeroF) with grp := v1 } 6 (.int .i64 v1) rfl (fun _ _ => rfl))
      obtain ⟨v2, i2, c2, hz2⟩ : ∃ v j c, rdNum (lb s) i1 c1 0 1099511627776 = (v, j, c) := ⟨_, _, _, rfl⟩
      have N2 := Lib.hid (rRNum_z hz2 RB1.out.1)
      have HZ_2 := Lib.hid hz2
      clear hz2
      go_wp2_with fail
      refine N2.out.mono ?_
      rintro e W2 ⟨rfl, r, o⟩
      have RA2 := Lib.hid (RB1.out.next r o)
      clear r o y z
      obtain ⟨Ax2, cx2, kx, _⟩ := RA2.out.2.2.1
      have y := kx.cell 5
      have z := kx.frozen 5
      have y0 := kx.cell 0
      clear kx
      have RB2 := Lib.hid (RA2.out.put { ({ (Rq.of 6 zeroF) with grp := v1 } : Rq) with part := v2 } 5 (.int .i64 v2) rfl (fun _ _ => rfl))
      obtain ⟨v3, i3, c3, hz3⟩ : ∃ v j c, rdNum (lb s) i2 c2 0 1099511627776 = (v, j, c) := ⟨_, _, _, rfl⟩
      have N3 := Lib.hid (rRNum_z hz3 RB2.out.1)
      have HZ_3 := Lib.hid hz3
      clear hz3
      go_wp2_with fail
      refine N3.out.mono ?_
      rintro e W3 ⟨rfl, r, o⟩
      have RA3 := Lib.hid (RB2.out.next r o)
      clear r o y z y0
      obtain ⟨Ax3, cx3, kx, _⟩ := RA3.out.2.2.1
      have y := kx.cell 7
      have z := kx.frozen 7
      clear kx
      have RB3 := Lib.hid (RA3.out.put { ({ ({ (Rq.of 6 zeroF) with grp := v1 } : Rq) with part := v2 } : Rq) with off := v3 } 7 (.int .i64 v3) rfl (fun _ _ => rfl))
      go_wp2_with fail
      go_meet
      have hfin : rdFs rdW (flOf 6) zeroF (lb s) j1 false = ((upd (upd (upd zeroF .grp v1) .part v2) .off v3), i3, c3) := by
        show rdFs rdW [.grp, .part, .off] zeroF (lb s) j1 false = _
        simp only [rdFs, rdW, HZ_1.out, HZ_2.out, HZ_3.out]
      have e := hfin.symm.trans HZ2.out
      injection e with e1 e2
      injection e2 with e2 e3
      subst e1; subst e2; subst e3
      exact ⟨rfl, RB3.out⟩
    · skip
      obtain ⟨v1, i1, c1, hz1⟩ : ∃ v j c, rdNum (lb s) j1 false 0 1099511627776 = (v, j, c) := ⟨_, _, _, rfl⟩
      have N1 := Lib.hid (rRNum_z hz1 RX0.out.1)
      have HZ_1 := Lib.hid hz1
      clear hz1
      go_wp2_with fail
      refine N1.out.mono ?_
      rintro e W1 ⟨rfl, r, o⟩
      have RA1 := Lib.hid (RX0.out.next r o)
      clear r o
      obtain ⟨Ax1, cx1, kx, _⟩ := RA1.out.2.2.1
      have y := kx.cell 6
      have z := kx.frozen 6
      clear kx
      have RB1 := Lib.hid (RA1.out.put { (Rq.of 7 zeroF) with grp := v1 } 6 (.int .i64 v1) rfl (fun _ _ => rfl))
      obtain ⟨v2, i2, c2, hz2⟩ : ∃ v j c, rdNum (lb s) i1 c1 0 1099511627776 = (v, j, c) := ⟨_, _, _, rfl⟩
      have N2 := Lib.hid (rRNum_z hz2 RB1.out.1)
      have HZ_2 := Lib.hid hz2
      clear hz2
      go_wp2_with fail
      refine N2.out.mono ?_
      rintro e W2 ⟨rfl, r, o⟩
      have RA2 := Lib.hid (RB1.out.next r o)
      clear r o y z
      obtain ⟨Ax2, cx2, kx, _⟩ := RA2.out.2.2.1
      have y := kx.cell 5
      have z := kx.frozen 5
      have y0 := kx.cell 0
      clear kx
      have RB2 := Lib.hid (RA2.out.put { ({ (Rq.of 7 zeroF) with grp := v1 } : Rq) with part := v2 } 5 (.int .i64 v2) rfl (fun _ _ => rfl))
      go_wp2_with fail
      go_meet
      have hfin : rdFs rdW (flOf 7) zeroF (lb s) j1 false = ((upd (upd zeroF .grp v1) .part v2), i2, c2) := by
        show rdFs rdW [.grp, .part] zeroF (lb s) j1 false = _
        simp only [rdFs, rdW, HZ_1.out, HZ_2.out]
      have e := hfin.symm.trans HZ2.out
      injection e with e1 e2
      injection e2 with e2 e3
      subst e1; subst e2; subst e3
      exact ⟨rfl, RB2.out⟩
    · skip
      obtain ⟨v1, i1, c1, hz1⟩ : ∃ v j c, rdNum (lb s) j1 false 0 1099511627776 = (v, j, c) := ⟨_, _, _, rfl⟩
      have N1 := Lib.hid (rRNum_z hz1 RX0.out.1)
      have HZ_1 := Lib.hid hz1
      clear hz1
      go_wp2_with fail
      refine N1.out.mono ?_
      rintro e W1 ⟨rfl, r, o⟩
      have RA1 := Lib.hid (RX0.out.next r o)
      clear r o
      obtain ⟨Ax1, cx1, kx, _⟩ := RA1.out.2.2.1
      have y := kx.cell 5
      have z := kx.frozen 5
      clear kx
      have RB1 := Lib.hid (RA1.out.put { (Rq.of 8 zeroF) with part := v1 } 5 (.int .i64 v1) rfl (fun _ _ => rfl))
      obtain ⟨v2, i2, c2, hz2⟩ : ∃ v j c, rdNum (lb s) i1 c1 0 1099511627776 = (v, j, c) := ⟨_, _, _, rfl⟩
      have N2 := Lib.hid (rRNum_z hz2 RB1.out.1)
      have HZ_2 := Lib.hid hz2
      clear hz2
      go_wp2_with fail
      refine N2.out.mono ?_
      rintro e W2 ⟨rfl, r, o⟩
      have RA2 := Lib.hid (RB1.out.next r o)
      clear r o y z
      obtain ⟨Ax2, cx2, kx, _⟩ := RA2.out.2.2.1
      have y := kx.cell 7
      have z := kx.frozen 7
      clear kx
      have RB2 := Lib.hid (RA2.out.put { ({ (Rq.of 8 zeroF) with part := v1 } : Rq) with off := v2 } 7 (.int .i64 v2) rfl (fun _ _ => rfl))
      go_wp2_with fail
      go_meet
      have hfin : rdFs rdW (flOf 8) zeroF (lb s) j1 false = ((upd (upd zeroF .part v1) .off v2), i2, c2) := by
        show rdFs rdW [.part, .off] zeroF (lb s) j1 false = _
        simp only [rdFs, rdW, HZ_1.out, HZ_2.out]
      have e := hfin.symm.trans HZ2.out
      injection e with e1 e2
      injection e2 with e2 e3
      subst e1; subst e2; subst e3
      exact ⟨rfl, RB2.out⟩
    · skip
      go_wp2_with fail
      go_meet
      have hfin : rdFs rdW (flOf 9) zeroF (lb s) j1 false = (zeroF, j1, false) := by
        show rdFs rdW [] zeroF (lb s) j1 false = _
        rfl
      have e := hfin.symm.trans HZ2.out
      injection e with e1 e2
      injection e2 with e2 e3
      subst e1; subst e2; subst e3
      exact ⟨rfl, RX0.out⟩
  case rest =>
    obtain ⟨rfl, RX⟩ := hcut
    generalize Rq.of kd a2 = q at *
    have E1 := Lib.hid (rREnd_any (w.heap.size + 1) s j2 b2 wc RX.1.1)
    have RXH := Lib.hid RX
    have KT := RX.2.1
    have hsx := RX.2.2.2.1
    clear HKD cv HZ2
    by_cases hE : b2 = true ∨ j2 ≠ s.size
    · have he : endOf s.size j2 b2 = 70 := by unfold endOf; rw [if_pos hE]
      rw [he] at E1
      have hrr : readRq l = (Rq0, 70) := HR.out.2.1 (by rw [← HSZ.out]; exact hE)
      have HRR := Lib.hid hrr
      clear hE he hrr RX HR
      have u0 := KT.cell 0
      have f0 := KT.frozen 0
      have u1 := KT.cell 1
      have f1 := KT.frozen 1
      have u2 := KT.cell 2
      have f2 := KT.frozen 2
      have u3 := KT.cell 3
      have f3 := KT.frozen 3
      have u4 := KT.cell 4
      have f4 := KT.frozen 4
      have u5 := KT.cell 5
      have f5 := KT.frozen 5
      have u6 := KT.cell 6
      have f6 := KT.frozen 6
      have u7 := KT.cell 7
      have f7 := KT.frozen 7
      have u8 := KT.cell 8
      have f8 := KT.frozen 8
      have u9 := KT.cell 9
      have f9 := KT.frozen 9
      have u10 := KT.cell 10
      have f10 := KT.frozen 10
      have u11 := KT.cell 11
      have f11 := KT.frozen 11
      have u12 := KT.cell 12
      have f12 := KT.frozen 12
      have u13 := KT.cell 13
      have f13 := KT.frozen 13
      have u14 := KT.cell 14
      have f14 := KT.frozen 14
      go_wp2_with fail
      refine E1.out.mono ?_
      rintro e w3 ⟨rfl, n3, rfl⟩
      go_wp2_with fail
      refine bodyPost_ret (v := .tuple #[.agg #[.int .i8 0, .int .i64 0, .int .i64 0, .int .i64 0, .int .i64 0, .int .i64 0, .int .i64 0, .int .i64 0, .int .i64 0, .bool false, .int .i64 0, .int .i64 0, .int .i64 0, .bool false, .slice none 0 0], .int .i64 70]) (rread_ret Rq0 none 0 70 _ w.heap.size _ rfl rfl (blk_set15 (KT.drewN n3))) rfl ?_
      rw [HRR.out]
      have bb := below_drewN RXH.out.2.2.2.2.1 n3
      exact ⟨none, 0, rfl, World.ownsRow_nil _ _ _ _, (bset (bset (bset (bset (bset (bset (bset (bset (bset (bset (bset (bset (bset (bset (bset bb (Nat.le_refl _) _) (Nat.le_refl _) _) (Nat.le_refl _) _) (Nat.le_refl _) _) (Nat.le_refl _) _) (Nat.le_refl _) _) (Nat.le_refl _) _) (Nat.le_refl _) _) (Nat.le_refl _) _) (Nat.le_refl _) _) (Nat.le_refl _) _) (Nat.le_refl _) _) (Nat.le_refl _) _) (Nat.le_refl _) _) (Nat.le_refl _) _)⟩
    · have he : endOf s.size j2 b2 = 0 := by unfold endOf; rw [if_neg hE]
      rw [he] at E1
      have hb : b2 = false := by cases b2; rfl; exact absurd (.inl rfl) hE
      have hj : j2 = l.length := by rw [← HSZ.out]; exact Classical.byContradiction fun h => hE (.inr h)
      obtain ⟨Ax, cx, kx, ox⟩ := RX.2.2.1
      have hle := RX.2.2.2.2.2
      have z0 := kx.cell 0
      have z1 := kx.cell 1
      have z2 := kx.cell 2
      have z3 := kx.cell 3
      have z4 := kx.cell 4
      have z5 := kx.cell 5
      have z6 := kx.cell 6
      have z7 := kx.cell 7
      have z8 := kx.cell 8
      have z9 := kx.cell 9
      have z10 := kx.cell 10
      have z11 := kx.cell 11
      have z12 := kx.cell 12
      have z13 := kx.cell 13
      have z14 := kx.cell 14
      have KX := Lib.hid kx
      have OX := Lib.hid ox
      clear hE he RX kx KT
      by_cases hm : mayRq q
      · have hrr : readRq l = (q, 0) := HR.out.2.2.2 hb hj hm
        have HRR := Lib.hid hrr
        have MY := Lib.hid (fun n => rrMay_ok q Ax cx (wc.drewN n) (Reads.of_own (own_below OX.out (below_drewN (Below.refl _ _) n))) (by omega) hm)
        clear hb hj hrr HR ox hm
        go_wp2_with fail
        refine E1.out.mono ?_
        rintro e w3 ⟨rfl, n3, rfl⟩
        go_wp2_with fail
        refine (MY.out n3).mono ?_
        rintro e w3 ⟨rfl, b3⟩
        have R3 := ((RXH.out.below RXH.out.lt (below_drewN (Below.refl _ _) n3)).below (by have := RXH.out.lt; simpa using this) b3)
        have k3 := (KX.out.drewN n3).below b3 (by have := KX.out.lt; simpa using this)
        have o3 := own_below (own_below OX.out (below_drewN (Below.refl _ _) n3)) b3
        have KT := R3.2.1
        have bb := R3.2.2.2.2.1
        clear b3 R3 z0 z1 z2 z3 z4 z5 z6 z7 z8 z9 z10 z11 z12 z13 z14
        have z0 := k3.cell 0
        have z1 := k3.cell 1
        have z2 := k3.cell 2
        have z3 := k3.cell 3
        have z4 := k3.cell 4
        have z5 := k3.cell 5
        have z6 := k3.cell 6
        have z7 := k3.cell 7
        have z8 := k3.cell 8
        have z9 := k3.cell 9
        have z10 := k3.cell 10
        have z11 := k3.cell 11
        have z12 := k3.cell 12
        have z13 := k3.cell 13
        have z14 := k3.cell 14
        have u0 := KT.cell 0
        have f0 := KT.frozen 0
        have u1 := KT.cell 1
        have f1 := KT.frozen 1
        have u2 := KT.cell 2
        have f2 := KT.frozen 2
        have u3 := KT.cell 3
        have f3 := KT.frozen 3
        have u4 := KT.cell 4
        have f4 := KT.frozen 4
        have u5 := KT.cell 5
        have f5 := KT.frozen 5
        have u6 := KT.cell 6
        have f6 := KT.frozen 6
        have u7 := KT.cell 7
        have f7 := KT.frozen 7
        have u8 := KT.cell 8
        have f8 := KT.frozen 8
        have u9 := KT.cell 9
        have f9 := KT.frozen 9
        have u10 := KT.cell 10
        have f10 := KT.frozen 10
        have u11 := KT.cell 11
        have f11 := KT.frozen 11
        have u12 := KT.cell 12
        have f12 := KT.frozen 12
        have u13 := KT.cell 13
        have f13 := KT.frozen 13
        have u14 := KT.cell 14
        have f14 := KT.frozen 14
        go_wp2_with fail
        refine bodyPost_ret (v := .tuple #[(.agg #[.int .i8 q.kd, .int .i64 q.tid, .int .i64 q.tm, .int .i64 q.pid, .int .i64 q.ep, .int .i64 q.part, .int .i64 q.grp, .int .i64 q.off, .int .i64 q.most, .bool q.yes, .int .i64 q.b.pid, .int .i64 q.b.ep, .int .i64 q.b.seq, .bool q.b.txn, .slice Ax q.b.rs.length cx]), .int .i64 0]) (rread_ret q Ax cx 0 _ w.heap.size _ rfl rfl (blk_set15 KT)) rfl ?_
        rw [HRR.out]
        have ho := own_base o3 (show w.heap.size + 1 ≤ xb + 1 by omega)
        exact ⟨Ax, cx, rfl, own_base (base := w.heap.size + 1) (own_set (own_set (own_set (own_set (own_set (own_set (own_set (own_set (own_set (own_set (own_set (own_set (own_set (own_set (own_set ho (by omega) _) (by omega) _) (by omega) _) (by omega) _) (by omega) _) (by omega) _) (by omega) _) (by omega) _) (by omega) _) (by omega) _) (by omega) _) (by omega) _) (by omega) _) (by omega) _) (by omega) _) (by omega), (bset (bset (bset (bset (bset (bset (bset (bset (bset (bset (bset (bset (bset (bset (bset bb (Nat.le_refl _) _) (Nat.le_refl _) _) (Nat.le_refl _) _) (Nat.le_refl _) _) (Nat.le_refl _) _) (Nat.le_refl _) _) (Nat.le_refl _) _) (Nat.le_refl _) _) (Nat.le_refl _) _) (Nat.le_refl _) _) (Nat.le_refl _) _) (Nat.le_refl _) _) (Nat.le_refl _) _) (Nat.le_refl _) _) (Nat.le_refl _) _)⟩
      · have hrr : readRq l = (Rq0, 70) := HR.out.2.2.1 hm
        have HRR := Lib.hid hrr
        have MY := Lib.hid (fun n => rrMay_no q Ax cx (wc.drewN n) (Reads.of_own (own_below OX.out (below_drewN (Below.refl _ _) n))) (by omega) hm)
        clear hb hj hrr HR ox hm
        go_wp2_with fail
        refine E1.out.mono ?_
        rintro e w3 ⟨rfl, n3, rfl⟩
        go_wp2_with fail
        refine (MY.out n3).mono ?_
        rintro e w3 ⟨rfl, b3⟩
        have R3 := ((RXH.out.below RXH.out.lt (below_drewN (Below.refl _ _) n3)).below (by have := RXH.out.lt; simpa using this) b3)
        have KT := R3.2.1
        have bb := R3.2.2.2.2.1
        clear b3 R3 z0 z1 z2 z3 z4 z5 z6 z7 z8 z9 z10 z11 z12 z13 z14
        have u0 := KT.cell 0
        have f0 := KT.frozen 0
        have u1 := KT.cell 1
        have f1 := KT.frozen 1
        have u2 := KT.cell 2
        have f2 := KT.frozen 2
        have u3 := KT.cell 3
        have f3 := KT.frozen 3
        have u4 := KT.cell 4
        have f4 := KT.frozen 4
        have u5 := KT.cell 5
        have f5 := KT.frozen 5
        have u6 := KT.cell 6
        have f6 := KT.frozen 6
        have u7 := KT.cell 7
        have f7 := KT.frozen 7
        have u8 := KT.cell 8
        have f8 := KT.frozen 8
        have u9 := KT.cell 9
        have f9 := KT.frozen 9
        have u10 := KT.cell 10
        have f10 := KT.frozen 10
        have u11 := KT.cell 11
        have f11 := KT.frozen 11
        have u12 := KT.cell 12
        have f12 := KT.frozen 12
        have u13 := KT.cell 13
        have f13 := KT.frozen 13
        have u14 := KT.cell 14
        have f14 := KT.frozen 14
        go_wp2_with fail
        refine bodyPost_ret (v := .tuple #[.agg #[.int .i8 0, .int .i64 0, .int .i64 0, .int .i64 0, .int .i64 0, .int .i64 0, .int .i64 0, .int .i64 0, .int .i64 0, .bool false, .int .i64 0, .int .i64 0, .int .i64 0, .bool false, .slice none 0 0], .int .i64 70]) (rread_ret Rq0 none 0 70 _ w.heap.size _ rfl rfl (blk_set15 KT)) rfl ?_
        rw [HRR.out]
        exact ⟨none, 0, rfl, World.ownsRow_nil _ _ _ _, (bset (bset (bset (bset (bset (bset (bset (bset (bset (bset (bset (bset (bset (bset (bset bb (Nat.le_refl _) _) (Nat.le_refl _) _) (Nat.le_refl _) _) (Nat.le_refl _) _) (Nat.le_refl _) _) (Nat.le_refl _) _) (Nat.le_refl _) _) (Nat.le_refl _) _) (Nat.le_refl _) _) (Nat.le_refl _) _) (Nat.le_refl _) _) (Nat.le_refl _) _) (Nat.le_refl _) _) (Nat.le_refl _) _) (Nat.le_refl _) _)⟩
end Go.Proofs.YtcockikekgmfkaaGreatDoor
namespace Go.Proofs.YtcockikekgmfkaaGreatDoor
open Go.RowKit

theorem mayRq_len8 {q : Rq} (h : mayRq q) : q.b.rs.length ≤ 1000000 := by
  by_cases hb : Fl.bat ∈ flOf q.kd
  · have h1 : mayBt q.b = true := h.2.1 .bat hb
    have := ((mayBt_iff _).1 h1).1
    omega
  · have h1 : q.b = Bat0 := h.2.2 .bat hb
    rw [h1]; exact Nat.zero_le _
theorem readRq_len (l : List UInt8) : (readRq l).1.b.rs.length ≤ 1000000 := by
  rcases readRq_cases l with ⟨q, h, h1, _⟩ | h
  · rw [h]; exact mayRq_len8 h1
  · rw [h]; exact Nat.zero_le _
set_option maxRecDepth 100000 in
set_option maxHeartbeats 2000000 in
theorem rq8reads_big (A : Option Addr) (l : List UInt8) (c : Nat) (w : World) (hg : HasET w) (h : 4000 < l.length) :
    Calls Tryz.prog 4 #[.slice A l.length c] w fun e w' => e = .returned (.bool true) ∧ Below w.heap.size w w' := by
  have WK := Lib.hid (wakes08 w hg)
  have d1 : decide ((4000 : Int) < (l.length : Int)) = true := by simp; omega
  clear h hg
  go_enter Tryz.func4, Tryz.ntmps4
  go_wp2_with fail
  refine WK.out.mono ?_
  rintro e w1 ⟨rfl, b1⟩
  go_wp2_with fail
  go_ret
  exact ⟨rfl, b1⟩
set_option maxRecDepth 100000 in
set_option maxHeartbeats 4000000 in
theorem rq8reads_ok (A : Option Addr) (l : List UInt8) (c : Nat) (w : World) (hr : Reads w w.heap.size 1 A l.length (cellsB l)) (hg : HasET w) (h : l.length ≤ 4000) :
    Calls Tryz.prog 4 #[.slice A l.length c] w fun e w' => e = .returned (.bool true) ∧ Below w.heap.size w w' := by
  have d1 : decide ((4000 : Int) < (l.length : Int)) = false := by simp; omega
  have hlen := readRq_len l
  have R1 := Lib.hid (rqRead_any A l c w hr (by omega) hg)
  have R2 := Lib.hid (fun W (k : Below w.heap.size w W) => rrRead_any A l c W ((hr.below k).more k.size) (by omega))
  have WK := Lib.hid (fun W (k : Below w.heap.size w W) => wakes08 W (hg.up k))
  obtain ⟨q, n, hz⟩ : ∃ q n, readRq l = (q, n) := ⟨_, _, rfl⟩
  rw [hz] at R1 R2 hlen
  change Hid (Calls _ _ _ _ (RqRd q n w)) at R1
  change Hid (∀ W, _ → Calls _ _ _ _ (RqRd q n W)) at R2
  have SM := Lib.hid (fun W A5 A6 c5 c6 (h5 : Reads W W.heap.size 2 A5 q.b.rs.length (cellsR q.b.rs)) (h6 : Reads W W.heap.size 2 A6 q.b.rs.length (cellsR q.b.rs)) => rrSame_any q q A5 A6 c5 c6 W h5 h6 hlen)
  have hs : sameRq q q = true := (sameRq_iff q q).2 rfl
  rw [hs] at SM
  have nn : (n == n) = true := beq_self_eq_true n
  clear hr hg hz hlen hs h
  go_enter Tryz.func4, Tryz.ntmps4
  go_wp2_with fail
  refine R1.out.mono ?_
  rintro e w1 ⟨A5, c5, rfl, o5, b1⟩
  have B1 := Lib.hid (bal b1 (.cells #[.int .i8 q.kd, .int .i64 q.tid, .int .i64 q.tm, .int .i64 q.pid, .int .i64 q.ep, .int .i64 q.part, .int .i64 q.grp, .int .i64 q.off, .int .i64 q.most, .bool q.yes, .int .i64 q.b.pid, .int .i64 q.b.ep, .int .i64 q.b.seq, .bool q.b.txn, .slice A5 q.b.rs.length c5] 27))
  have K1 := Lib.hid (blk_new w1 27 #[.int .i8 q.kd, .int .i64 q.tid, .int .i64 q.tm, .int .i64 q.pid, .int .i64 q.ep, .int .i64 q.part, .int .i64 q.grp, .int .i64 q.off, .int .i64 q.most, .bool q.yes, .int .i64 q.b.pid, .int .i64 q.b.ep, .int .i64 q.b.seq, .bool q.b.txn, .slice A5 q.b.rs.length c5] rfl)
  have X1 := Lib.hid ((Reads.of_own o5).alloc (Nat.le_refl _) (.cells #[.int .i8 q.kd, .int .i64 q.tid, .int .i64 q.tm, .int .i64 q.pid, .int .i64 q.ep, .int .i64 q.part, .int .i64 q.grp, .int .i64 q.off, .int .i64 q.most, .bool q.yes, .int .i64 q.b.pid, .int .i64 q.b.ep, .int .i64 q.b.seq, .bool q.b.txn, .slice A5 q.b.rs.length c5] 27))
  clear b1 o5
  go_wp2_with fail
  refine (R2.out _ B1.out).mono ?_
  rintro e w2 ⟨A6, c6, rfl, o6, b2⟩
  have B2 := Lib.hid (bal (btrans B1.out b2) (.cells #[.int .i8 q.kd, .int .i64 q.tid, .int .i64 q.tm, .int .i64 q.pid, .int .i64 q.ep, .int .i64 q.part, .int .i64 q.grp, .int .i64 q.off, .int .i64 q.most, .bool q.yes, .int .i64 q.b.pid, .int .i64 q.b.ep, .int .i64 q.b.seq, .bool q.b.txn, .slice A6 q.b.rs.length c6] 27))
  have KX := Lib.hid ((K1.out.below b2 K1.out.lt).alloc (.cells #[.int .i8 q.kd, .int .i64 q.tid, .int .i64 q.tm, .int .i64 q.pid, .int .i64 q.ep, .int .i64 q.part, .int .i64 q.grp, .int .i64 q.off, .int .i64 q.most, .bool q.yes, .int .i64 q.b.pid, .int .i64 q.b.ep, .int .i64 q.b.seq, .bool q.b.txn, .slice A6 q.b.rs.length c6] 27))
  have KY := Lib.hid (blk_new w2 27 #[.int .i8 q.kd, .int .i64 q.tid, .int .i64 q.tm, .int .i64 q.pid, .int .i64 q.ep, .int .i64 q.part, .int .i64 q.grp, .int .i64 q.off, .int .i64 q.most, .bool q.yes, .int .i64 q.b.pid, .int .i64 q.b.ep, .int .i64 q.b.seq, .bool q.b.txn, .slice A6 q.b.rs.length c6] rfl)
  have hs2 := b2.size
  have X2 := Lib.hid ((((X1.out.more (by simp)).below b2).more hs2).alloc (Nat.le_refl _) (.cells #[.int .i8 q.kd, .int .i64 q.tid, .int .i64 q.tm, .int .i64 q.pid, .int .i64 q.ep, .int .i64 q.part, .int .i64 q.grp, .int .i64 q.off, .int .i64 q.most, .bool q.yes, .int .i64 q.b.pid, .int .i64 q.b.ep, .int .i64 q.b.seq, .bool q.b.txn, .slice A6 q.b.rs.length c6] 27))
  have Y2 := Lib.hid ((Reads.of_own o6).alloc (Nat.le_refl _) (.cells #[.int .i8 q.kd, .int .i64 q.tid, .int .i64 q.tm, .int .i64 q.pid, .int .i64 q.ep, .int .i64 q.part, .int .i64 q.grp, .int .i64 q.off, .int .i64 q.most, .bool q.yes, .int .i64 q.b.pid, .int .i64 q.b.ep, .int .i64 q.b.seq, .bool q.b.txn, .slice A6 q.b.rs.length c6] 27))
  clear b2 o6 hs2
  have x0 := KX.out.cell 0
  have x1 := KX.out.cell 1
  have x2 := KX.out.cell 2
  have x3 := KX.out.cell 3
  have x4 := KX.out.cell 4
  have x5 := KX.out.cell 5
  have x6 := KX.out.cell 6
  have x7 := KX.out.cell 7
  have x8 := KX.out.cell 8
  have x9 := KX.out.cell 9
  have x10 := KX.out.cell 10
  have x11 := KX.out.cell 11
  have x12 := KX.out.cell 12
  have x13 := KX.out.cell 13
  have x14 := KX.out.cell 14
  have y0 := KY.out.cell 0
  have y1 := KY.out.cell 1
  have y2 := KY.out.cell 2
  have y3 := KY.out.cell 3
  have y4 := KY.out.cell 4
  have y5 := KY.out.cell 5
  have y6 := KY.out.cell 6
  have y7 := KY.out.cell 7
  have y8 := KY.out.cell 8
  have y9 := KY.out.cell 9
  have y10 := KY.out.cell 10
  have y11 := KY.out.cell 11
  have y12 := KY.out.cell 12
  have y13 := KY.out.cell 13
  have y14 := KY.out.cell 14
  go_wp2_with fail
  refine (SM.out _ A5 A6 c5 c6 (X2.out.more (by simp)) (Y2.out.more (by simp))).mono ?_
  rintro e w3 ⟨rfl, b3⟩
  have B3 := Lib.hid (btrans B2.out b3)
  clear b3 x0 x1 x2 x3 x4 x5 x6 x7 x8 x9 x10 x11 x12 x13 x14 y0 y1 y2 y3 y4 y5 y6 y7 y8 y9 y10 y11 y12 y13 y14
  go_wp2_with fail
  refine (WK.out _ B3.out).mono ?_
  rintro e w4 ⟨rfl, b4⟩
  go_wp2_with fail
  go_ret
  exact ⟨rfl, btrans B3.out b4⟩
theorem rq8reads_walk (A : Option Addr) (l : List UInt8) (c : Nat) (w : World) (hr : Reads w w.heap.size 1 A l.length (cellsB l)) (hg : HasET w) :
    Calls Tryz.prog 4 #[.slice A l.length c] w fun e w' => e = .returned (.bool true) ∧ Below w.heap.size w w' := by
  by_cases h : 4000 < l.length
  · exact rq8reads_big A l c w hg h
  · exact rq8reads_ok A l c w hr hg (by omega)
end Go.Proofs.YtcockikekgmfkaaGreatDoor
namespace Go.Proofs.YtcockikekgmfkaaGreatDoor.requestReads
open Go.ChangeShapes Go.WideShapes Go.ChangeAt Go.RowKit
open Go.ChangeMaps (open_string shut_string)
set_option linter.unusedVariables false

theorem laid_met (os : Os) : laidMetH Tryz.prog Rows.requestReadsRow.laid ((laidWorld os).forCall (fun _ _ => 0) ⟨#[], #[.slice none 0 0], []⟩).memory :=
  laidMetH_of_parts (laidMet_nil _ _) (by kernel_rfl)
theorem reads (os : Os) {H : Type} (enc : TypeId × Value → H) : ∃ places, DataW.whole enc Tryz.prog ((laidWorld os).forCall (fun _ _ => 0) ⟨#[], #[.slice none 0 0], []⟩).memory Tryz.f4.params.toList Rows.requestReadsSpec.vars false (#[.slice none 0 0] : Array Value).toList 8 = some ([.nil], [], places) :=
  ⟨[], by kernel_rfl⟩

set_option maxRecDepth 100000 in
theorem lifted (os : Os) (started : os.Started) (H : Type) (enc : TypeId × Value → H) (F : Stop.Interp) :
    ReturnsInHanded {} Tryz.checked os 4 .any ((OpenSpec.ofChange Rows.requestReadsSpec).preRow enc Tryz.prog Tryz.f4 Rows.requestReadsRow.domain false Rows.requestReadsRow.laid) (((OpenSpec.ofChange Rows.requestReadsSpec).at F).post enc Tryz.prog Tryz.f4 false true false false) := by
  obtain ⟨places, hx⟩ := reads os enc
  refine returnsInHanded_of_row (C := Tryz.checked) (s := OpenSpec.ofChange Rows.requestReadsSpec) own started (by kernel_rfl) Tryz.func4
    (witness_row_at (enc := enc) (C := Tryz.checked) false (laidWorld os) #[.slice none 0 0] rfl (by kernel_rfl) (by kernel_rfl) (by kernel_rfl)
      (OpenSpec.preRow_of_cond 8 hx (by kernel_rfl) (fun k hk => by cases hk) (by kernel_rfl) (laid_met os))) ?_
  intro W base args ds gs before hval0 hW _ _ hsz0 hL _ _
  have hg : HasET W := hasErr_of_laid hL
  have hval : ∀ (j : Nat) t v, Tryz.f4.params[j]? = some t → args[j]? = some v → Value.okWide Tryz.prog W .any base t v := hval0
  have hsz : (DataW.weightsEach Tryz.prog (Tryz.f4.params.toList ++ Rows.requestReadsSpec.plain.varTypes Tryz.prog) (ds ++ gs)).all (· ≤ reachBytes) = true := hsz0
  have hW' := hW
  obtain ⟨p, q, hA0, hV, rfl, hfz, hnd⟩ := hW
  have hA : DataW.TrodAll enc Tryz.prog W 0 (fun _ => true) true Tryz.f4.params.toList args.toList ds p := hA0
  rw [Tryz.params4] at hA hval hsz
  obtain ⟨v0, vs0, d0, ds0, p0, q0, hargs, rfl, rfl, h0, r0⟩ := trodAll_cons hA
  obtain ⟨rfl, rfl, rfl⟩ := trodAll_nil r0
  obtain rfl : args = #[v0] := by cases args; simp_all
  obtain ⟨rfl, rfl⟩ := trodVars_none hV
  have k0 := h0
  have lt0 : ∀ x ∈ p0, x.block < W.heap.size := by obtain ⟨m, hm⟩ := k0; exact DataW.trod_lt m _ _ _ hm
  obtain ⟨A0, n0, c0, zs0, rfl, l0, b0, rd0, s0⟩ := open_ints_arg 1 Tryz.underlying30 Tryz.underlying5 (by kernel_rfl) (by kernel_rfl) (hval 0 30 v0 rfl rfl) h0 (weights_of hsz (j := 0) rfl rfl)
  obtain ⟨lb0, rfl, rb0⟩ := bytes_of_ints rd0 s0
  clear hA0 hval0 hsz0
  refine (rq8reads_walk A0 lb0 c0 W rb0 hg).mono fun e W' ⟨he, bel⟩ => ?_
  subst he
  exact ⟨_, rfl, _, _, _, [], _, [], hW', trodAll_mk1 (shut_bool Tryz.underlying4 _), (trodAll_cons_mk (Below.trod laidOut (by kernel_rfl) (of_decide_eq_true (by kernel_rfl)) k0 bel lt0) trodAll_mk0), rfl, bel.frame _, fun h => by cases h⟩

theorem said : Rows.RequestReadsSaid :=
  OpenClaim.holds_of_cond 4 Tryz.f4 rfl rfl rfl rfl rfl rfl rfl ⟨rfl, rfl, rfl, rfl, rfl⟩ rfl rfl rfl rfl rfl (by kernel_rfl) Tryz.func4 (by kernel_rfl)
    (of_decide_eq_true (by kernel_rfl)) (by unfold Func.isWrapper; first | (rw [if_pos (by decide +kernel)]; kernel_rfl) | (rw [if_neg (by decide +kernel)]; exact ⟨rfl, rfl⟩))
    (fun os started H enc _ F => by rw [OpenClaim.pre_eq_preRow]; exact lifted os started H enc F)

theorem plain (f : FuncId) (fn : Func) (hf : Tryz.pinned.checked.prog.funcNamed "roving/rovinglaw08.RequestReads" = some f) (hfn : Tryz.pinned.checked.prog.funcs[f]? = some fn) :
    true = Tryz.pinned.checked.prog.looks [] ∧ ∀ (j : Nat) t, fn.params[j]? = some t → Tryz.pinned.checked.prog.wantsStandIn t = false := by
  obtain rfl : f = 4 := Option.some.inj ((show Tryz.prog.funcNamed "roving/rovinglaw08.RequestReads" = some 4 by kernel_rfl).symm.trans hf) |>.symm
  obtain rfl : fn = Tryz.f4 := (Option.some.inj (Tryz.func4.symm.trans hfn)).symm
  refine ⟨by kernel_rfl, fun j t ht => ?_⟩
  rw [Tryz.params4] at ht
  have hm : t = 30 := by simpa using Array.mem_of_getElem? ht
  subst hm; exact (show Tryz.prog.wantsStandIn _ = false by kernel_rfl)

/-- THE CARD. -/
theorem card : Rows.RequestReadsCardSaid :=
  Claim7.holds_tied_plain_at .later [] _ _ _ _ said (fun _ h => by cases h) (by kernel_rfl) (fun _ h => by cases h) requestReads_row_tie rfl ⟨rfl, rfl⟩ (by kernel_rfl) rfl plain (by kernel_rfl)
end Go.Proofs.YtcockikekgmfkaaGreatDoor.requestReads
