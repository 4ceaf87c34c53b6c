/-
  Layer 7, the document's: Read of entries.
-/
import Derived.Test.YtckdecodpjfcnaaGreatDoorEnRowsProofP18
set_option linter.unusedVariables false
set_option linter.unusedSimpArgs false
namespace Go.Proofs.YtckdecodpjfcnaaGreatDoor
open Go.RowKit

/-- Reading, in the document's words: what is read so far; where the reader is. -/
def FrSt (W0 : World) (B g X : Nat) (s : ByteArray) (i : Nat) (b : Bool) (x : En) (W : World) : Prop :=
  ∃ A5 D5 c5 e5, Blk W X 32 #[.int .i8 x.kd, .int .i64 x.b.pid, .int .i64 x.b.ep, .int .i64 x.b.seq, .bool x.b.txn, .slice A5 x.b.rs.length c5, .bool x.yes, .int .i64 x.nx, .int .i64 x.off, .int .i64 x.row.1, .int .i64 x.row.2.1, .int .i64 x.row.2.2.1, .string x.row.2.2.2.1, .string x.row.2.2.2.2, .int .i64 x.prod.pid, .int .i64 x.prod.ep, .int .i64 x.prod.nx, .slice D5 x.prod.seen.length e5] ∧ RrOk B W g s i b ∧ B ≤ X ∧ W.ownsRow (X + 1) 60 2 (.slice A5 x.b.rs.length c5) x.b.rs.length (cellsR x.b.rs) ∧ W.ownsRow (X + 1) 73 3 (.slice D5 x.prod.seen.length e5) x.prod.seen.length (cellsN x.prod.seen) ∧ Goes B g W0 W ∧ (x.kd = 6 → A5 = none ∧ c5 = 0)
section
variable {B g X i j : Nat} {b b' : Bool} {s : ByteArray} {x : En} {W0 W W' : World}
theorem FrSt.next (h : FrSt W0 B g X s i b x W) (k : RrOk B W' g s j b') (o : Only (fun y => y = g) W W') : FrSt W0 B g X s j b' x W' := by
  obtain ⟨A5, D5, c5, e5, h1, h2, h3, h4, h5, h6, h7⟩ := h
  have := h2.2.2.2.1
  exact ⟨A5, D5, c5, e5, o.blk h1 (by omega), k, h3, o.own h4 (fun y hy e => by omega), o.own h5 (fun y hy e => by omega), h6.only o, h7⟩
theorem FrSt.put (h : FrSt W0 B g X s i b x W) (x' : En) (o : Nat) (v : Value) (hr : x'.b.rs = x.b.rs) (hs : x'.prod.seen = x.prod.seen) (hd : x'.kd = x.kd) (hc : ∀ (A5 D5 : Option Addr) (c5 e5 : Nat), (#[.int .i8 x'.kd, .int .i64 x'.b.pid, .int .i64 x'.b.ep, .int .i64 x'.b.seq, .bool x'.b.txn, .slice A5 x'.b.rs.length c5, .bool x'.yes, .int .i64 x'.nx, .int .i64 x'.off, .int .i64 x'.row.1, .int .i64 x'.row.2.1, .int .i64 x'.row.2.2.1, .string x'.row.2.2.2.1, .string x'.row.2.2.2.2, .int .i64 x'.prod.pid, .int .i64 x'.prod.ep, .int .i64 x'.prod.nx, .slice D5 x'.prod.seen.length e5] : Array Value) = (#[.int .i8 x.kd, .int .i64 x.b.pid, .int .i64 x.b.ep, .int .i64 x.b.seq, .bool x.b.txn, .slice A5 x.b.rs.length c5, .bool x.yes, .int .i64 x.nx, .int .i64 x.off, .int .i64 x.row.1, .int .i64 x.row.2.1, .int .i64 x.row.2.2.1, .string x.row.2.2.2.1, .string x.row.2.2.2.2, .int .i64 x.prod.pid, .int .i64 x.prod.ep, .int .i64 x.prod.nx, .slice D5 x.prod.seen.length e5] : Array Value).setIfInBounds o v) : FrSt W0 B g X s i b x' (W.setCell ⟨X, o, none⟩ v) := by
  obtain ⟨A5, D5, c5, e5, h1, h2, h3, h4, h5, h6, h7⟩ := h
  refine ⟨A5, D5, c5, e5, ?_, h2.set h3 v, h3, ?_, ?_, h6.set h3 v, by rw [hd]; exact h7⟩
  · rw [hc]; exact h1.set_ o v
  · rw [hr]; exact own_set h4 (Nat.lt_succ_self _) v
  · rw [hs]; exact own_set h5 (Nat.lt_succ_self _) v
theorem rrok_up (h : RrOk B W g s i b) : RrOk W.heap.size W g s i b :=
  ⟨h.1, h.2.1, h.2.2.1, by have := h.2.2.2.1; have := h.2.2.2.2; omega, Nat.le_refl _⟩
end
theorem store_str7 {W : World} {a : Addr} {u : Value} (k : ByteArray) (h : W.cell? a = some u) (hf : W.frozen? a = false) : (storeVar 9 a (.string k)).run Tryz.prog W = .ok () (W.setCell a (.string k)) := by
  simp [go_sem, h, hf]
theorem store_sl7 {W : World} {a : Addr} {u : Value} (A : Option Addr) (n c : Nat) (h : W.cell? a = some u) (hf : W.frozen? a = false) : (storeVar 28 a (.slice A n c)).run Tryz.prog W = .ok () (W.setCell a (.slice A n c)) := by
  simp [go_sem, h, hf]
/-- A batch that was read, put into an entry. -/
theorem FrSt.batch {W0 W W' : World} {B g X i j : Nat} {b b' : Bool} {s : ByteArray} {kd : Int} (hkd : kd ≠ 6) (bt : Bat) (A5 : Option Addr) (c5 : Nat) (h : FrSt W0 B g X s i b (baseEn kd) W) (ow : W'.ownsRow W.heap.size 60 2 (.slice A5 bt.rs.length c5) bt.rs.length (cellsR bt.rs)) (rb : RdR W' g s j b') (hj : j ≤ s.size) (o1 : Only (fun y => y = g) W W') :
    ∃ W2, (storeVar 25 ⟨X, 1, none⟩ (.agg #[.int .i64 bt.pid, .int .i64 bt.ep, .int .i64 bt.seq, .bool bt.txn, .slice A5 bt.rs.length c5])).run Tryz.prog W' = .ok () W2 ∧ FrSt W0 B g X s j b' { baseEn kd with b := bt } W2 := by
  obtain ⟨A7, D7, c7, e7, h1, h2, h3, h4, h5, h6, _⟩ := h
  have hg := h2.2.2.2.1
  have k1 := o1.blk h1 (by omega)
  obtain ⟨W2, st, kw, hsz, fb, _⟩ := store_off ([Value.int .i8 kd] : List Value) [Value.int .i64 0, Value.int .i64 0, Value.int .i64 0, Value.bool false, Value.slice A7 0 c7] [Value.bool false, Value.int .i64 0, Value.int .i64 0, Value.int .i64 0, Value.int .i64 0, Value.int .i64 0, Value.string ⟨#[]⟩, Value.string ⟨#[]⟩, Value.int .i64 0, Value.int .i64 0, Value.int .i64 0, Value.slice D7 0 e7] 25 (#[.int .i64 bt.pid, .int .i64 bt.ep, .int .i64 bt.seq, .bool bt.txn, .slice A5 bt.rs.length c5] : Array Value) k1 rfl (by kernel_rfl) (by simp [Value.oneCell'])
  have hX : X < W.heap.size := h1.lt
  have hlt : ∀ y, (Value.slice A5 bt.rs.length c5).ownBlock = some y → X < y := fun y hy => by have := (ow.lt y hy).1; omega
  have hkeep : ∀ k, k ≠ X → W2.heap[k]? = W'.heap[k]? := by
    have e := run_storeVar_mid (P := Tryz.prog) W' X 1 25 (#[.int .i64 bt.pid, .int .i64 bt.ep, .int .i64 bt.seq, .bool bt.txn, .slice A5 bt.rs.length c5] : Array Value) (blk_there_off k1 1 5 (by simp)) (by kernel_rfl) (by simp [Value.oneCell'])
    have st' : (storeVar 25 ⟨X, 1, none⟩ (.agg #[.int .i64 bt.pid, .int .i64 bt.ep, .int .i64 bt.seq, .bool bt.txn, .slice A5 bt.rs.length c5])).run Tryz.prog W' = .ok () W2 := st
    rw [st'] at e
    injection e with _ e2
    rw [e2]
    exact fun k hk => heap_setCells X _ _ _ k hk
  have h5' := own_keepN (o1.own h5 (fun y hy e => by omega)) (fun y hy => hkeep y (by have := (h5.lt y hy).1; omega))
  have ow2 := own_base (own_keepN ow (fun y hy => hkeep y (by have := hlt y hy; omega))) (show X + 1 ≤ W.heap.size by omega)
  exact ⟨W2, st, A5, D7, c5, e7, kw, (h2.next rb o1 hj).below (fb B W' h3 (Below.refl _ _)), h3, ow2, h5', (h6.only o1).below (fb B W' h3 (Below.refl _ _)), fun e => absurd e hkd⟩
section
attribute [-go_sem] loadCells storeVar
set_option maxRecDepth 100000 in
set_option maxHeartbeats 1000000 in
theorem rerread_ret (x : En) (A5 D5 : Option Addr) (c5 e5 : Nat) (n : Int) (tmps : Array Value) (b : Nat) (W : World) (h2 : tmps[2]?.getD undef = .pointer (some ⟨b, 0, none⟩)) (h3 : tmps[3]?.getD undef = .int .i64 n) (hK : Blk W b 32 #[.int .i8 x.kd, .int .i64 x.b.pid, .int .i64 x.b.ep, .int .i64 x.b.seq, .bool x.b.txn, .slice A5 x.b.rs.length c5, .bool x.yes, .int .i64 x.nx, .int .i64 x.off, .int .i64 x.row.1, .int .i64 x.row.2.1, .int .i64 x.row.2.2.1, .string x.row.2.2.2.1, .string x.row.2.2.2.2, .int .i64 x.prod.pid, .int .i64 x.prod.ep, .int .i64 x.prod.nx, .slice D5 x.prod.seen.length e5]) :
    (results Tryz.f22 tmps).run Tryz.prog W = .ok (.tuple #[(.agg #[.int .i8 x.kd, .int .i64 x.b.pid, .int .i64 x.b.ep, .int .i64 x.b.seq, .bool x.b.txn, .slice A5 x.b.rs.length c5, .bool x.yes, .int .i64 x.nx, .int .i64 x.off, .int .i64 x.row.1, .int .i64 x.row.2.1, .int .i64 x.row.2.2.1, .string x.row.2.2.2.1, .string x.row.2.2.2.2, .int .i64 x.prod.pid, .int .i64 x.prod.ep, .int .i64 x.prod.nx, .slice D5 x.prod.seen.length e5]), .int .i64 n]) W := by
  have LC := cells_blk hK rfl
  clear hK
  simp [results, Tryz.results22, go_sem, h2, h3, LC]
set_option maxRecDepth 100000 in
set_option maxHeartbeats 8000000 in
theorem rEnRead_0 (s : ByteArray) (w : World) (hl : s.size ≤ 100000) (kd : Int) (hk : kd = 0) (j1 : Nat) (b1 : Bool) (hz1 : rdNum (lb s) 0 false 0 127 = (kd, j1, b1)) :
    Calls Tryz.prog 22 #[.string s] w (ErRn (readE 0 1048576 127 (lb s)).1 (readE 0 1048576 127 (lb s)).2 w) := by
  obtain ⟨bt, jb, bb', hb⟩ : ∃ v j c, rdBat (lb s) j1 b1 = (v, j, c) := ⟨_, _, _, rfl⟩
  have HZB := Lib.hid hb
  have HKD := Lib.hid hk
  obtain ⟨q, hq⟩ : ∃ q, q = enOf kd (bt, false, 0, 0, Rw0, Pd0) := ⟨_, rfl⟩
  have hzE : rdE 0 1048576 kd (lb s) j1 b1 = ((bt, false, 0, 0, Rw0, Pd0), jb, bb') := by
    rw [hk]; show rdE0 (lb s) j1 b1 = _; simp only [rdE0, rdMap, hb]
  have hraw : readE 0 1048576 127 (lb s) = if bb' = true ∨ jb ≠ (lb s).length ∨ mayEn q = false then (En0, 70) else (q, 0) := by
    unfold readE
    have hz1' : rdNum (lb s) 0 false 0 ((127 : Nat) : Int) = (kd, j1, b1) := hz1
    have e : rdEn 0 1048576 127 (lb s) 0 false = (q, jb, bb') := by simp only [rdEn, rdMap, rdBind, hz1', hzE, hq]
    rw [e]
  have hlen := rdE_len 0 1048576 kd (lb s) j1 b1
  rw [hzE] at hlen
  have hqr : q.b.rs.length ≤ 4 ∧ q.prod.seen.length ≤ 3 := by rw [hq]; exact hlen
  have hkd : 0 ≤ kd ∧ kd ≤ 127 := by rcases rdNum_rng hz1 with h | h <;> omega
  have cc0 : (kd == 0) = true := by rw [hk]; rfl
  have cc1 : (kd == 1) = false := by rw [hk]; rfl
  have cc2 : (kd == 2) = false := by rw [hk]; rfl
  have cc3 : (kd == 3) = false := by rw [hk]; rfl
  have cc4 : (kd == 4) = false := by rw [hk]; rfl
  have cc5 : (kd == 5) = false := by rw [hk]; rfl
  have cc6 : (kd == 6) = false := by rw [hk]; rfl
  obtain ⟨W0, hW0⟩ : ∃ W0, W0 = (w.alloc (.cells #[.int .i8 0, .int .i64 0, .int .i64 0, .int .i64 0, .bool false, .slice none 0 0, .bool false, .int .i64 0, .int .i64 0, .int .i64 0, .int .i64 0, .int .i64 0, .string ⟨#[]⟩, .string ⟨#[]⟩, .int .i64 0, .int .i64 0, .int .i64 0, .slice none 0 0] 32)).alloc (.cells #[.string s, .int .i64 0, .bool false] 118) := ⟨_, rfl⟩
  have hs0 : W0.heap.size = w.heap.size + 1 + 1 := by rw [hW0]; simp
  have B0 : Below w.heap.size w W0 := by rw [hW0]; exact bal (bal (Below.refl _ _) _) _
  have K0 : Blk W0 w.heap.size 32 ezero := by rw [hW0]; exact (blk_new w _ _ rfl).alloc _
  have KR : RdR W0 (w.heap.size + 1) s 0 false := by rw [hW0]; exact blk_new _ _ _ (by simp)
  have RK : RrOk W0.heap.size W0 (w.heap.size + 1) s 0 false := ⟨KR, Nat.zero_le _, by omega, by omega, Nat.le_refl _⟩
  have N1 := Lib.hid (rRNum_z hz1 RK)
  have HR := Lib.hid hraw
  have HW := Lib.hid hW0
  have HB0 := Lib.hid B0
  have HK0 := Lib.hid K0
  have HQ := Lib.hid hq
  have HS0 := Lib.hid hs0
  have cv : IntKind.i8.wrap kd = kd := IntWalk.i8_in _ (by omega)
  clear hraw hz1 B0 K0 KR RK hW0 hq hk hlen hkd hzE hs0 hl
  go_enter Tryz.func22, Tryz.ntmps22
  go_wp2_with fail
  refine (rRNew_any s _).mono ?_
  rintro e w1 ⟨rfl, rfl⟩
  go_upto_region 2 with (fail)
  rw [← HW.out]
  go_wp2_with fail
  refine N1.out.mono ?_
  rintro e w1 ⟨rfl, r1, o1⟩
  obtain ⟨W2, st, kx, bb⟩ := fresh_en w1 #[.int .i8 kd, .int .i64 0, .int .i64 0, .int .i64 0, .bool false, .slice none 0 0, .bool false, .int .i64 0, .int .i64 0, .int .i64 0, .int .i64 0, .int .i64 0, .string ⟨#[]⟩, .string ⟨#[]⟩, .int .i64 0, .int .i64 0, .int .i64 0, .slice none 0 0] rfl (by simp [Value.oneCell'])
  have S2 := Lib.hid (show FrSt W0 W0.heap.size (w.heap.size + 1) w1.heap.size s j1 b1 (baseEn kd) W2 from ⟨none, none, 0, 0, kx, r1.below (bb.mono o1.size), o1.size, World.ownsRow_nil _ _ _ _, World.ownsRow_nil _ _ _ _, ((Goes.refl (show w.heap.size + 1 < W0.heap.size by have := HS0.out; omega)).only o1).below (bb.mono o1.size), fun _ => ⟨rfl, rfl⟩⟩)
  have x0 := kx.cell 0
  have ST := Lib.hid st
  clear r1 o1 kx bb st
  have st : (storeVar 32 ⟨w1.heap.size, 0, none⟩ (.agg #[.int .i8 kd, .int .i64 0, .int .i64 0, .int .i64 0, .bool false, .slice none 0 0, .bool false, .int .i64 0, .int .i64 0, .int .i64 0, .int .i64 0, .int .i64 0, .string ⟨#[]⟩, .string ⟨#[]⟩, .int .i64 0, .int .i64 0, .int .i64 0, .slice none 0 0])).run Tryz.prog _ = .ok () W2 := ST.out
  go_upto_region 3 with (fail)
  clear st ST
  clear hb
  obtain ⟨A2', D2', c2', e2', k2, r2, _⟩ := S2.out
  have hj : jb ≤ s.size := by
    have := fol_bat.le (lb s) j1 b1 (by rw [length_lb]; exact r2.2.1)
    rw [HZB.out, length_lb] at this
    exact this
  have tk := rTake_any (w.heap.size + 1) s j1 b1 W2 (rrok_up r2)
  rw [HZB.out] at tk
  have TK := Lib.hid tk
  have HJ := Lib.hid hj
  clear k2 r2 hj tk
  go_wp2_with fail
  refine TK.out.mono ?_
  rintro e w3 ⟨A5, c5, rfl, ow, _, rb, o1⟩
  obtain ⟨V3, st, s3⟩ := S2.out.batch (by have := HKD.out; omega) bt A5 c5 ow rb HJ.out o1
  have S3 := Lib.hid s3
  clear ow rb o1 s3 x0 TK
  go_upto_region 38 with (fail)
  clear st
  obtain ⟨A9, D9, c9, e9, k4, r4, _, ow1, ow2, gg, _⟩ := S3.out
  have E1 := Lib.hid (rREnd_any (w.heap.size + 1) s jb bb' V3 r4.1)
  have K4 := Lib.hid (show Blk V3 w1.heap.size 32 #[.int .i8 q.kd, .int .i64 q.b.pid, .int .i64 q.b.ep, .int .i64 q.b.seq, .bool q.b.txn, .slice A9 q.b.rs.length c9, .bool q.yes, .int .i64 q.nx, .int .i64 q.off, .int .i64 q.row.1, .int .i64 q.row.2.1, .int .i64 q.row.2.2.1, .string q.row.2.2.2.1, .string q.row.2.2.2.2, .int .i64 q.prod.pid, .int .i64 q.prod.ep, .int .i64 q.prod.nx, .slice D9 q.prod.seen.length e9] by rw [HQ.out]; exact k4)
  have OW1 := Lib.hid (show World.ownsRow V3 (w1.heap.size + 1) 60 2 (.slice A9 q.b.rs.length c9) q.b.rs.length (cellsR q.b.rs) by rw [HQ.out]; exact ow1)
  have OW2 := Lib.hid (show World.ownsRow V3 (w1.heap.size + 1) 73 3 (.slice D9 q.prod.seen.length e9) q.prod.seen.length (cellsN q.prod.seen) by rw [HQ.out]; exact ow2)
  have KT := Lib.hid (gg.1.blk HK0.out (by omega))
  have BE := Lib.hid (HB0.out.trans (gg.1.below HB0.out.size (fun x hx => by omega)))
  have HX := Lib.hid (show w.heap.size < w1.heap.size by have := k4.lt; have := HS0.out; have := S2.out.choose_spec.choose_spec.choose_spec.choose_spec.2.2.1; omega)
  clear k4 r4 ow1 ow2 gg HQ
  by_cases hE : bb' = true ∨ jb ≠ s.size
  · have he : endOf s.size jb bb' = 70 := by unfold endOf; rw [if_pos hE]
    rw [he] at E1
    have HRR := Lib.hid (show readE 0 1048576 127 (lb s) = (En0, 70) by
      rw [HR.out, length_lb]
      rcases hE with h | h
      · rw [if_pos (.inl h)]
      · rw [if_pos (.inr (.inl h))])
    clear hE he
    go_wp2_with fail
    refine E1.out.mono ?_
    rintro e w5 ⟨rfl, n5, rfl⟩
    obtain ⟨W', st, kw, hsz, fb, fk⟩ := store_blk (cs := ezero) (KT.out.drewN n5) rfl rfl (by simp [Value.oneCell'])
    have BW := Lib.hid (fb _ w (Nat.le_refl _) (below_drewN BE.out n5))
    have KW := Lib.hid kw
    clear kw hsz fb fk
    go_wp2_with fail
    refine bodyPost_ret (v := .tuple #[(.agg #[.int .i8 0, .int .i64 0, .int .i64 0, .int .i64 0, .bool false, .slice none 0 0, .bool false, .int .i64 0, .int .i64 0, .int .i64 0, .int .i64 0, .int .i64 0, .string ⟨#[]⟩, .string ⟨#[]⟩, .int .i64 0, .int .i64 0, .int .i64 0, .slice none 0 0]), .int .i64 70]) (rerread_ret En0 none none 0 0 70 _ w.heap.size _ rfl rfl KW.out) rfl ?_
    rw [HRR.out]
    exact ⟨none, none, 0, 0, rfl, ⟨Reads.none_, Reads.none_, Nat.zero_le _, Nat.zero_le _⟩, BW.out, NwE.nil⟩
  · have he : endOf s.size jb bb' = 0 := by unfold endOf; rw [if_neg hE]
    rw [he] at E1
    have HE := Lib.hid hE
    clear hE he
    go_wp2_with fail
    refine E1.out.mono ?_
    rintro e w5 ⟨rfl, n5, rfl⟩
    have LM := cells_blk (K4.out.drewN n5) rfl
    have ER5 : EnR (World.drewN V3 n5) q A9 D9 := ⟨Reads.of_own (own_below OW1.out (below_drewN (Below.refl _ _) n5)), Reads.of_own (own_below OW2.out (below_drewN (Below.refl _ _) n5)), by omega, by omega⟩
    have MY := Lib.hid (rEnMay_any q A9 D9 c9 e9 _ ER5)
    clear ER5
    cases hmy : mayEn q
    · rw [hmy] at MY
      have HRR := Lib.hid (show readE 0 1048576 127 (lb s) = (En0, 70) by rw [HR.out, if_pos (.inr (.inr hmy))])
      clear hmy
      go_wp2_with fail
      refine MY.out.mono ?_
      rintro e w6 ⟨rfl, b6⟩
      obtain ⟨W', st, kw, hsz, fb, fk⟩ := store_blk (cs := ezero) ((KT.out.drewN n5).below b6 (KT.out.drewN n5).lt) rfl rfl (by simp [Value.oneCell'])
      have BW := Lib.hid (fb _ w (Nat.le_refl _) (btrans (below_drewN BE.out n5) b6))
      have KW := Lib.hid kw
      clear kw hsz fb fk LM b6
      go_wp2_with fail
      refine bodyPost_ret (v := .tuple #[(.agg #[.int .i8 0, .int .i64 0, .int .i64 0, .int .i64 0, .bool false, .slice none 0 0, .bool false, .int .i64 0, .int .i64 0, .int .i64 0, .int .i64 0, .int .i64 0, .string ⟨#[]⟩, .string ⟨#[]⟩, .int .i64 0, .int .i64 0, .int .i64 0, .slice none 0 0]), .int .i64 70]) (rerread_ret En0 none none 0 0 70 _ w.heap.size _ rfl rfl KW.out) rfl ?_
      rw [HRR.out]
      exact ⟨none, none, 0, 0, rfl, ⟨Reads.none_, Reads.none_, Nat.zero_le _, Nat.zero_le _⟩, BW.out, NwE.nil⟩
    · rw [hmy] at MY
      have HRR := Lib.hid (show readE 0 1048576 127 (lb s) = (q, 0) by
        rw [HR.out, if_neg]
        rw [length_lb, hmy]
        rintro (h | h | h)
        · exact HE.out (.inl h)
        · exact HE.out (.inr h)
        · cases h)
      clear hmy
      go_wp2_with fail
      refine MY.out.mono ?_
      rintro e w6 ⟨rfl, b6⟩
      have LM6 := cells_blk ((K4.out.drewN n5).below b6 (K4.out.drewN n5).lt) rfl
      obtain ⟨W', st, kw, fb, fh⟩ := store_blk2 (cs := #[.int .i8 q.kd, .int .i64 q.b.pid, .int .i64 q.b.ep, .int .i64 q.b.seq, .bool q.b.txn, .slice A9 q.b.rs.length c9, .bool q.yes, .int .i64 q.nx, .int .i64 q.off, .int .i64 q.row.1, .int .i64 q.row.2.1, .int .i64 q.row.2.2.1, .string q.row.2.2.2.1, .string q.row.2.2.2.2, .int .i64 q.prod.pid, .int .i64 q.prod.ep, .int .i64 q.prod.nx, .slice D9 q.prod.seen.length e9]) ((KT.out.drewN n5).below b6 (KT.out.drewN n5).lt) rfl rfl (by simp [Value.oneCell'])
      have BW := Lib.hid (fb _ w (Nat.le_refl _) (btrans (below_drewN BE.out n5) b6))
      have p1 := own_below (own_below OW1.out (below_drewN (Below.refl _ _) n5)) b6
      have p2 := own_below (own_below OW2.out (below_drewN (Below.refl _ _) n5)) b6
      have q1 := own_keepN p1 (fun y hy => fh y (by have := (p1.lt y hy).1; have := HX.out; omega))
      have q2 := own_keepN p2 (fun y hy => fh y (by have := (p2.lt y hy).1; have := HX.out; omega))
      have NW := Lib.hid (show NwE w.heap.size A9 D9 from ⟨fun ad h => by have := (q1.lt ad.block (by rw [h]; rfl)).1; have := HX.out; omega, fun ad h => by have := (q2.lt ad.block (by rw [h]; rfl)).1; have := HX.out; omega⟩)
      have EF := Lib.hid (show EnR W' q A9 D9 from ⟨Reads.of_own q1, Reads.of_own q2, by omega, by omega⟩)
      have KW := Lib.hid kw
      clear kw fb fh LM p1 p2 q1 q2 b6
      go_wp2_with fail
      refine bodyPost_ret (v := .tuple #[(.agg #[.int .i8 q.kd, .int .i64 q.b.pid, .int .i64 q.b.ep, .int .i64 q.b.seq, .bool q.b.txn, .slice A9 q.b.rs.length c9, .bool q.yes, .int .i64 q.nx, .int .i64 q.off, .int .i64 q.row.1, .int .i64 q.row.2.1, .int .i64 q.row.2.2.1, .string q.row.2.2.2.1, .string q.row.2.2.2.2, .int .i64 q.prod.pid, .int .i64 q.prod.ep, .int .i64 q.prod.nx, .slice D9 q.prod.seen.length e9]), .int .i64 0]) (rerread_ret q A9 D9 c9 e9 0 _ w.heap.size _ rfl rfl KW.out) rfl ?_
      rw [HRR.out]
      exact ⟨A9, D9, c9, e9, rfl, EF.out, BW.out, NW.out⟩
set_option maxRecDepth 100000 in
set_option maxHeartbeats 8000000 in
theorem rEnRead_1 (s : ByteArray) (w : World) (hl : s.size ≤ 100000) (kd : Int) (hk : kd = 1) (j1 : Nat) (b1 : Bool) (hz1 : rdNum (lb s) 0 false 0 127 = (kd, j1, b1)) :
    Calls Tryz.prog 22 #[.string s] w (ErRn (readE 0 1048576 127 (lb s)).1 (readE 0 1048576 127 (lb s)).2 w) := by
  obtain ⟨p, j2, b2, h1⟩ : ∃ v j c, rdNum (lb s) j1 b1 0 8 = (v, j, c) := ⟨_, _, _, rfl⟩
  obtain ⟨p2, j3, b3, h2⟩ : ∃ v j c, rdNum (lb s) j2 b2 0 100 = (v, j, c) := ⟨_, _, _, rfl⟩
  obtain ⟨t, j4, b4, h3⟩ : ∃ v j c, rdFlag (lb s) j3 b3 = (v, j, c) := ⟨_, _, _, rfl⟩
  have HZ1 := Lib.hid h1
  have HZ2 := Lib.hid h2
  have HZ3 := Lib.hid h3
  have HKD := Lib.hid hk
  obtain ⟨q, hq⟩ : ∃ q, q = enOf kd (wh p p2, t, 0, 0, Rw0, Pd0) := ⟨_, rfl⟩
  have hzE : rdE 0 1048576 kd (lb s) j1 b1 = ((wh p p2, t, 0, 0, Rw0, Pd0), j4, b4) := by
    have h1' : rdNum (lb s) j1 b1 ((0 : Nat) : Int) 8 = (p, j2, b2) := h1
    rw [hk]; show rdE1 0 (lb s) j1 b1 = _; simp only [rdE1, rdMap, rdBind, h1', h2, h3]
  have hraw : readE 0 1048576 127 (lb s) = if b4 = true ∨ j4 ≠ (lb s).length ∨ mayEn q = false then (En0, 70) else (q, 0) := by
    unfold readE
    have hz1' : rdNum (lb s) 0 false 0 ((127 : Nat) : Int) = (kd, j1, b1) := hz1
    have e : rdEn 0 1048576 127 (lb s) 0 false = (q, j4, b4) := by simp only [rdEn, rdMap, rdBind, hz1', hzE, hq]
    rw [e]
  have hlen := rdE_len 0 1048576 kd (lb s) j1 b1
  rw [hzE] at hlen
  have hqr : q.b.rs.length ≤ 4 ∧ q.prod.seen.length ≤ 3 := by rw [hq]; exact hlen
  have hkd : 0 ≤ kd ∧ kd ≤ 127 := by rcases rdNum_rng hz1 with h | h <;> omega
  have cc0 : (kd == 0) = false := by rw [hk]; rfl
  have cc1 : (kd == 1) = true := by rw [hk]; rfl
  have cc2 : (kd == 2) = false := by rw [hk]; rfl
  have cc3 : (kd == 3) = false := by rw [hk]; rfl
  have cc4 : (kd == 4) = false := by rw [hk]; rfl
  have cc5 : (kd == 5) = false := by rw [hk]; rfl
  have cc6 : (kd == 6) = false := by rw [hk]; rfl
  obtain ⟨W0, hW0⟩ : ∃ W0, W0 = (w.alloc (.cells #[.int .i8 0, .int .i64 0, .int .i64 0, .int .i64 0, .bool false, .slice none 0 0, .bool false, .int .i64 0, .int .i64 0, .int .i64 0, .int .i64 0, .int .i64 0, .string ⟨#[]⟩, .string ⟨#[]⟩, .int .i64 0, .int .i64 0, .int .i64 0, .slice none 0 0] 32)).alloc (.cells #[.string s, .int .i64 0, .bool false] 118) := ⟨_, rfl⟩
  have hs0 : W0.heap.size = w.heap.size + 1 + 1 := by rw [hW0]; simp
  have B0 : Below w.heap.size w W0 := by rw [hW0]; exact bal (bal (Below.refl _ _) _) _
  have K0 : Blk W0 w.heap.size 32 ezero := by rw [hW0]; exact (blk_new w _ _ rfl).alloc _
  have KR : RdR W0 (w.heap.size + 1) s 0 false := by rw [hW0]; exact blk_new _ _ _ (by simp)
  have RK : RrOk W0.heap.size W0 (w.heap.size + 1) s 0 false := ⟨KR, Nat.zero_le _, by omega, by omega, Nat.le_refl _⟩
  have N1 := Lib.hid (rRNum_z hz1 RK)
  have HR := Lib.hid hraw
  have HW := Lib.hid hW0
  have HB0 := Lib.hid B0
  have HK0 := Lib.hid K0
  have HQ := Lib.hid hq
  have HS0 := Lib.hid hs0
  have cv : IntKind.i8.wrap kd = kd := IntWalk.i8_in _ (by omega)
  clear hraw hz1 B0 K0 KR RK hW0 hq hk hlen hkd hzE hs0 hl
  go_enter Tryz.func22, Tryz.ntmps22
  go_wp2_with fail
  refine (rRNew_any s _).mono ?_
  rintro e w1 ⟨rfl, rfl⟩
  go_upto_region 2 with (fail)
  rw [← HW.out]
  go_wp2_with fail
  refine N1.out.mono ?_
  rintro e w1 ⟨rfl, r1, o1⟩
  obtain ⟨W2, st, kx, bb⟩ := fresh_en w1 #[.int .i8 kd, .int .i64 0, .int .i64 0, .int .i64 0, .bool false, .slice none 0 0, .bool false, .int .i64 0, .int .i64 0, .int .i64 0, .int .i64 0, .int .i64 0, .string ⟨#[]⟩, .string ⟨#[]⟩, .int .i64 0, .int .i64 0, .int .i64 0, .slice none 0 0] rfl (by simp [Value.oneCell'])
  have S2 := Lib.hid (show FrSt W0 W0.heap.size (w.heap.size + 1) w1.heap.size s j1 b1 (baseEn kd) W2 from ⟨none, none, 0, 0, kx, r1.below (bb.mono o1.size), o1.size, World.ownsRow_nil _ _ _ _, World.ownsRow_nil _ _ _ _, ((Goes.refl (show w.heap.size + 1 < W0.heap.size by have := HS0.out; omega)).only o1).below (bb.mono o1.size), fun _ => ⟨rfl, rfl⟩⟩)
  have x0 := kx.cell 0
  have ST := Lib.hid st
  clear r1 o1 kx bb st
  have st : (storeVar 32 ⟨w1.heap.size, 0, none⟩ (.agg #[.int .i8 kd, .int .i64 0, .int .i64 0, .int .i64 0, .bool false, .slice none 0 0, .bool false, .int .i64 0, .int .i64 0, .int .i64 0, .int .i64 0, .int .i64 0, .string ⟨#[]⟩, .string ⟨#[]⟩, .int .i64 0, .int .i64 0, .int .i64 0, .slice none 0 0])).run Tryz.prog _ = .ok () W2 := ST.out
  go_upto_region 3 with (fail)
  clear st ST
  clear h1 h2 h3
  obtain ⟨A2', D2', c2', e2', k2, r2, _⟩ := S2.out
  have NN := Lib.hid (rRNum_z HZ1.out r2)
  clear k2 r2
  go_wp2_with fail
  refine NN.out.mono ?_
  rintro e w3 ⟨rfl, r, o⟩
  have T3 := Lib.hid (S2.out.next r o)
  obtain ⟨A3', D3', c3', e3', k3, _⟩ := T3.out
  have st := store_int7 p (k3.cell 1) (k3.frozen 1)
  clear k3 r o NN x0
  go_upto_region 8 with (fail)
  clear st
  have S3 := Lib.hid (T3.out.put ({ baseEn kd with b := wh p 0 }) 1 (.int .i64 p) rfl rfl rfl (fun _ _ _ _ => rfl))
  generalize w3.setCell ⟨w1.heap.size, 1, none⟩ (.int .i64 p) = V3 at *
  obtain ⟨A3', D3', c3', e3', k3, r3, _⟩ := S3.out
  have NN := Lib.hid (rRNum_z HZ2.out r3)
  clear k3 r3
  go_wp2_with fail
  refine NN.out.mono ?_
  rintro e w4 ⟨rfl, r, o⟩
  have T4 := Lib.hid (S3.out.next r o)
  obtain ⟨A4', D4', c4', e4', k4, _⟩ := T4.out
  have st := store_int7 p2 (k4.cell 2) (k4.frozen 2)
  clear k4 r o NN
  go_upto_region 9 with (fail)
  clear st
  have S4 := Lib.hid (T4.out.put ({ baseEn kd with b := wh p p2 }) 2 (.int .i64 p2) rfl rfl rfl (fun _ _ _ _ => rfl))
  generalize w4.setCell ⟨w1.heap.size, 2, none⟩ (.int .i64 p2) = V4 at *
  obtain ⟨A4', D4', c4', e4', k4, r4, _⟩ := S4.out
  have NN := Lib.hid (rRFlag_z HZ3.out r4)
  clear k4 r4
  go_wp2_with fail
  refine NN.out.mono ?_
  rintro e w5 ⟨rfl, r, o⟩
  have T5 := Lib.hid (S4.out.next r o)
  obtain ⟨A5', D5', c5', e5', k5, _⟩ := T5.out
  have st := store_bool7 t (k5.cell 6) (k5.frozen 6)
  clear k5 r o NN
  go_upto_region 38 with (fail)
  clear st
  have S5 := Lib.hid (T5.out.put ({ baseEn kd with b := wh p p2, yes := t }) 6 (.bool t) rfl rfl rfl (fun _ _ _ _ => rfl))
  generalize w5.setCell ⟨w1.heap.size, 6, none⟩ (.bool t) = V5 at *
  obtain ⟨A9, D9, c9, e9, k4, r4, _, ow1, ow2, gg, _⟩ := S5.out
  have E1 := Lib.hid (rREnd_any (w.heap.size + 1) s j4 b4 V5 r4.1)
  have K4 := Lib.hid (show Blk V5 w1.heap.size 32 #[.int .i8 q.kd, .int .i64 q.b.pid, .int .i64 q.b.ep, .int .i64 q.b.seq, .bool q.b.txn, .slice A9 q.b.rs.length c9, .bool q.yes, .int .i64 q.nx, .int .i64 q.off, .int .i64 q.row.1, .int .i64 q.row.2.1, .int .i64 q.row.2.2.1, .string q.row.2.2.2.1, .string q.row.2.2.2.2, .int .i64 q.prod.pid, .int .i64 q.prod.ep, .int .i64 q.prod.nx, .slice D9 q.prod.seen.length e9] by rw [HQ.out]; exact k4)
  have OW1 := Lib.hid (show World.ownsRow V5 (w1.heap.size + 1) 60 2 (.slice A9 q.b.rs.length c9) q.b.rs.length (cellsR q.b.rs) by rw [HQ.out]; exact ow1)
  have OW2 := Lib.hid (show World.ownsRow V5 (w1.heap.size + 1) 73 3 (.slice D9 q.prod.seen.length e9) q.prod.seen.length (cellsN q.prod.seen) by rw [HQ.out]; exact ow2)
  have KT := Lib.hid (gg.1.blk HK0.out (by omega))
  have BE := Lib.hid (HB0.out.trans (gg.1.below HB0.out.size (fun x hx => by omega)))
  have HX := Lib.hid (show w.heap.size < w1.heap.size by have := k4.lt; have := HS0.out; have := S2.out.choose_spec.choose_spec.choose_spec.choose_spec.2.2.1; omega)
  clear k4 r4 ow1 ow2 gg HQ
  by_cases hE : b4 = true ∨ j4 ≠ s.size
  · have he : endOf s.size j4 b4 = 70 := by unfold endOf; rw [if_pos hE]
    rw [he] at E1
    have HRR := Lib.hid (show readE 0 1048576 127 (lb s) = (En0, 70) by
      rw [HR.out, length_lb]
      rcases hE with h | h
      · rw [if_pos (.inl h)]
      · rw [if_pos (.inr (.inl h))])
    clear hE he
    go_wp2_with fail
    refine E1.out.mono ?_
    rintro e w5 ⟨rfl, n5, rfl⟩
    obtain ⟨W', st, kw, hsz, fb, fk⟩ := store_blk (cs := ezero) (KT.out.drewN n5) rfl rfl (by simp [Value.oneCell'])
    have BW := Lib.hid (fb _ w (Nat.le_refl _) (below_drewN BE.out n5))
    have KW := Lib.hid kw
    clear kw hsz fb fk
    go_wp2_with fail
    refine bodyPost_ret (v := .tuple #[(.agg #[.int .i8 0, .int .i64 0, .int .i64 0, .int .i64 0, .bool false, .slice none 0 0, .bool false, .int .i64 0, .int .i64 0, .int .i64 0, .int .i64 0, .int .i64 0, .string ⟨#[]⟩, .string ⟨#[]⟩, .int .i64 0, .int .i64 0, .int .i64 0, .slice none 0 0]), .int .i64 70]) (rerread_ret En0 none none 0 0 70 _ w.heap.size _ rfl rfl KW.out) rfl ?_
    rw [HRR.out]
    exact ⟨none, none, 0, 0, rfl, ⟨Reads.none_, Reads.none_, Nat.zero_le _, Nat.zero_le _⟩, BW.out, NwE.nil⟩
  · have he : endOf s.size j4 b4 = 0 := by unfold endOf; rw [if_neg hE]
    rw [he] at E1
    have HE := Lib.hid hE
    clear hE he
    go_wp2_with fail
    refine E1.out.mono ?_
    rintro e w5 ⟨rfl, n5, rfl⟩
    have LM := cells_blk (K4.out.drewN n5) rfl
    have ER5 : EnR (World.drewN V5 n5) q A9 D9 := ⟨Reads.of_own (own_below OW1.out (below_drewN (Below.refl _ _) n5)), Reads.of_own (own_below OW2.out (below_drewN (Below.refl _ _) n5)), by omega, by omega⟩
    have MY := Lib.hid (rEnMay_any q A9 D9 c9 e9 _ ER5)
    clear ER5
    cases hmy : mayEn q
    · rw [hmy] at MY
      have HRR := Lib.hid (show readE 0 1048576 127 (lb s) = (En0, 70) by rw [HR.out, if_pos (.inr (.inr hmy))])
      clear hmy
      go_wp2_with fail
      refine MY.out.mono ?_
      rintro e w6 ⟨rfl, b6⟩
      obtain ⟨W', st, kw, hsz, fb, fk⟩ := store_blk (cs := ezero) ((KT.out.drewN n5).below b6 (KT.out.drewN n5).lt) rfl rfl (by simp [Value.oneCell'])
      have BW := Lib.hid (fb _ w (Nat.le_refl _) (btrans (below_drewN BE.out n5) b6))
      have KW := Lib.hid kw
      clear kw hsz fb fk LM b6
      go_wp2_with fail
      refine bodyPost_ret (v := .tuple #[(.agg #[.int .i8 0, .int .i64 0, .int .i64 0, .int .i64 0, .bool false, .slice none 0 0, .bool false, .int .i64 0, .int .i64 0, .int .i64 0, .int .i64 0, .int .i64 0, .string ⟨#[]⟩, .string ⟨#[]⟩, .int .i64 0, .int .i64 0, .int .i64 0, .slice none 0 0]), .int .i64 70]) (rerread_ret En0 none none 0 0 70 _ w.heap.size _ rfl rfl KW.out) rfl ?_
      rw [HRR.out]
      exact ⟨none, none, 0, 0, rfl, ⟨Reads.none_, Reads.none_, Nat.zero_le _, Nat.zero_le _⟩, BW.out, NwE.nil⟩
    · rw [hmy] at MY
      have HRR := Lib.hid (show readE 0 1048576 127 (lb s) = (q, 0) by
        rw [HR.out, if_neg]
        rw [length_lb, hmy]
        rintro (h | h | h)
        · exact HE.out (.inl h)
        · exact HE.out (.inr h)
        · cases h)
      clear hmy
      go_wp2_with fail
      refine MY.out.mono ?_
      rintro e w6 ⟨rfl, b6⟩
      have LM6 := cells_blk ((K4.out.drewN n5).below b6 (K4.out.drewN n5).lt) rfl
      obtain ⟨W', st, kw, fb, fh⟩ := store_blk2 (cs := #[.int .i8 q.kd, .int .i64 q.b.pid, .int .i64 q.b.ep, .int .i64 q.b.seq, .bool q.b.txn, .slice A9 q.b.rs.length c9, .bool q.yes, .int .i64 q.nx, .int .i64 q.off, .int .i64 q.row.1, .int .i64 q.row.2.1, .int .i64 q.row.2.2.1, .string q.row.2.2.2.1, .string q.row.2.2.2.2, .int .i64 q.prod.pid, .int .i64 q.prod.ep, .int .i64 q.prod.nx, .slice D9 q.prod.seen.length e9]) ((KT.out.drewN n5).below b6 (KT.out.drewN n5).lt) rfl rfl (by simp [Value.oneCell'])
      have BW := Lib.hid (fb _ w (Nat.le_refl _) (btrans (below_drewN BE.out n5) b6))
      have p1 := own_below (own_below OW1.out (below_drewN (Below.refl _ _) n5)) b6
      have p2 := own_below (own_below OW2.out (below_drewN (Below.refl _ _) n5)) b6
      have q1 := own_keepN p1 (fun y hy => fh y (by have := (p1.lt y hy).1; have := HX.out; omega))
      have q2 := own_keepN p2 (fun y hy => fh y (by have := (p2.lt y hy).1; have := HX.out; omega))
      have NW := Lib.hid (show NwE w.heap.size A9 D9 from ⟨fun ad h => by have := (q1.lt ad.block (by rw [h]; rfl)).1; have := HX.out; omega, fun ad h => by have := (q2.lt ad.block (by rw [h]; rfl)).1; have := HX.out; omega⟩)
      have EF := Lib.hid (show EnR W' q A9 D9 from ⟨Reads.of_own q1, Reads.of_own q2, by omega, by omega⟩)
      have KW := Lib.hid kw
      clear kw fb fh LM p1 p2 q1 q2 b6
      go_wp2_with fail
      refine bodyPost_ret (v := .tuple #[(.agg #[.int .i8 q.kd, .int .i64 q.b.pid, .int .i64 q.b.ep, .int .i64 q.b.seq, .bool q.b.txn, .slice A9 q.b.rs.length c9, .bool q.yes, .int .i64 q.nx, .int .i64 q.off, .int .i64 q.row.1, .int .i64 q.row.2.1, .int .i64 q.row.2.2.1, .string q.row.2.2.2.1, .string q.row.2.2.2.2, .int .i64 q.prod.pid, .int .i64 q.prod.ep, .int .i64 q.prod.nx, .slice D9 q.prod.seen.length e9]), .int .i64 0]) (rerread_ret q A9 D9 c9 e9 0 _ w.heap.size _ rfl rfl KW.out) rfl ?_
      rw [HRR.out]
      exact ⟨A9, D9, c9, e9, rfl, EF.out, BW.out, NW.out⟩
set_option maxRecDepth 100000 in
set_option maxHeartbeats 8000000 in
theorem rEnRead_2 (s : ByteArray) (w : World) (hl : s.size ≤ 100000) (kd : Int) (hk : kd = 2) (j1 : Nat) (b1 : Bool) (hz1 : rdNum (lb s) 0 false 0 127 = (kd, j1, b1)) :
    Calls Tryz.prog 22 #[.string s] w (ErRn (readE 0 1048576 127 (lb s)).1 (readE 0 1048576 127 (lb s)).2 w) := by
  obtain ⟨v, j2, b2, h1⟩ : ∃ v j c, rdNum (lb s) j1 b1 0 1048576 = (v, j, c) := ⟨_, _, _, rfl⟩
  have HZ1 := Lib.hid h1
  have HKD := Lib.hid hk
  obtain ⟨q, hq⟩ : ∃ q, q = enOf kd (Bat0, false, 0, v, Rw0, Pd0) := ⟨_, rfl⟩
  have hzE : rdE 0 1048576 kd (lb s) j1 b1 = ((Bat0, false, 0, v, Rw0, Pd0), j2, b2) := by
    rw [hk]; show rdE2 (lb s) j1 b1 = _; simp only [rdE2, rdMap, h1]
  have hraw : readE 0 1048576 127 (lb s) = if b2 = true ∨ j2 ≠ (lb s).length ∨ mayEn q = false then (En0, 70) else (q, 0) := by
    unfold readE
    have hz1' : rdNum (lb s) 0 false 0 ((127 : Nat) : Int) = (kd, j1, b1) := hz1
    have e : rdEn 0 1048576 127 (lb s) 0 false = (q, j2, b2) := by simp only [rdEn, rdMap, rdBind, hz1', hzE, hq]
    rw [e]
  have hlen := rdE_len 0 1048576 kd (lb s) j1 b1
  rw [hzE] at hlen
  have hqr : q.b.rs.length ≤ 4 ∧ q.prod.seen.length ≤ 3 := by rw [hq]; exact hlen
  have hkd : 0 ≤ kd ∧ kd ≤ 127 := by rcases rdNum_rng hz1 with h | h <;> omega
  have cc0 : (kd == 0) = false := by rw [hk]; rfl
  have cc1 : (kd == 1) = false := by rw [hk]; rfl
  have cc2 : (kd == 2) = true := by rw [hk]; rfl
  have cc3 : (kd == 3) = false := by rw [hk]; rfl
  have cc4 : (kd == 4) = false := by rw [hk]; rfl
  have cc5 : (kd == 5) = false := by rw [hk]; rfl
  have cc6 : (kd == 6) = false := by rw [hk]; rfl
  obtain ⟨W0, hW0⟩ : ∃ W0, W0 = (w.alloc (.cells #[.int .i8 0, .int .i64 0, .int .i64 0, .int .i64 0, .bool false, .slice none 0 0, .bool false, .int .i64 0, .int .i64 0, .int .i64 0, .int .i64 0, .int .i64 0, .string ⟨#[]⟩, .string ⟨#[]⟩, .int .i64 0, .int .i64 0, .int .i64 0, .slice none 0 0] 32)).alloc (.cells #[.string s, .int .i64 0, .bool false] 118) := ⟨_, rfl⟩
  have hs0 : W0.heap.size = w.heap.size + 1 + 1 := by rw [hW0]; simp
  have B0 : Below w.heap.size w W0 := by rw [hW0]; exact bal (bal (Below.refl _ _) _) _
  have K0 : Blk W0 w.heap.size 32 ezero := by rw [hW0]; exact (blk_new w _ _ rfl).alloc _
  have KR : RdR W0 (w.heap.size + 1) s 0 false := by rw [hW0]; exact blk_new _ _ _ (by simp)
  have RK : RrOk W0.heap.size W0 (w.heap.size + 1) s 0 false := ⟨KR, Nat.zero_le _, by omega, by omega, Nat.le_refl _⟩
  have N1 := Lib.hid (rRNum_z hz1 RK)
  have HR := Lib.hid hraw
  have HW := Lib.hid hW0
  have HB0 := Lib.hid B0
  have HK0 := Lib.hid K0
  have HQ := Lib.hid hq
  have HS0 := Lib.hid hs0
  have cv : IntKind.i8.wrap kd = kd := IntWalk.i8_in _ (by omega)
  clear hraw hz1 B0 K0 KR RK hW0 hq hk hlen hkd hzE hs0 hl
  go_enter Tryz.func22, Tryz.ntmps22
  go_wp2_with fail
  refine (rRNew_any s _).mono ?_
  rintro e w1 ⟨rfl, rfl⟩
  go_upto_region 2 with (fail)
  rw [← HW.out]
  go_wp2_with fail
  refine N1.out.mono ?_
  rintro e w1 ⟨rfl, r1, o1⟩
  obtain ⟨W2, st, kx, bb⟩ := fresh_en w1 #[.int .i8 kd, .int .i64 0, .int .i64 0, .int .i64 0, .bool false, .slice none 0 0, .bool false, .int .i64 0, .int .i64 0, .int .i64 0, .int .i64 0, .int .i64 0, .string ⟨#[]⟩, .string ⟨#[]⟩, .int .i64 0, .int .i64 0, .int .i64 0, .slice none 0 0] rfl (by simp [Value.oneCell'])
  have S2 := Lib.hid (show FrSt W0 W0.heap.size (w.heap.size + 1) w1.heap.size s j1 b1 (baseEn kd) W2 from ⟨none, none, 0, 0, kx, r1.below (bb.mono o1.size), o1.size, World.ownsRow_nil _ _ _ _, World.ownsRow_nil _ _ _ _, ((Goes.refl (show w.heap.size + 1 < W0.heap.size by have := HS0.out; omega)).only o1).below (bb.mono o1.size), fun _ => ⟨rfl, rfl⟩⟩)
  have x0 := kx.cell 0
  have ST := Lib.hid st
  clear r1 o1 kx bb st
  have st : (storeVar 32 ⟨w1.heap.size, 0, none⟩ (.agg #[.int .i8 kd, .int .i64 0, .int .i64 0, .int .i64 0, .bool false, .slice none 0 0, .bool false, .int .i64 0, .int .i64 0, .int .i64 0, .int .i64 0, .int .i64 0, .string ⟨#[]⟩, .string ⟨#[]⟩, .int .i64 0, .int .i64 0, .int .i64 0, .slice none 0 0])).run Tryz.prog _ = .ok () W2 := ST.out
  go_upto_region 3 with (fail)
  clear st ST
  clear h1
  obtain ⟨A2', D2', c2', e2', k2, r2, _⟩ := S2.out
  have NN := Lib.hid (rRNum_z HZ1.out r2)
  clear k2 r2
  go_wp2_with fail
  refine NN.out.mono ?_
  rintro e w3 ⟨rfl, r, o⟩
  have T3 := Lib.hid (S2.out.next r o)
  obtain ⟨A3', D3', c3', e3', k3, _⟩ := T3.out
  have st := store_int7 v (k3.cell 8) (k3.frozen 8)
  clear k3 r o NN x0
  go_upto_region 38 with (fail)
  clear st
  have S3 := Lib.hid (T3.out.put ({ baseEn kd with off := v }) 8 (.int .i64 v) rfl rfl rfl (fun _ _ _ _ => rfl))
  generalize w3.setCell ⟨w1.heap.size, 8, none⟩ (.int .i64 v) = V3 at *
  obtain ⟨A9, D9, c9, e9, k4, r4, _, ow1, ow2, gg, _⟩ := S3.out
  have E1 := Lib.hid (rREnd_any (w.heap.size + 1) s j2 b2 V3 r4.1)
  have K4 := Lib.hid (show Blk V3 w1.heap.size 32 #[.int .i8 q.kd, .int .i64 q.b.pid, .int .i64 q.b.ep, .int .i64 q.b.seq, .bool q.b.txn, .slice A9 q.b.rs.length c9, .bool q.yes, .int .i64 q.nx, .int .i64 q.off, .int .i64 q.row.1, .int .i64 q.row.2.1, .int .i64 q.row.2.2.1, .string q.row.2.2.2.1, .string q.row.2.2.2.2, .int .i64 q.prod.pid, .int .i64 q.prod.ep, .int .i64 q.prod.nx, .slice D9 q.prod.seen.length e9] by rw [HQ.out]; exact k4)
  have OW1 := Lib.hid (show World.ownsRow V3 (w1.heap.size + 1) 60 2 (.slice A9 q.b.rs.length c9) q.b.rs.length (cellsR q.b.rs) by rw [HQ.out]; exact ow1)
  have OW2 := Lib.hid (show World.ownsRow V3 (w1.heap.size + 1) 73 3 (.slice D9 q.prod.seen.length e9) q.prod.seen.length (cellsN q.prod.seen) by rw [HQ.out]; exact ow2)
  have KT := Lib.hid (gg.1.blk HK0.out (by omega))
  have BE := Lib.hid (HB0.out.trans (gg.1.below HB0.out.size (fun x hx => by omega)))
  have HX := Lib.hid (show w.heap.size < w1.heap.size by have := k4.lt; have := HS0.out; have := S2.out.choose_spec.choose_spec.choose_spec.choose_spec.2.2.1; omega)
  clear k4 r4 ow1 ow2 gg HQ
  by_cases hE : b2 = true ∨ j2 ≠ s.size
  · have he : endOf s.size j2 b2 = 70 := by unfold endOf; rw [if_pos hE]
    rw [he] at E1
    have HRR := Lib.hid (show readE 0 1048576 127 (lb s) = (En0, 70) by
      rw [HR.out, length_lb]
      rcases hE with h | h
      · rw [if_pos (.inl h)]
      · rw [if_pos (.inr (.inl h))])
    clear hE he
    go_wp2_with fail
    refine E1.out.mono ?_
    rintro e w5 ⟨rfl, n5, rfl⟩
    obtain ⟨W', st, kw, hsz, fb, fk⟩ := store_blk (cs := ezero) (KT.out.drewN n5) rfl rfl (by simp [Value.oneCell'])
    have BW := Lib.hid (fb _ w (Nat.le_refl _) (below_drewN BE.out n5))
    have KW := Lib.hid kw
    clear kw hsz fb fk
    go_wp2_with fail
    refine bodyPost_ret (v := .tuple #[(.agg #[.int .i8 0, .int .i64 0, .int .i64 0, .int .i64 0, .bool false, .slice none 0 0, .bool false, .int .i64 0, .int .i64 0, .int .i64 0, .int .i64 0, .int .i64 0, .string ⟨#[]⟩, .string ⟨#[]⟩, .int .i64 0, .int .i64 0, .int .i64 0, .slice none 0 0]), .int .i64 70]) (rerread_ret En0 none none 0 0 70 _ w.heap.size _ rfl rfl KW.out) rfl ?_
    rw [HRR.out]
    exact ⟨none, none, 0, 0, rfl, ⟨Reads.none_, Reads.none_, Nat.zero_le _, Nat.zero_le _⟩, BW.out, NwE.nil⟩
  · have he : endOf s.size j2 b2 = 0 := by unfold endOf; rw [if_neg hE]
    rw [he] at E1
    have HE := Lib.hid hE
    clear hE he
    go_wp2_with fail
    refine E1.out.mono ?_
    rintro e w5 ⟨rfl, n5, rfl⟩
    have LM := cells_blk (K4.out.drewN n5) rfl
    have ER5 : EnR (World.drewN V3 n5) q A9 D9 := ⟨Reads.of_own (own_below OW1.out (below_drewN (Below.refl _ _) n5)), Reads.of_own (own_below OW2.out (below_drewN (Below.refl _ _) n5)), by omega, by omega⟩
    have MY := Lib.hid (rEnMay_any q A9 D9 c9 e9 _ ER5)
    clear ER5
    cases hmy : mayEn q
    · rw [hmy] at MY
      have HRR := Lib.hid (show readE 0 1048576 127 (lb s) = (En0, 70) by rw [HR.out, if_pos (.inr (.inr hmy))])
      clear hmy
      go_wp2_with fail
      refine MY.out.mono ?_
      rintro e w6 ⟨rfl, b6⟩
      obtain ⟨W', st, kw, hsz, fb, fk⟩ := store_blk (cs := ezero) ((KT.out.drewN n5).below b6 (KT.out.drewN n5).lt) rfl rfl (by simp [Value.oneCell'])
      have BW := Lib.hid (fb _ w (Nat.le_refl _) (btrans (below_drewN BE.out n5) b6))
      have KW := Lib.hid kw
      clear kw hsz fb fk LM b6
      go_wp2_with fail
      refine bodyPost_ret (v := .tuple #[(.agg #[.int .i8 0, .int .i64 0, .int .i64 0, .int .i64 0, .bool false, .slice none 0 0, .bool false, .int .i64 0, .int .i64 0, .int .i64 0, .int .i64 0, .int .i64 0, .string ⟨#[]⟩, .string ⟨#[]⟩, .int .i64 0, .int .i64 0, .int .i64 0, .slice none 0 0]), .int .i64 70]) (rerread_ret En0 none none 0 0 70 _ w.heap.size _ rfl rfl KW.out) rfl ?_
      rw [HRR.out]
      exact ⟨none, none, 0, 0, rfl, ⟨Reads.none_, Reads.none_, Nat.zero_le _, Nat.zero_le _⟩, BW.out, NwE.nil⟩
    · rw [hmy] at MY
      have HRR := Lib.hid (show readE 0 1048576 127 (lb s) = (q, 0) by
        rw [HR.out, if_neg]
        rw [length_lb, hmy]
        rintro (h | h | h)
        · exact HE.out (.inl h)
        · exact HE.out (.inr h)
        · cases h)
      clear hmy
      go_wp2_with fail
      refine MY.out.mono ?_
      rintro e w6 ⟨rfl, b6⟩
      have LM6 := cells_blk ((K4.out.drewN n5).below b6 (K4.out.drewN n5).lt) rfl
      obtain ⟨W', st, kw, fb, fh⟩ := store_blk2 (cs := #[.int .i8 q.kd, .int .i64 q.b.pid, .int .i64 q.b.ep, .int .i64 q.b.seq, .bool q.b.txn, .slice A9 q.b.rs.length c9, .bool q.yes, .int .i64 q.nx, .int .i64 q.off, .int .i64 q.row.1, .int .i64 q.row.2.1, .int .i64 q.row.2.2.1, .string q.row.2.2.2.1, .string q.row.2.2.2.2, .int .i64 q.prod.pid, .int .i64 q.prod.ep, .int .i64 q.prod.nx, .slice D9 q.prod.seen.length e9]) ((KT.out.drewN n5).below b6 (KT.out.drewN n5).lt) rfl rfl (by simp [Value.oneCell'])
      have BW := Lib.hid (fb _ w (Nat.le_refl _) (btrans (below_drewN BE.out n5) b6))
      have p1 := own_below (own_below OW1.out (below_drewN (Below.refl _ _) n5)) b6
      have p2 := own_below (own_below OW2.out (below_drewN (Below.refl _ _) n5)) b6
      have q1 := own_keepN p1 (fun y hy => fh y (by have := (p1.lt y hy).1; have := HX.out; omega))
      have q2 := own_keepN p2 (fun y hy => fh y (by have := (p2.lt y hy).1; have := HX.out; omega))
      have NW := Lib.hid (show NwE w.heap.size A9 D9 from ⟨fun ad h => by have := (q1.lt ad.block (by rw [h]; rfl)).1; have := HX.out; omega, fun ad h => by have := (q2.lt ad.block (by rw [h]; rfl)).1; have := HX.out; omega⟩)
      have EF := Lib.hid (show EnR W' q A9 D9 from ⟨Reads.of_own q1, Reads.of_own q2, by omega, by omega⟩)
      have KW := Lib.hid kw
      clear kw fb fh LM p1 p2 q1 q2 b6
      go_wp2_with fail
      refine bodyPost_ret (v := .tuple #[(.agg #[.int .i8 q.kd, .int .i64 q.b.pid, .int .i64 q.b.ep, .int .i64 q.b.seq, .bool q.b.txn, .slice A9 q.b.rs.length c9, .bool q.yes, .int .i64 q.nx, .int .i64 q.off, .int .i64 q.row.1, .int .i64 q.row.2.1, .int .i64 q.row.2.2.1, .string q.row.2.2.2.1, .string q.row.2.2.2.2, .int .i64 q.prod.pid, .int .i64 q.prod.ep, .int .i64 q.prod.nx, .slice D9 q.prod.seen.length e9]), .int .i64 0]) (rerread_ret q A9 D9 c9 e9 0 _ w.heap.size _ rfl rfl KW.out) rfl ?_
      rw [HRR.out]
      exact ⟨A9, D9, c9, e9, rfl, EF.out, BW.out, NW.out⟩
set_option maxRecDepth 100000 in
set_option maxHeartbeats 8000000 in
theorem rEnRead_3f (s : ByteArray) (w : World) (hl : s.size ≤ 100000) (kd : Int) (hk : kd = 3) (j1 : Nat) (b1 : Bool) (hz1 : rdNum (lb s) 0 false 0 127 = (kd, j1, b1)) (ht : ∀ bt jb bb t j b, rdBat (lb s) j1 b1 = (bt, jb, bb) → rdFlag (lb s) jb bb = (t, j, b) → t = false) :
    Calls Tryz.prog 22 #[.string s] w (ErRn (readE 0 1048576 127 (lb s)).1 (readE 0 1048576 127 (lb s)).2 w) := by
  obtain ⟨bt, jb, bb', hb⟩ : ∃ v j c, rdBat (lb s) j1 b1 = (v, j, c) := ⟨_, _, _, rfl⟩
  have HZB := Lib.hid hb
  obtain ⟨t, j3, b3, h2⟩ : ∃ v j c, rdFlag (lb s) jb bb' = (v, j, c) := ⟨_, _, _, rfl⟩
  obtain rfl : t = false := ht bt jb bb' t j3 b3 hb h2
  have HZ2 := Lib.hid h2
  have h3' : rdIf false (lb s) j3 b3 = (0, j3, b3) := rfl
  have HKD := Lib.hid hk
  obtain ⟨q, hq⟩ : ∃ q, q = enOf kd (bt, false, 0, 0, Rw0, Pd0) := ⟨_, rfl⟩
  have hzE : rdE 0 1048576 kd (lb s) j1 b1 = ((bt, false, 0, 0, Rw0, Pd0), j3, b3) := by
    rw [hk]; show rdE3 (lb s) j1 b1 = _; simp only [rdE3, rdMap, rdBind, hb, h2, h3']
  have hraw : readE 0 1048576 127 (lb s) = if b3 = true ∨ j3 ≠ (lb s).length ∨ mayEn q = false then (En0, 70) else (q, 0) := by
    unfold readE
    have hz1' : rdNum (lb s) 0 false 0 ((127 : Nat) : Int) = (kd, j1, b1) := hz1
    have e : rdEn 0 1048576 127 (lb s) 0 false = (q, j3, b3) := by simp only [rdEn, rdMap, rdBind, hz1', hzE, hq]
    rw [e]
  have hlen := rdE_len 0 1048576 kd (lb s) j1 b1
  rw [hzE] at hlen
  have hqr : q.b.rs.length ≤ 4 ∧ q.prod.seen.length ≤ 3 := by rw [hq]; exact hlen
  have hkd : 0 ≤ kd ∧ kd ≤ 127 := by rcases rdNum_rng hz1 with h | h <;> omega
  have cc0 : (kd == 0) = false := by rw [hk]; rfl
  have cc1 : (kd == 1) = false := by rw [hk]; rfl
  have cc2 : (kd == 2) = false := by rw [hk]; rfl
  have cc3 : (kd == 3) = true := by rw [hk]; rfl
  have cc4 : (kd == 4) = false := by rw [hk]; rfl
  have cc5 : (kd == 5) = false := by rw [hk]; rfl
  have cc6 : (kd == 6) = false := by rw [hk]; rfl
  obtain ⟨W0, hW0⟩ : ∃ W0, W0 = (w.alloc (.cells #[.int .i8 0, .int .i64 0, .int .i64 0, .int .i64 0, .bool false, .slice none 0 0, .bool false, .int .i64 0, .int .i64 0, .int .i64 0, .int .i64 0, .int .i64 0, .string ⟨#[]⟩, .string ⟨#[]⟩, .int .i64 0, .int .i64 0, .int .i64 0, .slice none 0 0] 32)).alloc (.cells #[.string s, .int .i64 0, .bool false] 118) := ⟨_, rfl⟩
  have hs0 : W0.heap.size = w.heap.size + 1 + 1 := by rw [hW0]; simp
  have B0 : Below w.heap.size w W0 := by rw [hW0]; exact bal (bal (Below.refl _ _) _) _
  have K0 : Blk W0 w.heap.size 32 ezero := by rw [hW0]; exact (blk_new w _ _ rfl).alloc _
  have KR : RdR W0 (w.heap.size + 1) s 0 false := by rw [hW0]; exact blk_new _ _ _ (by simp)
  have RK : RrOk W0.heap.size W0 (w.heap.size + 1) s 0 false := ⟨KR, Nat.zero_le _, by omega, by omega, Nat.le_refl _⟩
  have N1 := Lib.hid (rRNum_z hz1 RK)
  have HR := Lib.hid hraw
  have HW := Lib.hid hW0
  have HB0 := Lib.hid B0
  have HK0 := Lib.hid K0
  have HQ := Lib.hid hq
  have HS0 := Lib.hid hs0
  have cv : IntKind.i8.wrap kd = kd := IntWalk.i8_in _ (by omega)
  clear hraw hz1 B0 K0 KR RK hW0 hq hk hlen hkd hzE hs0 hl
  go_enter Tryz.func22, Tryz.ntmps22
  go_wp2_with fail
  refine (rRNew_any s _).mono ?_
  rintro e w1 ⟨rfl, rfl⟩
  go_upto_region 2 with (fail)
  rw [← HW.out]
  go_wp2_with fail
  refine N1.out.mono ?_
  rintro e w1 ⟨rfl, r1, o1⟩
  obtain ⟨W2, st, kx, bb⟩ := fresh_en w1 #[.int .i8 kd, .int .i64 0, .int .i64 0, .int .i64 0, .bool false, .slice none 0 0, .bool false, .int .i64 0, .int .i64 0, .int .i64 0, .int .i64 0, .int .i64 0, .string ⟨#[]⟩, .string ⟨#[]⟩, .int .i64 0, .int .i64 0, .int .i64 0, .slice none 0 0] rfl (by simp [Value.oneCell'])
  have S2 := Lib.hid (show FrSt W0 W0.heap.size (w.heap.size + 1) w1.heap.size s j1 b1 (baseEn kd) W2 from ⟨none, none, 0, 0, kx, r1.below (bb.mono o1.size), o1.size, World.ownsRow_nil _ _ _ _, World.ownsRow_nil _ _ _ _, ((Goes.refl (show w.heap.size + 1 < W0.heap.size by have := HS0.out; omega)).only o1).below (bb.mono o1.size), fun _ => ⟨rfl, rfl⟩⟩)
  have x0 := kx.cell 0
  have ST := Lib.hid st
  clear r1 o1 kx bb st
  have st : (storeVar 32 ⟨w1.heap.size, 0, none⟩ (.agg #[.int .i8 kd, .int .i64 0, .int .i64 0, .int .i64 0, .bool false, .slice none 0 0, .bool false, .int .i64 0, .int .i64 0, .int .i64 0, .int .i64 0, .int .i64 0, .string ⟨#[]⟩, .string ⟨#[]⟩, .int .i64 0, .int .i64 0, .int .i64 0, .slice none 0 0])).run Tryz.prog _ = .ok () W2 := ST.out
  go_upto_region 3 with (fail)
  clear st ST
  clear hb h2 h3' ht
  obtain ⟨A2', D2', c2', e2', k2, r2, _⟩ := S2.out
  have hj : jb ≤ s.size := by
    have := fol_bat.le (lb s) j1 b1 (by rw [length_lb]; exact r2.2.1)
    rw [HZB.out, length_lb] at this
    exact this
  have tk := rTake_any (w.heap.size + 1) s j1 b1 W2 (rrok_up r2)
  rw [HZB.out] at tk
  have TK := Lib.hid tk
  have HJ := Lib.hid hj
  clear k2 r2 hj tk
  go_wp2_with fail
  refine TK.out.mono ?_
  rintro e w3 ⟨A5, c5, rfl, ow, _, rb, o1⟩
  obtain ⟨V3, st, s3⟩ := S2.out.batch (by have := HKD.out; omega) bt A5 c5 ow rb HJ.out o1
  have S3 := Lib.hid s3
  clear ow rb o1 s3 x0 TK
  go_upto_region 14 with (fail)
  clear st
  obtain ⟨A3', D3', c3', e3', k3, r3, _⟩ := S3.out
  have NN := Lib.hid (rRFlag_z HZ2.out r3)
  clear k3 r3
  go_wp2_with fail
  refine NN.out.mono ?_
  rintro e w4 ⟨rfl, r, o⟩
  have T4 := Lib.hid (S3.out.next r o)
  obtain ⟨A4', D4', c4', e4', k4, _⟩ := T4.out
  have st := store_bool7 false (k4.cell 6) (k4.frozen 6)
  clear k4 r o NN
  go_upto_region 15 with (fail)
  clear st
  have S4 := Lib.hid (T4.out.put ({ baseEn kd with b := bt, yes := false }) 6 (.bool false) rfl rfl rfl (fun _ _ _ _ => rfl))
  generalize w4.setCell ⟨w1.heap.size, 6, none⟩ (.bool false) = V4 at *
  obtain ⟨_, _, _, _, k, _⟩ := S4.out
  have x6 := k.cell 6
  clear k
  go_upto_region 38 with (fail)
  clear x6
  obtain ⟨A9, D9, c9, e9, k4, r4, _, ow1, ow2, gg, _⟩ := S4.out
  have E1 := Lib.hid (rREnd_any (w.heap.size + 1) s j3 b3 V4 r4.1)
  have K4 := Lib.hid (show Blk V4 w1.heap.size 32 #[.int .i8 q.kd, .int .i64 q.b.pid, .int .i64 q.b.ep, .int .i64 q.b.seq, .bool q.b.txn, .slice A9 q.b.rs.length c9, .bool q.yes, .int .i64 q.nx, .int .i64 q.off, .int .i64 q.row.1, .int .i64 q.row.2.1, .int .i64 q.row.2.2.1, .string q.row.2.2.2.1, .string q.row.2.2.2.2, .int .i64 q.prod.pid, .int .i64 q.prod.ep, .int .i64 q.prod.nx, .slice D9 q.prod.seen.length e9] by rw [HQ.out]; exact k4)
  have OW1 := Lib.hid (show World.ownsRow V4 (w1.heap.size + 1) 60 2 (.slice A9 q.b.rs.length c9) q.b.rs.length (cellsR q.b.rs) by rw [HQ.out]; exact ow1)
  have OW2 := Lib.hid (show World.ownsRow V4 (w1.heap.size + 1) 73 3 (.slice D9 q.prod.seen.length e9) q.prod.seen.length (cellsN q.prod.seen) by rw [HQ.out]; exact ow2)
  have KT := Lib.hid (gg.1.blk HK0.out (by omega))
  have BE := Lib.hid (HB0.out.trans (gg.1.below HB0.out.size (fun x hx => by omega)))
  have HX := Lib.hid (show w.heap.size < w1.heap.size by have := k4.lt; have := HS0.out; have := S2.out.choose_spec.choose_spec.choose_spec.choose_spec.2.2.1; omega)
  clear k4 r4 ow1 ow2 gg HQ
  by_cases hE : b3 = true ∨ j3 ≠ s.size
  · have he : endOf s.size j3 b3 = 70 := by unfold endOf; rw [if_pos hE]
    rw [he] at E1
    have HRR := Lib.hid (show readE 0 1048576 127 (lb s) = (En0, 70) by
      rw [HR.out, length_lb]
      rcases hE with h | h
      · rw [if_pos (.inl h)]
      · rw [if_pos (.inr (.inl h))])
    clear hE he
    go_wp2_with fail
    refine E1.out.mono ?_
    rintro e w5 ⟨rfl, n5, rfl⟩
    obtain ⟨W', st, kw, hsz, fb, fk⟩ := store_blk (cs := ezero) (KT.out.drewN n5) rfl rfl (by simp [Value.oneCell'])
    have BW := Lib.hid (fb _ w (Nat.le_refl _) (below_drewN BE.out n5))
    have KW := Lib.hid kw
    clear kw hsz fb fk
    go_wp2_with fail
    refine bodyPost_ret (v := .tuple #[(.agg #[.int .i8 0, .int .i64 0, .int .i64 0, .int .i64 0, .bool false, .slice none 0 0, .bool false, .int .i64 0, .int .i64 0, .int .i64 0, .int .i64 0, .int .i64 0, .string ⟨#[]⟩, .string ⟨#[]⟩, .int .i64 0, .int .i64 0, .int .i64 0, .slice none 0 0]), .int .i64 70]) (rerread_ret En0 none none 0 0 70 _ w.heap.size _ rfl rfl KW.out) rfl ?_
    rw [HRR.out]
    exact ⟨none, none, 0, 0, rfl, ⟨Reads.none_, Reads.none_, Nat.zero_le _, Nat.zero_le _⟩, BW.out, NwE.nil⟩
  · have he : endOf s.size j3 b3 = 0 := by unfold endOf; rw [if_neg hE]
    rw [he] at E1
    have HE := Lib.hid hE
    clear hE he
    go_wp2_with fail
    refine E1.out.mono ?_
    rintro e w5 ⟨rfl, n5, rfl⟩
    have LM := cells_blk (K4.out.drewN n5) rfl
    have ER5 : EnR (World.drewN V4 n5) q A9 D9 := ⟨Reads.of_own (own_below OW1.out (below_drewN (Below.refl _ _) n5)), Reads.of_own (own_below OW2.out (below_drewN (Below.refl _ _) n5)), by omega, by omega⟩
    have MY := Lib.hid (rEnMay_any q A9 D9 c9 e9 _ ER5)
    clear ER5
    cases hmy : mayEn q
    · rw [hmy] at MY
      have HRR := Lib.hid (show readE 0 1048576 127 (lb s) = (En0, 70) by rw [HR.out, if_pos (.inr (.inr hmy))])
      clear hmy
      go_wp2_with fail
      refine MY.out.mono ?_
      rintro e w6 ⟨rfl, b6⟩
      obtain ⟨W', st, kw, hsz, fb, fk⟩ := store_blk (cs := ezero) ((KT.out.drewN n5).below b6 (KT.out.drewN n5).lt) rfl rfl (by simp [Value.oneCell'])
      have BW := Lib.hid (fb _ w (Nat.le_refl _) (btrans (below_drewN BE.out n5) b6))
      have KW := Lib.hid kw
      clear kw hsz fb fk LM b6
      go_wp2_with fail
      refine bodyPost_ret (v := .tuple #[(.agg #[.int .i8 0, .int .i64 0, .int .i64 0, .int .i64 0, .bool false, .slice none 0 0, .bool false, .int .i64 0, .int .i64 0, .int .i64 0, .int .i64 0, .int .i64 0, .string ⟨#[]⟩, .string ⟨#[]⟩, .int .i64 0, .int .i64 0, .int .i64 0, .slice none 0 0]), .int .i64 70]) (rerread_ret En0 none none 0 0 70 _ w.heap.size _ rfl rfl KW.out) rfl ?_
      rw [HRR.out]
      exact ⟨none, none, 0, 0, rfl, ⟨Reads.none_, Reads.none_, Nat.zero_le _, Nat.zero_le _⟩, BW.out, NwE.nil⟩
    · rw [hmy] at MY
      have HRR := Lib.hid (show readE 0 1048576 127 (lb s) = (q, 0) by
        rw [HR.out, if_neg]
        rw [length_lb, hmy]
        rintro (h | h | h)
        · exact HE.out (.inl h)
        · exact HE.out (.inr h)
        · cases h)
      clear hmy
      go_wp2_with fail
      refine MY.out.mono ?_
      rintro e w6 ⟨rfl, b6⟩
      have LM6 := cells_blk ((K4.out.drewN n5).below b6 (K4.out.drewN n5).lt) rfl
      obtain ⟨W', st, kw, fb, fh⟩ := store_blk2 (cs := #[.int .i8 q.kd, .int .i64 q.b.pid, .int .i64 q.b.ep, .int .i64 q.b.seq, .bool q.b.txn, .slice A9 q.b.rs.length c9, .bool q.yes, .int .i64 q.nx, .int .i64 q.off, .int .i64 q.row.1, .int .i64 q.row.2.1, .int .i64 q.row.2.2.1, .string q.row.2.2.2.1, .string q.row.2.2.2.2, .int .i64 q.prod.pid, .int .i64 q.prod.ep, .int .i64 q.prod.nx, .slice D9 q.prod.seen.length e9]) ((KT.out.drewN n5).below b6 (KT.out.drewN n5).lt) rfl rfl (by simp [Value.oneCell'])
      have BW := Lib.hid (fb _ w (Nat.le_refl _) (btrans (below_drewN BE.out n5) b6))
      have p1 := own_below (own_below OW1.out (below_drewN (Below.refl _ _) n5)) b6
      have p2 := own_below (own_below OW2.out (below_drewN (Below.refl _ _) n5)) b6
      have q1 := own_keepN p1 (fun y hy => fh y (by have := (p1.lt y hy).1; have := HX.out; omega))
      have q2 := own_keepN p2 (fun y hy => fh y (by have := (p2.lt y hy).1; have := HX.out; omega))
      have NW := Lib.hid (show NwE w.heap.size A9 D9 from ⟨fun ad h => by have := (q1.lt ad.block (by rw [h]; rfl)).1; have := HX.out; omega, fun ad h => by have := (q2.lt ad.block (by rw [h]; rfl)).1; have := HX.out; omega⟩)
      have EF := Lib.hid (show EnR W' q A9 D9 from ⟨Reads.of_own q1, Reads.of_own q2, by omega, by omega⟩)
      have KW := Lib.hid kw
      clear kw fb fh LM p1 p2 q1 q2 b6
      go_wp2_with fail
      refine bodyPost_ret (v := .tuple #[(.agg #[.int .i8 q.kd, .int .i64 q.b.pid, .int .i64 q.b.ep, .int .i64 q.b.seq, .bool q.b.txn, .slice A9 q.b.rs.length c9, .bool q.yes, .int .i64 q.nx, .int .i64 q.off, .int .i64 q.row.1, .int .i64 q.row.2.1, .int .i64 q.row.2.2.1, .string q.row.2.2.2.1, .string q.row.2.2.2.2, .int .i64 q.prod.pid, .int .i64 q.prod.ep, .int .i64 q.prod.nx, .slice D9 q.prod.seen.length e9]), .int .i64 0]) (rerread_ret q A9 D9 c9 e9 0 _ w.heap.size _ rfl rfl KW.out) rfl ?_
      rw [HRR.out]
      exact ⟨A9, D9, c9, e9, rfl, EF.out, BW.out, NW.out⟩
set_option maxRecDepth 100000 in
set_option maxHeartbeats 8000000 in
theorem rEnRead_3t (s : ByteArray) (w : World) (hl : s.size ≤ 100000) (kd : Int) (hk : kd = 3) (j1 : Nat) (b1 : Bool) (hz1 : rdNum (lb s) 0 false 0 127 = (kd, j1, b1)) (ht : ∀ bt jb bb t j b, rdBat (lb s) j1 b1 = (bt, jb, bb) → rdFlag (lb s) jb bb = (t, j, b) → t = true) :
    Calls Tryz.prog 22 #[.string s] w (ErRn (readE 0 1048576 127 (lb s)).1 (readE 0 1048576 127 (lb s)).2 w) := by
  obtain ⟨bt, jb, bb', hb⟩ : ∃ v j c, rdBat (lb s) j1 b1 = (v, j, c) := ⟨_, _, _, rfl⟩
  have HZB := Lib.hid hb
  obtain ⟨t, j3, b3, h2⟩ : ∃ v j c, rdFlag (lb s) jb bb' = (v, j, c) := ⟨_, _, _, rfl⟩
  obtain rfl : t = true := ht bt jb bb' t j3 b3 hb h2
  obtain ⟨n, j4, b4, h3⟩ : ∃ v j c, rdNum (lb s) j3 b3 0 1048576 = (v, j, c) := ⟨_, _, _, rfl⟩
  have HZ2 := Lib.hid h2
  have HZ3 := Lib.hid h3
  have h3' : rdIf true (lb s) j3 b3 = (n, j4, b4) := h3
  have HKD := Lib.hid hk
  obtain ⟨q, hq⟩ : ∃ q, q = enOf kd (bt, true, n, 0, Rw0, Pd0) := ⟨_, rfl⟩
  have hzE : rdE 0 1048576 kd (lb s) j1 b1 = ((bt, true, n, 0, Rw0, Pd0), j4, b4) := by
    rw [hk]; show rdE3 (lb s) j1 b1 = _; simp only [rdE3, rdMap, rdBind, hb, h2, h3']
  have hraw : readE 0 1048576 127 (lb s) = if b4 = true ∨ j4 ≠ (lb s).length ∨ mayEn q = false then (En0, 70) else (q, 0) := by
    unfold readE
    have hz1' : rdNum (lb s) 0 false 0 ((127 : Nat) : Int) = (kd, j1, b1) := hz1
    have e : rdEn 0 1048576 127 (lb s) 0 false = (q, j4, b4) := by simp only [rdEn, rdMap, rdBind, hz1', hzE, hq]
    rw [e]
  have hlen := rdE_len 0 1048576 kd (lb s) j1 b1
  rw [hzE] at hlen
  have hqr : q.b.rs.length ≤ 4 ∧ q.prod.seen.length ≤ 3 := by rw [hq]; exact hlen
  have hkd : 0 ≤ kd ∧ kd ≤ 127 := by rcases rdNum_rng hz1 with h | h <;> omega
  have cc0 : (kd == 0) = false := by rw [hk]; rfl
  have cc1 : (kd == 1) = false := by rw [hk]; rfl
  have cc2 : (kd == 2) = false := by rw [hk]; rfl
  have cc3 : (kd == 3) = true := by rw [hk]; rfl
  have cc4 : (kd == 4) = false := by rw [hk]; rfl
  have cc5 : (kd == 5) = false := by rw [hk]; rfl
  have cc6 : (kd == 6) = false := by rw [hk]; rfl
  obtain ⟨W0, hW0⟩ : ∃ W0, W0 = (w.alloc (.cells #[.int .i8 0, .int .i64 0, .int .i64 0, .int .i64 0, .bool false, .slice none 0 0, .bool false, .int .i64 0, .int .i64 0, .int .i64 0, .int .i64 0, .int .i64 0, .string ⟨#[]⟩, .string ⟨#[]⟩, .int .i64 0, .int .i64 0, .int .i64 0, .slice none 0 0] 32)).alloc (.cells #[.string s, .int .i64 0, .bool false] 118) := ⟨_, rfl⟩
  have hs0 : W0.heap.size = w.heap.size + 1 + 1 := by rw [hW0]; simp
  have B0 : Below w.heap.size w W0 := by rw [hW0]; exact bal (bal (Below.refl _ _) _) _
  have K0 : Blk W0 w.heap.size 32 ezero := by rw [hW0]; exact (blk_new w _ _ rfl).alloc _
  have KR : RdR W0 (w.heap.size + 1) s 0 false := by rw [hW0]; exact blk_new _ _ _ (by simp)
  have RK : RrOk W0.heap.size W0 (w.heap.size + 1) s 0 false := ⟨KR, Nat.zero_le _, by omega, by omega, Nat.le_refl _⟩
  have N1 := Lib.hid (rRNum_z hz1 RK)
  have HR := Lib.hid hraw
  have HW := Lib.hid hW0
  have HB0 := Lib.hid B0
  have HK0 := Lib.hid K0
  have HQ := Lib.hid hq
  have HS0 := Lib.hid hs0
  have cv : IntKind.i8.wrap kd = kd := IntWalk.i8_in _ (by omega)
  clear hraw hz1 B0 K0 KR RK hW0 hq hk hlen hkd hzE hs0 hl
  go_enter Tryz.func22, Tryz.ntmps22
  go_wp2_with fail
  refine (rRNew_any s _).mono ?_
  rintro e w1 ⟨rfl, rfl⟩
  go_upto_region 2 with (fail)
  rw [← HW.out]
  go_wp2_with fail
  refine N1.out.mono ?_
  rintro e w1 ⟨rfl, r1, o1⟩
  obtain ⟨W2, st, kx, bb⟩ := fresh_en w1 #[.int .i8 kd, .int .i64 0, .int .i64 0, .int .i64 0, .bool false, .slice none 0 0, .bool false, .int .i64 0, .int .i64 0, .int .i64 0, .int .i64 0, .int .i64 0, .string ⟨#[]⟩, .string ⟨#[]⟩, .int .i64 0, .int .i64 0, .int .i64 0, .slice none 0 0] rfl (by simp [Value.oneCell'])
  have S2 := Lib.hid (show FrSt W0 W0.heap.size (w.heap.size + 1) w1.heap.size s j1 b1 (baseEn kd) W2 from ⟨none, none, 0, 0, kx, r1.below (bb.mono o1.size), o1.size, World.ownsRow_nil _ _ _ _, World.ownsRow_nil _ _ _ _, ((Goes.refl (show w.heap.size + 1 < W0.heap.size by have := HS0.out; omega)).only o1).below (bb.mono o1.size), fun _ => ⟨rfl, rfl⟩⟩)
  have x0 := kx.cell 0
  have ST := Lib.hid st
  clear r1 o1 kx bb st
  have st : (storeVar 32 ⟨w1.heap.size, 0, none⟩ (.agg #[.int .i8 kd, .int .i64 0, .int .i64 0, .int .i64 0, .bool false, .slice none 0 0, .bool false, .int .i64 0, .int .i64 0, .int .i64 0, .int .i64 0, .int .i64 0, .string ⟨#[]⟩, .string ⟨#[]⟩, .int .i64 0, .int .i64 0, .int .i64 0, .slice none 0 0])).run Tryz.prog _ = .ok () W2 := ST.out
  go_upto_region 3 with (fail)
  clear st ST
  clear hb h2 h3' ht h3
  obtain ⟨A2', D2', c2', e2', k2, r2, _⟩ := S2.out
  have hj : jb ≤ s.size := by
    have := fol_bat.le (lb s) j1 b1 (by rw [length_lb]; exact r2.2.1)
    rw [HZB.out, length_lb] at this
    exact this
  have tk := rTake_any (w.heap.size + 1) s j1 b1 W2 (rrok_up r2)
  rw [HZB.out] at tk
  have TK := Lib.hid tk
  have HJ := Lib.hid hj
  clear k2 r2 hj tk
  go_wp2_with fail
  refine TK.out.mono ?_
  rintro e w3 ⟨A5, c5, rfl, ow, _, rb, o1⟩
  obtain ⟨V3, st, s3⟩ := S2.out.batch (by have := HKD.out; omega) bt A5 c5 ow rb HJ.out o1
  have S3 := Lib.hid s3
  clear ow rb o1 s3 x0 TK
  go_upto_region 14 with (fail)
  clear st
  obtain ⟨A3', D3', c3', e3', k3, r3, _⟩ := S3.out
  have NN := Lib.hid (rRFlag_z HZ2.out r3)
  clear k3 r3
  go_wp2_with fail
  refine NN.out.mono ?_
  rintro e w4 ⟨rfl, r, o⟩
  have T4 := Lib.hid (S3.out.next r o)
  obtain ⟨A4', D4', c4', e4', k4, _⟩ := T4.out
  have st := store_bool7 true (k4.cell 6) (k4.frozen 6)
  clear k4 r o NN
  go_upto_region 15 with (fail)
  clear st
  have S4 := Lib.hid (T4.out.put ({ baseEn kd with b := bt, yes := true }) 6 (.bool true) rfl rfl rfl (fun _ _ _ _ => rfl))
  generalize w4.setCell ⟨w1.heap.size, 6, none⟩ (.bool true) = V4 at *
  obtain ⟨_, _, _, _, k, _⟩ := S4.out
  have x6 := k.cell 6
  clear k
  obtain ⟨A4', D4', c4', e4', k4, r4, _⟩ := S4.out
  have NN := Lib.hid (rRNum_z HZ3.out r4)
  clear k4 r4
  go_wp2_with fail
  refine NN.out.mono ?_
  rintro e w5 ⟨rfl, r, o⟩
  have T5 := Lib.hid (S4.out.next r o)
  obtain ⟨A5', D5', c5', e5', k5, _⟩ := T5.out
  have st := store_int7 n (k5.cell 7) (k5.frozen 7)
  clear k5 r o NN
  go_upto_region 38 with (fail)
  clear st
  have S5 := Lib.hid (T5.out.put ({ baseEn kd with b := bt, yes := true, nx := n }) 7 (.int .i64 n) rfl rfl rfl (fun _ _ _ _ => rfl))
  generalize w5.setCell ⟨w1.heap.size, 7, none⟩ (.int .i64 n) = V5 at *
  clear x6
  obtain ⟨A9, D9, c9, e9, k4, r4, _, ow1, ow2, gg, _⟩ := S5.out
  have E1 := Lib.hid (rREnd_any (w.heap.size + 1) s j4 b4 V5 r4.1)
  have K4 := Lib.hid (show Blk V5 w1.heap.size 32 #[.int .i8 q.kd, .int .i64 q.b.pid, .int .i64 q.b.ep, .int .i64 q.b.seq, .bool q.b.txn, .slice A9 q.b.rs.length c9, .bool q.yes, .int .i64 q.nx, .int .i64 q.off, .int .i64 q.row.1, .int .i64 q.row.2.1, .int .i64 q.row.2.2.1, .string q.row.2.2.2.1, .string q.row.2.2.2.2, .int .i64 q.prod.pid, .int .i64 q.prod.ep, .int .i64 q.prod.nx, .slice D9 q.prod.seen.length e9] by rw [HQ.out]; exact k4)
  have OW1 := Lib.hid (show World.ownsRow V5 (w1.heap.size + 1) 60 2 (.slice A9 q.b.rs.length c9) q.b.rs.length (cellsR q.b.rs) by rw [HQ.out]; exact ow1)
  have OW2 := Lib.hid (show World.ownsRow V5 (w1.heap.size + 1) 73 3 (.slice D9 q.prod.seen.length e9) q.prod.seen.length (cellsN q.prod.seen) by rw [HQ.out]; exact ow2)
  have KT := Lib.hid (gg.1.blk HK0.out (by omega))
  have BE := Lib.hid (HB0.out.trans (gg.1.below HB0.out.size (fun x hx => by omega)))
  have HX := Lib.hid (show w.heap.size < w1.heap.size by have := k4.lt; have := HS0.out; have := S2.out.choose_spec.choose_spec.choose_spec.choose_spec.2.2.1; omega)
  clear k4 r4 ow1 ow2 gg HQ
  by_cases hE : b4 = true ∨ j4 ≠ s.size
  · have he : endOf s.size j4 b4 = 70 := by unfold endOf; rw [if_pos hE]
    rw [he] at E1
    have HRR := Lib.hid (show readE 0 1048576 127 (lb s) = (En0, 70) by
      rw [HR.out, length_lb]
      rcases hE with h | h
      · rw [if_pos (.inl h)]
      · rw [if_pos (.inr (.inl h))])
    clear hE he
    go_wp2_with fail
    refine E1.out.mono ?_
    rintro e w5 ⟨rfl, n5, rfl⟩
    obtain ⟨W', st, kw, hsz, fb, fk⟩ := store_blk (cs := ezero) (KT.out.drewN n5) rfl rfl (by simp [Value.oneCell'])
    have BW := Lib.hid (fb _ w (Nat.le_refl _) (below_drewN BE.out n5))
    have KW := Lib.hid kw
    clear kw hsz fb fk
    go_wp2_with fail
    refine bodyPost_ret (v := .tuple #[(.agg #[.int .i8 0, .int .i64 0, .int .i64 0, .int .i64 0, .bool false, .slice none 0 0, .bool false, .int .i64 0, .int .i64 0, .int .i64 0, .int .i64 0, .int .i64 0, .string ⟨#[]⟩, .string ⟨#[]⟩, .int .i64 0, .int .i64 0, .int .i64 0, .slice none 0 0]), .int .i64 70]) (rerread_ret En0 none none 0 0 70 _ w.heap.size _ rfl rfl KW.out) rfl ?_
    rw [HRR.out]
    exact ⟨none, none, 0, 0, rfl, ⟨Reads.none_, Reads.none_, Nat.zero_le _, Nat.zero_le _⟩, BW.out, NwE.nil⟩
  · have he : endOf s.size j4 b4 = 0 := by unfold endOf; rw [if_neg hE]
    rw [he] at E1
    have HE := Lib.hid hE
    clear hE he
    go_wp2_with fail
    refine E1.out.mono ?_
    rintro e w5 ⟨rfl, n5, rfl⟩
    have LM := cells_blk (K4.out.drewN n5) rfl
    have ER5 : EnR (World.drewN V5 n5) q A9 D9 := ⟨Reads.of_own (own_below OW1.out (below_drewN (Below.refl _ _) n5)), Reads.of_own (own_below OW2.out (below_drewN (Below.refl _ _) n5)), by omega, by omega⟩
    have MY := Lib.hid (rEnMay_any q A9 D9 c9 e9 _ ER5)
    clear ER5
    cases hmy : mayEn q
    · rw [hmy] at MY
      have HRR := Lib.hid (show readE 0 1048576 127 (lb s) = (En0, 70) by rw [HR.out, if_pos (.inr (.inr hmy))])
      clear hmy
      go_wp2_with fail
      refine MY.out.mono ?_
      rintro e w6 ⟨rfl, b6⟩
      obtain ⟨W', st, kw, hsz, fb, fk⟩ := store_blk (cs := ezero) ((KT.out.drewN n5).below b6 (KT.out.drewN n5).lt) rfl rfl (by simp [Value.oneCell'])
      have BW := Lib.hid (fb _ w (Nat.le_refl _) (btrans (below_drewN BE.out n5) b6))
      have KW := Lib.hid kw
      clear kw hsz fb fk LM b6
      go_wp2_with fail
      refine bodyPost_ret (v := .tuple #[(.agg #[.int .i8 0, .int .i64 0, .int .i64 0, .int .i64 0, .bool false, .slice none 0 0, .bool false, .int .i64 0, .int .i64 0, .int .i64 0, .int .i64 0, .int .i64 0, .string ⟨#[]⟩, .string ⟨#[]⟩, .int .i64 0, .int .i64 0, .int .i64 0, .slice none 0 0]), .int .i64 70]) (rerread_ret En0 none none 0 0 70 _ w.heap.size _ rfl rfl KW.out) rfl ?_
      rw [HRR.out]
      exact ⟨none, none, 0, 0, rfl, ⟨Reads.none_, Reads.none_, Nat.zero_le _, Nat.zero_le _⟩, BW.out, NwE.nil⟩
    · rw [hmy] at MY
      have HRR := Lib.hid (show readE 0 1048576 127 (lb s) = (q, 0) by
        rw [HR.out, if_neg]
        rw [length_lb, hmy]
        rintro (h | h | h)
        · exact HE.out (.inl h)
        · exact HE.out (.inr h)
        · cases h)
      clear hmy
      go_wp2_with fail
      refine MY.out.mono ?_
      rintro e w6 ⟨rfl, b6⟩
      have LM6 := cells_blk ((K4.out.drewN n5).below b6 (K4.out.drewN n5).lt) rfl
      obtain ⟨W', st, kw, fb, fh⟩ := store_blk2 (cs := #[.int .i8 q.kd, .int .i64 q.b.pid, .int .i64 q.b.ep, .int .i64 q.b.seq, .bool q.b.txn, .slice A9 q.b.rs.length c9, .bool q.yes, .int .i64 q.nx, .int .i64 q.off, .int .i64 q.row.1, .int .i64 q.row.2.1, .int .i64 q.row.2.2.1, .string q.row.2.2.2.1, .string q.row.2.2.2.2, .int .i64 q.prod.pid, .int .i64 q.prod.ep, .int .i64 q.prod.nx, .slice D9 q.prod.seen.length e9]) ((KT.out.drewN n5).below b6 (KT.out.drewN n5).lt) rfl rfl (by simp [Value.oneCell'])
      have BW := Lib.hid (fb _ w (Nat.le_refl _) (btrans (below_drewN BE.out n5) b6))
      have p1 := own_below (own_below OW1.out (below_drewN (Below.refl _ _) n5)) b6
      have p2 := own_below (own_below OW2.out (below_drewN (Below.refl _ _) n5)) b6
      have q1 := own_keepN p1 (fun y hy => fh y (by have := (p1.lt y hy).1; have := HX.out; omega))
      have q2 := own_keepN p2 (fun y hy => fh y (by have := (p2.lt y hy).1; have := HX.out; omega))
      have NW := Lib.hid (show NwE w.heap.size A9 D9 from ⟨fun ad h => by have := (q1.lt ad.block (by rw [h]; rfl)).1; have := HX.out; omega, fun ad h => by have := (q2.lt ad.block (by rw [h]; rfl)).1; have := HX.out; omega⟩)
      have EF := Lib.hid (show EnR W' q A9 D9 from ⟨Reads.of_own q1, Reads.of_own q2, by omega, by omega⟩)
      have KW := Lib.hid kw
      clear kw fb fh LM p1 p2 q1 q2 b6
      go_wp2_with fail
      refine bodyPost_ret (v := .tuple #[(.agg #[.int .i8 q.kd, .int .i64 q.b.pid, .int .i64 q.b.ep, .int .i64 q.b.seq, .bool q.b.txn, .slice A9 q.b.rs.length c9, .bool q.yes, .int .i64 q.nx, .int .i64 q.off, .int .i64 q.row.1, .int .i64 q.row.2.1, .int .i64 q.row.2.2.1, .string q.row.2.2.2.1, .string q.row.2.2.2.2, .int .i64 q.prod.pid, .int .i64 q.prod.ep, .int .i64 q.prod.nx, .slice D9 q.prod.seen.length e9]), .int .i64 0]) (rerread_ret q A9 D9 c9 e9 0 _ w.heap.size _ rfl rfl KW.out) rfl ?_
      rw [HRR.out]
      exact ⟨A9, D9, c9, e9, rfl, EF.out, BW.out, NW.out⟩
set_option maxRecDepth 100000 in
set_option maxHeartbeats 8000000 in
theorem rEnRead_4 (s : ByteArray) (w : World) (hl : s.size ≤ 100000) (kd : Int) (hk : kd = 4) (j1 : Nat) (b1 : Bool) (hz1 : rdNum (lb s) 0 false 0 127 = (kd, j1, b1)) :
    Calls Tryz.prog 22 #[.string s] w (ErRn (readE 0 1048576 127 (lb s)).1 (readE 0 1048576 127 (lb s)).2 w) := by
  obtain ⟨p, j2, b2, h1⟩ : ∃ v j c, rdNum (lb s) j1 b1 0 8 = (v, j, c) := ⟨_, _, _, rfl⟩
  obtain ⟨p2, j3, b3, h2⟩ : ∃ v j c, rdNum (lb s) j2 b2 0 100 = (v, j, c) := ⟨_, _, _, rfl⟩
  obtain ⟨n, j4, b4, h3⟩ : ∃ v j c, rdNum (lb s) j3 b3 0 1048576 = (v, j, c) := ⟨_, _, _, rfl⟩
  have HZ1 := Lib.hid h1
  have HZ2 := Lib.hid h2
  have HZ3 := Lib.hid h3
  have HKD := Lib.hid hk
  obtain ⟨q, hq⟩ : ∃ q, q = enOf kd (wh p p2, false, n, 0, Rw0, Pd0) := ⟨_, rfl⟩
  have hzE : rdE 0 1048576 kd (lb s) j1 b1 = ((wh p p2, false, n, 0, Rw0, Pd0), j4, b4) := by
    have h1' : rdNum (lb s) j1 b1 ((0 : Nat) : Int) 8 = (p, j2, b2) := h1
    rw [hk]; show rdE4 0 (lb s) j1 b1 = _; simp only [rdE4, rdMap, rdBind, h1', h2, h3]
  have hraw : readE 0 1048576 127 (lb s) = if b4 = true ∨ j4 ≠ (lb s).length ∨ mayEn q = false then (En0, 70) else (q, 0) := by
    unfold readE
    have hz1' : rdNum (lb s) 0 false 0 ((127 : Nat) : Int) = (kd, j1, b1) := hz1
    have e : rdEn 0 1048576 127 (lb s) 0 false = (q, j4, b4) := by simp only [rdEn, rdMap, rdBind, hz1', hzE, hq]
    rw [e]
  have hlen := rdE_len 0 1048576 kd (lb s) j1 b1
  rw [hzE] at hlen
  have hqr : q.b.rs.length ≤ 4 ∧ q.prod.seen.length ≤ 3 := by rw [hq]; exact hlen
  have hkd : 0 ≤ kd ∧ kd ≤ 127 := by rcases rdNum_rng hz1 with h | h <;> omega
  have cc0 : (kd == 0) = false := by rw [hk]; rfl
  have cc1 : (kd == 1) = false := by rw [hk]; rfl
  have cc2 : (kd == 2) = false := by rw [hk]; rfl
  have cc3 : (kd == 3) = false := by rw [hk]; rfl
  have cc4 : (kd == 4) = true := by rw [hk]; rfl
  have cc5 : (kd == 5) = false := by rw [hk]; rfl
  have cc6 : (kd == 6) = false := by rw [hk]; rfl
  obtain ⟨W0, hW0⟩ : ∃ W0, W0 = (w.alloc (.cells #[.int .i8 0, .int .i64 0, .int .i64 0, .int .i64 0, .bool false, .slice none 0 0, .bool false, .int .i64 0, .int .i64 0, .int .i64 0, .int .i64 0, .int .i64 0, .string ⟨#[]⟩, .string ⟨#[]⟩, .int .i64 0, .int .i64 0, .int .i64 0, .slice none 0 0] 32)).alloc (.cells #[.string s, .int .i64 0, .bool false] 118) := ⟨_, rfl⟩
  have hs0 : W0.heap.size = w.heap.size + 1 + 1 := by rw [hW0]; simp
  have B0 : Below w.heap.size w W0 := by rw [hW0]; exact bal (bal (Below.refl _ _) _) _
  have K0 : Blk W0 w.heap.size 32 ezero := by rw [hW0]; exact (blk_new w _ _ rfl).alloc _
  have KR : RdR W0 (w.heap.size + 1) s 0 false := by rw [hW0]; exact blk_new _ _ _ (by simp)
  have RK : RrOk W0.heap.size W0 (w.heap.size + 1) s 0 false := ⟨KR, Nat.zero_le _, by omega, by omega, Nat.le_refl _⟩
  have N1 := Lib.hid (rRNum_z hz1 RK)
  have HR := Lib.hid hraw
  have HW := Lib.hid hW0
  have HB0 := Lib.hid B0
  have HK0 := Lib.hid K0
  have HQ := Lib.hid hq
  have HS0 := Lib.hid hs0
  have cv : IntKind.i8.wrap kd = kd := IntWalk.i8_in _ (by omega)
  clear hraw hz1 B0 K0 KR RK hW0 hq hk hlen hkd hzE hs0 hl
  go_enter Tryz.func22, Tryz.ntmps22
  go_wp2_with fail
  refine (rRNew_any s _).mono ?_
  rintro e w1 ⟨rfl, rfl⟩
  go_upto_region 2 with (fail)
  rw [← HW.out]
  go_wp2_with fail
  refine N1.out.mono ?_
  rintro e w1 ⟨rfl, r1, o1⟩
  obtain ⟨W2, st, kx, bb⟩ := fresh_en w1 #[.int .i8 kd, .int .i64 0, .int .i64 0, .int .i64 0, .bool false, .slice none 0 0, .bool false, .int .i64 0, .int .i64 0, .int .i64 0, .int .i64 0, .int .i64 0, .string ⟨#[]⟩, .string ⟨#[]⟩, .int .i64 0, .int .i64 0, .int .i64 0, .slice none 0 0] rfl (by simp [Value.oneCell'])
  have S2 := Lib.hid (show FrSt W0 W0.heap.size (w.heap.size + 1) w1.heap.size s j1 b1 (baseEn kd) W2 from ⟨none, none, 0, 0, kx, r1.below (bb.mono o1.size), o1.size, World.ownsRow_nil _ _ _ _, World.ownsRow_nil _ _ _ _, ((Goes.refl (show w.heap.size + 1 < W0.heap.size by have := HS0.out; omega)).only o1).below (bb.mono o1.size), fun _ => ⟨rfl, rfl⟩⟩)
  have x0 := kx.cell 0
  have ST := Lib.hid st
  clear r1 o1 kx bb st
  have st : (storeVar 32 ⟨w1.heap.size, 0, none⟩ (.agg #[.int .i8 kd, .int .i64 0, .int .i64 0, .int .i64 0, .bool false, .slice none 0 0, .bool false, .int .i64 0, .int .i64 0, .int .i64 0, .int .i64 0, .int .i64 0, .string ⟨#[]⟩, .string ⟨#[]⟩, .int .i64 0, .int .i64 0, .int .i64 0, .slice none 0 0])).run Tryz.prog _ = .ok () W2 := ST.out
  go_upto_region 3 with (fail)
  clear st ST
  clear h1 h2 h3
  obtain ⟨A2', D2', c2', e2', k2, r2, _⟩ := S2.out
  have NN := Lib.hid (rRNum_z HZ1.out r2)
  clear k2 r2
  go_wp2_with fail
  refine NN.out.mono ?_
  rintro e w3 ⟨rfl, r, o⟩
  have T3 := Lib.hid (S2.out.next r o)
  obtain ⟨A3', D3', c3', e3', k3, _⟩ := T3.out
  have st := store_int7 p (k3.cell 1) (k3.frozen 1)
  clear k3 r o NN x0
  go_upto_region 19 with (fail)
  clear st
  have S3 := Lib.hid (T3.out.put ({ baseEn kd with b := wh p 0 }) 1 (.int .i64 p) rfl rfl rfl (fun _ _ _ _ => rfl))
  generalize w3.setCell ⟨w1.heap.size, 1, none⟩ (.int .i64 p) = V3 at *
  obtain ⟨A3', D3', c3', e3', k3, r3, _⟩ := S3.out
  have NN := Lib.hid (rRNum_z HZ2.out r3)
  clear k3 r3
  go_wp2_with fail
  refine NN.out.mono ?_
  rintro e w4 ⟨rfl, r, o⟩
  have T4 := Lib.hid (S3.out.next r o)
  obtain ⟨A4', D4', c4', e4', k4, _⟩ := T4.out
  have st := store_int7 p2 (k4.cell 2) (k4.frozen 2)
  clear k4 r o NN
  go_upto_region 20 with (fail)
  clear st
  have S4 := Lib.hid (T4.out.put ({ baseEn kd with b := wh p p2 }) 2 (.int .i64 p2) rfl rfl rfl (fun _ _ _ _ => rfl))
  generalize w4.setCell ⟨w1.heap.size, 2, none⟩ (.int .i64 p2) = V4 at *
  obtain ⟨A4', D4', c4', e4', k4, r4, _⟩ := S4.out
  have NN := Lib.hid (rRNum_z HZ3.out r4)
  clear k4 r4
  go_wp2_with fail
  refine NN.out.mono ?_
  rintro e w5 ⟨rfl, r, o⟩
  have T5 := Lib.hid (S4.out.next r o)
  obtain ⟨A5', D5', c5', e5', k5, _⟩ := T5.out
  have st := store_int7 n (k5.cell 7) (k5.frozen 7)
  clear k5 r o NN
  go_upto_region 38 with (fail)
  clear st
  have S5 := Lib.hid (T5.out.put ({ baseEn kd with b := wh p p2, nx := n }) 7 (.int .i64 n) rfl rfl rfl (fun _ _ _ _ => rfl))
  generalize w5.setCell ⟨w1.heap.size, 7, none⟩ (.int .i64 n) = V5 at *
  obtain ⟨A9, D9, c9, e9, k4, r4, _, ow1, ow2, gg, _⟩ := S5.out
  have E1 := Lib.hid (rREnd_any (w.heap.size + 1) s j4 b4 V5 r4.1)
  have K4 := Lib.hid (show Blk V5 w1.heap.size 32 #[.int .i8 q.kd, .int .i64 q.b.pid, .int .i64 q.b.ep, .int .i64 q.b.seq, .bool q.b.txn, .slice A9 q.b.rs.length c9, .bool q.yes, .int .i64 q.nx, .int .i64 q.off, .int .i64 q.row.1, .int .i64 q.row.2.1, .int .i64 q.row.2.2.1, .string q.row.2.2.2.1, .string q.row.2.2.2.2, .int .i64 q.prod.pid, .int .i64 q.prod.ep, .int .i64 q.prod.nx, .slice D9 q.prod.seen.length e9] by rw [HQ.out]; exact k4)
  have OW1 := Lib.hid (show World.ownsRow V5 (w1.heap.size + 1) 60 2 (.slice A9 q.b.rs.length c9) q.b.rs.length (cellsR q.b.rs) by rw [HQ.out]; exact ow1)
  have OW2 := Lib.hid (show World.ownsRow V5 (w1.heap.size + 1) 73 3 (.slice D9 q.prod.seen.length e9) q.prod.seen.length (cellsN q.prod.seen) by rw [HQ.out]; exact ow2)
  have KT := Lib.hid (gg.1.blk HK0.out (by omega))
  have BE := Lib.hid (HB0.out.trans (gg.1.below HB0.out.size (fun x hx => by omega)))
  have HX := Lib.hid (show w.heap.size < w1.heap.size by have := k4.lt; have := HS0.out; have := S2.out.choose_spec.choose_spec.choose_spec.choose_spec.2.2.1; omega)
  clear k4 r4 ow1 ow2 gg HQ
  by_cases hE : b4 = true ∨ j4 ≠ s.size
  · have he : endOf s.size j4 b4 = 70 := by unfold endOf; rw [if_pos hE]
    rw [he] at E1
    have HRR := Lib.hid (show readE 0 1048576 127 (lb s) = (En0, 70) by
      rw [HR.out, length_lb]
      rcases hE with h | h
      · rw [if_pos (.inl h)]
      · rw [if_pos (.inr (.inl h))])
    clear hE he
    go_wp2_with fail
    refine E1.out.mono ?_
    rintro e w5 ⟨rfl, n5, rfl⟩
    obtain ⟨W', st, kw, hsz, fb, fk⟩ := store_blk (cs := ezero) (KT.out.drewN n5) rfl rfl (by simp [Value.oneCell'])
    have BW := Lib.hid (fb _ w (Nat.le_refl _) (below_drewN BE.out n5))
    have KW := Lib.hid kw
    clear kw hsz fb fk
    go_wp2_with fail
    refine bodyPost_ret (v := .tuple #[(.agg #[.int .i8 0, .int .i64 0, .int .i64 0, .int .i64 0, .bool false, .slice none 0 0, .bool false, .int .i64 0, .int .i64 0, .int .i64 0, .int .i64 0, .int .i64 0, .string ⟨#[]⟩, .string ⟨#[]⟩, .int .i64 0, .int .i64 0, .int .i64 0, .slice none 0 0]), .int .i64 70]) (rerread_ret En0 none none 0 0 70 _ w.heap.size _ rfl rfl KW.out) rfl ?_
    rw [HRR.out]
    exact ⟨none, none, 0, 0, rfl, ⟨Reads.none_, Reads.none_, Nat.zero_le _, Nat.zero_le _⟩, BW.out, NwE.nil⟩
  · have he : endOf s.size j4 b4 = 0 := by unfold endOf; rw [if_neg hE]
    rw [he] at E1
    have HE := Lib.hid hE
    clear hE he
    go_wp2_with fail
    refine E1.out.mono ?_
    rintro e w5 ⟨rfl, n5, rfl⟩
    have LM := cells_blk (K4.out.drewN n5) rfl
    have ER5 : EnR (World.drewN V5 n5) q A9 D9 := ⟨Reads.of_own (own_below OW1.out (below_drewN (Below.refl _ _) n5)), Reads.of_own (own_below OW2.out (below_drewN (Below.refl _ _) n5)), by omega, by omega⟩
    have MY := Lib.hid (rEnMay_any q A9 D9 c9 e9 _ ER5)
    clear ER5
    cases hmy : mayEn q
    · rw [hmy] at MY
      have HRR := Lib.hid (show readE 0 1048576 127 (lb s) = (En0, 70) by rw [HR.out, if_pos (.inr (.inr hmy))])
      clear hmy
      go_wp2_with fail
      refine MY.out.mono ?_
      rintro e w6 ⟨rfl, b6⟩
      obtain ⟨W', st, kw, hsz, fb, fk⟩ := store_blk (cs := ezero) ((KT.out.drewN n5).below b6 (KT.out.drewN n5).lt) rfl rfl (by simp [Value.oneCell'])
      have BW := Lib.hid (fb _ w (Nat.le_refl _) (btrans (below_drewN BE.out n5) b6))
      have KW := Lib.hid kw
      clear kw hsz fb fk LM b6
      go_wp2_with fail
      refine bodyPost_ret (v := .tuple #[(.agg #[.int .i8 0, .int .i64 0, .int .i64 0, .int .i64 0, .bool false, .slice none 0 0, .bool false, .int .i64 0, .int .i64 0, .int .i64 0, .int .i64 0, .int .i64 0, .string ⟨#[]⟩, .string ⟨#[]⟩, .int .i64 0, .int .i64 0, .int .i64 0, .slice none 0 0]), .int .i64 70]) (rerread_ret En0 none none 0 0 70 _ w.heap.size _ rfl rfl KW.out) rfl ?_
      rw [HRR.out]
      exact ⟨none, none, 0, 0, rfl, ⟨Reads.none_, Reads.none_, Nat.zero_le _, Nat.zero_le _⟩, BW.out, NwE.nil⟩
    · rw [hmy] at MY
      have HRR := Lib.hid (show readE 0 1048576 127 (lb s) = (q, 0) by
        rw [HR.out, if_neg]
        rw [length_lb, hmy]
        rintro (h | h | h)
        · exact HE.out (.inl h)
        · exact HE.out (.inr h)
        · cases h)
      clear hmy
      go_wp2_with fail
      refine MY.out.mono ?_
      rintro e w6 ⟨rfl, b6⟩
      have LM6 := cells_blk ((K4.out.drewN n5).below b6 (K4.out.drewN n5).lt) rfl
      obtain ⟨W', st, kw, fb, fh⟩ := store_blk2 (cs := #[.int .i8 q.kd, .int .i64 q.b.pid, .int .i64 q.b.ep, .int .i64 q.b.seq, .bool q.b.txn, .slice A9 q.b.rs.length c9, .bool q.yes, .int .i64 q.nx, .int .i64 q.off, .int .i64 q.row.1, .int .i64 q.row.2.1, .int .i64 q.row.2.2.1, .string q.row.2.2.2.1, .string q.row.2.2.2.2, .int .i64 q.prod.pid, .int .i64 q.prod.ep, .int .i64 q.prod.nx, .slice D9 q.prod.seen.length e9]) ((KT.out.drewN n5).below b6 (KT.out.drewN n5).lt) rfl rfl (by simp [Value.oneCell'])
      have BW := Lib.hid (fb _ w (Nat.le_refl _) (btrans (below_drewN BE.out n5) b6))
      have p1 := own_below (own_below OW1.out (below_drewN (Below.refl _ _) n5)) b6
      have p2 := own_below (own_below OW2.out (below_drewN (Below.refl _ _) n5)) b6
      have q1 := own_keepN p1 (fun y hy => fh y (by have := (p1.lt y hy).1; have := HX.out; omega))
      have q2 := own_keepN p2 (fun y hy => fh y (by have := (p2.lt y hy).1; have := HX.out; omega))
      have NW := Lib.hid (show NwE w.heap.size A9 D9 from ⟨fun ad h => by have := (q1.lt ad.block (by rw [h]; rfl)).1; have := HX.out; omega, fun ad h => by have := (q2.lt ad.block (by rw [h]; rfl)).1; have := HX.out; omega⟩)
      have EF := Lib.hid (show EnR W' q A9 D9 from ⟨Reads.of_own q1, Reads.of_own q2, by omega, by omega⟩)
      have KW := Lib.hid kw
      clear kw fb fh LM p1 p2 q1 q2 b6
      go_wp2_with fail
      refine bodyPost_ret (v := .tuple #[(.agg #[.int .i8 q.kd, .int .i64 q.b.pid, .int .i64 q.b.ep, .int .i64 q.b.seq, .bool q.b.txn, .slice A9 q.b.rs.length c9, .bool q.yes, .int .i64 q.nx, .int .i64 q.off, .int .i64 q.row.1, .int .i64 q.row.2.1, .int .i64 q.row.2.2.1, .string q.row.2.2.2.1, .string q.row.2.2.2.2, .int .i64 q.prod.pid, .int .i64 q.prod.ep, .int .i64 q.prod.nx, .slice D9 q.prod.seen.length e9]), .int .i64 0]) (rerread_ret q A9 D9 c9 e9 0 _ w.heap.size _ rfl rfl KW.out) rfl ?_
      rw [HRR.out]
      exact ⟨A9, D9, c9, e9, rfl, EF.out, BW.out, NW.out⟩
set_option maxRecDepth 100000 in
set_option maxHeartbeats 8000000 in
theorem rEnRead_5 (s : ByteArray) (w : World) (hl : s.size ≤ 100000) (kd : Int) (hk : kd = 5) (j1 : Nat) (b1 : Bool) (hz1 : rdNum (lb s) 0 false 0 127 = (kd, j1, b1)) :
    Calls Tryz.prog 22 #[.string s] w (ErRn (readE 0 1048576 127 (lb s)).1 (readE 0 1048576 127 (lb s)).2 w) := by
  obtain ⟨p, j2, b2, h1⟩ : ∃ v j c, rdNum (lb s) j1 b1 0 8 = (v, j, c) := ⟨_, _, _, rfl⟩
  obtain ⟨p2, j3, b3, h2⟩ : ∃ v j c, rdNum (lb s) j2 b2 0 1048576 = (v, j, c) := ⟨_, _, _, rfl⟩
  obtain ⟨k, j4, b4, h3⟩ : ∃ v j c, rdTxt (lb s) j3 b3 16 = (v, j, c) := ⟨_, _, _, rfl⟩
  obtain ⟨v, j5, b5, h4⟩ : ∃ v j c, rdTxt (lb s) j4 b4 16 = (v, j, c) := ⟨_, _, _, rfl⟩
  have HZ1 := Lib.hid h1
  have HZ2 := Lib.hid h2
  have HZ3 := Lib.hid h3
  have HZ4 := Lib.hid h4
  have HKD := Lib.hid hk
  obtain ⟨q, hq⟩ : ∃ q, q = enOf kd (Bat0, false, 0, 0, (0, p, p2, bs k, bs v), Pd0) := ⟨_, rfl⟩
  have hzE : rdE 0 1048576 kd (lb s) j1 b1 = ((Bat0, false, 0, 0, (0, p, p2, bs k, bs v), Pd0), j5, b5) := by
    have h1' : rdNum (lb s) j1 b1 ((0 : Nat) : Int) 8 = (p, j2, b2) := h1
    have h2' : rdNum (lb s) j2 b2 0 ((1048576 : Nat) : Int) = (p2, j3, b3) := h2
    rw [hk]; show rdE5 0 1048576 (lb s) j1 b1 = _; simp only [rdE5, rdMap, rdBind, h1', h2', h3, h4]
  have hraw : readE 0 1048576 127 (lb s) = if b5 = true ∨ j5 ≠ (lb s).length ∨ mayEn q = false then (En0, 70) else (q, 0) := by
    unfold readE
    have hz1' : rdNum (lb s) 0 false 0 ((127 : Nat) : Int) = (kd, j1, b1) := hz1
    have e : rdEn 0 1048576 127 (lb s) 0 false = (q, j5, b5) := by simp only [rdEn, rdMap, rdBind, hz1', hzE, hq]
    rw [e]
  have hlen := rdE_len 0 1048576 kd (lb s) j1 b1
  rw [hzE] at hlen
  have hqr : q.b.rs.length ≤ 4 ∧ q.prod.seen.length ≤ 3 := by rw [hq]; exact hlen
  have hkd : 0 ≤ kd ∧ kd ≤ 127 := by rcases rdNum_rng hz1 with h | h <;> omega
  have cc0 : (kd == 0) = false := by rw [hk]; rfl
  have cc1 : (kd == 1) = false := by rw [hk]; rfl
  have cc2 : (kd == 2) = false := by rw [hk]; rfl
  have cc3 : (kd == 3) = false := by rw [hk]; rfl
  have cc4 : (kd == 4) = false := by rw [hk]; rfl
  have cc5 : (kd == 5) = true := by rw [hk]; rfl
  have cc6 : (kd == 6) = false := by rw [hk]; rfl
  obtain ⟨W0, hW0⟩ : ∃ W0, W0 = (w.alloc (.cells #[.int .i8 0, .int .i64 0, .int .i64 0, .int .i64 0, .bool false, .slice none 0 0, .bool false, .int .i64 0, .int .i64 0, .int .i64 0, .int .i64 0, .int .i64 0, .string ⟨#[]⟩, .string ⟨#[]⟩, .int .i64 0, .int .i64 0, .int .i64 0, .slice none 0 0] 32)).alloc (.cells #[.string s, .int .i64 0, .bool false] 118) := ⟨_, rfl⟩
  have hs0 : W0.heap.size = w.heap.size + 1 + 1 := by rw [hW0]; simp
  have B0 : Below w.heap.size w W0 := by rw [hW0]; exact bal (bal (Below.refl _ _) _) _
  have K0 : Blk W0 w.heap.size 32 ezero := by rw [hW0]; exact (blk_new w _ _ rfl).alloc _
  have KR : RdR W0 (w.heap.size + 1) s 0 false := by rw [hW0]; exact blk_new _ _ _ (by simp)
  have RK : RrOk W0.heap.size W0 (w.heap.size + 1) s 0 false := ⟨KR, Nat.zero_le _, by omega, by omega, Nat.le_refl _⟩
  have N1 := Lib.hid (rRNum_z hz1 RK)
  have HR := Lib.hid hraw
  have HW := Lib.hid hW0
  have HB0 := Lib.hid B0
  have HK0 := Lib.hid K0
  have HQ := Lib.hid hq
  have HS0 := Lib.hid hs0
  have cv : IntKind.i8.wrap kd = kd := IntWalk.i8_in _ (by omega)
  clear hraw hz1 B0 K0 KR RK hW0 hq hk hlen hkd hzE hs0 hl
  go_enter Tryz.func22, Tryz.ntmps22
  go_wp2_with fail
  refine (rRNew_any s _).mono ?_
  rintro e w1 ⟨rfl, rfl⟩
  go_upto_region 2 with (fail)
  rw [← HW.out]
  go_wp2_with fail
  refine N1.out.mono ?_
  rintro e w1 ⟨rfl, r1, o1⟩
  obtain ⟨W2, st, kx, bb⟩ := fresh_en w1 #[.int .i8 kd, .int .i64 0, .int .i64 0, .int .i64 0, .bool false, .slice none 0 0, .bool false, .int .i64 0, .int .i64 0, .int .i64 0, .int .i64 0, .int .i64 0, .string ⟨#[]⟩, .string ⟨#[]⟩, .int .i64 0, .int .i64 0, .int .i64 0, .slice none 0 0] rfl (by simp [Value.oneCell'])
  have S2 := Lib.hid (show FrSt W0 W0.heap.size (w.heap.size + 1) w1.heap.size s j1 b1 (baseEn kd) W2 from ⟨none, none, 0, 0, kx, r1.below (bb.mono o1.size), o1.size, World.ownsRow_nil _ _ _ _, World.ownsRow_nil _ _ _ _, ((Goes.refl (show w.heap.size + 1 < W0.heap.size by have := HS0.out; omega)).only o1).below (bb.mono o1.size), fun _ => ⟨rfl, rfl⟩⟩)
  have x0 := kx.cell 0
  have ST := Lib.hid st
  clear r1 o1 kx bb st
  have st : (storeVar 32 ⟨w1.heap.size, 0, none⟩ (.agg #[.int .i8 kd, .int .i64 0, .int .i64 0, .int .i64 0, .bool false, .slice none 0 0, .bool false, .int .i64 0, .int .i64 0, .int .i64 0, .int .i64 0, .int .i64 0, .string ⟨#[]⟩, .string ⟨#[]⟩, .int .i64 0, .int .i64 0, .int .i64 0, .slice none 0 0])).run Tryz.prog _ = .ok () W2 := ST.out
  go_upto_region 3 with (fail)
  clear st ST
  clear h1 h2 h3 h4
  obtain ⟨A2', D2', c2', e2', k2, r2, _⟩ := S2.out
  have NN := Lib.hid (rRNum_z HZ1.out r2)
  clear k2 r2
  go_wp2_with fail
  refine NN.out.mono ?_
  rintro e w3 ⟨rfl, r, o⟩
  have T3 := Lib.hid (S2.out.next r o)
  obtain ⟨A3', D3', c3', e3', k3, _⟩ := T3.out
  have st := store_int7 p (k3.cell 10) (k3.frozen 10)
  clear k3 r o NN x0
  go_upto_region 23 with (fail)
  clear st
  have S3 := Lib.hid (T3.out.put ({ baseEn kd with row := (0, p, 0, ⟨#[]⟩, ⟨#[]⟩) }) 10 (.int .i64 p) rfl rfl rfl (fun _ _ _ _ => rfl))
  generalize w3.setCell ⟨w1.heap.size, 10, none⟩ (.int .i64 p) = V3 at *
  obtain ⟨A3', D3', c3', e3', k3, r3, _⟩ := S3.out
  have NN := Lib.hid (rRNum_z HZ2.out r3)
  clear k3 r3
  go_wp2_with fail
  refine NN.out.mono ?_
  rintro e w4 ⟨rfl, r, o⟩
  have T4 := Lib.hid (S3.out.next r o)
  obtain ⟨A4', D4', c4', e4', k4, _⟩ := T4.out
  have st := store_int7 p2 (k4.cell 11) (k4.frozen 11)
  clear k4 r o NN
  go_upto_region 24 with (fail)
  clear st
  have S4 := Lib.hid (T4.out.put ({ baseEn kd with row := (0, p, p2, ⟨#[]⟩, ⟨#[]⟩) }) 11 (.int .i64 p2) rfl rfl rfl (fun _ _ _ _ => rfl))
  generalize w4.setCell ⟨w1.heap.size, 11, none⟩ (.int .i64 p2) = V4 at *
  obtain ⟨A4', D4', c4', e4', k4, r4, _⟩ := S4.out
  have NN := Lib.hid (rRTxt_z HZ3.out r4)
  clear k4 r4
  go_wp2_with fail
  refine NN.out.mono ?_
  rintro e w5 ⟨rfl, r, o⟩
  have T5 := Lib.hid (S4.out.next r o)
  obtain ⟨A5', D5', c5', e5', k5, _⟩ := T5.out
  have st := store_str7 (bs k) (k5.cell 12) (k5.frozen 12)
  clear k5 r o NN
  go_upto_region 25 with (fail)
  clear st
  have S5 := Lib.hid (T5.out.put ({ baseEn kd with row := (0, p, p2, bs k, ⟨#[]⟩) }) 12 (.string (bs k)) rfl rfl rfl (fun _ _ _ _ => rfl))
  generalize w5.setCell ⟨w1.heap.size, 12, none⟩ (.string (bs k)) = V5 at *
  obtain ⟨A5', D5', c5', e5', k5, r5, _⟩ := S5.out
  have NN := Lib.hid (rRTxt_z HZ4.out r5)
  clear k5 r5
  go_wp2_with fail
  refine NN.out.mono ?_
  rintro e w6 ⟨rfl, r, o⟩
  have T6 := Lib.hid (S5.out.next r o)
  obtain ⟨A6', D6', c6', e6', k6, _⟩ := T6.out
  have st := store_str7 (bs v) (k6.cell 13) (k6.frozen 13)
  clear k6 r o NN
  go_upto_region 38 with (fail)
  clear st
  have S6 := Lib.hid (T6.out.put ({ baseEn kd with row := (0, p, p2, bs k, bs v) }) 13 (.string (bs v)) rfl rfl rfl (fun _ _ _ _ => rfl))
  generalize w6.setCell ⟨w1.heap.size, 13, none⟩ (.string (bs v)) = V6 at *
  obtain ⟨A9, D9, c9, e9, k4, r4, _, ow1, ow2, gg, _⟩ := S6.out
  have E1 := Lib.hid (rREnd_any (w.heap.size + 1) s j5 b5 V6 r4.1)
  have K4 := Lib.hid (show Blk V6 w1.heap.size 32 #[.int .i8 q.kd, .int .i64 q.b.pid, .int .i64 q.b.ep, .int .i64 q.b.seq, .bool q.b.txn, .slice A9 q.b.rs.length c9, .bool q.yes, .int .i64 q.nx, .int .i64 q.off, .int .i64 q.row.1, .int .i64 q.row.2.1, .int .i64 q.row.2.2.1, .string q.row.2.2.2.1, .string q.row.2.2.2.2, .int .i64 q.prod.pid, .int .i64 q.prod.ep, .int .i64 q.prod.nx, .slice D9 q.prod.seen.length e9] by rw [HQ.out]; exact k4)
  have OW1 := Lib.hid (show World.ownsRow V6 (w1.heap.size + 1) 60 2 (.slice A9 q.b.rs.length c9) q.b.rs.length (cellsR q.b.rs) by rw [HQ.out]; exact ow1)
  have OW2 := Lib.hid (show World.ownsRow V6 (w1.heap.size + 1) 73 3 (.slice D9 q.prod.seen.length e9) q.prod.seen.length (cellsN q.prod.seen) by rw [HQ.out]; exact ow2)
  have KT := Lib.hid (gg.1.blk HK0.out (by omega))
  have BE := Lib.hid (HB0.out.trans (gg.1.below HB0.out.size (fun x hx => by omega)))
  have HX := Lib.hid (show w.heap.size < w1.heap.size by have := k4.lt; have := HS0.out; have := S2.out.choose_spec.choose_spec.choose_spec.choose_spec.2.2.1; omega)
  clear k4 r4 ow1 ow2 gg HQ
  by_cases hE : b5 = true ∨ j5 ≠ s.size
  · have he : endOf s.size j5 b5 = 70 := by unfold endOf; rw [if_pos hE]
    rw [he] at E1
    have HRR := Lib.hid (show readE 0 1048576 127 (lb s) = (En0, 70) by
      rw [HR.out, length_lb]
      rcases hE with h | h
      · rw [if_pos (.inl h)]
      · rw [if_pos (.inr (.inl h))])
    clear hE he
    go_wp2_with fail
    refine E1.out.mono ?_
    rintro e w5 ⟨rfl, n5, rfl⟩
    obtain ⟨W', st, kw, hsz, fb, fk⟩ := store_blk (cs := ezero) (KT.out.drewN n5) rfl rfl (by simp [Value.oneCell'])
    have BW := Lib.hid (fb _ w (Nat.le_refl _) (below_drewN BE.out n5))
    have KW := Lib.hid kw
    clear kw hsz fb fk
    go_wp2_with fail
    refine bodyPost_ret (v := .tuple #[(.agg #[.int .i8 0, .int .i64 0, .int .i64 0, .int .i64 0, .bool false, .slice none 0 0, .bool false, .int .i64 0, .int .i64 0, .int .i64 0, .int .i64 0, .int .i64 0, .string ⟨#[]⟩, .string ⟨#[]⟩, .int .i64 0, .int .i64 0, .int .i64 0, .slice none 0 0]), .int .i64 70]) (rerread_ret En0 none none 0 0 70 _ w.heap.size _ rfl rfl KW.out) rfl ?_
    rw [HRR.out]
    exact ⟨none, none, 0, 0, rfl, ⟨Reads.none_, Reads.none_, Nat.zero_le _, Nat.zero_le _⟩, BW.out, NwE.nil⟩
  · have he : endOf s.size j5 b5 = 0 := by unfold endOf; rw [if_neg hE]
    rw [he] at E1
    have HE := Lib.hid hE
    clear hE he
    go_wp2_with fail
    refine E1.out.mono ?_
    rintro e w5 ⟨rfl, n5, rfl⟩
    have LM := cells_blk (K4.out.drewN n5) rfl
    have ER5 : EnR (World.drewN V6 n5) q A9 D9 := ⟨Reads.of_own (own_below OW1.out (below_drewN (Below.refl _ _) n5)), Reads.of_own (own_below OW2.out (below_drewN (Below.refl _ _) n5)), by omega, by omega⟩
    have MY := Lib.hid (rEnMay_any q A9 D9 c9 e9 _ ER5)
    clear ER5
    cases hmy : mayEn q
    · rw [hmy] at MY
      have HRR := Lib.hid (show readE 0 1048576 127 (lb s) = (En0, 70) by rw [HR.out, if_pos (.inr (.inr hmy))])
      clear hmy
      go_wp2_with fail
      refine MY.out.mono ?_
      rintro e w6 ⟨rfl, b6⟩
      obtain ⟨W', st, kw, hsz, fb, fk⟩ := store_blk (cs := ezero) ((KT.out.drewN n5).below b6 (KT.out.drewN n5).lt) rfl rfl (by simp [Value.oneCell'])
      have BW := Lib.hid (fb _ w (Nat.le_refl _) (btrans (below_drewN BE.out n5) b6))
      have KW := Lib.hid kw
      clear kw hsz fb fk LM b6
      go_wp2_with fail
      refine bodyPost_ret (v := .tuple #[(.agg #[.int .i8 0, .int .i64 0, .int .i64 0, .int .i64 0, .bool false, .slice none 0 0, .bool false, .int .i64 0, .int .i64 0, .int .i64 0, .int .i64 0, .int .i64 0, .string ⟨#[]⟩, .string ⟨#[]⟩, .int .i64 0, .int .i64 0, .int .i64 0, .slice none 0 0]), .int .i64 70]) (rerread_ret En0 none none 0 0 70 _ w.heap.size _ rfl rfl KW.out) rfl ?_
      rw [HRR.out]
      exact ⟨none, none, 0, 0, rfl, ⟨Reads.none_, Reads.none_, Nat.zero_le _, Nat.zero_le _⟩, BW.out, NwE.nil⟩
    · rw [hmy] at MY
      have HRR := Lib.hid (show readE 0 1048576 127 (lb s) = (q, 0) by
        rw [HR.out, if_neg]
        rw [length_lb, hmy]
        rintro (h | h | h)
        · exact HE.out (.inl h)
        · exact HE.out (.inr h)
        · cases h)
      clear hmy
      go_wp2_with fail
      refine MY.out.mono ?_
      rintro e w6 ⟨rfl, b6⟩
      have LM6 := cells_blk ((K4.out.drewN n5).below b6 (K4.out.drewN n5).lt) rfl
      obtain ⟨W', st, kw, fb, fh⟩ := store_blk2 (cs := #[.int .i8 q.kd, .int .i64 q.b.pid, .int .i64 q.b.ep, .int .i64 q.b.seq, .bool q.b.txn, .slice A9 q.b.rs.length c9, .bool q.yes, .int .i64 q.nx, .int .i64 q.off, .int .i64 q.row.1, .int .i64 q.row.2.1, .int .i64 q.row.2.2.1, .string q.row.2.2.2.1, .string q.row.2.2.2.2, .int .i64 q.prod.pid, .int .i64 q.prod.ep, .int .i64 q.prod.nx, .slice D9 q.prod.seen.length e9]) ((KT.out.drewN n5).below b6 (KT.out.drewN n5).lt) rfl rfl (by simp [Value.oneCell'])
      have BW := Lib.hid (fb _ w (Nat.le_refl _) (btrans (below_drewN BE.out n5) b6))
      have p1 := own_below (own_below OW1.out (below_drewN (Below.refl _ _) n5)) b6
      have p2 := own_below (own_below OW2.out (below_drewN (Below.refl _ _) n5)) b6
      have q1 := own_keepN p1 (fun y hy => fh y (by have := (p1.lt y hy).1; have := HX.out; omega))
      have q2 := own_keepN p2 (fun y hy => fh y (by have := (p2.lt y hy).1; have := HX.out; omega))
      have NW := Lib.hid (show NwE w.heap.size A9 D9 from ⟨fun ad h => by have := (q1.lt ad.block (by rw [h]; rfl)).1; have := HX.out; omega, fun ad h => by have := (q2.lt ad.block (by rw [h]; rfl)).1; have := HX.out; omega⟩)
      have EF := Lib.hid (show EnR W' q A9 D9 from ⟨Reads.of_own q1, Reads.of_own q2, by omega, by omega⟩)
      have KW := Lib.hid kw
      clear kw fb fh LM p1 p2 q1 q2 b6
      go_wp2_with fail
      refine bodyPost_ret (v := .tuple #[(.agg #[.int .i8 q.kd, .int .i64 q.b.pid, .int .i64 q.b.ep, .int .i64 q.b.seq, .bool q.b.txn, .slice A9 q.b.rs.length c9, .bool q.yes, .int .i64 q.nx, .int .i64 q.off, .int .i64 q.row.1, .int .i64 q.row.2.1, .int .i64 q.row.2.2.1, .string q.row.2.2.2.1, .string q.row.2.2.2.2, .int .i64 q.prod.pid, .int .i64 q.prod.ep, .int .i64 q.prod.nx, .slice D9 q.prod.seen.length e9]), .int .i64 0]) (rerread_ret q A9 D9 c9 e9 0 _ w.heap.size _ rfl rfl KW.out) rfl ?_
      rw [HRR.out]
      exact ⟨A9, D9, c9, e9, rfl, EF.out, BW.out, NW.out⟩
set_option maxRecDepth 100000 in
set_option maxHeartbeats 8000000 in
theorem rEnRead_9 (s : ByteArray) (w : World) (hl : s.size ≤ 100000) (kd : Int) (n0 : ¬ kd = 0) (n1 : ¬ kd = 1) (n2 : ¬ kd = 2) (n3 : ¬ kd = 3) (n4 : ¬ kd = 4) (n5 : ¬ kd = 5) (n6 : ¬ kd = 6) (j1 : Nat) (b1 : Bool) (hz1 : rdNum (lb s) 0 false 0 127 = (kd, j1, b1)) :
    Calls Tryz.prog 22 #[.string s] w (ErRn (readE 0 1048576 127 (lb s)).1 (readE 0 1048576 127 (lb s)).2 w) := by

  obtain ⟨q, hq⟩ : ∃ q, q = enOf kd Eb0 := ⟨_, rfl⟩
  have hzE : rdE 0 1048576 kd (lb s) j1 b1 = (Eb0, j1, b1) := by
    unfold rdE; rw [if_neg n0, if_neg n1, if_neg n2, if_neg n3, if_neg n4, if_neg n5, if_neg n6]; rfl
  have hraw : readE 0 1048576 127 (lb s) = if b1 = true ∨ j1 ≠ (lb s).length ∨ mayEn q = false then (En0, 70) else (q, 0) := by
    unfold readE
    have hz1' : rdNum (lb s) 0 false 0 ((127 : Nat) : Int) = (kd, j1, b1) := hz1
    have e : rdEn 0 1048576 127 (lb s) 0 false = (q, j1, b1) := by simp only [rdEn, rdMap, rdBind, hz1', hzE, hq]
    rw [e]
  have hlen := rdE_len 0 1048576 kd (lb s) j1 b1
  rw [hzE] at hlen
  have hqr : q.b.rs.length ≤ 4 ∧ q.prod.seen.length ≤ 3 := by rw [hq]; exact hlen
  have hkd : 0 ≤ kd ∧ kd ≤ 127 := by rcases rdNum_rng hz1 with h | h <;> omega
  have cc0 : (kd == 0) = false := by simpa using n0
  have cc1 : (kd == 1) = false := by simpa using n1
  have cc2 : (kd == 2) = false := by simpa using n2
  have cc3 : (kd == 3) = false := by simpa using n3
  have cc4 : (kd == 4) = false := by simpa using n4
  have cc5 : (kd == 5) = false := by simpa using n5
  have cc6 : (kd == 6) = false := by simpa using n6
  obtain ⟨W0, hW0⟩ : ∃ W0, W0 = (w.alloc (.cells #[.int .i8 0, .int .i64 0, .int .i64 0, .int .i64 0, .bool false, .slice none 0 0, .bool false, .int .i64 0, .int .i64 0, .int .i64 0, .int .i64 0, .int .i64 0, .string ⟨#[]⟩, .string ⟨#[]⟩, .int .i64 0, .int .i64 0, .int .i64 0, .slice none 0 0] 32)).alloc (.cells #[.string s, .int .i64 0, .bool false] 118) := ⟨_, rfl⟩
  have hs0 : W0.heap.size = w.heap.size + 1 + 1 := by rw [hW0]; simp
  have B0 : Below w.heap.size w W0 := by rw [hW0]; exact bal (bal (Below.refl _ _) _) _
  have K0 : Blk W0 w.heap.size 32 ezero := by rw [hW0]; exact (blk_new w _ _ rfl).alloc _
  have KR : RdR W0 (w.heap.size + 1) s 0 false := by rw [hW0]; exact blk_new _ _ _ (by simp)
  have RK : RrOk W0.heap.size W0 (w.heap.size + 1) s 0 false := ⟨KR, Nat.zero_le _, by omega, by omega, Nat.le_refl _⟩
  have N1 := Lib.hid (rRNum_z hz1 RK)
  have HR := Lib.hid hraw
  have HW := Lib.hid hW0
  have HB0 := Lib.hid B0
  have HK0 := Lib.hid K0
  have HQ := Lib.hid hq
  have HS0 := Lib.hid hs0
  have cv : IntKind.i8.wrap kd = kd := IntWalk.i8_in _ (by omega)
  clear hraw hz1 B0 K0 KR RK hW0 hq n0 n1 n2 n3 n4 n5 n6 hlen hkd hzE hs0 hl
  go_enter Tryz.func22, Tryz.ntmps22
  go_wp2_with fail
  refine (rRNew_any s _).mono ?_
  rintro e w1 ⟨rfl, rfl⟩
  go_upto_region 2 with (fail)
  rw [← HW.out]
  go_wp2_with fail
  refine N1.out.mono ?_
  rintro e w1 ⟨rfl, r1, o1⟩
  obtain ⟨W2, st, kx, bb⟩ := fresh_en w1 #[.int .i8 kd, .int .i64 0, .int .i64 0, .int .i64 0, .bool false, .slice none 0 0, .bool false, .int .i64 0, .int .i64 0, .int .i64 0, .int .i64 0, .int .i64 0, .string ⟨#[]⟩, .string ⟨#[]⟩, .int .i64 0, .int .i64 0, .int .i64 0, .slice none 0 0] rfl (by simp [Value.oneCell'])
  have S2 := Lib.hid (show FrSt W0 W0.heap.size (w.heap.size + 1) w1.heap.size s j1 b1 (baseEn kd) W2 from ⟨none, none, 0, 0, kx, r1.below (bb.mono o1.size), o1.size, World.ownsRow_nil _ _ _ _, World.ownsRow_nil _ _ _ _, ((Goes.refl (show w.heap.size + 1 < W0.heap.size by have := HS0.out; omega)).only o1).below (bb.mono o1.size), fun _ => ⟨rfl, rfl⟩⟩)
  have x0 := kx.cell 0
  have ST := Lib.hid st
  clear r1 o1 kx bb st
  have st : (storeVar 32 ⟨w1.heap.size, 0, none⟩ (.agg #[.int .i8 kd, .int .i64 0, .int .i64 0, .int .i64 0, .bool false, .slice none 0 0, .bool false, .int .i64 0, .int .i64 0, .int .i64 0, .int .i64 0, .int .i64 0, .string ⟨#[]⟩, .string ⟨#[]⟩, .int .i64 0, .int .i64 0, .int .i64 0, .slice none 0 0])).run Tryz.prog _ = .ok () W2 := ST.out
  go_upto_region 3 with (fail)
  clear st ST
  go_upto_region 38 with (fail)
  clear x0
  obtain ⟨A9, D9, c9, e9, k4, r4, _, ow1, ow2, gg, _⟩ := S2.out
  have E1 := Lib.hid (rREnd_any (w.heap.size + 1) s j1 b1 W2 r4.1)
  have K4 := Lib.hid (show Blk W2 w1.heap.size 32 #[.int .i8 q.kd, .int .i64 q.b.pid, .int .i64 q.b.ep, .int .i64 q.b.seq, .bool q.b.txn, .slice A9 q.b.rs.length c9, .bool q.yes, .int .i64 q.nx, .int .i64 q.off, .int .i64 q.row.1, .int .i64 q.row.2.1, .int .i64 q.row.2.2.1, .string q.row.2.2.2.1, .string q.row.2.2.2.2, .int .i64 q.prod.pid, .int .i64 q.prod.ep, .int .i64 q.prod.nx, .slice D9 q.prod.seen.length e9] by rw [HQ.out]; exact k4)
  have OW1 := Lib.hid (show World.ownsRow W2 (w1.heap.size + 1) 60 2 (.slice A9 q.b.rs.length c9) q.b.rs.length (cellsR q.b.rs) by rw [HQ.out]; exact ow1)
  have OW2 := Lib.hid (show World.ownsRow W2 (w1.heap.size + 1) 73 3 (.slice D9 q.prod.seen.length e9) q.prod.seen.length (cellsN q.prod.seen) by rw [HQ.out]; exact ow2)
  have KT := Lib.hid (gg.1.blk HK0.out (by omega))
  have BE := Lib.hid (HB0.out.trans (gg.1.below HB0.out.size (fun x hx => by omega)))
  have HX := Lib.hid (show w.heap.size < w1.heap.size by have := k4.lt; have := HS0.out; have := S2.out.choose_spec.choose_spec.choose_spec.choose_spec.2.2.1; omega)
  clear k4 r4 ow1 ow2 gg HQ
  by_cases hE : b1 = true ∨ j1 ≠ s.size
  · have he : endOf s.size j1 b1 = 70 := by unfold endOf; rw [if_pos hE]
    rw [he] at E1
    have HRR := Lib.hid (show readE 0 1048576 127 (lb s) = (En0, 70) by
      rw [HR.out, length_lb]
      rcases hE with h | h
      · rw [if_pos (.inl h)]
      · rw [if_pos (.inr (.inl h))])
    clear hE he
    go_wp2_with fail
    refine E1.out.mono ?_
    rintro e w5 ⟨rfl, n5, rfl⟩
    obtain ⟨W', st, kw, hsz, fb, fk⟩ := store_blk (cs := ezero) (KT.out.drewN n5) rfl rfl (by simp [Value.oneCell'])
    have BW := Lib.hid (fb _ w (Nat.le_refl _) (below_drewN BE.out n5))
    have KW := Lib.hid kw
    clear kw hsz fb fk
    go_wp2_with fail
    refine bodyPost_ret (v := .tuple #[(.agg #[.int .i8 0, .int .i64 0, .int .i64 0, .int .i64 0, .bool false, .slice none 0 0, .bool false, .int .i64 0, .int .i64 0, .int .i64 0, .int .i64 0, .int .i64 0, .string ⟨#[]⟩, .string ⟨#[]⟩, .int .i64 0, .int .i64 0, .int .i64 0, .slice none 0 0]), .int .i64 70]) (rerread_ret En0 none none 0 0 70 _ w.heap.size _ rfl rfl KW.out) rfl ?_
    rw [HRR.out]
    exact ⟨none, none, 0, 0, rfl, ⟨Reads.none_, Reads.none_, Nat.zero_le _, Nat.zero_le _⟩, BW.out, NwE.nil⟩
  · have he : endOf s.size j1 b1 = 0 := by unfold endOf; rw [if_neg hE]
    rw [he] at E1
    have HE := Lib.hid hE
    clear hE he
    go_wp2_with fail
    refine E1.out.mono ?_
    rintro e w5 ⟨rfl, n5, rfl⟩
    have LM := cells_blk (K4.out.drewN n5) rfl
    have ER5 : EnR (World.drewN W2 n5) q A9 D9 := ⟨Reads.of_own (own_below OW1.out (below_drewN (Below.refl _ _) n5)), Reads.of_own (own_below OW2.out (below_drewN (Below.refl _ _) n5)), by omega, by omega⟩
    have MY := Lib.hid (rEnMay_any q A9 D9 c9 e9 _ ER5)
    clear ER5
    cases hmy : mayEn q
    · rw [hmy] at MY
      have HRR := Lib.hid (show readE 0 1048576 127 (lb s) = (En0, 70) by rw [HR.out, if_pos (.inr (.inr hmy))])
      clear hmy
      go_wp2_with fail
      refine MY.out.mono ?_
      rintro e w6 ⟨rfl, b6⟩
      obtain ⟨W', st, kw, hsz, fb, fk⟩ := store_blk (cs := ezero) ((KT.out.drewN n5).below b6 (KT.out.drewN n5).lt) rfl rfl (by simp [Value.oneCell'])
      have BW := Lib.hid (fb _ w (Nat.le_refl _) (btrans (below_drewN BE.out n5) b6))
      have KW := Lib.hid kw
      clear kw hsz fb fk LM b6
      go_wp2_with fail
      refine bodyPost_ret (v := .tuple #[(.agg #[.int .i8 0, .int .i64 0, .int .i64 0, .int .i64 0, .bool false, .slice none 0 0, .bool false, .int .i64 0, .int .i64 0, .int .i64 0, .int .i64 0, .int .i64 0, .string ⟨#[]⟩, .string ⟨#[]⟩, .int .i64 0, .int .i64 0, .int .i64 0, .slice none 0 0]), .int .i64 70]) (rerread_ret En0 none none 0 0 70 _ w.heap.size _ rfl rfl KW.out) rfl ?_
      rw [HRR.out]
      exact ⟨none, none, 0, 0, rfl, ⟨Reads.none_, Reads.none_, Nat.zero_le _, Nat.zero_le _⟩, BW.out, NwE.nil⟩
    · rw [hmy] at MY
      have HRR := Lib.hid (show readE 0 1048576 127 (lb s) = (q, 0) by
        rw [HR.out, if_neg]
        rw [length_lb, hmy]
        rintro (h | h | h)
        · exact HE.out (.inl h)
        · exact HE.out (.inr h)
        · cases h)
      clear hmy
      go_wp2_with fail
      refine MY.out.mono ?_
      rintro e w6 ⟨rfl, b6⟩
      have LM6 := cells_blk ((K4.out.drewN n5).below b6 (K4.out.drewN n5).lt) rfl
      obtain ⟨W', st, kw, fb, fh⟩ := store_blk2 (cs := #[.int .i8 q.kd, .int .i64 q.b.pid, .int .i64 q.b.ep, .int .i64 q.b.seq, .bool q.b.txn, .slice A9 q.b.rs.length c9, .bool q.yes, .int .i64 q.nx, .int .i64 q.off, .int .i64 q.row.1, .int .i64 q.row.2.1, .int .i64 q.row.2.2.1, .string q.row.2.2.2.1, .string q.row.2.2.2.2, .int .i64 q.prod.pid, .int .i64 q.prod.ep, .int .i64 q.prod.nx, .slice D9 q.prod.seen.length e9]) ((KT.out.drewN n5).below b6 (KT.out.drewN n5).lt) rfl rfl (by simp [Value.oneCell'])
      have BW := Lib.hid (fb _ w (Nat.le_refl _) (btrans (below_drewN BE.out n5) b6))
      have p1 := own_below (own_below OW1.out (below_drewN (Below.refl _ _) n5)) b6
      have p2 := own_below (own_below OW2.out (below_drewN (Below.refl _ _) n5)) b6
      have q1 := own_keepN p1 (fun y hy => fh y (by have := (p1.lt y hy).1; have := HX.out; omega))
      have q2 := own_keepN p2 (fun y hy => fh y (by have := (p2.lt y hy).1; have := HX.out; omega))
      have NW := Lib.hid (show NwE w.heap.size A9 D9 from ⟨fun ad h => by have := (q1.lt ad.block (by rw [h]; rfl)).1; have := HX.out; omega, fun ad h => by have := (q2.lt ad.block (by rw [h]; rfl)).1; have := HX.out; omega⟩)
      have EF := Lib.hid (show EnR W' q A9 D9 from ⟨Reads.of_own q1, Reads.of_own q2, by omega, by omega⟩)
      have KW := Lib.hid kw
      clear kw fb fh LM p1 p2 q1 q2 b6
      go_wp2_with fail
      refine bodyPost_ret (v := .tuple #[(.agg #[.int .i8 q.kd, .int .i64 q.b.pid, .int .i64 q.b.ep, .int .i64 q.b.seq, .bool q.b.txn, .slice A9 q.b.rs.length c9, .bool q.yes, .int .i64 q.nx, .int .i64 q.off, .int .i64 q.row.1, .int .i64 q.row.2.1, .int .i64 q.row.2.2.1, .string q.row.2.2.2.1, .string q.row.2.2.2.2, .int .i64 q.prod.pid, .int .i64 q.prod.ep, .int .i64 q.prod.nx, .slice D9 q.prod.seen.length e9]), .int .i64 0]) (rerread_ret q A9 D9 c9 e9 0 _ w.heap.size _ rfl rfl KW.out) rfl ?_
      rw [HRR.out]
      exact ⟨A9, D9, c9, e9, rfl, EF.out, BW.out, NW.out⟩
set_option maxRecDepth 100000 in
set_option maxHeartbeats 8000000 in
theorem rEnRead_6 (s : ByteArray) (w : World) (hl : s.size ≤ 100000) (kd : Int) (hk : kd = 6) (j1 : Nat) (b1 : Bool) (hz1 : rdNum (lb s) 0 false 0 127 = (kd, j1, b1)) :
    Calls Tryz.prog 22 #[.string s] w (ErRn (readE 0 1048576 127 (lb s)).1 (readE 0 1048576 127 (lb s)).2 w) := by
  obtain ⟨p, j2, b2, h1⟩ : ∃ v j c, rdNum (lb s) j1 b1 0 8 = (v, j, c) := ⟨_, _, _, rfl⟩
  obtain ⟨p2, j3, b3, h2⟩ : ∃ v j c, rdNum (lb s) j2 b2 0 100 = (v, j, c) := ⟨_, _, _, rfl⟩
  obtain ⟨n, j4, b4, h3⟩ : ∃ v j c, rdNum (lb s) j3 b3 0 1048576 = (v, j, c) := ⟨_, _, _, rfl⟩
  obtain ⟨m0, j5, b5, h4⟩ : ∃ v j c, rdNum (lb s) j4 b4 0 3 = (v, j, c) := ⟨_, _, _, rfl⟩
  have HZ1 := Lib.hid h1
  have HZ2 := Lib.hid h2
  have HZ3 := Lib.hid h3
  have HZ4 := Lib.hid h4
  have hn : 0 ≤ m0 ∧ m0 ≤ 3 := by rcases rdNum_rng h4 with h | h <;> omega
  obtain ⟨m, rfl⟩ := Int.eq_ofNat_of_zero_le hn.1
  have HKD := Lib.hid hk
  obtain ⟨q, hq⟩ : ∃ q, q = enOf kd (Bat0, false, 0, 0, Rw0, ⟨p, p2, n, (rdRep (rdSn 0) m (lb s) j5 b5).1⟩) := ⟨_, rfl⟩
  have hzE : rdE 0 1048576 kd (lb s) j1 b1 = ((Bat0, false, 0, 0, Rw0, ⟨p, p2, n, (rdRep (rdSn 0) m (lb s) j5 b5).1⟩), (rdRep (rdSn 0) m (lb s) j5 b5).2.1, (rdRep (rdSn 0) m (lb s) j5 b5).2.2) := by
    have h1' : rdNum (lb s) j1 b1 ((0 : Nat) : Int) 8 = (p, j2, b2) := h1
    rw [hk]; show rdE6 0 (lb s) j1 b1 = _; simp only [rdE6, rdPd, rdMap, rdBind, h1', h2, h3, h4, Int.toNat_natCast]
  have hraw : readE 0 1048576 127 (lb s) = if (rdRep (rdSn 0) m (lb s) j5 b5).2.2 = true ∨ (rdRep (rdSn 0) m (lb s) j5 b5).2.1 ≠ (lb s).length ∨ mayEn q = false then (En0, 70) else (q, 0) := by
    unfold readE
    have hz1' : rdNum (lb s) 0 false 0 ((127 : Nat) : Int) = (kd, j1, b1) := hz1
    have e : rdEn 0 1048576 127 (lb s) 0 false = (q, (rdRep (rdSn 0) m (lb s) j5 b5).2.1, (rdRep (rdSn 0) m (lb s) j5 b5).2.2) := by simp only [rdEn, rdMap, rdBind, hz1', hzE, hq]
    rw [e]
  have hlen := rdE_len 0 1048576 kd (lb s) j1 b1
  rw [hzE] at hlen
  have hqr : q.b.rs.length ≤ 4 ∧ q.prod.seen.length ≤ 3 := by rw [hq]; exact hlen
  have hkd : 0 ≤ kd ∧ kd ≤ 127 := by rcases rdNum_rng hz1 with h | h <;> omega
  have cc0 : (kd == 0) = false := by rw [hk]; rfl
  have cc1 : (kd == 1) = false := by rw [hk]; rfl
  have cc2 : (kd == 2) = false := by rw [hk]; rfl
  have cc3 : (kd == 3) = false := by rw [hk]; rfl
  have cc4 : (kd == 4) = false := by rw [hk]; rfl
  have cc5 : (kd == 5) = false := by rw [hk]; rfl
  have cc6 : (kd == 6) = true := by rw [hk]; rfl
  obtain ⟨W0, hW0⟩ : ∃ W0, W0 = (w.alloc (.cells #[.int .i8 0, .int .i64 0, .int .i64 0, .int .i64 0, .bool false, .slice none 0 0, .bool false, .int .i64 0, .int .i64 0, .int .i64 0, .int .i64 0, .int .i64 0, .string ⟨#[]⟩, .string ⟨#[]⟩, .int .i64 0, .int .i64 0, .int .i64 0, .slice none 0 0] 32)).alloc (.cells #[.string s, .int .i64 0, .bool false] 118) := ⟨_, rfl⟩
  have hs0 : W0.heap.size = w.heap.size + 1 + 1 := by rw [hW0]; simp
  have B0 : Below w.heap.size w W0 := by rw [hW0]; exact bal (bal (Below.refl _ _) _) _
  have K0 : Blk W0 w.heap.size 32 ezero := by rw [hW0]; exact (blk_new w _ _ rfl).alloc _
  have KR : RdR W0 (w.heap.size + 1) s 0 false := by rw [hW0]; exact blk_new _ _ _ (by simp)
  have RK : RrOk W0.heap.size W0 (w.heap.size + 1) s 0 false := ⟨KR, Nat.zero_le _, by omega, by omega, Nat.le_refl _⟩
  have N1 := Lib.hid (rRNum_z hz1 RK)
  have HR := Lib.hid hraw
  have HW := Lib.hid hW0
  have HB0 := Lib.hid B0
  have HK0 := Lib.hid K0
  have HQ := Lib.hid hq
  have HS0 := Lib.hid hs0
  have cv : IntKind.i8.wrap kd = kd := IntWalk.i8_in _ (by omega)
  clear hraw hz1 B0 K0 KR RK hW0 hq hk hlen hkd hzE hs0 hl
  go_enter Tryz.func22, Tryz.ntmps22
  go_wp2_with fail
  refine (rRNew_any s _).mono ?_
  rintro e w1 ⟨rfl, rfl⟩
  go_upto_region 2 with (fail)
  rw [← HW.out]
  go_wp2_with fail
  refine N1.out.mono ?_
  rintro e w1 ⟨rfl, r1, o1⟩
  obtain ⟨W2, st, kx, bb⟩ := fresh_en w1 #[.int .i8 kd, .int .i64 0, .int .i64 0, .int .i64 0, .bool false, .slice none 0 0, .bool false, .int .i64 0, .int .i64 0, .int .i64 0, .int .i64 0, .int .i64 0, .string ⟨#[]⟩, .string ⟨#[]⟩, .int .i64 0, .int .i64 0, .int .i64 0, .slice none 0 0] rfl (by simp [Value.oneCell'])
  have S2 := Lib.hid (show FrSt W0 W0.heap.size (w.heap.size + 1) w1.heap.size s j1 b1 (baseEn kd) W2 from ⟨none, none, 0, 0, kx, r1.below (bb.mono o1.size), o1.size, World.ownsRow_nil _ _ _ _, World.ownsRow_nil _ _ _ _, ((Goes.refl (show w.heap.size + 1 < W0.heap.size by have := HS0.out; omega)).only o1).below (bb.mono o1.size), fun _ => ⟨rfl, rfl⟩⟩)
  have x0 := kx.cell 0
  have ST := Lib.hid st
  clear r1 o1 kx bb st
  have st : (storeVar 32 ⟨w1.heap.size, 0, none⟩ (.agg #[.int .i8 kd, .int .i64 0, .int .i64 0, .int .i64 0, .bool false, .slice none 0 0, .bool false, .int .i64 0, .int .i64 0, .int .i64 0, .int .i64 0, .int .i64 0, .string ⟨#[]⟩, .string ⟨#[]⟩, .int .i64 0, .int .i64 0, .int .i64 0, .slice none 0 0])).run Tryz.prog _ = .ok () W2 := ST.out
  go_upto_region 3 with (fail)
  clear st ST
  clear h1 h2 h3 h4
  obtain ⟨i0, hi, hi0, hi1, hi2⟩ := info_parts infoN
  obtain ⟨A2', D2', c2', e2', k2, r2, _⟩ := S2.out
  have NN := Lib.hid (rRNum_z HZ1.out r2)
  clear k2 r2
  go_wp2_with fail
  refine NN.out.mono ?_
  rintro e w3 ⟨rfl, r, o⟩
  have T3 := Lib.hid (S2.out.next r o)
  obtain ⟨A3', D3', c3', e3', k3, _⟩ := T3.out
  have st := store_int7 p (k3.cell 14) (k3.frozen 14)
  clear k3 r o NN x0
  go_upto_region 28 with (fail)
  clear st
  have S3 := Lib.hid (T3.out.put (stEn kd p 0 0 []) 14 (.int .i64 p) rfl rfl rfl (fun _ _ _ _ => rfl))
  generalize w3.setCell ⟨w1.heap.size, 14, none⟩ (.int .i64 p) = V3 at *
  obtain ⟨A3', D3', c3', e3', k3, r3, _⟩ := S3.out
  have NN := Lib.hid (rRNum_z HZ2.out r3)
  clear k3 r3
  go_wp2_with fail
  refine NN.out.mono ?_
  rintro e w4 ⟨rfl, r, o⟩
  have T4 := Lib.hid (S3.out.next r o)
  obtain ⟨A4', D4', c4', e4', k4, _⟩ := T4.out
  have st := store_int7 p2 (k4.cell 15) (k4.frozen 15)
  clear k4 r o NN
  go_upto_region 29 with (fail)
  clear st
  have S4 := Lib.hid (T4.out.put (stEn kd p p2 0 []) 15 (.int .i64 p2) rfl rfl rfl (fun _ _ _ _ => rfl))
  generalize w4.setCell ⟨w1.heap.size, 15, none⟩ (.int .i64 p2) = V4 at *
  obtain ⟨A4', D4', c4', e4', k4, r4, _⟩ := S4.out
  have NN := Lib.hid (rRNum_z HZ3.out r4)
  clear k4 r4
  go_wp2_with fail
  refine NN.out.mono ?_
  rintro e w5 ⟨rfl, r, o⟩
  have T5 := Lib.hid (S4.out.next r o)
  obtain ⟨A5', D5', c5', e5', k5, _⟩ := T5.out
  have st := store_int7 n (k5.cell 16) (k5.frozen 16)
  clear k5 r o NN
  go_upto_region 30 with (fail)
  clear st
  have S5 := Lib.hid (T5.out.put (stEn kd p p2 n []) 16 (.int .i64 n) rfl rfl rfl (fun _ _ _ _ => rfl))
  generalize w5.setCell ⟨w1.heap.size, 16, none⟩ (.int .i64 n) = V5 at *
  obtain ⟨A5', D5', c5', e5', k5, r5, _⟩ := S5.out
  have NN := Lib.hid (rRNum_z HZ4.out r5)
  clear k5 r5
  go_wp2_with fail
  refine NN.out.mono ?_
  rintro e w6 ⟨rfl, r, o⟩
  have S6 := Lib.hid (S5.out.next r o)
  clear r o NN
  go_wp2_with fail
  go_loopg [7] m (fun mm x wr => ∃ k : Nat, k ≤ m ∧ x = .int .i64 k ∧ mm = m - k ∧ FrSt W0 W0.heap.size (w.heap.size + 1) w1.heap.size s (rdRep (rdSn 0) k (lb s) j5 b5).2.1 (rdRep (rdSn 0) k (lb s) j5 b5).2.2 (stEn kd p p2 n (rdRep (rdSn 0) k (lb s) j5 b5).1) wr)
  case atStart => exact ⟨0, Nat.zero_le _, rfl, rfl, S6.out⟩
  case round =>
    obtain ⟨k, hk, rfl, hmm, hst⟩ := hrel
    have HM := Lib.hid hmm
    have HST := Lib.hid hst
    clear hmm hst
    by_cases hlt : k < m
    · have d1 : decide ((k : Int) < (m : Int)) = true := by simp; omega
      obtain ⟨rs, i6, b6, hrep⟩ : ∃ rs i6 b6, rdRep (rdSn 0) k (lb s) j5 b5 = (rs, i6, b6) := ⟨_, _, _, rfl⟩
      obtain ⟨v1, i7, b7, hza⟩ : ∃ v i' b', rdNum (lb s) i6 b6 0 1048576 = (v, i', b') := ⟨_, _, _, rfl⟩
      obtain ⟨v2, i8, b8, hzb⟩ : ∃ v i' b', rdNum (lb s) i7 b7 0 4 = (v, i', b') := ⟨_, _, _, rfl⟩
      obtain ⟨v3, i9, b9, hzc⟩ : ∃ v i' b', rdNum (lb s) i8 b8 0 1048577 = (v, i', b') := ⟨_, _, _, rfl⟩
      have hnx : rdRep (rdSn 0) (k + 1) (lb s) j5 b5 = (rs ++ [(v1, v2, v3 - 1)], i9, b9) := by
        rw [rdRep_snoc, hrep]
        have hzb' : rdNum (lb s) i7 b7 ((0 : Nat) : Int) 4 = (v2, i8, b8) := hzb
        simp only [rdSn, rdMap, rdBind, hza, hzb', hzc]
      have hrl : rs.length = k := by have := rdRep_len (rdSn 0) k (lb s) j5 b5; rw [hrep] at this; exact this
      have hst := HST.out
      rw [hrep] at hst
      have hv3 : 0 ≤ v3 ∧ v3 ≤ 1048577 := by rcases rdNum_rng hzc with h | h <;> omega
      have cw : IntKind.i64.wrap (v3 - 1) = v3 - 1 := IntWalk.i64_in _ (by omega)
      obtain ⟨XX, hX⟩ : ∃ XX : En, XX = stEn kd p p2 n rs := ⟨_, rfl⟩
      have HX := Lib.hid hX
      have HXL := Lib.hid (show XX.prod.seen = rs by rw [hX]; rfl)
      have HRL := Lib.hid hrl
      have HNX := Lib.hid hnx
      have U0 := Lib.hid (show FrSt W0 W0.heap.size (w.heap.size + 1) w1.heap.size s i6 b6 XX wr by rw [hX]; exact hst)
      have HZA := Lib.hid hza
      have HZB := Lib.hid hzb
      have HZC := Lib.hid hzc
      clear hst hX hrl hnx hza hzb hzc hrep
      obtain ⟨_, _, _, _, _, rr0, _⟩ := U0.out
      have NA := Lib.hid (rRNum_z HZA.out rr0)
      clear rr0
      go_wp2_with fail
      refine NA.out.mono ?_
      rintro e wa ⟨rfl, r, o⟩
      have U1 := Lib.hid (U0.out.next r o)
      obtain ⟨_, _, _, _, _, rr0, _⟩ := U1.out
      have NB := Lib.hid (rRNum_z HZB.out rr0)
      clear rr0 r o
      go_wp2_with fail
      refine NB.out.mono ?_
      rintro e wb ⟨rfl, r, o⟩
      have U2 := Lib.hid (U1.out.next r o)
      obtain ⟨_, _, _, _, _, rr0, _⟩ := U2.out
      have NC := Lib.hid (rRNum_z HZC.out rr0)
      clear rr0 r o
      go_wp2_with fail
      refine NC.out.mono ?_
      rintro e wc ⟨rfl, r, o⟩
      have U3 := Lib.hid (U2.out.next r o)
      clear r o
      obtain ⟨A3, D3, c3, e3, k3, r3, hX3, ow1, ow2, gg, hA⟩ := U3.out
      obtain ⟨rfl, rfl⟩ := hA (by rw [HX.out]; exact HKD.out)
      have c17 := k3.cell 17
      have K3 := Lib.hid k3
      have R3 := Lib.hid r3
      have O1 := Lib.hid ow1
      have O2 := Lib.hid ow2
      have GG := Lib.hid gg
      have hgl := k3.lt
      have hpl : XX.prod.seen.length ≤ 3 := by rw [HXL.out, HRL.out]; omega
      clear k3 r3 ow1 ow2 gg
      go_wp2_with (at_builtin; refine wpList_append_any _ rfl (.tmp 115) (.tmp 121) 28 rfl (w1.heap.size + 1) 73 i0 _ 3 24 Tryz.underlying28 hi hi0 hi1 hi2 rfl (by decide) _ XX.prod.seen.length _ (by rfl) (O2.out.alloc _) _ _ 1 1 (cellsN [(v1, v2, v3 - 1)]) (by rfl) (reads_newN wc _ (v1, v2, v3 - 1) _ rfl) (cellsN_one _) (by unfold maxLen; omega) (by omega) (by simp; omega) ?_; intro v' w8 hown' hgrow hat'; obtain ⟨A8, c8, rfl, hc8⟩ := own_slice hown'; have k8 := (K3.out.alloc _).grown hgrow (fun e => by have := (O2.out.lt _ e.symm).1; omega); have st := store_sl7 A8 (XX.prod.seen.length + 1) c8 (k8.cell 17) (k8.frozen 17))
      go_roundg (gk - 1)
      case measure => have := HM.out; omega
      case rel =>
        refine ⟨k + 1, by omega, by go_num, by have := HM.out; omega, ?_⟩
        rw [HNX.out]
        have hlen : XX.prod.seen.length + 1 = (rs ++ [(v1, v2, v3 - 1)]).length := by rw [List.length_append, HXL.out]; rfl
        refine ⟨none, A8, 0, c8, ?_, ((R3.out.alloc _).grown hgrow (fun x hx => by have := (O2.out.lt _ hx).1; omega)).set hX3 _, hX3, ?_, ?_, ((GG.out.alloc _).grown hgrow (fun x hx => by have := (O2.out.lt _ hx).1; omega)).set hX3 _, fun _ => ⟨rfl, rfl⟩⟩
        · have := k8.set_ 17 (.slice A8 (XX.prod.seen.length + 1) c8)
          rw [hlen] at this ⊢
          rw [HX.out] at this
          exact this
        · exact World.ownsRow_nil _ _ _ _
        · show World.ownsRow _ (w1.heap.size + 1) _ 3 (.slice A8 (rs ++ [(v1, v2, v3 - 1)]).length c8) (rs ++ [(v1, v2, v3 - 1)]).length (cellsN (rs ++ [(v1, v2, v3 - 1)]))
          rw [hlen] at hown' ⊢
          rw [HXL.out] at hown'
          rw [cellsN_append]
          exact own_set hown' (Nat.lt_succ_self _) _
    · obtain rfl : k = m := by omega
      have d1 : decide ((k : Int) < (k : Int)) = false := by simp
      have S7 := Lib.hid HST.out
      go_upto_region 38 with (fail)
      obtain ⟨A9, D9, c9, e9, k4, r4, _, ow1, ow2, gg, _⟩ := S7.out
      have E1 := Lib.hid (rREnd_any (w.heap.size + 1) s (rdRep (rdSn 0) k (lb s) j5 b5).2.1 (rdRep (rdSn 0) k (lb s) j5 b5).2.2 wr r4.1)
      have K4 := Lib.hid (show Blk wr w1.heap.size 32 #[.int .i8 q.kd, .int .i64 q.b.pid, .int .i64 q.b.ep, .int .i64 q.b.seq, .bool q.b.txn, .slice A9 q.b.rs.length c9, .bool q.yes, .int .i64 q.nx, .int .i64 q.off, .int .i64 q.row.1, .int .i64 q.row.2.1, .int .i64 q.row.2.2.1, .string q.row.2.2.2.1, .string q.row.2.2.2.2, .int .i64 q.prod.pid, .int .i64 q.prod.ep, .int .i64 q.prod.nx, .slice D9 q.prod.seen.length e9] by rw [HQ.out]; exact k4)
      have OW1 := Lib.hid (show World.ownsRow wr (w1.heap.size + 1) 60 2 (.slice A9 q.b.rs.length c9) q.b.rs.length (cellsR q.b.rs) by rw [HQ.out]; exact ow1)
      have OW2 := Lib.hid (show World.ownsRow wr (w1.heap.size + 1) 73 3 (.slice D9 q.prod.seen.length e9) q.prod.seen.length (cellsN q.prod.seen) by rw [HQ.out]; exact ow2)
      have KT := Lib.hid (gg.1.blk HK0.out (by omega))
      have BE := Lib.hid (HB0.out.trans (gg.1.below HB0.out.size (fun x hx => by omega)))
      have HX := Lib.hid (show w.heap.size < w1.heap.size by have := k4.lt; have := HS0.out; have := S2.out.choose_spec.choose_spec.choose_spec.choose_spec.2.2.1; omega)
      clear k4 r4 ow1 ow2 gg HQ
      by_cases hE : (rdRep (rdSn 0) k (lb s) j5 b5).2.2 = true ∨ (rdRep (rdSn 0) k (lb s) j5 b5).2.1 ≠ s.size
      · have he : endOf s.size (rdRep (rdSn 0) k (lb s) j5 b5).2.1 (rdRep (rdSn 0) k (lb s) j5 b5).2.2 = 70 := by unfold endOf; rw [if_pos hE]
        rw [he] at E1
        have HRR := Lib.hid (show readE 0 1048576 127 (lb s) = (En0, 70) by
          rw [HR.out, length_lb]
          rcases hE with h | h
          · rw [if_pos (.inl h)]
          · rw [if_pos (.inr (.inl h))])
        clear hE he
        go_wp2_with fail
        refine E1.out.mono ?_
        rintro e w5 ⟨rfl, n5, rfl⟩
        obtain ⟨W', st, kw, hsz, fb, fk⟩ := store_blk (cs := ezero) (KT.out.drewN n5) rfl rfl (by simp [Value.oneCell'])
        have BW := Lib.hid (fb _ w (Nat.le_refl _) (below_drewN BE.out n5))
        have KW := Lib.hid kw
        clear kw hsz fb fk
        go_wp2_with fail
        refine bodyPost_ret (v := .tuple #[(.agg #[.int .i8 0, .int .i64 0, .int .i64 0, .int .i64 0, .bool false, .slice none 0 0, .bool false, .int .i64 0, .int .i64 0, .int .i64 0, .int .i64 0, .int .i64 0, .string ⟨#[]⟩, .string ⟨#[]⟩, .int .i64 0, .int .i64 0, .int .i64 0, .slice none 0 0]), .int .i64 70]) (rerread_ret En0 none none 0 0 70 _ w.heap.size _ rfl rfl KW.out) rfl ?_
        rw [HRR.out]
        exact ⟨none, none, 0, 0, rfl, ⟨Reads.none_, Reads.none_, Nat.zero_le _, Nat.zero_le _⟩, BW.out, NwE.nil⟩
      · have he : endOf s.size (rdRep (rdSn 0) k (lb s) j5 b5).2.1 (rdRep (rdSn 0) k (lb s) j5 b5).2.2 = 0 := by unfold endOf; rw [if_neg hE]
        rw [he] at E1
        have HE := Lib.hid hE
        clear hE he
        go_wp2_with fail
        refine E1.out.mono ?_
        rintro e w5 ⟨rfl, n5, rfl⟩
        have LM := cells_blk (K4.out.drewN n5) rfl
        have ER5 : EnR (World.drewN wr n5) q A9 D9 := ⟨Reads.of_own (own_below OW1.out (below_drewN (Below.refl _ _) n5)), Reads.of_own (own_below OW2.out (below_drewN (Below.refl _ _) n5)), by omega, by omega⟩
        have MY := Lib.hid (rEnMay_any q A9 D9 c9 e9 _ ER5)
        clear ER5
        cases hmy : mayEn q
        · rw [hmy] at MY
          have HRR := Lib.hid (show readE 0 1048576 127 (lb s) = (En0, 70) by rw [HR.out, if_pos (.inr (.inr hmy))])
          clear hmy
          go_wp2_with fail
          refine MY.out.mono ?_
          rintro e w6 ⟨rfl, b6⟩
          obtain ⟨W', st, kw, hsz, fb, fk⟩ := store_blk (cs := ezero) ((KT.out.drewN n5).below b6 (KT.out.drewN n5).lt) rfl rfl (by simp [Value.oneCell'])
          have BW := Lib.hid (fb _ w (Nat.le_refl _) (btrans (below_drewN BE.out n5) b6))
          have KW := Lib.hid kw
          clear kw hsz fb fk LM b6
          go_wp2_with fail
          refine bodyPost_ret (v := .tuple #[(.agg #[.int .i8 0, .int .i64 0, .int .i64 0, .int .i64 0, .bool false, .slice none 0 0, .bool false, .int .i64 0, .int .i64 0, .int .i64 0, .int .i64 0, .int .i64 0, .string ⟨#[]⟩, .string ⟨#[]⟩, .int .i64 0, .int .i64 0, .int .i64 0, .slice none 0 0]), .int .i64 70]) (rerread_ret En0 none none 0 0 70 _ w.heap.size _ rfl rfl KW.out) rfl ?_
          rw [HRR.out]
          exact ⟨none, none, 0, 0, rfl, ⟨Reads.none_, Reads.none_, Nat.zero_le _, Nat.zero_le _⟩, BW.out, NwE.nil⟩
        · rw [hmy] at MY
          have HRR := Lib.hid (show readE 0 1048576 127 (lb s) = (q, 0) by
            rw [HR.out, if_neg]
            rw [length_lb, hmy]
            rintro (h | h | h)
            · exact HE.out (.inl h)
            · exact HE.out (.inr h)
            · cases h)
          clear hmy
          go_wp2_with fail
          refine MY.out.mono ?_
          rintro e w6 ⟨rfl, b6⟩
          have LM6 := cells_blk ((K4.out.drewN n5).below b6 (K4.out.drewN n5).lt) rfl
          obtain ⟨W', st, kw, fb, fh⟩ := store_blk2 (cs := #[.int .i8 q.kd, .int .i64 q.b.pid, .int .i64 q.b.ep, .int .i64 q.b.seq, .bool q.b.txn, .slice A9 q.b.rs.length c9, .bool q.yes, .int .i64 q.nx, .int .i64 q.off, .int .i64 q.row.1, .int .i64 q.row.2.1, .int .i64 q.row.2.2.1, .string q.row.2.2.2.1, .string q.row.2.2.2.2, .int .i64 q.prod.pid, .int .i64 q.prod.ep, .int .i64 q.prod.nx, .slice D9 q.prod.seen.length e9]) ((KT.out.drewN n5).below b6 (KT.out.drewN n5).lt) rfl rfl (by simp [Value.oneCell'])
          have BW := Lib.hid (fb _ w (Nat.le_refl _) (btrans (below_drewN BE.out n5) b6))
          have p1 := own_below (own_below OW1.out (below_drewN (Below.refl _ _) n5)) b6
          have p2 := own_below (own_below OW2.out (below_drewN (Below.refl _ _) n5)) b6
          have q1 := own_keepN p1 (fun y hy => fh y (by have := (p1.lt y hy).1; have := HX.out; omega))
          have q2 := own_keepN p2 (fun y hy => fh y (by have := (p2.lt y hy).1; have := HX.out; omega))
          have NW := Lib.hid (show NwE w.heap.size A9 D9 from ⟨fun ad h => by have := (q1.lt ad.block (by rw [h]; rfl)).1; have := HX.out; omega, fun ad h => by have := (q2.lt ad.block (by rw [h]; rfl)).1; have := HX.out; omega⟩)
          have EF := Lib.hid (show EnR W' q A9 D9 from ⟨Reads.of_own q1, Reads.of_own q2, by omega, by omega⟩)
          have KW := Lib.hid kw
          clear kw fb fh LM p1 p2 q1 q2 b6
          go_wp2_with fail
          refine bodyPost_ret (v := .tuple #[(.agg #[.int .i8 q.kd, .int .i64 q.b.pid, .int .i64 q.b.ep, .int .i64 q.b.seq, .bool q.b.txn, .slice A9 q.b.rs.length c9, .bool q.yes, .int .i64 q.nx, .int .i64 q.off, .int .i64 q.row.1, .int .i64 q.row.2.1, .int .i64 q.row.2.2.1, .string q.row.2.2.2.1, .string q.row.2.2.2.2, .int .i64 q.prod.pid, .int .i64 q.prod.ep, .int .i64 q.prod.nx, .slice D9 q.prod.seen.length e9]), .int .i64 0]) (rerread_ret q A9 D9 c9 e9 0 _ w.heap.size _ rfl rfl KW.out) rfl ?_
          rw [HRR.out]
          exact ⟨A9, D9, c9, e9, rfl, EF.out, BW.out, NW.out⟩
end
theorem rEnRead_new (s : ByteArray) (w : World) (hl : s.size ≤ 100000) :
    Calls Tryz.prog 22 #[.string s] w (ErRn (readE 0 1048576 127 (lb s)).1 (readE 0 1048576 127 (lb s)).2 w) := by
  obtain ⟨kd, j1, b1, hz1⟩ : ∃ v j b, rdNum (lb s) 0 false 0 127 = (v, j, b) := ⟨_, _, _, rfl⟩
  by_cases h0 : kd = 0
  · exact rEnRead_0 s w hl kd h0 j1 b1 hz1
  by_cases h1 : kd = 1
  · exact rEnRead_1 s w hl kd h1 j1 b1 hz1
  by_cases h2 : kd = 2
  · exact rEnRead_2 s w hl kd h2 j1 b1 hz1
  by_cases h3 : kd = 3
  · obtain ⟨bt, jb, bb, hb⟩ : ∃ v j c, rdBat (lb s) j1 b1 = (v, j, c) := ⟨_, _, _, rfl⟩
    obtain ⟨t, j, b, hf⟩ : ∃ v j c, rdFlag (lb s) jb bb = (v, j, c) := ⟨_, _, _, rfl⟩
    have hu : ∀ bt' jb' bb' t' j' b', rdBat (lb s) j1 b1 = (bt', jb', bb') → rdFlag (lb s) jb' bb' = (t', j', b') → t' = t := by
      intro bt' jb' bb' t' j' b' e1 e2
      rw [hb] at e1
      injection e1 with _ e1
      injection e1 with e3 e4
      subst e3; subst e4
      rw [hf] at e2
      injection e2 with e2 _
      exact e2.symm
    cases t
    · exact rEnRead_3f s w hl kd h3 j1 b1 hz1 hu
    · exact rEnRead_3t s w hl kd h3 j1 b1 hz1 hu
  by_cases h4 : kd = 4
  · exact rEnRead_4 s w hl kd h4 j1 b1 hz1
  by_cases h5 : kd = 5
  · exact rEnRead_5 s w hl kd h5 j1 b1 hz1
  by_cases h6 : kd = 6
  · exact rEnRead_6 s w hl kd h6 j1 b1 hz1
  · exact rEnRead_9 s w hl kd h0 h1 h2 h3 h4 h5 h6 j1 b1 hz1
end Go.Proofs.YtckdecodpjfcnaaGreatDoor
