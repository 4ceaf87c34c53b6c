/-
  Layer 7: Read of entries.
-/
import Derived.Test.YtckdecodpjfcnaaGreatDoorEnRowsProofP12
set_option linter.unusedVariables false
set_option linter.unusedSimpArgs false
namespace Go.Proofs.YtckdecodpjfcnaaGreatDoor
open Go.RowKit

/-- What Read leaves. -/
def ErRd (x : En) (n : Int) (w : World) (e : Ending) (w' : World) : Prop :=
  ∃ A5 D5 c5 e5, e = .returned (.tuple #[(.agg #[.int .i8 x.kd, .int .i64 x.b.pid, .int .i64 x.b.ep, .int .i64 x.b.seq, .bool x.b.txn, .slice A5 x.b.rs.length c5, .bool x.yes, .int .i64 x.nx, .int .i64 x.off, .int .i64 x.row.1, .int .i64 x.row.2.1, .int .i64 x.row.2.2.1, .string x.row.2.2.2.1, .string x.row.2.2.2.2, .int .i64 x.prod.pid, .int .i64 x.prod.ep, .int .i64 x.prod.nx, .slice D5 x.prod.seen.length e5]), .int .i64 n]) ∧ EnR w' x A5 D5 ∧ Below w.heap.size w w'
/-- The lists are new. -/
def NwE (lo : Nat) (A D : Option Addr) : Prop := (∀ ad, A = some ad → lo ≤ ad.block) ∧ ∀ ad, D = some ad → lo ≤ ad.block
theorem NwE.nil {lo : Nat} : NwE lo none none := ⟨fun _ h => (by cases h), fun _ h => (by cases h)⟩
def ErRn (x : En) (n : Int) (w : World) (e : Ending) (w' : World) : Prop :=
  ∃ A5 D5 c5 e5, e = .returned (.tuple #[(.agg #[.int .i8 x.kd, .int .i64 x.b.pid, .int .i64 x.b.ep, .int .i64 x.b.seq, .bool x.b.txn, .slice A5 x.b.rs.length c5, .bool x.yes, .int .i64 x.nx, .int .i64 x.off, .int .i64 x.row.1, .int .i64 x.row.2.1, .int .i64 x.row.2.2.1, .string x.row.2.2.2.1, .string x.row.2.2.2.2, .int .i64 x.prod.pid, .int .i64 x.prod.ep, .int .i64 x.prod.nx, .slice D5 x.prod.seen.length e5]), .int .i64 n]) ∧ EnR w' x A5 D5 ∧ Below w.heap.size w w' ∧ NwE w.heap.size A5 D5
theorem ErRn.rd {x : En} {n : Int} {w : World} {e : Ending} {w' : World} (h : ErRn x n w e w') : ErRd x n w e w' :=
  match h with | ⟨A, D, c, e', h1, h2, h3, _⟩ => ⟨A, D, c, e', h1, h2, h3⟩
theorem wrap_kd7 {k : Int} (h : 0 ≤ k ∧ k ≤ 6) : IntKind.i8.wrap k = k := by
  have hh : k = 0 ∨ k = 1 ∨ k = 2 ∨ k = 3 ∨ k = 4 ∨ k = 5 ∨ k = 6 := by omega
  rcases hh with rfl | rfl | rfl | rfl | rfl | rfl | rfl <;> decide
theorem store_kd {W : World} {a : Addr} {u : Value} (k : Int) (h : W.cell? a = some u) (hf : W.frozen? a = false) : (storeVar 22 a (.int .i8 k)).run Tryz.prog W = .ok () (W.setCell a (.int .i8 k)) := by
  simp [go_sem, h, hf]
theorem cells_mid {W : World} {b : Nat} {t : TypeId} {v : Value} {cs : List Value} (h : Blk W b t (v :: cs).toArray) (hn : cs.length = 18) : (loadCells ⟨b, 1, none⟩ 18).run Tryz.prog W = .ok cs.toArray W := by
  have := run_loadCells_list (P := Tryz.prog) W ⟨b, 1, none⟩ cs (fun j v hv => by
    rw [Addr.add_mid, h.cell (1 + j)]
    rw [Nat.add_comm]
    simpa using hv)
  rw [hn] at this
  exact this
theorem heap_setCells (b : Nat) : ∀ (vs : List Value) (o : Nat) (W : World) (k : Nat), k ≠ b → (W.setCells b o vs).heap[k]? = W.heap[k]?
  | [], _, _, _, _ => rfl
  | v :: r, o, W, k, hk => by
    rw [World.setCells, heap_setCells b r (o + 1) _ k hk]
    exact Below.heap_setCell W ⟨b, o, none⟩ v k hk
/-- A struct stored into a block; all other blocks stay. -/
theorem store_blk2 {W : World} {b : Nat} {cs zs : Array Value} (h : Blk W b 32 zs) (hz : zs.size = 18) (hn : cs.size = 18) (h1 : cs.all (·.oneCell') = true) :
    ∃ W', (storeVar 32 ⟨b, 0, none⟩ (.agg cs)).run Tryz.prog W = .ok () W' ∧ Blk W' b 32 cs ∧ (∀ n (w : World), n ≤ b → Below n w W → Below n w W') ∧ ∀ k, k ≠ b → W'.heap[k]? = W.heap[k]? :=
  ⟨_, run_storeVar_mid W b 0 32 cs (by have := blk_there h; rw [hz] at this; rw [hn]; exact this) (by rw [infoEn, hn]) h1, (by have := blk_setCells cs.toList 0 _ _ h; rw [setAll_all zs cs (by rw [hz, hn])] at this; exact this), fun n w hb hB => below_setCells hb _ _ _ hB, fun k hk => heap_setCells b _ _ _ k hk⟩
section
attribute [-go_sem] loadCells storeVar
set_option maxRecDepth 100000 in
set_option maxHeartbeats 1000000 in
theorem erread_ret (x : En) (A5 D5 : Option Addr) (c5 e5 : Nat) (n : Int) (tmps : Array Value) (b : Nat) (W : World) (h2 : tmps[2]?.getD undef = .pointer (some ⟨b, 0, none⟩)) (h3 : tmps[3]?.getD undef = .int .i64 n) (hK : Blk W b 32 #[.int .i8 x.kd, .int .i64 x.b.pid, .int .i64 x.b.ep, .int .i64 x.b.seq, .bool x.b.txn, .slice A5 x.b.rs.length c5, .bool x.yes, .int .i64 x.nx, .int .i64 x.off, .int .i64 x.row.1, .int .i64 x.row.2.1, .int .i64 x.row.2.2.1, .string x.row.2.2.2.1, .string x.row.2.2.2.2, .int .i64 x.prod.pid, .int .i64 x.prod.ep, .int .i64 x.prod.nx, .slice D5 x.prod.seen.length e5]) :
    (results Tryz.f21 tmps).run Tryz.prog W = .ok (.tuple #[(.agg #[.int .i8 x.kd, .int .i64 x.b.pid, .int .i64 x.b.ep, .int .i64 x.b.seq, .bool x.b.txn, .slice A5 x.b.rs.length c5, .bool x.yes, .int .i64 x.nx, .int .i64 x.off, .int .i64 x.row.1, .int .i64 x.row.2.1, .int .i64 x.row.2.2.1, .string x.row.2.2.2.1, .string x.row.2.2.2.2, .int .i64 x.prod.pid, .int .i64 x.prod.ep, .int .i64 x.prod.nx, .slice D5 x.prod.seen.length e5]), .int .i64 n]) W := by
  have LC := cells_blk hK rfl
  clear hK
  simp [results, Tryz.results21, go_sem, h2, h3, LC]
set_option maxRecDepth 100000 in
set_option maxHeartbeats 8000000 in
theorem EnRead_0 (s : ByteArray) (w : World) (hl : s.size ≤ 100000) (hg : HasET w) (kd : Int) (hk : kd = 0) (j1 j3 : Nat) (b1 b3 : Bool) (y : Eb) (hz1 : rdNum (lb s) 0 false 0 6 = (kd, j1, b1)) (hz3 : rdE 1 1048575 kd (lb s) j1 b1 = (y, j3, b3)) :
    Calls Tryz.prog 21 #[.string s] w (ErRn (readE 1 1048575 6 (lb s)).1 (readE 1 1048575 6 (lb s)).2 w) := by
  have hraw : readE 1 1048575 6 (lb s) = if b3 = true ∨ j3 ≠ (lb s).length ∨ mayEn (enOf kd y) = false then (En0, 70) else (enOf kd y, 0) := by
    unfold readE
    have hz1' : rdNum (lb s) 0 false 0 ((6 : Nat) : Int) = (kd, j1, b1) := hz1
    have e : rdEn 1 1048575 6 (lb s) 0 false = (enOf kd y, j3, b3) := by simp only [rdEn, rdMap, rdBind, hz1', hz3]
    rw [e]
  have hlen := rdE_len 1 1048575 kd (lb s) j1 b1
  rw [hz3] at hlen
  obtain ⟨q, hq⟩ : ∃ q, q = enOf kd y := ⟨_, rfl⟩
  have hqr : q.b.rs.length ≤ 4 ∧ q.prod.seen.length ≤ 3 := by rw [hq]; exact hlen
  have hkd : 0 ≤ kd ∧ kd ≤ 6 := by omega
  obtain ⟨W0, hW0⟩ : ∃ W0, W0 = (((w.alloc (.cells #[.int .i8 0, .int .i64 0, .int .i64 0, .int .i64 0, .bool false, .slice none 0 0, .bool false, .int .i64 0, .int .i64 0, .int .i64 0, .int .i64 0, .int .i64 0, .string ⟨#[]⟩, .string ⟨#[]⟩, .int .i64 0, .int .i64 0, .int .i64 0, .slice none 0 0] 32)).alloc (.cells #[.string s, .int .i64 0, .bool false] 113)).alloc (.cells #[.pointer (some ⟨w.heap.size + 1, 0, none⟩), .int .i8 0, .int .i64 0, .int .i64 0, .int .i64 0, .bool false, .slice none 0 0, .bool false, .int .i64 0, .int .i64 0, .int .i64 0, .int .i64 0, .int .i64 0, .string ⟨#[]⟩, .string ⟨#[]⟩, .int .i64 0, .int .i64 0, .int .i64 0, .slice none 0 0] 89)) := ⟨_, rfl⟩
  have hs0 : W0.heap.size = w.heap.size + 1 + 1 + 1 := by rw [hW0]; simp
  have B0 : Below w.heap.size w W0 := by rw [hW0]; exact bal (bal (bal (Below.refl _ _) _) _) _
  have K0 : Blk W0 w.heap.size 32 ezero := by rw [hW0]; exact ((blk_new w _ _ rfl).alloc _).alloc _
  have KR : RdB W0 (w.heap.size + 1) s 0 false := by rw [hW0]; exact (blk_new _ _ _ (by simp)).alloc _
  have KG : Blk W0 (w.heap.size + 1 + 1) 89 (erC (w.heap.size + 1) (baseEn 0) none none 0 0) := by rw [hW0]; exact blk_new _ _ _ (by simp)
  have RK : RdOk (w.heap.size + 1 + 1) W0 (w.heap.size + 1) s 0 false := ⟨KR, Nat.zero_le _, hg.up B0, by omega, by omega, Nat.lt_of_lt_of_le hg.lt (by omega), by omega⟩
  have S0 := Lib.hid (show ErS0 (w.heap.size + 1 + 1) (w.heap.size + 1 + 1) (w.heap.size + 1) s 0 false 0 W0 from ⟨KG, RK, Nat.le_refl _⟩)
  have N1 := Lib.hid (RNum_z hz1 RK)
  have HR := Lib.hid hraw
  have HZ3 := Lib.hid hz3
  have HW := Lib.hid hW0
  have HB0 := Lib.hid B0
  have HK0 := Lib.hid K0
  have HQ := Lib.hid hq
  have HKK := Lib.hid hk
  have RG := Lib.hid (fun W => ereading_data kd hk W)
  have x0 : W0.cell? ⟨w.heap.size + 1 + 1, 0, none⟩ = some (.pointer (some ⟨w.heap.size + 1, 0, none⟩)) := KG.cell 0
  have cv : IntKind.i8.wrap kd = kd := wrap_kd7 hkd
  clear hraw hz1 hz3 B0 K0 KR KG RK hW0 hg hq hk hlen hkd
  go_enter Tryz.func21, Tryz.ntmps21
  go_wp2_with fail
  refine (RNew_any s _).mono ?_
  rintro e w1 ⟨rfl, rfl⟩
  go_upto_region 2 with (fail)
  rw [← HW.out]
  go_wp2_with fail
  refine N1.out.mono ?_
  rintro e w1 ⟨rfl, r1, o1⟩
  have S1 := Lib.hid (S0.out.next r1 o1)
  have kst := store_kd kd (S1.out.1.cell 1) (S1.out.1.frozen 1)
  have S2 := Lib.hid (show ErS0 (w.heap.size + 1 + 1) (w.heap.size + 1 + 1) (w.heap.size + 1) s j1 b1 kd (w1.setCell ⟨w.heap.size + 1 + 1, 1, none⟩ (.int .i8 kd)) from ⟨S1.out.1.set_ 1 _, S1.out.2.1.set (Nat.le_refl _) _, Nat.le_refl _⟩)
  have O2 := Lib.hid ((only_ge (g := w.heap.size + 1 + 1) o1).set (g := w.heap.size + 1 + 1) (o := 1) (.inl (.inr (Nat.le_refl _))) (.int .i8 kd))
  clear r1 o1 x0
  go_upto_region 3 with (fail)
  clear kst
  generalize w1.setCell ⟨w.heap.size + 1 + 1, 1, none⟩ (.int .i8 kd) = w2 at *
  have x1 : w2.cell? ⟨w.heap.size + 1 + 1, 1, none⟩ = some (.int .i8 kd) := S2.out.1.cell 1
  go_wp2_with fail
  refine (RG.out _).mono ?_
  rintro e w3 ⟨rfl, b3'⟩
  have S3 := Lib.hid (show ErS0 (w.heap.size + 1 + 1) (w.heap.size + 1 + 1) (w.heap.size + 1) s j1 b1 kd w3 from ⟨S2.out.1.below b3' S2.out.1.lt, S2.out.2.1.below (b3'.mono S2.out.2.1.2.2.2.2.2.2), Nat.le_refl _⟩)
  have O3 := Lib.hid (O2.out.then_below b3')
  have BD := Lib.hid (erbody_data _ _ _ s kd HKK.out j1 j3 b1 b3 y w3 S3.out HZ3.out)
  clear x1 b3'
  go_wp2_with fail
  refine BD.out.mono ?_
  rintro e w4 ⟨rfl, s4, o4⟩
  have S4 := Lib.hid s4
  have O4 := Lib.hid (O3.out.trans o4)
  obtain ⟨A9, D9, c9, e9, k4, r4, _, ow1, ow2⟩ := s4
  have x0 : w4.cell? ⟨w.heap.size + 1 + 1, 0, none⟩ = some (.pointer (some ⟨w.heap.size + 1, 0, none⟩)) := k4.cell 0
  have E1 := Lib.hid (REnd_any (w.heap.size + 1) s j3 b3 w4 r4.1)
  rw [← HQ.out] at k4 ow1 ow2
  have K4 := Lib.hid k4
  have OW1 := Lib.hid ow1
  have OW2 := Lib.hid ow2
  have KT := Lib.hid (O4.out.blk HK0.out (by omega))
  have BE := Lib.hid (HB0.out.trans (O4.out.below HB0.out.size (fun x hx => by omega)))
  clear k4 r4 ow1 ow2 o4
  rw [← HQ.out] at HR
  clear HQ HKK HZ3 S0 S1 S2 S3 N1 HW O2 O3 BD RG
  by_cases hE : b3 = true ∨ j3 ≠ s.size
  · have he : endOf s.size j3 b3 = 70 := by unfold endOf; rw [if_pos hE]
    rw [he] at E1
    have HRR := Lib.hid (show readE 1 1048575 6 (lb s) = (En0, 70) by
      rw [HR.out, length_lb]
      rcases hE with h | h
      · rw [if_pos (.inl h)]
      · rw [if_pos (.inr (.inl h))])
    clear hE he
    go_wp2_with fail
    refine E1.out.mono ?_
    rintro e w5 ⟨rfl, n5, rfl⟩
    obtain ⟨W', st, kw, hsz, fb, fk⟩ := store_blk (cs := ezero) (KT.out.drewN n5) rfl rfl (by simp [Value.oneCell'])
    have BW := Lib.hid (fb _ w (Nat.le_refl _) (below_drewN BE.out n5))
    have KW := Lib.hid kw
    clear x0 kw hsz fb fk
    go_wp2_with fail
    refine bodyPost_ret (v := .tuple #[(.agg #[.int .i8 0, .int .i64 0, .int .i64 0, .int .i64 0, .bool false, .slice none 0 0, .bool false, .int .i64 0, .int .i64 0, .int .i64 0, .int .i64 0, .int .i64 0, .string ⟨#[]⟩, .string ⟨#[]⟩, .int .i64 0, .int .i64 0, .int .i64 0, .slice none 0 0]), .int .i64 70]) (erread_ret En0 none none 0 0 70 _ w.heap.size _ rfl rfl KW.out) rfl ?_
    rw [HRR.out]
    exact ⟨none, none, 0, 0, rfl, ⟨Reads.none_, Reads.none_, Nat.zero_le _, Nat.zero_le _⟩, BW.out, NwE.nil⟩
  · have he : endOf s.size j3 b3 = 0 := by unfold endOf; rw [if_neg hE]
    rw [he] at E1
    have HE := Lib.hid hE
    clear hE he
    go_wp2_with fail
    refine E1.out.mono ?_
    rintro e w5 ⟨rfl, n5, rfl⟩
    have LM := cells_mid (K4.out.drewN n5) rfl
    have ER5 : EnR (w4.drewN n5) q A9 D9 := ⟨Reads.of_own (own_below OW1.out (below_drewN (Below.refl _ _) n5)), Reads.of_own (own_below OW2.out (below_drewN (Below.refl _ _) n5)), by omega, by omega⟩
    have MY := Lib.hid (EnMay_any q A9 D9 c9 e9 _ ER5)
    have ER := Lib.hid ER5
    have y0 : (w4.drewN n5).cell? ⟨w.heap.size + 1 + 1, 0, none⟩ = some (.pointer (some ⟨w.heap.size + 1, 0, none⟩)) := (K4.out.drewN n5).cell 0
    clear x0 ER5
    cases hmy : mayEn q
    · rw [hmy] at MY
      have HRR := Lib.hid (show readE 1 1048575 6 (lb s) = (En0, 70) by rw [HR.out, if_pos (.inr (.inr hmy))])
      clear hmy
      go_wp2_with fail
      refine MY.out.mono ?_
      rintro e w6 ⟨rfl, b6⟩
      obtain ⟨W', st, kw, hsz, fb, fk⟩ := store_blk (cs := ezero) ((KT.out.drewN n5).below b6 (KT.out.drewN n5).lt) rfl rfl (by simp [Value.oneCell'])
      have BW := Lib.hid (fb _ w (Nat.le_refl _) (btrans (below_drewN BE.out n5) b6))
      have KW := Lib.hid kw
      clear kw hsz fb fk LM y0 b6
      go_wp2_with fail
      refine bodyPost_ret (v := .tuple #[(.agg #[.int .i8 0, .int .i64 0, .int .i64 0, .int .i64 0, .bool false, .slice none 0 0, .bool false, .int .i64 0, .int .i64 0, .int .i64 0, .int .i64 0, .int .i64 0, .string ⟨#[]⟩, .string ⟨#[]⟩, .int .i64 0, .int .i64 0, .int .i64 0, .slice none 0 0]), .int .i64 70]) (erread_ret En0 none none 0 0 70 _ w.heap.size _ rfl rfl KW.out) rfl ?_
      rw [HRR.out]
      exact ⟨none, none, 0, 0, rfl, ⟨Reads.none_, Reads.none_, Nat.zero_le _, Nat.zero_le _⟩, BW.out, NwE.nil⟩
    · rw [hmy] at MY
      have HRR := Lib.hid (show readE 1 1048575 6 (lb s) = (q, 0) by
        rw [HR.out, if_neg]
        rw [length_lb, hmy]
        rintro (h | h | h)
        · exact HE.out (.inl h)
        · exact HE.out (.inr h)
        · cases h)
      clear hmy
      go_wp2_with fail
      refine MY.out.mono ?_
      rintro e w6 ⟨rfl, b6⟩
      have LM6 := cells_mid ((K4.out.drewN n5).below b6 (K4.out.drewN n5).lt) rfl
      have y6 := ((K4.out.drewN n5).below b6 (K4.out.drewN n5).lt).cell 0
      obtain ⟨W', st, kw, fb, fh⟩ := store_blk2 (cs := #[.int .i8 q.kd, .int .i64 q.b.pid, .int .i64 q.b.ep, .int .i64 q.b.seq, .bool q.b.txn, .slice A9 q.b.rs.length c9, .bool q.yes, .int .i64 q.nx, .int .i64 q.off, .int .i64 q.row.1, .int .i64 q.row.2.1, .int .i64 q.row.2.2.1, .string q.row.2.2.2.1, .string q.row.2.2.2.2, .int .i64 q.prod.pid, .int .i64 q.prod.ep, .int .i64 q.prod.nx, .slice D9 q.prod.seen.length e9]) ((KT.out.drewN n5).below b6 (KT.out.drewN n5).lt) rfl rfl (by simp [Value.oneCell'])
      have BW := Lib.hid (fb _ w (Nat.le_refl _) (btrans (below_drewN BE.out n5) b6))
      have p1 := own_below (own_below OW1.out (below_drewN (Below.refl _ _) n5)) b6
      have p2 := own_below (own_below OW2.out (below_drewN (Below.refl _ _) n5)) b6
      have q1 := own_keepN p1 (fun y hy => fh y (by have := (p1.lt y hy).1; omega))
      have q2 := own_keepN p2 (fun y hy => fh y (by have := (p2.lt y hy).1; omega))
      have NW := Lib.hid (show NwE w.heap.size A9 D9 from ⟨fun ad h => by have := (q1.lt ad.block (by rw [h]; rfl)).1; omega, fun ad h => by have := (q2.lt ad.block (by rw [h]; rfl)).1; omega⟩)
      have EF := Lib.hid (show EnR W' q A9 D9 from ⟨Reads.of_own q1, Reads.of_own q2, by omega, by omega⟩)
      have KW := Lib.hid kw
      clear kw fb fh LM y0 p1 p2 q1 q2 b6
      go_wp2_with fail
      refine bodyPost_ret (v := .tuple #[(.agg #[.int .i8 q.kd, .int .i64 q.b.pid, .int .i64 q.b.ep, .int .i64 q.b.seq, .bool q.b.txn, .slice A9 q.b.rs.length c9, .bool q.yes, .int .i64 q.nx, .int .i64 q.off, .int .i64 q.row.1, .int .i64 q.row.2.1, .int .i64 q.row.2.2.1, .string q.row.2.2.2.1, .string q.row.2.2.2.2, .int .i64 q.prod.pid, .int .i64 q.prod.ep, .int .i64 q.prod.nx, .slice D9 q.prod.seen.length e9]), .int .i64 0]) (erread_ret q A9 D9 c9 e9 0 _ w.heap.size _ rfl rfl KW.out) rfl ?_
      rw [HRR.out]
      exact ⟨A9, D9, c9, e9, rfl, EF.out, BW.out, NW.out⟩
set_option maxRecDepth 100000 in
set_option maxHeartbeats 8000000 in
theorem EnRead_1 (s : ByteArray) (w : World) (hl : s.size ≤ 100000) (hg : HasET w) (kd : Int) (hk : kd = 1) (j1 j3 : Nat) (b1 b3 : Bool) (y : Eb) (hz1 : rdNum (lb s) 0 false 0 6 = (kd, j1, b1)) (hz3 : rdE 1 1048575 kd (lb s) j1 b1 = (y, j3, b3)) :
    Calls Tryz.prog 21 #[.string s] w (ErRn (readE 1 1048575 6 (lb s)).1 (readE 1 1048575 6 (lb s)).2 w) := by
  have hraw : readE 1 1048575 6 (lb s) = if b3 = true ∨ j3 ≠ (lb s).length ∨ mayEn (enOf kd y) = false then (En0, 70) else (enOf kd y, 0) := by
    unfold readE
    have hz1' : rdNum (lb s) 0 false 0 ((6 : Nat) : Int) = (kd, j1, b1) := hz1
    have e : rdEn 1 1048575 6 (lb s) 0 false = (enOf kd y, j3, b3) := by simp only [rdEn, rdMap, rdBind, hz1', hz3]
    rw [e]
  have hlen := rdE_len 1 1048575 kd (lb s) j1 b1
  rw [hz3] at hlen
  obtain ⟨q, hq⟩ : ∃ q, q = enOf kd y := ⟨_, rfl⟩
  have hqr : q.b.rs.length ≤ 4 ∧ q.prod.seen.length ≤ 3 := by rw [hq]; exact hlen
  have hkd : 0 ≤ kd ∧ kd ≤ 6 := by omega
  obtain ⟨W0, hW0⟩ : ∃ W0, W0 = (((w.alloc (.cells #[.int .i8 0, .int .i64 0, .int .i64 0, .int .i64 0, .bool false, .slice none 0 0, .bool false, .int .i64 0, .int .i64 0, .int .i64 0, .int .i64 0, .int .i64 0, .string ⟨#[]⟩, .string ⟨#[]⟩, .int .i64 0, .int .i64 0, .int .i64 0, .slice none 0 0] 32)).alloc (.cells #[.string s, .int .i64 0, .bool false] 113)).alloc (.cells #[.pointer (some ⟨w.heap.size + 1, 0, none⟩), .int .i8 0, .int .i64 0, .int .i64 0, .int .i64 0, .bool false, .slice none 0 0, .bool false, .int .i64 0, .int .i64 0, .int .i64 0, .int .i64 0, .int .i64 0, .string ⟨#[]⟩, .string ⟨#[]⟩, .int .i64 0, .int .i64 0, .int .i64 0, .slice none 0 0] 89)) := ⟨_, rfl⟩
  have hs0 : W0.heap.size = w.heap.size + 1 + 1 + 1 := by rw [hW0]; simp
  have B0 : Below w.heap.size w W0 := by rw [hW0]; exact bal (bal (bal (Below.refl _ _) _) _) _
  have K0 : Blk W0 w.heap.size 32 ezero := by rw [hW0]; exact ((blk_new w _ _ rfl).alloc _).alloc _
  have KR : RdB W0 (w.heap.size + 1) s 0 false := by rw [hW0]; exact (blk_new _ _ _ (by simp)).alloc _
  have KG : Blk W0 (w.heap.size + 1 + 1) 89 (erC (w.heap.size + 1) (baseEn 0) none none 0 0) := by rw [hW0]; exact blk_new _ _ _ (by simp)
  have RK : RdOk (w.heap.size + 1 + 1) W0 (w.heap.size + 1) s 0 false := ⟨KR, Nat.zero_le _, hg.up B0, by omega, by omega, Nat.lt_of_lt_of_le hg.lt (by omega), by omega⟩
  have S0 := Lib.hid (show ErS0 (w.heap.size + 1 + 1) (w.heap.size + 1 + 1) (w.heap.size + 1) s 0 false 0 W0 from ⟨KG, RK, Nat.le_refl _⟩)
  have N1 := Lib.hid (RNum_z hz1 RK)
  have HR := Lib.hid hraw
  have HZ3 := Lib.hid hz3
  have HW := Lib.hid hW0
  have HB0 := Lib.hid B0
  have HK0 := Lib.hid K0
  have HQ := Lib.hid hq
  have HKK := Lib.hid hk
  have RG := Lib.hid (fun W => ereading_mark kd hk W)
  have x0 : W0.cell? ⟨w.heap.size + 1 + 1, 0, none⟩ = some (.pointer (some ⟨w.heap.size + 1, 0, none⟩)) := KG.cell 0
  have cv : IntKind.i8.wrap kd = kd := wrap_kd7 hkd
  clear hraw hz1 hz3 B0 K0 KR KG RK hW0 hg hq hk hlen hkd
  go_enter Tryz.func21, Tryz.ntmps21
  go_wp2_with fail
  refine (RNew_any s _).mono ?_
  rintro e w1 ⟨rfl, rfl⟩
  go_upto_region 2 with (fail)
  rw [← HW.out]
  go_wp2_with fail
  refine N1.out.mono ?_
  rintro e w1 ⟨rfl, r1, o1⟩
  have S1 := Lib.hid (S0.out.next r1 o1)
  have kst := store_kd kd (S1.out.1.cell 1) (S1.out.1.frozen 1)
  have S2 := Lib.hid (show ErS0 (w.heap.size + 1 + 1) (w.heap.size + 1 + 1) (w.heap.size + 1) s j1 b1 kd (w1.setCell ⟨w.heap.size + 1 + 1, 1, none⟩ (.int .i8 kd)) from ⟨S1.out.1.set_ 1 _, S1.out.2.1.set (Nat.le_refl _) _, Nat.le_refl _⟩)
  have O2 := Lib.hid ((only_ge (g := w.heap.size + 1 + 1) o1).set (g := w.heap.size + 1 + 1) (o := 1) (.inl (.inr (Nat.le_refl _))) (.int .i8 kd))
  clear r1 o1 x0
  go_upto_region 3 with (fail)
  clear kst
  generalize w1.setCell ⟨w.heap.size + 1 + 1, 1, none⟩ (.int .i8 kd) = w2 at *
  have x1 : w2.cell? ⟨w.heap.size + 1 + 1, 1, none⟩ = some (.int .i8 kd) := S2.out.1.cell 1
  go_wp2_with fail
  refine (RG.out _).mono ?_
  rintro e w3 ⟨rfl, b3'⟩
  have S3 := Lib.hid (show ErS0 (w.heap.size + 1 + 1) (w.heap.size + 1 + 1) (w.heap.size + 1) s j1 b1 kd w3 from ⟨S2.out.1.below b3' S2.out.1.lt, S2.out.2.1.below (b3'.mono S2.out.2.1.2.2.2.2.2.2), Nat.le_refl _⟩)
  have O3 := Lib.hid (O2.out.then_below b3')
  have BD := Lib.hid (erbody_mark _ _ _ s kd HKK.out j1 j3 b1 b3 y w3 S3.out HZ3.out)
  clear x1 b3'
  go_wp2_with fail
  refine BD.out.mono ?_
  rintro e w4 ⟨rfl, s4, o4⟩
  have S4 := Lib.hid s4
  have O4 := Lib.hid (O3.out.trans o4)
  obtain ⟨A9, D9, c9, e9, k4, r4, _, ow1, ow2⟩ := s4
  have x0 : w4.cell? ⟨w.heap.size + 1 + 1, 0, none⟩ = some (.pointer (some ⟨w.heap.size + 1, 0, none⟩)) := k4.cell 0
  have E1 := Lib.hid (REnd_any (w.heap.size + 1) s j3 b3 w4 r4.1)
  rw [← HQ.out] at k4 ow1 ow2
  have K4 := Lib.hid k4
  have OW1 := Lib.hid ow1
  have OW2 := Lib.hid ow2
  have KT := Lib.hid (O4.out.blk HK0.out (by omega))
  have BE := Lib.hid (HB0.out.trans (O4.out.below HB0.out.size (fun x hx => by omega)))
  clear k4 r4 ow1 ow2 o4
  rw [← HQ.out] at HR
  clear HQ HKK HZ3 S0 S1 S2 S3 N1 HW O2 O3 BD RG
  by_cases hE : b3 = true ∨ j3 ≠ s.size
  · have he : endOf s.size j3 b3 = 70 := by unfold endOf; rw [if_pos hE]
    rw [he] at E1
    have HRR := Lib.hid (show readE 1 1048575 6 (lb s) = (En0, 70) by
      rw [HR.out, length_lb]
      rcases hE with h | h
      · rw [if_pos (.inl h)]
      · rw [if_pos (.inr (.inl h))])
    clear hE he
    go_wp2_with fail
    refine E1.out.mono ?_
    rintro e w5 ⟨rfl, n5, rfl⟩
    obtain ⟨W', st, kw, hsz, fb, fk⟩ := store_blk (cs := ezero) (KT.out.drewN n5) rfl rfl (by simp [Value.oneCell'])
    have BW := Lib.hid (fb _ w (Nat.le_refl _) (below_drewN BE.out n5))
    have KW := Lib.hid kw
    clear x0 kw hsz fb fk
    go_wp2_with fail
    refine bodyPost_ret (v := .tuple #[(.agg #[.int .i8 0, .int .i64 0, .int .i64 0, .int .i64 0, .bool false, .slice none 0 0, .bool false, .int .i64 0, .int .i64 0, .int .i64 0, .int .i64 0, .int .i64 0, .string ⟨#[]⟩, .string ⟨#[]⟩, .int .i64 0, .int .i64 0, .int .i64 0, .slice none 0 0]), .int .i64 70]) (erread_ret En0 none none 0 0 70 _ w.heap.size _ rfl rfl KW.out) rfl ?_
    rw [HRR.out]
    exact ⟨none, none, 0, 0, rfl, ⟨Reads.none_, Reads.none_, Nat.zero_le _, Nat.zero_le _⟩, BW.out, NwE.nil⟩
  · have he : endOf s.size j3 b3 = 0 := by unfold endOf; rw [if_neg hE]
    rw [he] at E1
    have HE := Lib.hid hE
    clear hE he
    go_wp2_with fail
    refine E1.out.mono ?_
    rintro e w5 ⟨rfl, n5, rfl⟩
    have LM := cells_mid (K4.out.drewN n5) rfl
    have ER5 : EnR (w4.drewN n5) q A9 D9 := ⟨Reads.of_own (own_below OW1.out (below_drewN (Below.refl _ _) n5)), Reads.of_own (own_below OW2.out (below_drewN (Below.refl _ _) n5)), by omega, by omega⟩
    have MY := Lib.hid (EnMay_any q A9 D9 c9 e9 _ ER5)
    have ER := Lib.hid ER5
    have y0 : (w4.drewN n5).cell? ⟨w.heap.size + 1 + 1, 0, none⟩ = some (.pointer (some ⟨w.heap.size + 1, 0, none⟩)) := (K4.out.drewN n5).cell 0
    clear x0 ER5
    cases hmy : mayEn q
    · rw [hmy] at MY
      have HRR := Lib.hid (show readE 1 1048575 6 (lb s) = (En0, 70) by rw [HR.out, if_pos (.inr (.inr hmy))])
      clear hmy
      go_wp2_with fail
      refine MY.out.mono ?_
      rintro e w6 ⟨rfl, b6⟩
      obtain ⟨W', st, kw, hsz, fb, fk⟩ := store_blk (cs := ezero) ((KT.out.drewN n5).below b6 (KT.out.drewN n5).lt) rfl rfl (by simp [Value.oneCell'])
      have BW := Lib.hid (fb _ w (Nat.le_refl _) (btrans (below_drewN BE.out n5) b6))
      have KW := Lib.hid kw
      clear kw hsz fb fk LM y0 b6
      go_wp2_with fail
      refine bodyPost_ret (v := .tuple #[(.agg #[.int .i8 0, .int .i64 0, .int .i64 0, .int .i64 0, .bool false, .slice none 0 0, .bool false, .int .i64 0, .int .i64 0, .int .i64 0, .int .i64 0, .int .i64 0, .string ⟨#[]⟩, .string ⟨#[]⟩, .int .i64 0, .int .i64 0, .int .i64 0, .slice none 0 0]), .int .i64 70]) (erread_ret En0 none none 0 0 70 _ w.heap.size _ rfl rfl KW.out) rfl ?_
      rw [HRR.out]
      exact ⟨none, none, 0, 0, rfl, ⟨Reads.none_, Reads.none_, Nat.zero_le _, Nat.zero_le _⟩, BW.out, NwE.nil⟩
    · rw [hmy] at MY
      have HRR := Lib.hid (show readE 1 1048575 6 (lb s) = (q, 0) by
        rw [HR.out, if_neg]
        rw [length_lb, hmy]
        rintro (h | h | h)
        · exact HE.out (.inl h)
        · exact HE.out (.inr h)
        · cases h)
      clear hmy
      go_wp2_with fail
      refine MY.out.mono ?_
      rintro e w6 ⟨rfl, b6⟩
      have LM6 := cells_mid ((K4.out.drewN n5).below b6 (K4.out.drewN n5).lt) rfl
      have y6 := ((K4.out.drewN n5).below b6 (K4.out.drewN n5).lt).cell 0
      obtain ⟨W', st, kw, fb, fh⟩ := store_blk2 (cs := #[.int .i8 q.kd, .int .i64 q.b.pid, .int .i64 q.b.ep, .int .i64 q.b.seq, .bool q.b.txn, .slice A9 q.b.rs.length c9, .bool q.yes, .int .i64 q.nx, .int .i64 q.off, .int .i64 q.row.1, .int .i64 q.row.2.1, .int .i64 q.row.2.2.1, .string q.row.2.2.2.1, .string q.row.2.2.2.2, .int .i64 q.prod.pid, .int .i64 q.prod.ep, .int .i64 q.prod.nx, .slice D9 q.prod.seen.length e9]) ((KT.out.drewN n5).below b6 (KT.out.drewN n5).lt) rfl rfl (by simp [Value.oneCell'])
      have BW := Lib.hid (fb _ w (Nat.le_refl _) (btrans (below_drewN BE.out n5) b6))
      have p1 := own_below (own_below OW1.out (below_drewN (Below.refl _ _) n5)) b6
      have p2 := own_below (own_below OW2.out (below_drewN (Below.refl _ _) n5)) b6
      have q1 := own_keepN p1 (fun y hy => fh y (by have := (p1.lt y hy).1; omega))
      have q2 := own_keepN p2 (fun y hy => fh y (by have := (p2.lt y hy).1; omega))
      have NW := Lib.hid (show NwE w.heap.size A9 D9 from ⟨fun ad h => by have := (q1.lt ad.block (by rw [h]; rfl)).1; omega, fun ad h => by have := (q2.lt ad.block (by rw [h]; rfl)).1; omega⟩)
      have EF := Lib.hid (show EnR W' q A9 D9 from ⟨Reads.of_own q1, Reads.of_own q2, by omega, by omega⟩)
      have KW := Lib.hid kw
      clear kw fb fh LM y0 p1 p2 q1 q2 b6
      go_wp2_with fail
      refine bodyPost_ret (v := .tuple #[(.agg #[.int .i8 q.kd, .int .i64 q.b.pid, .int .i64 q.b.ep, .int .i64 q.b.seq, .bool q.b.txn, .slice A9 q.b.rs.length c9, .bool q.yes, .int .i64 q.nx, .int .i64 q.off, .int .i64 q.row.1, .int .i64 q.row.2.1, .int .i64 q.row.2.2.1, .string q.row.2.2.2.1, .string q.row.2.2.2.2, .int .i64 q.prod.pid, .int .i64 q.prod.ep, .int .i64 q.prod.nx, .slice D9 q.prod.seen.length e9]), .int .i64 0]) (erread_ret q A9 D9 c9 e9 0 _ w.heap.size _ rfl rfl KW.out) rfl ?_
      rw [HRR.out]
      exact ⟨A9, D9, c9, e9, rfl, EF.out, BW.out, NW.out⟩
set_option maxRecDepth 100000 in
set_option maxHeartbeats 8000000 in
theorem EnRead_2 (s : ByteArray) (w : World) (hl : s.size ≤ 100000) (hg : HasET w) (kd : Int) (hk : kd = 2) (j1 j3 : Nat) (b1 b3 : Bool) (y : Eb) (hz1 : rdNum (lb s) 0 false 0 6 = (kd, j1, b1)) (hz3 : rdE 1 1048575 kd (lb s) j1 b1 = (y, j3, b3)) :
    Calls Tryz.prog 21 #[.string s] w (ErRn (readE 1 1048575 6 (lb s)).1 (readE 1 1048575 6 (lb s)).2 w) := by
  have hraw : readE 1 1048575 6 (lb s) = if b3 = true ∨ j3 ≠ (lb s).length ∨ mayEn (enOf kd y) = false then (En0, 70) else (enOf kd y, 0) := by
    unfold readE
    have hz1' : rdNum (lb s) 0 false 0 ((6 : Nat) : Int) = (kd, j1, b1) := hz1
    have e : rdEn 1 1048575 6 (lb s) 0 false = (enOf kd y, j3, b3) := by simp only [rdEn, rdMap, rdBind, hz1', hz3]
    rw [e]
  have hlen := rdE_len 1 1048575 kd (lb s) j1 b1
  rw [hz3] at hlen
  obtain ⟨q, hq⟩ : ∃ q, q = enOf kd y := ⟨_, rfl⟩
  have hqr : q.b.rs.length ≤ 4 ∧ q.prod.seen.length ≤ 3 := by rw [hq]; exact hlen
  have hkd : 0 ≤ kd ∧ kd ≤ 6 := by omega
  obtain ⟨W0, hW0⟩ : ∃ W0, W0 = (((w.alloc (.cells #[.int .i8 0, .int .i64 0, .int .i64 0, .int .i64 0, .bool false, .slice none 0 0, .bool false, .int .i64 0, .int .i64 0, .int .i64 0, .int .i64 0, .int .i64 0, .string ⟨#[]⟩, .string ⟨#[]⟩, .int .i64 0, .int .i64 0, .int .i64 0, .slice none 0 0] 32)).alloc (.cells #[.string s, .int .i64 0, .bool false] 113)).alloc (.cells #[.pointer (some ⟨w.heap.size + 1, 0, none⟩), .int .i8 0, .int .i64 0, .int .i64 0, .int .i64 0, .bool false, .slice none 0 0, .bool false, .int .i64 0, .int .i64 0, .int .i64 0, .int .i64 0, .int .i64 0, .string ⟨#[]⟩, .string ⟨#[]⟩, .int .i64 0, .int .i64 0, .int .i64 0, .slice none 0 0] 89)) := ⟨_, rfl⟩
  have hs0 : W0.heap.size = w.heap.size + 1 + 1 + 1 := by rw [hW0]; simp
  have B0 : Below w.heap.size w W0 := by rw [hW0]; exact bal (bal (bal (Below.refl _ _) _) _) _
  have K0 : Blk W0 w.heap.size 32 ezero := by rw [hW0]; exact ((blk_new w _ _ rfl).alloc _).alloc _
  have KR : RdB W0 (w.heap.size + 1) s 0 false := by rw [hW0]; exact (blk_new _ _ _ (by simp)).alloc _
  have KG : Blk W0 (w.heap.size + 1 + 1) 89 (erC (w.heap.size + 1) (baseEn 0) none none 0 0) := by rw [hW0]; exact blk_new _ _ _ (by simp)
  have RK : RdOk (w.heap.size + 1 + 1) W0 (w.heap.size + 1) s 0 false := ⟨KR, Nat.zero_le _, hg.up B0, by omega, by omega, Nat.lt_of_lt_of_le hg.lt (by omega), by omega⟩
  have S0 := Lib.hid (show ErS0 (w.heap.size + 1 + 1) (w.heap.size + 1 + 1) (w.heap.size + 1) s 0 false 0 W0 from ⟨KG, RK, Nat.le_refl _⟩)
  have N1 := Lib.hid (RNum_z hz1 RK)
  have HR := Lib.hid hraw
  have HZ3 := Lib.hid hz3
  have HW := Lib.hid hW0
  have HB0 := Lib.hid B0
  have HK0 := Lib.hid K0
  have HQ := Lib.hid hq
  have HKK := Lib.hid hk
  have RG := Lib.hid (fun W => ereading_cut kd hk W)
  have x0 : W0.cell? ⟨w.heap.size + 1 + 1, 0, none⟩ = some (.pointer (some ⟨w.heap.size + 1, 0, none⟩)) := KG.cell 0
  have cv : IntKind.i8.wrap kd = kd := wrap_kd7 hkd
  clear hraw hz1 hz3 B0 K0 KR KG RK hW0 hg hq hk hlen hkd
  go_enter Tryz.func21, Tryz.ntmps21
  go_wp2_with fail
  refine (RNew_any s _).mono ?_
  rintro e w1 ⟨rfl, rfl⟩
  go_upto_region 2 with (fail)
  rw [← HW.out]
  go_wp2_with fail
  refine N1.out.mono ?_
  rintro e w1 ⟨rfl, r1, o1⟩
  have S1 := Lib.hid (S0.out.next r1 o1)
  have kst := store_kd kd (S1.out.1.cell 1) (S1.out.1.frozen 1)
  have S2 := Lib.hid (show ErS0 (w.heap.size + 1 + 1) (w.heap.size + 1 + 1) (w.heap.size + 1) s j1 b1 kd (w1.setCell ⟨w.heap.size + 1 + 1, 1, none⟩ (.int .i8 kd)) from ⟨S1.out.1.set_ 1 _, S1.out.2.1.set (Nat.le_refl _) _, Nat.le_refl _⟩)
  have O2 := Lib.hid ((only_ge (g := w.heap.size + 1 + 1) o1).set (g := w.heap.size + 1 + 1) (o := 1) (.inl (.inr (Nat.le_refl _))) (.int .i8 kd))
  clear r1 o1 x0
  go_upto_region 3 with (fail)
  clear kst
  generalize w1.setCell ⟨w.heap.size + 1 + 1, 1, none⟩ (.int .i8 kd) = w2 at *
  have x1 : w2.cell? ⟨w.heap.size + 1 + 1, 1, none⟩ = some (.int .i8 kd) := S2.out.1.cell 1
  go_wp2_with fail
  refine (RG.out _).mono ?_
  rintro e w3 ⟨rfl, b3'⟩
  have S3 := Lib.hid (show ErS0 (w.heap.size + 1 + 1) (w.heap.size + 1 + 1) (w.heap.size + 1) s j1 b1 kd w3 from ⟨S2.out.1.below b3' S2.out.1.lt, S2.out.2.1.below (b3'.mono S2.out.2.1.2.2.2.2.2.2), Nat.le_refl _⟩)
  have O3 := Lib.hid (O2.out.then_below b3')
  have BD := Lib.hid (erbody_cut _ _ _ s kd HKK.out j1 j3 b1 b3 y w3 S3.out HZ3.out)
  clear x1 b3'
  go_wp2_with fail
  refine BD.out.mono ?_
  rintro e w4 ⟨rfl, s4, o4⟩
  have S4 := Lib.hid s4
  have O4 := Lib.hid (O3.out.trans o4)
  obtain ⟨A9, D9, c9, e9, k4, r4, _, ow1, ow2⟩ := s4
  have x0 : w4.cell? ⟨w.heap.size + 1 + 1, 0, none⟩ = some (.pointer (some ⟨w.heap.size + 1, 0, none⟩)) := k4.cell 0
  have E1 := Lib.hid (REnd_any (w.heap.size + 1) s j3 b3 w4 r4.1)
  rw [← HQ.out] at k4 ow1 ow2
  have K4 := Lib.hid k4
  have OW1 := Lib.hid ow1
  have OW2 := Lib.hid ow2
  have KT := Lib.hid (O4.out.blk HK0.out (by omega))
  have BE := Lib.hid (HB0.out.trans (O4.out.below HB0.out.size (fun x hx => by omega)))
  clear k4 r4 ow1 ow2 o4
  rw [← HQ.out] at HR
  clear HQ HKK HZ3 S0 S1 S2 S3 N1 HW O2 O3 BD RG
  by_cases hE : b3 = true ∨ j3 ≠ s.size
  · have he : endOf s.size j3 b3 = 70 := by unfold endOf; rw [if_pos hE]
    rw [he] at E1
    have HRR := Lib.hid (show readE 1 1048575 6 (lb s) = (En0, 70) by
      rw [HR.out, length_lb]
      rcases hE with h | h
      · rw [if_pos (.inl h)]
      · rw [if_pos (.inr (.inl h))])
    clear hE he
    go_wp2_with fail
    refine E1.out.mono ?_
    rintro e w5 ⟨rfl, n5, rfl⟩
    obtain ⟨W', st, kw, hsz, fb, fk⟩ := store_blk (cs := ezero) (KT.out.drewN n5) rfl rfl (by simp [Value.oneCell'])
    have BW := Lib.hid (fb _ w (Nat.le_refl _) (below_drewN BE.out n5))
    have KW := Lib.hid kw
    clear x0 kw hsz fb fk
    go_wp2_with fail
    refine bodyPost_ret (v := .tuple #[(.agg #[.int .i8 0, .int .i64 0, .int .i64 0, .int .i64 0, .bool false, .slice none 0 0, .bool false, .int .i64 0, .int .i64 0, .int .i64 0, .int .i64 0, .int .i64 0, .string ⟨#[]⟩, .string ⟨#[]⟩, .int .i64 0, .int .i64 0, .int .i64 0, .slice none 0 0]), .int .i64 70]) (erread_ret En0 none none 0 0 70 _ w.heap.size _ rfl rfl KW.out) rfl ?_
    rw [HRR.out]
    exact ⟨none, none, 0, 0, rfl, ⟨Reads.none_, Reads.none_, Nat.zero_le _, Nat.zero_le _⟩, BW.out, NwE.nil⟩
  · have he : endOf s.size j3 b3 = 0 := by unfold endOf; rw [if_neg hE]
    rw [he] at E1
    have HE := Lib.hid hE
    clear hE he
    go_wp2_with fail
    refine E1.out.mono ?_
    rintro e w5 ⟨rfl, n5, rfl⟩
    have LM := cells_mid (K4.out.drewN n5) rfl
    have ER5 : EnR (w4.drewN n5) q A9 D9 := ⟨Reads.of_own (own_below OW1.out (below_drewN (Below.refl _ _) n5)), Reads.of_own (own_below OW2.out (below_drewN (Below.refl _ _) n5)), by omega, by omega⟩
    have MY := Lib.hid (EnMay_any q A9 D9 c9 e9 _ ER5)
    have ER := Lib.hid ER5
    have y0 : (w4.drewN n5).cell? ⟨w.heap.size + 1 + 1, 0, none⟩ = some (.pointer (some ⟨w.heap.size + 1, 0, none⟩)) := (K4.out.drewN n5).cell 0
    clear x0 ER5
    cases hmy : mayEn q
    · rw [hmy] at MY
      have HRR := Lib.hid (show readE 1 1048575 6 (lb s) = (En0, 70) by rw [HR.out, if_pos (.inr (.inr hmy))])
      clear hmy
      go_wp2_with fail
      refine MY.out.mono ?_
      rintro e w6 ⟨rfl, b6⟩
      obtain ⟨W', st, kw, hsz, fb, fk⟩ := store_blk (cs := ezero) ((KT.out.drewN n5).below b6 (KT.out.drewN n5).lt) rfl rfl (by simp [Value.oneCell'])
      have BW := Lib.hid (fb _ w (Nat.le_refl _) (btrans (below_drewN BE.out n5) b6))
      have KW := Lib.hid kw
      clear kw hsz fb fk LM y0 b6
      go_wp2_with fail
      refine bodyPost_ret (v := .tuple #[(.agg #[.int .i8 0, .int .i64 0, .int .i64 0, .int .i64 0, .bool false, .slice none 0 0, .bool false, .int .i64 0, .int .i64 0, .int .i64 0, .int .i64 0, .int .i64 0, .string ⟨#[]⟩, .string ⟨#[]⟩, .int .i64 0, .int .i64 0, .int .i64 0, .slice none 0 0]), .int .i64 70]) (erread_ret En0 none none 0 0 70 _ w.heap.size _ rfl rfl KW.out) rfl ?_
      rw [HRR.out]
      exact ⟨none, none, 0, 0, rfl, ⟨Reads.none_, Reads.none_, Nat.zero_le _, Nat.zero_le _⟩, BW.out, NwE.nil⟩
    · rw [hmy] at MY
      have HRR := Lib.hid (show readE 1 1048575 6 (lb s) = (q, 0) by
        rw [HR.out, if_neg]
        rw [length_lb, hmy]
        rintro (h | h | h)
        · exact HE.out (.inl h)
        · exact HE.out (.inr h)
        · cases h)
      clear hmy
      go_wp2_with fail
      refine MY.out.mono ?_
      rintro e w6 ⟨rfl, b6⟩
      have LM6 := cells_mid ((K4.out.drewN n5).below b6 (K4.out.drewN n5).lt) rfl
      have y6 := ((K4.out.drewN n5).below b6 (K4.out.drewN n5).lt).cell 0
      obtain ⟨W', st, kw, fb, fh⟩ := store_blk2 (cs := #[.int .i8 q.kd, .int .i64 q.b.pid, .int .i64 q.b.ep, .int .i64 q.b.seq, .bool q.b.txn, .slice A9 q.b.rs.length c9, .bool q.yes, .int .i64 q.nx, .int .i64 q.off, .int .i64 q.row.1, .int .i64 q.row.2.1, .int .i64 q.row.2.2.1, .string q.row.2.2.2.1, .string q.row.2.2.2.2, .int .i64 q.prod.pid, .int .i64 q.prod.ep, .int .i64 q.prod.nx, .slice D9 q.prod.seen.length e9]) ((KT.out.drewN n5).below b6 (KT.out.drewN n5).lt) rfl rfl (by simp [Value.oneCell'])
      have BW := Lib.hid (fb _ w (Nat.le_refl _) (btrans (below_drewN BE.out n5) b6))
      have p1 := own_below (own_below OW1.out (below_drewN (Below.refl _ _) n5)) b6
      have p2 := own_below (own_below OW2.out (below_drewN (Below.refl _ _) n5)) b6
      have q1 := own_keepN p1 (fun y hy => fh y (by have := (p1.lt y hy).1; omega))
      have q2 := own_keepN p2 (fun y hy => fh y (by have := (p2.lt y hy).1; omega))
      have NW := Lib.hid (show NwE w.heap.size A9 D9 from ⟨fun ad h => by have := (q1.lt ad.block (by rw [h]; rfl)).1; omega, fun ad h => by have := (q2.lt ad.block (by rw [h]; rfl)).1; omega⟩)
      have EF := Lib.hid (show EnR W' q A9 D9 from ⟨Reads.of_own q1, Reads.of_own q2, by omega, by omega⟩)
      have KW := Lib.hid kw
      clear kw fb fh LM y0 p1 p2 q1 q2 b6
      go_wp2_with fail
      refine bodyPost_ret (v := .tuple #[(.agg #[.int .i8 q.kd, .int .i64 q.b.pid, .int .i64 q.b.ep, .int .i64 q.b.seq, .bool q.b.txn, .slice A9 q.b.rs.length c9, .bool q.yes, .int .i64 q.nx, .int .i64 q.off, .int .i64 q.row.1, .int .i64 q.row.2.1, .int .i64 q.row.2.2.1, .string q.row.2.2.2.1, .string q.row.2.2.2.2, .int .i64 q.prod.pid, .int .i64 q.prod.ep, .int .i64 q.prod.nx, .slice D9 q.prod.seen.length e9]), .int .i64 0]) (erread_ret q A9 D9 c9 e9 0 _ w.heap.size _ rfl rfl KW.out) rfl ?_
      rw [HRR.out]
      exact ⟨A9, D9, c9, e9, rfl, EF.out, BW.out, NW.out⟩
set_option maxRecDepth 100000 in
set_option maxHeartbeats 8000000 in
theorem EnRead_3 (s : ByteArray) (w : World) (hl : s.size ≤ 100000) (hg : HasET w) (kd : Int) (hk : kd = 3) (j1 j3 : Nat) (b1 b3 : Bool) (y : Eb) (hz1 : rdNum (lb s) 0 false 0 6 = (kd, j1, b1)) (hz3 : rdE 1 1048575 kd (lb s) j1 b1 = (y, j3, b3)) :
    Calls Tryz.prog 21 #[.string s] w (ErRn (readE 1 1048575 6 (lb s)).1 (readE 1 1048575 6 (lb s)).2 w) := by
  have hraw : readE 1 1048575 6 (lb s) = if b3 = true ∨ j3 ≠ (lb s).length ∨ mayEn (enOf kd y) = false then (En0, 70) else (enOf kd y, 0) := by
    unfold readE
    have hz1' : rdNum (lb s) 0 false 0 ((6 : Nat) : Int) = (kd, j1, b1) := hz1
    have e : rdEn 1 1048575 6 (lb s) 0 false = (enOf kd y, j3, b3) := by simp only [rdEn, rdMap, rdBind, hz1', hz3]
    rw [e]
  have hlen := rdE_len 1 1048575 kd (lb s) j1 b1
  rw [hz3] at hlen
  obtain ⟨q, hq⟩ : ∃ q, q = enOf kd y := ⟨_, rfl⟩
  have hqr : q.b.rs.length ≤ 4 ∧ q.prod.seen.length ≤ 3 := by rw [hq]; exact hlen
  have hkd : 0 ≤ kd ∧ kd ≤ 6 := by omega
  obtain ⟨W0, hW0⟩ : ∃ W0, W0 = (((w.alloc (.cells #[.int .i8 0, .int .i64 0, .int .i64 0, .int .i64 0, .bool false, .slice none 0 0, .bool false, .int .i64 0, .int .i64 0, .int .i64 0, .int .i64 0, .int .i64 0, .string ⟨#[]⟩, .string ⟨#[]⟩, .int .i64 0, .int .i64 0, .int .i64 0, .slice none 0 0] 32)).alloc (.cells #[.string s, .int .i64 0, .bool false] 113)).alloc (.cells #[.pointer (some ⟨w.heap.size + 1, 0, none⟩), .int .i8 0, .int .i64 0, .int .i64 0, .int .i64 0, .bool false, .slice none 0 0, .bool false, .int .i64 0, .int .i64 0, .int .i64 0, .int .i64 0, .int .i64 0, .string ⟨#[]⟩, .string ⟨#[]⟩, .int .i64 0, .int .i64 0, .int .i64 0, .slice none 0 0] 89)) := ⟨_, rfl⟩
  have hs0 : W0.heap.size = w.heap.size + 1 + 1 + 1 := by rw [hW0]; simp
  have B0 : Below w.heap.size w W0 := by rw [hW0]; exact bal (bal (bal (Below.refl _ _) _) _) _
  have K0 : Blk W0 w.heap.size 32 ezero := by rw [hW0]; exact ((blk_new w _ _ rfl).alloc _).alloc _
  have KR : RdB W0 (w.heap.size + 1) s 0 false := by rw [hW0]; exact (blk_new _ _ _ (by simp)).alloc _
  have KG : Blk W0 (w.heap.size + 1 + 1) 89 (erC (w.heap.size + 1) (baseEn 0) none none 0 0) := by rw [hW0]; exact blk_new _ _ _ (by simp)
  have RK : RdOk (w.heap.size + 1 + 1) W0 (w.heap.size + 1) s 0 false := ⟨KR, Nat.zero_le _, hg.up B0, by omega, by omega, Nat.lt_of_lt_of_le hg.lt (by omega), by omega⟩
  have S0 := Lib.hid (show ErS0 (w.heap.size + 1 + 1) (w.heap.size + 1 + 1) (w.heap.size + 1) s 0 false 0 W0 from ⟨KG, RK, Nat.le_refl _⟩)
  have N1 := Lib.hid (RNum_z hz1 RK)
  have HR := Lib.hid hraw
  have HZ3 := Lib.hid hz3
  have HW := Lib.hid hW0
  have HB0 := Lib.hid B0
  have HK0 := Lib.hid K0
  have HQ := Lib.hid hq
  have HKK := Lib.hid hk
  have RG := Lib.hid (fun W => ereading_copied kd hk W)
  have x0 : W0.cell? ⟨w.heap.size + 1 + 1, 0, none⟩ = some (.pointer (some ⟨w.heap.size + 1, 0, none⟩)) := KG.cell 0
  have cv : IntKind.i8.wrap kd = kd := wrap_kd7 hkd
  clear hraw hz1 hz3 B0 K0 KR KG RK hW0 hg hq hk hlen hkd
  go_enter Tryz.func21, Tryz.ntmps21
  go_wp2_with fail
  refine (RNew_any s _).mono ?_
  rintro e w1 ⟨rfl, rfl⟩
  go_upto_region 2 with (fail)
  rw [← HW.out]
  go_wp2_with fail
  refine N1.out.mono ?_
  rintro e w1 ⟨rfl, r1, o1⟩
  have S1 := Lib.hid (S0.out.next r1 o1)
  have kst := store_kd kd (S1.out.1.cell 1) (S1.out.1.frozen 1)
  have S2 := Lib.hid (show ErS0 (w.heap.size + 1 + 1) (w.heap.size + 1 + 1) (w.heap.size + 1) s j1 b1 kd (w1.setCell ⟨w.heap.size + 1 + 1, 1, none⟩ (.int .i8 kd)) from ⟨S1.out.1.set_ 1 _, S1.out.2.1.set (Nat.le_refl _) _, Nat.le_refl _⟩)
  have O2 := Lib.hid ((only_ge (g := w.heap.size + 1 + 1) o1).set (g := w.heap.size + 1 + 1) (o := 1) (.inl (.inr (Nat.le_refl _))) (.int .i8 kd))
  clear r1 o1 x0
  go_upto_region 3 with (fail)
  clear kst
  generalize w1.setCell ⟨w.heap.size + 1 + 1, 1, none⟩ (.int .i8 kd) = w2 at *
  have x1 : w2.cell? ⟨w.heap.size + 1 + 1, 1, none⟩ = some (.int .i8 kd) := S2.out.1.cell 1
  go_wp2_with fail
  refine (RG.out _).mono ?_
  rintro e w3 ⟨rfl, b3'⟩
  have S3 := Lib.hid (show ErS0 (w.heap.size + 1 + 1) (w.heap.size + 1 + 1) (w.heap.size + 1) s j1 b1 kd w3 from ⟨S2.out.1.below b3' S2.out.1.lt, S2.out.2.1.below (b3'.mono S2.out.2.1.2.2.2.2.2.2), Nat.le_refl _⟩)
  have O3 := Lib.hid (O2.out.then_below b3')
  have BD := Lib.hid (erbody_copied _ _ _ s kd HKK.out j1 j3 b1 b3 y w3 S3.out HZ3.out)
  clear x1 b3'
  go_wp2_with fail
  refine BD.out.mono ?_
  rintro e w4 ⟨rfl, s4, o4⟩
  have S4 := Lib.hid s4
  have O4 := Lib.hid (O3.out.trans o4)
  obtain ⟨A9, D9, c9, e9, k4, r4, _, ow1, ow2⟩ := s4
  have x0 : w4.cell? ⟨w.heap.size + 1 + 1, 0, none⟩ = some (.pointer (some ⟨w.heap.size + 1, 0, none⟩)) := k4.cell 0
  have E1 := Lib.hid (REnd_any (w.heap.size + 1) s j3 b3 w4 r4.1)
  rw [← HQ.out] at k4 ow1 ow2
  have K4 := Lib.hid k4
  have OW1 := Lib.hid ow1
  have OW2 := Lib.hid ow2
  have KT := Lib.hid (O4.out.blk HK0.out (by omega))
  have BE := Lib.hid (HB0.out.trans (O4.out.below HB0.out.size (fun x hx => by omega)))
  clear k4 r4 ow1 ow2 o4
  rw [← HQ.out] at HR
  clear HQ HKK HZ3 S0 S1 S2 S3 N1 HW O2 O3 BD RG
  by_cases hE : b3 = true ∨ j3 ≠ s.size
  · have he : endOf s.size j3 b3 = 70 := by unfold endOf; rw [if_pos hE]
    rw [he] at E1
    have HRR := Lib.hid (show readE 1 1048575 6 (lb s) = (En0, 70) by
      rw [HR.out, length_lb]
      rcases hE with h | h
      · rw [if_pos (.inl h)]
      · rw [if_pos (.inr (.inl h))])
    clear hE he
    go_wp2_with fail
    refine E1.out.mono ?_
    rintro e w5 ⟨rfl, n5, rfl⟩
    obtain ⟨W', st, kw, hsz, fb, fk⟩ := store_blk (cs := ezero) (KT.out.drewN n5) rfl rfl (by simp [Value.oneCell'])
    have BW := Lib.hid (fb _ w (Nat.le_refl _) (below_drewN BE.out n5))
    have KW := Lib.hid kw
    clear x0 kw hsz fb fk
    go_wp2_with fail
    refine bodyPost_ret (v := .tuple #[(.agg #[.int .i8 0, .int .i64 0, .int .i64 0, .int .i64 0, .bool false, .slice none 0 0, .bool false, .int .i64 0, .int .i64 0, .int .i64 0, .int .i64 0, .int .i64 0, .string ⟨#[]⟩, .string ⟨#[]⟩, .int .i64 0, .int .i64 0, .int .i64 0, .slice none 0 0]), .int .i64 70]) (erread_ret En0 none none 0 0 70 _ w.heap.size _ rfl rfl KW.out) rfl ?_
    rw [HRR.out]
    exact ⟨none, none, 0, 0, rfl, ⟨Reads.none_, Reads.none_, Nat.zero_le _, Nat.zero_le _⟩, BW.out, NwE.nil⟩
  · have he : endOf s.size j3 b3 = 0 := by unfold endOf; rw [if_neg hE]
    rw [he] at E1
    have HE := Lib.hid hE
    clear hE he
    go_wp2_with fail
    refine E1.out.mono ?_
    rintro e w5 ⟨rfl, n5, rfl⟩
    have LM := cells_mid (K4.out.drewN n5) rfl
    have ER5 : EnR (w4.drewN n5) q A9 D9 := ⟨Reads.of_own (own_below OW1.out (below_drewN (Below.refl _ _) n5)), Reads.of_own (own_below OW2.out (below_drewN (Below.refl _ _) n5)), by omega, by omega⟩
    have MY := Lib.hid (EnMay_any q A9 D9 c9 e9 _ ER5)
    have ER := Lib.hid ER5
    have y0 : (w4.drewN n5).cell? ⟨w.heap.size + 1 + 1, 0, none⟩ = some (.pointer (some ⟨w.heap.size + 1, 0, none⟩)) := (K4.out.drewN n5).cell 0
    clear x0 ER5
    cases hmy : mayEn q
    · rw [hmy] at MY
      have HRR := Lib.hid (show readE 1 1048575 6 (lb s) = (En0, 70) by rw [HR.out, if_pos (.inr (.inr hmy))])
      clear hmy
      go_wp2_with fail
      refine MY.out.mono ?_
      rintro e w6 ⟨rfl, b6⟩
      obtain ⟨W', st, kw, hsz, fb, fk⟩ := store_blk (cs := ezero) ((KT.out.drewN n5).below b6 (KT.out.drewN n5).lt) rfl rfl (by simp [Value.oneCell'])
      have BW := Lib.hid (fb _ w (Nat.le_refl _) (btrans (below_drewN BE.out n5) b6))
      have KW := Lib.hid kw
      clear kw hsz fb fk LM y0 b6
      go_wp2_with fail
      refine bodyPost_ret (v := .tuple #[(.agg #[.int .i8 0, .int .i64 0, .int .i64 0, .int .i64 0, .bool false, .slice none 0 0, .bool false, .int .i64 0, .int .i64 0, .int .i64 0, .int .i64 0, .int .i64 0, .string ⟨#[]⟩, .string ⟨#[]⟩, .int .i64 0, .int .i64 0, .int .i64 0, .slice none 0 0]), .int .i64 70]) (erread_ret En0 none none 0 0 70 _ w.heap.size _ rfl rfl KW.out) rfl ?_
      rw [HRR.out]
      exact ⟨none, none, 0, 0, rfl, ⟨Reads.none_, Reads.none_, Nat.zero_le _, Nat.zero_le _⟩, BW.out, NwE.nil⟩
    · rw [hmy] at MY
      have HRR := Lib.hid (show readE 1 1048575 6 (lb s) = (q, 0) by
        rw [HR.out, if_neg]
        rw [length_lb, hmy]
        rintro (h | h | h)
        · exact HE.out (.inl h)
        · exact HE.out (.inr h)
        · cases h)
      clear hmy
      go_wp2_with fail
      refine MY.out.mono ?_
      rintro e w6 ⟨rfl, b6⟩
      have LM6 := cells_mid ((K4.out.drewN n5).below b6 (K4.out.drewN n5).lt) rfl
      have y6 := ((K4.out.drewN n5).below b6 (K4.out.drewN n5).lt).cell 0
      obtain ⟨W', st, kw, fb, fh⟩ := store_blk2 (cs := #[.int .i8 q.kd, .int .i64 q.b.pid, .int .i64 q.b.ep, .int .i64 q.b.seq, .bool q.b.txn, .slice A9 q.b.rs.length c9, .bool q.yes, .int .i64 q.nx, .int .i64 q.off, .int .i64 q.row.1, .int .i64 q.row.2.1, .int .i64 q.row.2.2.1, .string q.row.2.2.2.1, .string q.row.2.2.2.2, .int .i64 q.prod.pid, .int .i64 q.prod.ep, .int .i64 q.prod.nx, .slice D9 q.prod.seen.length e9]) ((KT.out.drewN n5).below b6 (KT.out.drewN n5).lt) rfl rfl (by simp [Value.oneCell'])
      have BW := Lib.hid (fb _ w (Nat.le_refl _) (btrans (below_drewN BE.out n5) b6))
      have p1 := own_below (own_below OW1.out (below_drewN (Below.refl _ _) n5)) b6
      have p2 := own_below (own_below OW2.out (below_drewN (Below.refl _ _) n5)) b6
      have q1 := own_keepN p1 (fun y hy => fh y (by have := (p1.lt y hy).1; omega))
      have q2 := own_keepN p2 (fun y hy => fh y (by have := (p2.lt y hy).1; omega))
      have NW := Lib.hid (show NwE w.heap.size A9 D9 from ⟨fun ad h => by have := (q1.lt ad.block (by rw [h]; rfl)).1; omega, fun ad h => by have := (q2.lt ad.block (by rw [h]; rfl)).1; omega⟩)
      have EF := Lib.hid (show EnR W' q A9 D9 from ⟨Reads.of_own q1, Reads.of_own q2, by omega, by omega⟩)
      have KW := Lib.hid kw
      clear kw fb fh LM y0 p1 p2 q1 q2 b6
      go_wp2_with fail
      refine bodyPost_ret (v := .tuple #[(.agg #[.int .i8 q.kd, .int .i64 q.b.pid, .int .i64 q.b.ep, .int .i64 q.b.seq, .bool q.b.txn, .slice A9 q.b.rs.length c9, .bool q.yes, .int .i64 q.nx, .int .i64 q.off, .int .i64 q.row.1, .int .i64 q.row.2.1, .int .i64 q.row.2.2.1, .string q.row.2.2.2.1, .string q.row.2.2.2.2, .int .i64 q.prod.pid, .int .i64 q.prod.ep, .int .i64 q.prod.nx, .slice D9 q.prod.seen.length e9]), .int .i64 0]) (erread_ret q A9 D9 c9 e9 0 _ w.heap.size _ rfl rfl KW.out) rfl ?_
      rw [HRR.out]
      exact ⟨A9, D9, c9, e9, rfl, EF.out, BW.out, NW.out⟩
set_option maxRecDepth 100000 in
set_option maxHeartbeats 8000000 in
theorem EnRead_4 (s : ByteArray) (w : World) (hl : s.size ≤ 100000) (hg : HasET w) (kd : Int) (hk : kd = 4) (j1 j3 : Nat) (b1 b3 : Bool) (y : Eb) (hz1 : rdNum (lb s) 0 false 0 6 = (kd, j1, b1)) (hz3 : rdE 1 1048575 kd (lb s) j1 b1 = (y, j3, b3)) :
    Calls Tryz.prog 21 #[.string s] w (ErRn (readE 1 1048575 6 (lb s)).1 (readE 1 1048575 6 (lb s)).2 w) := by
  have hraw : readE 1 1048575 6 (lb s) = if b3 = true ∨ j3 ≠ (lb s).length ∨ mayEn (enOf kd y) = false then (En0, 70) else (enOf kd y, 0) := by
    unfold readE
    have hz1' : rdNum (lb s) 0 false 0 ((6 : Nat) : Int) = (kd, j1, b1) := hz1
    have e : rdEn 1 1048575 6 (lb s) 0 false = (enOf kd y, j3, b3) := by simp only [rdEn, rdMap, rdBind, hz1', hz3]
    rw [e]
  have hlen := rdE_len 1 1048575 kd (lb s) j1 b1
  rw [hz3] at hlen
  obtain ⟨q, hq⟩ : ∃ q, q = enOf kd y := ⟨_, rfl⟩
  have hqr : q.b.rs.length ≤ 4 ∧ q.prod.seen.length ≤ 3 := by rw [hq]; exact hlen
  have hkd : 0 ≤ kd ∧ kd ≤ 6 := by omega
  obtain ⟨W0, hW0⟩ : ∃ W0, W0 = (((w.alloc (.cells #[.int .i8 0, .int .i64 0, .int .i64 0, .int .i64 0, .bool false, .slice none 0 0, .bool false, .int .i64 0, .int .i64 0, .int .i64 0, .int .i64 0, .int .i64 0, .string ⟨#[]⟩, .string ⟨#[]⟩, .int .i64 0, .int .i64 0, .int .i64 0, .slice none 0 0] 32)).alloc (.cells #[.string s, .int .i64 0, .bool false] 113)).alloc (.cells #[.pointer (some ⟨w.heap.size + 1, 0, none⟩), .int .i8 0, .int .i64 0, .int .i64 0, .int .i64 0, .bool false, .slice none 0 0, .bool false, .int .i64 0, .int .i64 0, .int .i64 0, .int .i64 0, .int .i64 0, .string ⟨#[]⟩, .string ⟨#[]⟩, .int .i64 0, .int .i64 0, .int .i64 0, .slice none 0 0] 89)) := ⟨_, rfl⟩
  have hs0 : W0.heap.size = w.heap.size + 1 + 1 + 1 := by rw [hW0]; simp
  have B0 : Below w.heap.size w W0 := by rw [hW0]; exact bal (bal (bal (Below.refl _ _) _) _) _
  have K0 : Blk W0 w.heap.size 32 ezero := by rw [hW0]; exact ((blk_new w _ _ rfl).alloc _).alloc _
  have KR : RdB W0 (w.heap.size + 1) s 0 false := by rw [hW0]; exact (blk_new _ _ _ (by simp)).alloc _
  have KG : Blk W0 (w.heap.size + 1 + 1) 89 (erC (w.heap.size + 1) (baseEn 0) none none 0 0) := by rw [hW0]; exact blk_new _ _ _ (by simp)
  have RK : RdOk (w.heap.size + 1 + 1) W0 (w.heap.size + 1) s 0 false := ⟨KR, Nat.zero_le _, hg.up B0, by omega, by omega, Nat.lt_of_lt_of_le hg.lt (by omega), by omega⟩
  have S0 := Lib.hid (show ErS0 (w.heap.size + 1 + 1) (w.heap.size + 1 + 1) (w.heap.size + 1) s 0 false 0 W0 from ⟨KG, RK, Nat.le_refl _⟩)
  have N1 := Lib.hid (RNum_z hz1 RK)
  have HR := Lib.hid hraw
  have HZ3 := Lib.hid hz3
  have HW := Lib.hid hW0
  have HB0 := Lib.hid B0
  have HK0 := Lib.hid K0
  have HQ := Lib.hid hq
  have HKK := Lib.hid hk
  have RG := Lib.hid (fun W => ereading_drop kd hk W)
  have x0 : W0.cell? ⟨w.heap.size + 1 + 1, 0, none⟩ = some (.pointer (some ⟨w.heap.size + 1, 0, none⟩)) := KG.cell 0
  have cv : IntKind.i8.wrap kd = kd := wrap_kd7 hkd
  clear hraw hz1 hz3 B0 K0 KR KG RK hW0 hg hq hk hlen hkd
  go_enter Tryz.func21, Tryz.ntmps21
  go_wp2_with fail
  refine (RNew_any s _).mono ?_
  rintro e w1 ⟨rfl, rfl⟩
  go_upto_region 2 with (fail)
  rw [← HW.out]
  go_wp2_with fail
  refine N1.out.mono ?_
  rintro e w1 ⟨rfl, r1, o1⟩
  have S1 := Lib.hid (S0.out.next r1 o1)
  have kst := store_kd kd (S1.out.1.cell 1) (S1.out.1.frozen 1)
  have S2 := Lib.hid (show ErS0 (w.heap.size + 1 + 1) (w.heap.size + 1 + 1) (w.heap.size + 1) s j1 b1 kd (w1.setCell ⟨w.heap.size + 1 + 1, 1, none⟩ (.int .i8 kd)) from ⟨S1.out.1.set_ 1 _, S1.out.2.1.set (Nat.le_refl _) _, Nat.le_refl _⟩)
  have O2 := Lib.hid ((only_ge (g := w.heap.size + 1 + 1) o1).set (g := w.heap.size + 1 + 1) (o := 1) (.inl (.inr (Nat.le_refl _))) (.int .i8 kd))
  clear r1 o1 x0
  go_upto_region 3 with (fail)
  clear kst
  generalize w1.setCell ⟨w.heap.size + 1 + 1, 1, none⟩ (.int .i8 kd) = w2 at *
  have x1 : w2.cell? ⟨w.heap.size + 1 + 1, 1, none⟩ = some (.int .i8 kd) := S2.out.1.cell 1
  go_wp2_with fail
  refine (RG.out _).mono ?_
  rintro e w3 ⟨rfl, b3'⟩
  have S3 := Lib.hid (show ErS0 (w.heap.size + 1 + 1) (w.heap.size + 1 + 1) (w.heap.size + 1) s j1 b1 kd w3 from ⟨S2.out.1.below b3' S2.out.1.lt, S2.out.2.1.below (b3'.mono S2.out.2.1.2.2.2.2.2.2), Nat.le_refl _⟩)
  have O3 := Lib.hid (O2.out.then_below b3')
  have BD := Lib.hid (erbody_drop _ _ _ s kd HKK.out j1 j3 b1 b3 y w3 S3.out HZ3.out)
  clear x1 b3'
  go_wp2_with fail
  refine BD.out.mono ?_
  rintro e w4 ⟨rfl, s4, o4⟩
  have S4 := Lib.hid s4
  have O4 := Lib.hid (O3.out.trans o4)
  obtain ⟨A9, D9, c9, e9, k4, r4, _, ow1, ow2⟩ := s4
  have x0 : w4.cell? ⟨w.heap.size + 1 + 1, 0, none⟩ = some (.pointer (some ⟨w.heap.size + 1, 0, none⟩)) := k4.cell 0
  have E1 := Lib.hid (REnd_any (w.heap.size + 1) s j3 b3 w4 r4.1)
  rw [← HQ.out] at k4 ow1 ow2
  have K4 := Lib.hid k4
  have OW1 := Lib.hid ow1
  have OW2 := Lib.hid ow2
  have KT := Lib.hid (O4.out.blk HK0.out (by omega))
  have BE := Lib.hid (HB0.out.trans (O4.out.below HB0.out.size (fun x hx => by omega)))
  clear k4 r4 ow1 ow2 o4
  rw [← HQ.out] at HR
  clear HQ HKK HZ3 S0 S1 S2 S3 N1 HW O2 O3 BD RG
  by_cases hE : b3 = true ∨ j3 ≠ s.size
  · have he : endOf s.size j3 b3 = 70 := by unfold endOf; rw [if_pos hE]
    rw [he] at E1
    have HRR := Lib.hid (show readE 1 1048575 6 (lb s) = (En0, 70) by
      rw [HR.out, length_lb]
      rcases hE with h | h
      · rw [if_pos (.inl h)]
      · rw [if_pos (.inr (.inl h))])
    clear hE he
    go_wp2_with fail
    refine E1.out.mono ?_
    rintro e w5 ⟨rfl, n5, rfl⟩
    obtain ⟨W', st, kw, hsz, fb, fk⟩ := store_blk (cs := ezero) (KT.out.drewN n5) rfl rfl (by simp [Value.oneCell'])
    have BW := Lib.hid (fb _ w (Nat.le_refl _) (below_drewN BE.out n5))
    have KW := Lib.hid kw
    clear x0 kw hsz fb fk
    go_wp2_with fail
    refine bodyPost_ret (v := .tuple #[(.agg #[.int .i8 0, .int .i64 0, .int .i64 0, .int .i64 0, .bool false, .slice none 0 0, .bool false, .int .i64 0, .int .i64 0, .int .i64 0, .int .i64 0, .int .i64 0, .string ⟨#[]⟩, .string ⟨#[]⟩, .int .i64 0, .int .i64 0, .int .i64 0, .slice none 0 0]), .int .i64 70]) (erread_ret En0 none none 0 0 70 _ w.heap.size _ rfl rfl KW.out) rfl ?_
    rw [HRR.out]
    exact ⟨none, none, 0, 0, rfl, ⟨Reads.none_, Reads.none_, Nat.zero_le _, Nat.zero_le _⟩, BW.out, NwE.nil⟩
  · have he : endOf s.size j3 b3 = 0 := by unfold endOf; rw [if_neg hE]
    rw [he] at E1
    have HE := Lib.hid hE
    clear hE he
    go_wp2_with fail
    refine E1.out.mono ?_
    rintro e w5 ⟨rfl, n5, rfl⟩
    have LM := cells_mid (K4.out.drewN n5) rfl
    have ER5 : EnR (w4.drewN n5) q A9 D9 := ⟨Reads.of_own (own_below OW1.out (below_drewN (Below.refl _ _) n5)), Reads.of_own (own_below OW2.out (below_drewN (Below.refl _ _) n5)), by omega, by omega⟩
    have MY := Lib.hid (EnMay_any q A9 D9 c9 e9 _ ER5)
    have ER := Lib.hid ER5
    have y0 : (w4.drewN n5).cell? ⟨w.heap.size + 1 + 1, 0, none⟩ = some (.pointer (some ⟨w.heap.size + 1, 0, none⟩)) := (K4.out.drewN n5).cell 0
    clear x0 ER5
    cases hmy : mayEn q
    · rw [hmy] at MY
      have HRR := Lib.hid (show readE 1 1048575 6 (lb s) = (En0, 70) by rw [HR.out, if_pos (.inr (.inr hmy))])
      clear hmy
      go_wp2_with fail
      refine MY.out.mono ?_
      rintro e w6 ⟨rfl, b6⟩
      obtain ⟨W', st, kw, hsz, fb, fk⟩ := store_blk (cs := ezero) ((KT.out.drewN n5).below b6 (KT.out.drewN n5).lt) rfl rfl (by simp [Value.oneCell'])
      have BW := Lib.hid (fb _ w (Nat.le_refl _) (btrans (below_drewN BE.out n5) b6))
      have KW := Lib.hid kw
      clear kw hsz fb fk LM y0 b6
      go_wp2_with fail
      refine bodyPost_ret (v := .tuple #[(.agg #[.int .i8 0, .int .i64 0, .int .i64 0, .int .i64 0, .bool false, .slice none 0 0, .bool false, .int .i64 0, .int .i64 0, .int .i64 0, .int .i64 0, .int .i64 0, .string ⟨#[]⟩, .string ⟨#[]⟩, .int .i64 0, .int .i64 0, .int .i64 0, .slice none 0 0]), .int .i64 70]) (erread_ret En0 none none 0 0 70 _ w.heap.size _ rfl rfl KW.out) rfl ?_
      rw [HRR.out]
      exact ⟨none, none, 0, 0, rfl, ⟨Reads.none_, Reads.none_, Nat.zero_le _, Nat.zero_le _⟩, BW.out, NwE.nil⟩
    · rw [hmy] at MY
      have HRR := Lib.hid (show readE 1 1048575 6 (lb s) = (q, 0) by
        rw [HR.out, if_neg]
        rw [length_lb, hmy]
        rintro (h | h | h)
        · exact HE.out (.inl h)
        · exact HE.out (.inr h)
        · cases h)
      clear hmy
      go_wp2_with fail
      refine MY.out.mono ?_
      rintro e w6 ⟨rfl, b6⟩
      have LM6 := cells_mid ((K4.out.drewN n5).below b6 (K4.out.drewN n5).lt) rfl
      have y6 := ((K4.out.drewN n5).below b6 (K4.out.drewN n5).lt).cell 0
      obtain ⟨W', st, kw, fb, fh⟩ := store_blk2 (cs := #[.int .i8 q.kd, .int .i64 q.b.pid, .int .i64 q.b.ep, .int .i64 q.b.seq, .bool q.b.txn, .slice A9 q.b.rs.length c9, .bool q.yes, .int .i64 q.nx, .int .i64 q.off, .int .i64 q.row.1, .int .i64 q.row.2.1, .int .i64 q.row.2.2.1, .string q.row.2.2.2.1, .string q.row.2.2.2.2, .int .i64 q.prod.pid, .int .i64 q.prod.ep, .int .i64 q.prod.nx, .slice D9 q.prod.seen.length e9]) ((KT.out.drewN n5).below b6 (KT.out.drewN n5).lt) rfl rfl (by simp [Value.oneCell'])
      have BW := Lib.hid (fb _ w (Nat.le_refl _) (btrans (below_drewN BE.out n5) b6))
      have p1 := own_below (own_below OW1.out (below_drewN (Below.refl _ _) n5)) b6
      have p2 := own_below (own_below OW2.out (below_drewN (Below.refl _ _) n5)) b6
      have q1 := own_keepN p1 (fun y hy => fh y (by have := (p1.lt y hy).1; omega))
      have q2 := own_keepN p2 (fun y hy => fh y (by have := (p2.lt y hy).1; omega))
      have NW := Lib.hid (show NwE w.heap.size A9 D9 from ⟨fun ad h => by have := (q1.lt ad.block (by rw [h]; rfl)).1; omega, fun ad h => by have := (q2.lt ad.block (by rw [h]; rfl)).1; omega⟩)
      have EF := Lib.hid (show EnR W' q A9 D9 from ⟨Reads.of_own q1, Reads.of_own q2, by omega, by omega⟩)
      have KW := Lib.hid kw
      clear kw fb fh LM y0 p1 p2 q1 q2 b6
      go_wp2_with fail
      refine bodyPost_ret (v := .tuple #[(.agg #[.int .i8 q.kd, .int .i64 q.b.pid, .int .i64 q.b.ep, .int .i64 q.b.seq, .bool q.b.txn, .slice A9 q.b.rs.length c9, .bool q.yes, .int .i64 q.nx, .int .i64 q.off, .int .i64 q.row.1, .int .i64 q.row.2.1, .int .i64 q.row.2.2.1, .string q.row.2.2.2.1, .string q.row.2.2.2.2, .int .i64 q.prod.pid, .int .i64 q.prod.ep, .int .i64 q.prod.nx, .slice D9 q.prod.seen.length e9]), .int .i64 0]) (erread_ret q A9 D9 c9 e9 0 _ w.heap.size _ rfl rfl KW.out) rfl ?_
      rw [HRR.out]
      exact ⟨A9, D9, c9, e9, rfl, EF.out, BW.out, NW.out⟩
set_option maxRecDepth 100000 in
set_option maxHeartbeats 8000000 in
theorem EnRead_5 (s : ByteArray) (w : World) (hl : s.size ≤ 100000) (hg : HasET w) (kd : Int) (hk : kd = 5) (j1 j3 : Nat) (b1 b3 : Bool) (y : Eb) (hz1 : rdNum (lb s) 0 false 0 6 = (kd, j1, b1)) (hz3 : rdE 1 1048575 kd (lb s) j1 b1 = (y, j3, b3)) :
    Calls Tryz.prog 21 #[.string s] w (ErRn (readE 1 1048575 6 (lb s)).1 (readE 1 1048575 6 (lb s)).2 w) := by
  have hraw : readE 1 1048575 6 (lb s) = if b3 = true ∨ j3 ≠ (lb s).length ∨ mayEn (enOf kd y) = false then (En0, 70) else (enOf kd y, 0) := by
    unfold readE
    have hz1' : rdNum (lb s) 0 false 0 ((6 : Nat) : Int) = (kd, j1, b1) := hz1
    have e : rdEn 1 1048575 6 (lb s) 0 false = (enOf kd y, j3, b3) := by simp only [rdEn, rdMap, rdBind, hz1', hz3]
    rw [e]
  have hlen := rdE_len 1 1048575 kd (lb s) j1 b1
  rw [hz3] at hlen
  obtain ⟨q, hq⟩ : ∃ q, q = enOf kd y := ⟨_, rfl⟩
  have hqr : q.b.rs.length ≤ 4 ∧ q.prod.seen.length ≤ 3 := by rw [hq]; exact hlen
  have hkd : 0 ≤ kd ∧ kd ≤ 6 := by omega
  obtain ⟨W0, hW0⟩ : ∃ W0, W0 = (((w.alloc (.cells #[.int .i8 0, .int .i64 0, .int .i64 0, .int .i64 0, .bool false, .slice none 0 0, .bool false, .int .i64 0, .int .i64 0, .int .i64 0, .int .i64 0, .int .i64 0, .string ⟨#[]⟩, .string ⟨#[]⟩, .int .i64 0, .int .i64 0, .int .i64 0, .slice none 0 0] 32)).alloc (.cells #[.string s, .int .i64 0, .bool false] 113)).alloc (.cells #[.pointer (some ⟨w.heap.size + 1, 0, none⟩), .int .i8 0, .int .i64 0, .int .i64 0, .int .i64 0, .bool false, .slice none 0 0, .bool false, .int .i64 0, .int .i64 0, .int .i64 0, .int .i64 0, .int .i64 0, .string ⟨#[]⟩, .string ⟨#[]⟩, .int .i64 0, .int .i64 0, .int .i64 0, .slice none 0 0] 89)) := ⟨_, rfl⟩
  have hs0 : W0.heap.size = w.heap.size + 1 + 1 + 1 := by rw [hW0]; simp
  have B0 : Below w.heap.size w W0 := by rw [hW0]; exact bal (bal (bal (Below.refl _ _) _) _) _
  have K0 : Blk W0 w.heap.size 32 ezero := by rw [hW0]; exact ((blk_new w _ _ rfl).alloc _).alloc _
  have KR : RdB W0 (w.heap.size + 1) s 0 false := by rw [hW0]; exact (blk_new _ _ _ (by simp)).alloc _
  have KG : Blk W0 (w.heap.size + 1 + 1) 89 (erC (w.heap.size + 1) (baseEn 0) none none 0 0) := by rw [hW0]; exact blk_new _ _ _ (by simp)
  have RK : RdOk (w.heap.size + 1 + 1) W0 (w.heap.size + 1) s 0 false := ⟨KR, Nat.zero_le _, hg.up B0, by omega, by omega, Nat.lt_of_lt_of_le hg.lt (by omega), by omega⟩
  have S0 := Lib.hid (show ErS0 (w.heap.size + 1 + 1) (w.heap.size + 1 + 1) (w.heap.size + 1) s 0 false 0 W0 from ⟨KG, RK, Nat.le_refl _⟩)
  have N1 := Lib.hid (RNum_z hz1 RK)
  have HR := Lib.hid hraw
  have HZ3 := Lib.hid hz3
  have HW := Lib.hid hW0
  have HB0 := Lib.hid B0
  have HK0 := Lib.hid K0
  have HQ := Lib.hid hq
  have HKK := Lib.hid hk
  have RG := Lib.hid (fun W => ereading_row kd hk W)
  have x0 : W0.cell? ⟨w.heap.size + 1 + 1, 0, none⟩ = some (.pointer (some ⟨w.heap.size + 1, 0, none⟩)) := KG.cell 0
  have cv : IntKind.i8.wrap kd = kd := wrap_kd7 hkd
  clear hraw hz1 hz3 B0 K0 KR KG RK hW0 hg hq hk hlen hkd
  go_enter Tryz.func21, Tryz.ntmps21
  go_wp2_with fail
  refine (RNew_any s _).mono ?_
  rintro e w1 ⟨rfl, rfl⟩
  go_upto_region 2 with (fail)
  rw [← HW.out]
  go_wp2_with fail
  refine N1.out.mono ?_
  rintro e w1 ⟨rfl, r1, o1⟩
  have S1 := Lib.hid (S0.out.next r1 o1)
  have kst := store_kd kd (S1.out.1.cell 1) (S1.out.1.frozen 1)
  have S2 := Lib.hid (show ErS0 (w.heap.size + 1 + 1) (w.heap.size + 1 + 1) (w.heap.size + 1) s j1 b1 kd (w1.setCell ⟨w.heap.size + 1 + 1, 1, none⟩ (.int .i8 kd)) from ⟨S1.out.1.set_ 1 _, S1.out.2.1.set (Nat.le_refl _) _, Nat.le_refl _⟩)
  have O2 := Lib.hid ((only_ge (g := w.heap.size + 1 + 1) o1).set (g := w.heap.size + 1 + 1) (o := 1) (.inl (.inr (Nat.le_refl _))) (.int .i8 kd))
  clear r1 o1 x0
  go_upto_region 3 with (fail)
  clear kst
  generalize w1.setCell ⟨w.heap.size + 1 + 1, 1, none⟩ (.int .i8 kd) = w2 at *
  have x1 : w2.cell? ⟨w.heap.size + 1 + 1, 1, none⟩ = some (.int .i8 kd) := S2.out.1.cell 1
  go_wp2_with fail
  refine (RG.out _).mono ?_
  rintro e w3 ⟨rfl, b3'⟩
  have S3 := Lib.hid (show ErS0 (w.heap.size + 1 + 1) (w.heap.size + 1 + 1) (w.heap.size + 1) s j1 b1 kd w3 from ⟨S2.out.1.below b3' S2.out.1.lt, S2.out.2.1.below (b3'.mono S2.out.2.1.2.2.2.2.2.2), Nat.le_refl _⟩)
  have O3 := Lib.hid (O2.out.then_below b3')
  have BD := Lib.hid (erbody_row _ _ _ s kd HKK.out j1 j3 b1 b3 y w3 S3.out HZ3.out)
  clear x1 b3'
  go_wp2_with fail
  refine BD.out.mono ?_
  rintro e w4 ⟨rfl, s4, o4⟩
  have S4 := Lib.hid s4
  have O4 := Lib.hid (O3.out.trans o4)
  obtain ⟨A9, D9, c9, e9, k4, r4, _, ow1, ow2⟩ := s4
  have x0 : w4.cell? ⟨w.heap.size + 1 + 1, 0, none⟩ = some (.pointer (some ⟨w.heap.size + 1, 0, none⟩)) := k4.cell 0
  have E1 := Lib.hid (REnd_any (w.heap.size + 1) s j3 b3 w4 r4.1)
  rw [← HQ.out] at k4 ow1 ow2
  have K4 := Lib.hid k4
  have OW1 := Lib.hid ow1
  have OW2 := Lib.hid ow2
  have KT := Lib.hid (O4.out.blk HK0.out (by omega))
  have BE := Lib.hid (HB0.out.trans (O4.out.below HB0.out.size (fun x hx => by omega)))
  clear k4 r4 ow1 ow2 o4
  rw [← HQ.out] at HR
  clear HQ HKK HZ3 S0 S1 S2 S3 N1 HW O2 O3 BD RG
  by_cases hE : b3 = true ∨ j3 ≠ s.size
  · have he : endOf s.size j3 b3 = 70 := by unfold endOf; rw [if_pos hE]
    rw [he] at E1
    have HRR := Lib.hid (show readE 1 1048575 6 (lb s) = (En0, 70) by
      rw [HR.out, length_lb]
      rcases hE with h | h
      · rw [if_pos (.inl h)]
      · rw [if_pos (.inr (.inl h))])
    clear hE he
    go_wp2_with fail
    refine E1.out.mono ?_
    rintro e w5 ⟨rfl, n5, rfl⟩
    obtain ⟨W', st, kw, hsz, fb, fk⟩ := store_blk (cs := ezero) (KT.out.drewN n5) rfl rfl (by simp [Value.oneCell'])
    have BW := Lib.hid (fb _ w (Nat.le_refl _) (below_drewN BE.out n5))
    have KW := Lib.hid kw
    clear x0 kw hsz fb fk
    go_wp2_with fail
    refine bodyPost_ret (v := .tuple #[(.agg #[.int .i8 0, .int .i64 0, .int .i64 0, .int .i64 0, .bool false, .slice none 0 0, .bool false, .int .i64 0, .int .i64 0, .int .i64 0, .int .i64 0, .int .i64 0, .string ⟨#[]⟩, .string ⟨#[]⟩, .int .i64 0, .int .i64 0, .int .i64 0, .slice none 0 0]), .int .i64 70]) (erread_ret En0 none none 0 0 70 _ w.heap.size _ rfl rfl KW.out) rfl ?_
    rw [HRR.out]
    exact ⟨none, none, 0, 0, rfl, ⟨Reads.none_, Reads.none_, Nat.zero_le _, Nat.zero_le _⟩, BW.out, NwE.nil⟩
  · have he : endOf s.size j3 b3 = 0 := by unfold endOf; rw [if_neg hE]
    rw [he] at E1
    have HE := Lib.hid hE
    clear hE he
    go_wp2_with fail
    refine E1.out.mono ?_
    rintro e w5 ⟨rfl, n5, rfl⟩
    have LM := cells_mid (K4.out.drewN n5) rfl
    have ER5 : EnR (w4.drewN n5) q A9 D9 := ⟨Reads.of_own (own_below OW1.out (below_drewN (Below.refl _ _) n5)), Reads.of_own (own_below OW2.out (below_drewN (Below.refl _ _) n5)), by omega, by omega⟩
    have MY := Lib.hid (EnMay_any q A9 D9 c9 e9 _ ER5)
    have ER := Lib.hid ER5
    have y0 : (w4.drewN n5).cell? ⟨w.heap.size + 1 + 1, 0, none⟩ = some (.pointer (some ⟨w.heap.size + 1, 0, none⟩)) := (K4.out.drewN n5).cell 0
    clear x0 ER5
    cases hmy : mayEn q
    · rw [hmy] at MY
      have HRR := Lib.hid (show readE 1 1048575 6 (lb s) = (En0, 70) by rw [HR.out, if_pos (.inr (.inr hmy))])
      clear hmy
      go_wp2_with fail
      refine MY.out.mono ?_
      rintro e w6 ⟨rfl, b6⟩
      obtain ⟨W', st, kw, hsz, fb, fk⟩ := store_blk (cs := ezero) ((KT.out.drewN n5).below b6 (KT.out.drewN n5).lt) rfl rfl (by simp [Value.oneCell'])
      have BW := Lib.hid (fb _ w (Nat.le_refl _) (btrans (below_drewN BE.out n5) b6))
      have KW := Lib.hid kw
      clear kw hsz fb fk LM y0 b6
      go_wp2_with fail
      refine bodyPost_ret (v := .tuple #[(.agg #[.int .i8 0, .int .i64 0, .int .i64 0, .int .i64 0, .bool false, .slice none 0 0, .bool false, .int .i64 0, .int .i64 0, .int .i64 0, .int .i64 0, .int .i64 0, .string ⟨#[]⟩, .string ⟨#[]⟩, .int .i64 0, .int .i64 0, .int .i64 0, .slice none 0 0]), .int .i64 70]) (erread_ret En0 none none 0 0 70 _ w.heap.size _ rfl rfl KW.out) rfl ?_
      rw [HRR.out]
      exact ⟨none, none, 0, 0, rfl, ⟨Reads.none_, Reads.none_, Nat.zero_le _, Nat.zero_le _⟩, BW.out, NwE.nil⟩
    · rw [hmy] at MY
      have HRR := Lib.hid (show readE 1 1048575 6 (lb s) = (q, 0) by
        rw [HR.out, if_neg]
        rw [length_lb, hmy]
        rintro (h | h | h)
        · exact HE.out (.inl h)
        · exact HE.out (.inr h)
        · cases h)
      clear hmy
      go_wp2_with fail
      refine MY.out.mono ?_
      rintro e w6 ⟨rfl, b6⟩
      have LM6 := cells_mid ((K4.out.drewN n5).below b6 (K4.out.drewN n5).lt) rfl
      have y6 := ((K4.out.drewN n5).below b6 (K4.out.drewN n5).lt).cell 0
      obtain ⟨W', st, kw, fb, fh⟩ := store_blk2 (cs := #[.int .i8 q.kd, .int .i64 q.b.pid, .int .i64 q.b.ep, .int .i64 q.b.seq, .bool q.b.txn, .slice A9 q.b.rs.length c9, .bool q.yes, .int .i64 q.nx, .int .i64 q.off, .int .i64 q.row.1, .int .i64 q.row.2.1, .int .i64 q.row.2.2.1, .string q.row.2.2.2.1, .string q.row.2.2.2.2, .int .i64 q.prod.pid, .int .i64 q.prod.ep, .int .i64 q.prod.nx, .slice D9 q.prod.seen.length e9]) ((KT.out.drewN n5).below b6 (KT.out.drewN n5).lt) rfl rfl (by simp [Value.oneCell'])
      have BW := Lib.hid (fb _ w (Nat.le_refl _) (btrans (below_drewN BE.out n5) b6))
      have p1 := own_below (own_below OW1.out (below_drewN (Below.refl _ _) n5)) b6
      have p2 := own_below (own_below OW2.out (below_drewN (Below.refl _ _) n5)) b6
      have q1 := own_keepN p1 (fun y hy => fh y (by have := (p1.lt y hy).1; omega))
      have q2 := own_keepN p2 (fun y hy => fh y (by have := (p2.lt y hy).1; omega))
      have NW := Lib.hid (show NwE w.heap.size A9 D9 from ⟨fun ad h => by have := (q1.lt ad.block (by rw [h]; rfl)).1; omega, fun ad h => by have := (q2.lt ad.block (by rw [h]; rfl)).1; omega⟩)
      have EF := Lib.hid (show EnR W' q A9 D9 from ⟨Reads.of_own q1, Reads.of_own q2, by omega, by omega⟩)
      have KW := Lib.hid kw
      clear kw fb fh LM y0 p1 p2 q1 q2 b6
      go_wp2_with fail
      refine bodyPost_ret (v := .tuple #[(.agg #[.int .i8 q.kd, .int .i64 q.b.pid, .int .i64 q.b.ep, .int .i64 q.b.seq, .bool q.b.txn, .slice A9 q.b.rs.length c9, .bool q.yes, .int .i64 q.nx, .int .i64 q.off, .int .i64 q.row.1, .int .i64 q.row.2.1, .int .i64 q.row.2.2.1, .string q.row.2.2.2.1, .string q.row.2.2.2.2, .int .i64 q.prod.pid, .int .i64 q.prod.ep, .int .i64 q.prod.nx, .slice D9 q.prod.seen.length e9]), .int .i64 0]) (erread_ret q A9 D9 c9 e9 0 _ w.heap.size _ rfl rfl KW.out) rfl ?_
      rw [HRR.out]
      exact ⟨A9, D9, c9, e9, rfl, EF.out, BW.out, NW.out⟩
set_option maxRecDepth 100000 in
set_option maxHeartbeats 8000000 in
theorem EnRead_6 (s : ByteArray) (w : World) (hl : s.size ≤ 100000) (hg : HasET w) (kd : Int) (hk : kd = 6) (j1 j3 : Nat) (b1 b3 : Bool) (y : Eb) (hz1 : rdNum (lb s) 0 false 0 6 = (kd, j1, b1)) (hz3 : rdE 1 1048575 kd (lb s) j1 b1 = (y, j3, b3)) :
    Calls Tryz.prog 21 #[.string s] w (ErRn (readE 1 1048575 6 (lb s)).1 (readE 1 1048575 6 (lb s)).2 w) := by
  have hraw : readE 1 1048575 6 (lb s) = if b3 = true ∨ j3 ≠ (lb s).length ∨ mayEn (enOf kd y) = false then (En0, 70) else (enOf kd y, 0) := by
    unfold readE
    have hz1' : rdNum (lb s) 0 false 0 ((6 : Nat) : Int) = (kd, j1, b1) := hz1
    have e : rdEn 1 1048575 6 (lb s) 0 false = (enOf kd y, j3, b3) := by simp only [rdEn, rdMap, rdBind, hz1', hz3]
    rw [e]
  have hlen := rdE_len 1 1048575 kd (lb s) j1 b1
  rw [hz3] at hlen
  obtain ⟨q, hq⟩ : ∃ q, q = enOf kd y := ⟨_, rfl⟩
  have hqr : q.b.rs.length ≤ 4 ∧ q.prod.seen.length ≤ 3 := by rw [hq]; exact hlen
  have hkd : 0 ≤ kd ∧ kd ≤ 6 := by omega
  obtain ⟨W0, hW0⟩ : ∃ W0, W0 = (((w.alloc (.cells #[.int .i8 0, .int .i64 0, .int .i64 0, .int .i64 0, .bool false, .slice none 0 0, .bool false, .int .i64 0, .int .i64 0, .int .i64 0, .int .i64 0, .int .i64 0, .string ⟨#[]⟩, .string ⟨#[]⟩, .int .i64 0, .int .i64 0, .int .i64 0, .slice none 0 0] 32)).alloc (.cells #[.string s, .int .i64 0, .bool false] 113)).alloc (.cells #[.pointer (some ⟨w.heap.size + 1, 0, none⟩), .int .i8 0, .int .i64 0, .int .i64 0, .int .i64 0, .bool false, .slice none 0 0, .bool false, .int .i64 0, .int .i64 0, .int .i64 0, .int .i64 0, .int .i64 0, .string ⟨#[]⟩, .string ⟨#[]⟩, .int .i64 0, .int .i64 0, .int .i64 0, .slice none 0 0] 89)) := ⟨_, rfl⟩
  have hs0 : W0.heap.size = w.heap.size + 1 + 1 + 1 := by rw [hW0]; simp
  have B0 : Below w.heap.size w W0 := by rw [hW0]; exact bal (bal (bal (Below.refl _ _) _) _) _
  have K0 : Blk W0 w.heap.size 32 ezero := by rw [hW0]; exact ((blk_new w _ _ rfl).alloc _).alloc _
  have KR : RdB W0 (w.heap.size + 1) s 0 false := by rw [hW0]; exact (blk_new _ _ _ (by simp)).alloc _
  have KG : Blk W0 (w.heap.size + 1 + 1) 89 (erC (w.heap.size + 1) (baseEn 0) none none 0 0) := by rw [hW0]; exact blk_new _ _ _ (by simp)
  have RK : RdOk (w.heap.size + 1 + 1) W0 (w.heap.size + 1) s 0 false := ⟨KR, Nat.zero_le _, hg.up B0, by omega, by omega, Nat.lt_of_lt_of_le hg.lt (by omega), by omega⟩
  have S0 := Lib.hid (show ErS0 (w.heap.size + 1 + 1) (w.heap.size + 1 + 1) (w.heap.size + 1) s 0 false 0 W0 from ⟨KG, RK, Nat.le_refl _⟩)
  have N1 := Lib.hid (RNum_z hz1 RK)
  have HR := Lib.hid hraw
  have HZ3 := Lib.hid hz3
  have HW := Lib.hid hW0
  have HB0 := Lib.hid B0
  have HK0 := Lib.hid K0
  have HQ := Lib.hid hq
  have HKK := Lib.hid hk
  have RG := Lib.hid (fun W => ereading_state kd hk W)
  have x0 : W0.cell? ⟨w.heap.size + 1 + 1, 0, none⟩ = some (.pointer (some ⟨w.heap.size + 1, 0, none⟩)) := KG.cell 0
  have cv : IntKind.i8.wrap kd = kd := wrap_kd7 hkd
  clear hraw hz1 hz3 B0 K0 KR KG RK hW0 hg hq hk hlen hkd
  go_enter Tryz.func21, Tryz.ntmps21
  go_wp2_with fail
  refine (RNew_any s _).mono ?_
  rintro e w1 ⟨rfl, rfl⟩
  go_upto_region 2 with (fail)
  rw [← HW.out]
  go_wp2_with fail
  refine N1.out.mono ?_
  rintro e w1 ⟨rfl, r1, o1⟩
  have S1 := Lib.hid (S0.out.next r1 o1)
  have kst := store_kd kd (S1.out.1.cell 1) (S1.out.1.frozen 1)
  have S2 := Lib.hid (show ErS0 (w.heap.size + 1 + 1) (w.heap.size + 1 + 1) (w.heap.size + 1) s j1 b1 kd (w1.setCell ⟨w.heap.size + 1 + 1, 1, none⟩ (.int .i8 kd)) from ⟨S1.out.1.set_ 1 _, S1.out.2.1.set (Nat.le_refl _) _, Nat.le_refl _⟩)
  have O2 := Lib.hid ((only_ge (g := w.heap.size + 1 + 1) o1).set (g := w.heap.size + 1 + 1) (o := 1) (.inl (.inr (Nat.le_refl _))) (.int .i8 kd))
  clear r1 o1 x0
  go_upto_region 3 with (fail)
  clear kst
  generalize w1.setCell ⟨w.heap.size + 1 + 1, 1, none⟩ (.int .i8 kd) = w2 at *
  have x1 : w2.cell? ⟨w.heap.size + 1 + 1, 1, none⟩ = some (.int .i8 kd) := S2.out.1.cell 1
  go_wp2_with fail
  refine (RG.out _).mono ?_
  rintro e w3 ⟨rfl, b3'⟩
  have S3 := Lib.hid (show ErS0 (w.heap.size + 1 + 1) (w.heap.size + 1 + 1) (w.heap.size + 1) s j1 b1 kd w3 from ⟨S2.out.1.below b3' S2.out.1.lt, S2.out.2.1.below (b3'.mono S2.out.2.1.2.2.2.2.2.2), Nat.le_refl _⟩)
  have O3 := Lib.hid (O2.out.then_below b3')
  have BD := Lib.hid (erbody_state _ _ _ s kd HKK.out j1 j3 b1 b3 y w3 S3.out HZ3.out)
  clear x1 b3'
  go_wp2_with fail
  refine BD.out.mono ?_
  rintro e w4 ⟨rfl, s4, o4⟩
  have S4 := Lib.hid s4
  have O4 := Lib.hid (O3.out.trans o4)
  obtain ⟨A9, D9, c9, e9, k4, r4, _, ow1, ow2⟩ := s4
  have x0 : w4.cell? ⟨w.heap.size + 1 + 1, 0, none⟩ = some (.pointer (some ⟨w.heap.size + 1, 0, none⟩)) := k4.cell 0
  have E1 := Lib.hid (REnd_any (w.heap.size + 1) s j3 b3 w4 r4.1)
  rw [← HQ.out] at k4 ow1 ow2
  have K4 := Lib.hid k4
  have OW1 := Lib.hid ow1
  have OW2 := Lib.hid ow2
  have KT := Lib.hid (O4.out.blk HK0.out (by omega))
  have BE := Lib.hid (HB0.out.trans (O4.out.below HB0.out.size (fun x hx => by omega)))
  clear k4 r4 ow1 ow2 o4
  rw [← HQ.out] at HR
  clear HQ HKK HZ3 S0 S1 S2 S3 N1 HW O2 O3 BD RG
  by_cases hE : b3 = true ∨ j3 ≠ s.size
  · have he : endOf s.size j3 b3 = 70 := by unfold endOf; rw [if_pos hE]
    rw [he] at E1
    have HRR := Lib.hid (show readE 1 1048575 6 (lb s) = (En0, 70) by
      rw [HR.out, length_lb]
      rcases hE with h | h
      · rw [if_pos (.inl h)]
      · rw [if_pos (.inr (.inl h))])
    clear hE he
    go_wp2_with fail
    refine E1.out.mono ?_
    rintro e w5 ⟨rfl, n5, rfl⟩
    obtain ⟨W', st, kw, hsz, fb, fk⟩ := store_blk (cs := ezero) (KT.out.drewN n5) rfl rfl (by simp [Value.oneCell'])
    have BW := Lib.hid (fb _ w (Nat.le_refl _) (below_drewN BE.out n5))
    have KW := Lib.hid kw
    clear x0 kw hsz fb fk
    go_wp2_with fail
    refine bodyPost_ret (v := .tuple #[(.agg #[.int .i8 0, .int .i64 0, .int .i64 0, .int .i64 0, .bool false, .slice none 0 0, .bool false, .int .i64 0, .int .i64 0, .int .i64 0, .int .i64 0, .int .i64 0, .string ⟨#[]⟩, .string ⟨#[]⟩, .int .i64 0, .int .i64 0, .int .i64 0, .slice none 0 0]), .int .i64 70]) (erread_ret En0 none none 0 0 70 _ w.heap.size _ rfl rfl KW.out) rfl ?_
    rw [HRR.out]
    exact ⟨none, none, 0, 0, rfl, ⟨Reads.none_, Reads.none_, Nat.zero_le _, Nat.zero_le _⟩, BW.out, NwE.nil⟩
  · have he : endOf s.size j3 b3 = 0 := by unfold endOf; rw [if_neg hE]
    rw [he] at E1
    have HE := Lib.hid hE
    clear hE he
    go_wp2_with fail
    refine E1.out.mono ?_
    rintro e w5 ⟨rfl, n5, rfl⟩
    have LM := cells_mid (K4.out.drewN n5) rfl
    have ER5 : EnR (w4.drewN n5) q A9 D9 := ⟨Reads.of_own (own_below OW1.out (below_drewN (Below.refl _ _) n5)), Reads.of_own (own_below OW2.out (below_drewN (Below.refl _ _) n5)), by omega, by omega⟩
    have MY := Lib.hid (EnMay_any q A9 D9 c9 e9 _ ER5)
    have ER := Lib.hid ER5
    have y0 : (w4.drewN n5).cell? ⟨w.heap.size + 1 + 1, 0, none⟩ = some (.pointer (some ⟨w.heap.size + 1, 0, none⟩)) := (K4.out.drewN n5).cell 0
    clear x0 ER5
    cases hmy : mayEn q
    · rw [hmy] at MY
      have HRR := Lib.hid (show readE 1 1048575 6 (lb s) = (En0, 70) by rw [HR.out, if_pos (.inr (.inr hmy))])
      clear hmy
      go_wp2_with fail
      refine MY.out.mono ?_
      rintro e w6 ⟨rfl, b6⟩
      obtain ⟨W', st, kw, hsz, fb, fk⟩ := store_blk (cs := ezero) ((KT.out.drewN n5).below b6 (KT.out.drewN n5).lt) rfl rfl (by simp [Value.oneCell'])
      have BW := Lib.hid (fb _ w (Nat.le_refl _) (btrans (below_drewN BE.out n5) b6))
      have KW := Lib.hid kw
      clear kw hsz fb fk LM y0 b6
      go_wp2_with fail
      refine bodyPost_ret (v := .tuple #[(.agg #[.int .i8 0, .int .i64 0, .int .i64 0, .int .i64 0, .bool false, .slice none 0 0, .bool false, .int .i64 0, .int .i64 0, .int .i64 0, .int .i64 0, .int .i64 0, .string ⟨#[]⟩, .string ⟨#[]⟩, .int .i64 0, .int .i64 0, .int .i64 0, .slice none 0 0]), .int .i64 70]) (erread_ret En0 none none 0 0 70 _ w.heap.size _ rfl rfl KW.out) rfl ?_
      rw [HRR.out]
      exact ⟨none, none, 0, 0, rfl, ⟨Reads.none_, Reads.none_, Nat.zero_le _, Nat.zero_le _⟩, BW.out, NwE.nil⟩
    · rw [hmy] at MY
      have HRR := Lib.hid (show readE 1 1048575 6 (lb s) = (q, 0) by
        rw [HR.out, if_neg]
        rw [length_lb, hmy]
        rintro (h | h | h)
        · exact HE.out (.inl h)
        · exact HE.out (.inr h)
        · cases h)
      clear hmy
      go_wp2_with fail
      refine MY.out.mono ?_
      rintro e w6 ⟨rfl, b6⟩
      have LM6 := cells_mid ((K4.out.drewN n5).below b6 (K4.out.drewN n5).lt) rfl
      have y6 := ((K4.out.drewN n5).below b6 (K4.out.drewN n5).lt).cell 0
      obtain ⟨W', st, kw, fb, fh⟩ := store_blk2 (cs := #[.int .i8 q.kd, .int .i64 q.b.pid, .int .i64 q.b.ep, .int .i64 q.b.seq, .bool q.b.txn, .slice A9 q.b.rs.length c9, .bool q.yes, .int .i64 q.nx, .int .i64 q.off, .int .i64 q.row.1, .int .i64 q.row.2.1, .int .i64 q.row.2.2.1, .string q.row.2.2.2.1, .string q.row.2.2.2.2, .int .i64 q.prod.pid, .int .i64 q.prod.ep, .int .i64 q.prod.nx, .slice D9 q.prod.seen.length e9]) ((KT.out.drewN n5).below b6 (KT.out.drewN n5).lt) rfl rfl (by simp [Value.oneCell'])
      have BW := Lib.hid (fb _ w (Nat.le_refl _) (btrans (below_drewN BE.out n5) b6))
      have p1 := own_below (own_below OW1.out (below_drewN (Below.refl _ _) n5)) b6
      have p2 := own_below (own_below OW2.out (below_drewN (Below.refl _ _) n5)) b6
      have q1 := own_keepN p1 (fun y hy => fh y (by have := (p1.lt y hy).1; omega))
      have q2 := own_keepN p2 (fun y hy => fh y (by have := (p2.lt y hy).1; omega))
      have NW := Lib.hid (show NwE w.heap.size A9 D9 from ⟨fun ad h => by have := (q1.lt ad.block (by rw [h]; rfl)).1; omega, fun ad h => by have := (q2.lt ad.block (by rw [h]; rfl)).1; omega⟩)
      have EF := Lib.hid (show EnR W' q A9 D9 from ⟨Reads.of_own q1, Reads.of_own q2, by omega, by omega⟩)
      have KW := Lib.hid kw
      clear kw fb fh LM y0 p1 p2 q1 q2 b6
      go_wp2_with fail
      refine bodyPost_ret (v := .tuple #[(.agg #[.int .i8 q.kd, .int .i64 q.b.pid, .int .i64 q.b.ep, .int .i64 q.b.seq, .bool q.b.txn, .slice A9 q.b.rs.length c9, .bool q.yes, .int .i64 q.nx, .int .i64 q.off, .int .i64 q.row.1, .int .i64 q.row.2.1, .int .i64 q.row.2.2.1, .string q.row.2.2.2.1, .string q.row.2.2.2.2, .int .i64 q.prod.pid, .int .i64 q.prod.ep, .int .i64 q.prod.nx, .slice D9 q.prod.seen.length e9]), .int .i64 0]) (erread_ret q A9 D9 c9 e9 0 _ w.heap.size _ rfl rfl KW.out) rfl ?_
      rw [HRR.out]
      exact ⟨A9, D9, c9, e9, rfl, EF.out, BW.out, NW.out⟩
end
theorem EnRead_new (s : ByteArray) (w : World) (hl : s.size ≤ 100000) (hg : HasET w) :
    Calls Tryz.prog 21 #[.string s] w (ErRn (readE 1 1048575 6 (lb s)).1 (readE 1 1048575 6 (lb s)).2 w) := by
  obtain ⟨kd, j1, b1, hz1⟩ : ∃ v j b, rdNum (lb s) 0 false 0 6 = (v, j, b) := ⟨_, _, _, rfl⟩
  obtain ⟨y, j3, b3, hz3⟩ : ∃ v j b, rdE 1 1048575 kd (lb s) j1 b1 = (v, j, b) := ⟨_, _, _, rfl⟩
  have hkd : 0 ≤ kd ∧ kd ≤ 6 := by rcases rdNum_rng hz1 with h | h <;> omega
  have hh : kd = 0 ∨ kd = 1 ∨ kd = 2 ∨ kd = 3 ∨ kd = 4 ∨ kd = 5 ∨ kd = 6 := by omega
  rcases hh with hk | hk | hk | hk | hk | hk | hk
  · exact EnRead_0 s w hl hg kd hk j1 j3 b1 b3 y hz1 hz3
  · exact EnRead_1 s w hl hg kd hk j1 j3 b1 b3 y hz1 hz3
  · exact EnRead_2 s w hl hg kd hk j1 j3 b1 b3 y hz1 hz3
  · exact EnRead_3 s w hl hg kd hk j1 j3 b1 b3 y hz1 hz3
  · exact EnRead_4 s w hl hg kd hk j1 j3 b1 b3 y hz1 hz3
  · exact EnRead_5 s w hl hg kd hk j1 j3 b1 b3 y hz1 hz3
  · exact EnRead_6 s w hl hg kd hk j1 j3 b1 b3 y hz1 hz3
theorem EnRead_any (s : ByteArray) (w : World) (hl : s.size ≤ 100000) (hg : HasET w) :
    Calls Tryz.prog 21 #[.string s] w (ErRd (readE 1 1048575 6 (lb s)).1 (readE 1 1048575 6 (lb s)).2 w) :=
  (EnRead_new s w hl hg).mono fun _ _ h => h.rd
end Go.Proofs.YtckdecodpjfcnaaGreatDoor
