/-
  The card of RequestByte is proved: for every input the call returns true, and each argument reads as before. No condition but the row's own list, which the card ties to the program's text.
  The statement RequestByte: its walk.
-/
import Derived.Test.YtcockikekgmfkaaDoorGrp26
import Derived.Test.YtcockikekgmfkaaDoorGrp27
namespace Go.Proofs.YtcockikekgmfkaaDoor
open Go.RowKit

theorem cut08_in (cut : Int) (n : Nat) (h : 0 < n) : ∃ k : Nat, k < n ∧ ∃ q : Int, cut.tmod (n : Int) = q ∧ -(n : Int) < q ∧ q < n ∧ (q + (n : Int)) % (n : Int) = (k : Int) := by
  have h1 := Int.tmod_lt_of_pos cut (show (0 : Int) < (n : Int) by omega)
  have h2 := Int.lt_tmod_of_pos cut (show (0 : Int) < (n : Int) by omega)
  refine ⟨((cut.tmod (n : Int) + (n : Int)) % (n : Int)).toNat, ?_, _, rfl, h2, h1, ?_⟩
  · have := Int.emod_lt_of_pos (cut.tmod (n : Int) + (n : Int)) (show (0 : Int) < (n : Int) by omega)
    omega
  · have := Int.emod_nonneg (cut.tmod (n : Int) + (n : Int)) (show (n : Int) ≠ 0 by omega)
    omega
/-- Two texts of bytes that are requests: alike as requests just if alike. -/
theorem same_byte {l m : List UInt8} {x y : Rq} (hx : mayRq x) (hl : l = encRq x) (hy : mayRq y) (hm : m = encRq y) : sameRq x y = decide (l = m) := by
  rw [Bool.eq_iff_iff, sameRq_iff, decide_eq_true_eq]
  constructor
  · rintro rfl; rw [hl, hm]
  · intro h
    exact cRq.inj0 hx hy (by show encRq x = encRq y; rw [← hl, ← hm, h])
theorem set_same {l : List UInt8} {k : Nat} {c d : UInt8} (h : l[k]? = some d) : l.set k c = l ↔ c = d := by
  obtain ⟨h1, h2⟩ := List.getElem?_eq_some_iff.1 h
  constructor
  · intro he
    have : (l.set k c)[k]? = some d := by rw [he]; exact h
    rw [List.getElem?_set_self h1] at this
    injection this
  · rintro rfl
    rw [← h2]
    exact List.set_getElem_self h1

theorem mayRq_len {q : Rq} (h : mayRq q) : q.b.rs.length ≤ 1000000 := by
  by_cases hb : Fl.bat ∈ flOf q.kd
  · have h1 : mayBt q.b = true := h.2.1 .bat hb
    have := ((mayBt_iff _).1 h1).1
    omega
  · have h1 : q.b = Bat0 := h.2.2 .bat hb
    rw [h1]; exact Nat.zero_le _
set_option maxRecDepth 100000 in
set_option maxHeartbeats 2000000 in
theorem rbyte_big (A : Option Addr) (l : List UInt8) (c : Nat) (x : Int) (d : Int) (w : World) (hg : HasET w) (h : 1000 < l.length ∨ l.length = 0) :
    Calls Tryd.prog 12 #[.slice A l.length c, .int .i64 x, .int .u8 d] w fun e w' => e = .returned (.bool true) ∧ Below w.heap.size w w' := by
  have WK := Lib.hid (wakes08 w hg)
  have dd : decide ((1000 : Int) < (l.length : Int)) = true ∨ (decide ((1000 : Int) < (l.length : Int)) = false ∧ ((l.length : Int) == 0) = true) := by
    by_cases h1 : 1000 < l.length
    · exact .inl (by simp; omega)
    · exact .inr ⟨by simp; omega, eqb_true (by omega)⟩
  clear h hg
  rcases dd with d1 | ⟨d1, d2⟩
  · go_enter Tryd.func12, Tryd.ntmps12
    go_wp2_with fail
    refine WK.out.mono ?_
    rintro e w1 ⟨rfl, b1⟩
    go_wp2_with fail
    go_ret
    exact ⟨rfl, b1⟩
  · go_enter Tryd.func12, Tryd.ntmps12
    go_wp2_with fail
    refine WK.out.mono ?_
    rintro e w1 ⟨rfl, b1⟩
    go_wp2_with fail
    go_ret
    exact ⟨rfl, b1⟩

theorem own_addr {w : World} {base : Nat} {e : TypeId} {v : Value} {n : Nat} {xs : List Value} (h : w.ownsRow base e 1 v n xs) (hn : 0 < n) : ∃ g cap, v = .slice (some ⟨g, 0, none⟩) n cap ∧ base ≤ g ∧ n ≤ cap := by
  rcases h.2 with ⟨rfl, h0⟩ | ⟨g, cap, cur, hv, hg, _, hnc, _⟩
  · have := h.1
    rw [h0] at this
    simp at this
    omega
  · exact ⟨g, cap, hv, hg, hnc⟩
theorem cellsB_set (l : List UInt8) (k : Nat) (c : UInt8) : (cellsB l).set k (.int .u8 (c.toNat : Int)) = cellsB (l.set k c) := by unfold cellsB; rw [List.map_set]

set_option maxRecDepth 100000 in
set_option maxHeartbeats 8000000 in
theorem rbyte_ok (A : Option Addr) (l : List UInt8) (c : Nat) (x : Int) (d : UInt8) (w : World) (hr : Reads w w.heap.size 1 A l.length (cellsB l)) (hg : HasET w) (hl0 : 0 < l.length) (hl : l.length ≤ 1000) :
    Calls Tryd.prog 12 #[.slice A l.length c, .int .i64 x, .int .u8 (d.toNat : Int)] w fun e w' => e = .returned (.bool true) ∧ Below w.heap.size w w' := by
  obtain ⟨i0, hi, hi0, hi1, hi2⟩ := info_parts infoByte
  obtain ⟨k, hk, q, hq1, hq2, hq3, hq4⟩ := cut08_in x l.length hl0
  have d1 : decide ((1000 : Int) < (l.length : Int)) = false := by simp; omega
  have d2 : ((l.length : Int) == 0) = false := eqb_false (by omega)
  have i1 : (0 : Int) ≤ (k : Int) := by omega
  have i2 : (k : Int) < (l.length : Int) := by omega
  have R1 := Lib.hid (rqRead_any A l c w hr (by omega) hg)
  have HR := Lib.hid hr
  have HG := Lib.hid hg
  have hcs := readRq_cases l
  obtain ⟨qx, ex, hzx⟩ : ∃ qx ex, readRq l = (qx, ex) := ⟨_, _, rfl⟩
  rw [hzx] at R1
  change Hid (Calls _ _ _ _ (RqRd qx ex w)) at R1
  have HZX := Lib.hid hzx
  clear hr hg hcs hzx
  go_enter Tryd.func12, Tryd.ntmps12
  go_wp2_with fail
  refine R1.out.mono ?_
  rintro e w1 ⟨A5, c5, rfl, o5, b1⟩
  have B1 := Lib.hid (bal b1 (.cells #[.int .i8 qx.kd, .int .i64 qx.tid, .int .i64 qx.tm, .int .i64 qx.pid, .int .i64 qx.ep, .int .i64 qx.part, .int .i64 qx.grp, .int .i64 qx.off, .int .i64 qx.most, .bool qx.yes, .int .i64 qx.b.pid, .int .i64 qx.b.ep, .int .i64 qx.b.seq, .bool qx.b.txn, .slice A5 qx.b.rs.length c5] 74))
  have K1 := Lib.hid (blk_new w1 74 #[.int .i8 qx.kd, .int .i64 qx.tid, .int .i64 qx.tm, .int .i64 qx.pid, .int .i64 qx.ep, .int .i64 qx.part, .int .i64 qx.grp, .int .i64 qx.off, .int .i64 qx.most, .bool qx.yes, .int .i64 qx.b.pid, .int .i64 qx.b.ep, .int .i64 qx.b.seq, .bool qx.b.txn, .slice A5 qx.b.rs.length c5] rfl)
  have O5 := Lib.hid (o5.alloc (.cells #[.int .i8 qx.kd, .int .i64 qx.tid, .int .i64 qx.tm, .int .i64 qx.pid, .int .i64 qx.ep, .int .i64 qx.part, .int .i64 qx.grp, .int .i64 qx.off, .int .i64 qx.most, .bool qx.yes, .int .i64 qx.b.pid, .int .i64 qx.b.ep, .int .i64 qx.b.seq, .bool qx.b.txn, .slice A5 qx.b.rs.length c5] 74))
  have ow := own_newN (w1.alloc (.cells #[.int .i8 qx.kd, .int .i64 qx.tid, .int .i64 qx.tm, .int .i64 qx.pid, .int .i64 qx.ep, .int .i64 qx.part, .int .i64 qx.grp, .int .i64 qx.off, .int .i64 qx.most, .bool qx.yes, .int .i64 qx.b.pid, .int .i64 qx.b.ep, .int .i64 qx.b.seq, .bool qx.b.txn, .slice A5 qx.b.rs.length c5] 74)) 5 #[] (by unfold maxLen; simp)
  rw [World.size_alloc] at ow
  have OW := Lib.hid ow
  have hs1 := b1.size
  have RL := Lib.hid ((HR.out.below (bal b1 (.cells #[.int .i8 qx.kd, .int .i64 qx.tid, .int .i64 qx.tm, .int .i64 qx.pid, .int .i64 qx.ep, .int .i64 qx.part, .int .i64 qx.grp, .int .i64 qx.off, .int .i64 qx.most, .bool qx.yes, .int .i64 qx.b.pid, .int .i64 qx.b.ep, .int .i64 qx.b.seq, .bool qx.b.txn, .slice A5 qx.b.rs.length c5] 74))).alloc (by simp; omega) (.cells #[] 5))
  have XR1 := Lib.hid (Reads.of_own o5)
  clear b1 o5 ow
  go_wp2_with (at_builtin; refine wpList_append_any _ rfl (.tmp 31) (.tmp 32) 50 rfl (w1.heap.size + 1) 5 i0 _ 1 1 Tryd.underlying50 hi hi0 hi1 hi2 rfl (by decide) _ 0 _ rfl OW.out _ _ l.length c (cellsB l) rfl RL.out (cellsB_one l) (by unfold maxLen; omega) (by omega) (by simp only [World.size_alloc]; omega) ?_; intro v' w2 hown hgrow _; simp only [Nat.zero_add, List.nil_append] at hown; obtain ⟨g, cap, rfl, hgb, hnc⟩ := own_addr hown hl0; have y0 : w2.cell? ⟨g, k, none⟩ = (cellsB l)[k]? := hown.cellAt k (by omega); have y1 := hown.frozenAt k; rw [getElem?_cellsB, List.getElem?_eq_getElem hk] at y0; simp only [Option.map_some] at y0; have B2 := Lib.hid ((bal B1.out (.cells #[] 5)).grown hgrow (by simp only [World.size_alloc]; omega) (fun y hy => by have := (OW.out.lt y hy).1; omega)); have HO := Lib.hid hown; have HGR := Lib.hid hgrow; have HGB := Lib.hid hgb; clear hown hgrow)
  have st := (HO.out.stored k (.int .u8 (d.toNat : Int))).1
  rw [cellsB_set] at st
  have lm : (l.set k d).length = l.length := List.length_set
  have B3 := Lib.hid (bset B2.out (show w.heap.size ≤ g by omega) (o := k) (.int .u8 (d.toNat : Int)))
  have kx2 := (K1.out.alloc (.cells #[] 5)).grown HGR.out (Ne.symm (own_blk_ne OW.out (K1.out.alloc _) (by decide)))
  have kne := own_blk_ne HO.out kx2 (by decide)
  have KX3 := Lib.hid (kx2.far (p := ⟨g, k, none⟩) (fun h => kne (by rw [h]; rfl)) (.int .u8 (d.toNat : Int)))
  have XR3 := Lib.hid (((((XR1.out.alloc (Nat.le_refl _) (.cells #[.int .i8 qx.kd, .int .i64 qx.tid, .int .i64 qx.tm, .int .i64 qx.pid, .int .i64 qx.ep, .int .i64 qx.part, .int .i64 qx.grp, .int .i64 qx.off, .int .i64 qx.most, .bool qx.yes, .int .i64 qx.b.pid, .int .i64 qx.b.ep, .int .i64 qx.b.seq, .bool qx.b.txn, .slice A5 qx.b.rs.length c5] 74)).alloc (by simp) (.cells #[] 5)).grown HGR.out (by simp only [World.size_alloc]; omega) (fun y hy => by have := (OW.out.lt y hy).1; omega))).setCell (p := ⟨g, k, none⟩) (show w1.heap.size ≤ g by have := HGB.out; omega) (.int .u8 (d.toNat : Int)))
  have hs3 := HGR.out.size
  simp only [World.size_alloc] at hs3
  clear kx2 kne
  obtain ⟨qy, ey, hzy⟩ : ∃ qy ey, readRq (l.set k d) = (qy, ey) := ⟨_, _, rfl⟩
  have rd2 := rqRead_any (some ⟨g, 0, none⟩) (l.set k d) cap _ (by rw [lm]; exact Reads.of_own st) (by rw [lm]; omega) (HG.out.up B3.out)
  rw [hzy, lm] at rd2
  have R2 := Lib.hid rd2
  change Hid (Calls _ _ _ _ (RqRd qy ey _)) at R2
  have HZY := Lib.hid hzy
  have HST := Lib.hid st
  clear st rd2 hzy lm y0 y1
  refine R2.out.mono ?_
  rintro e w3 ⟨A6, c6, rfl, o6, b3⟩
  have B4 := Lib.hid (bal (btrans B3.out b3) (.cells #[.int .i8 qy.kd, .int .i64 qy.tid, .int .i64 qy.tm, .int .i64 qy.pid, .int .i64 qy.ep, .int .i64 qy.part, .int .i64 qy.grp, .int .i64 qy.off, .int .i64 qy.most, .bool qy.yes, .int .i64 qy.b.pid, .int .i64 qy.b.ep, .int .i64 qy.b.seq, .bool qy.b.txn, .slice A6 qy.b.rs.length c6] 74))
  have O6 := Lib.hid (o6.alloc (.cells #[.int .i8 qy.kd, .int .i64 qy.tid, .int .i64 qy.tm, .int .i64 qy.pid, .int .i64 qy.ep, .int .i64 qy.part, .int .i64 qy.grp, .int .i64 qy.off, .int .i64 qy.most, .bool qy.yes, .int .i64 qy.b.pid, .int .i64 qy.b.ep, .int .i64 qy.b.seq, .bool qy.b.txn, .slice A6 qy.b.rs.length c6] 74))
  have BB3 := Lib.hid (bal b3 (.cells #[.int .i8 qy.kd, .int .i64 qy.tid, .int .i64 qy.tm, .int .i64 qy.pid, .int .i64 qy.ep, .int .i64 qy.part, .int .i64 qy.grp, .int .i64 qy.off, .int .i64 qy.most, .bool qy.yes, .int .i64 qy.b.pid, .int .i64 qy.b.ep, .int .i64 qy.b.seq, .bool qy.b.txn, .slice A6 qy.b.rs.length c6] 74))
  have HSR := Lib.hid ((Reads.of_own HST.out).below b3)
  have KX4 := Lib.hid (KX3.out.below b3 KX3.out.lt)
  have XR4 := Lib.hid (XR3.out.below (b3.mono (by simp; omega)))
  have hs4 := b3.size
  simp only [World.size_setCell] at hs4
  clear b3 o6
  go_wp2_with fail
  have cx : ex = 0 ∨ ex = 70 := by
    rcases readRq_cases l with ⟨q', h, _⟩ | h
    · rw [HZX.out] at h; injection h with _ h; exact .inl h
    · rw [HZX.out] at h; injection h with _ h; exact .inr h
  have cy : ey = 0 ∨ ey = 70 := by
    rcases readRq_cases (l.set k d) with ⟨q', h, _⟩ | h
    · rw [HZY.out] at h; injection h with _ h; exact .inl h
    · rw [HZY.out] at h; injection h with _ h; exact .inr h
  have CE : ∀ n : Int, (n = 0 ∨ n = 70) → (n != 0) = false ∨ ((n != 0) = true ∧ (n != 70) = false) := by
    rintro n (rfl | rfl)
    · exact .inl rfl
    · exact .inr ⟨rfl, rfl⟩
  have EX := Lib.hid (CE ex cx)
  have EY := Lib.hid (CE ey cy)
  have CX := Lib.hid cx
  have CY := Lib.hid cy
  have B5 := Lib.hid (bal B4.out (.cells #[.int .i64 ex, .int .i64 ey] 32))
  clear cx cy CE
  go_loop [14, 57] (fun s14 i => ∃ j : Nat, j ≤ 2 ∧ i = .int .i64 j) (fun _ i => 2 - (intOf i).toNat)
  case atStart => exact ⟨0, Nat.zero_le _, rfl⟩
  case round =>
    obtain ⟨j, hj, rfl⟩ := hrel
    have hj3 : j = 0 ∨ j = 1 ∨ j = 2 := by omega
    rcases hj3 with rfl | rfl | rfl
    · rcases EX.out with h1 | ⟨h1, h2⟩
      all_goals
        go_wp2_with fail
        go_round
        case rel => exact ⟨1, by omega, by go_num⟩
        case measure => simp [intOf]
    · rcases EY.out with h1 | ⟨h1, h2⟩
      all_goals
        go_wp2_with fail
        go_round
        case rel => exact ⟨2, by omega, by go_num⟩
        case measure => simp [intOf]
    · rcases CY.out with hy | hy
      · subst hy
        obtain ⟨my, hye⟩ : mayRq qy ∧ l.set k d = encRq qy := by
          rcases readRq_cases (l.set k d) with ⟨q', h, h1, h2⟩ | h
          · rw [HZY.out] at h; injection h with h _; subst h; exact ⟨h1, h2⟩
          · rw [HZY.out] at h; injection h with _ h; cases h
        have ky := (blk_new w3 74 #[.int .i8 qy.kd, .int .i64 qy.tid, .int .i64 qy.tm, .int .i64 qy.pid, .int .i64 qy.ep, .int .i64 qy.part, .int .i64 qy.grp, .int .i64 qy.off, .int .i64 qy.most, .bool qy.yes, .int .i64 qy.b.pid, .int .i64 qy.b.ep, .int .i64 qy.b.seq, .bool qy.b.txn, .slice A6 qy.b.rs.length c6] rfl).alloc (.cells #[.int .i64 ex, .int .i64 0] 32)
        have kx := (KX4.out.alloc (.cells #[.int .i8 qy.kd, .int .i64 qy.tid, .int .i64 qy.tm, .int .i64 qy.pid, .int .i64 qy.ep, .int .i64 qy.part, .int .i64 qy.grp, .int .i64 qy.off, .int .i64 qy.most, .bool qy.yes, .int .i64 qy.b.pid, .int .i64 qy.b.ep, .int .i64 qy.b.seq, .bool qy.b.txn, .slice A6 qy.b.rs.length c6] 74)).alloc (.cells #[.int .i64 ex, .int .i64 0] 32)
        have xr := (XR4.out.alloc (by omega) (.cells #[.int .i8 qy.kd, .int .i64 qy.tid, .int .i64 qy.tm, .int .i64 qy.pid, .int .i64 qy.ep, .int .i64 qy.part, .int .i64 qy.grp, .int .i64 qy.off, .int .i64 qy.most, .bool qy.yes, .int .i64 qy.b.pid, .int .i64 qy.b.ep, .int .i64 qy.b.seq, .bool qy.b.txn, .slice A6 qy.b.rs.length c6] 74)).alloc (by simp; omega) (.cells #[.int .i64 ex, .int .i64 0] 32)
        have yr := Reads.of_own (O6.out.alloc (.cells #[.int .i64 ex, .int .i64 0] 32))
        have orr := (HSR.out.alloc (by simp; omega) (.cells #[.int .i8 qy.kd, .int .i64 qy.tid, .int .i64 qy.tm, .int .i64 qy.pid, .int .i64 qy.ep, .int .i64 qy.part, .int .i64 qy.grp, .int .i64 qy.off, .int .i64 qy.most, .bool qy.yes, .int .i64 qy.b.pid, .int .i64 qy.b.ep, .int .i64 qy.b.seq, .bool qy.b.txn, .slice A6 qy.b.rs.length c6] 74)).alloc (by simp; omega) (.cells #[.int .i64 ex, .int .i64 0] 32)
        have hlz : w3.heap.size + 1 + 1 = ((w3.alloc (.cells #[.int .i8 qy.kd, .int .i64 qy.tid, .int .i64 qy.tm, .int .i64 qy.pid, .int .i64 qy.ep, .int .i64 qy.part, .int .i64 qy.grp, .int .i64 qy.off, .int .i64 qy.most, .bool qy.yes, .int .i64 qy.b.pid, .int .i64 qy.b.ep, .int .i64 qy.b.seq, .bool qy.b.txn, .slice A6 qy.b.rs.length c6] 74)).alloc (.cells #[.int .i64 ex, .int .i64 0] 32)).heap.size := by simp
        have b5 := B5.out
        generalize (w3.alloc (.cells #[.int .i8 qy.kd, .int .i64 qy.tid, .int .i64 qy.tm, .int .i64 qy.pid, .int .i64 qy.ep, .int .i64 qy.part, .int .i64 qy.grp, .int .i64 qy.off, .int .i64 qy.most, .bool qy.yes, .int .i64 qy.b.pid, .int .i64 qy.b.ep, .int .i64 qy.b.seq, .bool qy.b.txn, .slice A6 qy.b.rs.length c6] 74)).alloc (.cells #[.int .i64 ex, .int .i64 0] 32) = w4 at *
        have r7 := rqBytes_ok qy A6 c6 w4 yr (mayRq_len my) (HG.out.up b5) my
        rw [← hye] at r7
        have R7 := Lib.hid r7
        have MY := Lib.hid (fun W (h : Below w4.heap.size w4 W) => rqMay_ok qy A6 c6 W ((yr.below h).more h.size) (mayRq_len my) (HG.out.up (btrans b5 h)) my)
        have lm : (l.set k d).length = l.length := List.length_set
        have KY := Lib.hid ky
        have KX := Lib.hid kx
        have XR := Lib.hid xr
        have YR := Lib.hid yr
        have ORR := Lib.hid orr
        have B5' := Lib.hid b5
        have MYH := Lib.hid my
        have HYE := Lib.hid hye
        have LM := Lib.hid lm
        have ky0 := ky.cell 0
        have ky1 := ky.cell 1
        have ky2 := ky.cell 2
        have ky3 := ky.cell 3
        have ky4 := ky.cell 4
        have ky5 := ky.cell 5
        have ky6 := ky.cell 6
        have ky7 := ky.cell 7
        have ky8 := ky.cell 8
        have ky9 := ky.cell 9
        have ky10 := ky.cell 10
        have ky11 := ky.cell 11
        have ky12 := ky.cell 12
        have ky13 := ky.cell 13
        have ky14 := ky.cell 14
        clear my hye ky kx xr yr orr b5 r7 lm EY
        go_wp2_with fail
        refine R7.out.mono ?_
        rintro e w5 ⟨A7, c7, rfl, r8, hc7, b7⟩
        rw [LM.out] at r8
        have t1 := run_string_of (P := Tryd.prog) (src := 50) (dst := 9) (c := c7) Tryd.underlying50 Tryd.underlying5 Tryd.underlying9 r8
        have t2 := run_string_of (P := Tryd.prog) (src := 50) (dst := 9) (c := cap) Tryd.underlying50 Tryd.underlying5 Tryd.underlying9 (ORR.out.below (b7.mono (by simp; omega)))
        have B7 := Lib.hid b7
        have kz0 := (b7.cell (p := ⟨w3.heap.size, 0, none⟩) KY.out.lt).trans ky0
        have kz1 := (b7.cell (p := ⟨w3.heap.size, 1, none⟩) KY.out.lt).trans ky1
        have kz2 := (b7.cell (p := ⟨w3.heap.size, 2, none⟩) KY.out.lt).trans ky2
        have kz3 := (b7.cell (p := ⟨w3.heap.size, 3, none⟩) KY.out.lt).trans ky3
        have kz4 := (b7.cell (p := ⟨w3.heap.size, 4, none⟩) KY.out.lt).trans ky4
        have kz5 := (b7.cell (p := ⟨w3.heap.size, 5, none⟩) KY.out.lt).trans ky5
        have kz6 := (b7.cell (p := ⟨w3.heap.size, 6, none⟩) KY.out.lt).trans ky6
        have kz7 := (b7.cell (p := ⟨w3.heap.size, 7, none⟩) KY.out.lt).trans ky7
        have kz8 := (b7.cell (p := ⟨w3.heap.size, 8, none⟩) KY.out.lt).trans ky8
        have kz9 := (b7.cell (p := ⟨w3.heap.size, 9, none⟩) KY.out.lt).trans ky9
        have kz10 := (b7.cell (p := ⟨w3.heap.size, 10, none⟩) KY.out.lt).trans ky10
        have kz11 := (b7.cell (p := ⟨w3.heap.size, 11, none⟩) KY.out.lt).trans ky11
        have kz12 := (b7.cell (p := ⟨w3.heap.size, 12, none⟩) KY.out.lt).trans ky12
        have kz13 := (b7.cell (p := ⟨w3.heap.size, 13, none⟩) KY.out.lt).trans ky13
        have kz14 := (b7.cell (p := ⟨w3.heap.size, 14, none⟩) KY.out.lt).trans ky14
        clear r8 hc7 b7 ky0 ky1 ky2 ky3 ky4 ky5 ky6 ky7 ky8 ky9 ky10 ky11 ky12 ky13 ky14
        go_wp2_with fail
        refine (MY.out _ B7.out).mono ?_
        rintro e w6 ⟨rfl, b8⟩
        have B8 := Lib.hid (btrans B7.out b8)
        clear b8 kz0 kz1 kz2 kz3 kz4 kz5 kz6 kz7 kz8 kz9 kz10 kz11 kz12 kz13 kz14 t1 t2
        go_wp2_with fail
        have hs6 := B8.out.size
        have hs16 : w1.heap.size ≤ w6.heap.size := by omega
        have WK := Lib.hid (fun n : BW w6.heap.size w6 => wakes08 n.1 (HG.out.up (B5'.out.trans ((B8.out.mono (by have := B5'.out.size; omega)).trans (n.2.mono (by have := B5'.out.size; omega))))))
        rcases EX.out with h1 | ⟨h1, h2⟩
        · have hx0 : ex = 0 := by simpa using h1
          obtain ⟨mx, hxe⟩ : mayRq qx ∧ l = encRq qx := by
            rcases readRq_cases l with ⟨q', h, h3, h4⟩ | h
            · rw [HZX.out] at h; injection h with h _; subst h; exact ⟨h3, h4⟩
            · rw [HZX.out] at h; injection h with _ h; rw [h] at hx0; cases hx0
          obtain ⟨ad, u, hA, had, hu, hcell⟩ := HR.out.at_ hk
          subst hA
          have hgu : l[k]? = some l[k] := List.getElem?_eq_getElem hk
          have hu2 : u = .int .u8 (l[k].toNat : Int) := by
            rw [getElem?_cellsB, hgu] at hu
            injection hu with hu; exact hu.symm
          subst hu2
          have hsb : sameRq qx qy = ((d.toNat : Int) == (l[k].toNat : Int)) := by
            rw [same_byte mx hxe MYH.out HYE.out, Bool.eq_iff_iff, decide_eq_true_eq, beq_iff_eq]
            constructor
            · intro h
              rw [(set_same hgu).1 h.symm]
            · intro h
              exact ((set_same hgu).2 (UInt8.toNat_inj.1 (by omega))).symm
          obtain ⟨bb, hb1, hb2⟩ : ∃ bb, sameRq qx qy = bb ∧ ((d.toNat : Int) == (l[k].toNat : Int)) = bb := ⟨_, rfl, hsb.symm⟩
          have SM := Lib.hid (fun n : BW w6.heap.size w6 => rqSame_any qx qy A5 A6 c5 c6 n.1 ((XR.out.below ((B8.out.trans (n.2.mono hs6)).mono (by omega))).more (by have := n.2.size; omega)) ((YR.out.below (B8.out.trans (n.2.mono hs6))).more (by have := n.2.size; omega)) (mayRq_len mx))
          rw [hb1] at SM
          have lx := KX.out.lt
          have ly := KY.out.lt
          have kx6 := KX.out.below B8.out lx
          have ky6 := KY.out.below B8.out ly
          have e0 := bw_cell (B := w6.heap.size) (kx6.cell 0) kx6.lt
          have e1 := bw_cell (B := w6.heap.size) (kx6.cell 1) kx6.lt
          have e2 := bw_cell (B := w6.heap.size) (kx6.cell 2) kx6.lt
          have e3 := bw_cell (B := w6.heap.size) (kx6.cell 3) kx6.lt
          have e4 := bw_cell (B := w6.heap.size) (kx6.cell 4) kx6.lt
          have e5 := bw_cell (B := w6.heap.size) (kx6.cell 5) kx6.lt
          have e6 := bw_cell (B := w6.heap.size) (kx6.cell 6) kx6.lt
          have e7 := bw_cell (B := w6.heap.size) (kx6.cell 7) kx6.lt
          have e8 := bw_cell (B := w6.heap.size) (kx6.cell 8) kx6.lt
          have e9 := bw_cell (B := w6.heap.size) (kx6.cell 9) kx6.lt
          have e10 := bw_cell (B := w6.heap.size) (kx6.cell 10) kx6.lt
          have e11 := bw_cell (B := w6.heap.size) (kx6.cell 11) kx6.lt
          have e12 := bw_cell (B := w6.heap.size) (kx6.cell 12) kx6.lt
          have e13 := bw_cell (B := w6.heap.size) (kx6.cell 13) kx6.lt
          have e14 := bw_cell (B := w6.heap.size) (kx6.cell 14) kx6.lt
          have f0 := bw_cell (B := w6.heap.size) (ky6.cell 0) ky6.lt
          have f1 := bw_cell (B := w6.heap.size) (ky6.cell 1) ky6.lt
          have f2 := bw_cell (B := w6.heap.size) (ky6.cell 2) ky6.lt
          have f3 := bw_cell (B := w6.heap.size) (ky6.cell 3) ky6.lt
          have f4 := bw_cell (B := w6.heap.size) (ky6.cell 4) ky6.lt
          have f5 := bw_cell (B := w6.heap.size) (ky6.cell 5) ky6.lt
          have f6 := bw_cell (B := w6.heap.size) (ky6.cell 6) ky6.lt
          have f7 := bw_cell (B := w6.heap.size) (ky6.cell 7) ky6.lt
          have f8 := bw_cell (B := w6.heap.size) (ky6.cell 8) ky6.lt
          have f9 := bw_cell (B := w6.heap.size) (ky6.cell 9) ky6.lt
          have f10 := bw_cell (B := w6.heap.size) (ky6.cell 10) ky6.lt
          have f11 := bw_cell (B := w6.heap.size) (ky6.cell 11) ky6.lt
          have f12 := bw_cell (B := w6.heap.size) (ky6.cell 12) ky6.lt
          have f13 := bw_cell (B := w6.heap.size) (ky6.cell 13) ky6.lt
          have f14 := bw_cell (B := w6.heap.size) (ky6.cell 14) ky6.lt
          have rc : ∀ n : BW w6.heap.size w6, n.1.cell? (ad.add k) = some (.int .u8 (l[k].toNat : Int)) := fun n =>
            ((B5'.out.trans ((B8.out.mono (by have := B5'.out.size; omega)).trans (n.2.mono (by have := B5'.out.size; omega)))).cell (by rw [block_of_add]; exact had)).trans hcell
          clear hu hcell hgu hsb kx6 ky6 mx hxe lx ly hx0
          cases bb
          all_goals
            refine wp_region_bq w6.heap.size (by kernel_rfl) (by kernel_rfl) ?_
            repeat (go_big_quiet_step ((first | (go_at_call 53; exact bw_call (Nat.le_refl _) (WK.out _)) | (go_at_call 57; exact bw_call (Nat.le_refl _) (SM.out _)))))
            refine wpQuiet_nil ?_
            rintro _ ⟨n, rfl⟩
            have hn := B5'.out.trans ((B8.out.mono (by have := B5'.out.size; omega)).trans (n.2.mono (by have := B5'.out.size; omega)))
            clear e0 e1 e2 e3 e4 e5 e6 e7 e8 e9 e10 e11 e12 e13 e14 f0 f1 f2 f3 f4 f5 f6 f7 f8 f9 f10 f11 f12 f13 f14 rc
            go_wp2_with fail
            go_ret
            exact ⟨rfl, hn⟩
        · refine wp_region_bq w6.heap.size (by kernel_rfl) (by kernel_rfl) ?_
          repeat (go_big_quiet_step ((go_at_call 53; exact bw_call (Nat.le_refl _) (WK.out _))))
          refine wpQuiet_nil ?_
          rintro _ ⟨n, rfl⟩
          have hn := B5'.out.trans ((B8.out.mono (by have := B5'.out.size; omega)).trans (n.2.mono (by have := B5'.out.size; omega)))
          go_wp2_with fail
          go_ret
          exact ⟨rfl, hn⟩
      · subst hy
        have WK := Lib.hid (fun n : BW (w3.heap.size + 1 + 1) ((w3.alloc (.cells #[.int .i8 qy.kd, .int .i64 qy.tid, .int .i64 qy.tm, .int .i64 qy.pid, .int .i64 qy.ep, .int .i64 qy.part, .int .i64 qy.grp, .int .i64 qy.off, .int .i64 qy.most, .bool qy.yes, .int .i64 qy.b.pid, .int .i64 qy.b.ep, .int .i64 qy.b.seq, .bool qy.b.txn, .slice A6 qy.b.rs.length c6] 74)).alloc (.cells #[.int .i64 ex, .int .i64 70] 32)) => wakes08 n.1 (HG.out.up (B5.out.trans (n.2.mono (by have := B5.out.size; simp at this; omega)))))
        have hle : w3.heap.size + 1 + 1 ≤ ((w3.alloc (.cells #[.int .i8 qy.kd, .int .i64 qy.tid, .int .i64 qy.tm, .int .i64 qy.pid, .int .i64 qy.ep, .int .i64 qy.part, .int .i64 qy.grp, .int .i64 qy.off, .int .i64 qy.most, .bool qy.yes, .int .i64 qy.b.pid, .int .i64 qy.b.ep, .int .i64 qy.b.seq, .bool qy.b.txn, .slice A6 qy.b.rs.length c6] 74)).alloc (.cells #[.int .i64 ex, .int .i64 70] 32)).heap.size := by simp
        clear EY
        go_wp2_with fail
        rcases EX.out with h1 | ⟨h1, h2⟩
        all_goals
          refine wp_region_bq (w3.heap.size + 1 + 1) (by kernel_rfl) (by kernel_rfl) ?_
          repeat (go_big_quiet_step ((go_at_call 53; exact bw_call hle (WK.out _))))
          refine wpQuiet_nil ?_
          rintro _ ⟨n, rfl⟩
          have hn := B5.out.trans (n.2.mono (by have := B5.out.size; simp at this; omega))
          go_wp2_with fail
          go_ret
          exact ⟨rfl, hn⟩
theorem rbyte_walk (A : Option Addr) (l : List UInt8) (c : Nat) (x : Int) (d : UInt8) (w : World) (hr : Reads w w.heap.size 1 A l.length (cellsB l)) (hg : HasET w) :
    Calls Tryd.prog 12 #[.slice A l.length c, .int .i64 x, .int .u8 (d.toNat : Int)] w fun e w' => e = .returned (.bool true) ∧ Below w.heap.size w w' := by
  by_cases h : 1000 < l.length ∨ l.length = 0
  · exact rbyte_big A l c x _ w hg h
  · exact rbyte_ok A l c x d w hr hg (by omega) (by omega)
theorem rbyte_int (A : Option Addr) (l : List UInt8) (c : Nat) (x a : Int) (w : World) (hr : Reads w w.heap.size 1 A l.length (cellsB l)) (hg : HasET w) (ha : (Lit.int .u8 a).wf = true) :
    Calls Tryd.prog 12 #[.slice A l.length c, .int .i64 x, .int .u8 a] w fun e w' => e = .returned (.bool true) ∧ Below w.heap.size w w' := by
  have h0 : (0 : Int) ≤ a ∧ a ≤ 255 := by
    simp only [Lit.wf, Bool.and_eq_true, decide_eq_true_eq] at ha
    exact ⟨ha.1, ha.2⟩
  have e : a = ((UInt8.ofNat a.toNat).toNat : Int) := by
    rw [UInt8.toNat_ofNat']
    omega
  rw [e]
  exact rbyte_walk A l c x _ w hr hg
end Go.Proofs.YtcockikekgmfkaaDoor
namespace Go.Proofs.YtcockikekgmfkaaDoor.requestByte
open Go.ChangeShapes Go.WideShapes Go.ChangeAt Go.RowKit
open Go.ChangeMaps (open_string shut_string)
set_option linter.unusedVariables false

theorem laid_met (os : Os) : laidMetH Tryd.prog Rows.requestByteRow.laid ((laidWorld os).forCall (fun _ _ => 0) ⟨#[], #[.slice none 0 0, .int .i64 0, .int .u8 0], []⟩).memory :=
  laidMetH_of_parts (laidMet_nil _ _) (by kernel_rfl)
theorem reads (os : Os) {H : Type} (enc : TypeId × Value → H) : ∃ places, DataW.whole enc Tryd.prog ((laidWorld os).forCall (fun _ _ => 0) ⟨#[], #[.slice none 0 0, .int .i64 0, .int .u8 0], []⟩).memory Tryd.f12.params.toList Rows.requestByteSpec.vars false (#[.slice none 0 0, .int .i64 0, .int .u8 0] : Array Value).toList 8 = some ([.nil, .lit (.int .i64 0), .lit (.int .u8 0)], [], places) :=
  ⟨[], by kernel_rfl⟩

set_option maxRecDepth 100000 in
theorem lifted (os : Os) (started : os.Started) (H : Type) (enc : TypeId × Value → H) (F : Stop.Interp) :
    ReturnsInHanded {} Tryd.checked os 12 .any ((OpenSpec.ofChange Rows.requestByteSpec).preRow enc Tryd.prog Tryd.f12 Rows.requestByteRow.domain false Rows.requestByteRow.laid) (((OpenSpec.ofChange Rows.requestByteSpec).at F).post enc Tryd.prog Tryd.f12 false true false false) := by
  obtain ⟨places, hx⟩ := reads os enc
  refine returnsInHanded_of_row (C := Tryd.checked) (s := OpenSpec.ofChange Rows.requestByteSpec) own started (by kernel_rfl) Tryd.func12
    (witness_row_at (enc := enc) (C := Tryd.checked) false (laidWorld os) #[.slice none 0 0, .int .i64 0, .int .u8 0] rfl (by kernel_rfl) (by kernel_rfl) (by kernel_rfl)
      (OpenSpec.preRow_of_cond 8 hx (by kernel_rfl) (fun k hk => by cases hk) (by kernel_rfl) (laid_met os))) ?_
  intro W base args ds gs before hval0 hW _ _ hsz0 hL _ _
  have hg : HasET W := hasErr_of_laid hL
  have hval : ∀ (j : Nat) t v, Tryd.f12.params[j]? = some t → args[j]? = some v → Value.okWide Tryd.prog W .any base t v := hval0
  have hsz : (DataW.weightsEach Tryd.prog (Tryd.f12.params.toList ++ Rows.requestByteSpec.plain.varTypes Tryd.prog) (ds ++ gs)).all (· ≤ reachBytes) = true := hsz0
  have hW' := hW
  obtain ⟨p, q, hA0, hV, rfl, hfz, hnd⟩ := hW
  have hA : DataW.TrodAll enc Tryd.prog W 0 (fun _ => true) true Tryd.f12.params.toList args.toList ds p := hA0
  rw [Tryd.params12] at hA hval hsz
  obtain ⟨v0, vs0, d0, ds0, p0, q0, hargs, rfl, rfl, h0, r0⟩ := trodAll_cons hA
  obtain ⟨v1, vs1, d1, ds1, p1, q1, rfl, rfl, rfl, h1, r1⟩ := trodAll_cons r0
  obtain ⟨v2, vs2, d2, ds2, p2, q2, rfl, rfl, rfl, h2, r2⟩ := trodAll_cons r1
  obtain ⟨rfl, rfl, rfl⟩ := trodAll_nil r2
  obtain rfl : args = #[v0, v1, v2] := by cases args; simp_all
  obtain ⟨rfl, rfl⟩ := trodVars_none hV
  have k0 := h0
  have lt0 : ∀ x ∈ p0, x.block < W.heap.size := by obtain ⟨m, hm⟩ := k0; exact DataW.trod_lt m _ _ _ hm
  obtain ⟨A0, n0, c0, zs0, rfl, l0, b0, rd0, s0⟩ := open_ints_arg 1 Tryd.underlying50 Tryd.underlying5 (by kernel_rfl) (by kernel_rfl) (hval 0 50 v0 rfl rfl) h0 (weights_of hsz (j := 0) rfl rfl)
  obtain ⟨a1, rfl, rfl, rfl, w1⟩ := open_int Tryd.underlying3 (hval 1 3 v1 rfl rfl) h1
  obtain ⟨a2, rfl, rfl, rfl, w2⟩ := open_int Tryd.underlying5 (hval 2 5 v2 rfl rfl) h2
  obtain ⟨lb0, rfl, rb0⟩ := bytes_of_ints rd0 s0
  clear hA0 hval0 hsz0
  refine (rbyte_int A0 lb0 c0 a1 a2 W rb0 hg w2).mono fun e W' ⟨he, bel⟩ => ?_
  subst he
  exact ⟨_, rfl, _, _, _, [], _, [], hW', trodAll_mk1 (shut_bool Tryd.underlying4 _), (trodAll_cons_mk (Below.trod laidOut (by kernel_rfl) (of_decide_eq_true (by kernel_rfl)) k0 bel lt0) (trodAll_cons_mk (shut_int Tryd.underlying3 w1) (trodAll_cons_mk (shut_int Tryd.underlying5 w2) trodAll_mk0))), rfl, bel.frame _, fun h => by cases h⟩

theorem said : Rows.RequestByteSaid :=
  OpenClaim.holds_of_cond 12 Tryd.f12 rfl rfl rfl rfl rfl rfl rfl ⟨rfl, rfl, rfl, rfl, rfl⟩ rfl rfl rfl rfl rfl (by kernel_rfl) Tryd.func12 (by kernel_rfl)
    (of_decide_eq_true (by kernel_rfl)) (by unfold Func.isWrapper; first | (rw [if_pos (by decide +kernel)]; kernel_rfl) | (rw [if_neg (by decide +kernel)]; exact ⟨rfl, rfl⟩))
    (fun os started H enc _ F => by rw [OpenClaim.pre_eq_preRow]; exact lifted os started H enc F)

theorem plain (f : FuncId) (fn : Func) (hf : Tryd.pinned.checked.prog.funcNamed "roving/rovinglaw08.RequestByte" = some f) (hfn : Tryd.pinned.checked.prog.funcs[f]? = some fn) :
    true = Tryd.pinned.checked.prog.looks [] ∧ ∀ (j : Nat) t, fn.params[j]? = some t → Tryd.pinned.checked.prog.wantsStandIn t = false := by
  obtain rfl : f = 12 := Option.some.inj ((show Tryd.prog.funcNamed "roving/rovinglaw08.RequestByte" = some 12 by kernel_rfl).symm.trans hf) |>.symm
  obtain rfl : fn = Tryd.f12 := (Option.some.inj (Tryd.func12.symm.trans hfn)).symm
  refine ⟨by kernel_rfl, fun j t ht => ?_⟩
  rw [Tryd.params12] at ht
  have hm : t = 50 ∨ t = 3 ∨ t = 5 := by simpa using Array.mem_of_getElem? ht
  rcases hm with rfl | rfl | rfl <;> exact (show Tryd.prog.wantsStandIn _ = false by kernel_rfl)

/-- THE CARD. -/
theorem card : Rows.RequestByteCardSaid :=
  Claim7.holds_tied_plain_at .later [] _ _ _ _ said (fun _ h => by cases h) (by kernel_rfl) (fun _ h => by cases h) requestByte_row_tie rfl ⟨rfl, rfl⟩ (by kernel_rfl) rfl plain (by kernel_rfl)
end Go.Proofs.YtcockikekgmfkaaDoor.requestByte
