/-
  The card of EntrySeen is proved: for every input the call returns true, and each argument reads as before. No condition but the row's own list, which the card ties to the program's text.
  The statement EntrySeen: plain law and words.
  Arguments that are structs and slices of structs, opened. (After the guide's page on structs.)
  Arguments that are batches, opened.
  Arguments that are requests, and slices of requests, opened.
  Arguments that are entries, producers, opened.
-/
import Derived.Test.YtckdecodpjfcnaaGreatDoorGrp30
import Derived.Lib.MinMax
import Derived.Deep.Slices
import Derived.Deep.Fields
import Derived.ChangeSame
import Derived.Lib.SmallJoins
import Derived.Test.YtckdecodpjfcnaaGreatDoorGrp23
import Derived.Test.YtckdecodpjfcnaaGreatDoorGrp04
import Derived.Test.YtckdecodpjfcnaaGreatDoorGrp19
set_option linter.unusedVariables false
set_option linter.unusedSimpArgs false
namespace Go.Proofs.YtckdecodpjfcnaaGreatDoor
open Go.RowKit

theorem seenB_drop (nx : Int) : ∀ (k : Nat) (l : List Sn), seenB nx l = true → seenB nx (l.drop k) = true
  | 0, l, h => h
  | k + 1, [], h => h
  | k + 1, s :: l, h => by
    rw [List.drop_succ_cons]
    rw [seenB, Bool.and_eq_true] at h
    exact seenB_drop nx k l h.2
theorem behindS_mono {nx nx' : Int} (h : nx ≤ nx') : ∀ l : List Sn, behindS nx l ≤ behindS nx' l
  | [] => h
  | s :: l => Int.le_refl _
theorem seenB_mono {nx nx' : Int} (hn : nx ≤ nx') : ∀ l : List Sn, seenB nx l = true → seenB nx' l = true
  | [], h => rfl
  | s :: l, h => by
    rw [seenB, Bool.and_eq_true, Bool.and_eq_true, decide_eq_true_eq] at *
    have := behindS_mono hn l
    exact ⟨⟨h.1.1, by omega⟩, seenB_mono hn l h.2⟩
/-- A producer with fewer seen, from the front. -/
def dropPd (p : Pd) (k : Nat) : Pd := { p with seen := p.seen.drop k }
def nextPd (p : Pd) (n : Int) : Pd := { p with nx := n }
theorem known_parts {p : Pd} (h : knownB p = true) : prodB p.pid p.ep = true ∧ (0 ≤ p.nx ∧ p.nx ≤ 1048576) ∧ p.seen.length ≤ 3 ∧ seenB p.nx p.seen = true := by
  unfold knownB seqB at h
  rw [Bool.and_eq_true, Bool.and_eq_true, Bool.and_eq_true, decide_eq_true_eq, decide_eq_true_eq] at h
  exact ⟨h.1, h.2.1, h.2.2.1, h.2.2.2⟩
theorem known_of {p : Pd} (h1 : prodB p.pid p.ep = true) (h2 : 0 ≤ p.nx ∧ p.nx ≤ 1048576) (h3 : p.seen.length ≤ 3) (h4 : seenB p.nx p.seen = true) : knownB p = true := by
  unfold knownB seqB
  rw [h1, h4, decide_eq_true h2, decide_eq_true h3]
  rfl
theorem known_drop {p : Pd} (h : knownB p = true) (k : Nat) : knownB (dropPd p k) = true := by
  obtain ⟨h1, h2, h3, h4⟩ := known_parts h
  refine known_of h1 h2 ?_ (seenB_drop p.nx k p.seen h4)
  show (p.seen.drop k).length ≤ 3
  rw [List.length_drop]; omega
theorem known_next {p : Pd} (h : knownB p = true) (n : Int) (hn : p.nx ≤ n ∧ n ≤ 1048576) : knownB (nextPd p n) = true := by
  obtain ⟨h1, h2, h3, h4⟩ := known_parts h
  exact known_of h1 (by show 0 ≤ n ∧ n ≤ _; omega) h3 (seenB_mono hn.1 p.seen h4)
/-- The entry that holds a producer. -/
def prodEn (p : Pd) : En := { baseEn 6 with prod := p }
theorem may_prod {p : Pd} (h : knownB p = true) : mayEn (prodEn p) = true := by
  unfold mayEn
  have e1 : okEn (prodEn p) = knownB p := rfl
  have e2 : restEn (prodEn p) = baseEn (prodEn p).kd := rfl
  rw [e1, h, e2, (sameEn_iff _ _).2 rfl]
  rfl
set_option maxRecDepth 100000 in
theorem cut3 {w : World} {B n c : Nat} {A : Option Addr} {xs : List Value} (h : Reads w B 3 A n xs) (k : Nat) (hk : k ≤ n) (hc : n ≤ c) :
    ∃ A', (∀ (x : Int) (W : World), x = k → (Instr.slice 28 (.slice A n c) (some (.int .i64 x)) none none).run Tryz.prog W = .ok (.slice A' (n - k) (c - k)) W) ∧ Reads w B 3 A' (n - k) (xs.drop (k * 3)) := by
  refine ⟨if c = k then A else A.map (·.add (k * 3)), fun x W hx => ?_, h.cut hk hc⟩
  subst hx
  have hs : (Go.sizeOf (Tryz.prog.elem 28)).run Tryz.prog W = .ok 3 W := by kernel_rfl
  rw [run_slice_l W 28 A n c Tryz.underlying28 .i64 _ (by omega) (by omega), hs]
  simp only [Result.andThen_ok, sliced, Int.toNat_natCast]
/-- A producer put into a new block. -/
theorem fresh_pd (w1 : World) (p : Pd) (D1 : Option Addr) (e1 : Nat) :
    ∃ W', (storeVar 30 ⟨w1.heap.size, 0, none⟩ (.agg #[.int .i64 p.pid, .int .i64 p.ep, .int .i64 p.nx, .slice D1 p.seen.length e1])).run Tryz.prog (w1.alloc (.cells #[.int .i64 0, .int .i64 0, .int .i64 0, .slice none 0 0] 30)) = .ok () W' ∧ Blk W' w1.heap.size 30 #[.int .i64 p.pid, .int .i64 p.ep, .int .i64 p.nx, .slice D1 p.seen.length e1] ∧ Below w1.heap.size w1 W' ∧ W'.heap.size = w1.heap.size + 1 := by
  have hK : Blk (w1.alloc (.cells #[.int .i64 0, .int .i64 0, .int .i64 0, .slice none 0 0] 30)) w1.heap.size 30 #[.int .i64 0, .int .i64 0, .int .i64 0, .slice none 0 0] := blk_new w1 _ _ rfl
  have hi : (Tryz.prog.info? 30).map (·.size) = some 4 := by kernel_rfl
  refine ⟨_, run_storeVar_mid _ w1.heap.size 0 30 #[.int .i64 p.pid, .int .i64 p.ep, .int .i64 p.nx, .slice D1 p.seen.length e1] (show World.there _ _ 0 4 from blk_there hK) hi (by simp [Value.oneCell']), ?_, below_setCells (Nat.le_refl _) _ _ _ (bal (Below.refl _ _) _), by rw [size_setCells]; simp⟩
  have := blk_setCells (#[.int .i64 p.pid, .int .i64 p.ep, .int .i64 p.nx, .slice D1 p.seen.length e1] : Array Value).toList 0 _ _ hK
  rw [setAll_all #[.int .i64 0, .int .i64 0, .int .i64 0, .slice none 0 0] #[.int .i64 p.pid, .int .i64 p.ep, .int .i64 p.nx, .slice D1 p.seen.length e1] rfl] at this
  exact this
theorem cells_pd {W : World} {b : Nat} {t : TypeId} {cs : List Value} (h : Blk W b t cs.toArray) (hn : cs.length = 4) : (loadCells ⟨b, 0, none⟩ 4).run Tryz.prog W = .ok cs.toArray W := by
  have := run_loadCells_list (P := Tryz.prog) W ⟨b, 0, none⟩ cs (fun j v hv => by rw [Addr.add_mid]; exact blk_range h j v hv)
  rw [hn] at this
  exact this
theorem store_one_int {W : World} {a : Addr} {u : Value} (k : Int) (h : W.cell? a = some u) (hf : W.frozen? a = false) : (storeVar 3 a (.int .i64 k)).run Tryz.prog W = .ok () (W.setCell a (.int .i64 k)) := by
  simp [go_sem, h, hf]
theorem store_one_seen {W : World} {a : Addr} {u : Value} (A : Option Addr) (n c : Nat) (h : W.cell? a = some u) (hf : W.frozen? a = false) : (storeVar 28 a (.slice A n c)).run Tryz.prog W = .ok () (W.setCell a (.slice A n c)) := by
  simp [go_sem, h, hf]
theorem cut07_in (cut : Int) (n : Nat) (h : 0 < n) : ∃ k : Nat, k < n ∧ ∃ q : Int, cut.tmod (n : Int) = q ∧ -(n : Int) < q ∧ q < n ∧ (q + (n : Int)) % (n : Int) = (k : Int) := by
  have h1 := Int.tmod_lt_of_pos cut (show (0 : Int) < (n : Int) by omega)
  have h2 := Int.lt_tmod_of_pos cut (show (0 : Int) < (n : Int) by omega)
  refine ⟨((cut.tmod (n : Int) + (n : Int)) % (n : Int)).toNat, ?_, _, rfl, h2, h1, ?_⟩
  · have := Int.emod_lt_of_pos (cut.tmod (n : Int) + (n : Int)) (show (0 : Int) < (n : Int) by omega)
    omega
  · have := Int.emod_nonneg (cut.tmod (n : Int) + (n : Int)) (show (n : Int) ≠ 0 by omega)
    omega
section
attribute [-go_sem] loadCells storeVar
set_option maxRecDepth 100000 in
set_option maxHeartbeats 4000000 in
theorem enseen_ok (p : Pd) (D1 : Option Addr) (e1 : Nat) (n0 next : Int) (w : World) (hg : HasET w) (hr : Reads w w.heap.size 3 D1 p.seen.length (cellsN p.seen)) (hle : p.seen.length ≤ e1) (hk : knownB p = true) :
    Calls Tryz.prog 7 #[(.agg #[.int .i64 p.pid, .int .i64 p.ep, .int .i64 p.nx, .slice D1 p.seen.length e1]), .int .i64 n0, .int .i64 next] w fun e w' => e = .returned (.bool true) ∧ Below w.heap.size w w' := by
  obtain ⟨_, hnx, hl3, _⟩ := known_parts hk
  obtain ⟨k, hkk, q, hq1, hq2, hq3, hq4⟩ := cut07_in n0 (p.seen.length + 1) (by omega)
  have ec : ((p.seen.length + 1 : Nat) : Int) = (p.seen.length : Int) + 1 := by omega
  rw [ec] at hq1 hq2 hq3 hq4
  have d1 : decide ((40 : Int) < (p.seen.length : Int)) = false := by simp; omega
  have cw1 : IntKind.i64.wrap ((p.seen.length : Int) + 1) = (p.seen.length : Int) + 1 := IntWalk.i64_in _ (by omega)
  have cw2 : IntKind.i64.wrap (q + ((p.seen.length : Int) + 1)) = q + ((p.seen.length : Int) + 1) := IntWalk.i64_in _ (by omega)
  have hb0 : Below w.heap.size w (w.alloc (.cells #[.int .i64 p.pid, .int .i64 p.ep, .int .i64 p.nx, .slice D1 p.seen.length e1] 30)) := bal (Below.refl _ _) _
  have KN := Lib.hid (fun (W : World) (h : Below w.heap.size w W) => show Calls Tryz.prog 17 #[(.agg #[.int .i64 p.pid, .int .i64 p.ep, .int .i64 p.nx, .slice D1 p.seen.length e1])] W (fun e w' => e = .returned (.bool true) ∧ Below W.heap.size W w') from by
    have := Known_any p D1 e1 W ((hr.below h).more h.size)
    rw [hk] at this
    exact this)
  have SP := Lib.hid (fun (W : World) (h : Below w.heap.size w W) => show Calls Tryz.prog 19 #[(.agg #[.int .i64 p.pid, .int .i64 p.ep, .int .i64 p.nx, .slice D1 p.seen.length e1]), (.agg #[.int .i64 p.pid, .int .i64 p.ep, .int .i64 p.nx, .slice D1 p.seen.length e1])] W (fun e w' => e = .returned (.bool true) ∧ Below W.heap.size W w') from by
    have := SamePd_any p p D1 D1 e1 e1 W ((hr.below h).more h.size) ((hr.below h).more h.size) (by omega)
    rw [(samePd_iff p p).2 rfl] at this
    exact this)
  obtain ⟨A', hsl, hrq⟩ := cut3 hr k (by omega) hle
  rw [← cellsN_drop] at hrq
  have hdl : (p.seen.drop k).length = p.seen.length - k := List.length_drop
  have KQ := Lib.hid (fun (W : World) (h : Below w.heap.size w W) => show Calls Tryz.prog 17 #[.agg #[.int .i64 p.pid, .int .i64 p.ep, .int .i64 p.nx, .slice A' (p.seen.length - k) (e1 - k)]] W (fun e w' => e = .returned (.bool true) ∧ Below W.heap.size W w') from by
    have := Known_any (dropPd p k) A' (e1 - k) W (by show Reads W _ 3 A' (p.seen.drop k).length (cellsN (p.seen.drop k)); rw [hdl]; exact (hrq.below h).more h.size)
    rw [known_drop hk k] at this
    show Calls _ _ #[.agg #[.int .i64 p.pid, .int .i64 p.ep, .int .i64 p.nx, .slice A' (p.seen.length - k) (e1 - k)]] _ _
    rw [← hdl]
    exact this)
  have MQ := Lib.hid (fun (W : World) (h : Below w.heap.size w W) => show Calls Tryz.prog 13 #[.agg #[.int .i8 6, .int .i64 0, .int .i64 0, .int .i64 0, .bool false, .slice none 0 0, .bool false, .int .i64 0, .int .i64 0, .int .i64 0, .int .i64 0, .int .i64 0, .string ⟨#[]⟩, .string ⟨#[]⟩, .int .i64 p.pid, .int .i64 p.ep, .int .i64 p.nx, .slice A' (p.seen.length - k) (e1 - k)]] W (fun e w' => e = .returned (.bool true) ∧ Below W.heap.size W w') from by
    have := EnMay_any (prodEn (dropPd p k)) none A' 0 (e1 - k) W ⟨Reads.none_, by show Reads W _ 3 A' (p.seen.drop k).length (cellsN (p.seen.drop k)); rw [hdl]; exact (hrq.below h).more h.size, Nat.zero_le _, by show (p.seen.drop k).length ≤ _; rw [hdl]; omega⟩
    rw [may_prod (known_drop hk k)] at this
    show Calls _ _ #[.agg #[.int .i8 6, .int .i64 0, .int .i64 0, .int .i64 0, .bool false, .slice none 0 0, .bool false, .int .i64 0, .int .i64 0, .int .i64 0, .int .i64 0, .int .i64 0, .string ⟨#[]⟩, .string ⟨#[]⟩, .int .i64 p.pid, .int .i64 p.ep, .int .i64 p.nx, .slice A' (p.seen.length - k) (e1 - k)]] _ _
    rw [← hdl]
    exact this)
  have KR := Lib.hid (fun (W : World) (m : Int) (hm : p.nx ≤ m ∧ m ≤ 1048576) (h : Below w.heap.size w W) => show Calls Tryz.prog 17 #[.agg #[.int .i64 p.pid, .int .i64 p.ep, .int .i64 m, .slice D1 p.seen.length e1]] W (fun e w' => e = .returned (.bool true) ∧ Below W.heap.size W w') from by
    have := Known_any (nextPd p m) D1 e1 W ((hr.below h).more h.size)
    rw [known_next hk m hm] at this
    exact this)
  have WK := Lib.hid (fun W (h : Below w.heap.size w W) => wakes07 W (hg.up h))
  have HSL := Lib.hid (fun W => hsl (k : Int) W rfl)
  have LC := cells_pd (Blk.new w 30 #[.int .i64 p.pid, .int .i64 p.ep, .int .i64 p.nx, .slice D1 p.seen.length e1]) rfl
  have K0 := Lib.hid (Blk.new w 30 #[.int .i64 p.pid, .int .i64 p.ep, .int .i64 p.nx, .slice D1 p.seen.length e1])
  have B0 := Lib.hid hb0
  clear hg hr hrq hsl hb0 hk
  go_enter Tryz.func7, Tryz.ntmps7
  go_wp2_with fail
  refine (KN.out _ B0.out).mono ?_
  rintro e w1 ⟨rfl, b1⟩
  have K1 := Lib.hid (K0.out.below b1 (by simp))
  have B1 := Lib.hid (btrans B0.out b1)
  have hlt1 := K1.out.lt
  have x3 := K1.out.cell 3
  clear b1 LC
  go_upto_region 5 with (fail)
  have L1 := cells_pd K1.out rfl
  obtain ⟨W2, st2, kq2, bb2, hs2⟩ := fresh_pd w1 p D1 e1
  have K2 := Lib.hid (K1.out.below bb2 hlt1)
  have KQ2 := Lib.hid kq2
  have B2 := Lib.hid (btrans B1.out bb2)
  have HS2 := Lib.hid hs2
  clear x3 kq2 bb2 hs2
  go_upto_region 6 with (fail)
  clear st2 L1
  have x3 := K2.out.cell 3
  have hslW := HSL.out W2
  have st3 := store_one_seen A' (p.seen.length - k) (e1 - k) (KQ2.out.cell 3) (KQ2.out.frozen 3)
  have hw1 : w.heap.size < w1.heap.size := hlt1
  have K3 := Lib.hid (K2.out.far (p := ⟨w1.heap.size, 3, none⟩) (show w.heap.size ≠ w1.heap.size by omega) (.slice A' (p.seen.length - k) (e1 - k)))
  have kq3 := KQ2.out.set_ 3 (.slice A' (p.seen.length - k) (e1 - k))
  simp only [List.setIfInBounds_toArray, List.set_cons_zero, List.set_cons_succ] at kq3
  have KQ3 := Lib.hid kq3
  have B3 := Lib.hid (bset B2.out (show w.heap.size ≤ w1.heap.size by omega) (o := 3) (.slice A' (p.seen.length - k) (e1 - k)))
  have HS3 := Lib.hid (show (W2.setCell ⟨w1.heap.size, 3, none⟩ (.slice A' (p.seen.length - k) (e1 - k))).heap.size = w1.heap.size + 1 by simp; exact HS2.out)
  clear kq3
  go_upto_region 7 with (fail)
  clear st3 hslW x3
  generalize W2.setCell ⟨w1.heap.size, 3, none⟩ (.slice A' (p.seen.length - k) (e1 - k)) = W3 at *
  have L3 := cells_pd K3.out rfl
  obtain ⟨W4, st4, kr4, bb4, hs4⟩ := fresh_pd W3 p D1 e1
  have K4 := Lib.hid (K3.out.below bb4 K3.out.lt)
  have KQ4 := Lib.hid (KQ3.out.below bb4 KQ3.out.lt)
  have KR4 := Lib.hid kr4
  have B4 := Lib.hid (btrans B3.out bb4)
  have HS4 := Lib.hid hs4
  have hltq := KQ3.out.lt
  clear kr4 bb4 hs4
  go_upto_region 8 with (fail)
  clear st4 L3
  have x2 := K4.out.cell 2
  have hmr := Lib.hid (show p.nx ≤ max p.nx (min next 1048576) ∧ max p.nx (min next 1048576) ≤ 1048576 by omega)
  have st5 := store_one_int (max p.nx (min next 1048576)) (KR4.out.cell 2) (KR4.out.frozen 2)
  have K5 := Lib.hid (K4.out.far (p := ⟨W3.heap.size, 2, none⟩) (show w.heap.size ≠ W3.heap.size by omega) (.int .i64 (max p.nx (min next 1048576))))
  have KQ5 := Lib.hid (KQ4.out.far (p := ⟨W3.heap.size, 2, none⟩) (show w1.heap.size ≠ W3.heap.size by omega) (.int .i64 (max p.nx (min next 1048576))))
  have kr5 := KR4.out.set_ 2 (.int .i64 (max p.nx (min next 1048576)))
  simp only [List.setIfInBounds_toArray, List.set_cons_zero, List.set_cons_succ] at kr5
  have KR5 := Lib.hid kr5
  have B5 := Lib.hid (bset B4.out (show w.heap.size ≤ W3.heap.size by omega) (o := 2) (.int .i64 (max p.nx (min next 1048576))))
  clear kr5
  go_upto_region 9 with (fail)
  clear st5 x2
  generalize W4.setCell ⟨W3.heap.size, 2, none⟩ (.int .i64 (max p.nx (min next 1048576))) = W5 at *
  generalize max p.nx (min next 1048576) = m at *
  have L5 := cells_pd KQ5.out rfl
  obtain ⟨W6, st6, k6, bb6⟩ := fresh_en W5 #[.int .i8 6, .int .i64 0, .int .i64 0, .int .i64 0, .bool false, .slice none 0 0, .bool false, .int .i64 0, .int .i64 0, .int .i64 0, .int .i64 0, .int .i64 0, .string ⟨#[]⟩, .string ⟨#[]⟩, .int .i64 p.pid, .int .i64 p.ep, .int .i64 p.nx, .slice A' (p.seen.length - k) (e1 - k)] rfl (by simp [Value.oneCell'])
  have K6 := Lib.hid (K5.out.below bb6 K5.out.lt)
  have KQ6 := Lib.hid (KQ5.out.below bb6 KQ5.out.lt)
  have KR6 := Lib.hid (KR5.out.below bb6 KR5.out.lt)
  have KX6 := Lib.hid k6
  have B6 := Lib.hid (btrans B5.out bb6)
  clear k6 bb6
  go_upto_region 10 with (fail)
  clear st6 L5
  have L6 := cells_pd KQ6.out rfl
  go_wp2_with fail
  refine (KQ.out _ B6.out).mono ?_
  rintro e w7 ⟨rfl, b7⟩
  have K7 := Lib.hid (K6.out.below b7 K6.out.lt)
  have KR7 := Lib.hid (KR6.out.below b7 KR6.out.lt)
  have KX7 := Lib.hid (KX6.out.below b7 KX6.out.lt)
  have B7 := Lib.hid (btrans B6.out b7)
  clear b7 L6
  have L7 := cells_pd KR7.out rfl
  go_wp2_with fail
  refine (KR.out _ m hmr.out B7.out).mono ?_
  rintro e w8 ⟨rfl, b8⟩
  have K8 := Lib.hid (K7.out.below b8 K7.out.lt)
  have KX8 := Lib.hid (KX7.out.below b8 KX7.out.lt)
  have B8 := Lib.hid (btrans B7.out b8)
  clear b8 L7
  have L8 := cells_blk KX8.out rfl
  go_wp2_with fail
  refine (MQ.out _ B8.out).mono ?_
  rintro e w9 ⟨rfl, b9⟩
  have K9 := Lib.hid (K8.out.below b9 K8.out.lt)
  have B9 := Lib.hid (btrans B8.out b9)
  clear b9 L8
  have L9 := cells_pd K9.out rfl
  go_wp2_with fail
  refine (SP.out _ B9.out).mono ?_
  rintro e wa ⟨rfl, ba⟩
  have BA := Lib.hid (btrans B9.out ba)
  clear ba L9
  go_wp2_with fail
  refine (WK.out _ BA.out).mono ?_
  rintro e wb ⟨rfl, bb⟩
  go_wp2_with fail
  go_ret
  exact ⟨rfl, btrans BA.out bb⟩
set_option maxRecDepth 100000 in
set_option maxHeartbeats 2000000 in
theorem enseen_big (p : Pd) (D1 : Option Addr) (e1 : Nat) (n0 next : Int) (w : World) (hg : HasET w) (h : 40 < p.seen.length) :
    Calls Tryz.prog 7 #[(.agg #[.int .i64 p.pid, .int .i64 p.ep, .int .i64 p.nx, .slice D1 p.seen.length e1]), .int .i64 n0, .int .i64 next] w fun e w' => e = .returned (.bool true) ∧ Below w.heap.size w w' := by
  have d1 : decide ((40 : Int) < (p.seen.length : Int)) = true := by simp; omega
  have B0 := Lib.hid (bal (Below.refl w.heap.size w) (.cells #[.int .i64 p.pid, .int .i64 p.ep, .int .i64 p.nx, .slice D1 p.seen.length e1] 30))
  have WK := Lib.hid (fun W (h : Below w.heap.size w W) => wakes07 W (hg.up h))
  clear hg h
  go_enter Tryz.func7, Tryz.ntmps7
  go_wp2_with fail
  refine (WK.out _ B0.out).mono ?_
  rintro e w1 ⟨rfl, b1⟩
  go_wp2_with fail
  go_ret
  exact ⟨rfl, btrans B0.out b1⟩
set_option maxRecDepth 100000 in
set_option maxHeartbeats 2000000 in
theorem enseen_no (p : Pd) (D1 : Option Addr) (e1 : Nat) (n0 next : Int) (w : World) (hg : HasET w) (hr : Reads w w.heap.size 3 D1 p.seen.length (cellsN p.seen)) (h : p.seen.length ≤ 40) (hk : knownB p = false) :
    Calls Tryz.prog 7 #[(.agg #[.int .i64 p.pid, .int .i64 p.ep, .int .i64 p.nx, .slice D1 p.seen.length e1]), .int .i64 n0, .int .i64 next] w fun e w' => e = .returned (.bool true) ∧ Below w.heap.size w w' := by
  have d1 : decide ((40 : Int) < (p.seen.length : Int)) = false := by simp; omega
  have hb0 : Below w.heap.size w (w.alloc (.cells #[.int .i64 p.pid, .int .i64 p.ep, .int .i64 p.nx, .slice D1 p.seen.length e1] 30)) := bal (Below.refl _ _) _
  have KN := Lib.hid (fun (W : World) (h : Below w.heap.size w W) => show Calls Tryz.prog 17 #[(.agg #[.int .i64 p.pid, .int .i64 p.ep, .int .i64 p.nx, .slice D1 p.seen.length e1])] W (fun e w' => e = .returned (.bool false) ∧ Below W.heap.size W w') from by
    have := Known_any p D1 e1 W ((hr.below h).more h.size)
    rw [hk] at this
    exact this)
  have LC := cells_pd (Blk.new w 30 #[.int .i64 p.pid, .int .i64 p.ep, .int .i64 p.nx, .slice D1 p.seen.length e1]) rfl
  have B0 := Lib.hid hb0
  have WK := Lib.hid (fun W (h : Below w.heap.size w W) => wakes07 W (hg.up h))
  clear hg h hr hk hb0
  go_enter Tryz.func7, Tryz.ntmps7
  go_wp2_with fail
  refine (KN.out _ B0.out).mono ?_
  rintro e w1 ⟨rfl, b1⟩
  have B1 := Lib.hid (btrans B0.out b1)
  clear b1
  go_wp2_with fail
  refine (WK.out _ B1.out).mono ?_
  rintro e w2 ⟨rfl, b2⟩
  go_wp2_with fail
  go_ret
  exact ⟨rfl, btrans B1.out b2⟩
end
theorem enseen_walk (p : Pd) (D1 : Option Addr) (e1 : Nat) (n0 next : Int) (w : World) (hg : HasET w) (hr : Reads w w.heap.size 3 D1 p.seen.length (cellsN p.seen)) (hle : p.seen.length ≤ e1) :
    Calls Tryz.prog 7 #[(.agg #[.int .i64 p.pid, .int .i64 p.ep, .int .i64 p.nx, .slice D1 p.seen.length e1]), .int .i64 n0, .int .i64 next] w fun e w' => e = .returned (.bool true) ∧ Below w.heap.size w w' := by
  by_cases h : 40 < p.seen.length
  · exact enseen_big p D1 e1 n0 next w hg h
  · cases hk : knownB p
    · exact enseen_no p D1 e1 n0 next w hg hr (by omega) hk
    · exact enseen_ok p D1 e1 n0 next w hg hr hle hk
end Go.Proofs.YtckdecodpjfcnaaGreatDoor
namespace Go.Proofs.YtckdecodpjfcnaaGreatDoor
open Go.Joins Go.ChangeShapes Go.WideShapes Go.RowKit Go.Deep

section
variable {H : Type} {enc : TypeId × Value → H} {P : Program} {w : World} {base : Nat} {spare : Nat → Bool} {held : Bool}
theorem open_agg5 {r : Reach} {b0 : Nat} {t : TypeId} {f0 f1 f2 f3 f4 : Field} {v : Value} {d : DataW H} {p : List MemPlace} (hs : P.underlying t = some (.struct #[f0, f1, f2, f3, f4])) (hone : oneCellFields P #[f0, f1, f2, f3, f4] = true) (hC : P.cellsOf t = 5)
    (hv : Value.okWide P w r b0 t v) (h : DataW.Trod enc P w base spare held t v d p) :
    ∃ (v0 v1 v2 v3 v4 : Value) (y0 y1 y2 y3 y4 : DataW H × List MemPlace) (n : Nat), v = .agg #[v0, v1, v2, v3, v4] ∧ d = .agg [y0.1, y1.1, y2.1, y3.1, y4.1] ∧ p = y0.2 ++ (y1.2 ++ (y2.2 ++ (y3.2 ++ (y4.2)))) ∧
      DataW.trod enc P w base spare held n f0.type [v0] = some y0 ∧ DataW.trod enc P w base spare held n f1.type [v1] = some y1 ∧ DataW.trod enc P w base spare held n f2.type [v2] = some y2 ∧ DataW.trod enc P w base spare held n f3.type [v3] = some y3 ∧ DataW.trod enc P w base spare held n f4.type [v4] = some y4 := by
  obtain ⟨cs, rfl, hsz⟩ := okWide_struct hs hv
  obtain ⟨l⟩ := cs
  match l, hsz.trans hC with
  | [c0, c1, c2, c3, c4], _ =>
    obtain ⟨fuel, hf⟩ := h
    obtain ⟨xs, n, _, hx, _, hlen, hg⟩ := DataW.trod_struct hs hf
    obtain ⟨o0, k0⟩ := hone_of hone 0 f0 rfl
    obtain ⟨o1, k1⟩ := hone_of hone 1 f1 rfl
    obtain ⟨o2, k2⟩ := hone_of hone 2 f2 rfl
    obtain ⟨o3, k3⟩ := hone_of hone 3 f3 rfl
    obtain ⟨o4, k4⟩ := hone_of hone 4 f4 rfl
    match xs, hlen with
    | [y0, y1, y2, y3, y4], _ =>
      simp only [Prod.mk.injEq] at hx
      exact ⟨c0, c1, c2, c3, c4, y0, y1, y2, y3, y4, n, rfl, by simpa using hx.1, by simpa using hx.2, by simpa [Value.cells, o0, k0] using hg 0 f0 rfl, by simpa [Value.cells, o1, k1] using hg 1 f1 rfl, by simpa [Value.cells, o2, k2] using hg 2 f2 rfl, by simpa [Value.cells, o3, k3] using hg 3 f3 rfl, by simpa [Value.cells, o4, k4] using hg 4 f4 rfl⟩

theorem open_agg3 {r : Reach} {b0 : Nat} {t : TypeId} {f0 f1 f2 : Field} {v : Value} {d : DataW H} {p : List MemPlace} (hs : P.underlying t = some (.struct #[f0, f1, f2])) (hone : oneCellFields P #[f0, f1, f2] = true) (hC : P.cellsOf t = 3)
    (hv : Value.okWide P w r b0 t v) (h : DataW.Trod enc P w base spare held t v d p) :
    ∃ (v0 v1 v2 : Value) (y0 y1 y2 : DataW H × List MemPlace) (n : Nat), v = .agg #[v0, v1, v2] ∧ d = .agg [y0.1, y1.1, y2.1] ∧ p = y0.2 ++ (y1.2 ++ (y2.2)) ∧
      DataW.trod enc P w base spare held n f0.type [v0] = some y0 ∧ DataW.trod enc P w base spare held n f1.type [v1] = some y1 ∧ DataW.trod enc P w base spare held n f2.type [v2] = some y2 := by
  obtain ⟨cs, rfl, hsz⟩ := okWide_struct hs hv
  obtain ⟨l⟩ := cs
  match l, hsz.trans hC with
  | [c0, c1, c2], _ =>
    obtain ⟨fuel, hf⟩ := h
    obtain ⟨xs, n, _, hx, _, hlen, hg⟩ := DataW.trod_struct hs hf
    obtain ⟨o0, k0⟩ := hone_of hone 0 f0 rfl
    obtain ⟨o1, k1⟩ := hone_of hone 1 f1 rfl
    obtain ⟨o2, k2⟩ := hone_of hone 2 f2 rfl
    match xs, hlen with
    | [y0, y1, y2], _ =>
      simp only [Prod.mk.injEq] at hx
      exact ⟨c0, c1, c2, y0, y1, y2, n, rfl, by simpa using hx.1, by simpa using hx.2, by simpa [Value.cells, o0, k0] using hg 0 f0 rfl, by simpa [Value.cells, o1, k1] using hg 1 f1 rfl, by simpa [Value.cells, o2, k2] using hg 2 f2 rfl⟩

theorem open_slice_fields {t e : TypeId} {fs : Array Field} {fuel : Nat} {cs : List Value} {x : DataW H × List MemPlace} (ht : P.underlying t = some (.slice e)) (he : P.underlying e = some (.struct fs))
    (hone : oneCellFields P fs = true) (hC : P.cellsOf e = fs.size) (h : DataW.trod enc P w base spare held fuel t cs = some x) :
    (cs = [.slice none 0 0] ∧ x = (.nil, [])) ∨
    ∃ (a : Addr) (len cap m : Nat) (D : Nat → DataW H) (Pl : Nat → List MemPlace), cs = [.slice (some a) len cap] ∧ base ≤ a.block ∧ len ≤ cap ∧ cap ≤ maxLen ∧ m = (if spare a.block then cap else len) ∧
      x = (.slice ((List.range len).map D) ((List.range (m - len)).map fun j => D (len + j)), MemPlace.row a (m * fs.size) ++ (List.range m).flatMap Pl) ∧
      ∀ i, i < m → ∃ (ys : List (DataW H × List MemPlace)) (n : Nat), D i = .agg (ys.map (·.1)) ∧ Pl i = ys.flatMap (·.2) ∧ ys.length = fs.size ∧
        ∀ (j : Nat) (f : Field), fs[j]? = some f → ∃ (v : Value) (y : DataW H × List MemPlace), w.cell? (a.add (i * fs.size + j)) = some v ∧ ys[j]? = some y ∧ DataW.trod enc P w base spare held n f.type [v] = some y := by
  rcases open_slice ht h with h0 | ⟨a, len, cap, m, n, D, Pl, hcs, hb, hl, hm, hmm, hx, hi⟩
  · exact .inl h0
  · refine .inr ⟨a, len, cap, m, D, Pl, hcs, hb, hl, hm, hmm, by rw [hC] at hx; exact hx, fun i him => ?_⟩
    obtain ⟨cs', hc, ht'⟩ := hi i him
    rw [hC] at hc
    obtain ⟨ys, n', hn', hy, hlen, hyl, hf⟩ := DataW.trod_struct he ht'
    obtain ⟨_, hcl, hat⟩ := World.cells?_some hc
    simp only [Prod.mk.injEq] at hy
    refine ⟨ys, n', hy.1, hy.2, hyl, fun j f hj => ?_⟩
    obtain ⟨ho, hk⟩ := hone_of hone j f hj
    have hjl : j < fs.size := (Array.getElem?_eq_some_iff.1 hj).1
    have hcell := hat j hjl
    have hv : cs'[j]? = some (cs'[j]'(by omega)) := List.getElem?_eq_getElem (by omega)
    have h1 := hf j f hj
    rw [ho, hk] at h1
    have hone' : (cs'.drop j).take 1 = [cs'[j]'(by omega)] := by
      rw [List.drop_eq_getElem_cons (by omega)]
      rfl
    rw [hone'] at h1
    have hys : ys[j]? = some (ys[j]'(by omega)) := List.getElem?_eq_getElem (by omega)
    refine ⟨_, _, ?_, hys, h1.trans hys⟩
    rw [← Go.Deep.add_add, hcell, hv]
end

section
variable {H : Type} {enc : TypeId × Value → H} {W : World}
theorem cell_block {a : Addr} {k : Nat} {v : Value} (h : W.cell? (a.add k) = some v) : a.block < W.heap.size := by
  have := block_lt_of_cell h
  rwa [block_of_add] at this
end
end Go.Proofs.YtckdecodpjfcnaaGreatDoor
namespace Go.Proofs.YtckdecodpjfcnaaGreatDoor
open Go.Joins Go.ChangeShapes Go.WideShapes Go.RowKit Go.Deep

theorem cellsR_get : ∀ (l : List Rec) (j : Nat) (u : Value), (cellsR l)[j]? = some u → ∃ i k p, j = i * 2 + k ∧ k < 2 ∧ l[i]? = some p ∧ u = (if k = 0 then .string p.1 else .string p.2) := by
  intro l j u hu
  have hj : j < l.length * 2 := by
    have := (List.getElem?_eq_some_iff.1 hu).1
    rwa [length_cellsR] at this
  have hi : j / 2 < l.length := by omega
  obtain ⟨p, hp⟩ : ∃ p, l[j / 2]? = some p := ⟨_, List.getElem?_eq_getElem hi⟩
  obtain ⟨h0, h1⟩ := cellsR_at l (j / 2) p hp
  refine ⟨j / 2, j % 2, p, by omega, by omega, hp, ?_⟩
  have hk : j % 2 = 0 ∨ j % 2 = 1 := by omega
  rcases hk with hk | hk
  · rw [show j = j / 2 * 2 by omega, h0] at hu
    rw [if_pos hk]
    exact (Option.some.inj hu).symm
  · rw [show j = j / 2 * 2 + 1 by omega, h1] at hu
    rw [if_neg (by omega)]
    exact (Option.some.inj hu).symm

section
variable {H : Type} {enc : TypeId × Value → H} {W : World}
theorem field_recs {fuel : Nat} {v : Value} {x : DataW H × List MemPlace} (h : DataW.trod enc Tryz.prog W 0 (fun _ => true) true fuel 23 [v] = some x) :
    ∃ (A : Option Addr) (c : Nat) (l : List Rec), v = .slice A l.length c ∧ l.length ≤ c ∧ c ≤ maxLen ∧ Reads W W.heap.size 2 A l.length (cellsR l) ∧ ∀ r ∈ l, r.1.size ≤ maxLen ∧ r.2.size ≤ maxLen := by
  rcases open_slice_fields Tryz.underlying23 Tryz.underlying60 (by kernel_rfl) (by kernel_rfl) h with ⟨hcs, _⟩ | ⟨a, len, cap, m, D, Pl, hcs, _, hl, hm, hmm, hx, hi⟩
  · simp at hcs
    subst hcs
    exact ⟨none, 0, [], rfl, Nat.le_refl _, Nat.zero_le _, Reads.none_, by simp⟩
  · simp at hcs
    subst hcs
    simp only [if_true] at hmm
    subst hmm
    have hp : ∀ i, ∃ p : Rec, (p.1.size ≤ maxLen ∧ p.2.size ≤ maxLen) ∧ (i < len → W.cell? (a.add (i * 2 + 0)) = some (.string p.1) ∧ W.cell? (a.add (i * 2 + 1)) = some (.string p.2)) := by
      intro i
      by_cases hlt : i < len
      · obtain ⟨ys, n, _, _, _, hf⟩ := hi i (by omega)
        obtain ⟨v0, y0, hc0, _, t0⟩ := hf 0 _ rfl
        obtain ⟨v1, y1, hc1, _, t1⟩ := hf 1 _ rfl
        obtain ⟨z0, e0, _, m0⟩ := DataW.trod_string Tryz.underlying9 t0
        obtain ⟨z1, e1, _, m1⟩ := DataW.trod_string Tryz.underlying9 t1
        simp at e0 e1
        subst e0; subst e1
        exact ⟨(z0, z1), ⟨m0, m1⟩, fun _ => ⟨hc0, hc1⟩⟩
      · exact ⟨(ByteArray.empty, ByteArray.empty), ⟨Nat.zero_le _, Nat.zero_le _⟩, fun h => absurd h hlt⟩
    refine ⟨some a, m, (List.range len).map fun i => Classical.choose (hp i), by simp, by simpa using hl, hm, ⟨by rw [length_cellsR], fun hn => ⟨a, rfl, ?_, fun j u hu => ?_⟩⟩, fun r hr => ?_⟩
    · simp at hn
      exact cell_block ((Classical.choose_spec (hp 0)).2 hn).1
    · obtain ⟨i, k, p, rfl, hk, hpi, rfl⟩ := cellsR_get _ j u hu
      rw [List.getElem?_map, Option.map_eq_some_iff] at hpi
      obtain ⟨i', hi', rfl⟩ := hpi
      have hlt : i < len := by
        have := (List.getElem?_eq_some_iff.1 hi').1
        simpa using this
      rw [List.getElem?_range hlt] at hi'
      obtain rfl : i = i' := by simpa using hi'
      obtain ⟨q0, q1⟩ := (Classical.choose_spec (hp i)).2 hlt
      have hk3 : k = 0 ∨ k = 1 := by omega
      rcases hk3 with rfl | rfl
      · exact q0
      · exact q1
    · obtain ⟨i, _, rfl⟩ := List.mem_map.1 hr
      exact (Classical.choose_spec (hp i)).1

set_option maxRecDepth 100000 in
theorem open_bt {r : Reach} {base : Nat} {v : Value} {d : DataW H} {p : List MemPlace} (hv : Value.okWide Tryz.prog W r base 25 v) (h : DataW.Trod enc Tryz.prog W 0 (fun _ => true) true 25 v d p) :
    ∃ (b : Bat) (A1 : Option Addr) (c1 : Nat), v = (.agg #[.int .i64 b.pid, .int .i64 b.ep, .int .i64 b.seq, .bool b.txn, .slice A1 b.rs.length c1]) ∧ BtRaw W b A1 ∧ b.rs.length ≤ c1 ∧ (-9223372036854775808 ≤ b.pid ∧ b.pid ≤ 9223372036854775807) ∧ (-9223372036854775808 ≤ b.ep ∧ b.ep ≤ 9223372036854775807) ∧ (-9223372036854775808 ≤ b.seq ∧ b.seq ≤ 9223372036854775807) := by
  obtain ⟨v0, v1, v2, v3, v4, y0, y1, y2, y3, y4, n, rfl, _, _, t0, t1, t2, t3, t4⟩ := open_agg5 Tryz.underlying25 (by kernel_rfl) (by kernel_rfl) hv h
  obtain ⟨z0, e0, _, w0⟩ := DataW.trod_int Tryz.underlying3 t0
  obtain ⟨z1, e1, _, w1⟩ := DataW.trod_int Tryz.underlying3 t1
  obtain ⟨z2, e2, _, w2⟩ := DataW.trod_int Tryz.underlying3 t2
  obtain ⟨z3, e3, _⟩ := DataW.trod_bool Tryz.underlying4 t3
  obtain ⟨A1, c1, l1, rfl, k1, hm1, r1, s1⟩ := field_recs t4
  simp at e0 e1 e2 e3
  subst e0; subst e1; subst e2; subst e3
  simp only [Lit.wf, Bool.and_eq_true, decide_eq_true_eq] at w0 w1 w2
  unfold maxLen at hm1 s1
  exact ⟨⟨z0, z1, z2, z3, l1⟩, A1, c1, rfl, ⟨r1, by show l1.length ≤ _; omega, s1⟩, k1, w0, w1, w2⟩
end
end Go.Proofs.YtckdecodpjfcnaaGreatDoor
namespace Go.Proofs.YtckdecodpjfcnaaGreatDoor
open Go.Joins Go.ChangeShapes Go.WideShapes Go.RowKit Go.Deep

def i64In (x : Int) : Prop := -9223372036854775808 ≤ x ∧ x ≤ 9223372036854775807
/-- What is known of a request that was handed in. -/
def RqRaw (w : World) (q : Rq) (A : Option Addr) : Prop :=
  BtRaw w q.b A ∧ (-128 ≤ q.kd ∧ q.kd ≤ 127) ∧ ∀ v ∈ [q.tid, q.tm, q.pid, q.ep, q.part, q.grp, q.off, q.most, q.b.pid, q.b.ep, q.b.seq], i64In v

section
variable {H : Type} {enc : TypeId × Value → H} {W : World}
set_option maxRecDepth 100000 in
theorem trod_bt {fuel : Nat} {cs : List Value} {x : DataW H × List MemPlace} (h : DataW.trod enc Tryz.prog W 0 (fun _ => true) true fuel 25 cs = some x) :
    ∃ (b : Bat) (A1 : Option Addr) (c1 : Nat), cs = [.int .i64 b.pid, .int .i64 b.ep, .int .i64 b.seq, .bool b.txn, .slice A1 b.rs.length c1] ∧ BtRaw W b A1 ∧ i64In b.pid ∧ i64In b.ep ∧ i64In b.seq := by
  obtain ⟨xs, n, _, _, hl, hlen, hg⟩ := DataW.trod_struct Tryz.underlying25 h
  have hC : Tryz.prog.cellsOf 25 = 5 := by kernel_rfl
  have ki : Tryz.prog.cellsOf 3 = 1 := by kernel_rfl
  have kb : Tryz.prog.cellsOf 4 = 1 := by kernel_rfl
  have kr : Tryz.prog.cellsOf 23 = 1 := by kernel_rfl
  rw [hC] at hl
  match cs, hl with
  | [c0, c1, c2, c3, c4], _ =>
    match xs, hlen with
    | [y0, y1, y2, y3, y4], _ =>
      have t0 := hg 0 _ rfl
      have t1 := hg 1 _ rfl
      have t2 := hg 2 _ rfl
      have t3 := hg 3 _ rfl
      have t4 := hg 4 _ rfl
      simp [ki] at t0 t1 t2
      simp [kb] at t3
      simp [kr] at t4
      obtain ⟨z0, e0, _, w0⟩ := DataW.trod_int Tryz.underlying3 t0
      obtain ⟨z1, e1, _, w1⟩ := DataW.trod_int Tryz.underlying3 t1
      obtain ⟨z2, e2, _, w2⟩ := DataW.trod_int Tryz.underlying3 t2
      obtain ⟨z3, e3, _⟩ := DataW.trod_bool Tryz.underlying4 t3
      obtain ⟨A1, cc, l1, rfl, k1, hm1, r1, s1⟩ := field_recs t4
      simp at e0 e1 e2 e3
      subst e0; subst e1; subst e2; subst e3
      simp only [Lit.wf, Bool.and_eq_true, decide_eq_true_eq] at w0 w1 w2
      unfold maxLen at hm1 s1
      exact ⟨⟨z0, z1, z2, z3, l1⟩, A1, cc, rfl, ⟨r1, by show l1.length ≤ _; omega, s1⟩, w0, w1, w2⟩
end
end Go.Proofs.YtckdecodpjfcnaaGreatDoor
namespace Go.Proofs.YtckdecodpjfcnaaGreatDoor
open Go.Joins Go.ChangeShapes Go.WideShapes Go.RowKit Go.Deep

theorem cellsN_get : ∀ (l : List Sn) (j : Nat) (u : Value), (cellsN l)[j]? = some u → ∃ i k p, j = i * 3 + k ∧ k < 3 ∧ l[i]? = some p ∧ u = (if k = 0 then .int .i64 p.1 else if k = 1 then .int .i64 p.2.1 else .int .i64 p.2.2) := by
  intro l j u hu
  have hj : j < l.length * 3 := by
    have := (List.getElem?_eq_some_iff.1 hu).1
    rwa [length_cellsN] at this
  have hi : j / 3 < l.length := by omega
  obtain ⟨p, hp⟩ : ∃ p, l[j / 3]? = some p := ⟨_, List.getElem?_eq_getElem hi⟩
  obtain ⟨h0, h1, h2⟩ := cellsN_at l (j / 3) p hp
  refine ⟨j / 3, j % 3, p, by omega, by omega, hp, ?_⟩
  have hk : j % 3 = 0 ∨ j % 3 = 1 ∨ j % 3 = 2 := by omega
  rcases hk with hk | hk | hk
  · rw [show j = j / 3 * 3 by omega, h0] at hu
    rw [if_pos hk]
    exact (Option.some.inj hu).symm
  · rw [show j = j / 3 * 3 + 1 by omega, h1] at hu
    rw [if_neg (by omega), if_pos hk]
    exact (Option.some.inj hu).symm
  · rw [show j = j / 3 * 3 + 2 by omega, h2] at hu
    rw [if_neg (by omega), if_neg (by omega)]
    exact (Option.some.inj hu).symm

section
variable {H : Type} {enc : TypeId × Value → H} {W : World}
theorem field_seen {fuel : Nat} {v : Value} {x : DataW H × List MemPlace} (h : DataW.trod enc Tryz.prog W 0 (fun _ => true) true fuel 28 [v] = some x) :
    ∃ (A : Option Addr) (c : Nat) (l : List Sn), v = .slice A l.length c ∧ l.length ≤ c ∧ Reads W W.heap.size 3 A l.length (cellsN l) := by
  rcases open_slice_fields Tryz.underlying28 Tryz.underlying73 (by kernel_rfl) (by kernel_rfl) h with ⟨hcs, _⟩ | ⟨a, len, cap, m, D, Pl, hcs, _, hl, hm, hmm, hx, hi⟩
  · simp at hcs
    subst hcs
    exact ⟨none, 0, [], rfl, Nat.le_refl _, Reads.none_⟩
  · simp at hcs
    subst hcs
    simp only [if_true] at hmm
    subst hmm
    have hp : ∀ i, ∃ p : Sn, (i < len → W.cell? (a.add (i * 3 + 0)) = some (.int .i64 p.1) ∧ W.cell? (a.add (i * 3 + 1)) = some (.int .i64 p.2.1) ∧ W.cell? (a.add (i * 3 + 2)) = some (.int .i64 p.2.2)) := by
      intro i
      by_cases hlt : i < len
      · obtain ⟨ys, n, _, _, _, hf⟩ := hi i (by omega)
        obtain ⟨v0, y0, hc0, _, t0⟩ := hf 0 _ rfl
        obtain ⟨v1, y1, hc1, _, t1⟩ := hf 1 _ rfl
        obtain ⟨v2, y2, hc2, _, t2⟩ := hf 2 _ rfl
        obtain ⟨z0, e0, _, _⟩ := DataW.trod_int Tryz.underlying3 t0
        obtain ⟨z1, e1, _, _⟩ := DataW.trod_int Tryz.underlying3 t1
        obtain ⟨z2, e2, _, _⟩ := DataW.trod_int Tryz.underlying3 t2
        simp at e0 e1 e2
        subst e0; subst e1; subst e2
        exact ⟨(z0, z1, z2), fun _ => ⟨hc0, hc1, hc2⟩⟩
      · exact ⟨(0, 0, 0), fun h => absurd h hlt⟩
    refine ⟨some a, m, (List.range len).map fun i => Classical.choose (hp i), by simp, by simpa using hl, ⟨by rw [length_cellsN], fun hn => ⟨a, rfl, ?_, fun j u hu => ?_⟩⟩⟩
    · simp at hn
      exact cell_block ((Classical.choose_spec (hp 0)) hn).1
    · obtain ⟨i, k, p, rfl, hk, hpi, rfl⟩ := cellsN_get _ j u hu
      rw [List.getElem?_map, Option.map_eq_some_iff] at hpi
      obtain ⟨i', hi', rfl⟩ := hpi
      have hlt : i < len := by
        have := (List.getElem?_eq_some_iff.1 hi').1
        simpa using this
      rw [List.getElem?_range hlt] at hi'
      obtain rfl : i = i' := by simpa using hi'
      obtain ⟨q0, q1, q2⟩ := (Classical.choose_spec (hp i)) hlt
      have hk3 : k = 0 ∨ k = 1 ∨ k = 2 := by omega
      rcases hk3 with rfl | rfl | rfl
      · exact q0
      · exact q1
      · exact q2
set_option maxRecDepth 100000 in
theorem trod_row {fuel : Nat} {cs : List Value} {x : DataW H × List MemPlace} (h : DataW.trod enc Tryz.prog W 0 (fun _ => true) true fuel 27 cs = some x) :
    ∃ r : Rw, cs = [.int .i64 r.1, .int .i64 r.2.1, .int .i64 r.2.2.1, .string r.2.2.2.1, .string r.2.2.2.2] := by
  obtain ⟨xs, n, _, _, hl, hlen, hg⟩ := DataW.trod_struct Tryz.underlying27 h
  have hC : Tryz.prog.cellsOf 27 = 5 := by kernel_rfl
  have ki : Tryz.prog.cellsOf 3 = 1 := by kernel_rfl
  have ks : Tryz.prog.cellsOf 9 = 1 := by kernel_rfl
  rw [hC] at hl
  match cs, hl with
  | [c0, c1, c2, c3, c4], _ =>
    match xs, hlen with
    | [y0, y1, y2, y3, y4], _ =>
      have t0 := hg 0 _ rfl
      have t1 := hg 1 _ rfl
      have t2 := hg 2 _ rfl
      have t3 := hg 3 _ rfl
      have t4 := hg 4 _ rfl
      simp [ki] at t0 t1 t2
      simp [ks] at t3 t4
      obtain ⟨z0, e0, _, _⟩ := DataW.trod_int Tryz.underlying3 t0
      obtain ⟨z1, e1, _, _⟩ := DataW.trod_int Tryz.underlying3 t1
      obtain ⟨z2, e2, _, _⟩ := DataW.trod_int Tryz.underlying3 t2
      obtain ⟨z3, e3, _, _⟩ := DataW.trod_string Tryz.underlying9 t3
      obtain ⟨z4, e4, _, _⟩ := DataW.trod_string Tryz.underlying9 t4
      simp at e0 e1 e2 e3 e4
      subst e0; subst e1; subst e2; subst e3; subst e4
      exact ⟨(z0, z1, z2, z3, z4), rfl⟩
set_option maxRecDepth 100000 in
theorem trod_pd {fuel : Nat} {cs : List Value} {x : DataW H × List MemPlace} (h : DataW.trod enc Tryz.prog W 0 (fun _ => true) true fuel 30 cs = some x) :
    ∃ (p : Pd) (D1 : Option Addr) (e1 : Nat), cs = #[.int .i64 p.pid, .int .i64 p.ep, .int .i64 p.nx, .slice D1 p.seen.length e1].toList ∧ Reads W W.heap.size 3 D1 p.seen.length (cellsN p.seen) ∧ p.seen.length ≤ e1 := by
  obtain ⟨xs, n, _, _, hl, hlen, hg⟩ := DataW.trod_struct Tryz.underlying30 h
  have hC : Tryz.prog.cellsOf 30 = 4 := by kernel_rfl
  have ki : Tryz.prog.cellsOf 3 = 1 := by kernel_rfl
  have ks : Tryz.prog.cellsOf 28 = 1 := by kernel_rfl
  rw [hC] at hl
  match cs, hl with
  | [c0, c1, c2, c3], _ =>
    match xs, hlen with
    | [y0, y1, y2, y3], _ =>
      have t0 := hg 0 _ rfl
      have t1 := hg 1 _ rfl
      have t2 := hg 2 _ rfl
      have t3 := hg 3 _ rfl
      simp [ki] at t0 t1 t2
      simp [ks] at t3
      obtain ⟨z0, e0, _, _⟩ := DataW.trod_int Tryz.underlying3 t0
      obtain ⟨z1, e1, _, _⟩ := DataW.trod_int Tryz.underlying3 t1
      obtain ⟨z2, e2, _, _⟩ := DataW.trod_int Tryz.underlying3 t2
      obtain ⟨D1, cc, l, rfl, hle, hr⟩ := field_seen t3
      simp at e0 e1 e2
      subst e0; subst e1; subst e2
      exact ⟨⟨z0, z1, z2, l⟩, D1, cc, rfl, hr, hle⟩
set_option maxRecDepth 100000 in
theorem trod_en {fuel : Nat} {cs : List Value} {x : DataW H × List MemPlace} (h : DataW.trod enc Tryz.prog W 0 (fun _ => true) true fuel 32 cs = some x) :
    ∃ (q : En) (A1 D1 : Option Addr) (c1 e1 : Nat), cs = #[.int .i8 q.kd, .int .i64 q.b.pid, .int .i64 q.b.ep, .int .i64 q.b.seq, .bool q.b.txn, .slice A1 q.b.rs.length c1, .bool q.yes, .int .i64 q.nx, .int .i64 q.off, .int .i64 q.row.1, .int .i64 q.row.2.1, .int .i64 q.row.2.2.1, .string q.row.2.2.2.1, .string q.row.2.2.2.2, .int .i64 q.prod.pid, .int .i64 q.prod.ep, .int .i64 q.prod.nx, .slice D1 q.prod.seen.length e1].toList ∧ Reads W W.heap.size 2 A1 q.b.rs.length (cellsR q.b.rs) ∧ Reads W W.heap.size 3 D1 q.prod.seen.length (cellsN q.prod.seen) := by
  obtain ⟨xs, n, _, _, hl, hlen, hg⟩ := DataW.trod_struct Tryz.underlying32 h
  have hC : Tryz.prog.cellsOf 32 = 18 := by kernel_rfl
  have k8 : Tryz.prog.cellsOf 22 = 1 := by kernel_rfl
  have ki : Tryz.prog.cellsOf 3 = 1 := by kernel_rfl
  have kb : Tryz.prog.cellsOf 4 = 1 := by kernel_rfl
  have kB : Tryz.prog.cellsOf 25 = 5 := by kernel_rfl
  have kR : Tryz.prog.cellsOf 27 = 5 := by kernel_rfl
  have kP : Tryz.prog.cellsOf 30 = 4 := by kernel_rfl
  rw [hC] at hl
  match cs, hl with
  | [c0, c1, c2, c3, c4, c5, c6, c7, c8, c9, c10, c11, c12, c13, c14, c15, c16, c17], _ =>
    match xs, hlen with
    | [y0, y1, y2, y3, y4, y5, y6], _ =>
      have t0 := hg 0 _ rfl
      have t1 := hg 1 _ rfl
      have t2 := hg 2 _ rfl
      have t3 := hg 3 _ rfl
      have t4 := hg 4 _ rfl
      have t5 := hg 5 _ rfl
      have t6 := hg 6 _ rfl
      clear hg
      simp [k8] at t0
      simp [kB] at t1
      simp [kb] at t2
      simp [ki] at t3 t4
      simp [kR] at t5
      simp [kP] at t6
      obtain ⟨z0, e0, _, _⟩ := DataW.trod_int Tryz.underlying22 t0
      obtain ⟨b, A1, cc, eb, hb, _, _, _⟩ := trod_bt t1
      obtain ⟨z2, e2, _⟩ := DataW.trod_bool Tryz.underlying4 t2
      obtain ⟨z3, e3, _, _⟩ := DataW.trod_int Tryz.underlying3 t3
      obtain ⟨z4, e4, _, _⟩ := DataW.trod_int Tryz.underlying3 t4
      obtain ⟨r, er⟩ := trod_row t5
      obtain ⟨p, D1, ee, ep, hp, _⟩ := trod_pd t6
      simp at e0 e2 e3 e4 eb er ep
      obtain ⟨rfl, rfl, rfl, rfl, rfl⟩ := eb
      obtain ⟨rfl, rfl, rfl, rfl, rfl⟩ := er
      obtain ⟨rfl, rfl, rfl, rfl⟩ := ep
      subst e0; subst e2; subst e3; subst e4
      exact ⟨⟨z0, b, z2, z3, z4, r, p⟩, A1, D1, cc, ee, rfl, hb.1, hp⟩
set_option maxRecDepth 100000 in
theorem open_en {r : Reach} {base : Nat} {v : Value} {d : DataW H} {p : List MemPlace} (hv : Value.okWide Tryz.prog W r base 32 v) (h : DataW.Trod enc Tryz.prog W 0 (fun _ => true) true 32 v d p) :
    ∃ (q : En) (A1 D1 : Option Addr) (c1 e1 : Nat), v = (.agg #[.int .i8 q.kd, .int .i64 q.b.pid, .int .i64 q.b.ep, .int .i64 q.b.seq, .bool q.b.txn, .slice A1 q.b.rs.length c1, .bool q.yes, .int .i64 q.nx, .int .i64 q.off, .int .i64 q.row.1, .int .i64 q.row.2.1, .int .i64 q.row.2.2.1, .string q.row.2.2.2.1, .string q.row.2.2.2.2, .int .i64 q.prod.pid, .int .i64 q.prod.ep, .int .i64 q.prod.nx, .slice D1 q.prod.seen.length e1]) ∧ Reads W W.heap.size 2 A1 q.b.rs.length (cellsR q.b.rs) ∧ Reads W W.heap.size 3 D1 q.prod.seen.length (cellsN q.prod.seen) := by
  obtain ⟨cs, rfl, _⟩ := okWide_struct Tryz.underlying32 hv
  obtain ⟨fuel, hf⟩ := h
  obtain ⟨q, A1, D1, c1, e1, e, h1, h2⟩ := trod_en hf
  have e2 : cs.toList = #[.int .i8 q.kd, .int .i64 q.b.pid, .int .i64 q.b.ep, .int .i64 q.b.seq, .bool q.b.txn, .slice A1 q.b.rs.length c1, .bool q.yes, .int .i64 q.nx, .int .i64 q.off, .int .i64 q.row.1, .int .i64 q.row.2.1, .int .i64 q.row.2.2.1, .string q.row.2.2.2.1, .string q.row.2.2.2.2, .int .i64 q.prod.pid, .int .i64 q.prod.ep, .int .i64 q.prod.nx, .slice D1 q.prod.seen.length e1].toList := e
  exact ⟨q, A1, D1, c1, e1, congrArg Value.agg (Array.toList_inj.1 e2), h1, h2⟩
set_option maxRecDepth 100000 in
theorem open_pd {r : Reach} {base : Nat} {v : Value} {d : DataW H} {p : List MemPlace} (hv : Value.okWide Tryz.prog W r base 30 v) (h : DataW.Trod enc Tryz.prog W 0 (fun _ => true) true 30 v d p) :
    ∃ (q : Pd) (D1 : Option Addr) (e1 : Nat), v = (.agg #[.int .i64 q.pid, .int .i64 q.ep, .int .i64 q.nx, .slice D1 q.seen.length e1]) ∧ Reads W W.heap.size 3 D1 q.seen.length (cellsN q.seen) ∧ q.seen.length ≤ e1 := by
  obtain ⟨cs, rfl, _⟩ := okWide_struct Tryz.underlying30 hv
  obtain ⟨fuel, hf⟩ := h
  obtain ⟨q, D1, e1, e, h1, h2⟩ := trod_pd hf
  have e2 : cs.toList = #[.int .i64 q.pid, .int .i64 q.ep, .int .i64 q.nx, .slice D1 q.seen.length e1].toList := e
  exact ⟨q, D1, e1, congrArg Value.agg (Array.toList_inj.1 e2), h1, h2⟩
end
end Go.Proofs.YtckdecodpjfcnaaGreatDoor
namespace Go.Proofs.YtckdecodpjfcnaaGreatDoor.entrySeen
open Go.ChangeShapes Go.WideShapes Go.ChangeAt Go.RowKit
open Go.ChangeMaps (open_string shut_string)
set_option linter.unusedVariables false

theorem laid_met (os : Os) : laidMetH Tryz.prog Rows.entrySeenRow.laid ((laidWorld os).forCall (fun _ _ => 0) ⟨#[], #[.agg #[.int .i64 0, .int .i64 0, .int .i64 0, .slice none 0 0], .int .i64 0, .int .i64 0], []⟩).memory :=
  laidMetH_of_parts (laidMet_nil _ _) (by kernel_rfl)
theorem reads (os : Os) {H : Type} (enc : TypeId × Value → H) : ∃ places, DataW.whole enc Tryz.prog ((laidWorld os).forCall (fun _ _ => 0) ⟨#[], #[.agg #[.int .i64 0, .int .i64 0, .int .i64 0, .slice none 0 0], .int .i64 0, .int .i64 0], []⟩).memory Tryz.f7.params.toList Rows.entrySeenSpec.vars false (#[.agg #[.int .i64 0, .int .i64 0, .int .i64 0, .slice none 0 0], .int .i64 0, .int .i64 0] : Array Value).toList 8 = some ([.agg [.lit (.int .i64 0), .lit (.int .i64 0), .lit (.int .i64 0), .nil], .lit (.int .i64 0), .lit (.int .i64 0)], [], places) :=
  ⟨[], by kernel_rfl⟩

set_option maxRecDepth 100000 in
theorem lifted (os : Os) (started : os.Started) (H : Type) (enc : TypeId × Value → H) (F : Stop.Interp) :
    ReturnsInHanded {} Tryz.checked os 7 .any ((OpenSpec.ofChange Rows.entrySeenSpec).preRow enc Tryz.prog Tryz.f7 Rows.entrySeenRow.domain false Rows.entrySeenRow.laid) (((OpenSpec.ofChange Rows.entrySeenSpec).at F).post enc Tryz.prog Tryz.f7 false true false false) := by
  obtain ⟨places, hx⟩ := reads os enc
  refine returnsInHanded_of_row (C := Tryz.checked) (s := OpenSpec.ofChange Rows.entrySeenSpec) own started (by kernel_rfl) Tryz.func7
    (witness_row_at (enc := enc) (C := Tryz.checked) false (laidWorld os) #[.agg #[.int .i64 0, .int .i64 0, .int .i64 0, .slice none 0 0], .int .i64 0, .int .i64 0] rfl (by kernel_rfl) (by kernel_rfl) (by kernel_rfl)
      (OpenSpec.preRow_of_cond 8 hx (by kernel_rfl) (fun k hk => by cases hk) (by kernel_rfl) (laid_met os))) ?_
  intro W base args ds gs before hval0 hW _ _ hsz0 hL _ _
  have hg : HasET W := hasErr_of_laid hL
  have hval : ∀ (j : Nat) t v, Tryz.f7.params[j]? = some t → args[j]? = some v → Value.okWide Tryz.prog W .any base t v := hval0
  have hsz : (DataW.weightsEach Tryz.prog (Tryz.f7.params.toList ++ Rows.entrySeenSpec.plain.varTypes Tryz.prog) (ds ++ gs)).all (· ≤ reachBytes) = true := hsz0
  have hW' := hW
  obtain ⟨p, q, hA0, hV, rfl, hfz, hnd⟩ := hW
  have hA : DataW.TrodAll enc Tryz.prog W 0 (fun _ => true) true Tryz.f7.params.toList args.toList ds p := hA0
  rw [Tryz.params7] at hA hval hsz
  obtain ⟨v0, vs0, d0, ds0, p0, q0, hargs, rfl, rfl, h0, r0⟩ := trodAll_cons hA
  obtain ⟨v1, vs1, d1, ds1, p1, q1, rfl, rfl, rfl, h1, r1⟩ := trodAll_cons r0
  obtain ⟨v2, vs2, d2, ds2, p2, q2, rfl, rfl, rfl, h2, r2⟩ := trodAll_cons r1
  obtain ⟨rfl, rfl, rfl⟩ := trodAll_nil r2
  obtain rfl : args = #[v0, v1, v2] := by cases args; simp_all
  obtain ⟨rfl, rfl⟩ := trodVars_none hV
  have k0 := h0
  have lt0 : ∀ x ∈ p0, x.block < W.heap.size := by obtain ⟨m, hm⟩ := k0; exact DataW.trod_lt m _ _ _ hm
  obtain ⟨pd0, D0, g0, rfl, es0, el0⟩ := open_pd (hval 0 30 v0 rfl rfl) h0
  obtain ⟨a1, rfl, rfl, rfl, w1⟩ := open_int Tryz.underlying3 (hval 1 3 v1 rfl rfl) h1
  obtain ⟨a2, rfl, rfl, rfl, w2⟩ := open_int Tryz.underlying3 (hval 2 3 v2 rfl rfl) h2
  clear hA0 hval0 hsz0
  refine (enseen_walk pd0 D0 g0 a1 a2 W hg es0 el0).mono fun e W' ⟨he, bel⟩ => ?_
  subst he
  exact ⟨_, rfl, _, _, _, [], _, [], hW', trodAll_mk1 (shut_bool Tryz.underlying4 _), (trodAll_cons_mk (Below.trod laidOut (by kernel_rfl) (of_decide_eq_true (by kernel_rfl)) k0 bel lt0) (trodAll_cons_mk (shut_int Tryz.underlying3 w1) (trodAll_cons_mk (shut_int Tryz.underlying3 w2) trodAll_mk0))), rfl, bel.frame _, fun h => by cases h⟩

theorem said : Rows.EntrySeenSaid :=
  OpenClaim.holds_of_cond 7 Tryz.f7 rfl rfl rfl rfl rfl rfl rfl ⟨rfl, rfl, rfl, rfl, rfl⟩ rfl rfl rfl rfl rfl (by kernel_rfl) Tryz.func7 (by kernel_rfl)
    (of_decide_eq_true (by kernel_rfl)) (by unfold Func.isWrapper; first | (rw [if_pos (by decide +kernel)]; kernel_rfl) | (rw [if_neg (by decide +kernel)]; exact ⟨rfl, rfl⟩))
    (fun os started H enc _ F => by rw [OpenClaim.pre_eq_preRow]; exact lifted os started H enc F)

theorem plain (f : FuncId) (fn : Func) (hf : Tryz.pinned.checked.prog.funcNamed "roving/rovinglaw07.EntrySeen" = some f) (hfn : Tryz.pinned.checked.prog.funcs[f]? = some fn) :
    true = Tryz.pinned.checked.prog.looks [] ∧ ∀ (j : Nat) t, fn.params[j]? = some t → Tryz.pinned.checked.prog.wantsStandIn t = false := by
  obtain rfl : f = 7 := Option.some.inj ((show Tryz.prog.funcNamed "roving/rovinglaw07.EntrySeen" = some 7 by kernel_rfl).symm.trans hf) |>.symm
  obtain rfl : fn = Tryz.f7 := (Option.some.inj (Tryz.func7.symm.trans hfn)).symm
  refine ⟨by kernel_rfl, fun j t ht => ?_⟩
  rw [Tryz.params7] at ht
  have hm : t = 30 ∨ t = 3 ∨ t = 3 := by simpa using Array.mem_of_getElem? ht
  rcases hm with rfl | rfl | rfl <;> exact (show Tryz.prog.wantsStandIn _ = false by kernel_rfl)

/-- THE CARD. -/
theorem card : Rows.EntrySeenCardSaid :=
  Claim7.holds_tied_plain_at .later [] _ _ _ _ said (fun _ h => by cases h) (by kernel_rfl) (fun _ h => by cases h) entrySeen_row_tie rfl ⟨rfl, rfl⟩ (by kernel_rfl) rfl plain (by kernel_rfl)
end Go.Proofs.YtckdecodpjfcnaaGreatDoor.entrySeen
