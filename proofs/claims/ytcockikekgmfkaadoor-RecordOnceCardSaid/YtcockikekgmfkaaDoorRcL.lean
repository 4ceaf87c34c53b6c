/-
  The statement RecordOnce: its walk.
-/
import Derived.Test.YtcockikekgmfkaaDoorRcK
namespace Go.Proofs.YtcockikekgmfkaaDoor
open Go.RowKit

/-- One record of a batch, as a batch. -/
def oneB (a : Bat) (i : Nat) (r : Rec) : Bat := ⟨a.pid, a.ep, a.seq + i, a.txn, [r]⟩
theorem oneB_may {a : Bat} {i : Nat} {r : Rec} (h : mayBt a = true) (hr : a.rs[i]? = some r) : mayBt (oneB a i r) = true := by
  obtain ⟨h1, h2⟩ := (mayBt_iff a).1 h
  have hi := (List.getElem?_eq_some_iff.1 hr).1
  refine (mayBt_iff _).2 ⟨?_, ?_⟩
  · simp only [oneB, List.length_singleton]; omega
  · intro x hx
    have : x = r := by simpa [oneB] using hx
    subst this
    exact h2 x (List.mem_of_getElem? hr)
theorem oneB_behind {a : Bat} {i : Nat} {r : Rec} (h : mayBt a = true) (hr : a.rs[i]? = some r) : behindB (oneB a i r) = a.seq + i + 1 := by
  obtain ⟨h1, _⟩ := (mayBt_iff a).1 h
  have hi := (List.getElem?_eq_some_iff.1 hr).1
  unfold behindB wrap64
  simp only [oneB, List.length_singleton]
  omega
theorem once_law {a b : Bat} (ha : mayBt a = true) (hb : mayBt b = true) : (decide (bs (encBt a) = bs (encBt b))) = sameBt a b := by
  rw [Bool.eq_iff_iff, decide_eq_true_eq, sameBt_iff]
  exact ⟨fun h => cBat.inj0 ha hb (bs_inj h), fun h => by rw [h]⟩
/-- A part of a slice of pairs. -/
theorem Reads.part2 {w : World} {B n c : Nat} {b off : Nat} {l : List Rec} (h : Reads w B 2 (some ⟨b, off, none⟩) n (cellsR l)) {i : Nat} {r : Rec} (hr : l[i]? = some r) (hn : n = l.length) : Reads w B 2 (some ⟨b, off + i * 2, none⟩) 1 (cellsR [r]) := by
  have hi := (List.getElem?_eq_some_iff.1 hr).1
  obtain ⟨b', off', he, hb, hc⟩ := h.plain2 (by omega)
  injection he with he
  injection he with he1 he2
  subst he1; subst he2
  obtain ⟨c1, c2⟩ := hc i r hr
  refine ⟨by rw [length_cellsR]; rfl, fun _ => ⟨_, rfl, hb, fun j u hu => ?_⟩⟩
  rw [add_none]
  rw [cellsR_cons] at hu
  rcases j with _ | _ | j
  · simp at hu; subst hu; simpa using c1
  · simp at hu; subst hu; simpa using c2
  · simp [cellsR] at hu

set_option maxRecDepth 100000 in
set_option maxHeartbeats 2000000 in
theorem once_big (a b : Bat) (A1 A2 : Option Addr) (c1 c2 : Nat) (w : World) (h1 : BtRaw w a A1) (h2 : BtRaw w b A2) (hbig : greatBt a = true ∨ (greatBt a = false ∧ greatBt b = true)) :
    Calls Tryd.prog 4 #[(.agg #[.int .i64 a.pid, .int .i64 a.ep, .int .i64 a.seq, .bool a.txn, .slice A1 a.rs.length c1]), (.agg #[.int .i64 b.pid, .int .i64 b.ep, .int .i64 b.seq, .bool b.txn, .slice A2 b.rs.length c2])] w fun e w' => e = .returned (.bool true) ∧ Below w.heap.size w w' := by
  have HB := Lib.hid (bal (bal (Below.refl w.heap.size w) (.cells #[.int .i64 a.pid, .int .i64 a.ep, .int .i64 a.seq, .bool a.txn, .slice A1 a.rs.length c1] 40)) (.cells #[.int .i64 b.pid, .int .i64 b.ep, .int .i64 b.seq, .bool b.txn, .slice A2 b.rs.length c2] 40))
  have kk := Blk.new (w.alloc (.cells #[.int .i64 a.pid, .int .i64 a.ep, .int .i64 a.seq, .bool a.txn, .slice A1 a.rs.length c1] 40)) 40 #[.int .i64 b.pid, .int .i64 b.ep, .int .i64 b.seq, .bool b.txn, .slice A2 b.rs.length c2]
  rw [World.size_alloc] at kk
  have K2 := Lib.hid kk
  have G1 := Lib.hid (fun W (h : Below w.heap.size w W) => Great_any a A1 c1 W ((h1.1.below h).more h.size) h1.2.1 h1.2.2)
  have G2 := Lib.hid (fun W (h : Below w.heap.size w W) => Great_any b A2 c2 W ((h2.1.below h).more h.size) h2.2.1 h2.2.2)
  clear kk h1 h2
  rcases hbig with h1 | ⟨h1, h2⟩
  · rw [h1] at G1
    clear h1
    go_enter Tryd.func4, Tryd.ntmps4
    go_wp2_with fail
    refine (G1.out _ HB.out).mono ?_
    rintro e w1 ⟨rfl, b1⟩
    have bf := btrans HB.out b1
    go_wp2_with fail
    refine (wakes06 _).mono ?_
    rintro e w2 ⟨rfl, b2⟩
    go_wp2_with fail
    go_ret
    exact ⟨rfl, btrans bf b2⟩
  · rw [h1] at G1
    rw [h2] at G2
    clear h1 h2
    go_enter Tryd.func4, Tryd.ntmps4
    go_wp2_with fail
    refine (G1.out _ HB.out).mono ?_
    rintro e w1 ⟨rfl, b1⟩
    have bf := btrans HB.out b1
    have hz := b1.size
    simp only [World.size_alloc] at hz
    have k6 := K2.out.below b1 (by simp only [World.size_alloc]; omega)
    have y0 := k6.cell 0
    have y1 := k6.cell 1
    have y2 := k6.cell 2
    have y3 := k6.cell 3
    have y4 := k6.cell 4
    go_wp2_with fail
    refine (G2.out _ bf).mono ?_
    rintro e w2 ⟨rfl, b2⟩
    have bg := btrans bf b2
    go_wp2_with fail
    refine (wakes06 _).mono ?_
    rintro e w3 ⟨rfl, b3⟩
    go_wp2_with fail
    go_ret
    exact ⟨rfl, btrans bg b3⟩
set_option maxRecDepth 100000 in
theorem cut_one {b off n c k : Nat} (hk : k < n) (hc : n ≤ c) (W : World) : (Instr.slice 38 (.slice (some ⟨b, off, none⟩) n c) (some (.int .i64 (k : Int))) (some (.int .i64 ((k : Int) + 1))) none).run Tryd.prog W = .ok (.slice (some ⟨b, off + k * 2, none⟩) 1 (c - k)) W := by
  have hs : ∀ W : World, (Go.sizeOf (Tryd.prog.elem 38)).run Tryd.prog W = .ok 2 W := fun _ => by kernel_rfl
  rw [run_slice_lh W 38 (some ⟨b, off, none⟩) n c Tryd.underlying38 .i64 .i64 (k : Int) ((k : Int) + 1) (by omega) (by omega) (by omega), hs]
  simp only [Result.andThen_ok, sliced, Int.toNat_natCast]
  rw [show ((k : Int) + 1).toNat = k + 1 by omega, show k + 1 - k = 1 by omega, if_neg (by omega)]
  simp only [Option.map_some, add_none]

set_option maxRecDepth 100000 in
set_option maxHeartbeats 2000000 in
theorem once_no (a b : Bat) (A1 A2 : Option Addr) (c1 c2 : Nat) (w : World) (hg : HasET w) (h1 : BtRaw w a A1) (h2 : BtRaw w b A2) (n1 : greatBt a = false) (n2 : greatBt b = false) (hno : mayBt a = false ∨ (mayBt a = true ∧ mayBt b = false)) :
    Calls Tryd.prog 4 #[(.agg #[.int .i64 a.pid, .int .i64 a.ep, .int .i64 a.seq, .bool a.txn, .slice A1 a.rs.length c1]), (.agg #[.int .i64 b.pid, .int .i64 b.ep, .int .i64 b.seq, .bool b.txn, .slice A2 b.rs.length c2])] w fun e w' => e = .returned (.bool true) ∧ Below w.heap.size w w' := by
  have HB := Lib.hid (bal (bal (Below.refl w.heap.size w) (.cells #[.int .i64 a.pid, .int .i64 a.ep, .int .i64 a.seq, .bool a.txn, .slice A1 a.rs.length c1] 40)) (.cells #[.int .i64 b.pid, .int .i64 b.ep, .int .i64 b.seq, .bool b.txn, .slice A2 b.rs.length c2] 40))
  have K1 := Lib.hid ((Blk.new w 40 #[.int .i64 a.pid, .int .i64 a.ep, .int .i64 a.seq, .bool a.txn, .slice A1 a.rs.length c1]).alloc (.cells #[.int .i64 b.pid, .int .i64 b.ep, .int .i64 b.seq, .bool b.txn, .slice A2 b.rs.length c2] 40))
  have kk := Blk.new (w.alloc (.cells #[.int .i64 a.pid, .int .i64 a.ep, .int .i64 a.seq, .bool a.txn, .slice A1 a.rs.length c1] 40)) 40 #[.int .i64 b.pid, .int .i64 b.ep, .int .i64 b.seq, .bool b.txn, .slice A2 b.rs.length c2]
  rw [World.size_alloc] at kk
  have K2 := Lib.hid kk
  have g1 := (fun W (h : Below w.heap.size w W) => Great_any a A1 c1 W ((h1.1.below h).more h.size) h1.2.1 h1.2.2)
  have g2 := (fun W (h : Below w.heap.size w W) => Great_any b A2 c2 W ((h2.1.below h).more h.size) h2.2.1 h2.2.2)
  rw [n1] at g1
  rw [n2] at g2
  have G1 := Lib.hid g1
  have G2 := Lib.hid g2
  have Y1 := Lib.hid (fun W (h : Below w.heap.size w W) => RcBytes_any a A1 c1 W ((h1.1.below h).more h.size) (hg.up h))
  have Y2 := Lib.hid (fun W (h : Below w.heap.size w W) => RcBytes_any b A2 c2 W ((h2.1.below h).more h.size) (hg.up h))
  have hcase : (bytesBt a).2 = 2 ∨ ((bytesBt a).2 = 0 ∧ (bytesBt b).2 = 2) := by
    unfold bytesBt
    rcases hno with h | ⟨h, h'⟩
    · rw [h]; exact .inl rfl
    · rw [h, h']; exact .inr ⟨rfl, rfl⟩
  generalize (bytesBt a).1 = q4 at *
  generalize (bytesBt a).2 = q5 at *
  generalize (bytesBt b).1 = q6 at *
  generalize (bytesBt b).2 = q7 at *
  clear kk hg h1 h2 n1 n2 g1 g2 hno
  rcases hcase with rfl | ⟨rfl, rfl⟩
  all_goals
    go_enter Tryd.func4, Tryd.ntmps4
    go_wp2_with fail
    refine (G1.out _ HB.out).mono ?_
    rintro e w1 ⟨rfl, b1⟩
    have bf := btrans HB.out b1
    have hz := b1.size
    simp only [World.size_alloc] at hz
    have k5 := K1.out.below b1 (by simp only [World.size_alloc]; omega)
    have k6 := K2.out.below b1 (by simp only [World.size_alloc]; omega)
    have y0 := k6.cell 0
    have y1 := k6.cell 1
    have y2 := k6.cell 2
    have y3 := k6.cell 3
    have y4 := k6.cell 4
    go_wp2_with fail
    refine (G2.out _ bf).mono ?_
    rintro e w2 ⟨rfl, b2⟩
    have bg := btrans bf b2
    have k7 := k5.below b2 (by omega)
    have k8 := k6.below b2 (by omega)
    have hz2 := b2.size
    clear y0 y1 y2 y3 y4 k5 k6 b1 b2 bf
    have x0 := k7.cell 0
    have x1 := k7.cell 1
    have x2 := k7.cell 2
    have x3 := k7.cell 3
    have x4 := k7.cell 4
    go_wp2_with fail
    refine (Y1.out _ bg).mono ?_
    rintro e w3 ⟨rfl, b3⟩
    have bh := btrans bg b3
    have k10 := k8.below b3 (by omega)
    clear x0 x1 x2 x3 x4 k7 k8 b3 bg
    have x0 := k10.cell 0
    have x1 := k10.cell 1
    have x2 := k10.cell 2
    have x3 := k10.cell 3
    have x4 := k10.cell 4
    go_wp2_with fail
    refine (Y2.out _ bh).mono ?_
    rintro e w4 ⟨rfl, b4⟩
    have bi := btrans bh b4
    clear x0 x1 x2 x3 x4 k10 b4 bh
    go_wp2_with fail
    refine (wakes06 _).mono ?_
    rintro e w5 ⟨rfl, b5⟩
    go_wp2_with fail
    go_ret
    exact ⟨rfl, btrans bi b5⟩

set_option maxRecDepth 100000 in
set_option maxHeartbeats 4000000 in
theorem once_ok (a b : Bat) (A1 A2 : Option Addr) (c1 c2 : Nat) (w : World) (h1 : BtRaw w a A1) (h2 : BtRaw w b A2) (hc1 : a.rs.length ≤ c1) (n1 : greatBt a = false) (n2 : greatBt b = false) (m1 : mayBt a = true) (m2 : mayBt b = true) :
    Calls Tryd.prog 4 #[(.agg #[.int .i64 a.pid, .int .i64 a.ep, .int .i64 a.seq, .bool a.txn, .slice A1 a.rs.length c1]), (.agg #[.int .i64 b.pid, .int .i64 b.ep, .int .i64 b.seq, .bool b.txn, .slice A2 b.rs.length c2])] w fun e w' => e = .returned (.bool true) ∧ Below w.heap.size w w' := by
  have hm := ((mayBt_iff a).1 m1).1
  obtain ⟨q1, q2, q3, q4, q5, q6, q7, q8⟩ := hm
  have HB := Lib.hid (bal (bal (Below.refl w.heap.size w) (.cells #[.int .i64 a.pid, .int .i64 a.ep, .int .i64 a.seq, .bool a.txn, .slice A1 a.rs.length c1] 40)) (.cells #[.int .i64 b.pid, .int .i64 b.ep, .int .i64 b.seq, .bool b.txn, .slice A2 b.rs.length c2] 40))
  have K1 := Lib.hid ((Blk.new w 40 #[.int .i64 a.pid, .int .i64 a.ep, .int .i64 a.seq, .bool a.txn, .slice A1 a.rs.length c1]).alloc (.cells #[.int .i64 b.pid, .int .i64 b.ep, .int .i64 b.seq, .bool b.txn, .slice A2 b.rs.length c2] 40))
  have kk := Blk.new (w.alloc (.cells #[.int .i64 a.pid, .int .i64 a.ep, .int .i64 a.seq, .bool a.txn, .slice A1 a.rs.length c1] 40)) 40 #[.int .i64 b.pid, .int .i64 b.ep, .int .i64 b.seq, .bool b.txn, .slice A2 b.rs.length c2]
  rw [World.size_alloc] at kk
  have K2 := Lib.hid kk
  have g1 := (fun W (h : Below w.heap.size w W) => Great_any a A1 c1 W ((h1.1.below h).more h.size) h1.2.1 h1.2.2)
  have g2 := (fun W (h : Below w.heap.size w W) => Great_any b A2 c2 W ((h2.1.below h).more h.size) h2.2.1 h2.2.2)
  rw [n1] at g1
  rw [n2] at g2
  have G1 := Lib.hid g1
  have G2 := Lib.hid g2
  have Y1 := Lib.hid (fun W (h : Below w.heap.size w W) => RcBytes_ok a A1 c1 W ((h1.1.below h).more h.size) m1)
  have Y2 := Lib.hid (fun W (h : Below w.heap.size w W) => RcBytes_ok b A2 c2 W ((h2.1.below h).more h.size) m2)
  have S2 := Lib.hid (fun W (h : Below w.heap.size w W) => rRcSame_any a b A1 A2 c1 c2 W ((h1.1.below h).more h.size) ((h2.1.below h).more h.size) (by omega))
  have hlaw := once_law m1 m2
  generalize bs (encBt a) = sa at *
  generalize bs (encBt b) = sb at *
  generalize sameBt a b = q9 at *
  rw [← beq_str] at hlaw
  have HLAW := Lib.hid hlaw
  have HR := Lib.hid h1.1
  have M1 := Lib.hid m1
  clear kk h1 h2 n1 n2 g1 g2 m1 m2 hlaw
  go_enter Tryd.func4, Tryd.ntmps4
  go_wp2_with fail
  refine (G1.out _ HB.out).mono ?_
  rintro e w1 ⟨rfl, b1⟩
  have bf := btrans HB.out b1
  have hz := b1.size
  simp only [World.size_alloc] at hz
  have k5 := K1.out.below b1 (by simp only [World.size_alloc]; omega)
  have k6 := K2.out.below b1 (by simp only [World.size_alloc]; omega)
  have y0 := k6.cell 0
  have y1 := k6.cell 1
  have y2 := k6.cell 2
  have y3 := k6.cell 3
  have y4 := k6.cell 4
  go_wp2_with fail
  refine (G2.out _ bf).mono ?_
  rintro e w2 ⟨rfl, b2⟩
  have bg := btrans bf b2
  have k7 := k5.below b2 (by omega)
  have k8 := k6.below b2 (by omega)
  have hz2 := b2.size
  clear y0 y1 y2 y3 y4 k5 k6 b1 b2 bf
  have x0 := k7.cell 0
  have x1 := k7.cell 1
  have x2 := k7.cell 2
  have x3 := k7.cell 3
  have x4 := k7.cell 4
  go_wp2_with fail
  refine (Y1.out _ bg).mono ?_
  rintro e w3 ⟨rfl, b3⟩
  have bh := btrans bg b3
  have k9 := k7.below b3 (by omega)
  have k10 := k8.below b3 (by omega)
  have hz3 := b3.size
  clear x0 x1 x2 x3 x4 k7 k8 b3 bg
  have x0 := k10.cell 0
  have x1 := k10.cell 1
  have x2 := k10.cell 2
  have x3 := k10.cell 3
  have x4 := k10.cell 4
  go_wp2_with fail
  refine (Y2.out _ bh).mono ?_
  rintro e w4 ⟨rfl, b4⟩
  have BI := Lib.hid (btrans bh b4)
  have K11 := Lib.hid (k9.below b4 (by omega))
  have K12 := Lib.hid (k10.below b4 (by omega))
  clear x0 x1 x2 x3 x4 k9 k10 b4 bh
  go_wp2_with fail
  go_loopw [9] (fun x wr => ∃ k : Nat, k ≤ a.rs.length ∧ x = .int .i64 k ∧ Below w.heap.size w wr ∧ Blk wr w.heap.size 40 #[.int .i64 a.pid, .int .i64 a.ep, .int .i64 a.seq, .bool a.txn, .slice A1 a.rs.length c1] ∧ Blk wr (w.heap.size + 1) 40 #[.int .i64 b.pid, .int .i64 b.ep, .int .i64 b.seq, .bool b.txn, .slice A2 b.rs.length c2]) (fun x _ => a.rs.length - (intOf x).toNat)
  case atStart => exact ⟨0, Nat.zero_le _, rfl, BI.out, K11.out, K12.out⟩
  case round =>
    obtain ⟨k, hk, rfl, hbel, hk1, hk2⟩ := hrel
    have BEL := Lib.hid hbel
    have KA := Lib.hid hk1
    have KB := Lib.hid hk2
    have hz := hk2.lt
    have x0 := hk1.cell 0
    have x1 := hk1.cell 1
    have x2 := hk1.cell 2
    have x3 := hk1.cell 3
    have x4 := hk1.cell 4
    clear hbel
    by_cases hlt : k < a.rs.length
    · have d1 : decide ((k : Int) < (a.rs.length : Int)) = true := by simp; omega
      obtain ⟨b1, o1, rfl, hbl1, _⟩ := HR.out.plain2 (by omega)
      obtain ⟨r, hx⟩ : ∃ z, a.rs[k]? = some z := ⟨_, List.getElem?_eq_getElem hlt⟩
      have hcut := fun W => cut_one (b := b1) (off := o1) hlt hc1 W
      have hmay := oneB_may M1.out hx
      have hbeh := oneB_behind M1.out hx
      have RP := Lib.hid ((HR.out.below BEL.out).part2 (c := c1) hx rfl)
      have e1 : ¬ w.heap.size = wr.heap.size := by omega
      have e2 : ¬ w.heap.size + 1 = wr.heap.size := by omega
      have e3 : w.heap.size < wr.heap.size := by omega
      have e4 : w.heap.size < wr.heap.size + 1 := by omega
      have w1' : IntKind.i64.wrap (a.seq + (k : Int) + 1) = a.seq + (k : Int) + 1 := IntWalk.i64_in _ (by omega)
      have MM := Lib.hid (fun W (h : Below wr.heap.size wr W) => RcMay_any (oneB a k r) (some ⟨b1, o1 + k * 2, none⟩) (c1 - k) W ((((RP.out.more BEL.out.size).below h)).more h.size))
      have BB := Lib.hid (fun W => Behind_any (oneB a k r) (some ⟨b1, o1 + k * 2, none⟩) (c1 - k) W)
      rw [hmay] at MM
      rw [hbeh] at BB
      have kn := Blk.new wr 40 #[.int .i64 a.pid, .int .i64 a.ep, .int .i64 (a.seq + (k : Int)), .bool a.txn, .slice (some ⟨b1, o1 + k * 2, none⟩) 1 (c1 - k)]
      have hbw := Below.alloc (Below.refl wr.heap.size wr) (Nat.le_refl _) (.cells #[.int .i64 a.pid, .int .i64 a.ep, .int .i64 (a.seq + (k : Int)), .bool a.txn, .slice (some ⟨b1, o1 + k * 2, none⟩) 1 (c1 - k)] 40)
      have HBW := Lib.hid hbw
      have p0 := bw_cell (B := wr.heap.size + 1) (kn.cell 0) (Nat.lt_succ_self _)
      have p1 := bw_cell (B := wr.heap.size + 1) (kn.cell 1) (Nat.lt_succ_self _)
      have p2 := bw_cell (B := wr.heap.size + 1) (kn.cell 2) (Nat.lt_succ_self _)
      have p3 := bw_cell (B := wr.heap.size + 1) (kn.cell 3) (Nat.lt_succ_self _)
      have p4 := bw_cell (B := wr.heap.size + 1) (kn.cell 4) (Nat.lt_succ_self _)
      have HBN := Lib.hid (fun n : BW (wr.heap.size + 1) (wr.alloc (.cells #[.int .i64 a.pid, .int .i64 a.ep, .int .i64 (a.seq + (k : Int)), .bool a.txn, .slice (some ⟨b1, o1 + k * 2, none⟩) 1 (c1 - k)] 40)) => hbw.trans (n.2.mono (Nat.le_succ _)))
      clear hmay hbeh hx kn hbw
      go_wp2_with fail
      refine wp_region_bq (wr.heap.size + 1) (by kernel_rfl) (by kernel_rfl) ?_
      repeat (go_big_quiet_step ((first | (go_at_call 29; exact bw_call (by simp) (MM.out _ (HBN.out _))) | (go_at_call 30; exact bw_call (by simp) (BB.out _)))))
      refine wpQuiet_nil ?_
      rintro _ ⟨n, rfl⟩
      have hn := HBN.out n
      clear x0 x1 x2 x3 x4 p0 p1 p2 p3 p4 hcut
      go_wp2_with fail
      go_roundw
      case rel => exact ⟨k + 1, by omega, by go_num, btrans BEL.out hn, KA.out.below hn (by omega), KB.out.below hn (by omega)⟩
      case measure => simp [intOf]; omega
    · have d1 : decide ((k : Int) < (a.rs.length : Int)) = false := by simp; omega
      have y0 := hk2.cell 0
      have y1 := hk2.cell 1
      have y2 := hk2.cell 2
      have y3 := hk2.cell 3
      have y4 := hk2.cell 4
      have hla := HLAW.out
      clear hk1 hk2
      cases q9
      all_goals
        go_wp2_with fail
        refine (S2.out _ BEL.out).mono ?_
        rintro e w5 ⟨rfl, b5⟩
        go_wp2_with fail
        refine (wakes06 _).mono ?_
        rintro e w6 ⟨rfl, b6⟩
        go_wp2_with fail
        go_ret
        exact ⟨rfl, btrans (btrans BEL.out b5) b6⟩

theorem once_walk (a b : Bat) (A1 A2 : Option Addr) (c1 c2 : Nat) (w : World) (hg : HasET w) (h1 : BtRaw w a A1) (h2 : BtRaw w b A2) (hc1 : a.rs.length ≤ c1) :
    Calls Tryd.prog 4 #[(.agg #[.int .i64 a.pid, .int .i64 a.ep, .int .i64 a.seq, .bool a.txn, .slice A1 a.rs.length c1]), (.agg #[.int .i64 b.pid, .int .i64 b.ep, .int .i64 b.seq, .bool b.txn, .slice A2 b.rs.length c2])] w fun e w' => e = .returned (.bool true) ∧ Below w.heap.size w w' := by
  cases n1 : greatBt a
  · cases n2 : greatBt b
    · cases m1 : mayBt a
      · exact once_no a b A1 A2 c1 c2 w hg h1 h2 n1 n2 (.inl m1)
      · cases m2 : mayBt b
        · exact once_no a b A1 A2 c1 c2 w hg h1 h2 n1 n2 (.inr ⟨m1, m2⟩)
        · exact once_ok a b A1 A2 c1 c2 w h1 h2 hc1 n1 n2 m1 m2
    · exact once_big a b A1 A2 c1 c2 w h1 h2 (.inr ⟨n1, n2⟩)
  · exact once_big a b A1 A2 c1 c2 w h1 h2 (.inl n1)
end Go.Proofs.YtcockikekgmfkaaDoor
