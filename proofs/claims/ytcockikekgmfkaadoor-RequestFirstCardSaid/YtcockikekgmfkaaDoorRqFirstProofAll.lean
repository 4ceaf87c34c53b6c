/-
  The card of RequestFirst is proved: for every input the call returns true, and each argument reads as before. No condition but the row's own list, which the card ties to the program's text.
  Rows of requests in memory; of requests' bytes put one behind the other one beginning alone is a request. No program in sight but the cells.
  The statement RecordTells: its walk.
  The statement RequestStray: its walk.
  Arguments that are structs and slices of structs, opened. (After the guide's page on structs.)
  Arguments that are batches, opened.
  Arguments that are requests, and slices of requests, opened.
  The statement RequestFirst: its walk.
  An argument that is a slice of requests, opened.
-/
import Derived.Test.YtcockikekgmfkaaDoorGrp04
import Derived.Test.YtcockikekgmfkaaDoorGrp19
import Derived.Test.YtcockikekgmfkaaDoorGrp26
import Derived.Deep.CutBlock
import Derived.Test.YtcockikekgmfkaaDoorGrp27
import Derived.Deep.Slices
import Derived.Deep.Fields
import Derived.ChangeSame
import Derived.Lib.SmallJoins
namespace Go.Proofs.YtcockikekgmfkaaDoor
open Go.RowKit

structure RqM where
  q : Rq
  A : Option Addr
  c : Nat
def cQ (m : RqM) : List Value := [.int .i8 m.q.kd, .int .i64 m.q.tid, .int .i64 m.q.tm, .int .i64 m.q.pid, .int .i64 m.q.ep, .int .i64 m.q.part, .int .i64 m.q.grp, .int .i64 m.q.off, .int .i64 m.q.most, .bool m.q.yes, .int .i64 m.q.b.pid, .int .i64 m.q.b.ep, .int .i64 m.q.b.seq, .bool m.q.b.txn, .slice m.A m.q.b.rs.length m.c]
def cellsQ (l : List RqM) : List Value := l.flatMap cQ
theorem cellsQ_cons (m : RqM) (l : List RqM) : cellsQ (m :: l) = [.int .i8 m.q.kd, .int .i64 m.q.tid, .int .i64 m.q.tm, .int .i64 m.q.pid, .int .i64 m.q.ep, .int .i64 m.q.part, .int .i64 m.q.grp, .int .i64 m.q.off, .int .i64 m.q.most, .bool m.q.yes, .int .i64 m.q.b.pid, .int .i64 m.q.b.ep, .int .i64 m.q.b.seq, .bool m.q.b.txn, .slice m.A m.q.b.rs.length m.c] ++ cellsQ l := by simp [cellsQ, cQ]
theorem length_cellsQ : ∀ l : List RqM, (cellsQ l).length = l.length * 15
  | [] => rfl
  | m :: l => by rw [cellsQ_cons, List.length_append, length_cellsQ l, List.length_cons]; simp only [List.length_cons, List.length_nil]; omega
theorem cellsQ_at : ∀ (l : List RqM) (i : Nat) (m : RqM) (j : Nat), l[i]? = some m → j < 15 → (cellsQ l)[i * 15 + j]? = (cQ m)[j]?
  | [], i, m, j, h, _ => by simp at h
  | x :: l, 0, m, j, h, hj => by
    simp at h
    subst h
    rw [show (0 * 15 + j) = j by omega]
    show (cQ x ++ cellsQ l)[j]? = _
    exact List.getElem?_append_left (by show j < 15; exact hj)
  | x :: l, i + 1, m, j, h, hj => by
    have := cellsQ_at l i m j (by simpa using h) hj
    show (cQ x ++ cellsQ l)[(i + 1) * 15 + j]? = _
    rw [List.getElem?_append_right (by show 15 ≤ _; omega), ← this]
    congr 1
    show (i + 1) * 15 + j - 15 = _
    omega
theorem Reads.plainQ {w : World} {B n : Nat} {A : Option Addr} {l : List RqM} (h : Reads w B 15 A n (cellsQ l)) (hn : 0 < n) :
    ∃ b off, A = some ⟨b, off, none⟩ ∧ b < B ∧ ∀ i m, l[i]? = some m → ∀ j u, (cQ m)[j]? = some u → w.cell? ⟨b, off + i * 15 + j, none⟩ = some u := by
  obtain ⟨ad, rfl, hb, hc⟩ := h.2 hn
  obtain ⟨b, off, spot⟩ := ad
  have hl : 0 < (cellsQ l).length := by have := h.1; omega
  have h0 := hc 0 _ (List.getElem?_eq_getElem hl)
  have hs : spot = none := by simpa [Addr.add] using World.cell?_spot h0
  subst hs
  refine ⟨b, off, rfl, hb, fun i m hm j u hu => ?_⟩
  have hj : j < 15 := (List.getElem?_eq_some_iff.1 hu).1
  have k1 := hc _ _ ((cellsQ_at l i m j hm hj).trans hu)
  rw [add_none] at k1
  rw [Nat.add_assoc]; exact k1

def wtF : Fl → Nat
  | .bat => 163
  | _ => 3
theorem wt_cI {lo hi : Nat} {x : Int} (h : (cI lo hi).v x) (hh : hi ≤ 1048576) : ((cI lo hi).e x).length ≤ 3 := enc_len3 _ (by have h' : lo ≤ x.toNat ∧ x.toNat ≤ hi ∧ x.toNat ≤ maxNum := h.2; omega)
theorem wt_F : ∀ (f : Fl) (x : FV f), (cF f).v x → ((cF f).e x).length ≤ wtF f
  | .yes, x, _ => by
    have : ((cF .yes).e x).length = 1 := rfl
    rw [this]; decide
  | .bat, x, h => by
    obtain ⟨h1, h2⟩ := encBt_len x h
    show (enc (encBt x).length ++ encBt x).length ≤ 163
    rw [List.length_append]
    have := enc_len3 (encBt x).length (by omega)
    omega
  | .tid, x, h => wt_cI h (by decide)
  | .tm, x, h => wt_cI h (by decide)
  | .pid, x, h => wt_cI h (by decide)
  | .ep, x, h => wt_cI h (by decide)
  | .part, x, h => wt_cI h (by decide)
  | .grp, x, h => wt_cI h (by decide)
  | .off, x, h => wt_cI h (by decide)
  | .most, x, h => wt_cI h (by decide)
def wtFs : List Fl → Nat
  | [] => 0
  | f :: fs => wtF f + wtFs fs
theorem eFs_wt : ∀ (fs : List Fl) (a : (f : Fl) → FV f), (∀ f ∈ fs, (cF f).v (a f)) → (eFs cF fs a).length ≤ wtFs fs
  | [], _, _ => Nat.le_refl _
  | f :: fs, a, h => by
    show ((cF f).e (a f) ++ eFs cF fs a).length ≤ _
    rw [List.length_append]
    have h1 := wt_F f (a f) (h f (List.mem_cons_self ..))
    have h2 := eFs_wt fs a fun g hg => h g (List.mem_cons_of_mem _ hg)
    show _ ≤ wtF f + wtFs fs
    omega
theorem wt_kd (k : Int) : wtFs (flOf k) ≤ 166 := by
  unfold flOf
  repeat' split
  all_goals decide
theorem encRq_len {q : Rq} (h : mayRq q) : 1 ≤ (encRq q).length ∧ (encRq q).length ≤ 250 := by
  unfold encRq
  rw [List.length_append]
  have h1 := eFs_wt _ _ h.2.1
  have h2 := wt_kd q.kd
  have h3 : (enc q.kd.toNat).length = 1 := by rw [enc_small _ (by have := h.1; omega)]; rfl
  omega
/-- A beginning of bytes that begin with a request's is a request just where the first one's end. -/
theorem rq_pre {L rest : List UInt8} {q : Rq} (hm : mayRq q) (hL : L = encRq q ++ rest) (k : Nat) (hk : k ≤ L.length) :
    readRq (L.take k) = if k = (encRq q).length then (q, 0) else (Rq0, 70) := by
  by_cases h : k = (encRq q).length
  · rw [if_pos h, h, hL, List.take_left]
    exact readRq_ok hm
  · rw [if_neg h]
    rcases readRq_cases (L.take k) with ⟨q', h1, h2, h3⟩ | h1
    · exfalso
      have e1 : L = encRq q' ++ L.drop k := by rw [← h3, List.take_append_drop]
      have b1 := cRq.back hm rest
      have b2 := cRq.back h2 (L.drop k)
      have e2 : cRq.p (encRq q ++ rest) = cRq.p (encRq q' ++ L.drop k) := by rw [← hL, ← e1]
      have e3 : some (q, rest) = some (q', L.drop k) := b1.symm.trans (e2.trans b2)
      injection e3 with e3
      injection e3 with e4 e5
      subst e4
      apply h
      have := congrArg List.length h3
      rw [List.length_take] at this
      omega
    · exact h1
/-- The bytes of some requests, one behind the other. -/
def flatQ (l : List RqM) : List UInt8 := l.flatMap fun m => encRq m.q
theorem flatQ_snoc (l : List RqM) (j : Nat) (m : RqM) (h : l[j]? = some m) : flatQ (l.take (j + 1)) = flatQ (l.take j) ++ encRq m.q := by
  obtain ⟨h1, h2⟩ := List.getElem?_eq_some_iff.1 h
  rw [List.take_succ_eq_append_getElem h1, h2]
  simp [flatQ]
theorem flatQ_drop (l : List RqM) (j : Nat) (m : RqM) (h : l[j]? = some m) : flatQ (l.drop j) = encRq m.q ++ flatQ (l.drop (j + 1)) := by
  obtain ⟨h1, h2⟩ := List.getElem?_eq_some_iff.1 h
  rw [List.drop_eq_getElem_cons h1, h2]
  simp [flatQ]
theorem flatQ_len : ∀ (l : List RqM), (∀ m ∈ l, mayRq m.q) → (flatQ l).length ≤ 250 * l.length
  | [], _ => Nat.le_refl _
  | m :: l, h => by
    show (encRq m.q ++ flatQ l).length ≤ _
    rw [List.length_append, List.length_cons]
    have h1 := (encRq_len (h m (List.mem_cons_self ..))).2
    have h2 := flatQ_len l fun x hx => h x (List.mem_cons_of_mem _ hx)
    omega
end Go.Proofs.YtcockikekgmfkaaDoor
namespace Go.Proofs.YtcockikekgmfkaaDoor
open Go.RowKit

theorem keepB {w w' : World} {g o : Nat} {v : Value} (h : w.cell? ⟨g, o, none⟩ = some v) (hb : Below w.heap.size w w') : w'.cell? ⟨g, o, none⟩ = some v := (hb.cell (p := ⟨g, o, none⟩) (cell_lt h)).trans h

/-- What a batch's bytes are, or that it has none. -/
def bytesBt (b : Bat) : ByteArray × Int := if mayBt b = true then (bs (encBt b), 0) else (ByteArray.empty, 2)
theorem RcBytes_any (b : Bat) (A1 : Option Addr) (c1 : Nat) (w : World) (hr : Reads w w.heap.size 2 A1 b.rs.length (cellsR b.rs)) (hg : HasET w) :
    Calls Tryd.prog 28 #[(.agg #[.int .i64 b.pid, .int .i64 b.ep, .int .i64 b.seq, .bool b.txn, .slice A1 b.rs.length c1])] w fun e w' => e = .returned (.tuple #[.string (bytesBt b).1, .int .i64 (bytesBt b).2]) ∧ Below w.heap.size w w' := by
  unfold bytesBt
  cases hm : mayBt b
  · exact RcBytes_no b A1 c1 w hr hg hm
  · exact RcBytes_ok b A1 c1 w hr hm
theorem rRcBytes_any (b : Bat) (A1 : Option Addr) (c1 : Nat) (w : World) (hr : Reads w w.heap.size 2 A1 b.rs.length (cellsR b.rs)) :
    Calls Tryd.prog 32 #[(.agg #[.int .i64 b.pid, .int .i64 b.ep, .int .i64 b.seq, .bool b.txn, .slice A1 b.rs.length c1])] w fun e w' => e = .returned (.tuple #[.string (bytesBt b).1, .int .i64 (bytesBt b).2]) ∧ Below w.heap.size w w' := by
  unfold bytesBt
  cases hm : mayBt b
  · exact rRcBytes_no b A1 c1 w hr hm
  · exact rRcBytes_ok b A1 c1 w hr hm

theorem SameRows_same (A1 A2 : Option Addr) (l : List Rw) (c1 c2 B1 B2 : Nat) (w : World) (h1 : Reads w B1 5 A1 l.length (cellsW l)) (h2 : Reads w B2 5 A2 l.length (cellsW l)) (hl : l.length ≤ 1000000) :
    Calls Tryd.prog 36 #[.slice A1 l.length c1, .slice A2 l.length c2] w fun e w' => e = .returned (.bool true) ∧ Below w.heap.size w w' :=
  (SameRows_any A1 A2 l l c1 c2 B1 B2 w h1 h2 hl).mono fun _ _ ⟨he, q, hw⟩ => ⟨by rw [he, decide_eq_true rfl], by rw [hw]; exact below_drewN (Below.refl _ _) q⟩
/-- A batch's records in memory, however many. -/
def BtRaw (w : World) (b : Bat) (A : Option Addr) : Prop :=
  Reads w w.heap.size 2 A b.rs.length (cellsR b.rs) ∧ b.rs.length ≤ 9223372036854775807 ∧ ∀ r ∈ b.rs, r.1.size ≤ 9223372036854775807 ∧ r.2.size ≤ 9223372036854775807

set_option maxRecDepth 100000 in
set_option maxHeartbeats 2000000 in
theorem rtell_big (a b : Bat) (A1 A2 : Option Addr) (c1 c2 : Nat) (off : Int) (w : World) (h1 : BtRaw w a A1) (h2 : BtRaw w b A2) (hbig : greatBt a = true ∨ (greatBt a = false ∧ greatBt b = true)) :
    Calls Tryd.prog 5 #[(.agg #[.int .i64 a.pid, .int .i64 a.ep, .int .i64 a.seq, .bool a.txn, .slice A1 a.rs.length c1]), (.agg #[.int .i64 b.pid, .int .i64 b.ep, .int .i64 b.seq, .bool b.txn, .slice A2 b.rs.length c2]), .int .i64 off] w fun e w' => e = .returned (.bool true) ∧ Below w.heap.size w w' := by
  have HB := Lib.hid (bal (bal (Below.refl w.heap.size w) (.cells #[.int .i64 a.pid, .int .i64 a.ep, .int .i64 a.seq, .bool a.txn, .slice A1 a.rs.length c1] 40)) (.cells #[.int .i64 b.pid, .int .i64 b.ep, .int .i64 b.seq, .bool b.txn, .slice A2 b.rs.length c2] 40))
  have kk := Blk.new (w.alloc (.cells #[.int .i64 a.pid, .int .i64 a.ep, .int .i64 a.seq, .bool a.txn, .slice A1 a.rs.length c1] 40)) 40 #[.int .i64 b.pid, .int .i64 b.ep, .int .i64 b.seq, .bool b.txn, .slice A2 b.rs.length c2]
  rw [World.size_alloc] at kk
  have K2 := Lib.hid kk
  have G1 := Lib.hid (fun W (h : Below w.heap.size w W) => Great_any a A1 c1 W ((h1.1.below h).more h.size) h1.2.1 h1.2.2)
  have G2 := Lib.hid (fun W (h : Below w.heap.size w W) => Great_any b A2 c2 W ((h2.1.below h).more h.size) h2.2.1 h2.2.2)
  clear kk h1 h2
  rcases hbig with h1 | ⟨h1, h2⟩
  · rw [h1] at G1
    clear h1
    go_enter Tryd.func5, Tryd.ntmps5
    go_wp2_with fail
    refine (G1.out _ HB.out).mono ?_
    rintro e w1 ⟨rfl, b1⟩
    have bf := btrans HB.out b1
    go_wp2_with fail
    refine (wakes06 _).mono ?_
    rintro e w2 ⟨rfl, b2⟩
    go_wp2_with fail
    go_ret
    exact ⟨rfl, btrans bf b2⟩
  · rw [h1] at G1
    rw [h2] at G2
    clear h1 h2
    go_enter Tryd.func5, Tryd.ntmps5
    go_wp2_with fail
    refine (G1.out _ HB.out).mono ?_
    rintro e w1 ⟨rfl, b1⟩
    have bf := btrans HB.out b1
    have hz := b1.size
    simp only [World.size_alloc] at hz
    have k6 := K2.out.below b1 (by simp only [World.size_alloc]; omega)
    have y0 := k6.cell 0
    have y1 := k6.cell 1
    have y2 := k6.cell 2
    have y3 := k6.cell 3
    have y4 := k6.cell 4
    go_wp2_with fail
    refine (G2.out _ bf).mono ?_
    rintro e w2 ⟨rfl, b2⟩
    have bg := btrans bf b2
    go_wp2_with fail
    refine (wakes06 _).mono ?_
    rintro e w3 ⟨rfl, b3⟩
    go_wp2_with fail
    go_ret
    exact ⟨rfl, btrans bg b3⟩

set_option maxRecDepth 100000 in
set_option maxHeartbeats 4000000 in
theorem rtell_ok (a b : Bat) (A1 A2 : Option Addr) (c1 c2 : Nat) (off : Int) (w : World) (hg : HasET w) (h1 : BtRaw w a A1) (h2 : BtRaw w b A2) (n1 : greatBt a = false) (n2 : greatBt b = false) :
    Calls Tryd.prog 5 #[(.agg #[.int .i64 a.pid, .int .i64 a.ep, .int .i64 a.seq, .bool a.txn, .slice A1 a.rs.length c1]), (.agg #[.int .i64 b.pid, .int .i64 b.ep, .int .i64 b.seq, .bool b.txn, .slice A2 b.rs.length c2]), .int .i64 off] w fun e w' => e = .returned (.bool true) ∧ Below w.heap.size w w' := by
  have l1 := (not_great n1).1
  have HB := Lib.hid (bal (bal (Below.refl w.heap.size w) (.cells #[.int .i64 a.pid, .int .i64 a.ep, .int .i64 a.seq, .bool a.txn, .slice A1 a.rs.length c1] 40)) (.cells #[.int .i64 b.pid, .int .i64 b.ep, .int .i64 b.seq, .bool b.txn, .slice A2 b.rs.length c2] 40))
  have K1 := Lib.hid ((Blk.new w 40 #[.int .i64 a.pid, .int .i64 a.ep, .int .i64 a.seq, .bool a.txn, .slice A1 a.rs.length c1]).alloc (.cells #[.int .i64 b.pid, .int .i64 b.ep, .int .i64 b.seq, .bool b.txn, .slice A2 b.rs.length c2] 40))
  have kk := Blk.new (w.alloc (.cells #[.int .i64 a.pid, .int .i64 a.ep, .int .i64 a.seq, .bool a.txn, .slice A1 a.rs.length c1] 40)) 40 #[.int .i64 b.pid, .int .i64 b.ep, .int .i64 b.seq, .bool b.txn, .slice A2 b.rs.length c2]
  rw [World.size_alloc] at kk
  have K2 := Lib.hid kk
  have g1 := (fun W (h : Below w.heap.size w W) => Great_any a A1 c1 W ((h1.1.below h).more h.size) h1.2.1 h1.2.2)
  have g2 := (fun W (h : Below w.heap.size w W) => Great_any b A2 c2 W ((h2.1.below h).more h.size) h2.2.1 h2.2.2)
  rw [n1] at g1
  rw [n2] at g2
  have G1 := Lib.hid g1
  have G2 := Lib.hid g2
  have M1 := Lib.hid (fun W (h : Below w.heap.size w W) => RcMay_any a A1 c1 W ((h1.1.below h).more h.size))
  have M2 := Lib.hid (fun W (h : Below w.heap.size w W) => rRcMay_any a A1 c1 W ((h1.1.below h).more h.size))
  have Y1 := Lib.hid (fun W (h : Below w.heap.size w W) => RcBytes_any a A1 c1 W ((h1.1.below h).more h.size) (hg.up h))
  have Y2 := Lib.hid (fun W (h : Below w.heap.size w W) => rRcBytes_any a A1 c1 W ((h1.1.below h).more h.size))
  have S1 := Lib.hid (fun W (h : Below w.heap.size w W) => RcSame_any a b A1 A2 c1 c2 W ((h1.1.below h).more h.size) ((h2.1.below h).more h.size) (by omega))
  have S2 := Lib.hid (fun W (h : Below w.heap.size w W) => rRcSame_any a b A1 A2 c1 c2 W ((h1.1.below h).more h.size) ((h2.1.below h).more h.size) (by omega))
  have E1 := Lib.hid (fun W => Behind_any a A1 c1 W)
  have E2 := Lib.hid (fun W => rBehind_any a A1 c1 W)
  have O1 := Lib.hid (fun W (h : Below w.heap.size w W) => Rows_any a A1 c1 off W ((h1.1.below h).more h.size) (by omega))
  have O2 := Lib.hid (fun W (h : Below w.heap.size w W) => rRows_any a A1 c1 off W ((h1.1.below h).more h.size) (by omega))
  have hrl : (rowsBt a off).length ≤ 1000000 := by rw [rowsBt_len]; omega
  generalize mayBt a = q1 at *
  generalize sameBt a b = q2 at *
  generalize behindB a = q3 at *
  generalize (bytesBt a).1 = q4 at *
  generalize (bytesBt a).2 = q5 at *
  generalize rowsBt a off = RB at *
  have P1 := Lib.hid (fun A A' B B' c c' W h h' => SameRows_same A A' RB c c' B B' W h h' hrl)
  clear kk hg h1 h2 n1 n2 g1 g2
  go_enter Tryd.func5, Tryd.ntmps5
  go_wp2_with fail
  refine (G1.out _ HB.out).mono ?_
  rintro e w1 ⟨rfl, b1⟩
  have bf := btrans HB.out b1
  have hz := b1.size
  simp only [World.size_alloc] at hz
  have k5 := K1.out.below b1 (by simp only [World.size_alloc]; omega)
  have k6 := K2.out.below b1 (by simp only [World.size_alloc]; omega)
  have y0 := k6.cell 0
  have y1 := k6.cell 1
  have y2 := k6.cell 2
  have y3 := k6.cell 3
  have y4 := k6.cell 4
  go_wp2_with fail
  refine (G2.out _ bf).mono ?_
  rintro e w2 ⟨rfl, b2⟩
  have bg := btrans bf b2
  have k7 := k5.below b2 (by omega)
  have k8 := k6.below b2 (by omega)
  have hz2 := b2.size
  clear y0 y1 y2 y3 y4 k5 k6 b1 b2 bf
  have x0 := k7.cell 0
  have x1 := k7.cell 1
  have x2 := k7.cell 2
  have x3 := k7.cell 3
  have x4 := k7.cell 4
  go_wp2_with fail
  refine (Y1.out _ bg).mono ?_
  rintro e w3 ⟨rfl, b3⟩
  have bh := btrans bg b3
  have k9 := k7.below b3 (by omega)
  have k10 := k8.below b3 (by omega)
  have hz3 := b3.size
  clear x0 x1 x2 x3 x4 k7 k8 b3 bg
  have x0 := k9.cell 0
  have x1 := k9.cell 1
  have x2 := k9.cell 2
  have x3 := k9.cell 3
  have x4 := k9.cell 4
  go_wp2_with fail
  refine (Y2.out _ bh).mono ?_
  rintro e w4 ⟨rfl, b4⟩
  have bi := btrans bh b4
  have k11 := k9.below b4 (by omega)
  have k12 := k10.below b4 (by omega)
  clear x0 x1 x2 x3 x4 k9 k10 b4 bh
  have x0 := k11.cell 0
  have x1 := k11.cell 1
  have x2 := k11.cell 2
  have x3 := k11.cell 3
  have x4 := k11.cell 4
  have y0 := k12.cell 0
  have y1 := k12.cell 1
  have y2 := k12.cell 2
  have y3 := k12.cell 3
  have y4 := k12.cell 4
  clear k11 k12
  go_wp2_with fail
  simp at x0 x1 x2 x3 x4 y0 y1 y2 y3 y4
  go_region_held3 (fun W => Below w.heap.size w W ∧ W.cell? ⟨w.heap.size, 0, none⟩ = some (.int .i64 a.pid) ∧ W.cell? ⟨w.heap.size, 1, none⟩ = some (.int .i64 a.ep) ∧ W.cell? ⟨w.heap.size, 2, none⟩ = some (.int .i64 a.seq) ∧ W.cell? ⟨w.heap.size, 3, none⟩ = some (.bool a.txn) ∧ W.cell? ⟨w.heap.size, 4, none⟩ = some (.slice A1 a.rs.length c1) ∧ W.cell? ⟨w.heap.size + 1, 0, none⟩ = some (.int .i64 b.pid) ∧ W.cell? ⟨w.heap.size + 1, 1, none⟩ = some (.int .i64 b.ep) ∧ W.cell? ⟨w.heap.size + 1, 2, none⟩ = some (.int .i64 b.seq) ∧ W.cell? ⟨w.heap.size + 1, 3, none⟩ = some (.bool b.txn) ∧ W.cell? ⟨w.heap.size + 1, 4, none⟩ = some (.slice A2 b.rs.length c2))
    (first | exact ⟨bi.drew, x0, x1, x2, x3, x4, y0, y1, y2, y3, y4⟩ | (go_split_ands; exact ⟨btrans (by assumption) hb, keepB (by assumption) hb, keepB (by assumption) hb, keepB (by assumption) hb, keepB (by assumption) hb, keepB (by assumption) hb, keepB (by assumption) hb, keepB (by assumption) hb, keepB (by assumption) hb, keepB (by assumption) hb, keepB (by assumption) hb⟩))
    (first | (go_at_call 27; refine (wakes06 _).mono ?_; rintro e w' ⟨rfl, hb⟩) | (go_at_call 29; refine (M1.out _ (by go_split_ands; assumption)).mono ?_; rintro e w' ⟨rfl, hb⟩) | (go_at_call 33; refine (M2.out _ (by go_split_ands; assumption)).mono ?_; rintro e w' ⟨rfl, hb⟩) | (go_at_call 34; refine (S1.out _ (by go_split_ands; assumption)).mono ?_; rintro e w' ⟨rfl, hb⟩) | (go_at_call 31; refine (S2.out _ (by go_split_ands; assumption)).mono ?_; rintro e w' ⟨rfl, hb⟩) | (go_at_call 30; refine (E1.out _).mono ?_; rintro e w' ⟨rfl, hb⟩) | (go_at_call 35; refine (E2.out _).mono ?_; rintro e w' ⟨rfl, hb⟩) | (go_at_call 37; refine (O1.out _ (by go_split_ands; assumption)).mono ?_; rintro e w' ⟨A5, c5, rfl, r5, hc5, hb⟩) | (go_at_call 38; refine (O2.out _ (by go_split_ands; assumption)).mono ?_; rintro e w' ⟨A6, c6, rfl, r6, hc6, hb⟩; have r7 := r5.below hb) | (go_at_call 36; refine (P1.out _ _ _ _ _ _ _ r7 r6).mono ?_; rintro e w' ⟨rfl, hb⟩))
  go_wp2_with fail
  go_ret
  exact ⟨rfl, by go_split_ands; assumption⟩
theorem rtell_walk (a b : Bat) (A1 A2 : Option Addr) (c1 c2 : Nat) (off : Int) (w : World) (hg : HasET w) (h1 : BtRaw w a A1) (h2 : BtRaw w b A2) :
    Calls Tryd.prog 5 #[(.agg #[.int .i64 a.pid, .int .i64 a.ep, .int .i64 a.seq, .bool a.txn, .slice A1 a.rs.length c1]), (.agg #[.int .i64 b.pid, .int .i64 b.ep, .int .i64 b.seq, .bool b.txn, .slice A2 b.rs.length c2]), .int .i64 off] w fun e w' => e = .returned (.bool true) ∧ Below w.heap.size w w' := by
  cases n1 : greatBt a
  · cases n2 : greatBt b
    · exact rtell_ok a b A1 A2 c1 c2 off w hg h1 h2 n1 n2
    · exact rtell_big a b A1 A2 c1 c2 off w h1 h2 (.inr ⟨n1, n2⟩)
  · exact rtell_big a b A1 A2 c1 c2 off w h1 h2 (.inl n1)
end Go.Proofs.YtcockikekgmfkaaDoor
namespace Go.Proofs.YtcockikekgmfkaaDoor
open Go.RowKit

theorem mayRq_le {q : Rq} (h : mayRq q) : q.b.rs.length ≤ 1000000 := by
  by_cases hb : Fl.bat ∈ flOf q.kd
  · have h1 : mayBt q.b = true := h.2.1 .bat hb
    have := ((mayBt_iff _).1 h1).1
    omega
  · have h1 : q.b = Bat0 := h.2.2 .bat hb
    rw [h1]; exact Nat.zero_le _

theorem tm_mem {k : Int} (h : Fl.tm ∈ flOf k) : k = 1 := by
  unfold flOf at h
  repeat' split at h
  all_goals first | assumption | exact absurd h (by decide)
theorem most_mem {k : Int} (h : Fl.most ∈ flOf k) : k = 5 := by
  unfold flOf at h
  repeat' split at h
  all_goals first | assumption | exact absurd h (by decide)
theorem pid_mem {k : Int} (h : Fl.pid ∈ flOf k) : k = 3 ∨ k = 4 := by
  unfold flOf at h
  repeat' split at h
  all_goals first | exact .inl (by assumption) | exact .inr (by assumption) | exact absurd h (by decide)
theorem bat_mem {k : Int} (h : Fl.bat ∈ flOf k) : k = 2 := by
  unfold flOf at h
  repeat' split at h
  all_goals first | assumption | exact absurd h (by decide)
theorem stray_tm {q : Rq} {m : Int} (hm : m ≠ 0) (hk : ¬ q.kd = 1) : ¬ mayRq { q with tm := m } := fun h => hm (h.2.2 .tm (fun hf => hk (tm_mem hf)))
theorem stray_most {q : Rq} {m : Int} (hm : m ≠ 0) (hk : ¬ q.kd = 5) : ¬ mayRq { q with most := m } := fun h => hm (h.2.2 .most (fun hf => hk (most_mem hf)))
theorem stray_pid {q : Rq} {m : Int} (hm : m ≠ 0) (h3 : ¬ q.kd = 3) (h4 : ¬ q.kd = 4) : ¬ mayRq { q with pid := m } := fun h => hm (h.2.2 .pid (fun hf => (pid_mem hf).elim h3 h4))
def strayB : Bat := ⟨1, 0, 0, false, [(⟨#[107]⟩, ByteArray.empty)]⟩
theorem stray_b {q : Rq} (hk : ¬ q.kd = 2) : ¬ mayRq { q with b := strayB } := fun h => by
  have h1 : strayB = Bat0 := h.2.2 .bat (fun hf => hk (bat_mem hf))
  have h2 := congrArg Bat.pid h1
  exact absurd h2 (by decide)
theorem rqBytes_any (q : Rq) (A1 : Option Addr) (c1 : Nat) (w : World) (hr : Reads w w.heap.size 2 A1 q.b.rs.length (cellsR q.b.rs)) (hl : q.b.rs.length ≤ 1000000) (hg : HasET w) :
    ∃ L n, Calls Tryd.prog 54 #[(.agg #[.int .i8 q.kd, .int .i64 q.tid, .int .i64 q.tm, .int .i64 q.pid, .int .i64 q.ep, .int .i64 q.part, .int .i64 q.grp, .int .i64 q.off, .int .i64 q.most, .bool q.yes, .int .i64 q.b.pid, .int .i64 q.b.ep, .int .i64 q.b.seq, .bool q.b.txn, .slice A1 q.b.rs.length c1])] w (BytesPost L n w) := by
  by_cases hm : mayRq q
  · exact ⟨_, _, rqBytes_ok q A1 c1 w hr hl hg hm⟩
  · exact ⟨_, _, rqBytes_no q A1 c1 w hr hl hg hm⟩
theorem kd_ch (k : Int) (h0 : 0 ≤ k) (h9 : k ≤ 9) : ((k != 5) = false ∧ changes k = false) ∨ ((k != 5) = true ∧ (k != 7) = false ∧ changes k = false) ∨ ((k != 5) = true ∧ (k != 7) = true ∧ changes k = true) := by
  have hh : k = 0 ∨ k = 1 ∨ k = 2 ∨ k = 3 ∨ k = 4 ∨ k = 5 ∨ k = 6 ∨ k = 7 ∨ k = 8 ∨ k = 9 := by omega
  rcases hh with rfl | rfl | rfl | rfl | rfl | rfl | rfl | rfl | rfl | rfl <;> decide
theorem reads_rec1 (w : World) (r : Rec) (t : TypeId) : Reads (w.alloc (.cells #[.string r.1, .string r.2] t)) (w.heap.size + 1) 2 (some ⟨w.heap.size, 0, none⟩) 1 (cellsR [r]) := by
  refine ⟨rfl, fun _ => ⟨_, rfl, Nat.lt_succ_self _, fun j u hu => ?_⟩⟩
  have hj : j < 2 := (List.getElem?_eq_some_iff.1 hu).1
  rw [add_none, Nat.zero_add]
  have hk := blk_new w t #[.string r.1, .string r.2] rfl
  rw [hk.cell j]
  have : j = 0 ∨ j = 1 := by omega
  rcases this with rfl | rfl
  · exact hu
  · exact hu

set_option maxRecDepth 100000 in
set_option maxHeartbeats 8000000 in
theorem rstray_ok (q : Rq) (A1 : Option Addr) (c1 : Nat) (x n : Int) (w : World) (hg : HasET w) (h1 : BtRaw w q.b A1) (n1 : greatBt q.b = false) (hm : mayRq q) :
    Calls Tryd.prog 10 #[(.agg #[.int .i8 q.kd, .int .i64 q.tid, .int .i64 q.tm, .int .i64 q.pid, .int .i64 q.ep, .int .i64 q.part, .int .i64 q.grp, .int .i64 q.off, .int .i64 q.most, .bool q.yes, .int .i64 q.b.pid, .int .i64 q.b.ep, .int .i64 q.b.seq, .bool q.b.txn, .slice A1 q.b.rs.length c1]), .int .i64 x, .int .i64 n] w fun e w' => e = .returned (.bool true) ∧ Below w.heap.size w w' := by
  have HB := Lib.hid (bal (Below.refl w.heap.size w) (.cells #[.int .i8 q.kd, .int .i64 q.tid, .int .i64 q.tm, .int .i64 q.pid, .int .i64 q.ep, .int .i64 q.part, .int .i64 q.grp, .int .i64 q.off, .int .i64 q.most, .bool q.yes, .int .i64 q.b.pid, .int .i64 q.b.ep, .int .i64 q.b.seq, .bool q.b.txn, .slice A1 q.b.rs.length c1] 74))
  have K0 := Lib.hid (Blk.new w 74 #[.int .i8 q.kd, .int .i64 q.tid, .int .i64 q.tm, .int .i64 q.pid, .int .i64 q.ep, .int .i64 q.part, .int .i64 q.grp, .int .i64 q.off, .int .i64 q.most, .bool q.yes, .int .i64 q.b.pid, .int .i64 q.b.ep, .int .i64 q.b.seq, .bool q.b.txn, .slice A1 q.b.rs.length c1])
  have g1 := (fun W (h : Below w.heap.size w W) => Great_any q.b A1 c1 W ((h1.1.below h).more h.size) h1.2.1 h1.2.2)
  rw [n1] at g1
  have G1 := Lib.hid g1
  have M1 := Lib.hid (fun W (h : Below w.heap.size w W) => rqMay_ok q A1 c1 W ((h1.1.below h).more h.size) (mayRq_le hm) (hg.up h) hm)
  have HR := Lib.hid (fun W (h : Below w.heap.size w W) => (h1.1.below h))
  have HG := Lib.hid (fun W (h : Below w.heap.size w W) => hg.up h)
  have HM := Lib.hid hm
  clear h1 g1 n1 hg hm
  go_enter Tryd.func10, Tryd.ntmps10
  go_wp2_with fail
  refine (G1.out _ HB.out).mono ?_
  rintro e w1 ⟨rfl, b1⟩
  have KB1 := Lib.hid (K0.out.below b1 (by simp))
  have BE1 := Lib.hid (btrans HB.out b1)
  clear b1
  have x0 := KB1.out.cell 0
  have x1 := KB1.out.cell 1
  have x2 := KB1.out.cell 2
  have x3 := KB1.out.cell 3
  have x4 := KB1.out.cell 4
  have x5 := KB1.out.cell 5
  have x6 := KB1.out.cell 6
  have x7 := KB1.out.cell 7
  have x8 := KB1.out.cell 8
  have x9 := KB1.out.cell 9
  have x10 := KB1.out.cell 10
  have x11 := KB1.out.cell 11
  have x12 := KB1.out.cell 12
  have x13 := KB1.out.cell 13
  have x14 := KB1.out.cell 14
  go_wp2_with fail
  refine (M1.out _ BE1.out).mono ?_
  rintro e w2 ⟨rfl, b2⟩
  have KB2 := Lib.hid (KB1.out.below b2 KB1.out.lt)
  have BE2 := Lib.hid (btrans BE1.out b2)
  clear b2 x0 x1 x2 x3 x4 x5 x6 x7 x8 x9 x10 x11 x12 x13 x14
  go_upto_if 21 with (fail)
  go_cut [2] (fun s2 wx => ∃ m : Int, m ≠ 0 ∧ s2 = .int .i64 m ∧ wx = w2)
  case first =>
    by_cases hn : n = 0
    · have hn1 : (n == 0) = true := eqb_true hn
      go_wp2_with fail
      go_meet
      exact ⟨1, by decide, rfl, rfl⟩
    · have hn1 : (n == 0) = false := eqb_false hn
      have HN := Lib.hid hn
      clear hn
      go_wp2_with fail
      go_meet
      exact ⟨n, HN.out, rfl, rfl⟩
  case rest =>
    obtain ⟨m, hm0, rfl, hwc⟩ := hcut
    obtain rfl := hwc.symm
    have HM0 := Lib.hid hm0
    clear KB1 BE1 HB K0 M1 G1 hm0
    have x0 := KB2.out.cell 0
    have x1 := KB2.out.cell 1
    have x2 := KB2.out.cell 2
    have x3 := KB2.out.cell 3
    have x4 := KB2.out.cell 4
    have x5 := KB2.out.cell 5
    have x6 := KB2.out.cell 6
    have x7 := KB2.out.cell 7
    have x8 := KB2.out.cell 8
    have x9 := KB2.out.cell 9
    have x10 := KB2.out.cell 10
    have x11 := KB2.out.cell 11
    have x12 := KB2.out.cell 12
    have x13 := KB2.out.cell 13
    have x14 := KB2.out.cell 14
    have hlw := BE2.out.size
    go_upto_block 0 with (fail)
    have KX := Lib.hid (blk_new w2 74 #[.int .i8 q.kd, .int .i64 q.tid, .int .i64 q.tm, .int .i64 q.pid, .int .i64 q.ep, .int .i64 q.part, .int .i64 q.grp, .int .i64 q.off, .int .i64 q.most, .bool q.yes, .int .i64 q.b.pid, .int .i64 q.b.ep, .int .i64 q.b.seq, .bool q.b.txn, .slice A1 q.b.rs.length c1] rfl)
    have KR := Lib.hid (KB2.out.alloc (.cells #[.int .i8 q.kd, .int .i64 q.tid, .int .i64 q.tm, .int .i64 q.pid, .int .i64 q.ep, .int .i64 q.part, .int .i64 q.grp, .int .i64 q.off, .int .i64 q.most, .bool q.yes, .int .i64 q.b.pid, .int .i64 q.b.ep, .int .i64 q.b.seq, .bool q.b.txn, .slice A1 q.b.rs.length c1] 74))
    have BE3 := Lib.hid (bal BE2.out (.cells #[.int .i8 q.kd, .int .i64 q.tid, .int .i64 q.tm, .int .i64 q.pid, .int .i64 q.ep, .int .i64 q.part, .int .i64 q.grp, .int .i64 q.off, .int .i64 q.most, .bool q.yes, .int .i64 q.b.pid, .int .i64 q.b.ep, .int .i64 q.b.seq, .bool q.b.txn, .slice A1 q.b.rs.length c1] 74))
    have RR := Lib.hid ((HR.out _ BE3.out).more (show w.heap.size ≤ w2.heap.size by omega))
    go_cut [8] (fun s8 wx => ∃ (has : Bool) (q' : Rq) (A5 : Option Addr) (c5 : Nat), s8 = .bool has ∧ Blk wx w.heap.size 74 #[.int .i8 q.kd, .int .i64 q.tid, .int .i64 q.tm, .int .i64 q.pid, .int .i64 q.ep, .int .i64 q.part, .int .i64 q.grp, .int .i64 q.off, .int .i64 q.most, .bool q.yes, .int .i64 q.b.pid, .int .i64 q.b.ep, .int .i64 q.b.seq, .bool q.b.txn, .slice A1 q.b.rs.length c1] ∧ Blk wx w2.heap.size 74 #[.int .i8 q'.kd, .int .i64 q'.tid, .int .i64 q'.tm, .int .i64 q'.pid, .int .i64 q'.ep, .int .i64 q'.part, .int .i64 q'.grp, .int .i64 q'.off, .int .i64 q'.most, .bool q'.yes, .int .i64 q'.b.pid, .int .i64 q'.b.ep, .int .i64 q'.b.seq, .bool q'.b.txn, .slice A5 q'.b.rs.length c5] ∧ Reads wx wx.heap.size 2 A5 q'.b.rs.length (cellsR q'.b.rs) ∧ q'.b.rs.length ≤ 1000000 ∧ Below w.heap.size w wx ∧ (has = false → ¬ mayRq q'))
    case first =>
      have y0 : ∀ o : Obj, (w2.alloc o).cell? ⟨w.heap.size, 0, none⟩ = some (.int .i8 q.kd) := fun o => (World.cell?_alloc_lt w2 o ⟨w.heap.size, 0, none⟩ KB2.out.lt).trans x0
      have y1 : ∀ o o' : Obj, ((w2.alloc o).alloc o').cell? ⟨w.heap.size, 0, none⟩ = some (.int .i8 q.kd) := fun o o' => (World.cell?_alloc_lt (w2.alloc o) o' ⟨w.heap.size, 0, none⟩ (by have := KB2.out.lt; simp; omega)).trans (y0 o)
      clear x0 x1 x2 x3 x4 x5 x6 x7 x8 x9 x10 x11 x12 x13 x14
      cases hb0 : (bits BinOp.and .i64 x 3 == 0)
      case true =>
        go_wp2_with fail
        go_meet
        exact ⟨_, { q with tm := m }, A1, c1, rfl, KB2.out.alloc _, blk_new w2 _ _ rfl, (HR.out _ (bal BE2.out _)).more (show w.heap.size ≤ _ by simp; omega), (show q.b.rs.length ≤ 1000000 from mayRq_le HM.out), bal BE2.out _, fun h => stray_tm HM0.out (beq_eq_false_iff_ne.1 h)⟩
      cases hb1 : (bits BinOp.and .i64 x 3 == 1)
      case true =>
        go_wp2_with fail
        go_meet
        exact ⟨_, { q with most := m }, A1, c1, rfl, KB2.out.alloc _, blk_new w2 _ _ rfl, (HR.out _ (bal BE2.out _)).more (show w.heap.size ≤ _ by simp; omega), (show q.b.rs.length ≤ 1000000 from mayRq_le HM.out), bal BE2.out _, fun h => stray_most HM0.out (beq_eq_false_iff_ne.1 h)⟩
      cases hb2 : (bits BinOp.and .i64 x 3 == 2)
      case true =>
        cases h3 : (q.kd == 3)
        case true =>
          go_wp2_with fail
          go_meet
          exact ⟨true, { q with pid := m }, A1, c1, rfl, KB2.out.alloc _, blk_new w2 _ _ rfl, (HR.out _ (bal BE2.out _)).more (show w.heap.size ≤ _ by simp; omega), (show q.b.rs.length ≤ 1000000 from mayRq_le HM.out), bal BE2.out _, fun h => by cases h⟩
        case false =>
          have H3 := Lib.hid (beq_eq_false_iff_ne.1 h3)
          go_wp2_with fail
          go_meet
          exact ⟨_, { q with pid := m }, A1, c1, rfl, KB2.out.alloc _, blk_new w2 _ _ rfl, (HR.out _ (bal BE2.out _)).more (show w.heap.size ≤ _ by simp; omega), (show q.b.rs.length ≤ 1000000 from mayRq_le HM.out), bal BE2.out _, fun h => stray_pid HM0.out H3.out (beq_eq_false_iff_ne.1 h)⟩
      case false =>
        go_wp2_with fail
        go_meet
        refine ⟨_, { q with b := strayB }, some ⟨w2.heap.size + 1, 0, none⟩, 1, rfl, (KB2.out.alloc _).alloc _, (blk_new w2 _ _ rfl).alloc _, ?_, (show strayB.rs.length ≤ 1000000 by decide), bal (bal BE2.out _) _, fun h => stray_b (beq_eq_false_iff_ne.1 h)⟩
        have h := fun o => reads_rec1 (w2.alloc o) (⟨#[107]⟩, ByteArray.empty) 70
        simp only [World.size_alloc] at h
        exact (h _).more (by simp)
    case rest =>
      obtain ⟨has, q', A5, c5, rfl, kb, kx, rr, hl, be, hnm⟩ := hcut
      clear KX KR BE3 RR KB2 BE2 x0 x1 x2 x3 x4 x5 x6 x7 x8 x9 x10 x11 x12 x13 x14
      have hlx := kx.lt
      have hlb := kb.lt
      have hbs := be.size
      have KB := Lib.hid kb
      have KX2 := Lib.hid kx
      have RR2 := Lib.hid rr
      have BE := Lib.hid be
      have HL := Lib.hid hl
      have z0 := kx.cell 0
      have z1 := kx.cell 1
      have z2 := kx.cell 2
      have z3 := kx.cell 3
      have z4 := kx.cell 4
      have z5 := kx.cell 5
      have z6 := kx.cell 6
      have z7 := kx.cell 7
      have z8 := kx.cell 8
      have z9 := kx.cell 9
      have z10 := kx.cell 10
      have z11 := kx.cell 11
      have z12 := kx.cell 12
      have z13 := kx.cell 13
      have z14 := kx.cell 14
      have HKD := Lib.hid (kd_ch q.kd HM.out.1.1 HM.out.1.2)
      cases has with
      | true =>
        obtain ⟨L, nn, by1⟩ := rqBytes_any q' A5 c5 wc rr hl (HG.out _ be)
        have BY := Lib.hid by1
        clear kb kx rr hl be hnm by1
        go_wp2_with fail
        refine BY.out.mono ?_
        rintro e w3 ⟨A7, c7, rfl, r7, hc7, b3⟩
        have KB3 := KB.out.below b3 hlb
        have BE3 := Lib.hid (btrans BE.out b3)
        clear z0 z1 z2 z3 z4 z5 z6 z7 z8 z9 z10 z11 z12 z13 z14 r7 hc7 b3
        go_wp2_with fail
        have hlt := KB3.lt
        have p0 := bw_cell (B := w3.heap.size) (KB3.cell 0) hlt
        have WK := Lib.hid (fun n : BW w3.heap.size w3 => wakes08 n.1 (HG.out _ (btrans BE3.out n.2)))
        have CH := Lib.hid (fun W => Changes_any q.kd W)
        clear KB3
        rcases HKD.out with ⟨k1, k3⟩ | ⟨k1, k2, k3⟩ | ⟨k1, k2, k3⟩
        all_goals
          have ch := CH.out
          rw [k3] at ch
          have CH2 := Lib.hid ch
          clear ch k3
          refine wp_region_bq w3.heap.size (by kernel_rfl) (by kernel_rfl) ?_
          repeat (go_big_quiet_step ((first | (go_at_call 53; exact bw_call (Nat.le_refl _) (WK.out _)) | (go_at_call 55; exact bw_same (CH2.out _)))))
          refine wpQuiet_nil ?_
          rintro _ ⟨n, rfl⟩
          have hn := btrans BE3.out n.2
          go_wp2_with fail
          go_ret
          exact ⟨rfl, hn⟩
      | false =>
        have BY := Lib.hid (rqBytes_no q' A5 c5 wc rr hl (HG.out _ be) (hnm rfl))
        have MN := Lib.hid (fun W (h : Below wc.heap.size wc W) => rqMay_no q' A5 c5 W ((rr.below h).more h.size) hl (HG.out _ (btrans be h)) (hnm rfl))
        clear kb kx rr hl be hnm
        go_wp2_with fail
        refine BY.out.mono ?_
        rintro e w3 ⟨A7, c7, rfl, r7, hc7, b3⟩
        have KB3 := Lib.hid (KB.out.below b3 hlb)
        have kx3 := KX2.out.below b3 hlx
        have BE3 := Lib.hid (btrans BE.out b3)
        have B3 := Lib.hid b3
        clear z0 z1 z2 z3 z4 z5 z6 z7 z8 z9 z10 z11 z12 z13 z14 r7 hc7 b3
        have z0 := kx3.cell 0
        have z1 := kx3.cell 1
        have z2 := kx3.cell 2
        have z3 := kx3.cell 3
        have z4 := kx3.cell 4
        have z5 := kx3.cell 5
        have z6 := kx3.cell 6
        have z7 := kx3.cell 7
        have z8 := kx3.cell 8
        have z9 := kx3.cell 9
        have z10 := kx3.cell 10
        have z11 := kx3.cell 11
        have z12 := kx3.cell 12
        have z13 := kx3.cell 13
        have z14 := kx3.cell 14
        clear kx3
        go_wp2_with fail
        refine (MN.out _ B3.out).mono ?_
        rintro e w4 ⟨rfl, b4⟩
        have KB4 := KB3.out.below b4 KB3.out.lt
        have BE4 := Lib.hid (btrans BE3.out b4)
        clear z0 z1 z2 z3 z4 z5 z6 z7 z8 z9 z10 z11 z12 z13 z14 b4
        go_wp2_with fail
        have hlt := KB4.lt
        have p0 := bw_cell (B := w4.heap.size) (KB4.cell 0) hlt
        have WK := Lib.hid (fun n : BW w4.heap.size w4 => wakes08 n.1 (HG.out _ (btrans BE4.out n.2)))
        have CH := Lib.hid (fun W => Changes_any q.kd W)
        clear KB4
        rcases HKD.out with ⟨k1, k3⟩ | ⟨k1, k2, k3⟩ | ⟨k1, k2, k3⟩
        all_goals
          have ch := CH.out
          rw [k3] at ch
          have CH2 := Lib.hid ch
          clear ch k3
          refine wp_region_bq w4.heap.size (by kernel_rfl) (by kernel_rfl) ?_
          repeat (go_big_quiet_step ((first | (go_at_call 53; exact bw_call (Nat.le_refl _) (WK.out _)) | (go_at_call 55; exact bw_same (CH2.out _)))))
          refine wpQuiet_nil ?_
          rintro _ ⟨n, rfl⟩
          have hn := btrans BE4.out n.2
          go_wp2_with fail
          go_ret
          exact ⟨rfl, hn⟩

set_option maxRecDepth 100000 in
set_option maxHeartbeats 4000000 in
theorem rstray_big (q : Rq) (A1 : Option Addr) (c1 : Nat) (x n : Int) (w : World) (hg : HasET w) (h1 : BtRaw w q.b A1) (n1 : greatBt q.b = true) :
    Calls Tryd.prog 10 #[(.agg #[.int .i8 q.kd, .int .i64 q.tid, .int .i64 q.tm, .int .i64 q.pid, .int .i64 q.ep, .int .i64 q.part, .int .i64 q.grp, .int .i64 q.off, .int .i64 q.most, .bool q.yes, .int .i64 q.b.pid, .int .i64 q.b.ep, .int .i64 q.b.seq, .bool q.b.txn, .slice A1 q.b.rs.length c1]), .int .i64 x, .int .i64 n] w fun e w' => e = .returned (.bool true) ∧ Below w.heap.size w w' := by
  have HB := Lib.hid (bal (Below.refl w.heap.size w) (.cells #[.int .i8 q.kd, .int .i64 q.tid, .int .i64 q.tm, .int .i64 q.pid, .int .i64 q.ep, .int .i64 q.part, .int .i64 q.grp, .int .i64 q.off, .int .i64 q.most, .bool q.yes, .int .i64 q.b.pid, .int .i64 q.b.ep, .int .i64 q.b.seq, .bool q.b.txn, .slice A1 q.b.rs.length c1] 74))
  have g1 := (fun W (h : Below w.heap.size w W) => Great_any q.b A1 c1 W ((h1.1.below h).more h.size) h1.2.1 h1.2.2)
  rw [n1] at g1
  have G1 := Lib.hid g1
  have WK := Lib.hid (fun W (h : Below w.heap.size w W) => wakes08 W (hg.up h))
  clear h1 g1 n1 hg
  go_enter Tryd.func10, Tryd.ntmps10
  go_wp2_with fail
  refine (G1.out _ HB.out).mono ?_
  rintro e w1 ⟨rfl, b1⟩
  have BE1 := Lib.hid (btrans HB.out b1)
  clear b1
  go_wp2_with fail
  refine (WK.out _ BE1.out).mono ?_
  rintro e w2 ⟨rfl, b2⟩
  have BE2 := Lib.hid (btrans BE1.out b2)
  clear b2
  go_wp2_with fail
  go_ret
  exact ⟨rfl, BE2.out⟩

set_option maxRecDepth 100000 in
set_option maxHeartbeats 4000000 in
theorem rstray_no (q : Rq) (A1 : Option Addr) (c1 : Nat) (x n : Int) (w : World) (hg : HasET w) (h1 : BtRaw w q.b A1) (n1 : greatBt q.b = false) (hm : ¬ mayRq q) :
    Calls Tryd.prog 10 #[(.agg #[.int .i8 q.kd, .int .i64 q.tid, .int .i64 q.tm, .int .i64 q.pid, .int .i64 q.ep, .int .i64 q.part, .int .i64 q.grp, .int .i64 q.off, .int .i64 q.most, .bool q.yes, .int .i64 q.b.pid, .int .i64 q.b.ep, .int .i64 q.b.seq, .bool q.b.txn, .slice A1 q.b.rs.length c1]), .int .i64 x, .int .i64 n] w fun e w' => e = .returned (.bool true) ∧ Below w.heap.size w w' := by
  have HB := Lib.hid (bal (Below.refl w.heap.size w) (.cells #[.int .i8 q.kd, .int .i64 q.tid, .int .i64 q.tm, .int .i64 q.pid, .int .i64 q.ep, .int .i64 q.part, .int .i64 q.grp, .int .i64 q.off, .int .i64 q.most, .bool q.yes, .int .i64 q.b.pid, .int .i64 q.b.ep, .int .i64 q.b.seq, .bool q.b.txn, .slice A1 q.b.rs.length c1] 74))
  have K0 := Lib.hid (Blk.new w 74 #[.int .i8 q.kd, .int .i64 q.tid, .int .i64 q.tm, .int .i64 q.pid, .int .i64 q.ep, .int .i64 q.part, .int .i64 q.grp, .int .i64 q.off, .int .i64 q.most, .bool q.yes, .int .i64 q.b.pid, .int .i64 q.b.ep, .int .i64 q.b.seq, .bool q.b.txn, .slice A1 q.b.rs.length c1])
  have g1 := (fun W (h : Below w.heap.size w W) => Great_any q.b A1 c1 W ((h1.1.below h).more h.size) h1.2.1 h1.2.2)
  rw [n1] at g1
  have G1 := Lib.hid g1
  have hle : q.b.rs.length ≤ 1000000 := by have := (not_great n1).1; omega
  have M1 := Lib.hid (fun W (h : Below w.heap.size w W) => rqMay_no q A1 c1 W ((h1.1.below h).more h.size) hle (hg.up h) hm)
  have WK := Lib.hid (fun W (h : Below w.heap.size w W) => wakes08 W (hg.up h))
  clear h1 g1 n1 hg hm hle
  go_enter Tryd.func10, Tryd.ntmps10
  go_wp2_with fail
  refine (G1.out _ HB.out).mono ?_
  rintro e w1 ⟨rfl, b1⟩
  have kb1 := K0.out.below b1 (by simp)
  have BE1 := Lib.hid (btrans HB.out b1)
  clear b1
  have x0 := kb1.cell 0
  have x1 := kb1.cell 1
  have x2 := kb1.cell 2
  have x3 := kb1.cell 3
  have x4 := kb1.cell 4
  have x5 := kb1.cell 5
  have x6 := kb1.cell 6
  have x7 := kb1.cell 7
  have x8 := kb1.cell 8
  have x9 := kb1.cell 9
  have x10 := kb1.cell 10
  have x11 := kb1.cell 11
  have x12 := kb1.cell 12
  have x13 := kb1.cell 13
  have x14 := kb1.cell 14
  clear kb1
  go_wp2_with fail
  refine (M1.out _ BE1.out).mono ?_
  rintro e w2 ⟨rfl, b2⟩
  have BE2 := Lib.hid (btrans BE1.out b2)
  clear b2 x0 x1 x2 x3 x4 x5 x6 x7 x8 x9 x10 x11 x12 x13 x14
  go_wp2_with fail
  refine (WK.out _ BE2.out).mono ?_
  rintro e w3 ⟨rfl, b3⟩
  have BE3 := Lib.hid (btrans BE2.out b3)
  clear b3
  go_wp2_with fail
  go_ret
  exact ⟨rfl, BE3.out⟩

theorem rstray_walk (q : Rq) (A1 : Option Addr) (c1 : Nat) (x n : Int) (w : World) (hg : HasET w) (h1 : BtRaw w q.b A1) :
    Calls Tryd.prog 10 #[(.agg #[.int .i8 q.kd, .int .i64 q.tid, .int .i64 q.tm, .int .i64 q.pid, .int .i64 q.ep, .int .i64 q.part, .int .i64 q.grp, .int .i64 q.off, .int .i64 q.most, .bool q.yes, .int .i64 q.b.pid, .int .i64 q.b.ep, .int .i64 q.b.seq, .bool q.b.txn, .slice A1 q.b.rs.length c1]), .int .i64 x, .int .i64 n] w fun e w' => e = .returned (.bool true) ∧ Below w.heap.size w w' := by
  cases n1 : greatBt q.b
  · by_cases hm : mayRq q
    · exact rstray_ok q A1 c1 x n w hg h1 n1 hm
    · exact rstray_no q A1 c1 x n w hg h1 n1 hm
  · exact rstray_big q A1 c1 x n w hg h1 n1
end Go.Proofs.YtcockikekgmfkaaDoor
namespace Go.Proofs.YtcockikekgmfkaaDoor
open Go.Joins Go.ChangeShapes Go.WideShapes Go.RowKit Go.Deep

section
variable {H : Type} {enc : TypeId × Value → H} {P : Program} {w : World} {base : Nat} {spare : Nat → Bool} {held : Bool}
theorem open_agg5 {r : Reach} {b0 : Nat} {t : TypeId} {f0 f1 f2 f3 f4 : Field} {v : Value} {d : DataW H} {p : List MemPlace} (hs : P.underlying t = some (.struct #[f0, f1, f2, f3, f4])) (hone : oneCellFields P #[f0, f1, f2, f3, f4] = true) (hC : P.cellsOf t = 5)
    (hv : Value.okWide P w r b0 t v) (h : DataW.Trod enc P w base spare held t v d p) :
    ∃ (v0 v1 v2 v3 v4 : Value) (y0 y1 y2 y3 y4 : DataW H × List MemPlace) (n : Nat), v = .agg #[v0, v1, v2, v3, v4] ∧ d = .agg [y0.1, y1.1, y2.1, y3.1, y4.1] ∧ p = y0.2 ++ (y1.2 ++ (y2.2 ++ (y3.2 ++ (y4.2)))) ∧
      DataW.trod enc P w base spare held n f0.type [v0] = some y0 ∧ DataW.trod enc P w base spare held n f1.type [v1] = some y1 ∧ DataW.trod enc P w base spare held n f2.type [v2] = some y2 ∧ DataW.trod enc P w base spare held n f3.type [v3] = some y3 ∧ DataW.trod enc P w base spare held n f4.type [v4] = some y4 := by
  obtain ⟨cs, rfl, hsz⟩ := okWide_struct hs hv
  obtain ⟨l⟩ := cs
  match l, hsz.trans hC with
  | [c0, c1, c2, c3, c4], _ =>
    obtain ⟨fuel, hf⟩ := h
    obtain ⟨xs, n, _, hx, _, hlen, hg⟩ := DataW.trod_struct hs hf
    obtain ⟨o0, k0⟩ := hone_of hone 0 f0 rfl
    obtain ⟨o1, k1⟩ := hone_of hone 1 f1 rfl
    obtain ⟨o2, k2⟩ := hone_of hone 2 f2 rfl
    obtain ⟨o3, k3⟩ := hone_of hone 3 f3 rfl
    obtain ⟨o4, k4⟩ := hone_of hone 4 f4 rfl
    match xs, hlen with
    | [y0, y1, y2, y3, y4], _ =>
      simp only [Prod.mk.injEq] at hx
      exact ⟨c0, c1, c2, c3, c4, y0, y1, y2, y3, y4, n, rfl, by simpa using hx.1, by simpa using hx.2, by simpa [Value.cells, o0, k0] using hg 0 f0 rfl, by simpa [Value.cells, o1, k1] using hg 1 f1 rfl, by simpa [Value.cells, o2, k2] using hg 2 f2 rfl, by simpa [Value.cells, o3, k3] using hg 3 f3 rfl, by simpa [Value.cells, o4, k4] using hg 4 f4 rfl⟩

theorem open_agg3 {r : Reach} {b0 : Nat} {t : TypeId} {f0 f1 f2 : Field} {v : Value} {d : DataW H} {p : List MemPlace} (hs : P.underlying t = some (.struct #[f0, f1, f2])) (hone : oneCellFields P #[f0, f1, f2] = true) (hC : P.cellsOf t = 3)
    (hv : Value.okWide P w r b0 t v) (h : DataW.Trod enc P w base spare held t v d p) :
    ∃ (v0 v1 v2 : Value) (y0 y1 y2 : DataW H × List MemPlace) (n : Nat), v = .agg #[v0, v1, v2] ∧ d = .agg [y0.1, y1.1, y2.1] ∧ p = y0.2 ++ (y1.2 ++ (y2.2)) ∧
      DataW.trod enc P w base spare held n f0.type [v0] = some y0 ∧ DataW.trod enc P w base spare held n f1.type [v1] = some y1 ∧ DataW.trod enc P w base spare held n f2.type [v2] = some y2 := by
  obtain ⟨cs, rfl, hsz⟩ := okWide_struct hs hv
  obtain ⟨l⟩ := cs
  match l, hsz.trans hC with
  | [c0, c1, c2], _ =>
    obtain ⟨fuel, hf⟩ := h
    obtain ⟨xs, n, _, hx, _, hlen, hg⟩ := DataW.trod_struct hs hf
    obtain ⟨o0, k0⟩ := hone_of hone 0 f0 rfl
    obtain ⟨o1, k1⟩ := hone_of hone 1 f1 rfl
    obtain ⟨o2, k2⟩ := hone_of hone 2 f2 rfl
    match xs, hlen with
    | [y0, y1, y2], _ =>
      simp only [Prod.mk.injEq] at hx
      exact ⟨c0, c1, c2, y0, y1, y2, n, rfl, by simpa using hx.1, by simpa using hx.2, by simpa [Value.cells, o0, k0] using hg 0 f0 rfl, by simpa [Value.cells, o1, k1] using hg 1 f1 rfl, by simpa [Value.cells, o2, k2] using hg 2 f2 rfl⟩

theorem open_slice_fields {t e : TypeId} {fs : Array Field} {fuel : Nat} {cs : List Value} {x : DataW H × List MemPlace} (ht : P.underlying t = some (.slice e)) (he : P.underlying e = some (.struct fs))
    (hone : oneCellFields P fs = true) (hC : P.cellsOf e = fs.size) (h : DataW.trod enc P w base spare held fuel t cs = some x) :
    (cs = [.slice none 0 0] ∧ x = (.nil, [])) ∨
    ∃ (a : Addr) (len cap m : Nat) (D : Nat → DataW H) (Pl : Nat → List MemPlace), cs = [.slice (some a) len cap] ∧ base ≤ a.block ∧ len ≤ cap ∧ cap ≤ maxLen ∧ m = (if spare a.block then cap else len) ∧
      x = (.slice ((List.range len).map D) ((List.range (m - len)).map fun j => D (len + j)), MemPlace.row a (m * fs.size) ++ (List.range m).flatMap Pl) ∧
      ∀ i, i < m → ∃ (ys : List (DataW H × List MemPlace)) (n : Nat), D i = .agg (ys.map (·.1)) ∧ Pl i = ys.flatMap (·.2) ∧ ys.length = fs.size ∧
        ∀ (j : Nat) (f : Field), fs[j]? = some f → ∃ (v : Value) (y : DataW H × List MemPlace), w.cell? (a.add (i * fs.size + j)) = some v ∧ ys[j]? = some y ∧ DataW.trod enc P w base spare held n f.type [v] = some y := by
  rcases open_slice ht h with h0 | ⟨a, len, cap, m, n, D, Pl, hcs, hb, hl, hm, hmm, hx, hi⟩
  · exact .inl h0
  · refine .inr ⟨a, len, cap, m, D, Pl, hcs, hb, hl, hm, hmm, by rw [hC] at hx; exact hx, fun i him => ?_⟩
    obtain ⟨cs', hc, ht'⟩ := hi i him
    rw [hC] at hc
    obtain ⟨ys, n', hn', hy, hlen, hyl, hf⟩ := DataW.trod_struct he ht'
    obtain ⟨_, hcl, hat⟩ := World.cells?_some hc
    simp only [Prod.mk.injEq] at hy
    refine ⟨ys, n', hy.1, hy.2, hyl, fun j f hj => ?_⟩
    obtain ⟨ho, hk⟩ := hone_of hone j f hj
    have hjl : j < fs.size := (Array.getElem?_eq_some_iff.1 hj).1
    have hcell := hat j hjl
    have hv : cs'[j]? = some (cs'[j]'(by omega)) := List.getElem?_eq_getElem (by omega)
    have h1 := hf j f hj
    rw [ho, hk] at h1
    have hone' : (cs'.drop j).take 1 = [cs'[j]'(by omega)] := by
      rw [List.drop_eq_getElem_cons (by omega)]
      rfl
    rw [hone'] at h1
    have hys : ys[j]? = some (ys[j]'(by omega)) := List.getElem?_eq_getElem (by omega)
    refine ⟨_, _, ?_, hys, h1.trans hys⟩
    rw [← Go.Deep.add_add, hcell, hv]
end

section
variable {H : Type} {enc : TypeId × Value → H} {W : World}
theorem cell_block {a : Addr} {k : Nat} {v : Value} (h : W.cell? (a.add k) = some v) : a.block < W.heap.size := by
  have := block_lt_of_cell h
  rwa [block_of_add] at this
end
end Go.Proofs.YtcockikekgmfkaaDoor
namespace Go.Proofs.YtcockikekgmfkaaDoor
open Go.Joins Go.ChangeShapes Go.WideShapes Go.RowKit Go.Deep

theorem cellsR_get : ∀ (l : List Rec) (j : Nat) (u : Value), (cellsR l)[j]? = some u → ∃ i k p, j = i * 2 + k ∧ k < 2 ∧ l[i]? = some p ∧ u = (if k = 0 then .string p.1 else .string p.2) := by
  intro l j u hu
  have hj : j < l.length * 2 := by
    have := (List.getElem?_eq_some_iff.1 hu).1
    rwa [length_cellsR] at this
  have hi : j / 2 < l.length := by omega
  obtain ⟨p, hp⟩ : ∃ p, l[j / 2]? = some p := ⟨_, List.getElem?_eq_getElem hi⟩
  obtain ⟨h0, h1⟩ := cellsR_at l (j / 2) p hp
  refine ⟨j / 2, j % 2, p, by omega, by omega, hp, ?_⟩
  have hk : j % 2 = 0 ∨ j % 2 = 1 := by omega
  rcases hk with hk | hk
  · rw [show j = j / 2 * 2 by omega, h0] at hu
    rw [if_pos hk]
    exact (Option.some.inj hu).symm
  · rw [show j = j / 2 * 2 + 1 by omega, h1] at hu
    rw [if_neg (by omega)]
    exact (Option.some.inj hu).symm

section
variable {H : Type} {enc : TypeId × Value → H} {W : World}
theorem field_recs {fuel : Nat} {v : Value} {x : DataW H × List MemPlace} (h : DataW.trod enc Tryd.prog W 0 (fun _ => true) true fuel 38 [v] = some x) :
    ∃ (A : Option Addr) (c : Nat) (l : List Rec), v = .slice A l.length c ∧ l.length ≤ c ∧ c ≤ maxLen ∧ Reads W W.heap.size 2 A l.length (cellsR l) ∧ ∀ r ∈ l, r.1.size ≤ maxLen ∧ r.2.size ≤ maxLen := by
  rcases open_slice_fields Tryd.underlying38 Tryd.underlying70 (by kernel_rfl) (by kernel_rfl) h with ⟨hcs, _⟩ | ⟨a, len, cap, m, D, Pl, hcs, _, hl, hm, hmm, hx, hi⟩
  · simp at hcs
    subst hcs
    exact ⟨none, 0, [], rfl, Nat.le_refl _, Nat.zero_le _, Reads.none_, by simp⟩
  · simp at hcs
    subst hcs
    simp only [if_true] at hmm
    subst hmm
    have hp : ∀ i, ∃ p : Rec, (p.1.size ≤ maxLen ∧ p.2.size ≤ maxLen) ∧ (i < len → W.cell? (a.add (i * 2 + 0)) = some (.string p.1) ∧ W.cell? (a.add (i * 2 + 1)) = some (.string p.2)) := by
      intro i
      by_cases hlt : i < len
      · obtain ⟨ys, n, _, _, _, hf⟩ := hi i (by omega)
        obtain ⟨v0, y0, hc0, _, t0⟩ := hf 0 _ rfl
        obtain ⟨v1, y1, hc1, _, t1⟩ := hf 1 _ rfl
        obtain ⟨z0, e0, _, m0⟩ := DataW.trod_string Tryd.underlying9 t0
        obtain ⟨z1, e1, _, m1⟩ := DataW.trod_string Tryd.underlying9 t1
        simp at e0 e1
        subst e0; subst e1
        exact ⟨(z0, z1), ⟨m0, m1⟩, fun _ => ⟨hc0, hc1⟩⟩
      · exact ⟨(ByteArray.empty, ByteArray.empty), ⟨Nat.zero_le _, Nat.zero_le _⟩, fun h => absurd h hlt⟩
    refine ⟨some a, m, (List.range len).map fun i => Classical.choose (hp i), by simp, by simpa using hl, hm, ⟨by rw [length_cellsR], fun hn => ⟨a, rfl, ?_, fun j u hu => ?_⟩⟩, fun r hr => ?_⟩
    · simp at hn
      exact cell_block ((Classical.choose_spec (hp 0)).2 hn).1
    · obtain ⟨i, k, p, rfl, hk, hpi, rfl⟩ := cellsR_get _ j u hu
      rw [List.getElem?_map, Option.map_eq_some_iff] at hpi
      obtain ⟨i', hi', rfl⟩ := hpi
      have hlt : i < len := by
        have := (List.getElem?_eq_some_iff.1 hi').1
        simpa using this
      rw [List.getElem?_range hlt] at hi'
      obtain rfl : i = i' := by simpa using hi'
      obtain ⟨q0, q1⟩ := (Classical.choose_spec (hp i)).2 hlt
      have hk3 : k = 0 ∨ k = 1 := by omega
      rcases hk3 with rfl | rfl
      · exact q0
      · exact q1
    · obtain ⟨i, _, rfl⟩ := List.mem_map.1 hr
      exact (Classical.choose_spec (hp i)).1

set_option maxRecDepth 100000 in
theorem open_bt {r : Reach} {base : Nat} {v : Value} {d : DataW H} {p : List MemPlace} (hv : Value.okWide Tryd.prog W r base 40 v) (h : DataW.Trod enc Tryd.prog W 0 (fun _ => true) true 40 v d p) :
    ∃ (b : Bat) (A1 : Option Addr) (c1 : Nat), v = (.agg #[.int .i64 b.pid, .int .i64 b.ep, .int .i64 b.seq, .bool b.txn, .slice A1 b.rs.length c1]) ∧ BtRaw W b A1 ∧ b.rs.length ≤ c1 ∧ (-9223372036854775808 ≤ b.pid ∧ b.pid ≤ 9223372036854775807) ∧ (-9223372036854775808 ≤ b.ep ∧ b.ep ≤ 9223372036854775807) ∧ (-9223372036854775808 ≤ b.seq ∧ b.seq ≤ 9223372036854775807) := by
  obtain ⟨v0, v1, v2, v3, v4, y0, y1, y2, y3, y4, n, rfl, _, _, t0, t1, t2, t3, t4⟩ := open_agg5 Tryd.underlying40 (by kernel_rfl) (by kernel_rfl) hv h
  obtain ⟨z0, e0, _, w0⟩ := DataW.trod_int Tryd.underlying3 t0
  obtain ⟨z1, e1, _, w1⟩ := DataW.trod_int Tryd.underlying3 t1
  obtain ⟨z2, e2, _, w2⟩ := DataW.trod_int Tryd.underlying3 t2
  obtain ⟨z3, e3, _⟩ := DataW.trod_bool Tryd.underlying4 t3
  obtain ⟨A1, c1, l1, rfl, k1, hm1, r1, s1⟩ := field_recs t4
  simp at e0 e1 e2 e3
  subst e0; subst e1; subst e2; subst e3
  simp only [Lit.wf, Bool.and_eq_true, decide_eq_true_eq] at w0 w1 w2
  unfold maxLen at hm1 s1
  exact ⟨⟨z0, z1, z2, z3, l1⟩, A1, c1, rfl, ⟨r1, by show l1.length ≤ _; omega, s1⟩, k1, w0, w1, w2⟩
end
end Go.Proofs.YtcockikekgmfkaaDoor
namespace Go.Proofs.YtcockikekgmfkaaDoor
open Go.Joins Go.ChangeShapes Go.WideShapes Go.RowKit Go.Deep

def i64In (x : Int) : Prop := -9223372036854775808 ≤ x ∧ x ≤ 9223372036854775807
/-- What is known of a request that was handed in. -/
def RqRaw (w : World) (q : Rq) (A : Option Addr) : Prop :=
  BtRaw w q.b A ∧ (-128 ≤ q.kd ∧ q.kd ≤ 127) ∧ ∀ v ∈ [q.tid, q.tm, q.pid, q.ep, q.part, q.grp, q.off, q.most, q.b.pid, q.b.ep, q.b.seq], i64In v

section
variable {H : Type} {enc : TypeId × Value → H} {W : World}
set_option maxRecDepth 100000 in
theorem trod_bt {fuel : Nat} {cs : List Value} {x : DataW H × List MemPlace} (h : DataW.trod enc Tryd.prog W 0 (fun _ => true) true fuel 40 cs = some x) :
    ∃ (b : Bat) (A1 : Option Addr) (c1 : Nat), cs = [.int .i64 b.pid, .int .i64 b.ep, .int .i64 b.seq, .bool b.txn, .slice A1 b.rs.length c1] ∧ BtRaw W b A1 ∧ i64In b.pid ∧ i64In b.ep ∧ i64In b.seq := by
  obtain ⟨xs, n, _, _, hl, hlen, hg⟩ := DataW.trod_struct Tryd.underlying40 h
  have hC : Tryd.prog.cellsOf 40 = 5 := by kernel_rfl
  have ki : Tryd.prog.cellsOf 3 = 1 := by kernel_rfl
  have kb : Tryd.prog.cellsOf 4 = 1 := by kernel_rfl
  have kr : Tryd.prog.cellsOf 38 = 1 := by kernel_rfl
  rw [hC] at hl
  match cs, hl with
  | [c0, c1, c2, c3, c4], _ =>
    match xs, hlen with
    | [y0, y1, y2, y3, y4], _ =>
      have t0 := hg 0 _ rfl
      have t1 := hg 1 _ rfl
      have t2 := hg 2 _ rfl
      have t3 := hg 3 _ rfl
      have t4 := hg 4 _ rfl
      simp [ki] at t0 t1 t2
      simp [kb] at t3
      simp [kr] at t4
      obtain ⟨z0, e0, _, w0⟩ := DataW.trod_int Tryd.underlying3 t0
      obtain ⟨z1, e1, _, w1⟩ := DataW.trod_int Tryd.underlying3 t1
      obtain ⟨z2, e2, _, w2⟩ := DataW.trod_int Tryd.underlying3 t2
      obtain ⟨z3, e3, _⟩ := DataW.trod_bool Tryd.underlying4 t3
      obtain ⟨A1, cc, l1, rfl, k1, hm1, r1, s1⟩ := field_recs t4
      simp at e0 e1 e2 e3
      subst e0; subst e1; subst e2; subst e3
      simp only [Lit.wf, Bool.and_eq_true, decide_eq_true_eq] at w0 w1 w2
      unfold maxLen at hm1 s1
      exact ⟨⟨z0, z1, z2, z3, l1⟩, A1, cc, rfl, ⟨r1, by show l1.length ≤ _; omega, s1⟩, w0, w1, w2⟩
set_option maxRecDepth 100000 in
theorem trod_rq {fuel : Nat} {cs : List Value} {x : DataW H × List MemPlace} (h : DataW.trod enc Tryd.prog W 0 (fun _ => true) true fuel 74 cs = some x) :
    ∃ (q : Rq) (A1 : Option Addr) (c1 : Nat), cs = #[.int .i8 q.kd, .int .i64 q.tid, .int .i64 q.tm, .int .i64 q.pid, .int .i64 q.ep, .int .i64 q.part, .int .i64 q.grp, .int .i64 q.off, .int .i64 q.most, .bool q.yes, .int .i64 q.b.pid, .int .i64 q.b.ep, .int .i64 q.b.seq, .bool q.b.txn, .slice A1 q.b.rs.length c1].toList ∧ RqRaw W q A1 := by
  obtain ⟨xs, n, _, _, hl, hlen, hg⟩ := DataW.trod_struct Tryd.underlying74 h
  have hC : Tryd.prog.cellsOf 74 = 15 := by kernel_rfl
  have k8 : Tryd.prog.cellsOf 72 = 1 := by kernel_rfl
  have ki : Tryd.prog.cellsOf 3 = 1 := by kernel_rfl
  have kb : Tryd.prog.cellsOf 4 = 1 := by kernel_rfl
  have kB : Tryd.prog.cellsOf 40 = 5 := by kernel_rfl
  rw [hC] at hl
  match cs, hl with
  | [c0, c1, c2, c3, c4, c5, c6, c7, c8, c9, c10, c11, c12, c13, c14], _ =>
    match xs, hlen with
    | [y0, y1, y2, y3, y4, y5, y6, y7, y8, y9, y10], _ =>
      have t0 := hg 0 _ rfl
      have t1 := hg 1 _ rfl
      have t2 := hg 2 _ rfl
      have t3 := hg 3 _ rfl
      have t4 := hg 4 _ rfl
      have t5 := hg 5 _ rfl
      have t6 := hg 6 _ rfl
      have t7 := hg 7 _ rfl
      have t8 := hg 8 _ rfl
      have t9 := hg 9 _ rfl
      have t10 := hg 10 _ rfl
      clear hg
      simp [k8] at t0
      simp [ki] at t1 t2 t3 t4 t5 t6 t7 t8
      simp [kb] at t9
      simp [kB] at t10
      obtain ⟨z0, e0, _, w0⟩ := DataW.trod_int Tryd.underlying72 t0
      obtain ⟨z1, e1, _, w1⟩ := DataW.trod_int Tryd.underlying3 t1
      obtain ⟨z2, e2, _, w2⟩ := DataW.trod_int Tryd.underlying3 t2
      obtain ⟨z3, e3, _, w3⟩ := DataW.trod_int Tryd.underlying3 t3
      obtain ⟨z4, e4, _, w4⟩ := DataW.trod_int Tryd.underlying3 t4
      obtain ⟨z5, e5, _, w5⟩ := DataW.trod_int Tryd.underlying3 t5
      obtain ⟨z6, e6, _, w6⟩ := DataW.trod_int Tryd.underlying3 t6
      obtain ⟨z7, e7, _, w7⟩ := DataW.trod_int Tryd.underlying3 t7
      obtain ⟨z8, e8, _, w8⟩ := DataW.trod_int Tryd.underlying3 t8
      obtain ⟨z9, e9, _⟩ := DataW.trod_bool Tryd.underlying4 t9
      obtain ⟨b, A1, cc, eb, hb, u1, u2, u3⟩ := trod_bt t10
      simp at e0 e1 e2 e3 e4 e5 e6 e7 e8 e9 eb
      obtain ⟨rfl, rfl, rfl, rfl, rfl⟩ := eb
      subst e0; subst e1; subst e2; subst e3; subst e4; subst e5; subst e6; subst e7; subst e8; subst e9
      simp only [Lit.wf, Bool.and_eq_true, decide_eq_true_eq] at w0 w1 w2 w3 w4 w5 w6 w7 w8
      refine ⟨⟨z0, z1, z2, z3, z4, z5, z6, z7, z8, z9, b⟩, A1, cc, rfl, hb, w0, ?_⟩
      intro v hv
      simp only [List.mem_cons, List.not_mem_nil, or_false] at hv
      rcases hv with rfl | rfl | rfl | rfl | rfl | rfl | rfl | rfl | rfl | rfl | rfl
      all_goals assumption
set_option maxRecDepth 100000 in
theorem open_rq {r : Reach} {base : Nat} {v : Value} {d : DataW H} {p : List MemPlace} (hv : Value.okWide Tryd.prog W r base 74 v) (h : DataW.Trod enc Tryd.prog W 0 (fun _ => true) true 74 v d p) :
    ∃ (q : Rq) (A1 : Option Addr) (c1 : Nat), v = (.agg #[.int .i8 q.kd, .int .i64 q.tid, .int .i64 q.tm, .int .i64 q.pid, .int .i64 q.ep, .int .i64 q.part, .int .i64 q.grp, .int .i64 q.off, .int .i64 q.most, .bool q.yes, .int .i64 q.b.pid, .int .i64 q.b.ep, .int .i64 q.b.seq, .bool q.b.txn, .slice A1 q.b.rs.length c1]) ∧ RqRaw W q A1 := by
  obtain ⟨cs, rfl, _⟩ := okWide_struct Tryd.underlying74 hv
  obtain ⟨fuel, hf⟩ := h
  obtain ⟨q, A1, c1, e, hq⟩ := trod_rq hf
  have e2 : cs.toList = #[.int .i8 q.kd, .int .i64 q.tid, .int .i64 q.tm, .int .i64 q.pid, .int .i64 q.ep, .int .i64 q.part, .int .i64 q.grp, .int .i64 q.off, .int .i64 q.most, .bool q.yes, .int .i64 q.b.pid, .int .i64 q.b.ep, .int .i64 q.b.seq, .bool q.b.txn, .slice A1 q.b.rs.length c1].toList := e
  exact ⟨q, A1, c1, congrArg Value.agg (Array.toList_inj.1 e2), hq⟩
end
end Go.Proofs.YtcockikekgmfkaaDoor
namespace Go.Proofs.YtcockikekgmfkaaDoor
open Go.RowKit

theorem reads_bytes (W : World) (s : ByteArray) : ∃ (cap : Nat) (W' : World), (convert 9 50 (.string s)).run Tryd.prog W = .ok (.slice (some ⟨W.heap.size, 0, none⟩) s.size cap) W' ∧ Reads W' W'.heap.size 1 (some ⟨W.heap.size, 0, none⟩) s.size (cellsB (lb s)) ∧ Below W.heap.size W W' := by
  obtain ⟨cap, W', h1, h2, h3, h4, h5⟩ := bytes_of_ex (P := Tryd.prog) Tryd.underlying9 Tryd.underlying50 Tryd.underlying5 W s
  refine ⟨cap, W', h1, ⟨by rw [length_cellsB, length_lb]; omega, fun _ => ⟨_, rfl, by show W.heap.size < _; omega, fun j u hu => ?_⟩⟩, ⟨h5.os, h5.tape, h5.output, h5.size, fun i hi => h5.block i hi (by simp)⟩⟩
  have hj : j < s.size := by
    have := (List.getElem?_eq_some_iff.1 hu).1
    rw [length_cellsB, length_lb] at this
    exact this
  rw [add_none, Nat.zero_add, h3 j hj]
  rw [getElem?_cellsB, List.getElem?_eq_getElem (by rw [length_lb]; exact hj)] at hu
  rw [← hu, List.getD_eq_getElem?_getD, List.getElem?_eq_getElem (by rw [length_lb]; exact hj)]
  rfl
theorem rqRead_s (x : ByteArray) (A : Option Addr) (c B : Nat) (w : World) (q : Rq) (n : Int) (h : readRq (lb x) = (q, n)) (hr : Reads w B 1 A x.size (cellsB (lb x))) (hB : B ≤ w.heap.size) (hl : x.size ≤ 100000) (hg : HasET w) :
    Calls Tryd.prog 56 #[.slice A x.size c] w (RqRd q n w) := by
  have h1 := rqRead_any A (lb x) c w (by rw [length_lb]; exact hr.more hB) (by rw [length_lb]; exact hl) hg
  rw [h, length_lb] at h1
  exact h1
theorem mayRq_dec (q : Rq) : mayRq q ∨ ¬ mayRq q := Classical.em _

set_option maxRecDepth 100000 in
set_option maxHeartbeats 2000000 in
theorem rfirst_big (A : Option Addr) (n : Nat) (c : Nat) (w : World) (hg : HasET w) (hl : 6 < n) :
    Calls Tryd.prog 11 #[.slice A n c] w fun e w' => e = .returned (.bool true) ∧ Below w.heap.size w w' := by
  have WK := Lib.hid (wakes08 w hg)
  have d1 : decide ((6 : Int) < (n : Int)) = true := by simp; omega
  clear hl hg
  go_enter Tryd.func11, Tryd.ntmps11
  go_wp2_with fail
  refine WK.out.mono ?_
  rintro e w1 ⟨rfl, b1⟩
  go_wp2_with fail
  go_ret
  exact ⟨rfl, b1⟩

set_option maxRecDepth 100000 in
set_option maxHeartbeats 16000000 in
theorem rfirst_ok (l : List RqM) (A : Option Addr) (c : Nat) (w : World) (hr : Reads w w.heap.size 15 A l.length (cellsQ l)) (hraw : ∀ m ∈ l, RqRaw w m.q m.A) (hg : HasET w) (hl : l.length ≤ 6) :
    Calls Tryd.prog 11 #[.slice A l.length c] w fun e w' => e = .returned (.bool true) ∧ Below w.heap.size w w' := by
  have d1 : decide ((6 : Int) < (l.length : Int)) = false := by simp; omega
  have HG := Lib.hid (fun W (h : Below w.heap.size w W) => hg.up h)
  have WK := Lib.hid (fun W (h : Below w.heap.size w W) => wakes08 W (hg.up h))
  have HR := Lib.hid hr
  have HRAW := Lib.hid hraw
  clear hr hraw hg
  go_enter Tryd.func11, Tryd.ntmps11
  go_wp2_with fail
  go_loopw [3, 4] (fun s3 s4 wr => ∃ j : Nat, j ≤ l.length ∧ s4 = .int .i64 j ∧ s3 = .string (bs (flatQ (l.take j))) ∧ (∀ m ∈ l.take j, mayRq m.q) ∧ Below w.heap.size w wr) (fun _ s4 _ => l.length - (intOf s4).toNat)
  case atStart => exact ⟨0, Nat.zero_le _, rfl, rfl, by simp, Below.refl _ _⟩
  case round =>
    obtain ⟨jj, hj, rfl, rfl, hv, be⟩ := hrel
    by_cases hlt : jj < l.length
    · have q1 : decide ((jj : Int) < (l.length : Int)) = true := by simp; omega
      obtain ⟨m, hm⟩ : ∃ z, l[jj]? = some z := ⟨_, List.getElem?_eq_getElem hlt⟩
      have hmem : m ∈ l := List.mem_of_getElem? hm
      have hbt := (HRAW.out m hmem).1
      obtain ⟨b, off, rfl, hb, hc⟩ := HR.out.plainQ (by omega)
      have HC := Lib.hid (fun W (h : Below w.heap.size w W) (i : Nat) (x : RqM) (hx : l[i]? = some x) (j : Nat) (u : Value) (hu : (cQ x)[j]? = some u) => (h.cell (p := ⟨b, off + i * 15 + j, none⟩) hb).trans (hc i x hx j u hu))
      have i1 : (0 : Int) ≤ (jj : Int) := by omega
      have i2 : (jj : Int) < (l.length : Int) := by omega
      have G1 := Lib.hid (fun W (h : Below w.heap.size w W) => Great_any m.q.b m.A m.c W ((hbt.1.below h).more h.size) hbt.2.1 hbt.2.2)
      have BE := Lib.hid be
      have HV := Lib.hid hv
      have HMEM := Lib.hid hmem
      have HBT := Lib.hid hbt
      have HM := Lib.hid hm
      have x10 := HC.out _ be jj m hm 10 _ rfl
      have x11 := HC.out _ be jj m hm 11 _ rfl
      have x12 := HC.out _ be jj m hm 12 _ rfl
      have x13 := HC.out _ be jj m hm 13 _ rfl
      have x14 := HC.out _ be jj m hm 14 _ rfl
      clear hc hv be hmem hbt hm
      go_wp2_with fail
      cases n1 : greatBt m.q.b
      case true =>
        have g1 := G1.out _ BE.out
        rw [n1] at g1
        have G2 := Lib.hid g1
        clear g1 n1 x10 x11 x12 x13 x14
        refine G2.out.mono ?_
        rintro e w1 ⟨rfl, b1⟩
        have BE1 := Lib.hid (btrans BE.out b1)
        clear b1
        go_wp2_with fail
        refine (WK.out _ BE1.out).mono ?_
        rintro e w2 ⟨rfl, b2⟩
        have BE2 := Lib.hid (btrans BE1.out b2)
        clear b2
        go_wp2_with fail
        go_ret
        exact ⟨rfl, BE2.out⟩
      case false =>
        have g1 := G1.out _ BE.out
        rw [n1] at g1
        have G2 := Lib.hid g1
        have hle : m.q.b.rs.length ≤ 1000000 := by have := (not_great n1).1; omega
        have HLE := Lib.hid hle
        clear g1 n1 hle x10 x11 x12 x13 x14
        refine G2.out.mono ?_
        rintro e w1 ⟨rfl, b1⟩
        have BE1 := Lib.hid (btrans BE.out b1)
        clear b1
        have y0 : w1.cell? ⟨b, off + jj * 15, none⟩ = some (.int .i8 m.q.kd) := HC.out _ BE1.out jj m HM.out 0 _ rfl
        have y1 := HC.out _ BE1.out jj m HM.out 1 _ rfl
        have y2 := HC.out _ BE1.out jj m HM.out 2 _ rfl
        have y3 := HC.out _ BE1.out jj m HM.out 3 _ rfl
        have y4 := HC.out _ BE1.out jj m HM.out 4 _ rfl
        have y5 := HC.out _ BE1.out jj m HM.out 5 _ rfl
        have y6 := HC.out _ BE1.out jj m HM.out 6 _ rfl
        have y7 := HC.out _ BE1.out jj m HM.out 7 _ rfl
        have y8 := HC.out _ BE1.out jj m HM.out 8 _ rfl
        have y9 := HC.out _ BE1.out jj m HM.out 9 _ rfl
        have y10 := HC.out _ BE1.out jj m HM.out 10 _ rfl
        have y11 := HC.out _ BE1.out jj m HM.out 11 _ rfl
        have y12 := HC.out _ BE1.out jj m HM.out 12 _ rfl
        have y13 := HC.out _ BE1.out jj m HM.out 13 _ rfl
        have y14 := HC.out _ BE1.out jj m HM.out 14 _ rfl
        rcases mayRq_dec m.q with hok | hno
        · have BY := Lib.hid (rqBytes_ok m.q m.A m.c w1 ((HBT.out.1.below BE1.out).more BE1.out.size) HLE.out (HG.out _ BE1.out) hok)
          have HOK := Lib.hid hok
          clear hok
          go_wp2_with fail
          refine BY.out.mono ?_
          rintro e w2 ⟨A7, c7, rfl, r7, hc7, b2⟩
          have t1 := run_string_of (P := Tryd.prog) (src := 50) (dst := 9) (c := c7) Tryd.underlying50 Tryd.underlying5 Tryd.underlying9 r7
          have BE2 := Lib.hid (btrans BE1.out b2)
          have ss1 : (bs (flatQ (l.take jj))).size ≤ 1500 := by
            rw [size_bs]
            have h1 := flatQ_len (l.take jj) HV.out
            have h2 : (l.take jj).length ≤ 6 := by rw [List.length_take]; omega
            omega
          have ss2 : (bs (encRq m.q)).size ≤ 250 := by
            rw [size_bs]; exact (encRq_len HOK.out).2
          clear r7 hc7 b2 y0 y1 y2 y3 y4 y5 y6 y7 y8 y9 y10 y11 y12 y13 y14
          go_wp2_with fail
          go_roundw
          case rel =>
            refine ⟨jj + 1, by omega, by go_num, ?_, ?_, BE2.out⟩
            · rw [bs_append, flatQ_snoc l jj m HM.out]
            · intro x hx
              rw [List.take_add_one, HM.out] at hx
              rcases List.mem_append.1 hx with h | h
              · exact HV.out x h
              · have : x = m := by simpa using h
                rw [this]; exact HOK.out
          case measure => simp [intOf]; omega
        · have BY := Lib.hid (rqBytes_no m.q m.A m.c w1 ((HBT.out.1.below BE1.out).more BE1.out.size) HLE.out (HG.out _ BE1.out) hno)
          have MN := Lib.hid (fun W (h : Below w.heap.size w W) => rqMay_no m.q m.A m.c W ((HBT.out.1.below h).more h.size) HLE.out (HG.out _ h) hno)
          clear hno
          go_wp2_with fail
          refine BY.out.mono ?_
          rintro e w2 ⟨A7, c7, rfl, r7, hc7, b2⟩
          have BE2 := Lib.hid (btrans BE1.out b2)
          clear r7 hc7 b2 y0 y1 y2 y3 y4 y5 y6 y7 y8 y9 y10 y11 y12 y13 y14
          have y0 : w2.cell? ⟨b, off + jj * 15, none⟩ = some (.int .i8 m.q.kd) := HC.out _ BE2.out jj m HM.out 0 _ rfl
          have y1 := HC.out _ BE2.out jj m HM.out 1 _ rfl
          have y2 := HC.out _ BE2.out jj m HM.out 2 _ rfl
          have y3 := HC.out _ BE2.out jj m HM.out 3 _ rfl
          have y4 := HC.out _ BE2.out jj m HM.out 4 _ rfl
          have y5 := HC.out _ BE2.out jj m HM.out 5 _ rfl
          have y6 := HC.out _ BE2.out jj m HM.out 6 _ rfl
          have y7 := HC.out _ BE2.out jj m HM.out 7 _ rfl
          have y8 := HC.out _ BE2.out jj m HM.out 8 _ rfl
          have y9 := HC.out _ BE2.out jj m HM.out 9 _ rfl
          have y10 := HC.out _ BE2.out jj m HM.out 10 _ rfl
          have y11 := HC.out _ BE2.out jj m HM.out 11 _ rfl
          have y12 := HC.out _ BE2.out jj m HM.out 12 _ rfl
          have y13 := HC.out _ BE2.out jj m HM.out 13 _ rfl
          have y14 := HC.out _ BE2.out jj m HM.out 14 _ rfl
          go_wp2_with fail
          refine (MN.out _ BE2.out).mono ?_
          rintro e w3 ⟨rfl, b3⟩
          have BE3 := Lib.hid (btrans BE2.out b3)
          clear b3 y0 y1 y2 y3 y4 y5 y6 y7 y8 y9 y10 y11 y12 y13 y14
          go_wp2_with fail
          refine (WK.out _ BE3.out).mono ?_
          rintro e w4 ⟨rfl, b4⟩
          have BE4 := Lib.hid (btrans BE3.out b4)
          clear b4
          go_wp2_with fail
          go_ret
          exact ⟨rfl, BE4.out⟩
    · obtain rfl : jj = l.length := by omega
      have q1 : decide ((l.length : Int) < (l.length : Int)) = false := by simp
      rw [List.take_length] at hv
      have HV := Lib.hid hv
      have BE0 := Lib.hid be
      clear hv be
      rw [List.take_length]
      go_wp2_with fail
      go_loopw [3, 7] (fun s3 s7 wq => ∃ j : Nat, j ≤ l.length ∧ s7 = .int .i64 j ∧ s3 = .string (bs (flatQ (l.drop j))) ∧ Below w.heap.size w wq) (fun _ s7 _ => l.length - (intOf s7).toNat)
      case atStart => exact ⟨0, Nat.zero_le _, rfl, rfl, BE0.out⟩
      case round =>
        obtain ⟨jj, hj, rfl, rfl, be⟩ := hrel
        have BE := Lib.hid be
        clear be BE0
        by_cases hlt : jj < l.length
        · have q1 : decide ((jj : Int) < (l.length : Int)) = true := by simp; omega
          obtain ⟨m, hm⟩ : ∃ z, l[jj]? = some z := ⟨_, List.getElem?_eq_getElem hlt⟩
          have hmem : m ∈ l := List.mem_of_getElem? hm
          have hbt := (HRAW.out m hmem).1
          have hok := HV.out m hmem
          obtain ⟨b, off, rfl, hb, hc⟩ := HR.out.plainQ (by omega)
          have HC := Lib.hid (fun W (h : Below w.heap.size w W) (i : Nat) (x : RqM) (hx : l[i]? = some x) (j : Nat) (u : Value) (hu : (cQ x)[j]? = some u) => (h.cell (p := ⟨b, off + i * 15 + j, none⟩) hb).trans (hc i x hx j u hu))
          have i1 : (0 : Int) ≤ (jj : Int) := by omega
          have i2 : (jj : Int) < (l.length : Int) := by omega
          have hfl := flatQ_drop l jj m hm
          have hfn : (flatQ (l.drop (jj + 1))).length ≤ 1500 := by
            have h1 := flatQ_len (l.drop (jj + 1)) fun x hx => HV.out x (List.mem_of_mem_drop hx)
            have h2 : (l.drop (jj + 1)).length ≤ 6 := by rw [List.length_drop]; omega
            omega
          obtain ⟨rest, hrest⟩ : ∃ r, flatQ (l.drop (jj + 1)) = r := ⟨_, rfl⟩
          have HREST := Lib.hid hrest
          rw [hrest] at hfl hfn
          obtain ⟨S, hS⟩ : ∃ S, bs (flatQ (l.drop jj)) = S := ⟨_, rfl⟩
          have hlb : lb S = encRq m.q ++ rest := by rw [← hS, lb_bs, hfl]
          obtain ⟨k1, k2⟩ := encRq_len hok
          have hpre := fun k hk => rq_pre hok (rest := rest) rfl k hk
          have hsz : S.size = (encRq m.q).length + rest.length := by rw [← length_lb, hlb, List.length_append]
          obtain ⟨K, hK⟩ : ∃ K, (encRq m.q).length = K := ⟨_, rfl⟩
          rw [hK] at k1 k2 hsz
          have PRE := Lib.hid (show ∀ k, k ≤ S.size → readRq (lb (S.extract 0 k)) = if k = K then (m.q, 0) else (Rq0, 70) by
            intro k hk
            rw [lb_extract, List.drop_zero, hlb, hpre k (by rw [List.length_append]; omega), hK])
          have CUT := Lib.hid (show S.extract K S.size = bs (flatQ (l.drop (jj + 1))) by
            refine lb_inj ?_
            rw [lb_bs, lb_extract, hlb, hrest, List.take_of_length_le (by rw [List.length_append]; omega), ← hK, List.drop_left])
          rw [hS]
          have hslK : ∀ W : World, (Instr.slice 9 (.string S) (some (.int .i64 (K : Int))) none none).run Tryd.prog W = .ok (.string (S.extract K S.size)) W := by
            intro W
            rw [run_slice_string_from_if W 9 S .i64 _ Tryd.underlying9, if_pos (by omega), Int.toNat_natCast]
          have hK0 : ((K : Int) == 0) = false := eqb_false (by omega)
          have hKS : K ≤ S.size := by omega
          have hSS : S.size ≤ 1750 := by omega
          have HMEM := Lib.hid hmem
          have HBT := Lib.hid hbt
          have HM := Lib.hid hm
          have HOK := Lib.hid hok
          clear hc hmem hbt hm hok hfl hfn hrest hS hlb hpre hK hsz HREST
          go_wp2_with fail
          go_loopw [8, 9] (fun s8 s9 wi => ∃ (k : Nat) (n : Int), k ≤ S.size + 1 ∧ k ≤ 251 ∧ s9 = .int .i64 k ∧ s8 = .int .i64 n ∧ (k ≤ K → n = 0) ∧ (K < k → n = K) ∧ Below w.heap.size w wi) (fun _ s9 _ => 252 - (intOf s9).toNat)
          case atStart => exact ⟨0, 0, by omega, by omega, rfl, rfl, fun _ => rfl, fun h => by omega, BE.out⟩
          case round =>
            obtain ⟨k, n, hk1, hk2, rfl, rfl, hn1, hn2, be⟩ := hrel
            have BI := Lib.hid be
            clear be BE
            by_cases hin : k ≤ S.size ∧ k ≤ 250
            · have e1 : decide ((k : Int) ≤ (S.size : Int)) = true := by simp; omega
              have e2 : decide ((k : Int) ≤ 250) = true := by simp; omega
              obtain ⟨X, hX⟩ : ∃ X, S.extract 0 k = X := ⟨_, rfl⟩
              obtain ⟨cap, W', t1, hrd, bq⟩ := reads_bytes _ X
              have hxs : X.size = k := by rw [← hX, ByteArray.size_extract]; omega
              have hslT : ∀ W : World, (Instr.slice 9 (.string S) none (some (.int .i64 (k : Int))) none).run Tryd.prog W = .ok (.string X) W := by
                intro W
                rw [run_slice_string_to_if W 9 S .i64 _ Tryd.underlying9, if_pos (by omega), Int.toNat_natCast, hX]
              by_cases hkK : k = K
              · have hn0 : n = 0 := hn1 (by omega)
                subst hn0
                have rd := rqRead_s X _ cap _ W' m.q 0 (by rw [← hX, PRE.out k hin.1, if_pos hkK]) hrd (Nat.le_refl _) (by omega) (HG.out _ (btrans BI.out bq))
                have RD := Lib.hid rd
                have BQ := Lib.hid (btrans BI.out bq)
                have HN := Lib.hid (And.intro hkK hin)
                have hia := hin.1
                have hib := hin.2
                clear rd hrd bq hn1 hn2 hkK hin hxs hX
                go_wp2_with fail
                refine RD.out.mono ?_
                rintro e w3 ⟨A5, c5, rfl, o5, b3⟩
                have xr := Reads.of_own (o5.alloc (.cells #[.int .i8 m.q.kd, .int .i64 m.q.tid, .int .i64 m.q.tm, .int .i64 m.q.pid, .int .i64 m.q.ep, .int .i64 m.q.part, .int .i64 m.q.grp, .int .i64 m.q.off, .int .i64 m.q.most, .bool m.q.yes, .int .i64 m.q.b.pid, .int .i64 m.q.b.ep, .int .i64 m.q.b.seq, .bool m.q.b.txn, .slice A5 m.q.b.rs.length c5] 74))
                have kx := blk_new w3 74 #[.int .i8 m.q.kd, .int .i64 m.q.tid, .int .i64 m.q.tm, .int .i64 m.q.pid, .int .i64 m.q.ep, .int .i64 m.q.part, .int .i64 m.q.grp, .int .i64 m.q.off, .int .i64 m.q.most, .bool m.q.yes, .int .i64 m.q.b.pid, .int .i64 m.q.b.ep, .int .i64 m.q.b.seq, .bool m.q.b.txn, .slice A5 m.q.b.rs.length c5] rfl
                have BX := Lib.hid (bal (btrans BQ.out b3) (.cells #[.int .i8 m.q.kd, .int .i64 m.q.tid, .int .i64 m.q.tm, .int .i64 m.q.pid, .int .i64 m.q.ep, .int .i64 m.q.part, .int .i64 m.q.grp, .int .i64 m.q.off, .int .i64 m.q.most, .bool m.q.yes, .int .i64 m.q.b.pid, .int .i64 m.q.b.ep, .int .i64 m.q.b.seq, .bool m.q.b.txn, .slice A5 m.q.b.rs.length c5] 74))
                have hszw : w3.heap.size + 1 = (w3.alloc (.cells #[.int .i8 m.q.kd, .int .i64 m.q.tid, .int .i64 m.q.tm, .int .i64 m.q.pid, .int .i64 m.q.ep, .int .i64 m.q.part, .int .i64 m.q.grp, .int .i64 m.q.off, .int .i64 m.q.most, .bool m.q.yes, .int .i64 m.q.b.pid, .int .i64 m.q.b.ep, .int .i64 m.q.b.seq, .bool m.q.b.txn, .slice A5 m.q.b.rs.length c5] 74)).heap.size := by simp
                clear o5 b3 t1 hslT
                go_wp2_with fail
                generalize w3.alloc (.cells #[.int .i8 m.q.kd, .int .i64 m.q.tid, .int .i64 m.q.tm, .int .i64 m.q.pid, .int .i64 m.q.ep, .int .i64 m.q.part, .int .i64 m.q.grp, .int .i64 m.q.off, .int .i64 m.q.most, .bool m.q.yes, .int .i64 m.q.b.pid, .int .i64 m.q.b.ep, .int .i64 m.q.b.seq, .bool m.q.b.txn, .slice A5 m.q.b.rs.length c5] 74) = w4 at *
                have KX := Lib.hid kx
                have XR := Lib.hid xr
                have SM := Lib.hid (fun n : BW w4.heap.size w4 => rqSame_any m.q m.q A5 m.A c5 m.c n.1 ((xr.below n.2).more n.2.size) ((HBT.out.1.below (btrans BX.out n.2)).more (by have := BX.out.size; have := n.2.size; omega)) (mayRq_le HOK.out))
                rw [(sameRq_iff m.q m.q).2 rfl] at SM
                have hlt4 := kx.lt
                have e20 := bw_cell (B := w4.heap.size) (kx.cell 0) hlt4
                have e21 := bw_cell (B := w4.heap.size) (kx.cell 1) hlt4
                have e22 := bw_cell (B := w4.heap.size) (kx.cell 2) hlt4
                have e23 := bw_cell (B := w4.heap.size) (kx.cell 3) hlt4
                have e24 := bw_cell (B := w4.heap.size) (kx.cell 4) hlt4
                have e25 := bw_cell (B := w4.heap.size) (kx.cell 5) hlt4
                have e26 := bw_cell (B := w4.heap.size) (kx.cell 6) hlt4
                have e27 := bw_cell (B := w4.heap.size) (kx.cell 7) hlt4
                have e28 := bw_cell (B := w4.heap.size) (kx.cell 8) hlt4
                have e29 := bw_cell (B := w4.heap.size) (kx.cell 9) hlt4
                have e30 := bw_cell (B := w4.heap.size) (kx.cell 10) hlt4
                have e31 := bw_cell (B := w4.heap.size) (kx.cell 11) hlt4
                have e32 := bw_cell (B := w4.heap.size) (kx.cell 12) hlt4
                have e33 := bw_cell (B := w4.heap.size) (kx.cell 13) hlt4
                have e34 := bw_cell (B := w4.heap.size) (kx.cell 14) hlt4
                have y0 : ∀ n : BW w4.heap.size w4, n.1.cell? ⟨b, off + jj * 15, none⟩ = some (.int .i8 m.q.kd) := fun n => HC.out _ (btrans BX.out n.2) jj m HM.out 0 _ rfl
                have y1 : ∀ n : BW w4.heap.size w4, n.1.cell? ⟨b, off + jj * 15 + 1, none⟩ = _ := fun n => HC.out _ (btrans BX.out n.2) jj m HM.out 1 _ rfl
                have y2 : ∀ n : BW w4.heap.size w4, n.1.cell? ⟨b, off + jj * 15 + 2, none⟩ = _ := fun n => HC.out _ (btrans BX.out n.2) jj m HM.out 2 _ rfl
                have y3 : ∀ n : BW w4.heap.size w4, n.1.cell? ⟨b, off + jj * 15 + 3, none⟩ = _ := fun n => HC.out _ (btrans BX.out n.2) jj m HM.out 3 _ rfl
                have y4 : ∀ n : BW w4.heap.size w4, n.1.cell? ⟨b, off + jj * 15 + 4, none⟩ = _ := fun n => HC.out _ (btrans BX.out n.2) jj m HM.out 4 _ rfl
                have y5 : ∀ n : BW w4.heap.size w4, n.1.cell? ⟨b, off + jj * 15 + 5, none⟩ = _ := fun n => HC.out _ (btrans BX.out n.2) jj m HM.out 5 _ rfl
                have y6 : ∀ n : BW w4.heap.size w4, n.1.cell? ⟨b, off + jj * 15 + 6, none⟩ = _ := fun n => HC.out _ (btrans BX.out n.2) jj m HM.out 6 _ rfl
                have y7 : ∀ n : BW w4.heap.size w4, n.1.cell? ⟨b, off + jj * 15 + 7, none⟩ = _ := fun n => HC.out _ (btrans BX.out n.2) jj m HM.out 7 _ rfl
                have y8 : ∀ n : BW w4.heap.size w4, n.1.cell? ⟨b, off + jj * 15 + 8, none⟩ = _ := fun n => HC.out _ (btrans BX.out n.2) jj m HM.out 8 _ rfl
                have y9 : ∀ n : BW w4.heap.size w4, n.1.cell? ⟨b, off + jj * 15 + 9, none⟩ = _ := fun n => HC.out _ (btrans BX.out n.2) jj m HM.out 9 _ rfl
                have y10 : ∀ n : BW w4.heap.size w4, n.1.cell? ⟨b, off + jj * 15 + 10, none⟩ = _ := fun n => HC.out _ (btrans BX.out n.2) jj m HM.out 10 _ rfl
                have y11 : ∀ n : BW w4.heap.size w4, n.1.cell? ⟨b, off + jj * 15 + 11, none⟩ = _ := fun n => HC.out _ (btrans BX.out n.2) jj m HM.out 11 _ rfl
                have y12 : ∀ n : BW w4.heap.size w4, n.1.cell? ⟨b, off + jj * 15 + 12, none⟩ = _ := fun n => HC.out _ (btrans BX.out n.2) jj m HM.out 12 _ rfl
                have y13 : ∀ n : BW w4.heap.size w4, n.1.cell? ⟨b, off + jj * 15 + 13, none⟩ = _ := fun n => HC.out _ (btrans BX.out n.2) jj m HM.out 13 _ rfl
                have y14 : ∀ n : BW w4.heap.size w4, n.1.cell? ⟨b, off + jj * 15 + 14, none⟩ = _ := fun n => HC.out _ (btrans BX.out n.2) jj m HM.out 14 _ rfl
                clear kx xr
                refine wp_region_bq w4.heap.size (by kernel_rfl) (by kernel_rfl) ?_
                repeat (go_big_quiet_step ((go_at_call 57; exact bw_call (Nat.le_refl _) (SM.out _))))
                refine wpQuiet_nil ?_
                rintro _ ⟨n, rfl⟩
                have BN := Lib.hid (btrans BX.out n.2)
                clear e20 e21 e22 e23 e24 e25 e26 e27 e28 e29 e30 e31 e32 e33 e34 y0 y1 y2 y3 y4 y5 y6 y7 y8 y9 y10 y11 y12 y13 y14
                go_wp2_with fail
                go_roundw
                case rel => exact ⟨k + 1, k, by omega, by omega, by go_num, rfl, fun h => by have := HN.out.1; omega, fun h => by rw [HN.out.1], BN.out⟩
                case measure => simp [intOf]; omega
              · have rd := rqRead_s X _ cap _ W' Rq0 70 (by rw [← hX, PRE.out k hin.1, if_neg hkK]) hrd (Nat.le_refl _) (by omega) (HG.out _ (btrans BI.out bq))
                have RD := Lib.hid rd
                have BQ := Lib.hid (btrans BI.out bq)
                have HN := Lib.hid (And.intro hkK (And.intro hin (And.intro hn1 hn2)))
                have hia := hin.1
                have hib := hin.2
                clear rd hrd bq hn1 hn2 hkK hin hxs hX
                go_wp2_with fail
                refine RD.out.mono ?_
                rintro e w3 ⟨A5, c5, rfl, o5, b3⟩
                have BX := Lib.hid (bal (btrans BQ.out b3) (.cells #[.int .i8 Rq0.kd, .int .i64 Rq0.tid, .int .i64 Rq0.tm, .int .i64 Rq0.pid, .int .i64 Rq0.ep, .int .i64 Rq0.part, .int .i64 Rq0.grp, .int .i64 Rq0.off, .int .i64 Rq0.most, .bool Rq0.yes, .int .i64 Rq0.b.pid, .int .i64 Rq0.b.ep, .int .i64 Rq0.b.seq, .bool Rq0.b.txn, .slice A5 Rq0.b.rs.length c5] 74))
                clear o5 b3 t1 hslT
                go_wp2_with fail
                have BX2 := Lib.hid BX.out
                refine wp_region_bq (w3.heap.size + 1) (by kernel_rfl) (by kernel_rfl) ?_
                repeat (go_big_quiet_step (fail))
                refine wpQuiet_nil ?_
                rintro _ ⟨n, rfl⟩
                have BN := Lib.hid (BX2.out.trans (n.2.mono (by have := BX2.out.size; simp at this; omega)))
                go_wp2_with fail
                go_roundw
                case rel =>
                  refine ⟨k + 1, _, by omega, by omega, by go_num, rfl, fun h => HN.out.2.2.1 (by omega), fun h => HN.out.2.2.2 (by have := HN.out.1; omega), BN.out⟩
                case measure => simp [intOf]; omega
            · have hnK : n = K := hn2 (by omega)
              subst hnK
              clear hn1 hn2
              by_cases hin1 : k ≤ S.size
              · have e1 : decide ((k : Int) ≤ (S.size : Int)) = true := by simp; omega
                have e2 : decide ((k : Int) ≤ 250) = false := by simp; omega
                clear hin
                go_wp2_with fail
                rw [CUT.out]
                go_roundw
                case rel => exact ⟨jj + 1, by omega, by go_num, rfl, BI.out⟩
                case measure => simp [intOf]; omega
              · have e1 : decide ((k : Int) ≤ (S.size : Int)) = false := by simp; omega
                clear hin
                go_wp2_with fail
                rw [CUT.out]
                go_roundw
                case rel => exact ⟨jj + 1, by omega, by go_num, rfl, BI.out⟩
                case measure => simp [intOf]; omega
        · obtain rfl : jj = l.length := by omega
          have q1 : decide ((l.length : Int) < (l.length : Int)) = false := by simp
          rw [show bs (flatQ (l.drop l.length)) = ⟨#[]⟩ by rw [List.drop_length]; rfl]
          go_wp2_with fail
          refine (WK.out _ BE.out).mono ?_
          rintro e w2 ⟨rfl, b2⟩
          have BE2 := Lib.hid (btrans BE.out b2)
          clear b2
          go_wp2_with fail
          go_ret
          exact ⟨rfl, BE2.out⟩
theorem rfirst_walk (l : List RqM) (A : Option Addr) (c : Nat) (w : World) (hr : Reads w w.heap.size 15 A l.length (cellsQ l)) (hraw : ∀ m ∈ l, RqRaw w m.q m.A) (hg : HasET w) :
    Calls Tryd.prog 11 #[.slice A l.length c] w fun e w' => e = .returned (.bool true) ∧ Below w.heap.size w w' := by
  by_cases h : 6 < l.length
  · exact rfirst_big A _ c w hg h
  · exact rfirst_ok l A c w hr hraw hg (by omega)
end Go.Proofs.YtcockikekgmfkaaDoor
namespace Go.Proofs.YtcockikekgmfkaaDoor
open Go.Joins Go.ChangeShapes Go.WideShapes Go.RowKit Go.Deep

section
variable {H : Type} {enc : TypeId × Value → H} {W : World}
set_option maxRecDepth 100000 in
theorem open_rqs {r : Reach} {base : Nat} {v : Value} {d : DataW H} {p : List MemPlace} (hv : Value.okWide Tryd.prog W r base 79 v) (h : DataW.Trod enc Tryd.prog W 0 (fun _ => true) true 79 v d p) :
    ∃ (A : Option Addr) (c : Nat) (l : List RqM), v = .slice A l.length c ∧ Reads W W.heap.size 15 A l.length (cellsQ l) ∧ ∀ m ∈ l, RqRaw W m.q m.A := by
  obtain ⟨a0, len, cap, rfl⟩ := okWide_slice Tryd.underlying79 hv
  obtain ⟨fuel, hf⟩ := h
  have hf' : DataW.trod enc Tryd.prog W 0 (fun _ => true) true fuel 79 [.slice a0 len cap] = some (d, p) := hf
  rcases open_slice Tryd.underlying79 hf' with ⟨hcs, _⟩ | ⟨a, len', cap', m, n, D, Pl, hcs, _, hl, hm, hmm, hx, hi⟩
  · simp at hcs
    obtain ⟨rfl, rfl, rfl⟩ := hcs
    exact ⟨none, 0, [], rfl, Reads.none_, by simp⟩
  · simp at hcs
    obtain ⟨rfl, rfl, rfl⟩ := hcs
    simp only [if_true] at hmm
    subst hmm
    have hC : Tryd.prog.cellsOf 74 = 15 := by kernel_rfl
    rw [hC] at hi
    have hp : ∀ i, ∃ x : RqM, RqRaw W x.q x.A ∧ (i < len → ∀ j u, (cQ x)[j]? = some u → W.cell? (a.add (i * 15 + j)) = some u) := by
      intro i
      by_cases hlt : i < len
      · obtain ⟨cs', hc, ht⟩ := hi i (by omega)
        obtain ⟨q, A1, c1, e, hq⟩ := trod_rq ht
        obtain ⟨_, hcl, hat⟩ := World.cells?_some hc
        refine ⟨⟨q, A1, c1⟩, hq, fun _ j u hu => ?_⟩
        have hj : j < 15 := (List.getElem?_eq_some_iff.1 hu).1
        have h1 := hat j hj
        rw [e] at h1
        rw [← Go.Deep.add_add, h1]
        exact hu
      · exact ⟨⟨Rq0, none, 0⟩, ⟨⟨Reads.none_, Nat.zero_le _, fun r hr => by cases hr⟩, by decide, fun v hv => by
          simp only [List.mem_cons, List.not_mem_nil, or_false] at hv
          have : v = 0 := by rcases hv with h | h | h | h | h | h | h | h | h | h | h <;> exact h
          rw [this]; unfold i64In; decide⟩, fun h => absurd h hlt⟩
    have hget : ∀ i x, ((List.range len).map fun i => Classical.choose (hp i))[i]? = some x → i < len ∧ x = Classical.choose (hp i) := by
      intro i x hx
      rw [List.getElem?_map, Option.map_eq_some_iff] at hx
      obtain ⟨i', hi', rfl⟩ := hx
      have hlt : i < len := by
        have := (List.getElem?_eq_some_iff.1 hi').1
        simpa using this
      rw [List.getElem?_range hlt] at hi'
      obtain rfl : i = i' := by simpa using hi'
      exact ⟨hlt, rfl⟩
    refine ⟨some a, m, (List.range len).map fun i => Classical.choose (hp i), by simp, ⟨by rw [length_cellsQ], fun hn => ⟨a, rfl, ?_, fun j u hu => ?_⟩⟩, fun x hx => ?_⟩
    · have hn' : 0 < len := by simpa using hn
      exact cell_block ((Classical.choose_spec (hp 0)).2 hn' 0 _ rfl)
    · have hlj : j < len * 15 := by
        have := (List.getElem?_eq_some_iff.1 hu).1
        rw [length_cellsQ] at this
        simpa using this
      have hi15 : j / 15 < len := by omega
      have hg : ((List.range len).map fun i => Classical.choose (hp i))[j / 15]? = some (Classical.choose (hp (j / 15))) := by
        rw [List.getElem?_map, List.getElem?_range hi15]; rfl
      have h1 := cellsQ_at _ (j / 15) _ (j % 15) hg (by omega)
      have e1 : j / 15 * 15 + j % 15 = j := by omega
      rw [e1, hu] at h1
      have h2 := (Classical.choose_spec (hp (j / 15))).2 hi15 (j % 15) u h1.symm
      rw [e1] at h2
      exact h2
    · obtain ⟨i, _, rfl⟩ := List.mem_map.1 hx
      exact (Classical.choose_spec (hp i)).1
end
end Go.Proofs.YtcockikekgmfkaaDoor
namespace Go.Proofs.YtcockikekgmfkaaDoor.requestFirst
open Go.ChangeShapes Go.WideShapes Go.ChangeAt Go.RowKit
open Go.ChangeMaps (open_string shut_string)
set_option linter.unusedVariables false

theorem laid_met (os : Os) : laidMetH Tryd.prog Rows.requestFirstRow.laid ((laidWorld os).forCall (fun _ _ => 0) ⟨#[], #[.slice none 0 0], []⟩).memory :=
  laidMetH_of_parts (laidMet_nil _ _) (by kernel_rfl)
theorem reads (os : Os) {H : Type} (enc : TypeId × Value → H) : ∃ places, DataW.whole enc Tryd.prog ((laidWorld os).forCall (fun _ _ => 0) ⟨#[], #[.slice none 0 0], []⟩).memory Tryd.f11.params.toList Rows.requestFirstSpec.vars false (#[.slice none 0 0] : Array Value).toList 8 = some ([.nil], [], places) :=
  ⟨[], by kernel_rfl⟩

set_option maxRecDepth 100000 in
theorem lifted (os : Os) (started : os.Started) (H : Type) (enc : TypeId × Value → H) (F : Stop.Interp) :
    ReturnsInHanded {} Tryd.checked os 11 .any ((OpenSpec.ofChange Rows.requestFirstSpec).preRow enc Tryd.prog Tryd.f11 Rows.requestFirstRow.domain false Rows.requestFirstRow.laid) (((OpenSpec.ofChange Rows.requestFirstSpec).at F).post enc Tryd.prog Tryd.f11 false true false false) := by
  obtain ⟨places, hx⟩ := reads os enc
  refine returnsInHanded_of_row (C := Tryd.checked) (s := OpenSpec.ofChange Rows.requestFirstSpec) own started (by kernel_rfl) Tryd.func11
    (witness_row_at (enc := enc) (C := Tryd.checked) false (laidWorld os) #[.slice none 0 0] rfl (by kernel_rfl) (by kernel_rfl) (by kernel_rfl)
      (OpenSpec.preRow_of_cond 8 hx (by kernel_rfl) (fun k hk => by cases hk) (by kernel_rfl) (laid_met os))) ?_
  intro W base args ds gs before hval0 hW _ _ hsz0 hL _ _
  have hg : HasET W := hasErr_of_laid hL
  have hval : ∀ (j : Nat) t v, Tryd.f11.params[j]? = some t → args[j]? = some v → Value.okWide Tryd.prog W .any base t v := hval0
  have hsz : (DataW.weightsEach Tryd.prog (Tryd.f11.params.toList ++ Rows.requestFirstSpec.plain.varTypes Tryd.prog) (ds ++ gs)).all (· ≤ reachBytes) = true := hsz0
  have hW' := hW
  obtain ⟨p, q, hA0, hV, rfl, hfz, hnd⟩ := hW
  have hA : DataW.TrodAll enc Tryd.prog W 0 (fun _ => true) true Tryd.f11.params.toList args.toList ds p := hA0
  rw [Tryd.params11] at hA hval hsz
  obtain ⟨v0, vs0, d0, ds0, p0, q0, hargs, rfl, rfl, h0, r0⟩ := trodAll_cons hA
  obtain ⟨rfl, rfl, rfl⟩ := trodAll_nil r0
  obtain rfl : args = #[v0] := by cases args; simp_all
  obtain ⟨rfl, rfl⟩ := trodVars_none hV
  have k0 := h0
  have lt0 : ∀ x ∈ p0, x.block < W.heap.size := by obtain ⟨m, hm⟩ := k0; exact DataW.trod_lt m _ _ _ hm
  obtain ⟨A0, c0, rl0, rfl, rr0, rw0⟩ := open_rqs (hval 0 79 v0 rfl rfl) h0
  clear hA0 hval0 hsz0
  refine (rfirst_walk rl0 A0 c0 W rr0 rw0 hg).mono fun e W' ⟨he, bel⟩ => ?_
  subst he
  exact ⟨_, rfl, _, _, _, [], _, [], hW', trodAll_mk1 (shut_bool Tryd.underlying4 _), (trodAll_cons_mk (Below.trod laidOut (by kernel_rfl) (of_decide_eq_true (by kernel_rfl)) k0 bel lt0) trodAll_mk0), rfl, bel.frame _, fun h => by cases h⟩

theorem said : Rows.RequestFirstSaid :=
  OpenClaim.holds_of_cond 11 Tryd.f11 rfl rfl rfl rfl rfl rfl rfl ⟨rfl, rfl, rfl, rfl, rfl⟩ rfl rfl rfl rfl rfl (by kernel_rfl) Tryd.func11 (by kernel_rfl)
    (of_decide_eq_true (by kernel_rfl)) (by unfold Func.isWrapper; first | (rw [if_pos (by decide +kernel)]; kernel_rfl) | (rw [if_neg (by decide +kernel)]; exact ⟨rfl, rfl⟩))
    (fun os started H enc _ F => by rw [OpenClaim.pre_eq_preRow]; exact lifted os started H enc F)

theorem plain (f : FuncId) (fn : Func) (hf : Tryd.pinned.checked.prog.funcNamed "roving/rovinglaw08.RequestFirst" = some f) (hfn : Tryd.pinned.checked.prog.funcs[f]? = some fn) :
    true = Tryd.pinned.checked.prog.looks [] ∧ ∀ (j : Nat) t, fn.params[j]? = some t → Tryd.pinned.checked.prog.wantsStandIn t = false := by
  obtain rfl : f = 11 := Option.some.inj ((show Tryd.prog.funcNamed "roving/rovinglaw08.RequestFirst" = some 11 by kernel_rfl).symm.trans hf) |>.symm
  obtain rfl : fn = Tryd.f11 := (Option.some.inj (Tryd.func11.symm.trans hfn)).symm
  refine ⟨by kernel_rfl, fun j t ht => ?_⟩
  rw [Tryd.params11] at ht
  have hm : t = 79 := by simpa using Array.mem_of_getElem? ht
  subst hm; exact (show Tryd.prog.wantsStandIn _ = false by kernel_rfl)

/-- THE CARD. -/
theorem card : Rows.RequestFirstCardSaid :=
  Claim7.holds_tied_plain_at .later [] _ _ _ _ said (fun _ h => by cases h) (by kernel_rfl) (fun _ h => by cases h) requestFirst_row_tie rfl ⟨rfl, rfl⟩ (by kernel_rfl) rfl plain (by kernel_rfl)
end Go.Proofs.YtcockikekgmfkaaDoor.requestFirst
