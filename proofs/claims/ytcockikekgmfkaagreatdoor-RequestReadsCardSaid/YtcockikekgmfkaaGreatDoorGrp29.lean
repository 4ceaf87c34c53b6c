/-
  The document's Bytes of a request, kind 2.
  The document's May of a request, kind 8.
  The document's May of a request, kind 9.
  The document's May of a request, of any kind.
  The document's numbers: some numbers put behind bytes.
  The document's Bytes of a request, kind 0.
  The document's Bytes of a request, kind 1.
-/
import Derived.Test.YtcockikekgmfkaaGreatDoorGrp27
import Derived.Test.YtcockikekgmfkaaGreatDoorGrp28
import Derived.Test.YtcockikekgmfkaaGreatDoorGrp04
import Derived.Test.YtcockikekgmfkaaGreatDoorGrp18
set_option linter.unusedVariables false
set_option linter.unusedSimpArgs false
namespace Go.Proofs.YtcockikekgmfkaaGreatDoor
open Go.RowKit

def own8_8 (q : Rq) : Rq := ⟨q.kd, 0, 0, 0, 0, q.part, 0, q.off, 0, false, Bat0⟩
theorem may8_8 (q : Rq) (hk : q.kd = 8) : mayRq q ↔ (inQ q.part 0 2 = true ∧ inQ q.off 0 1048576 = true) ∧ own8_8 q = q := by
  have hf : flOf q.kd = [.part, .off] := by rw [hk]; rfl
  have ho : ownRq q = own8_8 q := by
    unfold ownRq own8_8
    rw [hf]
    refine Rq.ext' rfl ?_ ?_ ?_ ?_ ?_ ?_ ?_ ?_ ?_ ?_
    · exact (if_neg (by decide) : (if Fl.tid ∈ ([.part, .off] : List Fl) then q.tid else (0 : Int)) = 0)
    · exact (if_neg (by decide) : (if Fl.tm ∈ ([.part, .off] : List Fl) then q.tm else (0 : Int)) = 0)
    · exact (if_neg (by decide) : (if Fl.pid ∈ ([.part, .off] : List Fl) then q.pid else (0 : Int)) = 0)
    · exact (if_neg (by decide) : (if Fl.ep ∈ ([.part, .off] : List Fl) then q.ep else (0 : Int)) = 0)
    · exact (if_pos (by decide) : (if Fl.part ∈ ([.part, .off] : List Fl) then q.part else (0 : Int)) = q.part)
    · exact (if_neg (by decide) : (if Fl.grp ∈ ([.part, .off] : List Fl) then q.grp else (0 : Int)) = 0)
    · exact (if_pos (by decide) : (if Fl.off ∈ ([.part, .off] : List Fl) then q.off else (0 : Int)) = q.off)
    · exact (if_neg (by decide) : (if Fl.most ∈ ([.part, .off] : List Fl) then q.most else (0 : Int)) = 0)
    · exact (if_neg (by decide) : (if Fl.yes ∈ ([.part, .off] : List Fl) then q.yes else (false : Bool)) = false)
    · exact (if_neg (by decide) : (if Fl.bat ∈ ([.part, .off] : List Fl) then q.b else (Bat0 : Bat)) = Bat0)
  rw [may_own, hf, ho]
  constructor
  · rintro ⟨_, h, hh⟩
    exact ⟨⟨(cI_iff 0 2 q.part (by decide)).1 (h .part (by decide)), (cI_iff 0 1048576 q.off (by decide)).1 (h .off (by decide))⟩, hh⟩
  · rintro ⟨⟨h0, h1⟩, hh⟩
    refine ⟨⟨by omega, by omega⟩, fun f hf => ?_, hh⟩
    cases f
    case part => exact (cI_iff 0 2 q.part (by decide)).2 h0
    case off => exact (cI_iff 0 1048576 q.off (by decide)).2 h1
    all_goals exact absurd hf (by decide)
set_option maxRecDepth 100000 in
set_option maxHeartbeats 4000000 in
theorem rrMay_8 (q : Rq) (hk : q.kd = 8) (A1 : Option Addr) (c1 : Nat) (w : World) (hr : Reads w w.heap.size 2 A1 q.b.rs.length (cellsR q.b.rs)) (hl : q.b.rs.length ≤ 1000000) :
    Calls Tryz.prog 10 #[(.agg #[.int .i8 q.kd, .int .i64 q.tid, .int .i64 q.tm, .int .i64 q.pid, .int .i64 q.ep, .int .i64 q.part, .int .i64 q.grp, .int .i64 q.off, .int .i64 q.most, .bool q.yes, .int .i64 q.b.pid, .int .i64 q.b.ep, .int .i64 q.b.seq, .bool q.b.txn, .slice A1 q.b.rs.length c1])] w fun e w' => ∃ r, e = .returned (.bool r) ∧ (r = true ↔ mayRq q) ∧ Below w.heap.size w w' := by
  have HR := Lib.hid (fun W (h : Below w.heap.size w W) => (hr.below h).more h.size)
  have HB := Lib.hid (fun x y => bal (bal (Below.refl w.heap.size w) x) y)
  have HK := Lib.hid (may8_8 q hk)
  have cc0 : (q.kd == 0) = false := by rw [hk]; rfl
  have cc1 : (q.kd == 1) = false := by rw [hk]; rfl
  have cc2 : (q.kd == 2) = false := by rw [hk]; rfl
  have cc3 : (q.kd == 3) = false := by rw [hk]; rfl
  have cc4 : (q.kd == 4) = false := by rw [hk]; rfl
  have cc5 : (q.kd == 5) = false := by rw [hk]; rfl
  have cc6 : (q.kd == 6) = false := by rw [hk]; rfl
  have cc7 : (q.kd == 7) = false := by rw [hk]; rfl
  have cc8 : (q.kd == 8) = true := by rw [hk]; rfl
  have cc9 : (q.kd == 9) = false := by rw [hk]; rfl
  have SM := Lib.hid (fun W (h : Below w.heap.size w W) => rrSame_any (own8_8 q) q none A1 0 c1 W Reads.none_ (HR.out W h) (Nat.zero_le _))
  clear hr hk hl
  go_enter Tryz.func10, Tryz.ntmps10
  go_wp2_with (first | (go_at_call 23; refine (in8_any _ _ _ _).mono ?_; rintro e w1 ⟨rfl, rfl⟩) | (go_at_call 12; refine (SM.out _ (HB.out _ _)).mono ?_; rintro e w2 ⟨rfl, b2⟩; have B2 := Lib.hid (btrans (HB.out _ _) b2); clear b2))
  all_goals go_ret
  all_goals (refine ⟨_, rfl, ?_, (by first | exact B2.out | exact HB.out _ _)⟩; rw [HK.out]; first | (rw [sameRq_iff]; simp [*]) | simp [*])
end Go.Proofs.YtcockikekgmfkaaGreatDoor
namespace Go.Proofs.YtcockikekgmfkaaGreatDoor
open Go.RowKit

def own8_9 (q : Rq) : Rq := ⟨q.kd, 0, 0, 0, 0, 0, 0, 0, 0, false, Bat0⟩
theorem may8_9 (q : Rq) (hk : q.kd = 9) : mayRq q ↔ (True) ∧ own8_9 q = q := by
  have hf : flOf q.kd = [] := by rw [hk]; rfl
  have ho : ownRq q = own8_9 q := by
    unfold ownRq own8_9
    rw [hf]
    refine Rq.ext' rfl ?_ ?_ ?_ ?_ ?_ ?_ ?_ ?_ ?_ ?_
    · exact (if_neg (by decide) : (if Fl.tid ∈ ([] : List Fl) then q.tid else (0 : Int)) = 0)
    · exact (if_neg (by decide) : (if Fl.tm ∈ ([] : List Fl) then q.tm else (0 : Int)) = 0)
    · exact (if_neg (by decide) : (if Fl.pid ∈ ([] : List Fl) then q.pid else (0 : Int)) = 0)
    · exact (if_neg (by decide) : (if Fl.ep ∈ ([] : List Fl) then q.ep else (0 : Int)) = 0)
    · exact (if_neg (by decide) : (if Fl.part ∈ ([] : List Fl) then q.part else (0 : Int)) = 0)
    · exact (if_neg (by decide) : (if Fl.grp ∈ ([] : List Fl) then q.grp else (0 : Int)) = 0)
    · exact (if_neg (by decide) : (if Fl.off ∈ ([] : List Fl) then q.off else (0 : Int)) = 0)
    · exact (if_neg (by decide) : (if Fl.most ∈ ([] : List Fl) then q.most else (0 : Int)) = 0)
    · exact (if_neg (by decide) : (if Fl.yes ∈ ([] : List Fl) then q.yes else (false : Bool)) = false)
    · exact (if_neg (by decide) : (if Fl.bat ∈ ([] : List Fl) then q.b else (Bat0 : Bat)) = Bat0)
  rw [may_own, hf, ho]
  constructor
  · rintro ⟨_, h, hh⟩
    exact ⟨trivial, hh⟩
  · rintro ⟨_, hh⟩
    refine ⟨⟨by omega, by omega⟩, fun f hf => ?_, hh⟩
    cases f
    all_goals exact absurd hf (by decide)
set_option maxRecDepth 100000 in
set_option maxHeartbeats 4000000 in
theorem rrMay_9 (q : Rq) (hk : q.kd = 9) (A1 : Option Addr) (c1 : Nat) (w : World) (hr : Reads w w.heap.size 2 A1 q.b.rs.length (cellsR q.b.rs)) (hl : q.b.rs.length ≤ 1000000) :
    Calls Tryz.prog 10 #[(.agg #[.int .i8 q.kd, .int .i64 q.tid, .int .i64 q.tm, .int .i64 q.pid, .int .i64 q.ep, .int .i64 q.part, .int .i64 q.grp, .int .i64 q.off, .int .i64 q.most, .bool q.yes, .int .i64 q.b.pid, .int .i64 q.b.ep, .int .i64 q.b.seq, .bool q.b.txn, .slice A1 q.b.rs.length c1])] w fun e w' => ∃ r, e = .returned (.bool r) ∧ (r = true ↔ mayRq q) ∧ Below w.heap.size w w' := by
  have HR := Lib.hid (fun W (h : Below w.heap.size w W) => (hr.below h).more h.size)
  have HB := Lib.hid (fun x y => bal (bal (Below.refl w.heap.size w) x) y)
  have HK := Lib.hid (may8_9 q hk)
  have cc0 : (q.kd == 0) = false := by rw [hk]; rfl
  have cc1 : (q.kd == 1) = false := by rw [hk]; rfl
  have cc2 : (q.kd == 2) = false := by rw [hk]; rfl
  have cc3 : (q.kd == 3) = false := by rw [hk]; rfl
  have cc4 : (q.kd == 4) = false := by rw [hk]; rfl
  have cc5 : (q.kd == 5) = false := by rw [hk]; rfl
  have cc6 : (q.kd == 6) = false := by rw [hk]; rfl
  have cc7 : (q.kd == 7) = false := by rw [hk]; rfl
  have cc8 : (q.kd == 8) = false := by rw [hk]; rfl
  have cc9 : (q.kd == 9) = true := by rw [hk]; rfl
  have SM := Lib.hid (fun W (h : Below w.heap.size w W) => rrSame_any (own8_9 q) q none A1 0 c1 W Reads.none_ (HR.out W h) (Nat.zero_le _))
  clear hr hk hl
  go_enter Tryz.func10, Tryz.ntmps10
  go_wp2_with (first | (go_at_call 23; refine (in8_any _ _ _ _).mono ?_; rintro e w1 ⟨rfl, rfl⟩) | (go_at_call 12; refine (SM.out _ (HB.out _ _)).mono ?_; rintro e w2 ⟨rfl, b2⟩; have B2 := Lib.hid (btrans (HB.out _ _) b2); clear b2))
  all_goals go_ret
  all_goals (refine ⟨_, rfl, ?_, (by first | exact B2.out | exact HB.out _ _)⟩; rw [HK.out]; first | (rw [sameRq_iff]; simp [*]) | simp [*])
end Go.Proofs.YtcockikekgmfkaaGreatDoor
namespace Go.Proofs.YtcockikekgmfkaaGreatDoor
open Go.RowKit

set_option maxRecDepth 100000 in
set_option maxHeartbeats 4000000 in
theorem rrMay_x (q : Rq) (hk : ¬ (0 ≤ q.kd ∧ q.kd ≤ 9)) (A1 : Option Addr) (c1 : Nat) (w : World) :
    Calls Tryz.prog 10 #[(.agg #[.int .i8 q.kd, .int .i64 q.tid, .int .i64 q.tm, .int .i64 q.pid, .int .i64 q.ep, .int .i64 q.part, .int .i64 q.grp, .int .i64 q.off, .int .i64 q.most, .bool q.yes, .int .i64 q.b.pid, .int .i64 q.b.ep, .int .i64 q.b.seq, .bool q.b.txn, .slice A1 q.b.rs.length c1])] w fun e w' => ∃ r, e = .returned (.bool r) ∧ (r = true ↔ mayRq q) ∧ Below w.heap.size w w' := by
  have HB := Lib.hid (fun x y => bal (bal (Below.refl w.heap.size w) x) y)
  have HK := Lib.hid (show ¬ mayRq q from fun h => hk h.1)
  have cc0 : (q.kd == 0) = false := eqb_false (by omega)
  have cc1 : (q.kd == 1) = false := eqb_false (by omega)
  have cc2 : (q.kd == 2) = false := eqb_false (by omega)
  have cc3 : (q.kd == 3) = false := eqb_false (by omega)
  have cc4 : (q.kd == 4) = false := eqb_false (by omega)
  have cc5 : (q.kd == 5) = false := eqb_false (by omega)
  have cc6 : (q.kd == 6) = false := eqb_false (by omega)
  have cc7 : (q.kd == 7) = false := eqb_false (by omega)
  have cc8 : (q.kd == 8) = false := eqb_false (by omega)
  have cc9 : (q.kd == 9) = false := eqb_false (by omega)
  clear hk
  go_enter Tryz.func10, Tryz.ntmps10
  go_wp2_with (go_at_call 23; refine (in8_any _ _ _ _).mono ?_; rintro e w1 ⟨rfl, rfl⟩)
  all_goals go_ret
  all_goals exact ⟨false, rfl, ⟨fun h => (by cases h), fun h => absurd h HK.out⟩, HB.out _ _⟩
theorem rrMay_e (q : Rq) (A1 : Option Addr) (c1 : Nat) (w : World) (hr : Reads w w.heap.size 2 A1 q.b.rs.length (cellsR q.b.rs)) (hl : q.b.rs.length ≤ 1000000) :
    Calls Tryz.prog 10 #[(.agg #[.int .i8 q.kd, .int .i64 q.tid, .int .i64 q.tm, .int .i64 q.pid, .int .i64 q.ep, .int .i64 q.part, .int .i64 q.grp, .int .i64 q.off, .int .i64 q.most, .bool q.yes, .int .i64 q.b.pid, .int .i64 q.b.ep, .int .i64 q.b.seq, .bool q.b.txn, .slice A1 q.b.rs.length c1])] w fun e w' => ∃ r, e = .returned (.bool r) ∧ (r = true ↔ mayRq q) ∧ Below w.heap.size w w' := by
  by_cases hk : 0 ≤ q.kd ∧ q.kd ≤ 9
  · have hh : q.kd = 0 ∨ q.kd = 1 ∨ q.kd = 2 ∨ q.kd = 3 ∨ q.kd = 4 ∨ q.kd = 5 ∨ q.kd = 6 ∨ q.kd = 7 ∨ q.kd = 8 ∨ q.kd = 9 := by omega
    rcases hh with h | h | h | h | h | h | h | h | h | h
    · exact rrMay_0 q h A1 c1 w hr hl
    · exact rrMay_1 q h A1 c1 w hr hl
    · exact rrMay_2 q h A1 c1 w hr hl
    · exact rrMay_3 q h A1 c1 w hr hl
    · exact rrMay_4 q h A1 c1 w hr hl
    · exact rrMay_5 q h A1 c1 w hr hl
    · exact rrMay_6 q h A1 c1 w hr hl
    · exact rrMay_7 q h A1 c1 w hr hl
    · exact rrMay_8 q h A1 c1 w hr hl
    · exact rrMay_9 q h A1 c1 w hr hl
  · exact rrMay_x q hk A1 c1 w
theorem rrMay_ok (q : Rq) (A1 : Option Addr) (c1 : Nat) (w : World) (hr : Reads w w.heap.size 2 A1 q.b.rs.length (cellsR q.b.rs)) (hl : q.b.rs.length ≤ 1000000) (hm : mayRq q) :
    Calls Tryz.prog 10 #[(.agg #[.int .i8 q.kd, .int .i64 q.tid, .int .i64 q.tm, .int .i64 q.pid, .int .i64 q.ep, .int .i64 q.part, .int .i64 q.grp, .int .i64 q.off, .int .i64 q.most, .bool q.yes, .int .i64 q.b.pid, .int .i64 q.b.ep, .int .i64 q.b.seq, .bool q.b.txn, .slice A1 q.b.rs.length c1])] w fun e w' => e = .returned (.bool true) ∧ Below w.heap.size w w' :=
  (rrMay_e q A1 c1 w hr hl).mono fun e w' ⟨r, he, hi, hb⟩ => ⟨by rw [he, hi.2 hm], hb⟩
theorem rrMay_no (q : Rq) (A1 : Option Addr) (c1 : Nat) (w : World) (hr : Reads w w.heap.size 2 A1 q.b.rs.length (cellsR q.b.rs)) (hl : q.b.rs.length ≤ 1000000) (hm : ¬ mayRq q) :
    Calls Tryz.prog 10 #[(.agg #[.int .i8 q.kd, .int .i64 q.tid, .int .i64 q.tm, .int .i64 q.pid, .int .i64 q.ep, .int .i64 q.part, .int .i64 q.grp, .int .i64 q.off, .int .i64 q.most, .bool q.yes, .int .i64 q.b.pid, .int .i64 q.b.ep, .int .i64 q.b.seq, .bool q.b.txn, .slice A1 q.b.rs.length c1])] w fun e w' => e = .returned (.bool false) ∧ Below w.heap.size w w' :=
  (rrMay_e q A1 c1 w hr hl).mono fun e w' ⟨r, he, hi, hb⟩ => ⟨by rw [he]; cases r; rfl; exact absurd (hi.1 rfl) hm, hb⟩
end Go.Proofs.YtcockikekgmfkaaGreatDoor
namespace Go.Proofs.YtcockikekgmfkaaGreatDoor
open Go.RowKit

def cellsN (ns : List Int) : List Value := ns.map fun n => .int .i64 n
theorem length_cellsN (ns : List Int) : (cellsN ns).length = ns.length := by simp [cellsN]
def encs (ns : List Int) : List UInt8 := ns.flatMap fun n => enc n.toNat
theorem encs_snoc (ns : List Int) (j : Nat) (n : Int) (h : ns[j]? = some n) : encs (ns.take (j + 1)) = encs (ns.take j) ++ enc n.toNat := by
  obtain ⟨h1, h2⟩ := List.getElem?_eq_some_iff.1 h
  rw [List.take_succ_eq_append_getElem h1, h2]
  simp [encs]
theorem encs_len : ∀ (ns : List Int), (∀ n ∈ ns, 0 ≤ n ∧ n ≤ 1048576) → (encs ns).length ≤ 3 * ns.length
  | [], _ => Nat.le_refl _
  | n :: ns, h => by
    show (enc n.toNat ++ encs ns).length ≤ _
    rw [List.length_append, List.length_cons]
    have h1 := enc_len3 n.toNat (by have := h n (List.mem_cons_self ..); omega)
    have h2 := encs_len ns fun x hx => h x (List.mem_cons_of_mem _ hx)
    omega
def NumsPost (L : List UInt8) (w : World) (e : Ending) (w' : World) : Prop :=
  ∃ A c, e = .returned (.slice A L.length c) ∧ Reads w' w'.heap.size 1 A L.length (cellsB L) ∧ L.length ≤ c ∧ Below w.heap.size w w'

set_option maxRecDepth 100000 in
set_option maxHeartbeats 4000000 in
theorem numbers_any (A : Option Addr) (l0 : List UInt8) (c : Nat) (Ai : Option Addr) (ns : List Int) (ci : Nat) (w : World) (hr : Reads w w.heap.size 1 A l0.length (cellsB l0)) (hi : Reads w w.heap.size 1 Ai ns.length (cellsN ns))
    (hn : ∀ n ∈ ns, 0 ≤ n ∧ n ≤ 1048576) (hl : l0.length ≤ 1000) (hk : ns.length ≤ 10) (hc : l0.length ≤ c) :
    Calls Tryz.prog 19 #[.slice A l0.length c, .slice Ai ns.length ci] w (NumsPost (l0 ++ encs ns) w) := by
  have HR := Lib.hid hr
  have HI := Lib.hid hi
  have HN := Lib.hid hn
  have HC := Lib.hid hc
  clear hr hi hn hc
  go_enter Tryz.func19, Tryz.ntmps19
  go_wp2_with fail
  go_loopw [0, 5] (fun s0 s5 wr => ∃ (j : Nat) (A' : Option Addr) (c' : Nat), j ≤ ns.length ∧ s5 = .int .i64 j ∧ s0 = .slice A' (l0 ++ encs (ns.take j)).length c' ∧ Reads wr wr.heap.size 1 A' (l0 ++ encs (ns.take j)).length (cellsB (l0 ++ encs (ns.take j))) ∧ (l0 ++ encs (ns.take j)).length ≤ c' ∧ Below w.heap.size w wr) (fun _ s5 _ => ns.length - (intOf s5).toNat)
  case atStart =>
    refine ⟨0, A, c, Nat.zero_le _, rfl, ?_, ?_, ?_, Below.refl _ _⟩
    · show Value.slice A l0.length c = .slice A (l0 ++ []).length c; rw [List.append_nil]
    · show Reads _ _ 1 A (l0 ++ []).length (cellsB (l0 ++ [])); rw [List.append_nil]; exact HR.out
    · show (l0 ++ []).length ≤ c; rw [List.append_nil]; exact HC.out
  case round =>
    obtain ⟨j, A', c', hj, rfl, rfl, hr', hcc, be⟩ := hrel
    have HCC := Lib.hid hcc
    clear hcc
    by_cases hlt : j < ns.length
    · have q1 : decide ((j : Int) < (ns.length : Int)) = true := by simp; omega
      obtain ⟨n, hn⟩ : ∃ z, ns[j]? = some z := ⟨_, List.getElem?_eq_getElem hlt⟩
      have hmem := HN.out n (List.mem_of_getElem? hn)
      obtain ⟨ad, u, hA, had, hu, hcell⟩ := HI.out.at_ hlt
      subst hA
      have hu2 : u = .int .i64 n := by
        unfold cellsN at hu
        rw [List.getElem?_map, hn] at hu
        exact (Option.some.inj hu).symm
      subst hu2
      have i1 : (0 : Int) ≤ (j : Int) := by omega
      have i2 : (j : Int) < (ns.length : Int) := by omega
      have hcw := (be.cell (p := ad.add j) (by rw [block_of_add]; exact had)).trans hcell
      have hll : (l0 ++ encs (ns.take j)).length ≤ 1030 := by
        rw [List.length_append]
        have h1 := encs_len (ns.take j) fun x hx => HN.out x (List.mem_of_mem_take hx)
        have h2 : (ns.take j).length ≤ 10 := by rw [List.length_take]; omega
        omega
      have BE := Lib.hid be
      have HX := Lib.hid (encs_snoc ns j n hn)
      have nm := rNumber_int A' (l0 ++ encs (ns.take j)) c' n _ hr' (by omega) hmem.1 hmem.2
      obtain ⟨M, hM⟩ : ∃ M, l0 ++ encs (ns.take j) ++ enc n.toNat = M := ⟨_, rfl⟩
      rw [hM] at nm
      have NM := Lib.hid nm
      have e2 : M = l0 ++ encs (ns.take (j + 1)) := by rw [HX.out, ← hM, List.append_assoc]
      have E2 := Lib.hid e2
      clear hmem hu hcell be hr' hn hll nm hM e2
      generalize l0 ++ encs (ns.take j) = L at *
      go_wp2_with fail
      refine NM.out.mono ?_
      rintro e w1 ⟨A2, c2, rfl, r2, hc2, b2⟩
      have R2 := Lib.hid r2
      have BE2 := Lib.hid (btrans BE.out b2)
      have HC2 := Lib.hid hc2
      clear r2 hc2 b2 hcw
      go_wp2_with fail
      go_roundw
      case rel =>
        refine ⟨j + 1, A2, c2, by omega, by go_num, ?_, ?_, ?_, BE2.out⟩
        · rw [← E2.out]
        · rw [← E2.out]; exact R2.out
        · rw [← E2.out]; exact HC2.out
      case measure => simp [intOf]; omega
    · obtain rfl : j = ns.length := by omega
      have q1 : decide ((ns.length : Int) < (ns.length : Int)) = false := by simp
      rw [List.take_length] at hr' HCC ⊢
      have BE := Lib.hid be
      have RR := Lib.hid hr'
      clear be hr'
      generalize l0 ++ encs ns = L at *
      go_wp2_with fail
      go_ret
      exact ⟨A', c', rfl, RR.out, HCC.out, BE.out⟩
end Go.Proofs.YtcockikekgmfkaaGreatDoor
namespace Go.Proofs.YtcockikekgmfkaaGreatDoor
open Go.RowKit

set_option maxRecDepth 100000 in
set_option maxHeartbeats 4000000 in
theorem rrBytes_0 (q : Rq) (hk : q.kd = 0) (A1 : Option Addr) (c1 : Nat) (w : World) (hr : Reads w w.heap.size 2 A1 q.b.rs.length (cellsR q.b.rs)) (hm : mayRq q) (hl : q.b.rs.length ≤ 1000000) :
    Calls Tryz.prog 8 #[(.agg #[.int .i8 q.kd, .int .i64 q.tid, .int .i64 q.tm, .int .i64 q.pid, .int .i64 q.ep, .int .i64 q.part, .int .i64 q.grp, .int .i64 q.off, .int .i64 q.most, .bool q.yes, .int .i64 q.b.pid, .int .i64 q.b.ep, .int .i64 q.b.seq, .bool q.b.txn, .slice A1 q.b.rs.length c1])] w (BytesPost (encRq q) 0 w) := by
  have HR := Lib.hid (fun W (h : Below w.heap.size w W) => (hr.below h).more h.size)
  have hv := ((may8_0 q hk).1 hm).1
  have rk : 0 ≤ q.kd ∧ q.kd ≤ 1048576 := by omega
  have cv : IntKind.i64.wrap q.kd = q.kd := IntWalk.i64_in _ (by omega)
  have hen : encRq q = enc q.kd.toNat ++ eFs cF [] q.get := by unfold encRq; rw [show flOf q.kd = [] by rw [hk]; rfl]
  have cc1 : (q.kd == 1) = false := by rw [hk]; rfl
  have cc2 : (q.kd == 2) = false := by rw [hk]; rfl
  have cc3 : (q.kd == 3) = false := by rw [hk]; rfl
  have cc4 : (q.kd == 4) = false := by rw [hk]; rfl
  have cc5 : (q.kd == 5) = false := by rw [hk]; rfl
  have cc6 : (q.kd == 6) = false := by rw [hk]; rfl
  have cc7 : (q.kd == 7) = false := by rw [hk]; rfl
  have cc8 : (q.kd == 8) = false := by rw [hk]; rfl
  have K0 := Lib.hid (Blk.new w 27 #[.int .i8 q.kd, .int .i64 q.tid, .int .i64 q.tm, .int .i64 q.pid, .int .i64 q.ep, .int .i64 q.part, .int .i64 q.grp, .int .i64 q.off, .int .i64 q.most, .bool q.yes, .int .i64 q.b.pid, .int .i64 q.b.ep, .int .i64 q.b.seq, .bool q.b.txn, .slice A1 q.b.rs.length c1])
  have B0 := Lib.hid (bal (Below.refl w.heap.size w) (.cells #[.int .i8 q.kd, .int .i64 q.tid, .int .i64 q.tm, .int .i64 q.pid, .int .i64 q.ep, .int .i64 q.part, .int .i64 q.grp, .int .i64 q.off, .int .i64 q.most, .bool q.yes, .int .i64 q.b.pid, .int .i64 q.b.ep, .int .i64 q.b.seq, .bool q.b.txn, .slice A1 q.b.rs.length c1] 27))
  have MY := Lib.hid (rrMay_ok q A1 c1 _ (HR.out _ B0.out) hl hm)
  have HEN := Lib.hid hen
  clear hr hm hk hen hv
  go_enter Tryz.func8, Tryz.ntmps8
  go_wp2_with fail
  refine MY.out.mono ?_
  rintro e w1 ⟨rfl, b1⟩
  have KB1 := Lib.hid (K0.out.below b1 (by simp))
  have BE1 := Lib.hid (btrans B0.out b1)
  clear b1
  have x0 := KB1.out.cell 0
  have nm := numbers_any none ([] : List UInt8) 0 (some ⟨w1.heap.size, 0, none⟩) [q.kd] 1 (w1.alloc (.cells #[.int .i64 q.kd] 3)) Reads.none_ (Reads.of_own (own_newN w1 3 #[.int .i64 q.kd] (by unfold maxLen; simp))) (by intro n hn; simp only [List.mem_cons, List.not_mem_nil, or_false] at hn; rcases hn with rfl <;> omega) (by decide) (by simp) (Nat.le_refl _)
  obtain ⟨L2, hL2⟩ : ∃ L, ([] : List UInt8) ++ encs [q.kd] = L := ⟨_, rfl⟩
  rw [hL2] at nm
  have NM2 := Lib.hid nm
  have ln2 : L2.length ≤ 80 := by
    rw [← hL2, List.length_append]
    have h := encs_len [q.kd] (by intro n hn; simp only [List.mem_cons, List.not_mem_nil, or_false] at hn; rcases hn with rfl <;> omega)
    simp only [List.length_cons, List.length_nil] at h ⊢
    omega
  have HL2 := Lib.hid hL2
  clear nm hL2
  go_wp2_with fail
  refine NM2.out.mono ?_
  rintro e w2 ⟨A12, c12, rfl, r, hc, b⟩
  have KB2 := Lib.hid ((KB1.out.alloc _).below b (by have := KB1.out.lt; simp; omega))
  have BE2 := Lib.hid (btrans (bal BE1.out _) b)
  have RR2 := Lib.hid r
  have HC2 := Lib.hid hc
  clear r hc b NM2 x0
  have xx := KB2.out.cell 0
  go_wp2_with fail
  go_ret2
  have e : L2 = encRq q := by
    rw [HEN.out, ← HL2.out]
    show ([] ++ (enc q.kd.toNat ++ [])) = enc q.kd.toNat ++ []
    simp only [List.nil_append, List.append_nil, List.append_assoc]
  rw [← e]
  exact ⟨A12, c12, rfl, RR2.out, HC2.out, BE2.out⟩
end Go.Proofs.YtcockikekgmfkaaGreatDoor
namespace Go.Proofs.YtcockikekgmfkaaGreatDoor
open Go.RowKit

set_option maxRecDepth 100000 in
set_option maxHeartbeats 4000000 in
theorem rrBytes_1 (q : Rq) (hk : q.kd = 1) (A1 : Option Addr) (c1 : Nat) (w : World) (hr : Reads w w.heap.size 2 A1 q.b.rs.length (cellsR q.b.rs)) (hm : mayRq q) (hl : q.b.rs.length ≤ 1000000) :
    Calls Tryz.prog 8 #[(.agg #[.int .i8 q.kd, .int .i64 q.tid, .int .i64 q.tm, .int .i64 q.pid, .int .i64 q.ep, .int .i64 q.part, .int .i64 q.grp, .int .i64 q.off, .int .i64 q.most, .bool q.yes, .int .i64 q.b.pid, .int .i64 q.b.ep, .int .i64 q.b.seq, .bool q.b.txn, .slice A1 q.b.rs.length c1])] w (BytesPost (encRq q) 0 w) := by
  have HR := Lib.hid (fun W (h : Below w.heap.size w W) => (hr.below h).more h.size)
  have hv := ((may8_1 q hk).1 hm).1
  obtain ⟨g0, g1⟩ := hv
  have r0 : 0 ≤ q.tid ∧ q.tid ≤ 1048576 := by have h := of_decide_eq_true g0; omega
  have r1 : 0 ≤ q.tm ∧ q.tm ≤ 1048576 := by have h := of_decide_eq_true g1; omega
  have rk : 0 ≤ q.kd ∧ q.kd ≤ 1048576 := by omega
  have cv : IntKind.i64.wrap q.kd = q.kd := IntWalk.i64_in _ (by omega)
  have hen : encRq q = enc q.kd.toNat ++ eFs cF [.tid, .tm] q.get := by unfold encRq; rw [show flOf q.kd = [.tid, .tm] by rw [hk]; rfl]
  have cc1 : (q.kd == 1) = true := by rw [hk]; rfl
  have K0 := Lib.hid (Blk.new w 27 #[.int .i8 q.kd, .int .i64 q.tid, .int .i64 q.tm, .int .i64 q.pid, .int .i64 q.ep, .int .i64 q.part, .int .i64 q.grp, .int .i64 q.off, .int .i64 q.most, .bool q.yes, .int .i64 q.b.pid, .int .i64 q.b.ep, .int .i64 q.b.seq, .bool q.b.txn, .slice A1 q.b.rs.length c1])
  have B0 := Lib.hid (bal (Below.refl w.heap.size w) (.cells #[.int .i8 q.kd, .int .i64 q.tid, .int .i64 q.tm, .int .i64 q.pid, .int .i64 q.ep, .int .i64 q.part, .int .i64 q.grp, .int .i64 q.off, .int .i64 q.most, .bool q.yes, .int .i64 q.b.pid, .int .i64 q.b.ep, .int .i64 q.b.seq, .bool q.b.txn, .slice A1 q.b.rs.length c1] 27))
  have MY := Lib.hid (rrMay_ok q A1 c1 _ (HR.out _ B0.out) hl hm)
  have HEN := Lib.hid hen
  clear hr hm hk hen g0 g1
  go_enter Tryz.func8, Tryz.ntmps8
  go_wp2_with fail
  refine MY.out.mono ?_
  rintro e w1 ⟨rfl, b1⟩
  have KB1 := Lib.hid (K0.out.below b1 (by simp))
  have BE1 := Lib.hid (btrans B0.out b1)
  clear b1
  have x0 := KB1.out.cell 0
  have nm := numbers_any none ([] : List UInt8) 0 (some ⟨w1.heap.size, 0, none⟩) [q.kd] 1 (w1.alloc (.cells #[.int .i64 q.kd] 3)) Reads.none_ (Reads.of_own (own_newN w1 3 #[.int .i64 q.kd] (by unfold maxLen; simp))) (by intro n hn; simp only [List.mem_cons, List.not_mem_nil, or_false] at hn; rcases hn with rfl <;> omega) (by decide) (by simp) (Nat.le_refl _)
  obtain ⟨L2, hL2⟩ : ∃ L, ([] : List UInt8) ++ encs [q.kd] = L := ⟨_, rfl⟩
  rw [hL2] at nm
  have NM2 := Lib.hid nm
  have ln2 : L2.length ≤ 80 := by
    rw [← hL2, List.length_append]
    have h := encs_len [q.kd] (by intro n hn; simp only [List.mem_cons, List.not_mem_nil, or_false] at hn; rcases hn with rfl <;> omega)
    simp only [List.length_cons, List.length_nil] at h ⊢
    omega
  have HL2 := Lib.hid hL2
  clear nm hL2
  go_wp2_with fail
  refine NM2.out.mono ?_
  rintro e w2 ⟨A12, c12, rfl, r, hc, b⟩
  have KB2 := Lib.hid ((KB1.out.alloc _).below b (by have := KB1.out.lt; simp; omega))
  have BE2 := Lib.hid (btrans (bal BE1.out _) b)
  have RR2 := Lib.hid r
  have HC2 := Lib.hid hc
  clear r hc b NM2 x0
  have x0 := KB2.out.cell 0
  have x1 := KB2.out.cell 1
  have x2 := KB2.out.cell 2
  have nm := numbers_any A12 L2 c12 (some ⟨w2.heap.size, 0, none⟩) [q.tid, q.tm] 2 (w2.alloc (.cells #[.int .i64 q.tid, .int .i64 q.tm] 3)) ((RR2.out.alloc (Nat.le_refl _) _).more (by simp)) (Reads.of_own (own_newN w2 3 #[.int .i64 q.tid, .int .i64 q.tm] (by unfold maxLen; simp))) (by intro n hn; simp only [List.mem_cons, List.not_mem_nil, or_false] at hn; rcases hn with rfl | rfl <;> omega) (by omega) (by simp) HC2.out
  obtain ⟨L3, hL3⟩ : ∃ L, L2 ++ encs [q.tid, q.tm] = L := ⟨_, rfl⟩
  rw [hL3] at nm
  have NM3 := Lib.hid nm
  have ln3 : L3.length ≤ 120 := by
    rw [← hL3, List.length_append]
    have h := encs_len [q.tid, q.tm] (by intro n hn; simp only [List.mem_cons, List.not_mem_nil, or_false] at hn; rcases hn with rfl | rfl <;> omega)
    simp only [List.length_cons, List.length_nil] at h ⊢
    omega
  have HL3 := Lib.hid hL3
  clear nm hL3
  go_wp2_with fail
  refine NM3.out.mono ?_
  rintro e w3 ⟨A13, c13, rfl, r, hc, b⟩
  have KB3 := Lib.hid ((KB2.out.alloc _).below b (by have := KB2.out.lt; simp; omega))
  have BE3 := Lib.hid (btrans (bal BE2.out _) b)
  have RR3 := Lib.hid r
  have HC3 := Lib.hid hc
  clear r hc b NM3 x0 x1 x2
  have xx := KB3.out.cell 0
  go_wp2_with fail
  go_ret2
  have e : L3 = encRq q := by
    rw [HEN.out, ← HL3.out, ← HL2.out]
    show (([] ++ (enc q.kd.toNat ++ [])) ++ (enc q.tid.toNat ++ (enc q.tm.toNat ++ []))) = enc q.kd.toNat ++ (enc q.tid.toNat ++ (enc q.tm.toNat ++ []))
    simp only [List.nil_append, List.append_nil, List.append_assoc]
  rw [← e]
  exact ⟨A13, c13, rfl, RR3.out, HC3.out, BE3.out⟩
end Go.Proofs.YtcockikekgmfkaaGreatDoor
namespace Go.Proofs.YtcockikekgmfkaaGreatDoor
open Go.RowKit

set_option maxRecDepth 100000 in
set_option maxHeartbeats 4000000 in
theorem rrBytes_2 (q : Rq) (hk : q.kd = 2) (A1 : Option Addr) (c1 : Nat) (w : World) (hr : Reads w w.heap.size 2 A1 q.b.rs.length (cellsR q.b.rs)) (hm : mayRq q) (hl : q.b.rs.length ≤ 1000000) :
    Calls Tryz.prog 8 #[(.agg #[.int .i8 q.kd, .int .i64 q.tid, .int .i64 q.tm, .int .i64 q.pid, .int .i64 q.ep, .int .i64 q.part, .int .i64 q.grp, .int .i64 q.off, .int .i64 q.most, .bool q.yes, .int .i64 q.b.pid, .int .i64 q.b.ep, .int .i64 q.b.seq, .bool q.b.txn, .slice A1 q.b.rs.length c1])] w (BytesPost (encRq q) 0 w) := by
  have HR := Lib.hid (fun W (h : Below w.heap.size w W) => (hr.below h).more h.size)
  have hv := ((may8_2 q hk).1 hm).1
  obtain ⟨g0, g1⟩ := hv
  have r0 : 0 ≤ q.part ∧ q.part ≤ 1048576 := by have h := of_decide_eq_true g0; omega
  have GB := Lib.hid g1
  have rk : 0 ≤ q.kd ∧ q.kd ≤ 1048576 := by omega
  have cv : IntKind.i64.wrap q.kd = q.kd := IntWalk.i64_in _ (by omega)
  have hen : encRq q = enc q.kd.toNat ++ eFs cF [.part, .bat] q.get := by unfold encRq; rw [show flOf q.kd = [.part, .bat] by rw [hk]; rfl]
  have cc1 : (q.kd == 1) = false := by rw [hk]; rfl
  have cc2 : (q.kd == 2) = true := by rw [hk]; rfl
  have K0 := Lib.hid (Blk.new w 27 #[.int .i8 q.kd, .int .i64 q.tid, .int .i64 q.tm, .int .i64 q.pid, .int .i64 q.ep, .int .i64 q.part, .int .i64 q.grp, .int .i64 q.off, .int .i64 q.most, .bool q.yes, .int .i64 q.b.pid, .int .i64 q.b.ep, .int .i64 q.b.seq, .bool q.b.txn, .slice A1 q.b.rs.length c1])
  have B0 := Lib.hid (bal (Below.refl w.heap.size w) (.cells #[.int .i8 q.kd, .int .i64 q.tid, .int .i64 q.tm, .int .i64 q.pid, .int .i64 q.ep, .int .i64 q.part, .int .i64 q.grp, .int .i64 q.off, .int .i64 q.most, .bool q.yes, .int .i64 q.b.pid, .int .i64 q.b.ep, .int .i64 q.b.seq, .bool q.b.txn, .slice A1 q.b.rs.length c1] 27))
  have MY := Lib.hid (rrMay_ok q A1 c1 _ (HR.out _ B0.out) hl hm)
  have HEN := Lib.hid hen
  clear hr hm hk hen g0 g1
  go_enter Tryz.func8, Tryz.ntmps8
  go_wp2_with fail
  refine MY.out.mono ?_
  rintro e w1 ⟨rfl, b1⟩
  have KB1 := Lib.hid (K0.out.below b1 (by simp))
  have BE1 := Lib.hid (btrans B0.out b1)
  clear b1
  have x0 := KB1.out.cell 0
  have nm := numbers_any none ([] : List UInt8) 0 (some ⟨w1.heap.size, 0, none⟩) [q.kd] 1 (w1.alloc (.cells #[.int .i64 q.kd] 3)) Reads.none_ (Reads.of_own (own_newN w1 3 #[.int .i64 q.kd] (by unfold maxLen; simp))) (by intro n hn; simp only [List.mem_cons, List.not_mem_nil, or_false] at hn; rcases hn with rfl <;> omega) (by decide) (by simp) (Nat.le_refl _)
  obtain ⟨L2, hL2⟩ : ∃ L, ([] : List UInt8) ++ encs [q.kd] = L := ⟨_, rfl⟩
  rw [hL2] at nm
  have NM2 := Lib.hid nm
  have ln2 : L2.length ≤ 80 := by
    rw [← hL2, List.length_append]
    have h := encs_len [q.kd] (by intro n hn; simp only [List.mem_cons, List.not_mem_nil, or_false] at hn; rcases hn with rfl <;> omega)
    simp only [List.length_cons, List.length_nil] at h ⊢
    omega
  have HL2 := Lib.hid hL2
  clear nm hL2
  go_wp2_with fail
  refine NM2.out.mono ?_
  rintro e w2 ⟨A12, c12, rfl, r, hc, b⟩
  have KB2 := Lib.hid ((KB1.out.alloc _).below b (by have := KB1.out.lt; simp; omega))
  have BE2 := Lib.hid (btrans (bal BE1.out _) b)
  have RR2 := Lib.hid r
  have HC2 := Lib.hid hc
  clear r hc b NM2 x0
  have x0 := KB2.out.cell 0
  have x5 := KB2.out.cell 5
  have nm := numbers_any A12 L2 c12 (some ⟨w2.heap.size, 0, none⟩) [q.part] 1 (w2.alloc (.cells #[.int .i64 q.part] 3)) ((RR2.out.alloc (Nat.le_refl _) _).more (by simp)) (Reads.of_own (own_newN w2 3 #[.int .i64 q.part] (by unfold maxLen; simp))) (by intro n hn; simp only [List.mem_cons, List.not_mem_nil, or_false] at hn; rcases hn with rfl <;> omega) (by omega) (by simp) HC2.out
  obtain ⟨L3, hL3⟩ : ∃ L, L2 ++ encs [q.part] = L := ⟨_, rfl⟩
  rw [hL3] at nm
  have NM3 := Lib.hid nm
  have ln3 : L3.length ≤ 120 := by
    rw [← hL3, List.length_append]
    have h := encs_len [q.part] (by intro n hn; simp only [List.mem_cons, List.not_mem_nil, or_false] at hn; rcases hn with rfl <;> omega)
    simp only [List.length_cons, List.length_nil] at h ⊢
    omega
  have HL3 := Lib.hid hL3
  clear nm hL3
  go_wp2_with fail
  refine NM3.out.mono ?_
  rintro e w3 ⟨A13, c13, rfl, r, hc, b⟩
  have KB3 := Lib.hid ((KB2.out.alloc _).below b (by have := KB2.out.lt; simp; omega))
  have BE3 := Lib.hid (btrans (bal BE2.out _) b)
  have RR3 := Lib.hid r
  have HC3 := Lib.hid hc
  clear r hc b NM3 x0 x5
  have x0 := KB3.out.cell 0
  have x10 := KB3.out.cell 10
  have x11 := KB3.out.cell 11
  have x12 := KB3.out.cell 12
  have x13 := KB3.out.cell 13
  have x14 := KB3.out.cell 14
  have by1 := rRcBytes_ok q.b A1 c1 w3 (HR.out _ BE3.out) GB.out
  obtain ⟨t, ht⟩ : ∃ t, bs (encBt q.b) = t := ⟨_, rfl⟩
  rw [ht] at by1
  have BY := Lib.hid by1
  have hts : t.size ≤ 1024 := by rw [← ht, size_bs]; have := (encBt_len q.b GB.out).1; omega
  have HT := Lib.hid (show lb t = encBt q.b by rw [← ht, lb_bs])
  clear by1 ht
  go_wp2_with fail
  refine BY.out.mono ?_
  rintro e wb ⟨rfl, b⟩
  have BEb := Lib.hid (btrans BE3.out b)
  have nm := rText_ok A13 L3 c13 t wb ((RR3.out.below b).more b.size) (by omega) hts
  obtain ⟨L4, hL4⟩ : ∃ L, L3 ++ (cTxt 1024).e (lb t) = L := ⟨_, rfl⟩
  rw [hL4] at nm
  have NM4 := Lib.hid nm
  have HL4 := Lib.hid hL4
  clear nm hL4 b x0 x10 x11 x12 x13 x14
  go_wp2_with fail
  refine NM4.out.mono ?_
  rintro e w4 ⟨A14, c14, rfl, r, hc, b⟩
  have BE4 := Lib.hid (btrans BEb.out b)
  have RR4 := Lib.hid (Reads.of_own r)
  have HC4 := Lib.hid hc
  clear r hc b NM4
  go_wp2_with fail
  go_ret2
  have e : L4 = encRq q := by
    rw [HEN.out, ← HL4.out, ← HL3.out, ← HL2.out]
    rw [HT.out]
    show ((([] ++ (enc q.kd.toNat ++ [])) ++ (enc q.part.toNat ++ [])) ++ (cTxt 1024).e (encBt q.b)) = enc q.kd.toNat ++ (enc q.part.toNat ++ ((cTxt 1024).e (encBt q.b) ++ []))
    simp only [List.nil_append, List.append_nil, List.append_assoc]
  rw [← e]
  exact ⟨A14, c14, rfl, RR4.out, HC4.out, BE4.out⟩
end Go.Proofs.YtcockikekgmfkaaGreatDoor
