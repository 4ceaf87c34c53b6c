/-
  A world that is as another one was but for some blocks that were there.
  Layer 2, writing: flags; how long a text is.
  Small lemmas that many texts use.
  Layer 6: record.May; which batch is too great.
-/
import Derived.Test.YtckdecodpjfcnaaGreatDoorGrp07
import Derived.Test.YtckdecodpjfcnaaGreatDoorGrp01
import Derived.Test.YtckdecodpjfcnaaGreatDoorGrp03
set_option linter.unusedVariables false
set_option linter.unusedSimpArgs false
namespace Go.Proofs.YtckdecodpjfcnaaGreatDoor
open Go.RowKit

set_option maxRecDepth 100000 in
set_option maxHeartbeats 400000 in
theorem Flag_any (A : Option Addr) (l : List UInt8) (c : Nat) (y : Bool) (w : World) (hr : Reads w w.heap.size 1 A l.length (cellsB l)) (hl : l.length ≤ 80000) :
    Calls Tryz.prog 90 #[.slice A l.length c, .bool y] w (OwnVal (l ++ encY y) w) := by
  cases y
  · have HC := Lib.hid (Concat_any (w.heap.size + 1) A (some ⟨w.heap.size, 0, none⟩) l [0] c 1 ((w.alloc (.cells #[.int .u8 0] 5)).alloc (.cells #[.slice A l.length c, .slice (some ⟨w.heap.size, 0, none⟩) 1 1] 46)) (by simp) (by simp) ((((hr.alloc (Nat.le_refl _) _).more (by simp)).alloc (Nat.le_refl _) _).more (by simp)) (((reads_new w 5 [0]).alloc (by simp) _).more (by simp)) (by omega) (by simp) (by simp))
    have HB := Lib.hid (fun x y => ((Below.refl w.heap.size w).alloc (Nat.le_refl _) x).alloc (by simp) y)
    clear hr
    show Calls _ _ _ w (OwnVal (l ++ [0]) w)
    generalize l ++ [0] = L at *
    go_enter Tryz.func90, Tryz.ntmps90
    go_wp2_with fail
    refine HC.out.mono ?_
    rintro e w1 ⟨A1, c1, rfl, ho1, hc1, hb1⟩
    go_wp2_with fail
    go_ret
    exact ⟨A1, c1, rfl, own_base ho1 (by simp; omega), hc1, (HB.out _ _).trans (hb1.mono (by simp; omega))⟩
  · have HC := Lib.hid (Concat_any (w.heap.size + 1) A (some ⟨w.heap.size, 0, none⟩) l [1] c 1 ((w.alloc (.cells #[.int .u8 1] 5)).alloc (.cells #[.slice A l.length c, .slice (some ⟨w.heap.size, 0, none⟩) 1 1] 46)) (by simp) (by simp) ((((hr.alloc (Nat.le_refl _) _).more (by simp)).alloc (Nat.le_refl _) _).more (by simp)) (((reads_new w 5 [1]).alloc (by simp) _).more (by simp)) (by omega) (by simp) (by simp))
    have HB := Lib.hid (fun x y => ((Below.refl w.heap.size w).alloc (Nat.le_refl _) x).alloc (by simp) y)
    clear hr
    show Calls _ _ _ w (OwnVal (l ++ [1]) w)
    generalize l ++ [1] = L at *
    go_enter Tryz.func90, Tryz.ntmps90
    go_wp2_with fail
    refine HC.out.mono ?_
    rintro e w1 ⟨A1, c1, rfl, ho1, hc1, hb1⟩
    go_wp2_with fail
    go_ret
    exact ⟨A1, c1, rfl, own_base ho1 (by simp; omega), hc1, (HB.out _ _).trans (hb1.mono (by simp; omega))⟩

set_option maxRecDepth 100000 in
set_option maxHeartbeats 400000 in
theorem rFlag_any (A : Option Addr) (l : List UInt8) (c : Nat) (y : Bool) (w : World) (hr : Reads w w.heap.size 1 A l.length (cellsB l)) (hl : l.length ≤ 80000) :
    Calls Tryz.prog 33 #[.slice A l.length c, .bool y] w (OwnVal (l ++ encY y) w) := by
  obtain ⟨i0, hi, hz0, hz1, hz2⟩ := info_parts infoByte
  have HR := Lib.hid hr
  clear hr
  cases y
  · go_enter Tryz.func33, Tryz.ntmps33
    go_wp2_with (first | (at_builtin; refine wpList_append_any _ rfl (.tmp 6) (.tmp 7) 46 rfl w.heap.size 5 i0 (.int .u8 0) 1 1 Tryz.underlying46 hi hz0 hz1 hz2 rfl (by decide) (.slice none 0 0) 0 [] rfl (World.ownsRow_nil _ _ _ _) w.heap.size A l.length c (cellsB l) rfl HR.out (cellsB_one _) (by unfold maxLen; omega) (by omega) (Nat.le_refl _) ?_; intro v1 w1 ho1 hg1 hat1; rw [Nat.zero_add, List.nil_append] at ho1; have hb1 : Below w.heap.size w w1 := (Below.refl _ _).grown hg1 (Nat.le_refl _) (fun k hk => by cases hk); have HO := Lib.hid ho1; have hs1 := hb1.size; clear ho1 hg1 hat1) | (at_builtin; refine wpList_append_any _ rfl (.tmp 13) (.tmp 14) 46 rfl w.heap.size 5 i0 (.int .u8 0) 1 1 Tryz.underlying46 hi hz0 hz1 hz2 rfl (by decide) v1 l.length (cellsB l) rfl (HO.out.alloc _) _ _ 1 1 [.int .u8 0] rfl (reads_new1 _ _ _) (by simp [Value.oneCell']) (by unfold maxLen; omega) (by omega) (by simp; omega) ?_; intro v2 w2 ho2 hg2 hat2))
    have hb2 : Below w.heap.size w w2 := (hb1.alloc hs1 _).grown hg2 (by simp; omega) (fun g hg => (HO.out.lt g hg).1)
    have ho3 : w2.ownsRow w.heap.size 5 1 v2 (l ++ encY false).length (cellsB (l ++ encY false)) := by
      rw [cellsB_append, List.length_append]; exact ho2
    obtain ⟨A3, c3, rfl, hc3⟩ := own_slice ho3
    go_ret
    exact ⟨A3, c3, rfl, ho3, hc3, hb2⟩
  · go_enter Tryz.func33, Tryz.ntmps33
    go_wp2_with (first | (at_builtin; refine wpList_append_any _ rfl (.tmp 6) (.tmp 7) 46 rfl w.heap.size 5 i0 (.int .u8 0) 1 1 Tryz.underlying46 hi hz0 hz1 hz2 rfl (by decide) (.slice none 0 0) 0 [] rfl (World.ownsRow_nil _ _ _ _) w.heap.size A l.length c (cellsB l) rfl HR.out (cellsB_one _) (by unfold maxLen; omega) (by omega) (Nat.le_refl _) ?_; intro v1 w1 ho1 hg1 hat1; rw [Nat.zero_add, List.nil_append] at ho1; have hb1 : Below w.heap.size w w1 := (Below.refl _ _).grown hg1 (Nat.le_refl _) (fun k hk => by cases hk); have HO := Lib.hid ho1; have hs1 := hb1.size; clear ho1 hg1 hat1) | (at_builtin; refine wpList_append_any _ rfl (.tmp 10) (.tmp 11) 46 rfl w.heap.size 5 i0 (.int .u8 0) 1 1 Tryz.underlying46 hi hz0 hz1 hz2 rfl (by decide) v1 l.length (cellsB l) rfl (HO.out.alloc _) _ _ 1 1 [.int .u8 1] rfl (reads_new1 _ _ _) (by simp [Value.oneCell']) (by unfold maxLen; omega) (by omega) (by simp; omega) ?_; intro v2 w2 ho2 hg2 hat2))
    have hb2 : Below w.heap.size w w2 := (hb1.alloc hs1 _).grown hg2 (by simp; omega) (fun g hg => (HO.out.lt g hg).1)
    have ho3 : w2.ownsRow w.heap.size 5 1 v2 (l ++ encY true).length (cellsB (l ++ encY true)) := by
      rw [cellsB_append, List.length_append]; exact ho2
    obtain ⟨A3, c3, rfl, hc3⟩ := own_slice ho3
    go_ret
    exact ⟨A3, c3, rfl, ho3, hc3, hb2⟩

/-- How long a text is as a field. -/
def sizeT (n : Nat) : Int := if 1024 < n then 0 else (encLen n : Int) + n
end Go.Proofs.YtckdecodpjfcnaaGreatDoor
namespace Go.Proofs.YtckdecodpjfcnaaGreatDoor
open Go.RowKit

theorem ret_bool {a b : Bool} (h : a = b) : Ending.returned (.bool a) = .returned (.bool b) := by rw [h]
theorem ret_int {k : IntKind} {a b : Int} (h : a = b) : Ending.returned (.int k a) = .returned (.int k b) := by rw [h]
theorem bal {w w' : World} (h : Below w.heap.size w w') (o : Obj) : Below w.heap.size w (w'.alloc o) := h.alloc h.size o
theorem bset {w w' : World} (h : Below w.heap.size w w') {b o : Nat} (hb : w.heap.size ≤ b) (u : Value) : Below w.heap.size w (w'.setCell ⟨b, o, none⟩ u) := h.setCell (p := ⟨b, o, none⟩) hb u
theorem btrans {w w1 w2 : World} (h : Below w.heap.size w w1) (k : Below w1.heap.size w1 w2) : Below w.heap.size w w2 := h.trans (k.mono h.size)
theorem ne_true {a b : Int} (h : ¬ a = b) : (a != b) = true := by simpa using h
theorem ne_false {a b : Int} (h : a = b) : (a != b) = false := by simpa using h
theorem eqb_true {a b : Int} (h : a = b) : (a == b) = true := beq_iff_eq.2 h
theorem eqb_false {a b : Int} (h : ¬ a = b) : (a == b) = false := beq_eq_false_iff_ne.2 h
theorem dec_true {p : Prop} [Decidable p] (h : p) : decide p = true := decide_eq_true h
theorem dec_false {p : Prop} [Decidable p] (h : ¬ p) : decide p = false := decide_eq_false h
end Go.Proofs.YtckdecodpjfcnaaGreatDoor
namespace Go.Proofs.YtckdecodpjfcnaaGreatDoor
open Go.RowKit

set_option maxHeartbeats 400000 in
theorem bad_any (r : Rec) (w : World) : Calls Tryz.prog 71 #[.agg #[.string r.1, .string r.2]] w fun e w' => e = .returned (.bool (badR r)) ∧ Below w.heap.size w w' := by
  have HB := Lib.hid (fun x => (Below.refl w.heap.size w).alloc (Nat.le_refl _) x)
  go_enter Tryz.func71, Tryz.ntmps71
  go_wp2
  all_goals (go_ret; exact ⟨ret_bool (by unfold badR; rw [Bool.eq_iff_iff]; simp; try omega), HB.out _⟩)

/-- The first bad record. -/
def idxR (l : List Rec) : Int := match l.findIdx? badR with | some k => k | none => -1
set_option maxRecDepth 100000 in
set_option maxHeartbeats 1000000 in
theorem IndexFunc_any (A : Option Addr) (l : List Rec) (c : Nat) (w : World) (hr : Reads w w.heap.size 2 A l.length (cellsR l)) (hl : l.length ≤ 1000000000000) :
    Calls Tryz.prog 92 #[.slice A l.length c, .func (.func 71) #[] #[]] w fun e w' => e = .returned (.int .i64 (idxR l)) ∧ Below w.heap.size w w' := by
  have HR := Lib.hid hr
  clear hr
  go_enter Tryz.func92, Tryz.ntmps92
  go_wp2_with fail
  go_loopw [8] (fun x wr => ∃ k : Nat, k ≤ l.length ∧ x = .int .i64 k ∧ Below w.heap.size w wr ∧ (l.take k).any badR = false) (fun x _ => l.length - (intOf x).toNat)
  case atStart => exact ⟨0, Nat.zero_le _, rfl, Below.refl _ _, by simp⟩
  case round =>
    obtain ⟨k, hk, rfl, hbel, hany⟩ := hrel
    have HBEL := Lib.hid hbel
    have HANY := Lib.hid hany
    clear hbel hany
    by_cases hlt : k < l.length
    · have d1 : decide ((k : Int) < (l.length : Int)) = true := by simp; omega
      obtain ⟨b1, o1, rfl, _, hc1⟩ := (HR.out.below HBEL.out).plain2 (by omega)
      obtain ⟨r, hx⟩ : ∃ z, l[k]? = some z := ⟨_, List.getElem?_eq_getElem hlt⟩
      obtain ⟨g1, g2⟩ := hc1 k _ hx
      have HBD := Lib.hid (fun W => bad_any r W)
      have hsn : (l.take (k + 1)).any badR = ((l.take k).any badR || badR r) := by
        rw [List.take_add_one, hx]; simp
      have HSN := Lib.hid hsn
      have HX := Lib.hid hx
      clear hc1 hx hsn
      cases hbr : badR r
      · have HBR := Lib.hid hbr
        rw [hbr] at HBD
        clear hbr
        go_wp2_with fail
        refine (HBD.out _).mono ?_
        rintro e w2 ⟨rfl, hb2⟩
        go_wp2_with fail
        go_roundw
        case rel => exact ⟨k + 1, by omega, by go_num, btrans HBEL.out hb2, by rw [HSN.out, HANY.out, HBR.out]; rfl⟩
        case measure => simp [intOf]; omega
      · have hfin : idxR l = k := by
          have h1 : l.findIdx? badR = some k := by
            rw [List.findIdx?_eq_some_iff_getElem]
            refine ⟨hlt, ?_, fun j hj => ?_⟩
            · rw [(List.getElem?_eq_some_iff.1 HX.out).2]; exact hbr
            · have h2 := List.any_eq_false.1 HANY.out (l[j]) (by rw [List.mem_take_iff_getElem]; exact ⟨j, by omega, rfl⟩)
              simpa using h2
          unfold idxR; rw [h1]
        have HF := Lib.hid hfin
        rw [hbr] at HBD
        clear hbr hfin
        go_wp2_with fail
        refine (HBD.out _).mono ?_
        rintro e w2 ⟨rfl, hb2⟩
        go_wp2_with fail
        go_ret
        exact ⟨ret_int HF.out.symm, btrans HBEL.out hb2⟩
    · have d1 : decide ((k : Int) < (l.length : Int)) = false := by simp; omega
      have hfin : idxR l = -1 := by
        have h1 : l.findIdx? badR = none := by
          rw [List.findIdx?_eq_none_iff]
          intro x hx
          have h2 := HANY.out
          rw [List.take_of_length_le (by omega)] at h2
          simpa using List.any_eq_false.1 h2 x hx
        unfold idxR; rw [h1]
      have HF := Lib.hid hfin
      clear hfin
      go_wp2_with fail
      go_ret
      exact ⟨ret_int HF.out.symm, HBEL.out⟩

theorem idxR_any (l : List Rec) : decide (0 ≤ idxR l) = l.any badR := by
  unfold idxR
  cases h : l.findIdx? badR with
  | none =>
    simp only
    have h2 : l.any badR = false := List.any_eq_false.2 fun x hx => by
      have := List.findIdx?_eq_none_iff.1 h x hx
      simp [this]
    rw [h2]; rfl
  | some k =>
    simp only
    obtain ⟨h1, h2, _⟩ := List.findIdx?_eq_some_iff_getElem.1 h
    have h3 : l.any badR = true := List.any_eq_true.2 ⟨_, List.getElem_mem h1, h2⟩
    rw [h3]
    simp

theorem ContainsFunc_any (A : Option Addr) (l : List Rec) (c : Nat) (w : World) (hr : Reads w w.heap.size 2 A l.length (cellsR l)) (hl : l.length ≤ 1000000000000) :
    Calls Tryz.prog 70 #[.slice A l.length c, .func (.func 71) #[] #[]] w fun e w' => e = .returned (.bool (l.any badR)) ∧ Below w.heap.size w w' := by
  have HI := Lib.hid (IndexFunc_any A l c w hr hl)
  have HA := Lib.hid (idxR_any l)
  clear hr
  go_enter Tryz.func70, Tryz.ntmps70
  go_wp2_with fail
  refine HI.out.mono ?_
  rintro e w2 ⟨rfl, hb2⟩
  go_wp2_with fail
  go_ret
  exact ⟨ret_bool HA.out, hb2⟩

set_option maxRecDepth 100000 in
set_option maxHeartbeats 1000000 in
theorem RcMay_any (b : Bat) (A1 : Option Addr) (c1 : Nat) (w : World) (hr : Reads w w.heap.size 2 A1 b.rs.length (cellsR b.rs)) :
    Calls Tryz.prog 36 #[(.agg #[.int .i64 b.pid, .int .i64 b.ep, .int .i64 b.seq, .bool b.txn, .slice A1 b.rs.length c1])] w fun e w' => e = .returned (.bool (mayBt b)) ∧ Below w.heap.size w w' := by
  have HB := Lib.hid (fun x => (Below.refl w.heap.size w).alloc (Nat.le_refl _) x)
  by_cases hh : headB b = true
  · have hd : 1 ≤ b.pid ∧ b.pid ≤ 8 ∧ 0 ≤ b.ep ∧ b.ep ≤ 100 ∧ 1 ≤ b.rs.length ∧ b.rs.length ≤ 4 ∧ 0 ≤ b.seq ∧ b.seq + b.rs.length ≤ 1048576 := by
      unfold headB at hh; simpa using hh
    have hfin : mayBt b = !(b.rs.any badR) := by unfold mayBt; rw [hh]; rfl
    have HF := Lib.hid hfin
    have HC := Lib.hid (ContainsFunc_any A1 b.rs c1 (w.alloc (.cells #[.int .i64 b.pid, .int .i64 b.ep, .int .i64 b.seq, .bool b.txn, .slice A1 b.rs.length c1] 25)) ((hr.alloc (Nat.le_refl _) _).more (by simp)) (by omega))
    obtain ⟨q1, q2, q3, q4, q5, q6, q7, q8⟩ := hd
    have d1 : ¬ b.pid < 1 := by omega
    have d2 : ¬ 8 < b.pid := by omega
    have d3 : ¬ b.ep < 0 := by omega
    have d4 : ¬ 100 < b.ep := by omega
    have d5 : ¬ (b.rs.length : Int) < 1 := by omega
    have d6 : ¬ 4 < (b.rs.length : Int) := by omega
    have d7 : ¬ b.seq < 0 := by omega
    have d8 : ¬ 1048576 - (b.rs.length : Int) < b.seq := by omega
    clear hr hfin hh
    go_enter Tryz.func36, Tryz.ntmps36
    go_wp2_with fail
    refine HC.out.mono ?_
    rintro e w2 ⟨rfl, hb2⟩
    go_wp2_with fail
    go_ret
    exact ⟨ret_bool HF.out.symm, btrans (HB.out _) hb2⟩
  · have hfin : mayBt b = false := by unfold mayBt; rw [Bool.not_eq_true] at hh; rw [hh]; rfl
    rw [hfin]
    have hd : ¬ (1 ≤ b.pid ∧ b.pid ≤ 8 ∧ 0 ≤ b.ep ∧ b.ep ≤ 100 ∧ 1 ≤ b.rs.length ∧ b.rs.length ≤ 4 ∧ 0 ≤ b.seq ∧ b.seq + b.rs.length ≤ 1048576) := by
      unfold headB at hh; simpa using hh
    have HD := Lib.hid hd
    clear hr hfin hh hd
    go_enter Tryz.func36, Tryz.ntmps36
    go_wp2_with fail
    all_goals first | (go_ret; exact ⟨rfl, HB.out _⟩) | (exfalso; have := HD.out; omega)
end Go.Proofs.YtckdecodpjfcnaaGreatDoor
namespace Go.Proofs.YtckdecodpjfcnaaGreatDoor
open Go.RowKit

structure Only (S : Nat → Prop) (a w : World) : Prop where
  os : w.os = a.os
  tape : w.tape = a.tape
  output : w.output = a.output
  size : a.heap.size ≤ w.heap.size
  block : ∀ k, k < a.heap.size → ¬ S k → w.heap[k]? = a.heap[k]?

section
variable {S S' : Nat → Prop} {a b w w' : World}
theorem Only.refl (S : Nat → Prop) (w : World) : Only S w w := ⟨rfl, rfl, rfl, Nat.le_refl _, fun _ _ _ => rfl⟩
theorem Only.trans (h : Only S a b) (k : Only S b w) : Only S a w :=
  ⟨k.os.trans h.os, k.tape.trans h.tape, k.output.trans h.output, Nat.le_trans h.size k.size, fun i hi hn => (k.block i (Nat.lt_of_lt_of_le hi h.size) hn).trans (h.block i hi hn)⟩
theorem Only.mono (h : Only S a w) (hS : ∀ g, g < a.heap.size → S g → S' g) : Only S' a w := ⟨h.os, h.tape, h.output, h.size, fun i hi hn => h.block i hi fun hs => hn (hS i hi hs)⟩
/-- What the second step turns is the first step's, or new. -/
theorem Only.step (h : Only S a b) (k : Only S' b w) (hS : ∀ g, g < a.heap.size → S' g → S g) : Only S a w :=
  ⟨k.os.trans h.os, k.tape.trans h.tape, k.output.trans h.output, Nat.le_trans h.size k.size, fun i hi hn => (k.block i (Nat.lt_of_lt_of_le hi h.size) (fun hs => hn (hS i hi hs))).trans (h.block i hi hn)⟩
theorem Only.of_below (S : Nat → Prop) (h : Below a.heap.size a w) : Only S a w := ⟨h.os, h.tape, h.output, h.size, fun i hi _ => h.block i hi⟩
theorem Only.below {B : Nat} (h : Only S a w) (hB : B ≤ a.heap.size) (hS : ∀ g, S g → B ≤ g) : Below B a w := ⟨h.os, h.tape, h.output, h.size, fun i hi => h.block i (by omega) fun hs => by have := hS i hs; omega⟩
theorem Only.then_below (h : Only S a b) (k : Below b.heap.size b w) : Only S a w := h.trans (Only.of_below S k)
theorem Only.drew (h : Only S a w) : Only S a w.drew := ⟨h.os, h.tape, h.output, h.size, h.block⟩
theorem Only.alloc (h : Only S a w) (o : Obj) : Only S a (w.alloc o) :=
  ⟨h.os, h.tape, h.output, Nat.le_trans h.size (by simp), fun i hi hn => (Below.heap_alloc w o i (Nat.lt_of_lt_of_le hi h.size)).trans (h.block i hi hn)⟩
theorem Only.set (h : Only S a w) {g o : Nat} (hp : S g ∨ a.heap.size ≤ g) (u : Value) : Only S a (w.setCell ⟨g, o, none⟩ u) :=
  ⟨h.os, h.tape, h.output, by simpa [World.setCell] using h.size, fun i hi hn => (Below.heap_setCell w ⟨g, o, none⟩ u i (by
    rintro rfl
    rcases hp with hp | hp
    · exact hn hp
    · exact absurd hi (by simpa using hp))).trans (h.block i hi hn)⟩
theorem Only.grown {row : Option Nat} (h : Only S a b) (hg : b.grownBy w row) (hr : ∀ k, row = some k → k < a.heap.size → S k) : Only S a w :=
  ⟨hg.os.trans h.os, hg.tape.trans h.tape, hg.output.trans h.output, Nat.le_trans h.size hg.size, fun i hi hn => (hg.block i (Nat.lt_of_lt_of_le hi h.size) (fun e => hn (hr i e.symm hi))).trans (h.block i hi hn)⟩
theorem Only.blk {g : Nat} {t : TypeId} {cs : Array Value} (h : Only S a w) (k : Blk a g t cs) (hn : ¬ S g) : Blk w g t cs := (h.block g k.lt hn).trans k
theorem Only.cell {p : Addr} (h : Only S a w) (hp : p.block < a.heap.size) (hn : ¬ S p.block) : w.cell? p = a.cell? p := World.cell?_of_block (h.block _ hp hn)
theorem Only.reads {B size n : Nat} {A : Option Addr} {xs : List Value} (h : Only S a w) (k : Reads a B size A n xs) (hB : B ≤ a.heap.size) (hn : ∀ g, g < B → ¬ S g) : Reads w B size A n xs :=
  k.keep fun p hp => h.cell (by omega) (hn _ hp)
theorem Only.own {base : Nat} {e : TypeId} {size n : Nat} {v : Value} {xs : List Value} (h : Only S a w) (k : a.ownsRow base e size v n xs) (hn : ∀ g, base ≤ g → ¬ S g) : w.ownsRow base e size v n xs := by
  refine ⟨k.1, ?_⟩
  rcases k.2 with h0 | ⟨g, cap, cur, hv, hg, hh, hr⟩
  · exact .inl h0
  · refine .inr ⟨g, cap, cur, hv, hg, ?_, hr⟩
    have hlt : g < a.heap.size := by
      rcases Nat.lt_or_ge g a.heap.size with h1 | h1
      · exact h1
      · rw [Array.getElem?_eq_none h1] at hh; cases hh
    exact (h.block g hlt (hn g hg)).trans hh
end
/-- A row of the call's own from a place on, read. -/
theorem own_set {w : World} {base : Nat} {e : TypeId} {size n : Nat} {v : Value} {xs : List Value} (k : w.ownsRow base e size v n xs) {g o : Nat} (hg : g < base) (u : Value) : (w.setCell ⟨g, o, none⟩ u).ownsRow base e size v n xs :=
  ((Only.refl (fun x => x = g) w).set (.inl rfl) u).own k (fun x hx hs => by omega)
end Go.Proofs.YtckdecodpjfcnaaGreatDoor
