/-
  Layer 6: record.May; which batch is too great.
  Layer 2, writing: flags; how long a text is.
-/
import Derived.Test.YtcockikekgmfkaaGreatDoorGrp12
import Derived.Test.YtcockikekgmfkaaGreatDoorGrp03
import Derived.Test.YtcockikekgmfkaaGreatDoorGrp07
namespace Go.Proofs.YtcockikekgmfkaaGreatDoor
open Go.RowKit

set_option maxRecDepth 100000 in
set_option maxHeartbeats 400000 in
theorem Flag_any (A : Option Addr) (l : List UInt8) (c : Nat) (y : Bool) (w : World) (hr : Reads w w.heap.size 1 A l.length (cellsB l)) (hl : l.length ≤ 80000) :
    Calls Tryz.prog 80 #[.slice A l.length c, .bool y] w (OwnVal (l ++ encY y) w) := by
  cases y
  · have HC := Lib.hid (Concat_any (w.heap.size + 1) A (some ⟨w.heap.size, 0, none⟩) l [0] c 1 ((w.alloc (.cells #[.int .u8 0] 5)).alloc (.cells #[.slice A l.length c, .slice (some ⟨w.heap.size, 0, none⟩) 1 1] 30)) (by simp) (by simp) ((((hr.alloc (Nat.le_refl _) _).more (by simp)).alloc (Nat.le_refl _) _).more (by simp)) (((reads_new w 5 [0]).alloc (by simp) _).more (by simp)) (by omega) (by simp) (by simp))
    have HB := Lib.hid (fun x y => ((Below.refl w.heap.size w).alloc (Nat.le_refl _) x).alloc (by simp) y)
    clear hr
    show Calls _ _ _ w (OwnVal (l ++ [0]) w)
    generalize l ++ [0] = L at *
    go_enter Tryz.func80, Tryz.ntmps80
    go_wp2_with fail
    refine HC.out.mono ?_
    rintro e w1 ⟨A1, c1, rfl, ho1, hc1, hb1⟩
    go_wp2_with fail
    go_ret
    exact ⟨A1, c1, rfl, own_base ho1 (by simp; omega), hc1, (HB.out _ _).trans (hb1.mono (by simp; omega))⟩
  · have HC := Lib.hid (Concat_any (w.heap.size + 1) A (some ⟨w.heap.size, 0, none⟩) l [1] c 1 ((w.alloc (.cells #[.int .u8 1] 5)).alloc (.cells #[.slice A l.length c, .slice (some ⟨w.heap.size, 0, none⟩) 1 1] 30)) (by simp) (by simp) ((((hr.alloc (Nat.le_refl _) _).more (by simp)).alloc (Nat.le_refl _) _).more (by simp)) (((reads_new w 5 [1]).alloc (by simp) _).more (by simp)) (by omega) (by simp) (by simp))
    have HB := Lib.hid (fun x y => ((Below.refl w.heap.size w).alloc (Nat.le_refl _) x).alloc (by simp) y)
    clear hr
    show Calls _ _ _ w (OwnVal (l ++ [1]) w)
    generalize l ++ [1] = L at *
    go_enter Tryz.func80, Tryz.ntmps80
    go_wp2_with fail
    refine HC.out.mono ?_
    rintro e w1 ⟨A1, c1, rfl, ho1, hc1, hb1⟩
    go_wp2_with fail
    go_ret
    exact ⟨A1, c1, rfl, own_base ho1 (by simp; omega), hc1, (HB.out _ _).trans (hb1.mono (by simp; omega))⟩

set_option maxRecDepth 100000 in
set_option maxHeartbeats 400000 in
theorem rFlag_any (A : Option Addr) (l : List UInt8) (c : Nat) (y : Bool) (w : World) (hr : Reads w w.heap.size 1 A l.length (cellsB l)) (hl : l.length ≤ 80000) :
    Calls Tryz.prog 22 #[.slice A l.length c, .bool y] w (OwnVal (l ++ encY y) w) := by
  obtain ⟨i0, hi, hz0, hz1, hz2⟩ := info_parts infoByte
  have HR := Lib.hid hr
  clear hr
  cases y
  · go_enter Tryz.func22, Tryz.ntmps22
    go_wp2_with (first | (at_builtin; refine wpList_append_any _ rfl (.tmp 6) (.tmp 7) 30 rfl w.heap.size 5 i0 (.int .u8 0) 1 1 Tryz.underlying30 hi hz0 hz1 hz2 rfl (by decide) (.slice none 0 0) 0 [] rfl (World.ownsRow_nil _ _ _ _) w.heap.size A l.length c (cellsB l) rfl HR.out (cellsB_one _) (by unfold maxLen; omega) (by omega) (Nat.le_refl _) ?_; intro v1 w1 ho1 hg1 hat1; rw [Nat.zero_add, List.nil_append] at ho1; have hb1 : Below w.heap.size w w1 := (Below.refl _ _).grown hg1 (Nat.le_refl _) (fun k hk => by cases hk); have HO := Lib.hid ho1; have hs1 := hb1.size; clear ho1 hg1 hat1) | (at_builtin; refine wpList_append_any _ rfl (.tmp 13) (.tmp 14) 30 rfl w.heap.size 5 i0 (.int .u8 0) 1 1 Tryz.underlying30 hi hz0 hz1 hz2 rfl (by decide) v1 l.length (cellsB l) rfl (HO.out.alloc _) _ _ 1 1 [.int .u8 0] rfl (reads_new1 _ _ _) (by simp [Value.oneCell']) (by unfold maxLen; omega) (by omega) (by simp; omega) ?_; intro v2 w2 ho2 hg2 hat2))
    have hb2 : Below w.heap.size w w2 := (hb1.alloc hs1 _).grown hg2 (by simp; omega) (fun g hg => (HO.out.lt g hg).1)
    have ho3 : w2.ownsRow w.heap.size 5 1 v2 (l ++ encY false).length (cellsB (l ++ encY false)) := by
      rw [cellsB_append, List.length_append]; exact ho2
    obtain ⟨A3, c3, rfl, hc3⟩ := own_slice ho3
    go_ret
    exact ⟨A3, c3, rfl, ho3, hc3, hb2⟩
  · go_enter Tryz.func22, Tryz.ntmps22
    go_wp2_with (first | (at_builtin; refine wpList_append_any _ rfl (.tmp 6) (.tmp 7) 30 rfl w.heap.size 5 i0 (.int .u8 0) 1 1 Tryz.underlying30 hi hz0 hz1 hz2 rfl (by decide) (.slice none 0 0) 0 [] rfl (World.ownsRow_nil _ _ _ _) w.heap.size A l.length c (cellsB l) rfl HR.out (cellsB_one _) (by unfold maxLen; omega) (by omega) (Nat.le_refl _) ?_; intro v1 w1 ho1 hg1 hat1; rw [Nat.zero_add, List.nil_append] at ho1; have hb1 : Below w.heap.size w w1 := (Below.refl _ _).grown hg1 (Nat.le_refl _) (fun k hk => by cases hk); have HO := Lib.hid ho1; have hs1 := hb1.size; clear ho1 hg1 hat1) | (at_builtin; refine wpList_append_any _ rfl (.tmp 10) (.tmp 11) 30 rfl w.heap.size 5 i0 (.int .u8 0) 1 1 Tryz.underlying30 hi hz0 hz1 hz2 rfl (by decide) v1 l.length (cellsB l) rfl (HO.out.alloc _) _ _ 1 1 [.int .u8 1] rfl (reads_new1 _ _ _) (by simp [Value.oneCell']) (by unfold maxLen; omega) (by omega) (by simp; omega) ?_; intro v2 w2 ho2 hg2 hat2))
    have hb2 : Below w.heap.size w w2 := (hb1.alloc hs1 _).grown hg2 (by simp; omega) (fun g hg => (HO.out.lt g hg).1)
    have ho3 : w2.ownsRow w.heap.size 5 1 v2 (l ++ encY true).length (cellsB (l ++ encY true)) := by
      rw [cellsB_append, List.length_append]; exact ho2
    obtain ⟨A3, c3, rfl, hc3⟩ := own_slice ho3
    go_ret
    exact ⟨A3, c3, rfl, ho3, hc3, hb2⟩

/-- How long a text is as a field. -/
def sizeT (n : Nat) : Int := if 1024 < n then 0 else (encLen n : Int) + n
end Go.Proofs.YtcockikekgmfkaaGreatDoor
namespace Go.Proofs.YtcockikekgmfkaaGreatDoor
open Go.RowKit

set_option maxHeartbeats 400000 in
theorem bad_any (r : Rec) (w : World) : Calls Tryz.prog 96 #[.agg #[.string r.1, .string r.2]] w fun e w' => e = .returned (.bool (badR r)) ∧ Below w.heap.size w w' := by
  have HB := Lib.hid (fun x => (Below.refl w.heap.size w).alloc (Nat.le_refl _) x)
  go_enter Tryz.func96, Tryz.ntmps96
  go_wp2
  all_goals (go_ret; exact ⟨ret_bool (by unfold badR; rw [Bool.eq_iff_iff]; simp; try omega), HB.out _⟩)

/-- The first bad record. -/
def idxR (l : List Rec) : Int := match l.findIdx? badR with | some k => k | none => -1
set_option maxRecDepth 100000 in
set_option maxHeartbeats 1000000 in
theorem IndexFunc_any (A : Option Addr) (l : List Rec) (c : Nat) (w : World) (hr : Reads w w.heap.size 2 A l.length (cellsR l)) (hl : l.length ≤ 1000000000000) :
    Calls Tryz.prog 97 #[.slice A l.length c, .func (.func 96) #[] #[]] w fun e w' => e = .returned (.int .i64 (idxR l)) ∧ Below w.heap.size w w' := by
  have HR := Lib.hid hr
  clear hr
  go_enter Tryz.func97, Tryz.ntmps97
  go_wp2_with fail
  go_loopw [8] (fun x wr => ∃ k : Nat, k ≤ l.length ∧ x = .int .i64 k ∧ Below w.heap.size w wr ∧ (l.take k).any badR = false) (fun x _ => l.length - (intOf x).toNat)
  case atStart => exact ⟨0, Nat.zero_le _, rfl, Below.refl _ _, by simp⟩
  case round =>
    obtain ⟨k, hk, rfl, hbel, hany⟩ := hrel
    have HBEL := Lib.hid hbel
    have HANY := Lib.hid hany
    clear hbel hany
    by_cases hlt : k < l.length
    · have d1 : decide ((k : Int) < (l.length : Int)) = true := by simp; omega
      obtain ⟨b1, o1, rfl, _, hc1⟩ := (HR.out.below HBEL.out).plain2 (by omega)
      obtain ⟨r, hx⟩ : ∃ z, l[k]? = some z := ⟨_, List.getElem?_eq_getElem hlt⟩
      obtain ⟨g1, g2⟩ := hc1 k _ hx
      have HBD := Lib.hid (fun W => bad_any r W)
      have hsn : (l.take (k + 1)).any badR = ((l.take k).any badR || badR r) := by
        rw [List.take_add_one, hx]; simp
      have HSN := Lib.hid hsn
      have HX := Lib.hid hx
      clear hc1 hx hsn
      cases hbr : badR r
      · have HBR := Lib.hid hbr
        rw [hbr] at HBD
        clear hbr
        go_wp2_with fail
        refine (HBD.out _).mono ?_
        rintro e w2 ⟨rfl, hb2⟩
        go_wp2_with fail
        go_roundw
        case rel => exact ⟨k + 1, by omega, by go_num, btrans HBEL.out hb2, by rw [HSN.out, HANY.out, HBR.out]; rfl⟩
        case measure => simp [intOf]; omega
      · have hfin : idxR l = k := by
          have h1 : l.findIdx? badR = some k := by
            rw [List.findIdx?_eq_some_iff_getElem]
            refine ⟨hlt, ?_, fun j hj => ?_⟩
            · rw [(List.getElem?_eq_some_iff.1 HX.out).2]; exact hbr
            · have h2 := List.any_eq_false.1 HANY.out (l[j]) (by rw [List.mem_take_iff_getElem]; exact ⟨j, by omega, rfl⟩)
              simpa using h2
          unfold idxR; rw [h1]
        have HF := Lib.hid hfin
        rw [hbr] at HBD
        clear hbr hfin
        go_wp2_with fail
        refine (HBD.out _).mono ?_
        rintro e w2 ⟨rfl, hb2⟩
        go_wp2_with fail
        go_ret
        exact ⟨ret_int HF.out.symm, btrans HBEL.out hb2⟩
    · have d1 : decide ((k : Int) < (l.length : Int)) = false := by simp; omega
      have hfin : idxR l = -1 := by
        have h1 : l.findIdx? badR = none := by
          rw [List.findIdx?_eq_none_iff]
          intro x hx
          have h2 := HANY.out
          rw [List.take_of_length_le (by omega)] at h2
          simpa using List.any_eq_false.1 h2 x hx
        unfold idxR; rw [h1]
      have HF := Lib.hid hfin
      clear hfin
      go_wp2_with fail
      go_ret
      exact ⟨ret_int HF.out.symm, HBEL.out⟩

theorem idxR_any (l : List Rec) : decide (0 ≤ idxR l) = l.any badR := by
  unfold idxR
  cases h : l.findIdx? badR with
  | none =>
    simp only
    have h2 : l.any badR = false := List.any_eq_false.2 fun x hx => by
      have := List.findIdx?_eq_none_iff.1 h x hx
      simp [this]
    rw [h2]; rfl
  | some k =>
    simp only
    obtain ⟨h1, h2, _⟩ := List.findIdx?_eq_some_iff_getElem.1 h
    have h3 : l.any badR = true := List.any_eq_true.2 ⟨_, List.getElem_mem h1, h2⟩
    rw [h3]
    simp

theorem ContainsFunc_any (A : Option Addr) (l : List Rec) (c : Nat) (w : World) (hr : Reads w w.heap.size 2 A l.length (cellsR l)) (hl : l.length ≤ 1000000000000) :
    Calls Tryz.prog 95 #[.slice A l.length c, .func (.func 96) #[] #[]] w fun e w' => e = .returned (.bool (l.any badR)) ∧ Below w.heap.size w w' := by
  have HI := Lib.hid (IndexFunc_any A l c w hr hl)
  have HA := Lib.hid (idxR_any l)
  clear hr
  go_enter Tryz.func95, Tryz.ntmps95
  go_wp2_with fail
  refine HI.out.mono ?_
  rintro e w2 ⟨rfl, hb2⟩
  go_wp2_with fail
  go_ret
  exact ⟨ret_bool HA.out, hb2⟩

set_option maxRecDepth 100000 in
set_option maxHeartbeats 1000000 in
theorem RcMay_any (b : Bat) (A1 : Option Addr) (c1 : Nat) (w : World) (hr : Reads w w.heap.size 2 A1 b.rs.length (cellsR b.rs)) :
    Calls Tryz.prog 89 #[(.agg #[.int .i64 b.pid, .int .i64 b.ep, .int .i64 b.seq, .bool b.txn, .slice A1 b.rs.length c1])] w fun e w' => e = .returned (.bool (mayBt b)) ∧ Below w.heap.size w w' := by
  have HB := Lib.hid (fun x => (Below.refl w.heap.size w).alloc (Nat.le_refl _) x)
  by_cases hh : headB b = true
  · have hd : 1 ≤ b.pid ∧ b.pid ≤ 8 ∧ 0 ≤ b.ep ∧ b.ep ≤ 100 ∧ 1 ≤ b.rs.length ∧ b.rs.length ≤ 4 ∧ 0 ≤ b.seq ∧ b.seq + b.rs.length ≤ 1048576 := by
      unfold headB at hh; simpa using hh
    have hfin : mayBt b = !(b.rs.any badR) := by unfold mayBt; rw [hh]; rfl
    have HF := Lib.hid hfin
    have HC := Lib.hid (ContainsFunc_any A1 b.rs c1 (w.alloc (.cells #[.int .i64 b.pid, .int .i64 b.ep, .int .i64 b.seq, .bool b.txn, .slice A1 b.rs.length c1] 25)) ((hr.alloc (Nat.le_refl _) _).more (by simp)) (by omega))
    obtain ⟨q1, q2, q3, q4, q5, q6, q7, q8⟩ := hd
    have d1 : ¬ b.pid < 1 := by omega
    have d2 : ¬ 8 < b.pid := by omega
    have d3 : ¬ b.ep < 0 := by omega
    have d4 : ¬ 100 < b.ep := by omega
    have d5 : ¬ (b.rs.length : Int) < 1 := by omega
    have d6 : ¬ 4 < (b.rs.length : Int) := by omega
    have d7 : ¬ b.seq < 0 := by omega
    have d8 : ¬ 1048576 - (b.rs.length : Int) < b.seq := by omega
    clear hr hfin hh
    go_enter Tryz.func89, Tryz.ntmps89
    go_wp2_with fail
    refine HC.out.mono ?_
    rintro e w2 ⟨rfl, hb2⟩
    go_wp2_with fail
    go_ret
    exact ⟨ret_bool HF.out.symm, btrans (HB.out _) hb2⟩
  · have hfin : mayBt b = false := by unfold mayBt; rw [Bool.not_eq_true] at hh; rw [hh]; rfl
    rw [hfin]
    have hd : ¬ (1 ≤ b.pid ∧ b.pid ≤ 8 ∧ 0 ≤ b.ep ∧ b.ep ≤ 100 ∧ 1 ≤ b.rs.length ∧ b.rs.length ≤ 4 ∧ 0 ≤ b.seq ∧ b.seq + b.rs.length ≤ 1048576) := by
      unfold headB at hh; simpa using hh
    have HD := Lib.hid hd
    clear hr hfin hh hd
    go_enter Tryz.func89, Tryz.ntmps89
    go_wp2_with fail
    all_goals first | (go_ret; exact ⟨rfl, HB.out _⟩) | (exfalso; have := HD.out; omega)
end Go.Proofs.YtcockikekgmfkaaGreatDoor
