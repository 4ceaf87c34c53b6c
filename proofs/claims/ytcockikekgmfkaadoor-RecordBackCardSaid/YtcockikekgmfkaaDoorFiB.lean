/-
  Layer 2, writing: flags; how long a text is.
-/
import Derived.Test.YtcockikekgmfkaaDoorFiA
namespace Go.Proofs.YtcockikekgmfkaaDoor
open Go.RowKit

set_option maxRecDepth 100000 in
set_option maxHeartbeats 400000 in
theorem Flag_any (A : Option Addr) (l : List UInt8) (c : Nat) (y : Bool) (w : World) (hr : Reads w w.heap.size 1 A l.length (cellsB l)) (hl : l.length ≤ 80000) :
    Calls Tryd.prog 43 #[.slice A l.length c, .bool y] w (OwnVal (l ++ encY y) w) := by
  cases y
  · have HC := Lib.hid (Concat_any (w.heap.size + 1) A (some ⟨w.heap.size, 0, none⟩) l [0] c 1 ((w.alloc (.cells #[.int .u8 0] 5)).alloc (.cells #[.slice A l.length c, .slice (some ⟨w.heap.size, 0, none⟩) 1 1] 50)) (by simp) (by simp) ((((hr.alloc (Nat.le_refl _) _).more (by simp)).alloc (Nat.le_refl _) _).more (by simp)) (((reads_new w 5 [0]).alloc (by simp) _).more (by simp)) (by omega) (by simp) (by simp))
    have HB := Lib.hid (fun x y => ((Below.refl w.heap.size w).alloc (Nat.le_refl _) x).alloc (by simp) y)
    clear hr
    show Calls _ _ _ w (OwnVal (l ++ [0]) w)
    generalize l ++ [0] = L at *
    go_enter Tryd.func43, Tryd.ntmps43
    go_wp2_with fail
    refine HC.out.mono ?_
    rintro e w1 ⟨A1, c1, rfl, ho1, hc1, hb1⟩
    go_wp2_with fail
    go_ret
    exact ⟨A1, c1, rfl, own_base ho1 (by simp; omega), hc1, (HB.out _ _).trans (hb1.mono (by simp; omega))⟩
  · have HC := Lib.hid (Concat_any (w.heap.size + 1) A (some ⟨w.heap.size, 0, none⟩) l [1] c 1 ((w.alloc (.cells #[.int .u8 1] 5)).alloc (.cells #[.slice A l.length c, .slice (some ⟨w.heap.size, 0, none⟩) 1 1] 50)) (by simp) (by simp) ((((hr.alloc (Nat.le_refl _) _).more (by simp)).alloc (Nat.le_refl _) _).more (by simp)) (((reads_new w 5 [1]).alloc (by simp) _).more (by simp)) (by omega) (by simp) (by simp))
    have HB := Lib.hid (fun x y => ((Below.refl w.heap.size w).alloc (Nat.le_refl _) x).alloc (by simp) y)
    clear hr
    show Calls _ _ _ w (OwnVal (l ++ [1]) w)
    generalize l ++ [1] = L at *
    go_enter Tryd.func43, Tryd.ntmps43
    go_wp2_with fail
    refine HC.out.mono ?_
    rintro e w1 ⟨A1, c1, rfl, ho1, hc1, hb1⟩
    go_wp2_with fail
    go_ret
    exact ⟨A1, c1, rfl, own_base ho1 (by simp; omega), hc1, (HB.out _ _).trans (hb1.mono (by simp; omega))⟩

set_option maxRecDepth 100000 in
set_option maxHeartbeats 400000 in
theorem rFlag_any (A : Option Addr) (l : List UInt8) (c : Nat) (y : Bool) (w : World) (hr : Reads w w.heap.size 1 A l.length (cellsB l)) (hl : l.length ≤ 80000) :
    Calls Tryd.prog 44 #[.slice A l.length c, .bool y] w (OwnVal (l ++ encY y) w) := by
  obtain ⟨i0, hi, hz0, hz1, hz2⟩ := info_parts infoByte
  have HR := Lib.hid hr
  clear hr
  cases y
  · go_enter Tryd.func44, Tryd.ntmps44
    go_wp2_with (first | (at_builtin; refine wpList_append_any _ rfl (.tmp 6) (.tmp 7) 50 rfl w.heap.size 5 i0 (.int .u8 0) 1 1 Tryd.underlying50 hi hz0 hz1 hz2 rfl (by decide) (.slice none 0 0) 0 [] rfl (World.ownsRow_nil _ _ _ _) w.heap.size A l.length c (cellsB l) rfl HR.out (cellsB_one _) (by unfold maxLen; omega) (by omega) (Nat.le_refl _) ?_; intro v1 w1 ho1 hg1 hat1; rw [Nat.zero_add, List.nil_append] at ho1; have hb1 : Below w.heap.size w w1 := (Below.refl _ _).grown hg1 (Nat.le_refl _) (fun k hk => by cases hk); have HO := Lib.hid ho1; have hs1 := hb1.size; clear ho1 hg1 hat1) | (at_builtin; refine wpList_append_any _ rfl (.tmp 13) (.tmp 14) 50 rfl w.heap.size 5 i0 (.int .u8 0) 1 1 Tryd.underlying50 hi hz0 hz1 hz2 rfl (by decide) v1 l.length (cellsB l) rfl (HO.out.alloc _) _ _ 1 1 [.int .u8 0] rfl (reads_new1 _ _ _) (by simp [Value.oneCell']) (by unfold maxLen; omega) (by omega) (by simp; omega) ?_; intro v2 w2 ho2 hg2 hat2))
    have hb2 : Below w.heap.size w w2 := (hb1.alloc hs1 _).grown hg2 (by simp; omega) (fun g hg => (HO.out.lt g hg).1)
    have ho3 : w2.ownsRow w.heap.size 5 1 v2 (l ++ encY false).length (cellsB (l ++ encY false)) := by
      rw [cellsB_append, List.length_append]; exact ho2
    obtain ⟨A3, c3, rfl, hc3⟩ := own_slice ho3
    go_ret
    exact ⟨A3, c3, rfl, ho3, hc3, hb2⟩
  · go_enter Tryd.func44, Tryd.ntmps44
    go_wp2_with (first | (at_builtin; refine wpList_append_any _ rfl (.tmp 6) (.tmp 7) 50 rfl w.heap.size 5 i0 (.int .u8 0) 1 1 Tryd.underlying50 hi hz0 hz1 hz2 rfl (by decide) (.slice none 0 0) 0 [] rfl (World.ownsRow_nil _ _ _ _) w.heap.size A l.length c (cellsB l) rfl HR.out (cellsB_one _) (by unfold maxLen; omega) (by omega) (Nat.le_refl _) ?_; intro v1 w1 ho1 hg1 hat1; rw [Nat.zero_add, List.nil_append] at ho1; have hb1 : Below w.heap.size w w1 := (Below.refl _ _).grown hg1 (Nat.le_refl _) (fun k hk => by cases hk); have HO := Lib.hid ho1; have hs1 := hb1.size; clear ho1 hg1 hat1) | (at_builtin; refine wpList_append_any _ rfl (.tmp 10) (.tmp 11) 50 rfl w.heap.size 5 i0 (.int .u8 0) 1 1 Tryd.underlying50 hi hz0 hz1 hz2 rfl (by decide) v1 l.length (cellsB l) rfl (HO.out.alloc _) _ _ 1 1 [.int .u8 1] rfl (reads_new1 _ _ _) (by simp [Value.oneCell']) (by unfold maxLen; omega) (by omega) (by simp; omega) ?_; intro v2 w2 ho2 hg2 hat2))
    have hb2 : Below w.heap.size w w2 := (hb1.alloc hs1 _).grown hg2 (by simp; omega) (fun g hg => (HO.out.lt g hg).1)
    have ho3 : w2.ownsRow w.heap.size 5 1 v2 (l ++ encY true).length (cellsB (l ++ encY true)) := by
      rw [cellsB_append, List.length_append]; exact ho2
    obtain ⟨A3, c3, rfl, hc3⟩ := own_slice ho3
    go_ret
    exact ⟨A3, c3, rfl, ho3, hc3, hb2⟩

/-- How long a text is as a field. -/
def sizeT (n : Nat) : Int := if 1024 < n then 0 else (encLen n : Int) + n
theorem Size_any (t : ByteArray) (w : World) : Calls Tryd.prog 45 #[.string t] w fun e w' => e = .returned (.int .i64 (sizeT t.size)) ∧ w = w' := by
  by_cases h : 1024 < t.size
  · have hd : decide ((1024 : Int) < (t.size : Int)) = true := by simp; omega
    have hs : sizeT t.size = 0 := by unfold sizeT; rw [if_pos h]
    rw [hs]
    go_enter Tryd.func45, Tryd.ntmps45
    go_wp2_with fail
    go_ret
    exact ⟨rfl, rfl⟩
  · have hd : decide ((1024 : Int) < (t.size : Int)) = false := by simp; omega
    have hs : sizeT t.size = (encLen t.size : Int) + t.size := by unfold sizeT; rw [if_neg h]
    rw [hs]
    have HL := Lib.hid (fun W => len_ok t.size W (by unfold maxNum; omega))
    have hle := encLen_le t.size (by unfold maxNum; omega)
    have ht : t.size ≤ 1024 := by omega
    clear hs
    go_enter Tryd.func45, Tryd.ntmps45
    go_wp2_with (go_at_call 74; refine (HL.out _).mono ?_; rintro e w1 ⟨rfl, rfl⟩)
    go_ret
    exact ⟨rfl, rfl⟩
theorem rSize_any (t : ByteArray) (w : World) : Calls Tryd.prog 46 #[.string t] w fun e w' => e = .returned (.int .i64 (sizeT t.size)) ∧ Below w.heap.size w w' := by
  by_cases h : 1024 < t.size
  · have hd : decide ((1024 : Int) < (t.size : Int)) = true := by simp; omega
    have hs : sizeT t.size = 0 := by unfold sizeT; rw [if_pos h]
    rw [hs]
    go_enter Tryd.func46, Tryd.ntmps46
    go_wp2_with fail
    go_ret
    exact ⟨rfl, Below.refl _ _⟩
  · have hd : decide ((1024 : Int) < (t.size : Int)) = false := by simp; omega
    have hs : sizeT t.size = (encLen t.size : Int) + t.size := by unfold sizeT; rw [if_neg h]
    rw [hs]
    have hl := fun W => rLen_any t.size W
    have he : (if (t.size : Int) < 0 ∨ 1099511627776 < (t.size : Int) then 0 else (encLen (t.size : Int).toNat : Int)) = encLen t.size := by rw [if_neg (by omega), Int.toNat_natCast]
    rw [he] at hl
    have HL := Lib.hid hl
    have hle := encLen_le t.size (by unfold maxNum; omega)
    have ht : t.size ≤ 1024 := by omega
    clear hs hl he
    go_enter Tryd.func46, Tryd.ntmps46
    go_wp2_with (go_at_call 75; refine (HL.out _).mono ?_; rintro e w1 ⟨rfl, hb1⟩)
    go_ret
    exact ⟨rfl, hb1⟩
end Go.Proofs.YtcockikekgmfkaaDoor
