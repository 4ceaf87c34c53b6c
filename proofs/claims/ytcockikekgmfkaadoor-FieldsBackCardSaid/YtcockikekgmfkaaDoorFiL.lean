/-
  The statement FieldsWrite: its walk.
-/
import Derived.Test.YtcockikekgmfkaaDoorFiK
namespace Go.Proofs.YtcockikekgmfkaaDoor
open Go.RowKit

def numB (l : List UInt8) (n : Int) : List UInt8 × Int := if n < 0 ∨ 1099511627776 < n then ([], 2) else (l ++ enc n.toNat, 0)
def txtB (l : List UInt8) (t : ByteArray) : List UInt8 × Int := if 1024 < t.size then ([], 2) else (l ++ (cTxt 1024).e (lb t), 0)
section
variable (A : Option Addr) (l : List UInt8) (c : Nat) (w : World) (hr : Reads w w.heap.size 1 A l.length (cellsB l)) (hl : l.length ≤ 80000)
include hr hl
theorem Number_any (n : Int) : Calls Tryd.prog 39 #[.slice A l.length c, .int .i64 n] w (BytesPost (numB l n).1 (numB l n).2 w) := by
  unfold numB
  by_cases h : n < 0 ∨ 1099511627776 < n
  · rw [if_pos h]; exact Number_no A l.length c n w h
  · rw [if_neg h]
    obtain ⟨m, rfl⟩ := Int.eq_ofNat_of_zero_le (show 0 ≤ n by omega)
    rw [Int.toNat_natCast]
    exact Number_ok A l c m w hr (by omega) (by unfold maxNum; omega)
theorem rNumber_any (n : Int) : Calls Tryd.prog 40 #[.slice A l.length c, .int .i64 n] w (BytesPost (numB l n).1 (numB l n).2 w) := by
  unfold numB
  by_cases h : n < 0 ∨ 1099511627776 < n
  · rw [if_pos h]; exact rNumber_no A l.length c n w h
  · rw [if_neg h]
    obtain ⟨m, rfl⟩ := Int.eq_ofNat_of_zero_le (show 0 ≤ n by omega)
    rw [Int.toNat_natCast]
    exact rNumber_ok A l c m w hr (by omega) (by unfold maxNum; omega)
theorem Text_any (t : ByteArray) : Calls Tryd.prog 41 #[.slice A l.length c, .string t] w (BytesPost (txtB l t).1 (txtB l t).2 w) := by
  unfold txtB
  by_cases h : 1024 < t.size
  · rw [if_pos h]; exact Text_no A l.length c t w h
  · rw [if_neg h]; exact (Text_ok A l c t w hr hl (by omega)).mono fun _ _ h => h.bytes
theorem rText_any (t : ByteArray) : Calls Tryd.prog 42 #[.slice A l.length c, .string t] w (BytesPost (txtB l t).1 (txtB l t).2 w) := by
  unfold txtB
  by_cases h : 1024 < t.size
  · rw [if_pos h]; exact rText_no A l.length c t w h
  · rw [if_neg h]; exact (rText_ok A l c t w hr hl (by omega)).mono fun _ _ h => h.bytes
end
/-- string(b) of bytes that lie there, whatever is made behind. -/
def StrAt (A : Option Addr) (n c : Nat) (l : List UInt8) (W : World) : Prop := (convert 50 9 (.slice A n c)).run Tryd.prog W = .ok (.string (bs l)) W
theorem str_at {A : Option Addr} {n c B : Nat} {l : List UInt8} {W : World} (h : Reads W B 1 A n (cellsB l)) : StrAt A n c l W :=
  run_string_of (P := Tryd.prog) (src := 50) (dst := 9) Tryd.underlying50 Tryd.underlying5 Tryd.underlying9 h

set_option maxRecDepth 100000 in
set_option maxHeartbeats 4000000 in
theorem fwrite_walk (A : Option Addr) (l : List UInt8) (c : Nat) (n : Int) (t : ByteArray) (y : Bool) (w : World) (hg : HasET w) (hr : Reads w w.heap.size 1 A l.length (cellsB l)) (hl : l.length ≤ 140737488351232) (ht : t.size ≤ 140737488351232) :
    Calls Tryd.prog 6 #[.slice A l.length c, .int .i64 n, .string t, .bool y] w fun e w' => e = .returned (.bool true) ∧ Below w.heap.size w w' := by
  by_cases hbig : 4000 < l.length + t.size
  · have hd : decide ((4000 : Int) < (l.length : Int) + (t.size : Int)) = true := by simp; omega
    have HWK := Lib.hid (wakes02 w hg)
    clear hr hg
    go_enter Tryd.func6, Tryd.ntmps6
    go_wp2_with fail
    refine HWK.out.mono ?_
    rintro e w' ⟨rfl, hb⟩
    go_wp2_with fail
    go_ret
    exact ⟨rfl, hb⟩
  · have hd : decide ((4000 : Int) < (l.length : Int) + (t.size : Int)) = false := by simp; omega
    have hl' : l.length ≤ 4000 := by omega
    have HWK := Lib.hid (fun W (bW : Below w.heap.size w W) => wakes02 W (hg.up bW))
    have rr := fun W (bW : Below w.heap.size w W) => (hr.below bW).more bW.size
    have N1 := Lib.hid (fun W bW => Number_any A l c W (rr W bW) (by omega) n)
    have N2 := Lib.hid (fun W bW => rNumber_any A l c W (rr W bW) (by omega) n)
    have T1 := Lib.hid (fun W bW => Text_any A l c W (rr W bW) (by omega) t)
    have T2 := Lib.hid (fun W bW => rText_any A l c W (rr W bW) (by omega) t)
    have F1 := Lib.hid (fun W bW => Flag_any A l c y W (rr W bW) (by omega))
    have F2 := Lib.hid (fun W bW => rFlag_any A l c y W (rr W bW) (by omega))
    have S1 := Lib.hid (Size_any t)
    have S2 := Lib.hid (rSize_any t)
    generalize (numB l n).1 = Ln at *
    generalize (numB l n).2 = en at *
    generalize (txtB l t).1 = Lt at *
    generalize (txtB l t).2 = et at *
    generalize l ++ encY y = Ly at *
    generalize sizeT t.size = sz at *
    have b0 := Below.refl w.heap.size w
    clear hr hg rr hbig
    go_enter Tryd.func6, Tryd.ntmps6
    go_wp2_with fail
    refine (N1.out _ b0).mono ?_
    rintro e w1 ⟨A1, c1, rfl, r1, hc1, b1⟩
    go_wp2_with fail
    refine (N2.out _ b1).mono ?_
    rintro e w2 ⟨A2, c2, rfl, r2, hc2, b2⟩
    have r12 := (r1.below b2).more b2.size
    have b12 := btrans b1 b2
    clear r1 b1 b2
    go_wp2_with fail
    refine (T1.out _ b12).mono ?_
    rintro e w3 ⟨A3, c3, rfl, r3, hc3, b3⟩
    have r13 := (r12.below b3).more b3.size
    have r23 := (r2.below b3).more b3.size
    have b13 := btrans b12 b3
    clear r12 r2 b12 b3
    go_wp2_with fail
    refine (T2.out _ b13).mono ?_
    rintro e w4 ⟨A4, c4, rfl, r4, hc4, b4⟩
    have r14 := Lib.hid ((r13.below b4).more b4.size)
    have r24 := Lib.hid ((r23.below b4).more b4.size)
    have r34 := Lib.hid ((r3.below b4).more b4.size)
    have r44 := Lib.hid r4
    have b14 := btrans b13 b4
    have bz := b14.size
    clear r13 r23 r3 r4 b13 b4
    go_wp2_with fail
    go_region_held (fun W => Below w.heap.size w W ∧ Below w4.heap.size w4 W ∧ (convert 50 9 (.slice A1 Ln.length c1)).run Tryd.prog W = .ok (.string (bs Ln)) W ∧ (convert 50 9 (.slice A2 Ln.length c2)).run Tryd.prog W = .ok (.string (bs Ln)) W ∧ (convert 50 9 (.slice A3 Lt.length c3)).run Tryd.prog W = .ok (.string (bs Lt)) W ∧ (convert 50 9 (.slice A4 Lt.length c4)).run Tryd.prog W = .ok (.string (bs Lt)) W)
      (first | exact ⟨b14.drew, (Below.refl _ w4).drew, str_at r14.out, str_at r24.out, str_at r34.out, str_at r44.out⟩ | (go_split_ands; refine ⟨?_, ?_, ?_, ?_, ?_, ?_⟩ <;> assumption) | (go_split_ands; have bb := btrans (by assumption : Below w4.heap.size w4 _) hb; exact ⟨btrans (by assumption) hb, bb, str_at (r14.out.below bb), str_at (r24.out.below bb), str_at (r34.out.below bb), str_at (r44.out.below bb)⟩))
      (first | (go_at_call 13; refine (HWK.out _ (by go_split_ands; assumption)).mono ?_; rintro e w' ⟨rfl, hb⟩) | (go_at_call 45; refine (S1.out _).mono ?_; rintro e w' ⟨rfl, rfl⟩) | (go_at_call 46; refine (S2.out _).mono ?_; rintro e w' ⟨rfl, hb⟩) | (go_at_call 43; refine (F1.out _ (by go_split_ands; assumption)).mono ?_; rintro e w' ⟨A5, c5, rfl, o5, hc5, hb⟩; have r5 := Reads.of_own o5; have t5 := run_string_of (P := Tryd.prog) (src := 50) (dst := 9) (c := c5) Tryd.underlying50 Tryd.underlying5 Tryd.underlying9 r5) | (go_at_call 44; refine (F2.out _ (by go_split_ands; assumption)).mono ?_; rintro e w' ⟨A6, c6, rfl, o6, hc6, hb⟩; have r6 := Reads.of_own o6; have t6 := run_string_of (P := Tryd.prog) (src := 50) (dst := 9) (c := c6) Tryd.underlying50 Tryd.underlying5 Tryd.underlying9 r6; have r7 := r5.below hb; have t7 := run_string_of (P := Tryd.prog) (src := 50) (dst := 9) (c := c5) Tryd.underlying50 Tryd.underlying5 Tryd.underlying9 r7))
    all_goals go_wp2_with fail
    all_goals go_ret
    all_goals exact ⟨rfl, by go_split_ands; assumption⟩
end Go.Proofs.YtcockikekgmfkaaDoor
