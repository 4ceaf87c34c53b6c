/-
  The statement VarintTells: its walk.
-/
import Derived.Test.YtlojphajdefkdaaDoorVaI
namespace Go.Proofs.YtlojphajdefkdaaDoor
open Go.RowKit

/-- What Put gives, by both. -/
theorem put_both (l : List UInt8) (n : Int) (hl : l.length ≤ 90000) : ∃ (X : List UInt8) (E : Int), X.length ≤ 90006 ∧
    (∀ (A : Option Addr) (c : Nat) (w : World), Reads w w.heap.size 1 A l.length (cellsB l) → Calls Tryd.prog 10 #[.slice A l.length c, .int .i64 n] w (BytesPost X E w)) ∧
    (∀ (A : Option Addr) (c : Nat) (w : World), Reads w w.heap.size 1 A l.length (cellsB l) → Calls Tryd.prog 11 #[.slice A l.length c, .int .i64 n] w (BytesPost X E w)) := by
  by_cases h : n < 0 ∨ 1099511627776 < n
  · exact ⟨[], 2, by simp, fun A c w _ => Put_no A l.length c n w h, fun A c w _ => rPut_no A l.length c n w h⟩
  · obtain ⟨k, rfl⟩ := Int.eq_ofNat_of_zero_le (show 0 ≤ n by omega)
    have hk : k ≤ maxNum := show k ≤ 1099511627776 by omega
    refine ⟨l ++ enc k, 0, ?_, fun A c w hr => Put_ok A l c k w hr hl hk, fun A c w hr => rPut_ok A l c k w hr hl hk⟩
    have := encLen_le k hk
    unfold encLen at this
    rw [List.length_append]; omega

set_option maxRecDepth 100000 in
set_option maxHeartbeats 1000000 in
theorem tells_walk (A : Option Addr) (l : List UInt8) (c : Nat) (n k : Int) (w : World) (hr : Reads w w.heap.size 1 A l.length (cellsB l)) (hl : l.length ≤ 140737488351232) (hg : HasErr w) :
    Calls Tryd.prog 3 #[.slice A l.length c, .int .i64 n, .int .i64 k] w fun e w' => e = .returned (.bool true) ∧ Below w.heap.size w w' := by
  by_cases hbig : 2000 < l.length
  · have hd : decide ((2000 : Int) < (l.length : Int)) = true := by simp; omega
    have HWK := Lib.hid (wakes_any w hg)
    clear hr hg
    go_enter Tryd.func3, Tryd.ntmps3
    go_wp2_with (go_at_call 9; refine HWK.out.mono ?_; rintro e w' ⟨rfl, hb⟩)
    go_ret
    exact ⟨rfl, hb⟩
  · have hd : decide ((2000 : Int) < (l.length : Int)) = false := by simp; omega
    obtain ⟨X, E, hX, hp1, hp2⟩ := put_both l n (by omega)
    have HP1 := Lib.hid (hp1 A c w hr)
    have HP2 := Lib.hid hp2
    have HR := Lib.hid hr
    have HG := Lib.hid hg
    have hll : l.length ≤ 100000 := by omega
    clear hp1 hp2 hr hg
    go_enter Tryd.func3, Tryd.ntmps3
    go_wp2_with fail
    refine HP1.out.mono ?_
    rintro e w1 ⟨A1, c1, rfl, r1, _, b1⟩
    have HC2 := Lib.hid (HP2.out A c w1 ((HR.out.below b1).more b1.size))
    have R1 := Lib.hid r1
    clear r1 HP1 HP2
    go_wp2_with fail
    refine HC2.out.mono ?_
    rintro e w2 ⟨A2, c2, rfl, r2, _, b2⟩
    have b12 := b1.trans (b2.mono b1.size)
    have hg2 := HG.out.below b12 HG.out.lt
    have HC3 := Lib.hid (Get_any A l c k w2 hll hg2 ((HR.out.below b12).more b12.size))
    have R2 := Lib.hid r2
    have HG2 := Lib.hid hg2
    clear r2 HC2 hg2
    go_wp2_with fail
    refine HC3.out.mono ?_
    rintro e w3 ⟨rfl, b3⟩
    have hc4 := rGet_any A l c w.heap.size k w3 hll (HR.out.below (b12.trans (b3.mono b12.size)))
    generalize getOf l k = g at hc4 ⊢
    obtain ⟨ga, gb, gc⟩ := g
    have HC4 := Lib.hid hc4
    have hl1 := fun W => Len_any n W
    have hl2 := fun W => rLen_any n W
    generalize (if n < 0 ∨ 1099511627776 < n then 0 else (encLen n.toNat : Int)) = ln at hl1 hl2
    have HL1 := Lib.hid hl1
    have HL2 := Lib.hid hl2
    clear hc4 hl1 hl2
    have hcv1 := run_string_of (c := c1) Tryd.underlying22 Tryd.underlying5 Tryd.underlying9 (R1.out.below (b2.trans (b3.mono b2.size)))
    have hcv2 := run_string_of (c := c2) Tryd.underlying22 Tryd.underlying5 Tryd.underlying9 (R2.out.below b3)
    have HG3 := Lib.hid (HG2.out.below b3 HG2.out.lt)
    have HWK := Lib.hid (fun W (h : HasErr W) => wakes_any W h)
    clear HC3 R1 R2 HG2 HG
    go_wp2_with (first | (go_at_call 13; refine HC4.out.mono ?_; rintro e w4 ⟨rfl, rfl⟩) | (go_at_call 14; refine (HL1.out _).mono ?_; rintro e w5 ⟨rfl, rfl⟩) | (go_at_call 15; refine (HL2.out _).mono ?_; rintro e w6 ⟨rfl, b6⟩; have hg6 := HG3.out.below b6 HG3.out.lt) | (go_at_call 9; refine (HWK.out _ hg6).mono ?_; rintro e w7 ⟨rfl, b7⟩))
    go_ret
    refine ⟨rfl, ?_⟩
    have m3 := b12.trans (b3.mono b12.size)
    have m6 := m3.trans (b6.mono m3.size)
    exact m6.trans (b7.mono m6.size)
end Go.Proofs.YtlojphajdefkdaaDoor
