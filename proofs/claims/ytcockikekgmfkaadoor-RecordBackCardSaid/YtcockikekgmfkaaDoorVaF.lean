/-
  Package varint's place.next: what it gives.
-/
import Derived.Test.YtcockikekgmfkaaDoorVaE
namespace Go.Proofs.YtcockikekgmfkaaDoor
open Go.RowKit

theorem decF_step (f i acc : Nat) (c : UInt8) (r : List UInt8) (h : 128 ≤ c.toNat) : decF (f + 1) i acc (c :: r) = decF f (i + 1) (acc + c.toNat % 128 * 128 ^ i) r := by
  rw [decF, if_pos h]
theorem decF_stop (f i acc : Nat) (c : UInt8) (r : List UInt8) (h : c.toNat < 128) : decF (f + 1) i acc (c :: r) = if (c.toNat = 0 ∧ 0 < i) ∨ maxNum < acc + c.toNat % 128 * 128 ^ i then none else some (acc + c.toNat % 128 * 128 ^ i, i + 1) := by
  rw [decF, if_neg (by omega)]

/-- The world behind a call that has failed: one error more. -/
def Broken (w : World) (e : Ending) (w' : World) : Prop :=
  ∃ b, e = .returned (.tuple #[.int .i64 0, .iface 158 (.pointer (some ⟨b, 0, none⟩))]) ∧ w'.cell? ⟨b, 1, none⟩ = some (.int .i64 70) ∧ w.heap.size ≤ b ∧ Below w.heap.size w w'
theorem broken_of (w : World) (k : Int) (q : Nat) : Broken w (.returned (.tuple #[.int .i64 0, .iface 158 (.pointer (some ⟨w.heap.size, 0, none⟩))])) ((w.drewN q).alloc (.cells #[.int .i64 k, .int .i64 70] 160)) :=
  ⟨_, rfl, (Blk.new (w.drewN q) 160 #[.int .i64 k, .int .i64 70]).cell 1, Nat.le_refl _, (below_drewN (Below.refl _ _) q).alloc (Nat.le_refl _) _⟩

set_option maxRecDepth 100000 in
set_option maxHeartbeats 1000000 in
theorem next_out (p : Nat) (A : Option Addr) (L : List UInt8) (c : Nat) (k : Int) (w : World) (h0 : w.cell? ⟨p, 0, none⟩ = some (.slice A L.length c)) (h1 : w.cell? ⟨p, 1, none⟩ = some (.int .i64 k)) (hk : k < 0 ∨ (L.length : Int) < k) :
    Calls Tryd.prog 90 #[.pointer (some ⟨p, 0, none⟩)] w (Broken w) := by
  rcases hk with hk | hk
  · have hd : decide (k < 0) = true := by simpa using hk
    go_enter Tryd.func90, Tryd.ntmps90
    go_wp2
    go_quiet (fail)
    go_wp2
    go_region
    go_wp2
    go_ret2
    exact broken_of w k _
  · have hd : decide (k < 0) = false := by simp; omega
    have hd2 : decide ((L.length : Int) < k) = true := by simpa using hk
    go_enter Tryd.func90, Tryd.ntmps90
    go_wp2
    go_quiet (fail)
    go_wp2
    go_region
    go_wp2
    go_ret2
    exact broken_of w k _

/-- What place.next gives at a place within its bytes. -/
def NextPost (p : Nat) (L : List UInt8) (k : Nat) (w : World) (e : Ending) (w' : World) : Prop :=
  match dec (L.drop k) with
  | none => Broken w e w'
  | some (n, m) => e = .returned (.tuple #[.int .i64 (n : Int), .nilIface]) ∧ ∃ q, w' = (w.drewN q).setCell ⟨p, 1, none⟩ (.int .i64 ((k : Int) + ((m : Int))))

set_option maxRecDepth 100000 in
set_option maxHeartbeats 1000000 in
theorem next_in (p : Nat) (A : Option Addr) (L : List UInt8) (c k B : Nat) (w : World) (h0 : w.cell? ⟨p, 0, none⟩ = some (.slice A L.length c)) (h1 : w.cell? ⟨p, 1, none⟩ = some (.int .i64 k)) (hf1 : w.frozen? ⟨p, 1, none⟩ = false) (hk : k ≤ L.length) (hL : L.length ≤ 100000)
    (hr : Reads w B 1 A L.length (cellsB L)) :
    Calls Tryd.prog 90 #[.pointer (some ⟨p, 0, none⟩)] w (NextPost p L k w) := by
  have hd : decide ((k : Int) < 0) = false := by simp
  have hd2 : decide (L.length < k) = false := by simp; omega
  have hmin : (if (L.length : Int) - (k : Int) < 6 then (L.length : Int) - (k : Int) else 6) = ((min (L.length - k) 6 : Nat) : Int) := by
    split <;> omega
  have HMIN := Lib.hid hmin
  clear hmin
  go_enter Tryd.func90, Tryd.ntmps90
  go_wp2
  go_quiet (fail)
  go_wp2
  go_region
  rw [HMIN.out]
  obtain ⟨mx, hmx⟩ : ∃ mx, min (L.length - k) 6 = mx := ⟨_, rfl⟩
  rw [hmx]
  have hmx1 : mx ≤ 6 := by omega
  have hmx2 : k + mx ≤ L.length := by omega
  have hmx3 : mx < 6 → k + mx = L.length := by omega
  have HMX3 := Lib.hid hmx3
  clear hmx HMIN hmx3
  go_wp2_with fail
  go_loopw [4, 42] (fun x y wr => ∃ i acc q : Nat, i ≤ mx ∧ y = .int .i64 i ∧ x = .int .i64 acc ∧ acc < 128 ^ i ∧ wr = w.drewN q ∧ dec (L.drop k) = decF (6 - i) i acc (L.drop (k + i))) (fun _ y _ => mx - (intOf y).toNat)
  case atStart => exact ⟨0, 0, _, Nat.zero_le _, rfl, rfl, by decide, rfl, rfl⟩
  case round =>
    obtain ⟨i, acc, q, hi, rfl, rfl, hacc, rfl, hdec⟩ := hrel
    have HD := Lib.hid hdec
    clear hdec
    by_cases hlt : i < mx
    · obtain ⟨b1, o1, rfl, _, hc1⟩ := hr.plain (by omega)
      obtain ⟨ch, hch⟩ : ∃ ch, L[k + i]? = some ch := ⟨_, List.getElem?_eq_getElem (by omega)⟩
      have g1 := hc1 (k + i) _ (by rw [getElem?_cellsB, hch]; rfl)
      have hcl : ch.toNat < 256 := UInt8.toNat_lt ch
      have hd3 : decide ((i : Int) < (mx : Int)) = true := by simp; omega
      have hi5 : i ≤ 5 := by omega
      have hdr : L.drop (k + i) = ch :: L.drop (k + (i + 1)) := by
        rw [List.drop_eq_getElem_cons (by omega : k + i < L.length)]
        congr 1
        exact (List.getElem?_eq_some_iff.1 hch).2
      have hf6 : ∃ f, 6 - i = f + 1 ∧ 6 - (i + 1) = f := ⟨5 - i, by omega, by omega⟩
      obtain ⟨f, hf6, hf7⟩ := hf6
      have hb7 : bits .and .u8 (ch.toNat : Int) 127 = (ch.toNat : Int) % 128 := and_u8_127 _ (by omega) (by omega)
      have hor := or_acc acc (ch.toNat % 128) i hacc (by omega) hi5
      have hacc2 : acc + ch.toNat % 128 * 128 ^ i < 128 ^ (i + 1) := by
        have h1 : ch.toNat % 128 * 128 ^ i ≤ 127 * 128 ^ i := Nat.mul_le_mul_right _ (by omega)
        rw [Nat.pow_succ]; omega
      have hpw : (128 : Nat) ^ (i + 1) ≤ 4398046511104 := by
        have := Nat.pow_le_pow_right (show 0 < 128 by omega) (show i + 1 ≤ 6 by omega)
        have e6 : (128 : Nat) ^ 6 = 4398046511104 := by decide
        omega
      have HD2 := HD.out
      rw [hdr, hf6] at HD2
      generalize hA : acc + ch.toNat % 128 * 128 ^ i = acc2 at hor hacc2
      have hor2 : bits .or .i64 (acc : Int) (wrap64 ((ch.toNat : Int) % 128 * 2 ^ (7 * i))) = (acc2 : Int) := by rw [← hor]; norm_cast
      have ha2 : acc2 ≤ 4398046511104 := by omega
      have HACC := Lib.hid hacc2
      have hzero : ch.toNat = 0 → i = 0 → acc2 = 0 := fun h1 h2 => by
        rw [← hA, h1]
        rw [h2] at hacc
        simp at hacc ⊢
        omega
      have HZERO := Lib.hid hzero
      clear hzero
      have HF7 := Lib.hid hf7
      clear hor hch hc1 hr hdr hf6 hf7 hacc2 hpw hacc HD
      by_cases h128 : 128 ≤ ch.toNat
      · have hst := decF_step f i acc ch (L.drop (k + (i + 1))) h128
        rw [hA] at hst
        rw [hst] at HD2
        have HDN := Lib.hid HD2
        have h8 : bits .and .u8 (ch.toNat : Int) 128 = 128 := by rw [and_u8_128 _ (by omega) (by omega), if_neg (by omega)]
        clear hst HD2 hA
        go_wp2
        go_quiet (fail)
        go_wp2
        go_roundw
        case rel => exact ⟨i + 1, acc2, _, by omega, by go_num, rfl, HACC.out, rfl, by rw [HF7.out]; exact HDN.out⟩
        case measure => simp [intOf]; omega
      · have hst := decF_stop f i acc ch (L.drop (k + (i + 1))) (by omega)
        rw [hA] at hst
        rw [hst] at HD2
        have h8 : bits .and .u8 (ch.toNat : Int) 128 = 0 := by rw [and_u8_128 _ (by omega) (by omega), if_pos (by omega)]
        clear hst hA
        by_cases hbad : (ch.toNat = 0 ∧ 0 < i) ∨ maxNum < acc2
        · rw [if_pos hbad] at HD2
          have hfin : ∀ q, NextPost p L k w (.returned (.tuple #[.int .i64 0, .iface 158 (.pointer (some ⟨w.heap.size, 0, none⟩))])) ((w.drewN q).alloc (.cells #[.int .i64 k, .int .i64 70] 160)) := fun q => by
            unfold NextPost
            rw [HD2]
            exact broken_of w k q
          have HFIN := Lib.hid hfin
          clear HD2 hfin
          unfold maxNum at hbad
          by_cases hz : ch.toNat = 0 ∧ 0 < i
          · obtain ⟨hz0, hz3⟩ := hz
            have g2 : w.cell? ⟨b1, o1 + (k + i), none⟩ = some (.int .u8 0) := by
              rw [g1]
              show some (Value.int .u8 (ch.toNat : Int)) = _
              rw [hz0]; rfl
            have hz2 : decide ((0 : Int) < (i : Int)) = true := by simp; omega
            have h7z : bits .and .u8 0 127 = 0 := by decide
            have h8z : bits .and .u8 0 128 = 0 := by decide
            clear hbad hz0 g1 hb7 hor2 h8 h128 hcl HZERO
            go_wp2
            go_quiet (fail)
            go_wp2
            go_region
            go_wp2
            go_ret2
            exact HFIN.out _
          · have hm : decide ((1099511627776 : Int) < (acc2 : Int)) = true := by simp; omega
            by_cases hz0 : ch.toNat = 0
            · have h9 := HZERO.out hz0 (by omega)
              omega
            · have hz1 : ((ch.toNat : Int) == 0) = false := beq_eq_false_iff_ne.2 (by omega)
              clear hbad hz
              go_wp2
              go_quiet (fail)
              go_wp2
              go_region
              go_wp2
              go_ret2
              exact HFIN.out _
        · rw [if_neg hbad] at HD2
          have hfin : ∀ q, NextPost p L k w (.returned (.tuple #[.int .i64 (acc2 : Int), .nilIface])) ((w.drewN q).setCell ⟨p, 1, none⟩ (.int .i64 ((k : Int) + ((i : Int) + 1)))) := fun q => by
            unfold NextPost
            rw [HD2]
            exact ⟨rfl, q, rfl⟩
          have HFIN := Lib.hid hfin
          clear HD2 hfin
          unfold maxNum at hbad
          have hm : decide ((1099511627776 : Int) < (acc2 : Int)) = false := by simp; omega
          by_cases hz0 : ch.toNat = 0
          · have hz1 : ((ch.toNat : Int) == 0) = true := beq_iff_eq.2 (by omega)
            have hz2 : decide ((0 : Int) < (i : Int)) = false := by simp; omega
            have hi0 : i = 0 := by omega
            have HI0 := Lib.hid hi0
            clear hbad hz0 hi0
            go_wp2
            go_quiet (fail)
            go_wp2
            go_ret2
            have e : (k : Int) + 1 = (k : Int) + ((i : Int) + 1) := by have := HI0.out; omega
            first | (rw [e]; exact HFIN.out _) | exact HFIN.out _
          · have hz1 : ((ch.toNat : Int) == 0) = false := beq_eq_false_iff_ne.2 (by omega)
            clear hbad
            go_wp2
            go_quiet (fail)
            go_wp2
            go_ret2
            exact HFIN.out _
    · obtain rfl : i = mx := by omega
      have hd3 : decide ((i : Int) < (i : Int)) = false := by simp
      have hnone : dec (L.drop k) = none := by
        rw [HD.out]
        rcases Nat.lt_or_ge i 6 with h6 | h6
        · have h7 := HMX3.out h6
          rw [List.drop_eq_nil_of_le (by omega)]
          obtain ⟨f, hf⟩ : ∃ f, 6 - i = f + 1 := ⟨5 - i, by omega⟩
          rw [hf]; rfl
        · rw [show 6 - i = 0 by omega]; rfl
      have hfin : ∀ q, NextPost p L k w (.returned (.tuple #[.int .i64 0, .iface 158 (.pointer (some ⟨w.heap.size, 0, none⟩))])) ((w.drewN q).alloc (.cells #[.int .i64 k, .int .i64 70] 160)) := fun q => by
        unfold NextPost
        rw [hnone]
        exact broken_of w k q
      have HFIN := Lib.hid hfin
      clear hfin hnone HD hacc hr
      go_wp2
      go_region
      go_wp2
      go_ret2
      exact HFIN.out _
end Go.Proofs.YtcockikekgmfkaaDoor
