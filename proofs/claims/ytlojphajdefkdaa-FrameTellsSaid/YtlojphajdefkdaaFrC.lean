/-
  Package frame's framed, Bytes: what each call gives.
-/
import Derived.Test.YtlojphajdefkdaaFrB
namespace Go.Proofs.Ytlojphajdefkdaa
open Go.RowKit

/-- The first bytes of a frame. -/
def headOf (n : Nat) : List UInt8 := [UInt8.ofNat (n % 256), UInt8.ofNat (n / 256), 0, 0]

set_option maxHeartbeats 400000 in
theorem framed_long (s : ByteArray) (w : World) (hs : s.size ≤ maxLen) (hl : 1024 < s.size) :
    Calls Try.prog 20 #[.string s] w fun e w' => e = .returned (.tuple #[.string ⟨#[]⟩, .iface 52 (.pointer (some ⟨w.heap.size, 0, none⟩))]) ∧ w.alloc (.cells #[.int .i64 2] 54) = w' := by
  unfold maxLen at hs
  have hz : frSize s.size = 0 := by rw [frSize, if_pos (by omega)]
  have H := Lib.hid hz; clear hz
  go_enter Try.func20, Try.ntmps20
  go_wp2_with (go_at_call 11; refine (size_any _ _).mono ?_; rintro e w' ⟨rfl, rfl⟩; rw [H.out])
  go_ret2
  exact ⟨rfl, rfl⟩

theorem headOf_cells (n : Nat) (h : n ≤ 1024) : #[Value.int .u8 ((n : Int) % 256), Value.int .u8 ((n : Int) / 256), Value.int .u8 0, Value.int .u8 0] = (cellsB (headOf n)).toArray := by
  have h1 : (UInt8.ofNat (n % 256)).toNat = n % 256 := by simp
  have h2 : (UInt8.ofNat (n / 256)).toNat = n / 256 := by simp; omega
  simp only [headOf, cellsB, List.map_cons, List.map_nil, h1, h2]
  simp

theorem conv_head (n : Nat) (h : n ≤ 1024) (w : World) (t : TypeId) :
    (convert 41 9 (.slice (some ⟨w.heap.size, 0, none⟩) 4 4)).run Try.prog (w.alloc (.cells #[.int .u8 ((n : Int) % 256), .int .u8 ((n : Int) / 256), .int .u8 0, .int .u8 0] t)) =
      .ok (.string (bs (headOf n))) (w.alloc (.cells #[.int .u8 ((n : Int) % 256), .int .u8 ((n : Int) / 256), .int .u8 0, .int .u8 0] t)) := by
  refine run_string_of (B := w.heap.size + 1) Try.underlying41 Try.underlying5 Try.underlying9 ⟨rfl, fun _ => ⟨_, rfl, Nat.lt_succ_self _, fun j u hu => ?_⟩⟩
  rw [headOf_cells n h]
  have := (Blk.new w t (cellsB (headOf n)).toArray).cell j
  unfold Addr.add
  by_cases hj : j = 0
  · subst hj; simpa using this.trans (by simpa using hu)
  · simpa [hj] using this.trans (by simpa using hu)

set_option maxHeartbeats 400000 in
theorem framed_ok (s : ByteArray) (w : World) (hl : s.size ≤ 1024) :
    Calls Try.prog 20 #[.string s] w fun e w' => e = .returned (.tuple #[.string (bs (headOf s.size ++ lb s)), .nilIface]) ∧ Below w.heap.size w w' := by
  have hz : frSize s.size = 4 + s.size := by rw [frSize, if_neg (by omega)]
  have H := Lib.hid hz; clear hz
  have hne : ((4 + (s.size : Int)) == 0) = false := beq_eq_false_iff_ne.2 (by omega)
  have hns : (bs (headOf s.size)).size = 4 := by rw [size_bs]; rfl
  have hcv := fun w => conv_head s.size hl w 50
  go_enter Try.func20, Try.ntmps20
  go_wp2_with (first | (go_at_call 11; refine (size_any _ _).mono ?_; rintro e w' ⟨rfl, rfl⟩; rw [H.out]) | (go_at_call 24; refine (head_any _ _ (by omega) (by omega)).mono ?_; rintro e w' ⟨rfl, hb⟩))
  go_ret2
  refine ⟨?_, (hb.alloc hb.size _)⟩
  rw [← bs_append, bs_lb]
  rfl

set_option maxHeartbeats 400000 in
theorem bytes_long (s : ByteArray) (w : World) (hs : s.size ≤ maxLen) (hl : 1024 < s.size) :
    Calls Try.prog 9 #[.string s] w fun e w' => e = .returned (.tuple #[.string ⟨#[]⟩, .int .i64 2]) ∧ Below w.heap.size w w' := by
  go_enter Try.func9, Try.ntmps9
  go_wp2_with (first | (go_at_call 20; refine (framed_long s _ hs hl).mono ?_; rintro e w' ⟨rfl, rfl⟩) | (go_at_call 21; refine (is_fault _ _ _ (by simp [go_sem])).mono ?_; rintro e w' ⟨rfl, rfl⟩))
  go_ret2
  exact ⟨rfl, (Below.refl _ _).alloc (Nat.le_refl _) _⟩

set_option maxHeartbeats 400000 in
theorem bytes_ok (s : ByteArray) (w : World) (hl : s.size ≤ 1024) :
    Calls Try.prog 9 #[.string s] w fun e w' => e = .returned (.tuple #[.string (bs (headOf s.size ++ lb s)), .int .i64 0]) ∧ Below w.heap.size w w' := by
  go_enter Try.func9, Try.ntmps9
  go_wp2_with (first | (go_at_call 20; refine (framed_ok s _ hl).mono ?_; rintro e w' ⟨rfl, hb⟩) | (go_at_call 21; refine (is_nil _ _).mono ?_; rintro e w' ⟨rfl, rfl⟩))
  go_ret2
  exact ⟨rfl, hb⟩
end Go.Proofs.Ytlojphajdefkdaa
