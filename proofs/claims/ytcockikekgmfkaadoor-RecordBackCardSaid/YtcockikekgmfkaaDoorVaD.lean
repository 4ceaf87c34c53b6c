/-
  Package varint's Len, put, Put: what each call gives.
-/
import Derived.Test.YtcockikekgmfkaaDoorVaC
import Derived.Test.YtcockikekgmfkaaDoorVaP
import Derived.Laws.CopyRow
import Derived.Laws.CopyOwn
namespace Go.Proofs.YtcockikekgmfkaaDoor
open Go.RowKit

set_option maxHeartbeats 400000 in
theorem len_no (n : Int) (w : World) (h : n < 0 ∨ 1099511627776 < n) :
    Calls Tryd.prog 74 #[.int .i64 n] w fun e w' => e = .returned (.int .i64 0) ∧ w = w' := by
  rcases h with h | h
  · have hd : decide (n < 0) = true := by simpa using h
    go_enter Tryd.func74, Tryd.ntmps74
    go_wp2
    go_ret
    exact ⟨rfl, rfl⟩
  · have hd : decide (n < 0) = false := by simp; omega
    have hd2 : decide (1099511627776 < n) = true := by simpa using h
    go_enter Tryd.func74, Tryd.ntmps74
    go_wp2
    go_ret
    exact ⟨rfl, rfl⟩

set_option maxHeartbeats 400000 in
theorem len_ok (n : Nat) (w : World) (h : n ≤ maxNum) :
    Calls Tryd.prog 74 #[.int .i64 n] w fun e w' => e = .returned (.int .i64 (encLen n : Nat)) ∧ w = w' := by
  have h' : n ≤ 1099511627776 := h
  have hd : decide ((n : Int) < 0) = false := by simp
  have hd2 : decide ((1099511627776 : Int) < (n : Int)) = false := by simp; omega
  go_enter Tryd.func74, Tryd.ntmps74
  go_wp2
  go_loop [0, 3] (fun x i => ∃ m k : Nat, m ≤ 1099511627776 ∧ k ≤ 10 ∧ x = .int .i64 m ∧ i = .int .i64 k ∧ encLen n + 1 = k + encLen m) (fun x _ => (intOf x).toNat)
  case atStart => exact ⟨n, 1, h', by omega, rfl, rfl, by omega⟩
  case round =>
    obtain ⟨m, k, hm, hk, rfl, rfl, he⟩ := hrel
    have hle := encLen_le n h
    have HE := Lib.hid he
    clear he
    by_cases hb : 127 < m
    · have hbig := encLen_big m (by omega) hm
      have hk2 : k + 1 ≤ 10 := by
        have h1 := HE.out
        have h2 := encLen_pos (m / 128)
        omega
      have HB := Lib.hid hbig
      clear hbig
      have hd3 : decide ((127 : Int) < (m : Int)) = true := by simp; omega
      go_wp2
      go_round
      case rel => exact ⟨m / 128, k + 1, by omega, hk2, by go_num, by go_num, by have := HE.out; have := HB.out; omega⟩
      case measure => simp [intOf]; omega
    · have hs := encLen_small m (by omega)
      have hkk : encLen n = k := by have := HE.out; omega
      have HK := Lib.hid hkk
      have hd3 : decide ((127 : Int) < (m : Int)) = false := by simp; omega
      clear hs hkk
      go_wp2
      go_ret
      exact ⟨by rw [HK.out]; rfl, rfl⟩

theorem infoByte : (Tryd.prog.info? 5).map (fun i => (i.zero, i.size, i.bytes)) = some (some (.int .u8 0), 1, 1) := by kernel_rfl

/-- What put leaves: the bytes behind what was there; nothing but the slice's own block has turned. -/
def PutPost (base : Nat) (v : Value) (l : List UInt8) (n : Nat) (w : World) (e : Ending) (w' : World) : Prop :=
  ∃ v', e = .returned v' ∧ w'.ownsRow base 5 1 v' (l.length + encLen n) (cellsB (l ++ enc n)) ∧ w.grownBy w' v.ownBlock ∧ (v'.ownBlock = v.ownBlock ∨ ∃ g, v'.ownBlock = some g ∧ w.heap.size ≤ g)

theorem bits_put (m : Nat) (h : m ≤ 1099511627776) : bits .or .i64 (bits .and .i64 (m : Int) 127) 128 = ((m % 128 + 128 : Nat) : Int) := by
  rw [and_i64_127 _ (by omega) (by omega), or_i64_128 _ (by omega) (by omega)]; omega

set_option maxRecDepth 100000 in
set_option maxHeartbeats 1000000 in
theorem put_any (base : Nat) (v : Value) (l : List UInt8) (n : Nat) (w : World) (hn : n ≤ maxNum) (hown : w.ownsRow base 5 1 v l.length (cellsB l)) (hl : l.length ≤ 100000) (hbase : base ≤ w.heap.size) :
    Calls Tryd.prog 87 #[v, .int .i64 n] w (PutPost base v l n w) := by
  obtain ⟨i0, hi, hz0, hz1, hz2⟩ := info_parts infoByte
  have hn' : n ≤ 1099511627776 := hn
  obtain ⟨A, c, rfl, hlc⟩ := own_slice hown
  go_enter Tryd.func87, Tryd.ntmps87
  go_wp2
  go_loopw [0, 1] (fun x y wr => ∃ (m : Nat) (done : List UInt8), m ≤ 1099511627776 ∧ y = .int .i64 m ∧ wr.ownsRow base 5 1 x (l.length + done.length) (cellsB (l ++ done)) ∧ enc n = done ++ enc m ∧ w.grownBy wr (Value.slice A l.length c).ownBlock ∧ (x.ownBlock = (Value.slice A l.length c).ownBlock ∨ ∃ g, x.ownBlock = some g ∧ w.heap.size ≤ g)) (fun _ y _ => (intOf y).toNat)
  case atStart => exact ⟨n, [], hn', rfl, by simpa using hown, rfl, World.grownBy.refl _ _, .inl rfl⟩
  case round =>
    obtain ⟨m, done, hm, rfl, hox, hen, hg, hat⟩ := hrel
    have hlen : done.length + encLen m = encLen n := by unfold encLen; rw [hen, List.length_append]
    have hle := encLen_le n hn
    have hpos := encLen_pos m
    have hbp := bits_put m hm
    have HO := Lib.hid hox
    have HE := Lib.hid hen
    have HG := Lib.hid hg
    have HA := Lib.hid hat
    have HL := Lib.hid hlen
    have hdl : done.length ≤ 6 := by omega
    clear hox hen hg hat hlen hown hpos
    by_cases hb : 127 < m
    · have hd3 : decide ((127 : Int) < (m : Int)) = true := by simp; omega
      go_wp2_with (at_builtin; refine wpList_append_any _ rfl _ _ 50 rfl base 5 i0 (.int .u8 0) 1 1 Tryd.underlying50 hi hz0 hz1 hz2 rfl (by decide) _ _ _ rfl (HO.out.alloc _) _ _ 1 1 [.int .u8 _] rfl (reads_new1 _ _ _) (by simp [Value.oneCell']) (by unfold maxLen; omega) (by omega) (by have := HG.out.size; simp; omega) ?_; intro v' w4 hown' hgrow hat')
      go_roundw
      case rel =>
        refine ⟨m / 128, done ++ [UInt8.ofNat (m % 128 + 128)], by omega, by go_num, ?_, ?_, ?_, ?_⟩
        · rw [← List.append_assoc, cellsB_append, cellsB_high, List.length_append, ← Nat.add_assoc]
          exact hown'
        · rw [HE.out, enc_big m (by omega) hm]; simp
        · exact grown_step (only_alloc HG.out _) hgrow (by
            rcases HA.out with h | ⟨g, h, hge⟩
            · exact .inl h
            · exact .inr (.inr ⟨g, h, hge⟩))
        · rcases hat' with h | h
          · rcases HA.out with h2 | h2
            · exact .inl (h.trans h2)
            · obtain ⟨g, h2, hge⟩ := h2
              exact .inr ⟨g, h.trans h2, hge⟩
          · exact .inr ⟨_, h, by have := HG.out.size; simp; omega⟩
      case measure => simp [intOf]; omega
    · have hd3 : decide ((127 : Int) < (m : Int)) = false := by simp; omega
      go_wp2_with (at_builtin; refine wpList_append_any _ rfl _ _ 50 rfl base 5 i0 (.int .u8 0) 1 1 Tryd.underlying50 hi hz0 hz1 hz2 rfl (by decide) _ _ _ rfl (HO.out.alloc _) _ _ 1 1 [.int .u8 _] rfl (reads_new1 _ _ _) (by simp [Value.oneCell']) (by unfold maxLen; omega) (by omega) (by have := HG.out.size; simp; omega) ?_; intro v' w4 hown' hgrow hat')
      go_ret
      refine ⟨v', rfl, ?_, ?_, ?_⟩
      · rw [← HL.out, encLen_small m (by omega), HE.out, enc_small m (by omega), ← List.append_assoc, cellsB_append, cellsB_low m (by omega), ← Nat.add_assoc]
        exact hown'
      · exact grown_step (only_alloc HG.out _) hgrow (by
          rcases HA.out with h | ⟨g, h, hge⟩
          · exact .inl h
          · exact .inr (.inr ⟨g, h, hge⟩))
      · rcases hat' with h | h
        · rcases HA.out with h2 | h2
          · exact .inl (h.trans h2)
          · obtain ⟨g, h2, hge⟩ := h2
            exact .inr ⟨g, h.trans h2, hge⟩
        · exact .inr ⟨_, h, by have := HG.out.size; simp; omega⟩
end Go.Proofs.YtcockikekgmfkaaDoor
