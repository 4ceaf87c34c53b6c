/-
  Layer 2, reading: the bytes ahead of a reader, a number read there, or a stop.
-/
import Derived.Test.YtcockikekgmfkaaDoorFiP
import Derived.Test.YtcockikekgmfkaaDoorVaI
import Derived.Test.YtcockikekgmfkaaDoorOn
import Derived.Test.YtcockikekgmfkaaDoorQt
import Derived.Test.YtcockikekgmfkaaDoorErD
namespace Go.Proofs.YtcockikekgmfkaaDoor
open Go.RowKit

/-- A reader in memory. -/
abbrev RdB (w : World) (g : Nat) (s : ByteArray) (i : Nat) (bad : Bool) : Prop := Blk w g 35 #[.string s, .int .i64 (i : Int), .bool bad]

/-- The bytes from a place on, at most so many. -/
def winL (s : ByteArray) (i n : Nat) : List UInt8 := ((lb s).drop i).take n
theorem winL_eq (s : ByteArray) (i n m : Nat) (hm : m = min n (s.size - i)) : lb (s.extract i (i + m)) = winL s i n := by
  rw [lb_extract, List.drop_take, show i + m - i = m by omega, hm]
  unfold winL
  rw [← length_lb]
  rcases Nat.le_total n ((lb s).length - i) with h | h
  · rw [Nat.min_eq_left h]
  · rw [Nat.min_eq_right h, List.take_of_length_le (by simp), List.take_of_length_le (by simpa using h)]

set_option maxRecDepth 100000 in
set_option maxHeartbeats 1000000 in
theorem window_any (g : Nat) (s : ByteArray) (i n : Nat) (bad : Bool) (w : World) (h : RdB w g s i bad) (hs : s.size ≤ 1000000) (hi : i ≤ s.size) (hn : n ≤ 1099511627776) :
    Calls Tryd.prog 64 #[.pointer (some ⟨g, 0, none⟩), .int .i64 (n : Int)] w fun e w' => ∃ A c, e = .returned (.slice A (winL s i n).length c) ∧ Reads w' w'.heap.size 1 A (winL s i n).length (cellsB (winL s i n)) ∧ (winL s i n).length ≤ c ∧ Below w.heap.size w w' := by
  obtain ⟨d, hd⟩ : ∃ d : Nat, d = s.size - i := ⟨_, rfl⟩
  obtain ⟨m, hm⟩ : ∃ m : Nat, m = min n d := ⟨_, rfl⟩
  have hw := winL_eq s i n m (by omega)
  obtain ⟨L, hL⟩ : ∃ L, L = winL s i n := ⟨_, rfl⟩
  rw [← hL] at hw ⊢
  have x0 := h.cell 0
  have x1 := h.cell 1
  have e1 : decide ((i : Int) < 0) = false := by simp
  have e2 : decide ((s.size : Int) < (i : Int)) = false := by simp; omega
  have v1 : IntKind.i64.wrap ((s.size : Int) - (i : Int)) = (d : Int) := by rw [IntWalk.i64_in _ (by omega)]; omega
  have v2 : (if d < n then (d : Int) else (n : Int)) = (m : Int) := by split <;> omega
  have v3 : IntKind.i64.wrap ((i : Int) + (m : Int)) = (i : Int) + (m : Int) := IntWalk.i64_in _ (by omega)
  have hsl : ∀ W : World, (Instr.slice 9 (.string s) (some (.int .i64 (i : Int))) (some (.int .i64 ((i : Int) + (m : Int)))) none).run Tryd.prog W = .ok (.string (s.extract i (i + m))) W := by
    intro W
    rw [run_slice_string_if W 9 s .i64 .i64 _ _ Tryd.underlying9, if_pos (by omega), if_pos (by omega)]
    rw [show ((i : Int) + (m : Int)).toNat = i + m by omega, Int.toNat_natCast]
  have hsz : (s.extract i (i + m)).size = L.length := by rw [← hw, length_lb]
  have HW := Lib.hid hw
  have HSZ := Lib.hid hsz
  have HL := Lib.hid hL
  clear hw hsz hL hd hm h
  go_enter Tryd.func64, Tryd.ntmps64
  go_wp2_with fail
  go_quiet (fail)
  go_wp2_with fail
  refine wp_region_qtail 26 (by kernel_rfl) (by kernel_rfl) ?_
  simp only [List.take_succ_cons, List.take_zero, List.drop_succ_cons, List.drop_zero]
  repeat (go_big_quiet_step (fail))
  refine wpQuiet_nil ?_
  obtain ⟨cap, W', hrun, hcap, hcell, hsize, hgrow⟩ := bytes_of_ex (P := Tryd.prog) Tryd.underlying9 Tryd.underlying50 Tryd.underlying5 (w.drewN (nq + 1)) (s.extract i (i + m))
  rw [HSZ.out] at hrun hcap hcell
  have HCELL := Lib.hid hcell
  have HSIZE := Lib.hid hsize
  clear hcell hsize v1 v2 v3 hsl
  go_wp2_with fail
  go_ret
  refine ⟨_, cap, rfl, ⟨by rw [length_cellsB]; omega, fun _ => ⟨_, rfl, by rw [HSIZE.out]; exact Nat.lt_succ_self _, fun j u hu => ?_⟩⟩, hcap, ?_⟩
  · rw [getElem?_cellsB, Option.map_eq_some_iff] at hu
    obtain ⟨c, hc, rfl⟩ := hu
    have hj := (List.getElem?_eq_some_iff.1 hc).1
    rw [add_none, Nat.zero_add]
    have := HCELL.out j hj
    rw [HW.out, List.getD_eq_getElem?_getD, hc] at this
    exact this
  · exact (below_drewN (Below.refl _ _) (nq + 1)).grown hgrow (Nat.le_refl _) (fun k hk => by cases hk)

/-- A stop that goes through a call. -/
def PanPost (w : World) (e : Ending) (w' : World) : Prop :=
  ∃ b, e = .panicked [{ v := .iface 94 (.pointer (some ⟨b, 0, none⟩)), recovered := false }] ∧ w.heap.size ≤ b ∧ w'.cell? ⟨b, 1, none⟩ = some (.int .i64 70) ∧ Below w.heap.size w w'
theorem len6 (w : World) : Calls Tryd.prog 74 #[.int .i64 1099511627776] w fun e w' => e = .returned (.int .i64 6) ∧ w = w' := len_ok 1099511627776 w (Nat.le_refl _)

theorem winL_dec (s : ByteArray) (i : Nat) : dec (winL s i 6) = dec ((lb s).drop i) := dec_take _
theorem winL_len (s : ByteArray) (i n : Nat) : (winL s i n).length ≤ n := by unfold winL; rw [List.length_take]; omega

set_option maxRecDepth 100000 in
set_option maxHeartbeats 1000000 in
theorem number_no (g : Nat) (s : ByteArray) (i : Nat) (bad : Bool) (lo hi : Int) (w : World) (h : RdB w g s i bad) (hg : HasET w) (hs : s.size ≤ 1000000) (hat : i ≤ s.size)
    (hno : dec ((lb s).drop i) = none ∨ ∃ n k, dec ((lb s).drop i) = some (n, k) ∧ ¬ (lo ≤ (n : Int) ∧ (n : Int) ≤ hi)) :
    Calls Tryd.prog 60 #[.pointer (some ⟨g, 0, none⟩), .int .i64 lo, .int .i64 hi] w (PanPost w) := by
  have HWN := Lib.hid (window_any g s i 6 bad w h hs hat (by omega))
  have HG := Lib.hid hg
  have hlen := winL_len s i 6
  have hgo : getOf (winL s i 6) 0 = (0, 0, 70) ∨ ∃ n k : Nat, getOf (winL s i 6) 0 = ((n : Int), (k : Int), 0) ∧ ¬ (lo ≤ (n : Int) ∧ (n : Int) ≤ hi) := by
    rcases hno with hd | ⟨n, k, hd, hr⟩
    · exact .inl (getOf_bad _ 0 (by rw [List.drop_zero, winL_dec]; exact hd) (Nat.zero_le _))
    · have := getOf_ok (winL s i 6) 0 n k (by rw [List.drop_zero, winL_dec]; exact hd) (Nat.zero_le _)
      exact .inr ⟨n, k, by rw [show ((0 : Nat) : Int) + (k : Int) = (k : Int) by omega] at this; exact this, hr⟩
  generalize winL s i 6 = L at *
  have HGO := Lib.hid hgo
  clear h hg hno hgo
  go_enter Tryd.func60, Tryd.ntmps60
  go_wp2_with fail
  refine (len6 _).mono ?_
  rintro e w0 ⟨rfl, rfl⟩
  go_wp2_with fail
  refine HWN.out.mono ?_
  rintro e w1 ⟨A1, c1, rfl, r1, hc1, b1⟩
  have HGT := Lib.hid (Get_any A1 L c1 0 w1 (by omega) (HG.out.up b1) r1)
  clear r1
  go_wp2_with fail
  refine HGT.out.mono ?_
  rintro e w2 ⟨rfl, b2⟩
  have bf := btrans b1 b2
  have BF := Lib.hid bf
  rcases HGO.out with hgo | ⟨n, k, hgo, hr⟩
  · rw [hgo]
    clear hgo b1 b2 bf
    go_wp2_with fail
    exact ⟨rfl, w2.heap.size, rfl, BF.out.size, by simp, bal BF.out _⟩
  · rw [hgo]
    have HR := Lib.hid hr
    clear hgo hr b1 b2 bf
    by_cases h1 : (n : Int) < lo
    · have d1 : decide ((n : Int) < lo) = true := decide_eq_true h1
      go_wp2_with fail
      exact ⟨rfl, w2.heap.size, rfl, BF.out.size, by simp, bal BF.out _⟩
    · have d1 : decide ((n : Int) < lo) = false := decide_eq_false h1
      have d2 : decide (hi < (n : Int)) = true := decide_eq_true (by have := HR.out; omega)
      go_wp2_with fail
      exact ⟨rfl, w2.heap.size, rfl, BF.out.size, by simp, bal BF.out _⟩

/-- Behind a reading: the reader's place; but for the reader all is as it was. -/
def RdPost (g : Nat) (s : ByteArray) (v : Value) (i : Nat) (bad : Bool) (w : World) (e : Ending) (w' : World) : Prop :=
  e = .returned v ∧ RdB w' g s i bad ∧ Only (fun x => x = g) w w'

set_option maxRecDepth 100000 in
set_option maxHeartbeats 1000000 in
theorem number_ok (g : Nat) (s : ByteArray) (i : Nat) (bad : Bool) (lo hi : Int) (n k : Nat) (w : World) (h : RdB w g s i bad) (hg : HasET w) (hs : s.size ≤ 1000000) (hat : i ≤ s.size)
    (hd : dec ((lb s).drop i) = some (n, k)) (hr : lo ≤ (n : Int) ∧ (n : Int) ≤ hi) :
    Calls Tryd.prog 60 #[.pointer (some ⟨g, 0, none⟩), .int .i64 lo, .int .i64 hi] w (RdPost g s (.int .i64 n) (i + k) bad w) := by
  have HWN := Lib.hid (window_any g s i 6 bad w h hs hat (by omega))
  have HG := Lib.hid hg
  have HK := Lib.hid h
  have hlen := winL_len s i 6
  have hk6 := (dec_le hd).2.2
  have hgo : getOf (winL s i 6) 0 = ((n : Int), (k : Int), 0) := by
    have := getOf_ok (winL s i 6) 0 n k (by rw [List.drop_zero, winL_dec]; exact hd) (Nat.zero_le _)
    rw [show ((0 : Nat) : Int) + (k : Int) = (k : Int) by omega] at this; exact this
  generalize winL s i 6 = L at *
  have HGO := Lib.hid hgo
  obtain ⟨r1, r2⟩ := hr
  have d1 : decide ((n : Int) < lo) = false := decide_eq_false (by omega)
  have d2 : decide (hi < (n : Int)) = false := decide_eq_false (by omega)
  clear h hg hgo hd
  go_enter Tryd.func60, Tryd.ntmps60
  go_wp2_with fail
  refine (len6 _).mono ?_
  rintro e w0 ⟨rfl, rfl⟩
  go_wp2_with fail
  refine HWN.out.mono ?_
  rintro e w1 ⟨A1, c1, rfl, rd1, hc1, b1⟩
  have HGT := Lib.hid (Get_any A1 L c1 0 w1 (by omega) (HG.out.up b1) rd1)
  clear rd1
  go_wp2_with fail
  refine HGT.out.mono ?_
  rintro e w2 ⟨rfl, b2⟩
  have BF := Lib.hid (btrans b1 b2)
  have k2 := HK.out.below (btrans b1 b2) HK.out.lt
  have x1 := k2.cell 1
  have x2 := k2.frozen 1
  have K2 := Lib.hid k2
  rw [HGO.out]
  clear b1 b2 k2
  go_wp2_with fail
  go_ret
  refine ⟨rfl, ?_, (Only.of_below (fun x => x = g) BF.out).set (.inl rfl) _⟩
  have := K2.out.set_ 1 (.int .i64 ((i : Int) + (k : Int)))
  rw [show ((i : Int) + (k : Int)) = ((i + k : Nat) : Int) by omega] at this ⊢
  exact this
end Go.Proofs.YtcockikekgmfkaaDoor
