/-
  Layer 2, reading: field lets one read; what it hands back, where the reader is.
  Layer 2, reading: the bytes ahead of a reader, a number read there, or a stop.
  Layer 2, reading: what a reader's deferred closure does: it recovers a stop, and stops the reader where it was.
-/
import Derived.Test.YtcockikekgmfkaaGreatDoorGrp02
import Derived.Test.YtcockikekgmfkaaGreatDoorGrp07
import Derived.Defers
import Derived.Recover
import Derived.Laws.Pointers
namespace Go.Proofs.YtcockikekgmfkaaGreatDoor
open Go.RowKit

/-- A reader in memory. -/
abbrev RdB (w : World) (g : Nat) (s : ByteArray) (i : Nat) (bad : Bool) : Prop := Blk w g 77 #[.string s, .int .i64 (i : Int), .bool bad]

/-- The bytes from a place on, at most so many. -/
def winL (s : ByteArray) (i n : Nat) : List UInt8 := ((lb s).drop i).take n
theorem winL_eq (s : ByteArray) (i n m : Nat) (hm : m = min n (s.size - i)) : lb (s.extract i (i + m)) = winL s i n := by
  rw [lb_extract, List.drop_take, show i + m - i = m by omega, hm]
  unfold winL
  rw [← length_lb]
  rcases Nat.le_total n ((lb s).length - i) with h | h
  · rw [Nat.min_eq_left h]
  · rw [Nat.min_eq_right h, List.take_of_length_le (by simp), List.take_of_length_le (by simpa using h)]

set_option maxRecDepth 100000 in
set_option maxHeartbeats 1000000 in
theorem window_any (g : Nat) (s : ByteArray) (i n : Nat) (bad : Bool) (w : World) (h : RdB w g s i bad) (hs : s.size ≤ 1000000) (hi : i ≤ s.size) (hn : n ≤ 1099511627776) :
    Calls Tryz.prog 54 #[.pointer (some ⟨g, 0, none⟩), .int .i64 (n : Int)] w fun e w' => ∃ A c, e = .returned (.slice A (winL s i n).length c) ∧ Reads w' w'.heap.size 1 A (winL s i n).length (cellsB (winL s i n)) ∧ (winL s i n).length ≤ c ∧ Below w.heap.size w w' := by
  obtain ⟨d, hd⟩ : ∃ d : Nat, d = s.size - i := ⟨_, rfl⟩
  obtain ⟨m, hm⟩ : ∃ m : Nat, m = min n d := ⟨_, rfl⟩
  have hw := winL_eq s i n m (by omega)
  obtain ⟨L, hL⟩ : ∃ L, L = winL s i n := ⟨_, rfl⟩
  rw [← hL] at hw ⊢
  have x0 := h.cell 0
  have x1 := h.cell 1
  have e1 : decide ((i : Int) < 0) = false := by simp
  have e2 : decide ((s.size : Int) < (i : Int)) = false := by simp; omega
  have v1 : IntKind.i64.wrap ((s.size : Int) - (i : Int)) = (d : Int) := by rw [IntWalk.i64_in _ (by omega)]; omega
  have v2 : (if d < n then (d : Int) else (n : Int)) = (m : Int) := by split <;> omega
  have v3 : IntKind.i64.wrap ((i : Int) + (m : Int)) = (i : Int) + (m : Int) := IntWalk.i64_in _ (by omega)
  have hsl : ∀ W : World, (Instr.slice 9 (.string s) (some (.int .i64 (i : Int))) (some (.int .i64 ((i : Int) + (m : Int)))) none).run Tryz.prog W = .ok (.string (s.extract i (i + m))) W := by
    intro W
    rw [run_slice_string_if W 9 s .i64 .i64 _ _ Tryz.underlying9, if_pos (by omega), if_pos (by omega)]
    rw [show ((i : Int) + (m : Int)).toNat = i + m by omega, Int.toNat_natCast]
  have hsz : (s.extract i (i + m)).size = L.length := by rw [← hw, length_lb]
  have HW := Lib.hid hw
  have HSZ := Lib.hid hsz
  have HL := Lib.hid hL
  clear hw hsz hL hd hm h
  go_enter Tryz.func54, Tryz.ntmps54
  go_wp2_with fail
  go_quiet (fail)
  go_wp2_with fail
  refine wp_region_qtail 26 (by kernel_rfl) (by kernel_rfl) ?_
  simp only [List.take_succ_cons, List.take_zero, List.drop_succ_cons, List.drop_zero]
  repeat (go_big_quiet_step (fail))
  refine wpQuiet_nil ?_
  obtain ⟨cap, W', hrun, hcap, hcell, hsize, hgrow⟩ := bytes_of_ex (P := Tryz.prog) Tryz.underlying9 Tryz.underlying30 Tryz.underlying5 (w.drewN (nq + 1)) (s.extract i (i + m))
  rw [HSZ.out] at hrun hcap hcell
  have HCELL := Lib.hid hcell
  have HSIZE := Lib.hid hsize
  clear hcell hsize v1 v2 v3 hsl
  go_wp2_with fail
  go_ret
  refine ⟨_, cap, rfl, ⟨by rw [length_cellsB]; omega, fun _ => ⟨_, rfl, by rw [HSIZE.out]; exact Nat.lt_succ_self _, fun j u hu => ?_⟩⟩, hcap, ?_⟩
  · rw [getElem?_cellsB, Option.map_eq_some_iff] at hu
    obtain ⟨c, hc, rfl⟩ := hu
    have hj := (List.getElem?_eq_some_iff.1 hc).1
    rw [add_none, Nat.zero_add]
    have := HCELL.out j hj
    rw [HW.out, List.getD_eq_getElem?_getD, hc] at this
    exact this
  · exact (below_drewN (Below.refl _ _) (nq + 1)).grown hgrow (Nat.le_refl _) (fun k hk => by cases hk)

/-- A stop that goes through a call. -/
def PanPost (w : World) (e : Ending) (w' : World) : Prop :=
  ∃ b, e = .panicked [{ v := .iface 98 (.pointer (some ⟨b, 0, none⟩)), recovered := false }] ∧ w.heap.size ≤ b ∧ w'.cell? ⟨b, 1, none⟩ = some (.int .i64 70) ∧ Below w.heap.size w w'
theorem len6 (w : World) : Calls Tryz.prog 55 #[.int .i64 1099511627776] w fun e w' => e = .returned (.int .i64 6) ∧ w = w' := len_ok 1099511627776 w (Nat.le_refl _)

theorem winL_dec (s : ByteArray) (i : Nat) : dec (winL s i 6) = dec ((lb s).drop i) := dec_take _
theorem winL_len (s : ByteArray) (i n : Nat) : (winL s i n).length ≤ n := by unfold winL; rw [List.length_take]; omega

set_option maxRecDepth 100000 in
set_option maxHeartbeats 1000000 in
theorem number_no (g : Nat) (s : ByteArray) (i : Nat) (bad : Bool) (lo hi : Int) (w : World) (h : RdB w g s i bad) (hg : HasET w) (hs : s.size ≤ 1000000) (hat : i ≤ s.size)
    (hno : dec ((lb s).drop i) = none ∨ ∃ n k, dec ((lb s).drop i) = some (n, k) ∧ ¬ (lo ≤ (n : Int) ∧ (n : Int) ≤ hi)) :
    Calls Tryz.prog 43 #[.pointer (some ⟨g, 0, none⟩), .int .i64 lo, .int .i64 hi] w (PanPost w) := by
  have HWN := Lib.hid (window_any g s i 6 bad w h hs hat (by omega))
  have HG := Lib.hid hg
  have hlen := winL_len s i 6
  have hgo : getOf (winL s i 6) 0 = (0, 0, 70) ∨ ∃ n k : Nat, getOf (winL s i 6) 0 = ((n : Int), (k : Int), 0) ∧ ¬ (lo ≤ (n : Int) ∧ (n : Int) ≤ hi) := by
    rcases hno with hd | ⟨n, k, hd, hr⟩
    · exact .inl (getOf_bad _ 0 (by rw [List.drop_zero, winL_dec]; exact hd) (Nat.zero_le _))
    · have := getOf_ok (winL s i 6) 0 n k (by rw [List.drop_zero, winL_dec]; exact hd) (Nat.zero_le _)
      exact .inr ⟨n, k, by rw [show ((0 : Nat) : Int) + (k : Int) = (k : Int) by omega] at this; exact this, hr⟩
  generalize winL s i 6 = L at *
  have HGO := Lib.hid hgo
  clear h hg hno hgo
  go_enter Tryz.func43, Tryz.ntmps43
  go_wp2_with fail
  refine (len6 _).mono ?_
  rintro e w0 ⟨rfl, rfl⟩
  go_wp2_with fail
  refine HWN.out.mono ?_
  rintro e w1 ⟨A1, c1, rfl, r1, hc1, b1⟩
  have HGT := Lib.hid (Get_any A1 L c1 0 w1 (by omega) (HG.out.up b1) r1)
  clear r1
  go_wp2_with fail
  refine HGT.out.mono ?_
  rintro e w2 ⟨rfl, b2⟩
  have bf := btrans b1 b2
  have BF := Lib.hid bf
  rcases HGO.out with hgo | ⟨n, k, hgo, hr⟩
  · rw [hgo]
    clear hgo b1 b2 bf
    go_wp2_with fail
    exact ⟨rfl, w2.heap.size, rfl, BF.out.size, by simp, bal BF.out _⟩
  · rw [hgo]
    have HR := Lib.hid hr
    clear hgo hr b1 b2 bf
    by_cases h1 : (n : Int) < lo
    · have d1 : decide ((n : Int) < lo) = true := decide_eq_true h1
      go_wp2_with fail
      exact ⟨rfl, w2.heap.size, rfl, BF.out.size, by simp, bal BF.out _⟩
    · have d1 : decide ((n : Int) < lo) = false := decide_eq_false h1
      have d2 : decide (hi < (n : Int)) = true := decide_eq_true (by have := HR.out; omega)
      go_wp2_with fail
      exact ⟨rfl, w2.heap.size, rfl, BF.out.size, by simp, bal BF.out _⟩

/-- Behind a reading: the reader's place; but for the reader all is as it was. -/
def RdPost (g : Nat) (s : ByteArray) (v : Value) (i : Nat) (bad : Bool) (w : World) (e : Ending) (w' : World) : Prop :=
  e = .returned v ∧ RdB w' g s i bad ∧ Only (fun x => x = g) w w'

set_option maxRecDepth 100000 in
set_option maxHeartbeats 1000000 in
theorem number_ok (g : Nat) (s : ByteArray) (i : Nat) (bad : Bool) (lo hi : Int) (n k : Nat) (w : World) (h : RdB w g s i bad) (hg : HasET w) (hs : s.size ≤ 1000000) (hat : i ≤ s.size)
    (hd : dec ((lb s).drop i) = some (n, k)) (hr : lo ≤ (n : Int) ∧ (n : Int) ≤ hi) :
    Calls Tryz.prog 43 #[.pointer (some ⟨g, 0, none⟩), .int .i64 lo, .int .i64 hi] w (RdPost g s (.int .i64 n) (i + k) bad w) := by
  have HWN := Lib.hid (window_any g s i 6 bad w h hs hat (by omega))
  have HG := Lib.hid hg
  have HK := Lib.hid h
  have hlen := winL_len s i 6
  have hk6 := (dec_le hd).2.2
  have hgo : getOf (winL s i 6) 0 = ((n : Int), (k : Int), 0) := by
    have := getOf_ok (winL s i 6) 0 n k (by rw [List.drop_zero, winL_dec]; exact hd) (Nat.zero_le _)
    rw [show ((0 : Nat) : Int) + (k : Int) = (k : Int) by omega] at this; exact this
  generalize winL s i 6 = L at *
  have HGO := Lib.hid hgo
  obtain ⟨r1, r2⟩ := hr
  have d1 : decide ((n : Int) < lo) = false := decide_eq_false (by omega)
  have d2 : decide (hi < (n : Int)) = false := decide_eq_false (by omega)
  clear h hg hgo hd
  go_enter Tryz.func43, Tryz.ntmps43
  go_wp2_with fail
  refine (len6 _).mono ?_
  rintro e w0 ⟨rfl, rfl⟩
  go_wp2_with fail
  refine HWN.out.mono ?_
  rintro e w1 ⟨A1, c1, rfl, rd1, hc1, b1⟩
  have HGT := Lib.hid (Get_any A1 L c1 0 w1 (by omega) (HG.out.up b1) rd1)
  clear rd1
  go_wp2_with fail
  refine HGT.out.mono ?_
  rintro e w2 ⟨rfl, b2⟩
  have BF := Lib.hid (btrans b1 b2)
  have k2 := HK.out.below (btrans b1 b2) HK.out.lt
  have x1 := k2.cell 1
  have x2 := k2.frozen 1
  have K2 := Lib.hid k2
  rw [HGO.out]
  clear b1 b2 k2
  go_wp2_with fail
  go_ret
  refine ⟨rfl, ?_, (Only.of_below (fun x => x = g) BF.out).set (.inl rfl) _⟩
  have := K2.out.set_ 1 (.int .i64 ((i : Int) + (k : Int)))
  rw [show ((i : Int) + (k : Int)) = ((i + k : Nat) : Int) by omega] at this ⊢
  exact this
end Go.Proofs.YtcockikekgmfkaaGreatDoor
namespace Go.Proofs.YtcockikekgmfkaaGreatDoor
open Go.RowKit

theorem skip_then {P : Program} {y : Code} {Q : Exit → Act → List Frame → World → Prop} {a : Act} {cs : List Frame} {w : World} (h : y.wpS P Q a cs w) : Code.skip.wpS P (Exit.thenS (y.wpS P Q) Q) a cs w := wpS_of_wp (wp_skip h)

theorem catch_idle (ba br be : Nat) (w : World) :
    CallsD Tryz.prog 52 #[.pointer (some ⟨ba, 0, none⟩), .pointer (some ⟨br, 0, none⟩), .pointer (some ⟨be, 0, none⟩)] .returning w fun e u' w' => e = .returned (.tuple #[]) ∧ u' = .returning ∧ w' = w := by
  refine callsD_of_wpS Tryz.func52 rfl fun c₀ cs hu => ?_
  apply wpS_seq
  apply wpS_region
  simp [wpOpsS, go_sem, recoverD, hu, Tryz.ntmps52, Exit.thenS]
  apply wpS_seq
  apply wpS_seq
  apply wpS_region
  simp [wpOpsS, go_sem, Exit.thenS]
  refine wpS_cond (t := true) (by simp [Act.eval, Array.replicate]) ?_
  simp only [if_true]
  refine wpS_of_wp (wp_ret ?_)
  cases c₀
  simp_all [bodyPostS, results, Tryz.results52, Exit.thenS]

set_option maxRecDepth 100000 in
set_option maxHeartbeats 1000000 in
theorem catch_stop (ba br be g b : Nat) (s : ByteArray) (i j : Nat) (bad : Bool) (x : Value) (w : World) (h : RdB w g s j bad) (ha : Blk w ba 3 #[.int .i64 (i : Int)]) (hr : Blk w br 55 #[.pointer (some ⟨g, 0, none⟩)]) (he : Blk w be 43 #[x]) :
    CallsD Tryz.prog 52 #[.pointer (some ⟨ba, 0, none⟩), .pointer (some ⟨br, 0, none⟩), .pointer (some ⟨be, 0, none⟩)] (.panicking [{ v := .iface 98 (.pointer (some ⟨b, 0, none⟩)), recovered := false }]) w fun e u' w' => e = .returned (.tuple #[]) ∧ u' = .panicking [{ v := .iface 98 (.pointer (some ⟨b, 0, none⟩)), recovered := true }] ∧
      Blk w' be 43 #[.iface 98 (.pointer (some ⟨b, 0, none⟩))] ∧ RdB w' g s i true ∧ Only (fun y => y = g ∨ y = be) w w' := by
  have x1 := h.frozen 1
  have x2 := h.frozen 2
  have x3 := h.cell 1
  have x4 := h.cell 2
  have y1 := ha.cell 0
  have y2 := hr.cell 0
  have y3 := he.cell 0
  have y4 := he.frozen 0
  have n1 : ¬ g = be := h.ne_ he (by decide)
  have n2 : ¬ be = g := fun h' => n1 h'.symm
  have n3 : be < w.heap.size := he.lt
  have n4 : ¬ be = w.heap.size := by omega
  have H := Lib.hid h
  have HE := Lib.hid he
  have hta : ∀ W : World, (Instr.typeAssert (.iface 98 (.pointer (some ⟨b, 0, none⟩))) 20 98 true).run Tryz.prog W = .ok (.tuple #[.pointer (some ⟨b, 0, none⟩), .bool true]) W := fun _ => by kernel_rfl
  clear h ha hr he
  refine callsD_of_wpS Tryz.func52 rfl fun c₀ cs hu => ?_
  apply wpS_seq
  apply wpS_region
  simp [wpOpsS, go_sem, recoverD, hu, Tryz.ntmps52, Exit.thenS]
  apply wpS_seq
  apply wpS_seq
  apply wpS_region
  simp [wpOpsS, go_sem, Exit.thenS]
  refine wpS_cond (t := false) (by simp [Act.eval, Array.replicate]) ?_
  simp only [Bool.false_eq_true, if_false]
  refine skip_then ?_
  refine wpS_of_wp ?_
  have hT : (#[Value.pointer (some ⟨ba, 0, none⟩), Value.pointer (some ⟨br, 0, none⟩), Value.pointer (some ⟨be, 0, none⟩)] ++ ((((Array.replicate 24 undef).setIfInBounds 3 (Value.iface 98 (.pointer (some ⟨b, 0, none⟩)))).setIfInBounds 0 (Value.iface 98 (.pointer (some ⟨b, 0, none⟩)))).setIfInBounds 4 (Value.iface 98 (.pointer (some ⟨b, 0, none⟩)))).setIfInBounds 5 (Value.bool false) : Array Value) = #[Value.pointer (some ⟨ba, 0, none⟩), Value.pointer (some ⟨br, 0, none⟩), Value.pointer (some ⟨be, 0, none⟩), Value.iface 98 (.pointer (some ⟨b, 0, none⟩)), undef, undef, Value.iface 98 (.pointer (some ⟨b, 0, none⟩)), Value.iface 98 (.pointer (some ⟨b, 0, none⟩)), .bool false, undef, undef, undef, undef, undef, undef, undef, undef, undef, undef, undef, undef, undef, undef, undef, undef, undef, undef] := by kernel_rfl
  rw [hT]
  clear hT
  go_wp2_with fail
  refine ⟨rfl, _, rfl, .tuple #[], by simp [results, Tryz.results52], rfl, rfl, ?_, ?_, ?_⟩
  · exact ((((HE.out.far n2 _).far n2 _).set_ 0 _).set_ 0 _).alloc _
  · exact ((((H.out.set_ 1 _).set_ 2 _).far n1 _).far n1 _).alloc _
  · exact (((((Only.refl (fun y => y = g ∨ y = be) w).set (.inl (.inl rfl)) _).set (.inl (.inl rfl)) _).set (.inl (.inr rfl)) _).set (.inl (.inr rfl)) _).alloc _
end Go.Proofs.YtcockikekgmfkaaGreatDoor
namespace Go.Proofs.YtcockikekgmfkaaGreatDoor
open Go.RowKit

theorem blk_new (w : World) (t : TypeId) (cs : Array Value) {g : Nat} (hg : w.heap.size = g) : Blk (w.alloc (.cells cs t)) g t cs := hg ▸ Blk.new w t cs
/-- Behind a field that was read: what the reading left, but for new blocks. -/
def FieldOk (Q : World → World → Prop) (w : World) (e : Ending) (w' : World) : Prop :=
  e = .returned .nilIface ∧ ∃ W w1, Below w.heap.size w W ∧ Q W w1 ∧ Below w.heap.size w1 w'
/-- Behind one that was not: a stop's error; the reader stands where it was, stopped. -/
def FieldNo (g : Nat) (s : ByteArray) (i : Nat) (w : World) (e : Ending) (w' : World) : Prop :=
  ∃ b, e = .returned (.iface 98 (.pointer (some ⟨b, 0, none⟩))) ∧ w'.cell? ⟨b, 1, none⟩ = some (.int .i64 70) ∧ RdB w' g s i true ∧ Only (fun x => x = g) w w'

set_option maxRecDepth 100000 in
set_option maxHeartbeats 1000000 in
theorem field_ok (g : Nat) (s : ByteArray) (i : Nat) (K : FuncId) (cap : Array Value) (S : Nat → Prop) (Q : World → World → Prop) (w : World) (h : RdB w g s i false)
    (hcf : ∀ (args : Array Value) (W : World), (callFunc K args).run Tryz.prog W = .ok (.enter K args) W)
    (hQ : ∀ W w', Q W w' → Only S W w') (hS : ∀ x, S x → x < w.heap.size)
    (hone : ∀ W, RdB W g s i false → Below w.heap.size w W → Calls Tryz.prog K (#[.pointer (some ⟨g, 0, none⟩)] ++ cap) W fun e w' => e = .returned (.tuple #[]) ∧ Q W w') :
    Calls Tryz.prog 41 #[.pointer (some ⟨g, 0, none⟩), .func (.func K) #[] cap] w (FieldOk Q w) := by
  have hmf : ∀ (fn : Fn) (first cap : Array Value) (w : World), (Instr.makeFunc fn first cap).run Tryz.prog w = .ok (.func fn first cap) w := fun _ _ _ _ => rfl
  have x1 := h.cell 1
  have x2 := h.cell 2
  have hl := h.lt
  have b3 := ((h.alloc (.cells #[.pointer (some ⟨g, 0, none⟩)] 55)).alloc (.cells #[.nilIface] 43)).alloc (.cells #[.int .i64 (i : Int)] 3)
  have l3 := (((Below.refl w.heap.size w).alloc (Nat.le_refl _) (.cells #[.pointer (some ⟨g, 0, none⟩)] 55)).alloc (by simp) (.cells #[.nilIface] 43)).alloc (by simp; omega) (.cells #[.int .i64 (i : Int)] 3)
  have y2 := b3.cell 2
  have B3 := Lib.hid b3
  have L3 := Lib.hid l3
  have hl1 : ¬ g = w.heap.size := by omega
  have hl2 : ¬ g = w.heap.size + 1 := by omega
  have H := Lib.hid h
  have HO := Lib.hid hone
  have HQ := Lib.hid hQ
  have HS := Lib.hid hS
  clear h hone hQ hS b3 l3
  go_enter_defers Tryz.func41, Tryz.ntmps41
  go_wp2_with fail
  refine (HO.out _ B3.out L3.out).mono ?_
  rintro e w1 ⟨rfl, q1⟩
  have o1 := HQ.out _ _ q1
  have be : Blk w1 (w.heap.size + 1) 43 #[.nilIface] := o1.blk ((blk_new (w.alloc (.cells #[.pointer (some ⟨g, 0, none⟩)] 55)) 43 #[.nilIface] (by simp)).alloc _) (fun hs => by have := HS.out _ hs; omega)
  have z1 := be.cell 0
  have z2 := be.frozen 0
  have Q1 := Lib.hid q1
  have BE := Lib.hid be
  clear o1 q1 be
  go_wp2_with fail
  refine leaves_cons (f := 52) (args := #[.pointer (some ⟨w.heap.size + 1 + 1, 0, none⟩), .pointer (some ⟨w.heap.size, 0, none⟩), .pointer (some ⟨w.heap.size + 1, 0, none⟩)]) (by simp) (by simp [go_sem]) ?_
  refine (catch_idle _ _ _ _).mono ?_
  rintro e u' w2 ⟨rfl, rfl, rfl⟩
  exact ⟨.nilIface, by simp [results, Tryz.results41, go_sem, z1], rfl, _, w1, L3.out, Q1.out, (Below.refl _ _).setCell (by simp) _⟩

set_option maxRecDepth 100000 in
set_option maxHeartbeats 1000000 in
theorem field_no (g : Nat) (s : ByteArray) (i : Nat) (K : FuncId) (cap : Array Value) (w : World) (h : RdB w g s i false)
    (hcf : ∀ (args : Array Value) (W : World), (callFunc K args).run Tryz.prog W = .ok (.enter K args) W)
    (hone : ∀ W, RdB W g s i false → Below w.heap.size w W → Calls Tryz.prog K (#[.pointer (some ⟨g, 0, none⟩)] ++ cap) W fun e w' => ∃ W', Only (fun x => x = g) W W' ∧ (∃ j, RdB W' g s j false) ∧ PanPost W' e w') :
    Calls Tryz.prog 41 #[.pointer (some ⟨g, 0, none⟩), .func (.func K) #[] cap] w (FieldNo g s i w) := by
  have hmf : ∀ (fn : Fn) (first cap : Array Value) (w : World), (Instr.makeFunc fn first cap).run Tryz.prog w = .ok (.func fn first cap) w := fun _ _ _ _ => rfl
  have x1 := h.cell 1
  have x2 := h.cell 2
  have hl := h.lt
  have a0 := blk_new w 55 #[.pointer (some ⟨g, 0, none⟩)] rfl
  have a1 := blk_new (w.alloc (.cells #[.pointer (some ⟨g, 0, none⟩)] 55)) 43 #[.nilIface] (g := w.heap.size + 1) (by simp)
  have a2 := blk_new ((w.alloc (.cells #[.pointer (some ⟨g, 0, none⟩)] 55)).alloc (.cells #[.nilIface] 43)) 3 #[.int .i64 (i : Int)] (g := w.heap.size + 1 + 1) (by simp)
  have b3 := ((h.alloc (.cells #[.pointer (some ⟨g, 0, none⟩)] 55)).alloc (.cells #[.nilIface] 43)).alloc (.cells #[.int .i64 (i : Int)] 3)
  have l3 := (((Below.refl w.heap.size w).alloc (Nat.le_refl _) (.cells #[.pointer (some ⟨g, 0, none⟩)] 55)).alloc (by simp) (.cells #[.nilIface] 43)).alloc (by simp; omega) (.cells #[.int .i64 (i : Int)] 3)
  have y2 := b3.cell 2
  have A0 := Lib.hid ((a0.alloc (.cells #[.nilIface] 43)).alloc (.cells #[.int .i64 (i : Int)] 3))
  have A1 := Lib.hid (a1.alloc (.cells #[.int .i64 (i : Int)] 3))
  have A2 := Lib.hid a2
  have B3 := Lib.hid b3
  have L3 := Lib.hid l3
  have hl1 : ¬ g = w.heap.size := by omega
  have hl2 : ¬ g = w.heap.size + 1 := by omega
  clear a0 a1 a2 b3 l3
  have HO := Lib.hid hone
  clear h hone
  go_enter_defers Tryz.func41, Tryz.ntmps41
  go_wp2_with fail
  refine (HO.out _ B3.out L3.out).mono ?_
  rintro e w1 ⟨W', o1, ⟨j, k1⟩, b, rfl, hb, hc, hbel⟩
  have e0 := (o1.blk A0.out (by omega)).below hbel ((o1.blk A0.out (by omega)).lt)
  have e1 := (o1.blk A1.out (by omega)).below hbel ((o1.blk A1.out (by omega)).lt)
  have e2 := (o1.blk A2.out (by omega)).below hbel ((o1.blk A2.out (by omega)).lt)
  have e3 := k1.below hbel k1.lt
  have hlt := o1.size
  simp only [World.size_alloc] at hlt
  have ow : Only (fun x => x = g) w w1 := ((Only.of_below (fun x => x = g) L3.out).trans o1).then_below hbel
  refine leaves_cons (f := 52) (args := #[.pointer (some ⟨w.heap.size + 1 + 1, 0, none⟩), .pointer (some ⟨w.heap.size, 0, none⟩), .pointer (some ⟨w.heap.size + 1, 0, none⟩)]) (by simp) (by simp [go_sem]) ?_
  refine (catch_stop _ _ _ g b s i j false _ _ e3 e2 e0 e1).mono ?_
  rintro e u' w2 ⟨rfl, rfl, k2, k3, k4⟩
  have z1 := k2.cell 0
  refine ⟨.iface 98 (.pointer (some ⟨b, 0, none⟩)), by simp [results, Tryz.results41, go_sem, z1], b, rfl, ?_, k3, ow.step k4 (fun x hx hs => by omega)⟩
  rw [k4.cell (p := ⟨b, 1, none⟩) (cell_lt hc) (by simp; omega)]
  exact hc

set_option maxRecDepth 100000 in
set_option maxHeartbeats 1000000 in
theorem field_bad (g : Nat) (s : ByteArray) (i : Nat) (K : FuncId) (cap : Array Value) (w : World) (h : RdB w g s i true) :
    Calls Tryz.prog 41 #[.pointer (some ⟨g, 0, none⟩), .func (.func K) #[] cap] w (FieldNo g s i w) := by
  have hmf : ∀ (fn : Fn) (first cap : Array Value) (w : World), (Instr.makeFunc fn first cap).run Tryz.prog w = .ok (.func fn first cap) w := fun _ _ _ _ => rfl
  have x1 := h.cell 1
  have x2 := h.cell 2
  have hl := h.lt
  have a0 := blk_new w 55 #[.pointer (some ⟨g, 0, none⟩)] rfl
  have a1 := blk_new (w.alloc (.cells #[.pointer (some ⟨g, 0, none⟩)] 55)) 43 #[.nilIface] (g := w.heap.size + 1) (by simp)
  have a2 := blk_new ((w.alloc (.cells #[.pointer (some ⟨g, 0, none⟩)] 55)).alloc (.cells #[.nilIface] 43)) 3 #[.int .i64 (i : Int)] (g := w.heap.size + 1 + 1) (by simp)
  have b3 := ((h.alloc (.cells #[.pointer (some ⟨g, 0, none⟩)] 55)).alloc (.cells #[.nilIface] 43)).alloc (.cells #[.int .i64 (i : Int)] 3)
  have l3 := (((Below.refl w.heap.size w).alloc (Nat.le_refl _) (.cells #[.pointer (some ⟨g, 0, none⟩)] 55)).alloc (by simp) (.cells #[.nilIface] 43)).alloc (by simp; omega) (.cells #[.int .i64 (i : Int)] 3)
  have y2 := b3.cell 2
  have A0 := Lib.hid ((a0.alloc (.cells #[.nilIface] 43)).alloc (.cells #[.int .i64 (i : Int)] 3))
  have A1 := Lib.hid (a1.alloc (.cells #[.int .i64 (i : Int)] 3))
  have A2 := Lib.hid a2
  have B3 := Lib.hid b3
  have L3 := Lib.hid l3
  have hl1 : ¬ g = w.heap.size := by omega
  have hl2 : ¬ g = w.heap.size + 1 := by omega
  clear a0 a1 a2 b3 l3
  clear h
  go_enter_defers Tryz.func41, Tryz.ntmps41
  go_wp2_with fail
  refine leaves_cons (f := 52) (args := #[.pointer (some ⟨w.heap.size + 1 + 1, 0, none⟩), .pointer (some ⟨w.heap.size, 0, none⟩), .pointer (some ⟨w.heap.size + 1, 0, none⟩)]) (by simp) (by simp [go_sem]) ?_
  refine (catch_stop _ _ _ g (w.heap.size + 1 + 1 + 1) s i i true _ _ (B3.out.alloc _) (A2.out.alloc _) (A0.out.alloc _) (A1.out.alloc _)).mono ?_
  rintro e u' w2 ⟨rfl, rfl, k2, k3, k4⟩
  have z1 := k2.cell 0
  refine ⟨.iface 98 (.pointer (some ⟨w.heap.size + 1 + 1 + 1, 0, none⟩)), by simp [results, Tryz.results41, go_sem, z1], _, rfl, ?_, k3, ((Only.of_below (fun x => x = g) L3.out).alloc _).step k4 (fun x hx hs => by omega)⟩
  rw [k4.cell (p := ⟨w.heap.size + 1 + 1 + 1, 1, none⟩) (by simp) (by simp; omega)]
  exact (blk_new (((w.alloc (.cells #[.pointer (some ⟨g, 0, none⟩)] 55)).alloc (.cells #[.nilIface] 43)).alloc (.cells #[.int .i64 (i : Int)] 3)) 100 #[_, .int .i64 70] (by simp)).cell 1

set_option maxRecDepth 100000 in
set_option maxHeartbeats 1000000 in
theorem field_nil (K : FuncId) (cap : Array Value) (w : World) :
    Calls Tryz.prog 41 #[.pointer none, .func (.func K) #[] cap] w fun e w' => ∃ b, e = .returned (.iface 98 (.pointer (some ⟨b, 0, none⟩))) ∧ w'.cell? ⟨b, 1, none⟩ = some (.int .i64 70) ∧ Below w.heap.size w w' := by
  go_enter_defers Tryz.func41, Tryz.ntmps41
  go_wp2_with fail
  refine ⟨.iface 98 (.pointer (some ⟨w.heap.size + 1 + 1, 0, none⟩)), by simp [results, Tryz.results41, go_sem], _, rfl, ?_, ?_⟩
  · exact (blk_new ((w.alloc (.cells #[.pointer none] 55)).alloc (.cells #[.iface 98 (.pointer (some ⟨w.heap.size + 1 + 1, 0, none⟩))] 43)) 100 #[_, .int .i64 70] (by simp)).cell 1
  · exact (((Below.refl w.heap.size w).alloc (Nat.le_refl _) _).alloc (by simp) _).alloc (by simp; omega) _
end Go.Proofs.YtcockikekgmfkaaGreatDoor
