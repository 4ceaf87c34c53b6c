/-
  Layer 2, reading: what a reader's deferred closure does: it recovers a stop, and stops the reader where it was.
  A region that draws its order, whose first operations only read (or call what leaves the world as it was): these are walked once, in the order of the text, by the cheap step of the quiet walk; the rest stands in one forced order.
  A region that draws its order, whose operations only read what was there and whose callees may make memory but leave what was there as it was: walked once, in the order of the text, over the class of all such worlds.
  Layer 2, reading: the bytes ahead of a reader, a number read there, or a stop.
-/
import Derived.StillTailTactics
import Derived.Deep.QuietTactic
import Derived.BigQuiet
import Derived.Below
import Derived.Test.YtckdecodpjfcnaaGreatDoorGrp02
import Derived.Test.YtckdecodpjfcnaaGreatDoorGrp07
import Derived.Test.YtckdecodpjfcnaaGreatDoorGrp08
import Derived.Test.YtckdecodpjfcnaaGreatDoorGrp09
import Derived.Defers
import Derived.Recover
import Derived.Laws.Pointers
set_option linter.unusedVariables false
set_option linter.unusedSimpArgs false
namespace Go.Proofs.YtckdecodpjfcnaaGreatDoor
open Go.RowKit

theorem still_of_quiet {P : Program} {o : Oper} {a : Act} {w : World} {K : Act → Prop} (h : o.quiet P a (fun W => W = w) K) : o.still P a w K := by
  obtain ⟨v, h1, h2⟩ := h
  have h3 := h1 w rfl
  unfold Oper.quietAt at h3
  unfold Oper.still
  generalize (execOp a.eval o).run P w = r at *
  cases r with
  | ok n w' =>
    cases n <;> simp only [Oper.quietUpon] at h3 <;> simp only [Oper.stillUpon]
    case value u =>
      obtain ⟨e1, e2⟩ := h3
      rw [e2]
      exact ⟨e1, h2⟩
    case skip =>
      obtain ⟨e1, e2⟩ := h3
      rw [← e2]
      exact ⟨e1, h2⟩
    case enter f args =>
      obtain ⟨e1, hc⟩ := h3
      exact ⟨e1, v, hc, h2⟩
  | halt x w' => simp only [Oper.quietUpon] at h3

theorem wpStill_of_quiet {P : Program} {ops : Array Oper} {w : World} {Q : Act → Prop} : ∀ (l : List Oper) (a : Act), wpQuiet P ops (fun W => W = w) Q l a → wpStill P ops w Q l a
  | [], _, h => h
  | o :: rest, a, h => by
    unfold wpQuiet at h
    unfold wpStill
    split
    · rename_i hw
      rw [if_pos hw] at h
      exact Oper.still_mono (fun a' h' => wpStill_of_quiet rest a' h') (still_of_quiet h)
    · rename_i hw
      rw [if_neg hw] at h
      exact wpStill_of_quiet rest _ h

theorem wp_region_qtail {P : Program} {id : Nat} {Q : Exit → Act → World → Prop} {a : Act} {w : World} {l : List Oper} (n : Nat) (hm : P.follows .mixedOrders = true) (hB : Region.lexTailB .any l.toArray n = true)
    (h : wpQuiet P l.toArray (fun W => W = w.drew) (fun a' => wpList P l.toArray Q (l.drop n) a' w.drew) (l.take n) a) : (Code.region id l.toArray true).wp P Q a w :=
  wp_region_still_tail n hm hB (wpStill_of_quiet _ _ h)
end Go.Proofs.YtckdecodpjfcnaaGreatDoor
namespace Go.Proofs.YtckdecodpjfcnaaGreatDoor
open Go.RowKit

/-- The worlds that are as w was below block B. -/
def BW (B : Nat) (w : World) : Type := { W : World // Below B w W }
instance nonempty_BW (B : Nat) (w : World) : Nonempty (BW B w) := ⟨⟨w, Below.refl _ _⟩⟩
theorem wp_region_bq {P : Program} {id : Nat} {Q : Exit → Act → World → Prop} {a : Act} {w : World} {l : List Oper} (B : Nat) (hm : P.follows .mixedOrders = true) (hB : Region.lexB .any l.toArray = true)
    (h : wpQuiet P l.toArray (fun W => ∃ n : BW B w, W = n.1) (fun a' => ∀ W, (∃ n : BW B w, W = n.1) → Q .normal a' W) l a) : (Code.region id l.toArray true).wp P Q a w :=
  wp_region_quiet (C := fun W => ∃ n : BW B w, W = n.1) hm hB ⟨⟨w.drew, (Below.refl _ _).drew⟩, rfl⟩ (by simpa using h)
theorem bw_call {P : Program} {f : FuncId} {args : Array Value} {B : Nat} {w : World} (hB : B ≤ w.heap.size) {n : BW B w} {v : Value} (h : Calls P f args n.1 fun e w' => e = .returned v ∧ Below n.1.heap.size n.1 w') :
    Calls P f args n.1 fun e w'' => e = .returned v ∧ ∃ m : BW B w, w'' = m.1 :=
  h.mono fun _ w' ⟨he, hb⟩ => ⟨he, ⟨w', n.2.trans (hb.mono (Nat.le_trans hB n.2.size))⟩, rfl⟩
theorem bw_same {P : Program} {f : FuncId} {args : Array Value} {B : Nat} {w : World} {n : BW B w} {v : Value} (h : Calls P f args n.1 fun e w' => e = .returned v ∧ n.1 = w') :
    Calls P f args n.1 fun e w'' => e = .returned v ∧ ∃ m : BW B w, w'' = m.1 :=
  h.mono fun _ _ ⟨he, hb⟩ => ⟨he, n, hb.symm⟩
theorem bw_cell {B : Nat} {w : World} {b o : Nat} {v : Value} (h : w.cell? ⟨b, o, none⟩ = some v) (hb : b < B) (n : BW B w) : n.1.cell? ⟨b, o, none⟩ = some v := (n.2.cell (p := ⟨b, o, none⟩) hb).trans h
end Go.Proofs.YtckdecodpjfcnaaGreatDoor
namespace Go.Proofs.YtckdecodpjfcnaaGreatDoor
open Go.RowKit

/-- A reader in memory. -/
abbrev RdB (w : World) (g : Nat) (s : ByteArray) (i : Nat) (bad : Bool) : Prop := Blk w g 113 #[.string s, .int .i64 (i : Int), .bool bad]

/-- The bytes from a place on, at most so many. -/
def winL (s : ByteArray) (i n : Nat) : List UInt8 := ((lb s).drop i).take n
theorem winL_eq (s : ByteArray) (i n m : Nat) (hm : m = min n (s.size - i)) : lb (s.extract i (i + m)) = winL s i n := by
  rw [lb_extract, List.drop_take, show i + m - i = m by omega, hm]
  unfold winL
  rw [← length_lb]
  rcases Nat.le_total n ((lb s).length - i) with h | h
  · rw [Nat.min_eq_left h]
  · rw [Nat.min_eq_right h, List.take_of_length_le (by simp), List.take_of_length_le (by simpa using h)]

set_option maxRecDepth 100000 in
set_option maxHeartbeats 1000000 in
theorem window_any (g : Nat) (s : ByteArray) (i n : Nat) (bad : Bool) (w : World) (h : RdB w g s i bad) (hs : s.size ≤ 1000000) (hi : i ≤ s.size) (hn : n ≤ 1099511627776) :
    Calls Tryz.prog 95 #[.pointer (some ⟨g, 0, none⟩), .int .i64 (n : Int)] w fun e w' => ∃ A c, e = .returned (.slice A (winL s i n).length c) ∧ Reads w' w'.heap.size 1 A (winL s i n).length (cellsB (winL s i n)) ∧ (winL s i n).length ≤ c ∧ Below w.heap.size w w' := by
  obtain ⟨d, hd⟩ : ∃ d : Nat, d = s.size - i := ⟨_, rfl⟩
  obtain ⟨m, hm⟩ : ∃ m : Nat, m = min n d := ⟨_, rfl⟩
  have hw := winL_eq s i n m (by omega)
  obtain ⟨L, hL⟩ : ∃ L, L = winL s i n := ⟨_, rfl⟩
  rw [← hL] at hw ⊢
  have x0 := h.cell 0
  have x1 := h.cell 1
  have e1 : decide ((i : Int) < 0) = false := by simp
  have e2 : decide ((s.size : Int) < (i : Int)) = false := by simp; omega
  have v1 : IntKind.i64.wrap ((s.size : Int) - (i : Int)) = (d : Int) := by rw [IntWalk.i64_in _ (by omega)]; omega
  have v2 : (if d < n then (d : Int) else (n : Int)) = (m : Int) := by split <;> omega
  have v3 : IntKind.i64.wrap ((i : Int) + (m : Int)) = (i : Int) + (m : Int) := IntWalk.i64_in _ (by omega)
  have hsl : ∀ W : World, (Instr.slice 9 (.string s) (some (.int .i64 (i : Int))) (some (.int .i64 ((i : Int) + (m : Int)))) none).run Tryz.prog W = .ok (.string (s.extract i (i + m))) W := by
    intro W
    rw [run_slice_string_if W 9 s .i64 .i64 _ _ Tryz.underlying9, if_pos (by omega), if_pos (by omega)]
    rw [show ((i : Int) + (m : Int)).toNat = i + m by omega, Int.toNat_natCast]
  have hsz : (s.extract i (i + m)).size = L.length := by rw [← hw, length_lb]
  have HW := Lib.hid hw
  have HSZ := Lib.hid hsz
  have HL := Lib.hid hL
  clear hw hsz hL hd hm h
  go_enter Tryz.func95, Tryz.ntmps95
  go_wp2_with fail
  go_quiet (fail)
  go_wp2_with fail
  refine wp_region_qtail 26 (by kernel_rfl) (by kernel_rfl) ?_
  simp only [List.take_succ_cons, List.take_zero, List.drop_succ_cons, List.drop_zero]
  repeat (go_big_quiet_step (fail))
  refine wpQuiet_nil ?_
  obtain ⟨cap, W', hrun, hcap, hcell, hsize, hgrow⟩ := bytes_of_ex (P := Tryz.prog) Tryz.underlying9 Tryz.underlying46 Tryz.underlying5 (w.drewN (nq + 1)) (s.extract i (i + m))
  rw [HSZ.out] at hrun hcap hcell
  have HCELL := Lib.hid hcell
  have HSIZE := Lib.hid hsize
  clear hcell hsize v1 v2 v3 hsl
  go_wp2_with fail
  go_ret
  refine ⟨_, cap, rfl, ⟨by rw [length_cellsB]; omega, fun _ => ⟨_, rfl, by rw [HSIZE.out]; exact Nat.lt_succ_self _, fun j u hu => ?_⟩⟩, hcap, ?_⟩
  · rw [getElem?_cellsB, Option.map_eq_some_iff] at hu
    obtain ⟨c, hc, rfl⟩ := hu
    have hj := (List.getElem?_eq_some_iff.1 hc).1
    rw [add_none, Nat.zero_add]
    have := HCELL.out j hj
    rw [HW.out, List.getD_eq_getElem?_getD, hc] at this
    exact this
  · exact (below_drewN (Below.refl _ _) (nq + 1)).grown hgrow (Nat.le_refl _) (fun k hk => by cases hk)

/-- A stop that goes through a call. -/
def PanPost (w : World) (e : Ending) (w' : World) : Prop :=
  ∃ b, e = .panicked [{ v := .iface 129 (.pointer (some ⟨b, 0, none⟩)), recovered := false }] ∧ w.heap.size ≤ b ∧ w'.cell? ⟨b, 1, none⟩ = some (.int .i64 70) ∧ Below w.heap.size w w'
theorem len6 (w : World) : Calls Tryz.prog 96 #[.int .i64 1099511627776] w fun e w' => e = .returned (.int .i64 6) ∧ w = w' := len_ok 1099511627776 w (Nat.le_refl _)

theorem winL_dec (s : ByteArray) (i : Nat) : dec (winL s i 6) = dec ((lb s).drop i) := dec_take _
theorem winL_len (s : ByteArray) (i n : Nat) : (winL s i n).length ≤ n := by unfold winL; rw [List.length_take]; omega

set_option maxRecDepth 100000 in
set_option maxHeartbeats 1000000 in
theorem number_no (g : Nat) (s : ByteArray) (i : Nat) (bad : Bool) (lo hi : Int) (w : World) (h : RdB w g s i bad) (hg : HasET w) (hs : s.size ≤ 1000000) (hat : i ≤ s.size)
    (hno : dec ((lb s).drop i) = none ∨ ∃ n k, dec ((lb s).drop i) = some (n, k) ∧ ¬ (lo ≤ (n : Int) ∧ (n : Int) ≤ hi)) :
    Calls Tryz.prog 76 #[.pointer (some ⟨g, 0, none⟩), .int .i64 lo, .int .i64 hi] w (PanPost w) := by
  have HWN := Lib.hid (window_any g s i 6 bad w h hs hat (by omega))
  have HG := Lib.hid hg
  have hlen := winL_len s i 6
  have hgo : getOf (winL s i 6) 0 = (0, 0, 70) ∨ ∃ n k : Nat, getOf (winL s i 6) 0 = ((n : Int), (k : Int), 0) ∧ ¬ (lo ≤ (n : Int) ∧ (n : Int) ≤ hi) := by
    rcases hno with hd | ⟨n, k, hd, hr⟩
    · exact .inl (getOf_bad _ 0 (by rw [List.drop_zero, winL_dec]; exact hd) (Nat.zero_le _))
    · have := getOf_ok (winL s i 6) 0 n k (by rw [List.drop_zero, winL_dec]; exact hd) (Nat.zero_le _)
      exact .inr ⟨n, k, by rw [show ((0 : Nat) : Int) + (k : Int) = (k : Int) by omega] at this; exact this, hr⟩
  generalize winL s i 6 = L at *
  have HGO := Lib.hid hgo
  clear h hg hno hgo
  go_enter Tryz.func76, Tryz.ntmps76
  go_wp2_with fail
  refine (len6 _).mono ?_
  rintro e w0 ⟨rfl, rfl⟩
  go_wp2_with fail
  refine HWN.out.mono ?_
  rintro e w1 ⟨A1, c1, rfl, r1, hc1, b1⟩
  have HGT := Lib.hid (Get_any A1 L c1 0 w1 (by omega) (HG.out.up b1) r1)
  clear r1
  go_wp2_with fail
  refine HGT.out.mono ?_
  rintro e w2 ⟨rfl, b2⟩
  have bf := btrans b1 b2
  have BF := Lib.hid bf
  rcases HGO.out with hgo | ⟨n, k, hgo, hr⟩
  · rw [hgo]
    clear hgo b1 b2 bf
    go_wp2_with fail
    exact ⟨rfl, w2.heap.size, rfl, BF.out.size, by simp, bal BF.out _⟩
  · rw [hgo]
    have HR := Lib.hid hr
    clear hgo hr b1 b2 bf
    by_cases h1 : (n : Int) < lo
    · have d1 : decide ((n : Int) < lo) = true := decide_eq_true h1
      go_wp2_with fail
      exact ⟨rfl, w2.heap.size, rfl, BF.out.size, by simp, bal BF.out _⟩
    · have d1 : decide ((n : Int) < lo) = false := decide_eq_false h1
      have d2 : decide (hi < (n : Int)) = true := decide_eq_true (by have := HR.out; omega)
      go_wp2_with fail
      exact ⟨rfl, w2.heap.size, rfl, BF.out.size, by simp, bal BF.out _⟩

/-- Behind a reading: the reader's place; but for the reader all is as it was. -/
def RdPost (g : Nat) (s : ByteArray) (v : Value) (i : Nat) (bad : Bool) (w : World) (e : Ending) (w' : World) : Prop :=
  e = .returned v ∧ RdB w' g s i bad ∧ Only (fun x => x = g) w w'

set_option maxRecDepth 100000 in
set_option maxHeartbeats 1000000 in
theorem number_ok (g : Nat) (s : ByteArray) (i : Nat) (bad : Bool) (lo hi : Int) (n k : Nat) (w : World) (h : RdB w g s i bad) (hg : HasET w) (hs : s.size ≤ 1000000) (hat : i ≤ s.size)
    (hd : dec ((lb s).drop i) = some (n, k)) (hr : lo ≤ (n : Int) ∧ (n : Int) ≤ hi) :
    Calls Tryz.prog 76 #[.pointer (some ⟨g, 0, none⟩), .int .i64 lo, .int .i64 hi] w (RdPost g s (.int .i64 n) (i + k) bad w) := by
  have HWN := Lib.hid (window_any g s i 6 bad w h hs hat (by omega))
  have HG := Lib.hid hg
  have HK := Lib.hid h
  have hlen := winL_len s i 6
  have hk6 := (dec_le hd).2.2
  have hgo : getOf (winL s i 6) 0 = ((n : Int), (k : Int), 0) := by
    have := getOf_ok (winL s i 6) 0 n k (by rw [List.drop_zero, winL_dec]; exact hd) (Nat.zero_le _)
    rw [show ((0 : Nat) : Int) + (k : Int) = (k : Int) by omega] at this; exact this
  generalize winL s i 6 = L at *
  have HGO := Lib.hid hgo
  obtain ⟨r1, r2⟩ := hr
  have d1 : decide ((n : Int) < lo) = false := decide_eq_false (by omega)
  have d2 : decide (hi < (n : Int)) = false := decide_eq_false (by omega)
  clear h hg hgo hd
  go_enter Tryz.func76, Tryz.ntmps76
  go_wp2_with fail
  refine (len6 _).mono ?_
  rintro e w0 ⟨rfl, rfl⟩
  go_wp2_with fail
  refine HWN.out.mono ?_
  rintro e w1 ⟨A1, c1, rfl, rd1, hc1, b1⟩
  have HGT := Lib.hid (Get_any A1 L c1 0 w1 (by omega) (HG.out.up b1) rd1)
  clear rd1
  go_wp2_with fail
  refine HGT.out.mono ?_
  rintro e w2 ⟨rfl, b2⟩
  have BF := Lib.hid (btrans b1 b2)
  have k2 := HK.out.below (btrans b1 b2) HK.out.lt
  have x1 := k2.cell 1
  have x2 := k2.frozen 1
  have K2 := Lib.hid k2
  rw [HGO.out]
  clear b1 b2 k2
  go_wp2_with fail
  go_ret
  refine ⟨rfl, ?_, (Only.of_below (fun x => x = g) BF.out).set (.inl rfl) _⟩
  have := K2.out.set_ 1 (.int .i64 ((i : Int) + (k : Int)))
  rw [show ((i : Int) + (k : Int)) = ((i + k : Nat) : Int) by omega] at this ⊢
  exact this
end Go.Proofs.YtckdecodpjfcnaaGreatDoor
namespace Go.Proofs.YtckdecodpjfcnaaGreatDoor
open Go.RowKit

theorem skip_then {P : Program} {y : Code} {Q : Exit → Act → List Frame → World → Prop} {a : Act} {cs : List Frame} {w : World} (h : y.wpS P Q a cs w) : Code.skip.wpS P (Exit.thenS (y.wpS P Q) Q) a cs w := wpS_of_wp (wp_skip h)

theorem catch_idle (ba br be : Nat) (w : World) :
    CallsD Tryz.prog 93 #[.pointer (some ⟨ba, 0, none⟩), .pointer (some ⟨br, 0, none⟩), .pointer (some ⟨be, 0, none⟩)] .returning w fun e u' w' => e = .returned (.tuple #[]) ∧ u' = .returning ∧ w' = w := by
  refine callsD_of_wpS Tryz.func93 rfl fun c₀ cs hu => ?_
  apply wpS_seq
  apply wpS_region
  simp [wpOpsS, go_sem, recoverD, hu, Tryz.ntmps93, Exit.thenS]
  apply wpS_seq
  apply wpS_seq
  apply wpS_region
  simp [wpOpsS, go_sem, Exit.thenS]
  refine wpS_cond (t := true) (by simp [Act.eval, Array.replicate]) ?_
  simp only [if_true]
  refine wpS_of_wp (wp_ret ?_)
  cases c₀
  simp_all [bodyPostS, results, Tryz.results93, Exit.thenS]

set_option maxRecDepth 100000 in
set_option maxHeartbeats 1000000 in
theorem catch_stop (ba br be g b : Nat) (s : ByteArray) (i j : Nat) (bad : Bool) (x : Value) (w : World) (h : RdB w g s j bad) (ha : Blk w ba 3 #[.int .i64 (i : Int)]) (hr : Blk w br 86 #[.pointer (some ⟨g, 0, none⟩)]) (he : Blk w be 99 #[x]) :
    CallsD Tryz.prog 93 #[.pointer (some ⟨ba, 0, none⟩), .pointer (some ⟨br, 0, none⟩), .pointer (some ⟨be, 0, none⟩)] (.panicking [{ v := .iface 129 (.pointer (some ⟨b, 0, none⟩)), recovered := false }]) w fun e u' w' => e = .returned (.tuple #[]) ∧ u' = .panicking [{ v := .iface 129 (.pointer (some ⟨b, 0, none⟩)), recovered := true }] ∧
      Blk w' be 99 #[.iface 129 (.pointer (some ⟨b, 0, none⟩))] ∧ RdB w' g s i true ∧ Only (fun y => y = g ∨ y = be) w w' := by
  have x1 := h.frozen 1
  have x2 := h.frozen 2
  have x3 := h.cell 1
  have x4 := h.cell 2
  have y1 := ha.cell 0
  have y2 := hr.cell 0
  have y3 := he.cell 0
  have y4 := he.frozen 0
  have n1 : ¬ g = be := h.ne_ he (by decide)
  have n2 : ¬ be = g := fun h' => n1 h'.symm
  have n3 : be < w.heap.size := he.lt
  have n4 : ¬ be = w.heap.size := by omega
  have H := Lib.hid h
  have HE := Lib.hid he
  have hta : ∀ W : World, (Instr.typeAssert (.iface 129 (.pointer (some ⟨b, 0, none⟩))) 20 129 true).run Tryz.prog W = .ok (.tuple #[.pointer (some ⟨b, 0, none⟩), .bool true]) W := fun _ => by kernel_rfl
  clear h ha hr he
  refine callsD_of_wpS Tryz.func93 rfl fun c₀ cs hu => ?_
  apply wpS_seq
  apply wpS_region
  simp [wpOpsS, go_sem, recoverD, hu, Tryz.ntmps93, Exit.thenS]
  apply wpS_seq
  apply wpS_seq
  apply wpS_region
  simp [wpOpsS, go_sem, Exit.thenS]
  refine wpS_cond (t := false) (by simp [Act.eval, Array.replicate]) ?_
  simp only [Bool.false_eq_true, if_false]
  refine skip_then ?_
  refine wpS_of_wp ?_
  have hT : (#[Value.pointer (some ⟨ba, 0, none⟩), Value.pointer (some ⟨br, 0, none⟩), Value.pointer (some ⟨be, 0, none⟩)] ++ ((((Array.replicate 24 undef).setIfInBounds 3 (Value.iface 129 (.pointer (some ⟨b, 0, none⟩)))).setIfInBounds 0 (Value.iface 129 (.pointer (some ⟨b, 0, none⟩)))).setIfInBounds 4 (Value.iface 129 (.pointer (some ⟨b, 0, none⟩)))).setIfInBounds 5 (Value.bool false) : Array Value) = #[Value.pointer (some ⟨ba, 0, none⟩), Value.pointer (some ⟨br, 0, none⟩), Value.pointer (some ⟨be, 0, none⟩), Value.iface 129 (.pointer (some ⟨b, 0, none⟩)), undef, undef, Value.iface 129 (.pointer (some ⟨b, 0, none⟩)), Value.iface 129 (.pointer (some ⟨b, 0, none⟩)), .bool false, undef, undef, undef, undef, undef, undef, undef, undef, undef, undef, undef, undef, undef, undef, undef, undef, undef, undef] := by kernel_rfl
  rw [hT]
  clear hT
  go_wp2_with fail
  refine ⟨rfl, _, rfl, .tuple #[], by simp [results, Tryz.results93], rfl, rfl, ?_, ?_, ?_⟩
  · exact ((((HE.out.far n2 _).far n2 _).set_ 0 _).set_ 0 _).alloc _
  · exact ((((H.out.set_ 1 _).set_ 2 _).far n1 _).far n1 _).alloc _
  · exact (((((Only.refl (fun y => y = g ∨ y = be) w).set (.inl (.inl rfl)) _).set (.inl (.inl rfl)) _).set (.inl (.inr rfl)) _).set (.inl (.inr rfl)) _).alloc _
end Go.Proofs.YtckdecodpjfcnaaGreatDoor
