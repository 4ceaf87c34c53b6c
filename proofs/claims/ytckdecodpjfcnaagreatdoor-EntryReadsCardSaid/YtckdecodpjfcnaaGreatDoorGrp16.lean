/-
  Layer 2, reading: the reader's Text.
  Layer 2, reading: the reader's Number.
-/
import Derived.Test.YtckdecodpjfcnaaGreatDoorGrp15
set_option linter.unusedVariables false
set_option linter.unusedSimpArgs false
namespace Go.Proofs.YtckdecodpjfcnaaGreatDoor
open Go.RowKit

theorem eqNilE (b : Int) (w : World) : (binOp .eql 99 .nilIface (.iface 35 (.int .i64 b))).run Tryz.prog w = .ok (.bool false) w := by kernel_rfl
/-- errors.Is(nil, m): no. -/
theorem is_nil (m : Int) (w : World) :
    Calls Tryz.prog 77 #[.nilIface, .iface 35 (.int .i64 m)] w fun ev w' => ev = .returned (.bool false) ∧ w = w' := by
  have f1 := eqNilE
  go_enter Tryz.func77, Tryz.ntmps77
  go_wp2_with fail
  go_ret
  exact ⟨rfl, rfl⟩
theorem is_stop (b : Nat) (w : World) (hb : w.cell? ⟨b, 1, none⟩ = some (.int .i64 70)) :
    Calls Tryz.prog 77 #[.iface 129 (.pointer (some ⟨b, 0, none⟩)), .iface 35 (.int .i64 70)] w fun ev w' => ev = .returned (.bool true) ∧ w = w' :=
  ErFi.is_any b 70 70 w hb

theorem Only.then_b {S : Nat → Prop} {a b w : World} {B : Nat} (h : Only S a b) (k : Below B b w) (hB : a.heap.size ≤ B) : Only S a w :=
  ⟨k.os.trans h.os, k.tape.trans h.tape, k.output.trans h.output, Nat.le_trans h.size k.size, fun i hi hn => (k.block i (by omega)).trans (h.block i hi hn)⟩
/-- What a reading that went well leaves: the reader's place; what was read, in its variable. -/
def OneOk (g bx : Nat) (T : TypeId) (s : ByteArray) (j : Nat) (v : Value) (W w' : World) : Prop :=
  RdB w' g s j false ∧ Blk w' bx T #[v] ∧ Only (fun x => x = g ∨ x = bx) W w'

set_option maxRecDepth 100000 in
set_option maxHeartbeats 400000 in
theorem num1_ok (g b4 b5 bx : Nat) (s : ByteArray) (i : Nat) (lo hi : Int) (n k : Nat) (v0 : Value) (w : World) (h : RdB w g s i false) (h4 : Blk w b4 3 #[.int .i64 lo]) (h5 : Blk w b5 3 #[.int .i64 hi]) (hx : Blk w bx 3 #[v0])
    (hg : HasET w) (hs : s.size ≤ 1000000) (hat : i ≤ s.size) (hd : dec ((lb s).drop i) = some (n, k)) (hr : lo ≤ (n : Int) ∧ (n : Int) ≤ hi) :
    Calls Tryz.prog 75 #[.pointer (some ⟨g, 0, none⟩), .pointer (some ⟨b4, 0, none⟩), .pointer (some ⟨b5, 0, none⟩), .pointer (some ⟨bx, 0, none⟩)] w fun e w' => e = .returned (.tuple #[]) ∧ OneOk g bx 3 s (i + k) (.int .i64 n) w w' := by
  have HN := Lib.hid (number_ok g s i false lo hi n k w h hg hs hat hd hr)
  have x4 := h4.cell 0
  have x5 := h5.cell 0
  have hne : ¬ bx = g := fun e => (h.ne_ hx (by decide)) e.symm
  have HX := Lib.hid hx
  clear h h4 h5 hx hd hr hg
  go_enter Tryz.func75, Tryz.ntmps75
  go_wp2_with fail
  refine HN.out.mono ?_
  rintro e w1 ⟨rfl, k1, o1⟩
  have kx := o1.blk HX.out hne
  have z1 := kx.cell 0
  have z2 := kx.frozen 0
  have K1 := Lib.hid k1
  have O1 := Lib.hid o1
  have KX := Lib.hid kx
  clear k1 o1 kx
  go_wp2_with fail
  go_end0
  exact ⟨rfl, K1.out.far (fun e => hne e.symm) _, KX.out.set_ 0 _, (O1.out.mono (fun x _ hx => .inl hx)).set (.inl (.inr rfl)) _⟩

set_option maxRecDepth 100000 in
set_option maxHeartbeats 400000 in
theorem num1_no (g b4 b5 bx : Nat) (s : ByteArray) (i : Nat) (lo hi : Int) (w : World) (h : RdB w g s i false) (h4 : Blk w b4 3 #[.int .i64 lo]) (h5 : Blk w b5 3 #[.int .i64 hi])
    (hg : HasET w) (hs : s.size ≤ 1000000) (hat : i ≤ s.size) (hno : dec ((lb s).drop i) = none ∨ ∃ n k, dec ((lb s).drop i) = some (n, k) ∧ ¬ (lo ≤ (n : Int) ∧ (n : Int) ≤ hi)) :
    Calls Tryz.prog 75 #[.pointer (some ⟨g, 0, none⟩), .pointer (some ⟨b4, 0, none⟩), .pointer (some ⟨b5, 0, none⟩), .pointer (some ⟨bx, 0, none⟩)] w (PanPost w) := by
  have HN := Lib.hid (number_no g s i false lo hi w h hg hs hat hno)
  have x4 := h4.cell 0
  have x5 := h5.cell 0
  clear h h4 h5 hno hg
  go_enter Tryz.func75, Tryz.ntmps75
  go_wp2_with fail
  refine HN.out.mono ?_
  rintro e w1 ⟨b, rfl, h1, h2, h3⟩
  exact ⟨rfl, b, rfl, h1, h2, h3⟩

theorem cf_num1 (args : Array Value) (W : World) : (callFunc 75 args).run Tryz.prog W = .ok (.enter 75 args) W := by kernel_rfl

theorem rdNum_bad (l : List UInt8) (i : Nat) (lo hi : Int) : rdNum l i true lo hi = (0, i, true) := by unfold rdNum; rw [if_pos rfl]
theorem rdNum_cases (l : List UInt8) (i : Nat) (lo hi : Int) :
    (∃ n k : Nat, dec (l.drop i) = some (n, k) ∧ (lo ≤ (n : Int) ∧ (n : Int) ≤ hi) ∧ rdNum l i false lo hi = ((n : Int), i + k, false)) ∨
    ((dec (l.drop i) = none ∨ ∃ n k, dec (l.drop i) = some (n, k) ∧ ¬ (lo ≤ (n : Int) ∧ (n : Int) ≤ hi)) ∧ rdNum l i false lo hi = (0, i, true)) := by
  unfold rdNum
  simp only [Bool.false_eq_true, if_false]
  cases hd : dec (l.drop i) with
  | none => exact .inr ⟨.inl rfl, rfl⟩
  | some z =>
    obtain ⟨n, k⟩ := z
    by_cases hr : lo ≤ (n : Int) ∧ (n : Int) ≤ hi
    · exact .inl ⟨n, k, rfl, hr, by simp only [if_pos hr]⟩
    · exact .inr ⟨.inr ⟨n, k, rfl, hr⟩, by simp only [if_neg hr]⟩

/-- Behind a field that was not read: nothing told; the reader is stopped where it was. -/
theorem num_end (g : Nat) (s : ByteArray) (i : Nat) (lo hi : Int) (bad : Bool) (w : World) (h : RdB w g s i bad)
    (hf : ∀ W b4 b5 bx, RdB W g s i bad → Blk W b4 3 #[.int .i64 lo] → Blk W b5 3 #[.int .i64 hi] → Below w.heap.size w W →
      Calls Tryz.prog 74 #[.pointer (some ⟨g, 0, none⟩), .func (.func 75) #[] #[.pointer (some ⟨b4, 0, none⟩), .pointer (some ⟨b5, 0, none⟩), .pointer (some ⟨bx, 0, none⟩)]] W (FieldNo g s i W)) :
    Calls Tryz.prog 49 #[.pointer (some ⟨g, 0, none⟩), .int .i64 lo, .int .i64 hi] w (RdPost g s (.int .i64 0) i true w) := by
  have hmf : ∀ (fn : Fn) (first cap : Array Value) (w : World), (Instr.makeFunc fn first cap).run Tryz.prog w = .ok (.func fn first cap) w := fun _ _ _ _ => rfl
  have a0 := blk_new w 3 #[.int .i64 lo] rfl
  have a1 := blk_new (w.alloc (.cells #[.int .i64 lo] 3)) 3 #[.int .i64 hi] (g := w.heap.size + 1) (by simp)
  have l3 := (((Below.refl w.heap.size w).alloc (Nat.le_refl _) (.cells #[.int .i64 lo] 3)).alloc (by simp) (.cells #[.int .i64 hi] 3)).alloc (by simp; omega) (.cells #[.int .i64 0] 3)
  have HF := Lib.hid (hf _ w.heap.size (w.heap.size + 1) (w.heap.size + 1 + 1) (((h.alloc _).alloc _).alloc _) ((a0.alloc _).alloc _) (a1.alloc _) l3)
  have L3 := Lib.hid l3
  clear h hf a0 a1 l3
  go_enter Tryz.func49, Tryz.ntmps49
  go_wp2_with fail
  refine HF.out.mono ?_
  rintro e w1 ⟨b, rfl, hb, k1, o1⟩
  have O1 := Lib.hid ((Only.of_below (fun x => x = g) L3.out).trans o1)
  have K1 := Lib.hid k1
  have HB := Lib.hid (is_stop b w1 hb)
  clear hb k1 o1
  go_wp2_with fail
  refine HB.out.mono ?_
  rintro e w2 ⟨rfl, rfl⟩
  go_wp2_with fail
  go_ret
  exact ⟨rfl, K1.out, O1.out⟩

set_option maxHeartbeats 400000 in
theorem RNum_any (g : Nat) (s : ByteArray) (i : Nat) (bad : Bool) (lo hi : Int) (w : World) (h : RdB w g s i bad) (hg : HasET w) (hs : s.size ≤ 1000000) (hat : i ≤ s.size) :
    Calls Tryz.prog 49 #[.pointer (some ⟨g, 0, none⟩), .int .i64 lo, .int .i64 hi] w (RdPost g s (.int .i64 (rdNum (lb s) i bad lo hi).1) (rdNum (lb s) i bad lo hi).2.1 (rdNum (lb s) i bad lo hi).2.2 w) := by
  cases bad
  · rcases rdNum_cases (lb s) i lo hi with ⟨n, k, hd, hr, he⟩ | ⟨hno, he⟩
    · rw [he]
      have hmf : ∀ (fn : Fn) (first cap : Array Value) (w : World), (Instr.makeFunc fn first cap).run Tryz.prog w = .ok (.func fn first cap) w := fun _ _ _ _ => rfl
      have a0 := blk_new w 3 #[.int .i64 lo] rfl
      have a1 := blk_new (w.alloc (.cells #[.int .i64 lo] 3)) 3 #[.int .i64 hi] (g := w.heap.size + 1) (by simp)
      have a2 := blk_new ((w.alloc (.cells #[.int .i64 lo] 3)).alloc (.cells #[.int .i64 hi] 3)) 3 #[.int .i64 0] (g := w.heap.size + 1 + 1) (by simp)
      have l3 := (((Below.refl w.heap.size w).alloc (Nat.le_refl _) (.cells #[.int .i64 lo] 3)).alloc (by simp) (.cells #[.int .i64 hi] 3)).alloc (by simp; omega) (.cells #[.int .i64 0] 3)
      have hl := h.lt
      have HF := Lib.hid (field_ok g s i 75 #[.pointer (some ⟨w.heap.size, 0, none⟩), .pointer (some ⟨w.heap.size + 1, 0, none⟩), .pointer (some ⟨w.heap.size + 1 + 1, 0, none⟩)] (fun x => x = g ∨ x = w.heap.size + 1 + 1) (OneOk g (w.heap.size + 1 + 1) 3 s (i + k) (.int .i64 n)) _ (((h.alloc _).alloc _).alloc _) cf_num1 (fun W w' hq => hq.2.2) (fun x hx => by simp; omega)
        (fun W hW bW => num1_ok g _ _ _ s i lo hi n k _ W hW (((a0.alloc _).alloc _).below bW ((a0.alloc _).alloc _).lt) ((a1.alloc _).below bW (a1.alloc _).lt) (a2.below bW a2.lt) ((hg.up (l3.mono (Nat.le_refl _))).up bW) hs hat hd hr))
      have L3 := Lib.hid l3
      clear h hg a0 a1 a2 l3 hd he hr
      go_enter Tryz.func49, Tryz.ntmps49
      go_wp2_with fail
      refine HF.out.mono ?_
      rintro e w1 ⟨rfl, W, W1, bW, ⟨k1, k2, o1⟩, b1⟩
      simp only [World.size_alloc] at bW b1
      have k3 := k2.below b1 (by omega)
      have k4 := k1.below b1 (by omega)
      have z1 := k3.cell 0
      have O1 := Lib.hid (((((Only.of_below (fun x => x = g) L3.out).then_below (by simpa using bW)).step o1 (fun x hx hs => by omega))).then_b b1 (by omega))
      have K4 := Lib.hid k4
      clear k1 k2 k3 k4 o1 b1 bW
      go_wp2_with fail
      refine (is_nil 70 _).mono ?_
      rintro e w2 ⟨rfl, rfl⟩
      go_wp2_with fail
      go_ret
      exact ⟨rfl, K4.out, O1.out⟩
    · rw [he]
      exact num_end g s i lo hi false w h (fun W b4 b5 bx hW h4 h5 bW => field_no g s i _ _ W hW cf_num1 (fun W' hW' bW' => (num1_no g b4 b5 bx s i lo hi W' hW' (h4.below bW' h4.lt) (h5.below bW' h5.lt) ((hg.up bW).up bW') hs hat hno).mono fun e w' hp => ⟨W', Only.refl _ _, ⟨i, hW'⟩, hp⟩))
  · rw [rdNum_bad]
    exact num_end g s i lo hi true w h (fun W b4 b5 bx hW _ _ _ => field_bad g s i _ _ W hW)
end Go.Proofs.YtckdecodpjfcnaaGreatDoor
namespace Go.Proofs.YtckdecodpjfcnaaGreatDoor
open Go.RowKit

theorem cut_all {P : Program} {t : TypeId} (ht : P.underlying t = some (.slice (P.elem t))) (hs : ∀ W, (Go.sizeOf (P.elem t)).run P W = .ok 1 W) (A : Option Addr) (n c : Nat) (hc : n ≤ c) (W : World) :
    (Instr.slice t (.slice A n c) (some (.int .i64 0)) (some (.int .i64 (n : Int))) (some (.int .i64 (n : Int)))).run P W = .ok (.slice A n n) W := by
  rw [run_slice_lhm W t A n c ht .i64 .i64 .i64 _ _ _ (by omega) (by omega) (by omega) (by omega), hs]
  simp only [Result.andThen_ok, sliced, Int.toNat_natCast]
  cases A <;> simp [Addr.add]

theorem winL_full {s : ByteArray} {i n : Nat} (h : n ≤ ((lb s).drop i).length) : (winL s i n).length = n := by unfold winL; rw [List.length_take]; omega
theorem winL_less {s : ByteArray} {i n : Nat} (h : ((lb s).drop i).length < n) : (winL s i n).length < n := by unfold winL; rw [List.length_take]; omega
theorem at_le {s : ByteArray} {i n k : Nat} (hat : i ≤ s.size) (hd : dec ((lb s).drop i) = some (n, k)) : i + k ≤ s.size := by
  have := (dec_le hd).1
  rw [List.length_drop, length_lb] at this
  omega

set_option maxRecDepth 100000 in
set_option maxHeartbeats 1000000 in
theorem txt1_ok (g b3 bx : Nat) (s : ByteArray) (i : Nat) (most : Int) (n k : Nat) (v0 : Value) (w : World) (h : RdB w g s i false) (h3 : Blk w b3 3 #[.int .i64 most]) (hx : Blk w bx 9 #[v0])
    (hg : HasET w) (hs : s.size ≤ 1000000) (hat : i ≤ s.size) (hd : dec ((lb s).drop i) = some (n, k)) (hn : (n : Int) ≤ most) (hle : n ≤ ((lb s).drop (i + k)).length) :
    Calls Tryz.prog 116 #[.pointer (some ⟨g, 0, none⟩), .pointer (some ⟨b3, 0, none⟩), .pointer (some ⟨bx, 0, none⟩)] w fun e w' => e = .returned (.tuple #[]) ∧ OneOk g bx 9 s (i + k + n) (.string (bs (((lb s).drop (i + k)).take n))) w w' := by
  have HN := Lib.hid (number_ok g s i false 0 most n k w h hg hs hat hd ⟨by omega, hn⟩)
  have hwl := winL_full hle
  have hat2 := at_le hat hd
  have hnm := (dec_le hd).2.1
  unfold maxNum at hnm
  have hlen : n ≤ 1000000 := by rw [List.length_drop, length_lb] at hle; omega
  have HW := Lib.hid (fun W hW => window_any g s (i + k) n false W hW hs hat2 hnm)
  rw [hwl] at HW
  change Calls _ _ _ _ fun e w' => _ ∧ OneOk _ _ _ _ _ (.string (bs (winL s (i + k) n))) _ _
  generalize winL s (i + k) n = L at *
  have x3 := h3.cell 0
  have hne : ¬ bx = g := fun e => (h.ne_ hx (by decide)) e.symm
  have hne' : ¬ g = bx := fun e => hne e.symm
  have HX := Lib.hid hx
  have e1 : decide (n < n) = false := by simp
  have hca := fun A c hc => cut_all (P := Tryz.prog) (t := 46) Tryz.underlying46 (fun _ => by kernel_rfl) A n c hc
  have HCA := Lib.hid hca
  have v1 : IntKind.i64.wrap ((i : Int) + (k : Int) + (n : Int)) = (i : Int) + (k : Int) + (n : Int) := IntWalk.i64_in _ (by omega)
  have HWL := Lib.hid hwl
  clear h h3 hx hd hg hwl hca hle
  go_enter Tryz.func116, Tryz.ntmps116
  go_wp2_with fail
  refine HN.out.mono ?_
  rintro e w1 ⟨rfl, k1, o1⟩
  have HW1 := Lib.hid (HW.out w1 k1)
  have kx := o1.blk HX.out hne
  have K1 := Lib.hid k1
  have O1 := Lib.hid o1
  have KX := Lib.hid kx
  clear k1 o1 kx
  go_wp2_with fail
  refine HW1.out.mono ?_
  rintro e w2 ⟨A, c, rfl, r2, hc, b2⟩
  have hsl := HCA.out A c hc
  have hst := fun cap => run_string_of (P := Tryz.prog) (src := 46) (dst := 9) (c := cap) Tryz.underlying46 Tryz.underlying5 Tryz.underlying9 r2
  have kx2 := KX.out.below b2 KX.out.lt
  have k2 := K1.out.below b2 K1.out.lt
  have z1 := kx2.cell 0
  have z2 := kx2.frozen 0
  have y1 := k2.cell 1
  have y2 := k2.frozen 1
  have KX2 := Lib.hid kx2
  have K2 := Lib.hid k2
  have O2 := Lib.hid (O1.out.then_below b2)
  clear r2 hc b2 kx2 k2
  simp only [Int.natCast_add] at y1
  go_wp2_with fail
  go_end0
  have K3 := (K2.out.far (p := ⟨bx, 0, none⟩) hne' (.string (bs L))).set_ 1 (.int .i64 ((i : Int) + (k : Int) + (n : Int)))
  refine ⟨rfl, ?_, (KX2.out.set_ 0 _).far hne _, ((O2.out.mono (fun x _ hx => .inl hx)).set (.inl (.inr rfl)) _).set (.inl (.inl rfl)) _⟩
  rw [show ((i : Int) + (k : Int) + (n : Int)) = ((i + k + n : Nat) : Int) by omega] at K3 ⊢
  exact K3

/-- A closure that does not read: nothing but the reader has turned, then a stop. -/
def StopPost (g : Nat) (s : ByteArray) (w : World) (e : Ending) (w' : World) : Prop := ∃ W', Only (fun x => x = g) w W' ∧ (∃ j, RdB W' g s j false) ∧ PanPost W' e w'

set_option maxRecDepth 100000 in
set_option maxHeartbeats 1000000 in
theorem txt1_no (g b3 bx : Nat) (s : ByteArray) (i : Nat) (most : Int) (w : World) (h : RdB w g s i false) (h3 : Blk w b3 3 #[.int .i64 most])
    (hg : HasET w) (hs : s.size ≤ 1000000) (hat : i ≤ s.size) (hno : dec ((lb s).drop i) = none ∨ ∃ n k, dec ((lb s).drop i) = some (n, k) ∧ ¬ ((0 : Int) ≤ (n : Int) ∧ (n : Int) ≤ most)) :
    Calls Tryz.prog 116 #[.pointer (some ⟨g, 0, none⟩), .pointer (some ⟨b3, 0, none⟩), .pointer (some ⟨bx, 0, none⟩)] w (StopPost g s w) := by
  have HN := Lib.hid (number_no g s i false 0 most w h hg hs hat hno)
  have H := Lib.hid h
  have x3 := h3.cell 0
  clear h h3 hno hg
  go_enter Tryz.func116, Tryz.ntmps116
  go_wp2_with fail
  refine HN.out.mono ?_
  rintro e w1 ⟨b, rfl, h1, h2, h3⟩
  exact ⟨rfl, w, Only.refl _ _, ⟨i, H.out⟩, b, rfl, h1, h2, h3⟩

set_option maxRecDepth 100000 in
set_option maxHeartbeats 1000000 in
theorem txt1_short (g b3 bx : Nat) (s : ByteArray) (i : Nat) (most : Int) (n k : Nat) (w : World) (h : RdB w g s i false) (h3 : Blk w b3 3 #[.int .i64 most])
    (hg : HasET w) (hs : s.size ≤ 1000000) (hat : i ≤ s.size) (hd : dec ((lb s).drop i) = some (n, k)) (hn : (n : Int) ≤ most) (hle : ((lb s).drop (i + k)).length < n) :
    Calls Tryz.prog 116 #[.pointer (some ⟨g, 0, none⟩), .pointer (some ⟨b3, 0, none⟩), .pointer (some ⟨bx, 0, none⟩)] w (StopPost g s w) := by
  have HN := Lib.hid (number_ok g s i false 0 most n k w h hg hs hat hd ⟨by omega, hn⟩)
  have hwl := winL_less hle
  have hat2 := at_le hat hd
  have hnm := (dec_le hd).2.1
  unfold maxNum at hnm
  have HW := Lib.hid (fun W hW => window_any g s (i + k) n false W hW hs hat2 hnm)
  generalize winL s (i + k) n = L at *
  have x3 := h3.cell 0
  have e1 : decide (L.length < n) = true := by simpa using hwl
  clear h h3 hd hg hwl hle
  go_enter Tryz.func116, Tryz.ntmps116
  go_wp2_with fail
  refine HN.out.mono ?_
  rintro e w1 ⟨rfl, k1, o1⟩
  have HW1 := Lib.hid (HW.out w1 k1)
  have K1 := Lib.hid k1
  have O1 := Lib.hid o1
  clear k1 o1
  go_wp2_with fail
  refine HW1.out.mono ?_
  rintro e w2 ⟨A, c, rfl, r2, hc, b2⟩
  have B2 := Lib.hid b2
  clear r2 hc b2
  go_wp2_with fail
  exact ⟨rfl, w1, O1.out, ⟨_, K1.out⟩, w2.heap.size, rfl, B2.out.size, by simp, bal B2.out _⟩

theorem cf_txt1 (args : Array Value) (W : World) : (callFunc 116 args).run Tryz.prog W = .ok (.enter 116 args) W := by kernel_rfl

theorem rdTxt_bad (l : List UInt8) (i : Nat) (most : Int) : rdTxt l i true most = ([], i, true) := by unfold rdTxt; rw [if_pos rfl]
theorem rdTxt_cases (l : List UInt8) (i : Nat) (most : Int) :
    (∃ n k : Nat, dec (l.drop i) = some (n, k) ∧ (n : Int) ≤ most ∧ n ≤ (l.drop (i + k)).length ∧ rdTxt l i false most = ((l.drop (i + k)).take n, i + k + n, false)) ∨
    (∃ n k : Nat, dec (l.drop i) = some (n, k) ∧ (n : Int) ≤ most ∧ (l.drop (i + k)).length < n ∧ rdTxt l i false most = ([], i, true)) ∨
    ((dec (l.drop i) = none ∨ ∃ n k, dec (l.drop i) = some (n, k) ∧ ¬ ((0 : Int) ≤ (n : Int) ∧ (n : Int) ≤ most)) ∧ rdTxt l i false most = ([], i, true)) := by
  unfold rdTxt
  simp only [Bool.false_eq_true, if_false]
  cases hd : dec (l.drop i) with
  | none => exact .inr (.inr ⟨.inl rfl, rfl⟩)
  | some z =>
    obtain ⟨n, k⟩ := z
    simp only
    by_cases hr : (n : Int) ≤ most
    · by_cases hl : n ≤ (l.drop (i + k)).length
      · exact .inl ⟨n, k, rfl, hr, hl, by rw [if_pos ⟨hr, hl⟩]⟩
      · exact .inr (.inl ⟨n, k, rfl, hr, by omega, by rw [if_neg (fun h => hl h.2)]⟩)
    · exact .inr (.inr ⟨.inr ⟨n, k, rfl, fun h => hr h.2⟩, by rw [if_neg (fun h => hr h.1)]⟩)

theorem txt_end (g : Nat) (s : ByteArray) (i : Nat) (most : Int) (bad : Bool) (w : World) (h : RdB w g s i bad)
    (hf : ∀ W b3 bx, RdB W g s i bad → Blk W b3 3 #[.int .i64 most] → Below w.heap.size w W →
      Calls Tryz.prog 74 #[.pointer (some ⟨g, 0, none⟩), .func (.func 116) #[] #[.pointer (some ⟨b3, 0, none⟩), .pointer (some ⟨bx, 0, none⟩)]] W (FieldNo g s i W)) :
    Calls Tryz.prog 102 #[.pointer (some ⟨g, 0, none⟩), .int .i64 most] w (RdPost g s (.string (bs [])) i true w) := by
  have hmf : ∀ (fn : Fn) (first cap : Array Value) (w : World), (Instr.makeFunc fn first cap).run Tryz.prog w = .ok (.func fn first cap) w := fun _ _ _ _ => rfl
  have a0 := blk_new w 3 #[.int .i64 most] rfl
  have l3 := ((Below.refl w.heap.size w).alloc (Nat.le_refl _) (.cells #[.int .i64 most] 3)).alloc (by simp) (.cells #[.string ByteArray.empty] 9)
  have HF := Lib.hid (hf _ w.heap.size (w.heap.size + 1) ((h.alloc _).alloc _) (a0.alloc _) l3)
  have L3 := Lib.hid l3
  clear h hf a0 l3
  go_enter Tryz.func102, Tryz.ntmps102
  go_wp2_with fail
  refine HF.out.mono ?_
  rintro e w1 ⟨b, rfl, hb, k1, o1⟩
  have O1 := Lib.hid ((Only.of_below (fun x => x = g) L3.out).trans o1)
  have K1 := Lib.hid k1
  have HB := Lib.hid (is_stop b w1 hb)
  clear hb k1 o1
  go_wp2_with fail
  refine HB.out.mono ?_
  rintro e w2 ⟨rfl, rfl⟩
  go_wp2_with fail
  go_ret
  exact ⟨rfl, K1.out, O1.out⟩

set_option maxHeartbeats 400000 in
theorem RTxt_any (g : Nat) (s : ByteArray) (i : Nat) (bad : Bool) (most : Int) (w : World) (h : RdB w g s i bad) (hg : HasET w) (hs : s.size ≤ 1000000) (hat : i ≤ s.size) :
    Calls Tryz.prog 102 #[.pointer (some ⟨g, 0, none⟩), .int .i64 most] w (RdPost g s (.string (bs (rdTxt (lb s) i bad most).1)) (rdTxt (lb s) i bad most).2.1 (rdTxt (lb s) i bad most).2.2 w) := by
  cases bad
  · rcases rdTxt_cases (lb s) i most with ⟨n, k, hd, hn, hle, he⟩ | ⟨n, k, hd, hn, hle, he⟩ | ⟨hno, he⟩
    · rw [he]
      have hmf : ∀ (fn : Fn) (first cap : Array Value) (w : World), (Instr.makeFunc fn first cap).run Tryz.prog w = .ok (.func fn first cap) w := fun _ _ _ _ => rfl
      have a0 := blk_new w 3 #[.int .i64 most] rfl
      have a1 := blk_new (w.alloc (.cells #[.int .i64 most] 3)) 9 #[.string ByteArray.empty] (g := w.heap.size + 1) (by simp)
      have l3 := ((Below.refl w.heap.size w).alloc (Nat.le_refl _) (.cells #[.int .i64 most] 3)).alloc (by simp) (.cells #[.string ByteArray.empty] 9)
      have hl := h.lt
      have HF := Lib.hid (field_ok g s i 116 #[.pointer (some ⟨w.heap.size, 0, none⟩), .pointer (some ⟨w.heap.size + 1, 0, none⟩)] (fun x => x = g ∨ x = w.heap.size + 1) (OneOk g (w.heap.size + 1) 9 s (i + k + n) (.string (bs (((lb s).drop (i + k)).take n)))) _ ((h.alloc _).alloc _) cf_txt1 (fun W w' hq => hq.2.2) (fun x hx => by simp; omega)
        (fun W hW bW => txt1_ok g _ _ s i most n k _ W hW ((a0.alloc _).below bW (a0.alloc _).lt) (a1.below bW a1.lt) ((hg.up l3).up bW) hs hat hd hn hle))
      have L3 := Lib.hid l3
      generalize ((lb s).drop (i + k)).take n = L at *
      clear h hg a0 a1 l3 hd he hn hle
      go_enter Tryz.func102, Tryz.ntmps102
      go_wp2_with fail
      refine HF.out.mono ?_
      rintro e w1 ⟨rfl, W, W1, bW, ⟨k1, k2, o1⟩, b1⟩
      simp only [World.size_alloc] at bW b1
      have k3 := k2.below b1 (by omega)
      have k4 := k1.below b1 (by omega)
      have z1 := k3.cell 0
      have O1 := Lib.hid (((((Only.of_below (fun x => x = g) L3.out).then_below (by simpa using bW)).step o1 (fun x hx hs => by omega))).then_b b1 (by omega))
      have K4 := Lib.hid k4
      clear k1 k2 k3 k4 o1 b1 bW
      go_wp2_with fail
      refine (is_nil 70 _).mono ?_
      rintro e w2 ⟨rfl, rfl⟩
      go_wp2_with fail
      go_ret
      exact ⟨rfl, K4.out, O1.out⟩
    · rw [he]
      exact txt_end g s i most false w h (fun W b3 bx hW h3 bW => field_no g s i _ _ W hW cf_txt1 (fun W' hW' bW' => txt1_short g b3 bx s i most n k W' hW' (h3.below bW' h3.lt) ((hg.up bW).up bW') hs hat hd hn hle))
    · rw [he]
      exact txt_end g s i most false w h (fun W b3 bx hW h3 bW => field_no g s i _ _ W hW cf_txt1 (fun W' hW' bW' => txt1_no g b3 bx s i most W' hW' (h3.below bW' h3.lt) ((hg.up bW).up bW') hs hat hno))
  · rw [rdTxt_bad]
    exact txt_end g s i most true w h (fun W b3 bx hW _ _ => field_bad g s i _ _ W hW)
end Go.Proofs.YtckdecodpjfcnaaGreatDoor
