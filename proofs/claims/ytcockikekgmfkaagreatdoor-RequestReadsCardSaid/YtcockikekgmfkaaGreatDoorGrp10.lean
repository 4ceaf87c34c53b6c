/-
  Layer 2, reading: the reader's Flag; New, End, Wrong; readers that are nil.
  Layer 2, reading: the reader's Text.
-/
import Derived.Test.YtcockikekgmfkaaGreatDoorGrp09
namespace Go.Proofs.YtcockikekgmfkaaGreatDoor
open Go.RowKit

theorem cut_all {P : Program} {t : TypeId} (ht : P.underlying t = some (.slice (P.elem t))) (hs : ∀ W, (Go.sizeOf (P.elem t)).run P W = .ok 1 W) (A : Option Addr) (n c : Nat) (hc : n ≤ c) (W : World) :
    (Instr.slice t (.slice A n c) (some (.int .i64 0)) (some (.int .i64 (n : Int))) (some (.int .i64 (n : Int)))).run P W = .ok (.slice A n n) W := by
  rw [run_slice_lhm W t A n c ht .i64 .i64 .i64 _ _ _ (by omega) (by omega) (by omega) (by omega), hs]
  simp only [Result.andThen_ok, sliced, Int.toNat_natCast]
  cases A <;> simp [Addr.add]

theorem winL_full {s : ByteArray} {i n : Nat} (h : n ≤ ((lb s).drop i).length) : (winL s i n).length = n := by unfold winL; rw [List.length_take]; omega
theorem winL_less {s : ByteArray} {i n : Nat} (h : ((lb s).drop i).length < n) : (winL s i n).length < n := by unfold winL; rw [List.length_take]; omega
theorem at_le {s : ByteArray} {i n k : Nat} (hat : i ≤ s.size) (hd : dec ((lb s).drop i) = some (n, k)) : i + k ≤ s.size := by
  have := (dec_le hd).1
  rw [List.length_drop, length_lb] at this
  omega

set_option maxRecDepth 100000 in
set_option maxHeartbeats 1000000 in
theorem txt1_ok (g b3 bx : Nat) (s : ByteArray) (i : Nat) (most : Int) (n k : Nat) (v0 : Value) (w : World) (h : RdB w g s i false) (h3 : Blk w b3 3 #[.int .i64 most]) (hx : Blk w bx 9 #[v0])
    (hg : HasET w) (hs : s.size ≤ 1000000) (hat : i ≤ s.size) (hd : dec ((lb s).drop i) = some (n, k)) (hn : (n : Int) ≤ most) (hle : n ≤ ((lb s).drop (i + k)).length) :
    Calls Tryz.prog 83 #[.pointer (some ⟨g, 0, none⟩), .pointer (some ⟨b3, 0, none⟩), .pointer (some ⟨bx, 0, none⟩)] w fun e w' => e = .returned (.tuple #[]) ∧ OneOk g bx 9 s (i + k + n) (.string (bs (((lb s).drop (i + k)).take n))) w w' := by
  have HN := Lib.hid (number_ok g s i false 0 most n k w h hg hs hat hd ⟨by omega, hn⟩)
  have hwl := winL_full hle
  have hat2 := at_le hat hd
  have hnm := (dec_le hd).2.1
  unfold maxNum at hnm
  have hlen : n ≤ 1000000 := by rw [List.length_drop, length_lb] at hle; omega
  have HW := Lib.hid (fun W hW => window_any g s (i + k) n false W hW hs hat2 hnm)
  rw [hwl] at HW
  change Calls _ _ _ _ fun e w' => _ ∧ OneOk _ _ _ _ _ (.string (bs (winL s (i + k) n))) _ _
  generalize winL s (i + k) n = L at *
  have x3 := h3.cell 0
  have hne : ¬ bx = g := fun e => (h.ne_ hx (by decide)) e.symm
  have hne' : ¬ g = bx := fun e => hne e.symm
  have HX := Lib.hid hx
  have e1 : decide (n < n) = false := by simp
  have hca := fun A c hc => cut_all (P := Tryz.prog) (t := 30) Tryz.underlying30 (fun _ => by kernel_rfl) A n c hc
  have HCA := Lib.hid hca
  have v1 : IntKind.i64.wrap ((i : Int) + (k : Int) + (n : Int)) = (i : Int) + (k : Int) + (n : Int) := IntWalk.i64_in _ (by omega)
  have HWL := Lib.hid hwl
  clear h h3 hx hd hg hwl hca hle
  go_enter Tryz.func83, Tryz.ntmps83
  go_wp2_with fail
  refine HN.out.mono ?_
  rintro e w1 ⟨rfl, k1, o1⟩
  have HW1 := Lib.hid (HW.out w1 k1)
  have kx := o1.blk HX.out hne
  have K1 := Lib.hid k1
  have O1 := Lib.hid o1
  have KX := Lib.hid kx
  clear k1 o1 kx
  go_wp2_with fail
  refine HW1.out.mono ?_
  rintro e w2 ⟨A, c, rfl, r2, hc, b2⟩
  have hsl := HCA.out A c hc
  have hst := fun cap => run_string_of (P := Tryz.prog) (src := 30) (dst := 9) (c := cap) Tryz.underlying30 Tryz.underlying5 Tryz.underlying9 r2
  have kx2 := KX.out.below b2 KX.out.lt
  have k2 := K1.out.below b2 K1.out.lt
  have z1 := kx2.cell 0
  have z2 := kx2.frozen 0
  have y1 := k2.cell 1
  have y2 := k2.frozen 1
  have KX2 := Lib.hid kx2
  have K2 := Lib.hid k2
  have O2 := Lib.hid (O1.out.then_below b2)
  clear r2 hc b2 kx2 k2
  simp only [Int.natCast_add] at y1
  go_wp2_with fail
  go_end0
  have K3 := (K2.out.far (p := ⟨bx, 0, none⟩) hne' (.string (bs L))).set_ 1 (.int .i64 ((i : Int) + (k : Int) + (n : Int)))
  refine ⟨rfl, ?_, (KX2.out.set_ 0 _).far hne _, ((O2.out.mono (fun x _ hx => .inl hx)).set (.inl (.inr rfl)) _).set (.inl (.inl rfl)) _⟩
  rw [show ((i : Int) + (k : Int) + (n : Int)) = ((i + k + n : Nat) : Int) by omega] at K3 ⊢
  exact K3

/-- A closure that does not read: nothing but the reader has turned, then a stop. -/
def StopPost (g : Nat) (s : ByteArray) (w : World) (e : Ending) (w' : World) : Prop := ∃ W', Only (fun x => x = g) w W' ∧ (∃ j, RdB W' g s j false) ∧ PanPost W' e w'

set_option maxRecDepth 100000 in
set_option maxHeartbeats 1000000 in
theorem txt1_no (g b3 bx : Nat) (s : ByteArray) (i : Nat) (most : Int) (w : World) (h : RdB w g s i false) (h3 : Blk w b3 3 #[.int .i64 most])
    (hg : HasET w) (hs : s.size ≤ 1000000) (hat : i ≤ s.size) (hno : dec ((lb s).drop i) = none ∨ ∃ n k, dec ((lb s).drop i) = some (n, k) ∧ ¬ ((0 : Int) ≤ (n : Int) ∧ (n : Int) ≤ most)) :
    Calls Tryz.prog 83 #[.pointer (some ⟨g, 0, none⟩), .pointer (some ⟨b3, 0, none⟩), .pointer (some ⟨bx, 0, none⟩)] w (StopPost g s w) := by
  have HN := Lib.hid (number_no g s i false 0 most w h hg hs hat hno)
  have H := Lib.hid h
  have x3 := h3.cell 0
  clear h h3 hno hg
  go_enter Tryz.func83, Tryz.ntmps83
  go_wp2_with fail
  refine HN.out.mono ?_
  rintro e w1 ⟨b, rfl, h1, h2, h3⟩
  exact ⟨rfl, w, Only.refl _ _, ⟨i, H.out⟩, b, rfl, h1, h2, h3⟩

set_option maxRecDepth 100000 in
set_option maxHeartbeats 1000000 in
theorem txt1_short (g b3 bx : Nat) (s : ByteArray) (i : Nat) (most : Int) (n k : Nat) (w : World) (h : RdB w g s i false) (h3 : Blk w b3 3 #[.int .i64 most])
    (hg : HasET w) (hs : s.size ≤ 1000000) (hat : i ≤ s.size) (hd : dec ((lb s).drop i) = some (n, k)) (hn : (n : Int) ≤ most) (hle : ((lb s).drop (i + k)).length < n) :
    Calls Tryz.prog 83 #[.pointer (some ⟨g, 0, none⟩), .pointer (some ⟨b3, 0, none⟩), .pointer (some ⟨bx, 0, none⟩)] w (StopPost g s w) := by
  have HN := Lib.hid (number_ok g s i false 0 most n k w h hg hs hat hd ⟨by omega, hn⟩)
  have hwl := winL_less hle
  have hat2 := at_le hat hd
  have hnm := (dec_le hd).2.1
  unfold maxNum at hnm
  have HW := Lib.hid (fun W hW => window_any g s (i + k) n false W hW hs hat2 hnm)
  generalize winL s (i + k) n = L at *
  have x3 := h3.cell 0
  have e1 : decide (L.length < n) = true := by simpa using hwl
  clear h h3 hd hg hwl hle
  go_enter Tryz.func83, Tryz.ntmps83
  go_wp2_with fail
  refine HN.out.mono ?_
  rintro e w1 ⟨rfl, k1, o1⟩
  have HW1 := Lib.hid (HW.out w1 k1)
  have K1 := Lib.hid k1
  have O1 := Lib.hid o1
  clear k1 o1
  go_wp2_with fail
  refine HW1.out.mono ?_
  rintro e w2 ⟨A, c, rfl, r2, hc, b2⟩
  have B2 := Lib.hid b2
  clear r2 hc b2
  go_wp2_with fail
  exact ⟨rfl, w1, O1.out, ⟨_, K1.out⟩, w2.heap.size, rfl, B2.out.size, by simp, bal B2.out _⟩

theorem cf_txt1 (args : Array Value) (W : World) : (callFunc 83 args).run Tryz.prog W = .ok (.enter 83 args) W := by kernel_rfl

theorem rdTxt_bad (l : List UInt8) (i : Nat) (most : Int) : rdTxt l i true most = ([], i, true) := by unfold rdTxt; rw [if_pos rfl]
theorem rdTxt_cases (l : List UInt8) (i : Nat) (most : Int) :
    (∃ n k : Nat, dec (l.drop i) = some (n, k) ∧ (n : Int) ≤ most ∧ n ≤ (l.drop (i + k)).length ∧ rdTxt l i false most = ((l.drop (i + k)).take n, i + k + n, false)) ∨
    (∃ n k : Nat, dec (l.drop i) = some (n, k) ∧ (n : Int) ≤ most ∧ (l.drop (i + k)).length < n ∧ rdTxt l i false most = ([], i, true)) ∨
    ((dec (l.drop i) = none ∨ ∃ n k, dec (l.drop i) = some (n, k) ∧ ¬ ((0 : Int) ≤ (n : Int) ∧ (n : Int) ≤ most)) ∧ rdTxt l i false most = ([], i, true)) := by
  unfold rdTxt
  simp only [Bool.false_eq_true, if_false]
  cases hd : dec (l.drop i) with
  | none => exact .inr (.inr ⟨.inl rfl, rfl⟩)
  | some z =>
    obtain ⟨n, k⟩ := z
    simp only
    by_cases hr : (n : Int) ≤ most
    · by_cases hl : n ≤ (l.drop (i + k)).length
      · exact .inl ⟨n, k, rfl, hr, hl, by rw [if_pos ⟨hr, hl⟩]⟩
      · exact .inr (.inl ⟨n, k, rfl, hr, by omega, by rw [if_neg (fun h => hl h.2)]⟩)
    · exact .inr (.inr ⟨.inr ⟨n, k, rfl, fun h => hr h.2⟩, by rw [if_neg (fun h => hr h.1)]⟩)

theorem txt_end (g : Nat) (s : ByteArray) (i : Nat) (most : Int) (bad : Bool) (w : World) (h : RdB w g s i bad)
    (hf : ∀ W b3 bx, RdB W g s i bad → Blk W b3 3 #[.int .i64 most] → Below w.heap.size w W →
      Calls Tryz.prog 41 #[.pointer (some ⟨g, 0, none⟩), .func (.func 83) #[] #[.pointer (some ⟨b3, 0, none⟩), .pointer (some ⟨bx, 0, none⟩)]] W (FieldNo g s i W)) :
    Calls Tryz.prog 76 #[.pointer (some ⟨g, 0, none⟩), .int .i64 most] w (RdPost g s (.string (bs [])) i true w) := by
  have hmf : ∀ (fn : Fn) (first cap : Array Value) (w : World), (Instr.makeFunc fn first cap).run Tryz.prog w = .ok (.func fn first cap) w := fun _ _ _ _ => rfl
  have a0 := blk_new w 3 #[.int .i64 most] rfl
  have l3 := ((Below.refl w.heap.size w).alloc (Nat.le_refl _) (.cells #[.int .i64 most] 3)).alloc (by simp) (.cells #[.string ByteArray.empty] 9)
  have HF := Lib.hid (hf _ w.heap.size (w.heap.size + 1) ((h.alloc _).alloc _) (a0.alloc _) l3)
  have L3 := Lib.hid l3
  clear h hf a0 l3
  go_enter Tryz.func76, Tryz.ntmps76
  go_wp2_with fail
  refine HF.out.mono ?_
  rintro e w1 ⟨b, rfl, hb, k1, o1⟩
  have O1 := Lib.hid ((Only.of_below (fun x => x = g) L3.out).trans o1)
  have K1 := Lib.hid k1
  have HB := Lib.hid (is_stop b w1 hb)
  clear hb k1 o1
  go_wp2_with fail
  refine HB.out.mono ?_
  rintro e w2 ⟨rfl, rfl⟩
  go_wp2_with fail
  go_ret
  exact ⟨rfl, K1.out, O1.out⟩

set_option maxHeartbeats 400000 in
theorem RTxt_any (g : Nat) (s : ByteArray) (i : Nat) (bad : Bool) (most : Int) (w : World) (h : RdB w g s i bad) (hg : HasET w) (hs : s.size ≤ 1000000) (hat : i ≤ s.size) :
    Calls Tryz.prog 76 #[.pointer (some ⟨g, 0, none⟩), .int .i64 most] w (RdPost g s (.string (bs (rdTxt (lb s) i bad most).1)) (rdTxt (lb s) i bad most).2.1 (rdTxt (lb s) i bad most).2.2 w) := by
  cases bad
  · rcases rdTxt_cases (lb s) i most with ⟨n, k, hd, hn, hle, he⟩ | ⟨n, k, hd, hn, hle, he⟩ | ⟨hno, he⟩
    · rw [he]
      have hmf : ∀ (fn : Fn) (first cap : Array Value) (w : World), (Instr.makeFunc fn first cap).run Tryz.prog w = .ok (.func fn first cap) w := fun _ _ _ _ => rfl
      have a0 := blk_new w 3 #[.int .i64 most] rfl
      have a1 := blk_new (w.alloc (.cells #[.int .i64 most] 3)) 9 #[.string ByteArray.empty] (g := w.heap.size + 1) (by simp)
      have l3 := ((Below.refl w.heap.size w).alloc (Nat.le_refl _) (.cells #[.int .i64 most] 3)).alloc (by simp) (.cells #[.string ByteArray.empty] 9)
      have hl := h.lt
      have HF := Lib.hid (field_ok g s i 83 #[.pointer (some ⟨w.heap.size, 0, none⟩), .pointer (some ⟨w.heap.size + 1, 0, none⟩)] (fun x => x = g ∨ x = w.heap.size + 1) (OneOk g (w.heap.size + 1) 9 s (i + k + n) (.string (bs (((lb s).drop (i + k)).take n)))) _ ((h.alloc _).alloc _) cf_txt1 (fun W w' hq => hq.2.2) (fun x hx => by simp; omega)
        (fun W hW bW => txt1_ok g _ _ s i most n k _ W hW ((a0.alloc _).below bW (a0.alloc _).lt) (a1.below bW a1.lt) ((hg.up l3).up bW) hs hat hd hn hle))
      have L3 := Lib.hid l3
      generalize ((lb s).drop (i + k)).take n = L at *
      clear h hg a0 a1 l3 hd he hn hle
      go_enter Tryz.func76, Tryz.ntmps76
      go_wp2_with fail
      refine HF.out.mono ?_
      rintro e w1 ⟨rfl, W, W1, bW, ⟨k1, k2, o1⟩, b1⟩
      simp only [World.size_alloc] at bW b1
      have k3 := k2.below b1 (by omega)
      have k4 := k1.below b1 (by omega)
      have z1 := k3.cell 0
      have O1 := Lib.hid (((((Only.of_below (fun x => x = g) L3.out).then_below (by simpa using bW)).step o1 (fun x hx hs => by omega))).then_b b1 (by omega))
      have K4 := Lib.hid k4
      clear k1 k2 k3 k4 o1 b1 bW
      go_wp2_with fail
      refine (is_nil 70 _).mono ?_
      rintro e w2 ⟨rfl, rfl⟩
      go_wp2_with fail
      go_ret
      exact ⟨rfl, K4.out, O1.out⟩
    · rw [he]
      exact txt_end g s i most false w h (fun W b3 bx hW h3 bW => field_no g s i _ _ W hW cf_txt1 (fun W' hW' bW' => txt1_short g b3 bx s i most n k W' hW' (h3.below bW' h3.lt) ((hg.up bW).up bW') hs hat hd hn hle))
    · rw [he]
      exact txt_end g s i most false w h (fun W b3 bx hW h3 bW => field_no g s i _ _ W hW cf_txt1 (fun W' hW' bW' => txt1_no g b3 bx s i most W' hW' (h3.below bW' h3.lt) ((hg.up bW).up bW') hs hat hno))
  · rw [rdTxt_bad]
    exact txt_end g s i most true w h (fun W b3 bx hW _ _ => field_bad g s i _ _ W hW)
end Go.Proofs.YtcockikekgmfkaaGreatDoor
namespace Go.Proofs.YtcockikekgmfkaaGreatDoor
open Go.RowKit

theorem winL_one {s : ByteArray} {i : Nat} {c : UInt8} (h : (lb s)[i]? = some c) : winL s i 1 = [c] := by
  unfold winL
  obtain ⟨h1, h2⟩ := List.getElem?_eq_some_iff.1 h
  rw [List.drop_eq_getElem_cons h1, h2]; rfl
theorem winL_none {s : ByteArray} {i : Nat} (h : (lb s)[i]? = none) : winL s i 1 = [] := by
  unfold winL
  rw [List.drop_eq_nil_of_le (List.getElem?_eq_none_iff.1 h)]; rfl

set_option maxRecDepth 100000 in
set_option maxHeartbeats 1000000 in
theorem flag1_ok (g bx : Nat) (s : ByteArray) (i : Nat) (c : UInt8) (v0 : Value) (w : World) (h : RdB w g s i false) (hx : Blk w bx 4 #[v0])
    (hs : s.size ≤ 1000000) (hat : i ≤ s.size) (hc : (lb s)[i]? = some c) (hc1 : c.toNat ≤ 1) :
    Calls Tryz.prog 87 #[.pointer (some ⟨g, 0, none⟩), .pointer (some ⟨bx, 0, none⟩)] w fun e w' => e = .returned (.tuple #[]) ∧ OneOk g bx 4 s (i + 1) (.bool (decide (c.toNat = 1))) w w' := by
  have hw := window_any g s i 1 false w h hs hat (by omega)
  rw [winL_one hc] at hw
  have HW := Lib.hid hw
  have hne : ¬ bx = g := fun e => (h.ne_ hx (by decide)) e.symm
  have hne' : ¬ g = bx := fun e => hne e.symm
  have HX := Lib.hid hx
  have H := Lib.hid h
  obtain ⟨m, hm⟩ : ∃ m : Nat, m = c.toNat := ⟨_, rfl⟩
  have e1 : decide ((1 : Int) < (m : Int)) = false := by simp; omega
  have e2 : ((m : Int) == 1) = decide (m = 1) := by rw [Bool.eq_iff_iff]; simp; omega
  have e3 : cellsB [c] = [.int .u8 (m : Int)] := by rw [hm]; rfl
  rw [← hm]
  have E3 := Lib.hid e3
  have v1 : IntKind.i64.wrap ((i : Int) + 1) = (i : Int) + 1 := IntWalk.i64_in _ (by omega)
  clear h hx hw hc hm hc1 e3
  go_enter Tryz.func87, Tryz.ntmps87
  go_wp2_with fail
  refine HW.out.mono ?_
  rintro e w1 ⟨A, cp, rfl, r1, hcp, b1⟩
  rw [E3.out] at r1
  obtain ⟨b, off, rfl, hb, hcell⟩ := r1.plain (by simp)
  have q1 : w1.cell? ⟨b, off, none⟩ = some (.int .u8 (m : Int)) := hcell 0 _ rfl
  have kx := HX.out.below b1 HX.out.lt
  have k1 := H.out.below b1 H.out.lt
  have z1 := kx.cell 0
  have z2 := kx.frozen 0
  have y1 := k1.cell 1
  have y2 := k1.frozen 1
  have KX := Lib.hid kx
  have K1 := Lib.hid k1
  have B1 := Lib.hid b1
  clear r1 hcell kx k1 b1 hcp
  simp only [List.length_singleton]
  go_wp2_with fail
  go_end0
  have K3 := (K1.out.far (p := ⟨bx, 0, none⟩) hne' (.bool (decide (m = 1)))).set_ 1 (.int .i64 ((i : Int) + 1))
  exact ⟨rfl, K3, (KX.out.set_ 0 _).far hne _, (((Only.of_below (fun x => x = g ∨ x = bx) B1.out).set (.inl (.inr rfl)) _).set (.inl (.inl rfl)) _)⟩

set_option maxRecDepth 100000 in
set_option maxHeartbeats 1000000 in
theorem flag1_no (g bx : Nat) (s : ByteArray) (i : Nat) (w : World) (h : RdB w g s i false)
    (hs : s.size ≤ 1000000) (hat : i ≤ s.size) (hno : (lb s)[i]? = none ∨ ∃ c, (lb s)[i]? = some c ∧ 1 < c.toNat) :
    Calls Tryz.prog 87 #[.pointer (some ⟨g, 0, none⟩), .pointer (some ⟨bx, 0, none⟩)] w (StopPost g s w) := by
  have hw := window_any g s i 1 false w h hs hat (by omega)
  have H := Lib.hid h
  rcases hno with hc | ⟨c, hc, hc1⟩
  · rw [winL_none hc] at hw
    have HW := Lib.hid hw
    clear h hw hc
    go_enter Tryz.func87, Tryz.ntmps87
    go_wp2_with fail
    refine HW.out.mono ?_
    rintro e w1 ⟨A, cp, rfl, r1, hcp, b1⟩
    have B1 := Lib.hid b1
    clear r1 hcp b1
    simp only [List.length_nil]
    go_wp2_with fail
    exact ⟨rfl, w, Only.refl _ _, ⟨i, H.out⟩, w1.heap.size, rfl, B1.out.size, by simp, bal B1.out _⟩
  · rw [winL_one hc] at hw
    have HW := Lib.hid hw
    obtain ⟨m, hm⟩ : ∃ m : Nat, m = c.toNat := ⟨_, rfl⟩
    have e1 : decide ((1 : Int) < (m : Int)) = true := by simp; omega
    have e3 : cellsB [c] = [.int .u8 (m : Int)] := by rw [hm]; rfl
    have E3 := Lib.hid e3
    clear h hw hc hm hc1 e3
    go_enter Tryz.func87, Tryz.ntmps87
    go_wp2_with fail
    refine HW.out.mono ?_
    rintro e w1 ⟨A, cp, rfl, r1, hcp, b1⟩
    rw [E3.out] at r1
    obtain ⟨b, off, rfl, hb, hcell⟩ := r1.plain (by simp)
    have q1 : w1.cell? ⟨b, off, none⟩ = some (.int .u8 (m : Int)) := hcell 0 _ rfl
    have B1 := Lib.hid b1
    clear r1 hcp b1 hcell
    simp only [List.length_singleton]
    go_wp2_with fail
    exact ⟨rfl, w, Only.refl _ _, ⟨i, H.out⟩, w1.heap.size, rfl, B1.out.size, by simp, bal B1.out _⟩

theorem cf_flag1 (args : Array Value) (W : World) : (callFunc 87 args).run Tryz.prog W = .ok (.enter 87 args) W := by kernel_rfl

theorem rdFlag_bad (l : List UInt8) (i : Nat) : rdFlag l i true = (false, i, true) := by unfold rdFlag; rw [if_pos rfl]
theorem rdFlag_cases (l : List UInt8) (i : Nat) :
    (∃ c, l[i]? = some c ∧ c.toNat ≤ 1 ∧ rdFlag l i false = (decide (c.toNat = 1), i + 1, false)) ∨
    ((l[i]? = none ∨ ∃ c, l[i]? = some c ∧ 1 < c.toNat) ∧ rdFlag l i false = (false, i, true)) := by
  unfold rdFlag
  simp only [Bool.false_eq_true, if_false]
  cases hd : l[i]? with
  | none => exact .inr ⟨.inl rfl, rfl⟩
  | some c =>
    simp only
    by_cases h0 : c = 0
    · subst h0; exact .inl ⟨0, rfl, by decide, rfl⟩
    · rw [if_neg h0]
      by_cases h1 : c = 1
      · subst h1; exact .inl ⟨1, rfl, by decide, rfl⟩
      · rw [if_neg h1]
        refine .inr ⟨.inr ⟨c, rfl, ?_⟩, rfl⟩
        have a0 : ¬ c.toNat = 0 := fun e => h0 (UInt8.toNat_inj.1 (by rw [e]; rfl))
        have a1 : ¬ c.toNat = 1 := fun e => h1 (UInt8.toNat_inj.1 (by rw [e]; rfl))
        omega

theorem flag_end (g : Nat) (s : ByteArray) (i : Nat) (bad : Bool) (w : World) (h : RdB w g s i bad)
    (hf : ∀ W bx, RdB W g s i bad → Below w.heap.size w W →
      Calls Tryz.prog 41 #[.pointer (some ⟨g, 0, none⟩), .func (.func 87) #[] #[.pointer (some ⟨bx, 0, none⟩)]] W (FieldNo g s i W)) :
    Calls Tryz.prog 79 #[.pointer (some ⟨g, 0, none⟩)] w (RdPost g s (.bool false) i true w) := by
  have hmf : ∀ (fn : Fn) (first cap : Array Value) (w : World), (Instr.makeFunc fn first cap).run Tryz.prog w = .ok (.func fn first cap) w := fun _ _ _ _ => rfl
  have l3 := (Below.refl w.heap.size w).alloc (Nat.le_refl _) (.cells #[.bool false] 4)
  have HF := Lib.hid (hf _ w.heap.size (h.alloc _) l3)
  have L3 := Lib.hid l3
  clear h hf l3
  go_enter Tryz.func79, Tryz.ntmps79
  go_wp2_with fail
  refine HF.out.mono ?_
  rintro e w1 ⟨b, rfl, hb, k1, o1⟩
  have O1 := Lib.hid ((Only.of_below (fun x => x = g) L3.out).trans o1)
  have K1 := Lib.hid k1
  have HB := Lib.hid (is_stop b w1 hb)
  clear hb k1 o1
  go_wp2_with fail
  refine HB.out.mono ?_
  rintro e w2 ⟨rfl, rfl⟩
  go_wp2_with fail
  go_ret
  exact ⟨rfl, K1.out, O1.out⟩

set_option maxHeartbeats 400000 in
theorem RFlag_any (g : Nat) (s : ByteArray) (i : Nat) (bad : Bool) (w : World) (h : RdB w g s i bad) (hs : s.size ≤ 1000000) (hat : i ≤ s.size) :
    Calls Tryz.prog 79 #[.pointer (some ⟨g, 0, none⟩)] w (RdPost g s (.bool (rdFlag (lb s) i bad).1) (rdFlag (lb s) i bad).2.1 (rdFlag (lb s) i bad).2.2 w) := by
  cases bad
  · rcases rdFlag_cases (lb s) i with ⟨c, hc, hc1, he⟩ | ⟨hno, he⟩
    · rw [he]
      have hmf : ∀ (fn : Fn) (first cap : Array Value) (w : World), (Instr.makeFunc fn first cap).run Tryz.prog w = .ok (.func fn first cap) w := fun _ _ _ _ => rfl
      have a1 := blk_new w 4 #[.bool false] rfl
      have l3 := (Below.refl w.heap.size w).alloc (Nat.le_refl _) (.cells #[.bool false] 4)
      have hl := h.lt
      have HF := Lib.hid (field_ok g s i 87 #[.pointer (some ⟨w.heap.size, 0, none⟩)] (fun x => x = g ∨ x = w.heap.size) (OneOk g w.heap.size 4 s (i + 1) (.bool (decide (c.toNat = 1)))) _ (h.alloc _) cf_flag1 (fun W w' hq => hq.2.2) (fun x hx => by simp; omega)
        (fun W hW bW => flag1_ok g _ s i c _ W hW (a1.below bW a1.lt) hs hat hc hc1))
      have L3 := Lib.hid l3
      generalize decide (c.toNat = 1) = y at *
      clear h a1 l3 he hc hc1
      go_enter Tryz.func79, Tryz.ntmps79
      go_wp2_with fail
      refine HF.out.mono ?_
      rintro e w1 ⟨rfl, W, W1, bW, ⟨k1, k2, o1⟩, b1⟩
      simp only [World.size_alloc] at bW b1
      have k3 := k2.below b1 (by omega)
      have k4 := k1.below b1 (by omega)
      have z1 := k3.cell 0
      have O1 := Lib.hid (((((Only.of_below (fun x => x = g) L3.out).then_below (by simpa using bW)).step o1 (fun x hx hs => by omega))).then_b b1 (by omega))
      have K4 := Lib.hid k4
      clear k1 k2 k3 k4 o1 b1 bW
      go_wp2_with fail
      refine (is_nil 70 _).mono ?_
      rintro e w2 ⟨rfl, rfl⟩
      go_wp2_with fail
      go_ret
      exact ⟨rfl, K4.out, O1.out⟩
    · rw [he]
      exact flag_end g s i false w h (fun W bx hW bW => field_no g s i _ _ W hW cf_flag1 (fun W' hW' bW' => flag1_no g bx s i W' hW' hs hat hno))
  · rw [rdFlag_bad]
    exact flag_end g s i true w h (fun W bx hW _ => field_bad g s i _ _ W hW)

/-- Whether a reader is at the end. -/
def endOf (n i : Nat) (bad : Bool) : Int := if bad = true ∨ i ≠ n then 70 else 0
set_option maxRecDepth 100000 in
theorem REnd_any (g : Nat) (s : ByteArray) (i : Nat) (bad : Bool) (w : World) (h : RdB w g s i bad) :
    Calls Tryz.prog 30 #[.pointer (some ⟨g, 0, none⟩)] w fun e w' => e = .returned (.int .i64 (endOf s.size i bad)) ∧ ∃ n, w' = w.drewN n := by
  have x0 := h.cell 0
  have x1 := h.cell 1
  have x2 := h.cell 2
  clear h
  cases bad
  · by_cases hi : i = s.size
    · have he : endOf s.size i false = 0 := by unfold endOf; rw [if_neg (by simp [hi])]
      rw [he]
      subst hi
      clear he
      have e1 : ((s.size : Int) != (s.size : Int)) = false := by simp
      go_enter Tryz.func30, Tryz.ntmps30
      go_wp2_with fail
      go_quiet (fail)
      go_wp2_with fail
      go_ret
      exact ⟨rfl, _, rfl⟩
    · have he : endOf s.size i false = 70 := by unfold endOf; rw [if_pos (.inr hi)]
      rw [he]
      have e1 : ((i : Int) != (s.size : Int)) = true := by rw [bne_iff_ne]; omega
      clear he hi
      go_enter Tryz.func30, Tryz.ntmps30
      go_wp2_with fail
      go_quiet (fail)
      go_wp2_with fail
      go_ret
      exact ⟨rfl, _, rfl⟩
  · have he : endOf s.size i true = 70 := by unfold endOf; rw [if_pos (.inl rfl)]
    rw [he]
    clear he
    go_enter Tryz.func30, Tryz.ntmps30
    go_wp2_with fail
    go_quiet (fail)
    go_wp2_with fail
    go_ret
    exact ⟨rfl, _, rfl⟩

theorem RWrong_any (g : Nat) (s : ByteArray) (i : Nat) (bad : Bool) (w : World) (h : RdB w g s i bad) :
    Calls Tryz.prog 90 #[.pointer (some ⟨g, 0, none⟩)] w (RdPost g s (.tuple #[]) i true w) := by
  have x2 := h.cell 2
  have x3 := h.frozen 2
  have H := Lib.hid h
  clear h
  go_enter Tryz.func90, Tryz.ntmps90
  go_wp2_with fail
  go_end0
  exact ⟨rfl, H.out.set_ 2 _, (Only.refl (fun x => x = g) w).set (.inl rfl) _⟩

theorem RNew_any (s : ByteArray) (w : World) :
    Calls Tryz.prog 27 #[.string s] w fun e w' => e = .returned (.pointer (some ⟨w.heap.size, 0, none⟩)) ∧ w.alloc (.cells #[.string s, .int .i64 0, .bool false] 77) = w' := by
  go_enter Tryz.func27, Tryz.ntmps27
  go_wp2_with fail
  go_ret
  exact ⟨rfl, rfl⟩
end Go.Proofs.YtcockikekgmfkaaGreatDoor
