/-
  Words for readings that fill a block of the call's own: a reader whose place is known, in a world that goes on; both readers.
  Layer 2, the document's reader: Text, Flag; New, End, Wrong.
-/
import Derived.Test.YtckdecodpjfcnaaGreatDoorGrp17
import Derived.Deep.RegionHeld3
import Derived.Deep.DrawnRows
set_option linter.unusedVariables false
set_option linter.unusedSimpArgs false
namespace Go.Proofs.YtckdecodpjfcnaaGreatDoor
open Go.RowKit

theorem extract_eq (s : ByteArray) (i n : Nat) : s.extract i (i + n) = bs (((lb s).drop i).take n) := by
  apply lb_inj
  rw [lb_extract, lb_bs, List.drop_take]
  congr 1
  omega

set_option maxRecDepth 100000 in
set_option maxHeartbeats 1000000 in
theorem rRTxt_any (g : Nat) (s : ByteArray) (i : Nat) (bad : Bool) (most : Int) (w : World) (h : RdR w g s i bad) (hs : s.size ≤ 100000) (hat : i ≤ s.size) :
    Calls Tryz.prog 56 #[.pointer (some ⟨g, 0, none⟩), .int .i64 most] w (RrPost g s (.string (bs (rdTxt (lb s) i bad most).1)) (rdTxt (lb s) i bad most).2.1 (rdTxt (lb s) i bad most).2.2 w) := by
  have x0 := h.cell 0
  have x1 := h.cell 1
  have x2 := h.cell 2
  have H := Lib.hid h
  cases bad
  · obtain ⟨cap, W', hrun, hcap, hcell, hsize, hgrow⟩ := bytes_of_ex (P := Tryz.prog) Tryz.underlying9 Tryz.underlying46 Tryz.underlying5 w.drew s
    have bW : Below w.heap.size w W' := (Below.refl _ w).drew.grown hgrow (Nat.le_refl _) (fun k hk => by cases hk)
    have kW := h.below bW h.lt
    have y0 := kW.cell 0
    have y1 := kW.cell 1
    have y2 := kW.cell 2
    have y3 := kW.frozen 1
    have y4 := kW.frozen 2
    have HG := Lib.hid (rGet_text s w.heap.size cap i W' hs hcell)
    rw [getOf_nat (lb s) i (by rw [length_lb]; exact hat)] at HG
    have KW := Lib.hid kW
    have OW := Lib.hid (Only.of_below (fun x => x = g) bW)
    rcases rdTxt_cases (lb s) i most with ⟨n, k, hd, hn, hle, he⟩ | ⟨n, k, hd, hn, hle, he⟩ | ⟨hno, he⟩
    · rw [he]
      rw [hd] at HG
      have hat2 := at_le hat hd
      rw [List.length_drop, length_lb] at hle
      have d1 : decide (most < (n : Int)) = false := decide_eq_false (by omega)
      have v1 : IntKind.i64.wrap ((s.size : Int) - ((i : Int) + (k : Int))) = (s.size : Int) - ((i : Int) + (k : Int)) := IntWalk.i64_in _ (by omega)
      have d2 : decide ((s.size : Int) - ((i : Int) + (k : Int)) < (n : Int)) = false := decide_eq_false (by omega)
      have v2 : IntKind.i64.wrap ((i : Int) + (k : Int) + (n : Int)) = (i : Int) + (k : Int) + (n : Int) := IntWalk.i64_in _ (by omega)
      have hsl : ∀ W : World, (Instr.slice 9 (.string s) (some (.int .i64 ((i : Int) + (k : Int)))) (some (.int .i64 ((i : Int) + (k : Int) + (n : Int)))) none).run Tryz.prog W = .ok (.string (bs (((lb s).drop (i + k)).take n))) W := by
        intro W
        rw [run_slice_string_if W 9 s .i64 .i64 _ _ Tryz.underlying9, if_pos (by omega), if_pos (by omega), ← extract_eq]
        rw [show ((i : Int) + (k : Int) + (n : Int)).toNat = i + k + n by omega, show ((i : Int) + (k : Int)).toNat = i + k by omega]
      generalize ((lb s).drop (i + k)).take n = L at *
      have HSL := Lib.hid hsl
      clear h hcap hcell hsize hgrow bW kW he hd hn hle hsl
      go_enter Tryz.func56, Tryz.ntmps56
      go_wp2_with fail
      go_region_held (fun w' => w'.cell? ⟨g, 0, none⟩ = some (.string s) ∧ w'.cell? ⟨g, 1, none⟩ = some (.int .i64 (i : Int))) (first | go_keep) ((first | ((with_reducible refine HG.out.mono ?_); rintro e w2 ⟨rfl, rfl⟩)))
      clear hrun
      go_wp2_with fail
      have K1 := KW.out.set_ 1 (.int .i64 ((i : Int) + (k : Int) + (n : Int)))
      have u0 := K1.cell 0
      have u1 := K1.cell 1
      have hsl := HSL.out
      have K2 := Lib.hid K1
      clear K1 y0 y1 y2
      go_quiet (fail)
      go_wp2_with fail
      go_ret
      refine ⟨rfl, ?_, ?_⟩
      · have := K2.out
        rw [show ((i : Int) + (k : Int) + (n : Int)) = ((i + k + n : Nat) : Int) by omega] at this ⊢
        exact this
      · exact ⟨OW.out.os, OW.out.tape, OW.out.output, (OW.out.set (.inl rfl) _).size, (OW.out.set (.inl rfl) _).block⟩
    · rw [he]
      rw [hd] at HG
      have hat2 := at_le hat hd
      rw [List.length_drop, length_lb] at hle
      have d1 : decide (most < (n : Int)) = false := decide_eq_false (by omega)
      have v1 : IntKind.i64.wrap ((s.size : Int) - ((i : Int) + (k : Int))) = (s.size : Int) - ((i : Int) + (k : Int)) := IntWalk.i64_in _ (by omega)
      have d2 : decide ((s.size : Int) - ((i : Int) + (k : Int)) < (n : Int)) = true := decide_eq_true (by omega)
      clear h hcap hcell hsize hgrow bW kW he hd hn hle
      go_enter Tryz.func56, Tryz.ntmps56
      go_wp2_with fail
      go_region_held (fun w' => w'.cell? ⟨g, 0, none⟩ = some (.string s) ∧ w'.cell? ⟨g, 1, none⟩ = some (.int .i64 (i : Int))) (first | go_keep) ((first | ((with_reducible refine HG.out.mono ?_); rintro e w2 ⟨rfl, rfl⟩)))
      clear hrun
      go_wp2_with fail
      go_ret
      exact ⟨rfl, KW.out.set_ 2 (.bool true), OW.out.set (.inl rfl) _⟩
    · rw [he]
      rcases hno with hd | ⟨n, k, hd, hr⟩
      · rw [hd] at HG
        clear h hcap hcell hsize hgrow bW kW he hd
        go_enter Tryz.func56, Tryz.ntmps56
        go_wp2_with fail
        go_region_held (fun w' => w'.cell? ⟨g, 0, none⟩ = some (.string s) ∧ w'.cell? ⟨g, 1, none⟩ = some (.int .i64 (i : Int))) (first | go_keep) ((first | ((with_reducible refine HG.out.mono ?_); rintro e w2 ⟨rfl, rfl⟩)))
        clear hrun
        go_wp2_with fail
        go_ret
        exact ⟨rfl, KW.out.set_ 2 (.bool true), OW.out.set (.inl rfl) _⟩
      · rw [hd] at HG
        have d1 : decide (most < (n : Int)) = true := decide_eq_true (by omega)
        clear h hcap hcell hsize hgrow bW kW he hd hr
        go_enter Tryz.func56, Tryz.ntmps56
        go_wp2_with fail
        go_region_held (fun w' => w'.cell? ⟨g, 0, none⟩ = some (.string s) ∧ w'.cell? ⟨g, 1, none⟩ = some (.int .i64 (i : Int))) (first | go_keep) ((first | ((with_reducible refine HG.out.mono ?_); rintro e w2 ⟨rfl, rfl⟩)))
        clear hrun
        go_wp2_with fail
        go_ret
        exact ⟨rfl, KW.out.set_ 2 (.bool true), OW.out.set (.inl rfl) _⟩
  · rw [rdTxt_bad]
    clear h
    go_enter Tryz.func56, Tryz.ntmps56
    go_wp2_with fail
    go_ret
    exact ⟨rfl, H.out, Only.refl _ _⟩

theorem idx_text (s : ByteArray) (i : Nat) (c : UInt8) (hc : (lb s)[i]? = some c) (W : World) : (Instr.index 9 (.string s) (.int .i64 (i : Int))).run Tryz.prog W = .ok (.int .u8 (c.toNat : Int)) W := by
  have hlt : i < s.size := by rw [← length_lb]; exact (List.getElem?_eq_some_iff.1 hc).1
  rw [run_index_string W 9 s .i64 i Tryz.underlying9, dif_pos ⟨by omega, by omega⟩]
  have h2 := (List.getElem?_eq_some_iff.1 hc).2
  have : s[(i : Int).toNat]'(by simpa using hlt) = c := by rw [← h2]; rfl
  rw [this]

set_option maxRecDepth 100000 in
set_option maxHeartbeats 1000000 in
theorem rRFlag_any (g : Nat) (s : ByteArray) (i : Nat) (bad : Bool) (w : World) (h : RdR w g s i bad) (hs : s.size ≤ 100000) (hat : i ≤ s.size) :
    Calls Tryz.prog 55 #[.pointer (some ⟨g, 0, none⟩)] w (RrPost g s (.bool (rdFlag (lb s) i bad).1) (rdFlag (lb s) i bad).2.1 (rdFlag (lb s) i bad).2.2 w) := by
  have x0 := h.cell 0
  have x1 := h.cell 1
  have x2 := h.cell 2
  have z1 := h.frozen 1
  have z2 := h.frozen 2
  have H := Lib.hid h
  have e0 : decide ((i : Int) < 0) = false := by simp
  cases bad
  · rcases rdFlag_cases (lb s) i with ⟨c, hc, hc1, he⟩ | ⟨hno, he⟩
    · rw [he]
      have hlt : i < s.size := by rw [← length_lb]; exact (List.getElem?_eq_some_iff.1 hc).1
      have hix := idx_text s i c hc
      obtain ⟨m, hm⟩ : ∃ m : Nat, m = c.toNat := ⟨_, rfl⟩
      rw [← hm] at hix ⊢
      have e1 : decide ((s.size : Int) ≤ (i : Int)) = false := by simp; omega
      have e1' : decide (s.size ≤ i) = false := by simp; omega
      have e2 : decide ((1 : Int) < (m : Int)) = false := by simp; omega
      have e3 : ((m : Int) == 1) = decide (m = 1) := by rw [Bool.eq_iff_iff]; simp; omega
      have v1 : IntKind.i64.wrap ((i : Int) + 1) = (i : Int) + 1 := IntWalk.i64_in _ (by omega)
      have v2 : IntKind.i64.wrap ((i : Int) + 1 - 1) = (i : Int) := by rw [IntWalk.i64_in _ (by omega)]; omega
      clear h he hc hm hc1
      go_enter Tryz.func55, Tryz.ntmps55
      go_wp2_with fail
      go_quiet (fail)
      go_wp2_with fail
      have K1 := (H.out.drewN nq).set_ 1 (.int .i64 ((i : Int) + 1))
      have u0 := K1.cell 0
      have u1 := K1.cell 1
      clear K1 x0 x1 x2
      go_quiet (fail)
      go_wp2_with fail
      go_ret
      refine ⟨rfl, ?_, ?_⟩
      · exact H.out.set_ 1 (.int .i64 ((i + 1 : Nat) : Int))
      · have o := (Only.refl (fun x => x = g) w).set (g := g) (o := 1) (.inl rfl) (.int .i64 ((i : Int) + 1))
        exact ⟨o.os, o.tape, o.output, o.size, o.block⟩
    · rw [he]
      rcases hno with hc | ⟨c, hc, hc1⟩
      · have hge : s.size ≤ i := by rw [← length_lb]; exact List.getElem?_eq_none_iff.1 hc
        have e1 : decide ((s.size : Int) ≤ (i : Int)) = true := by simp; omega
        have e1' : decide (s.size ≤ i) = true := by simp; omega
        clear h he hc
        go_enter Tryz.func55, Tryz.ntmps55
        go_wp2_with fail
        go_quiet (fail)
        go_wp2_with fail
        go_ret
        have o := (Only.refl (fun x => x = g) w).set (g := g) (o := 2) (.inl rfl) (.bool true)
        exact ⟨rfl, H.out.set_ 2 (.bool true), ⟨o.os, o.tape, o.output, o.size, o.block⟩⟩
      · have hlt : i < s.size := by rw [← length_lb]; exact (List.getElem?_eq_some_iff.1 hc).1
        have hix := idx_text s i c hc
        obtain ⟨m, hm⟩ : ∃ m : Nat, m = c.toNat := ⟨_, rfl⟩
        rw [← hm] at hix
        have e1 : decide ((s.size : Int) ≤ (i : Int)) = false := by simp; omega
        have e1' : decide (s.size ≤ i) = false := by simp; omega
        have e2 : decide ((1 : Int) < (m : Int)) = true := by simp; omega
        clear h he hc hm hc1
        go_enter Tryz.func55, Tryz.ntmps55
        go_wp2_with fail
        go_quiet (fail)
        go_wp2_with fail
        go_ret
        have o := (Only.refl (fun x => x = g) w).set (g := g) (o := 2) (.inl rfl) (.bool true)
        exact ⟨rfl, H.out.set_ 2 (.bool true), ⟨o.os, o.tape, o.output, o.size, o.block⟩⟩
  · rw [rdFlag_bad]
    clear h
    go_enter Tryz.func55, Tryz.ntmps55
    go_wp2_with fail
    go_ret
    exact ⟨rfl, H.out, Only.refl _ _⟩

set_option maxRecDepth 100000 in
theorem rREnd_any (g : Nat) (s : ByteArray) (i : Nat) (bad : Bool) (w : World) (h : RdR w g s i bad) :
    Calls Tryz.prog 57 #[.pointer (some ⟨g, 0, none⟩)] w fun e w' => e = .returned (.int .i64 (endOf s.size i bad)) ∧ ∃ n, w' = w.drewN n := by
  have x0 := h.cell 0
  have x1 := h.cell 1
  have x2 := h.cell 2
  clear h
  cases bad
  · by_cases hi : i = s.size
    · have he : endOf s.size i false = 0 := by unfold endOf; rw [if_neg (by simp [hi])]
      rw [he]
      subst hi
      clear he
      have e1 : ((s.size : Int) != (s.size : Int)) = false := by simp
      go_enter Tryz.func57, Tryz.ntmps57
      go_wp2_with fail
      go_quiet (fail)
      go_wp2_with fail
      go_ret
      exact ⟨rfl, _, rfl⟩
    · have he : endOf s.size i false = 70 := by unfold endOf; rw [if_pos (.inr hi)]
      rw [he]
      have e1 : ((i : Int) != (s.size : Int)) = true := by rw [bne_iff_ne]; omega
      clear he hi
      go_enter Tryz.func57, Tryz.ntmps57
      go_wp2_with fail
      go_quiet (fail)
      go_wp2_with fail
      go_ret
      exact ⟨rfl, _, rfl⟩
  · have he : endOf s.size i true = 70 := by unfold endOf; rw [if_pos (.inl rfl)]
    rw [he]
    clear he
    go_enter Tryz.func57, Tryz.ntmps57
    go_wp2_with fail
    go_quiet (fail)
    go_wp2_with fail
    go_ret
    exact ⟨rfl, _, rfl⟩

theorem rRWrong_any (g : Nat) (s : ByteArray) (i : Nat) (bad : Bool) (w : World) (h : RdR w g s i bad) :
    Calls Tryz.prog 86 #[.pointer (some ⟨g, 0, none⟩)] w (RrPost g s (.tuple #[]) i true w) := by
  have x2 := h.cell 2
  have x3 := h.frozen 2
  have H := Lib.hid h
  clear h
  go_enter Tryz.func86, Tryz.ntmps86
  go_wp2_with fail
  go_end0
  exact ⟨rfl, H.out.set_ 2 _, (Only.refl (fun x => x = g) w).set (.inl rfl) _⟩

theorem rRNew_any (s : ByteArray) (w : World) :
    Calls Tryz.prog 52 #[.string s] w fun e w' => e = .returned (.pointer (some ⟨w.heap.size, 0, none⟩)) ∧ w.alloc (.cells #[.string s, .int .i64 0, .bool false] 118) = w' := by
  go_enter Tryz.func52, Tryz.ntmps52
  go_wp2_with fail
  go_ret
  exact ⟨rfl, rfl⟩
end Go.Proofs.YtckdecodpjfcnaaGreatDoor
namespace Go.Proofs.YtckdecodpjfcnaaGreatDoor
open Go.RowKit

/-- A world that goes on: only block g, of those below B, is turned. -/
def Goes (B g : Nat) (w W : World) : Prop := Only (fun x => x = g) w W ∧ w.heap.size = B ∧ g < B
theorem Goes.refl {g : Nat} {w : World} (h : g < w.heap.size) : Goes w.heap.size g w w := ⟨Only.refl _ _, rfl, h⟩
section
variable {B g : Nat} {w W W' : World}
theorem Goes.only (h : Goes B g w W) (o : Only (fun x => x = g) W W') : Goes B g w W' := ⟨h.1.trans o, h.2⟩
theorem Goes.size (h : Goes B g w W) : B ≤ W.heap.size := by have := h.1.size; have := h.2.1; omega
theorem Goes.below (h : Goes B g w W) (k : Below B W W') : Goes B g w W' := ⟨h.1.then_b k (by have := h.2.1; omega), h.2⟩
theorem Goes.alloc (h : Goes B g w W) (o : Obj) : Goes B g w (W.alloc o) := ⟨h.1.alloc o, h.2⟩
theorem Goes.drew (h : Goes B g w W) : Goes B g w W.drew := ⟨h.1.drew, h.2⟩
theorem Goes.drewN (h : Goes B g w W) (n : Nat) : Goes B g w (W.drewN n) := h.below (below_drewN (Below.refl _ _) n)
theorem Goes.set (h : Goes B g w W) {b o : Nat} (hb : B ≤ b) (u : Value) : Goes B g w (W.setCell ⟨b, o, none⟩ u) := ⟨h.1.set (.inr (by have := h.2.1; omega)) u, h.2⟩
theorem Goes.grown {row : Option Nat} (h : Goes B g w W) (k : W.grownBy W' row) (hr : ∀ x, row = some x → B ≤ x) : Goes B g w W' :=
  ⟨h.1.grown k (fun x hx hl => by have := hr x hx; have := h.2.1; omega), h.2⟩
end

/-- The program's reader, at a place. -/
def RdOk (B : Nat) (W : World) (g : Nat) (s : ByteArray) (i : Nat) (b : Bool) : Prop :=
  RdB W g s i b ∧ i ≤ s.size ∧ HasET W ∧ s.size ≤ 100000 ∧ g < B ∧ 0 < B ∧ B ≤ W.heap.size
/-- The document's reader, at a place. -/
def RrOk (B : Nat) (W : World) (g : Nat) (s : ByteArray) (i : Nat) (b : Bool) : Prop :=
  RdR W g s i b ∧ i ≤ s.size ∧ s.size ≤ 100000 ∧ g < B ∧ B ≤ W.heap.size
section
variable {B g : Nat} {W W' : World} {s : ByteArray} {i : Nat} {b : Bool}
theorem RdOk.below (h : RdOk B W g s i b) (k : Below B W W') : RdOk B W' g s i b :=
  ⟨h.1.below k h.2.2.2.2.1, h.2.1, h.2.2.1.below k h.2.2.2.2.2.1, h.2.2.2.1, h.2.2.2.2.1, h.2.2.2.2.2.1, by have := k.size; have := h.2.2.2.2.2.2; omega⟩
theorem RdOk.alloc (h : RdOk B W g s i b) (o : Obj) : RdOk B (W.alloc o) g s i b := h.below ((Below.refl B W).alloc h.2.2.2.2.2.2 o)
theorem RdOk.drew (h : RdOk B W g s i b) : RdOk B W.drew g s i b := h.below (Below.refl B W).drew
theorem RdOk.drewN (h : RdOk B W g s i b) (n : Nat) : RdOk B (W.drewN n) g s i b := h.below (below_drewN (Below.refl B W) n)
theorem RdOk.set (h : RdOk B W g s i b) {p o : Nat} (hb : B ≤ p) (u : Value) : RdOk B (W.setCell ⟨p, o, none⟩ u) g s i b := h.below ((Below.refl B W).setCell (p := ⟨p, o, none⟩) hb u)
theorem RdOk.grown {row : Option Nat} (h : RdOk B W g s i b) (k : W.grownBy W' row) (hr : ∀ x, row = some x → B ≤ x) : RdOk B W' g s i b := h.below ((Below.refl B W).grown k h.2.2.2.2.2.2 hr)
theorem RdOk.ne (h : RdOk B W g s i b) : ¬ 0 = g := by
  intro e
  have h1 := h.1.cell 0
  have h2 := h.2.2.1
  unfold HasET at h2
  rw [← e] at h1
  rw [h1] at h2
  simp at h2
/-- Behind a reading. -/
theorem RdOk.next {i' : Nat} {b' : Bool} (h : RdOk B W g s i b) (k : RdB W' g s i' b') (o : Only (fun x => x = g) W W') (hi : i' ≤ s.size) : RdOk B W' g s i' b' :=
  ⟨k, hi, (o.cell (p := ⟨0, 0, none⟩) h.2.2.1.lt h.ne).trans h.2.2.1, h.2.2.2.1, h.2.2.2.2.1, h.2.2.2.2.2.1, Nat.le_trans h.2.2.2.2.2.2 o.size⟩
theorem RrOk.below (h : RrOk B W g s i b) (k : Below B W W') : RrOk B W' g s i b :=
  ⟨h.1.below k h.2.2.2.1, h.2.1, h.2.2.1, h.2.2.2.1, by have := k.size; have := h.2.2.2.2; omega⟩
theorem RrOk.alloc (h : RrOk B W g s i b) (o : Obj) : RrOk B (W.alloc o) g s i b := h.below ((Below.refl B W).alloc h.2.2.2.2 o)
theorem RrOk.drew (h : RrOk B W g s i b) : RrOk B W.drew g s i b := h.below (Below.refl B W).drew
theorem RrOk.drewN (h : RrOk B W g s i b) (n : Nat) : RrOk B (W.drewN n) g s i b := h.below (below_drewN (Below.refl B W) n)
theorem RrOk.set (h : RrOk B W g s i b) {p o : Nat} (hb : B ≤ p) (u : Value) : RrOk B (W.setCell ⟨p, o, none⟩ u) g s i b := h.below ((Below.refl B W).setCell (p := ⟨p, o, none⟩) hb u)
theorem RrOk.grown {row : Option Nat} (h : RrOk B W g s i b) (k : W.grownBy W' row) (hr : ∀ x, row = some x → B ≤ x) : RrOk B W' g s i b := h.below ((Below.refl B W).grown k h.2.2.2.2 hr)
theorem RrOk.next {i' : Nat} {b' : Bool} (h : RrOk B W g s i b) (k : RdR W' g s i' b') (o : Only (fun x => x = g) W W') (hi : i' ≤ s.size) : RrOk B W' g s i' b' :=
  ⟨k, hi, h.2.2.1, h.2.2.2.1, Nat.le_trans h.2.2.2.2 o.size⟩
end
def RdZ (B g : Nat) (s : ByteArray) (v : Value) (i : Nat) (b : Bool) (W : World) (e : Ending) (W' : World) : Prop :=
  e = .returned v ∧ RdOk B W' g s i b ∧ Only (fun x => x = g) W W'
def RrZ (B g : Nat) (s : ByteArray) (v : Value) (i : Nat) (b : Bool) (W : World) (e : Ending) (W' : World) : Prop :=
  e = .returned v ∧ RrOk B W' g s i b ∧ Only (fun x => x = g) W W'
section
variable {B g : Nat} {W : World} {s : ByteArray} {i j : Nat} {b b' : Bool}
theorem RNum_z {lo hi v : Int} (hz : rdNum (lb s) i b lo hi = (v, j, b')) (h : RdOk B W g s i b) : Calls Tryz.prog 49 #[.pointer (some ⟨g, 0, none⟩), .int .i64 lo, .int .i64 hi] W (RdZ B g s (.int .i64 v) j b' W) := by
  have hj := rdNum_le (l := lb s) b lo hi (by rw [length_lb]; exact h.2.1)
  have := RNum_any g s i b lo hi W h.1 h.2.2.1 (by have := h.2.2.2.1; omega) h.2.1
  rw [hz] at this hj
  rw [length_lb] at hj
  exact this.mono fun e W' ⟨h1, h2, h3⟩ => ⟨h1, h.next h2 h3 hj, h3⟩
theorem RTxt_z {most : Int} {v : List UInt8} (hz : rdTxt (lb s) i b most = (v, j, b')) (h : RdOk B W g s i b) : Calls Tryz.prog 102 #[.pointer (some ⟨g, 0, none⟩), .int .i64 most] W (RdZ B g s (.string (bs v)) j b' W) := by
  have hj := rdTxt_le (l := lb s) b most (by rw [length_lb]; exact h.2.1)
  have := RTxt_any g s i b most W h.1 h.2.2.1 (by have := h.2.2.2.1; omega) h.2.1
  rw [hz] at this hj
  rw [length_lb] at hj
  exact this.mono fun e W' ⟨h1, h2, h3⟩ => ⟨h1, h.next h2 h3 hj, h3⟩
theorem RFlag_z {v : Bool} (hz : rdFlag (lb s) i b = (v, j, b')) (h : RdOk B W g s i b) : Calls Tryz.prog 101 #[.pointer (some ⟨g, 0, none⟩)] W (RdZ B g s (.bool v) j b' W) := by
  have hj := rdFlag_le (l := lb s) b (by rw [length_lb]; exact h.2.1)
  have := RFlag_any g s i b W h.1 (by have := h.2.2.2.1; omega) h.2.1
  rw [hz] at this hj
  rw [length_lb] at hj
  exact this.mono fun e W' ⟨h1, h2, h3⟩ => ⟨h1, h.next h2 h3 hj, h3⟩
theorem RWrong_z (h : RdOk B W g s i b) : Calls Tryz.prog 114 #[.pointer (some ⟨g, 0, none⟩)] W (RdZ B g s (.tuple #[]) i true W) :=
  (RWrong_any g s i b W h.1).mono fun e W' ⟨h1, h2, h3⟩ => ⟨h1, h.next h2 h3 h.2.1, h3⟩
theorem rRNum_z {lo hi v : Int} (hz : rdNum (lb s) i b lo hi = (v, j, b')) (h : RrOk B W g s i b) : Calls Tryz.prog 53 #[.pointer (some ⟨g, 0, none⟩), .int .i64 lo, .int .i64 hi] W (RrZ B g s (.int .i64 v) j b' W) := by
  have hj := rdNum_le (l := lb s) b lo hi (by rw [length_lb]; exact h.2.1)
  have := rRNum_any g s i b lo hi W h.1 h.2.2.1 h.2.1
  rw [hz] at this hj
  rw [length_lb] at hj
  exact this.mono fun e W' ⟨h1, h2, h3⟩ => ⟨h1, h.next h2 h3 hj, h3⟩
theorem rRTxt_z {most : Int} {v : List UInt8} (hz : rdTxt (lb s) i b most = (v, j, b')) (h : RrOk B W g s i b) : Calls Tryz.prog 56 #[.pointer (some ⟨g, 0, none⟩), .int .i64 most] W (RrZ B g s (.string (bs v)) j b' W) := by
  have hj := rdTxt_le (l := lb s) b most (by rw [length_lb]; exact h.2.1)
  have := rRTxt_any g s i b most W h.1 h.2.2.1 h.2.1
  rw [hz] at this hj
  rw [length_lb] at hj
  exact this.mono fun e W' ⟨h1, h2, h3⟩ => ⟨h1, h.next h2 h3 hj, h3⟩
theorem rRFlag_z {v : Bool} (hz : rdFlag (lb s) i b = (v, j, b')) (h : RrOk B W g s i b) : Calls Tryz.prog 55 #[.pointer (some ⟨g, 0, none⟩)] W (RrZ B g s (.bool v) j b' W) := by
  have hj := rdFlag_le (l := lb s) b (by rw [length_lb]; exact h.2.1)
  have := rRFlag_any g s i b W h.1 h.2.2.1 h.2.1
  rw [hz] at this hj
  rw [length_lb] at hj
  exact this.mono fun e W' ⟨h1, h2, h3⟩ => ⟨h1, h.next h2 h3 hj, h3⟩
theorem rRWrong_z (h : RrOk B W g s i b) : Calls Tryz.prog 86 #[.pointer (some ⟨g, 0, none⟩)] W (RrZ B g s (.tuple #[]) i true W) :=
  (rRWrong_any g s i b W h.1).mono fun e W' ⟨h1, h2, h3⟩ => ⟨h1, h.next h2 h3 h.2.1, h3⟩
end
theorem rdNum_rng {l : List UInt8} {i j : Nat} {b b' : Bool} {lo hi v : Int} (h : rdNum l i b lo hi = (v, j, b')) : v = 0 ∨ (lo ≤ v ∧ v ≤ hi) := by
  unfold rdNum at h
  split at h
  · injection h with h _; exact .inl h.symm
  · split at h
    · split at h
      · rename_i hr
        injection h with h _; subst h; exact .inr hr
      · injection h with h _; exact .inl h.symm
    · injection h with h _; exact .inl h.symm
/-- A reading function at work: the reader; the block of its result (the first that it makes); the block that it fills. -/
def TkW (w : World) (g bb : Nat) (s : ByteArray) (T : TypeId) (rz : Array Value) (i : Nat) (b : Bool) (cs : Array Value) (W : World) : Prop :=
  RdOk w.heap.size W g s i b ∧ Goes w.heap.size g w W ∧ Blk W w.heap.size T rz ∧ Blk W bb T cs ∧ w.heap.size < bb
section
variable {w W W' : World} {g bb : Nat} {s : ByteArray} {T : TypeId} {rz cs : Array Value} {i j : Nat} {b b' : Bool}
theorem TkW.ok (h : TkW w g bb s T rz i b cs W) : RdOk w.heap.size W g s i b := h.1
theorem TkW.ne (h : TkW w g bb s T rz i b cs W) : ¬ bb = g ∧ ¬ w.heap.size = g := by have := h.2.1.2.2; have := h.2.2.2.2; omega
theorem TkW.next (h : TkW w g bb s T rz i b cs W) (k : RdOk w.heap.size W' g s j b') (o : Only (fun x => x = g) W W') : TkW w g bb s T rz j b' cs W' :=
  ⟨k, h.2.1.only o, o.blk h.2.2.1 h.ne.2, o.blk h.2.2.2.1 h.ne.1, h.2.2.2.2⟩
theorem TkW.set (h : TkW w g bb s T rz i b cs W) (o : Nat) (u : Value) : TkW w g bb s T rz i b (cs.setIfInBounds o u) (W.setCell ⟨bb, o, none⟩ u) :=
  ⟨h.1.set (Nat.le_of_lt h.2.2.2.2) u, h.2.1.set (Nat.le_of_lt h.2.2.2.2) u, h.2.2.1.far (p := ⟨bb, o, none⟩) (Nat.ne_of_lt h.2.2.2.2) u, h.2.2.2.1.set_ o u, h.2.2.2.2⟩
theorem TkW.alloc (h : TkW w g bb s T rz i b cs W) (o : Obj) : TkW w g bb s T rz i b cs (W.alloc o) := ⟨h.1.alloc o, h.2.1.alloc o, h.2.2.1.alloc o, h.2.2.2.1.alloc o, h.2.2.2.2⟩
theorem TkW.drew (h : TkW w g bb s T rz i b cs W) : TkW w g bb s T rz i b cs W.drew := ⟨h.1.drew, h.2.1.drew, h.2.2.1.drew, h.2.2.2.1.drew, h.2.2.2.2⟩
theorem TkW.grown {row : Option Nat} (h : TkW w g bb s T rz i b cs W) (k : W.grownBy W' row) (hr : ∀ x, row = some x → w.heap.size < x ∧ x ≠ bb) : TkW w g bb s T rz i b cs W' :=
  ⟨h.1.grown k (fun x hx => Nat.le_of_lt (hr x hx).1), h.2.1.grown k (fun x hx => Nat.le_of_lt (hr x hx).1), h.2.2.1.grown k (fun e => by have := (hr _ e.symm).1; omega), h.2.2.2.1.grown k (fun e => (hr _ e.symm).2 rfl), h.2.2.2.2⟩
theorem TkW.below (h : TkW w g bb s T rz i b cs W) (k : Below W.heap.size W W') : TkW w g bb s T rz i b cs W' :=
  ⟨h.1.below (k.mono h.2.1.size), h.2.1.below (k.mono h.2.1.size), h.2.2.1.below k h.2.2.1.lt, h.2.2.2.1.below k h.2.2.2.1.lt, h.2.2.2.2⟩
end
/-- Likewise: the document's reader; the block of its result (the first that it makes); the block that it fills. -/
def TrW (w : World) (g bb : Nat) (s : ByteArray) (T : TypeId) (rz : Array Value) (i : Nat) (b : Bool) (cs : Array Value) (W : World) : Prop :=
  RrOk w.heap.size W g s i b ∧ Goes w.heap.size g w W ∧ Blk W w.heap.size T rz ∧ Blk W bb T cs ∧ w.heap.size < bb
section
variable {w W W' : World} {g bb : Nat} {s : ByteArray} {T : TypeId} {rz cs : Array Value} {i j : Nat} {b b' : Bool}
theorem TrW.ok (h : TrW w g bb s T rz i b cs W) : RrOk w.heap.size W g s i b := h.1
theorem TrW.ne (h : TrW w g bb s T rz i b cs W) : ¬ bb = g ∧ ¬ w.heap.size = g := by have := h.2.1.2.2; have := h.2.2.2.2; omega
theorem TrW.next (h : TrW w g bb s T rz i b cs W) (k : RrOk w.heap.size W' g s j b') (o : Only (fun x => x = g) W W') : TrW w g bb s T rz j b' cs W' :=
  ⟨k, h.2.1.only o, o.blk h.2.2.1 h.ne.2, o.blk h.2.2.2.1 h.ne.1, h.2.2.2.2⟩
theorem TrW.set (h : TrW w g bb s T rz i b cs W) (o : Nat) (u : Value) : TrW w g bb s T rz i b (cs.setIfInBounds o u) (W.setCell ⟨bb, o, none⟩ u) :=
  ⟨h.1.set (Nat.le_of_lt h.2.2.2.2) u, h.2.1.set (Nat.le_of_lt h.2.2.2.2) u, h.2.2.1.far (p := ⟨bb, o, none⟩) (Nat.ne_of_lt h.2.2.2.2) u, h.2.2.2.1.set_ o u, h.2.2.2.2⟩
theorem TrW.alloc (h : TrW w g bb s T rz i b cs W) (o : Obj) : TrW w g bb s T rz i b cs (W.alloc o) := ⟨h.1.alloc o, h.2.1.alloc o, h.2.2.1.alloc o, h.2.2.2.1.alloc o, h.2.2.2.2⟩
theorem TrW.drew (h : TrW w g bb s T rz i b cs W) : TrW w g bb s T rz i b cs W.drew := ⟨h.1.drew, h.2.1.drew, h.2.2.1.drew, h.2.2.2.1.drew, h.2.2.2.2⟩
theorem TrW.grown {row : Option Nat} (h : TrW w g bb s T rz i b cs W) (k : W.grownBy W' row) (hr : ∀ x, row = some x → w.heap.size < x ∧ x ≠ bb) : TrW w g bb s T rz i b cs W' :=
  ⟨h.1.grown k (fun x hx => Nat.le_of_lt (hr x hx).1), h.2.1.grown k (fun x hx => Nat.le_of_lt (hr x hx).1), h.2.2.1.grown k (fun e => by have := (hr _ e.symm).1; omega), h.2.2.2.1.grown k (fun e => (hr _ e.symm).2 rfl), h.2.2.2.2⟩
theorem TrW.below (h : TrW w g bb s T rz i b cs W) (k : Below W.heap.size W W') : TrW w g bb s T rz i b cs W' :=
  ⟨h.1.below (k.mono h.2.1.size), h.2.1.below (k.mono h.2.1.size), h.2.2.1.below k h.2.2.1.lt, h.2.2.2.1.below k h.2.2.2.1.lt, h.2.2.2.2⟩
end
end Go.Proofs.YtckdecodpjfcnaaGreatDoor
