/-
  Layer 19: metalog's writer: how a transactional id is written; all fields of a kind.
  Layer 19: metalog's writer: how the fields of an entry are written.
-/
import Derived.Test.YtbpkckahonmpkaaGreatDoorMlFramesProofP05
import Derived.Handy
import Derived.Deep.RegionHeld3
import Derived.Deep.RegionWith
set_option linter.unusedVariables false
set_option linter.unusedSimpArgs false
namespace Go.Proofs.YtbpkckahonmpkaaGreatDoor
open Go.RowKit
theorem wNumber (A : Option Addr) (l : List UInt8) (c : Nat) (n : Nat) (w : World) (hr : Reads w w.heap.size 1 A l.length (cellsB l)) (hl : l.length ≤ 90000) (hn : n ≤ maxNum) :
    Calls Tryz.prog 97 #[.slice A l.length c, .int .i64 n] w (OwnPost (l ++ enc n) 0 w) := by
  have HP := Lib.hid (Put_own A l c n w hr hl hn)
  clear hr
  generalize l ++ enc n = L at *
  go_enter Tryz.func97, Tryz.ntmps97
  go_wp2_with (go_at_call 126; refine HP.out.mono ?_; rintro e w1 ⟨A1, c1, rfl, hr1, hc1, hb1⟩)
  go_ret2
  exact ⟨A1, c1, rfl, hr1, hc1, hb1⟩
/-- The writer: what is written; no error; its bytes lie from K on. -/
def WmS (g K : Nat) (l : List UInt8) (W : World) : Prop :=
  ∃ A c, Blk W g 107 #[.slice A l.length c, .int .i64 0] ∧ W.ownsRow K 5 1 (.slice A l.length c) l.length (cellsB l) ∧ g < K ∧ K ≤ W.heap.size
section
variable {g K : Nat} {l L : List UInt8} {w w' w1 : World}
theorem WmS.lt (h : WmS g K l w) : g < w.heap.size := by
  obtain ⟨A, c, h1, _⟩ := h
  exact h1.lt
theorem WmS.below (h : WmS g K l w) (hb : Below w.heap.size w w') : WmS g K l w' := by
  obtain ⟨A, c, h1, h2, h3, h4⟩ := h
  exact ⟨A, c, h1.below hb h1.lt, own_below h2 hb, h3, Nat.le_trans h4 hb.size⟩
theorem WmS.alloc (h : WmS g K l w) (o : Obj) : WmS g K l (w.alloc o) := h.below ((Below.refl _ _).alloc (Nat.le_refl _) o)
theorem WmS.drew (h : WmS g K l w) : WmS g K l w.drew := h.below (Below.refl _ _).drew
theorem WmS.set {b : Nat} (h : WmS g K l w) (hb : b < K) (hbg : b ≠ g) (o : Nat) (u : Value) : WmS g K l (w.setCell ⟨b, o, none⟩ u) := by
  obtain ⟨A, c, h1, h2, h3, h4⟩ := h
  exact ⟨A, c, h1.far (p := ⟨b, o, none⟩) (Ne.symm hbg) u, own_set h2 hb u, h3, by simpa [World.setCell] using h4⟩
def WmOk (g K : Nat) (l : List UInt8) (w : World) (e : Ending) (w' : World) : Prop := e = .returned (.tuple #[]) ∧ WmS g K l w' ∧ Only (fun x => x = g) w w'
theorem WmOk.alloc {e : Ending} {o : Obj} (h : WmOk g K l (w.alloc o) e w') : WmOk g K l w e w' :=
  ⟨h.1, h.2.1, ((Only.refl (fun x => x = g) w).alloc o).trans h.2.2⟩
theorem WmOk.drew {e : Ending} (h : WmOk g K l w.drew e w') : WmOk g K l w e w' := ⟨h.1, h.2.1, (Only.refl (fun x => x = g) w).drew.trans h.2.2⟩
/-- What a call that hands back new bytes leaves, stored into the writer. -/
theorem WmS.put {A1 : Option Addr} {c1 : Nat} (h : WmS g K l w) (o1 : w1.ownsRow w.heap.size 5 1 (.slice A1 L.length c1) L.length (cellsB L)) (b1 : Below w.heap.size w w1) :
    WmOk g K L w (.returned (.tuple #[])) (w1.setCell ⟨g, 0, none⟩ (.slice A1 L.length c1)) := by
  obtain ⟨A, c, h1, h2, h3, h4⟩ := h
  have oo : Only (fun x => x = g) w (w1.setCell ⟨g, 0, none⟩ (.slice A1 L.length c1)) := (Only.of_below (fun x => x = g) b1).set (.inl rfl) _
  have hs := oo.size
  exact ⟨rfl, ⟨A1, c1, (h1.below b1 h1.lt).set_ 0 _, own_base (own_set o1 h1.lt _) h4, h3, by omega⟩, oo⟩
end
set_option maxRecDepth 100000 in
set_option maxHeartbeats 2000000 in
theorem wmnum (g K : Nat) (l : List UInt8) (b o : Nat) (n lo hi : Int) (w : World) (h : WmS g K l w) (hc : w.cell? ⟨b, o, none⟩ = some (.int .i64 n)) (h0 : 0 ≤ n) (h1 : n ≤ 1048577) (hl : l.length ≤ 1000) :
    Calls Tryz.prog 67 #[.pointer (some ⟨g, 0, none⟩), .pointer (some ⟨b, o, none⟩), .int .i64 lo, .int .i64 hi] w (WmOk g K (l ++ enc n.toNat) w) := by
  obtain ⟨A, c, k1, o1, hgk, hks⟩ := id h
  obtain ⟨m, rfl⟩ := Int.eq_ofNat_of_zero_le h0
  rw [show ((m : Int)).toNat = m from Int.toNat_natCast m]
  have x0 : w.drew.cell? ⟨g, 0, none⟩ = some (.slice A l.length c) := k1.drew.cell 0
  have hcd : w.drew.cell? ⟨b, o, none⟩ = some (.int .i64 (m : Int)) := hc
  have NM := Lib.hid (wNumber A l c m w.drew ((Reads.of_own o1.drew).more (Nat.le_refl _)) (by omega) (by unfold maxNum; omega))
  have HH := Lib.hid h.drew
  have HBL := Lib.hid (show b < w.drew.heap.size from cell_lt hc)
  have K1 := Lib.hid k1.drew
  generalize l ++ enc m = L at *
  clear h hc k1 o1 h0
  go_enter Tryz.func67, Tryz.ntmps67
  go_wp2_with fail
  go_region_held3 (fun W => W.cell? ⟨g, 0, none⟩ = some (.slice A l.length c) ∧ W.cell? ⟨b, o, none⟩ = some (.int .i64 (m : Int)))
    (first | exact ⟨x0, hcd⟩ | exact ⟨u0, uc⟩)
    (first | (go_at_call 97; refine NM.out.mono ?_; rintro e w1 ⟨A1, c1, rfl, ow, hcc, b1⟩; have k2 := K1.out.below b1 K1.out.lt; have u0 := k2.cell 0; have uc := (b1.cell (p := ⟨b, o, none⟩) HBL.out).trans hcd; have u1 := k2.cell 1; have v0 := k2.frozen 0; have v1 := k2.frozen 1))
  go_wp2_with fail
  go_end0
  exact (HH.out.put ow b1).drew
set_option maxRecDepth 100000 in
set_option maxHeartbeats 2000000 in
theorem wmflag (g K : Nat) (l : List UInt8) (b o : Nat) (y : Bool) (w : World) (h : WmS g K l w) (hc : w.cell? ⟨b, o, none⟩ = some (.bool y)) (hl : l.length ≤ 1000) :
    Calls Tryz.prog 174 #[.pointer (some ⟨g, 0, none⟩), .pointer (some ⟨b, o, none⟩)] w (WmOk g K (l ++ encY y) w) := by
  obtain ⟨A, c, k1, o1, hgk, hks⟩ := id h
  have x0 : w.drew.cell? ⟨g, 0, none⟩ = some (.slice A l.length c) := k1.drew.cell 0
  have hcd : w.drew.cell? ⟨b, o, none⟩ = some (.bool y) := hc
  have NM := Lib.hid (Flag_any A l c y w.drew ((Reads.of_own o1.drew).more (Nat.le_refl _)) (by omega))
  have HH := Lib.hid h.drew
  have HBL := Lib.hid (show b < w.drew.heap.size from cell_lt hc)
  have K1 := Lib.hid k1.drew
  generalize l ++ encY y = L at *
  clear h hc k1 o1
  go_enter Tryz.func174, Tryz.ntmps174
  go_wp2_with fail
  go_region_with (go_at_call 175; refine NM.out.mono ?_; rintro e w1 ⟨A1, c1, rfl, ow, hcc, b1⟩; have k2 := K1.out.below b1 K1.out.lt; have u0 := k2.cell 0; have v0 := k2.frozen 0)
  all_goals
    go_wp2_with fail
    go_end0
    exact (HH.out.put ow b1).drew

/-- Behind a function of the form: more bytes; the entry as it was. -/
def WmE (g K b : Nat) (cs : Array Value) (l : List UInt8) (w : World) (e : Ending) (w' : World) : Prop := e = .returned (.tuple #[]) ∧ WmS g K l w' ∧ Blk w' b 42 cs ∧ Only (fun x => x = g ∨ x = b) w w'
theorem wm_len {l : List UInt8} {n : Int} (h : n ≤ 1048577) {k : Nat} (hl : l.length ≤ k) : (l ++ enc n.toNat).length ≤ k + 3 := by
  have := enc_bt h
  rw [List.length_append]; omega
set_option maxRecDepth 100000 in
set_option maxHeartbeats 2000000 in
theorem wmpend (g K : Nat) (l : List UInt8) (u : Value) (b o : Nat) (p : Pd) (w : World) (h : WmS g K l w) (hbg : b ≠ g) (hlt : b < w.heap.size)
    (h0 : w.cell? ⟨b, o, none⟩ = some (.int .i64 p.1)) (h1 : w.cell? ⟨b, o + 1, none⟩ = some (.int .i64 p.2.1)) (h2 : w.cell? ⟨b, o + 2, none⟩ = some (.int .i64 p.2.2)) (hp : pendB p = true) (hl : l.length ≤ 900) :
    Calls Tryz.prog 127 #[.agg #[.iface 105 (.pointer (some ⟨g, 0, none⟩)), u], .pointer (some ⟨b, o, none⟩)] w (WmOk g K (l ++ (enc p.1.toNat ++ (enc p.2.1.toNat ++ enc p.2.2.toNat))) w) := by
  have hpb : 0 ≤ p.1 ∧ p.1 < 2 ∧ 0 ≤ p.2.1 ∧ p.2.1 < 3 ∧ 0 ≤ p.2.2 ∧ p.2.2 ≤ 1048576 := by
    unfold pendB partB at hp
    simp only [Bool.and_eq_true, decide_eq_true_eq] at hp
    omega
  obtain ⟨W0, hW0⟩ : ∃ W0, W0 = w.alloc (.cells #[.iface 105 (.pointer (some ⟨g, 0, none⟩)), u] 114) := ⟨_, rfl⟩
  have KF0 := Lib.hid (show Blk W0 w.heap.size 114 _ by rw [hW0]; exact Blk.new w 114 #[.iface 105 (.pointer (some ⟨g, 0, none⟩)), u])
  have HS0 := Lib.hid (show WmS g K l W0 by rw [hW0]; exact h.alloc _)
  have HO0 := Lib.hid (show Only (fun x => x = g) w W0 by rw [hW0]; exact (Only.refl _ _).alloc _)
  have HLT := Lib.hid (And.intro hlt h.lt)
  have HBG := Lib.hid hbg
  have HC := Lib.hid (And.intro h0 (And.intro h1 h2))
  have HPB := Lib.hid hpb
  have HL := Lib.hid hl
  have HW := Lib.hid hW0
  have hfg : ¬ w.heap.size = g := by have := h.lt; omega
  have HFG := Lib.hid hfg
  clear hW0 h hbg h0 h1 h2 hp hl hpb hlt hfg
  go_enter Tryz.func127, Tryz.ntmps127
  go_upto_region 1 with (fail)
  rw [← HW.out]
  have xf0 : W0.drew.cell? ⟨w.heap.size, 0, none⟩ = some (.iface 105 (.pointer (some ⟨g, 0, none⟩))) := KF0.out.drew.cell 0
  have xc : W0.drew.cell? ⟨b, o, none⟩ = some (.int .i64 p.1) := (HO0.out.drew.cell (p := ⟨b, o, none⟩) HLT.out.1 HBG.out).trans HC.out.1
  have NM := Lib.hid (wmnum g K (l) b (o) p.1 0 1 W0.drew HS0.out.drew xc (by have := HPB.out; omega) (by have := HPB.out; omega) (by have := HL.out; omega))
  go_wp2_with fail
  refine wp_region_qtail 7 (by kernel_rfl) (by kernel_rfl) ?_
  simp only [List.take_succ_cons, List.take_zero, List.drop_succ_cons, List.drop_zero]
  repeat (go_big_quiet_step (fail))
  refine wpQuiet_nil ?_
  go_wp2_with fail
  refine NM.out.mono ?_
  rintro e w1 ⟨rfl, hs, ho⟩
  have HS1 := Lib.hid hs
  have KF1 := Lib.hid (ho.blk KF0.out.drew HFG.out)
  have HO1 := Lib.hid (HO0.out.drew.trans ho)
  clear hs ho xf0 xc NM
  have xf0 : w1.drew.cell? ⟨w.heap.size, 0, none⟩ = some (.iface 105 (.pointer (some ⟨g, 0, none⟩))) := KF1.out.drew.cell 0
  have xc : w1.drew.cell? ⟨b, o + 1, none⟩ = some (.int .i64 p.2.1) := (HO1.out.drew.cell (p := ⟨b, o + 1, none⟩) HLT.out.1 HBG.out).trans HC.out.2.1
  have NM := Lib.hid (wmnum g K (l ++ enc p.1.toNat) b (o + 1) p.2.1 0 2 w1.drew HS1.out.drew xc (by have := HPB.out; omega) (by have := HPB.out; omega) (by exact Nat.le_trans (wm_len (by have := HPB.out; omega) HL.out) (by decide)))
  go_wp2_with fail
  refine wp_region_qtail 7 (by kernel_rfl) (by kernel_rfl) ?_
  simp only [List.take_succ_cons, List.take_zero, List.drop_succ_cons, List.drop_zero]
  repeat (go_big_quiet_step (fail))
  refine wpQuiet_nil ?_
  go_wp2_with fail
  refine NM.out.mono ?_
  rintro e w2 ⟨rfl, hs, ho⟩
  have HS2 := Lib.hid hs
  have KF2 := Lib.hid (ho.blk KF1.out.drew HFG.out)
  have HO2 := Lib.hid (HO1.out.drew.trans ho)
  clear hs ho xf0 xc NM
  have xf0 : w2.drew.cell? ⟨w.heap.size, 0, none⟩ = some (.iface 105 (.pointer (some ⟨g, 0, none⟩))) := KF2.out.drew.cell 0
  have xc : w2.drew.cell? ⟨b, o + 2, none⟩ = some (.int .i64 p.2.2) := (HO2.out.drew.cell (p := ⟨b, o + 2, none⟩) HLT.out.1 HBG.out).trans HC.out.2.2
  have NM := Lib.hid (wmnum g K ((l ++ enc p.1.toNat) ++ enc p.2.1.toNat) b (o + 2) p.2.2 0 1048576 w2.drew HS2.out.drew xc (by have := HPB.out; omega) (by have := HPB.out; omega) (by exact Nat.le_trans (wm_len (by have := HPB.out; omega) (wm_len (by have := HPB.out; omega) HL.out)) (by decide)))
  go_wp2_with fail
  refine wp_region_qtail 7 (by kernel_rfl) (by kernel_rfl) ?_
  simp only [List.take_succ_cons, List.take_zero, List.drop_succ_cons, List.drop_zero]
  repeat (go_big_quiet_step (fail))
  refine wpQuiet_nil ?_
  go_wp2_with fail
  refine NM.out.mono ?_
  rintro e w3 ⟨rfl, hs, ho⟩
  have HS3 := Lib.hid hs
  have KF3 := Lib.hid (ho.blk KF2.out.drew HFG.out)
  have HO3 := Lib.hid (HO2.out.drew.trans ho)
  clear hs ho xf0 xc NM
  go_wp2_with fail
  go_end0
  have hs := HS3.out
  rw [List.append_assoc, List.append_assoc] at hs
  exact ⟨rfl, hs, HO3.out⟩
set_option maxRecDepth 100000 in
set_option maxHeartbeats 2000000 in
theorem wmtid (g K : Nat) (l : List UInt8) (b : Nat) (m : Mt) (A D : Option Addr) (c e : Nat) (w : World) (h : WmS g K l w) (hE : Blk w b 42 (mtX m A D c e)) (hbg : b ≠ g) (ht : 0 ≤ m.tid ∧ m.tid ≤ 1048576) (hl : l.length ≤ 100) :
    Calls Tryz.prog 102 #[.agg #[.iface 105 (.pointer (some ⟨g, 0, none⟩)), .pointer (some ⟨b, 0, none⟩)]] w (WmE g K b (mtX m A D c e) (l ++ enc m.tid.toNat) w) := by
  obtain ⟨W0, hW0⟩ : ∃ W0, W0 = w.alloc (.cells #[.iface 105 (.pointer (some ⟨g, 0, none⟩)), .pointer (some ⟨b, 0, none⟩)] 114) := ⟨_, rfl⟩
  have KF0 := Lib.hid (show Blk W0 w.heap.size 114 #[.iface 105 (.pointer (some ⟨g, 0, none⟩)), .pointer (some ⟨b, 0, none⟩)] by rw [hW0]; exact Blk.new w 114 #[.iface 105 (.pointer (some ⟨g, 0, none⟩)), .pointer (some ⟨b, 0, none⟩)])
  have HS0 := Lib.hid (show WmS g K l W0 by rw [hW0]; exact h.alloc _)
  have KE0 := Lib.hid (show Blk W0 b 42 (mtX m A D c e) by rw [hW0]; exact hE.alloc _)
  have HO0 := Lib.hid (show Only (fun x => x = g ∨ x = b) w W0 by rw [hW0]; exact (Only.refl _ _).alloc _)
  have HBG := Lib.hid hbg
  have HL := Lib.hid hl
  have HW := Lib.hid hW0
  have HFG := Lib.hid (show w.heap.size ≠ g ∧ w.heap.size ≠ b by have := h.lt; have := hE.lt; omega)
  have HT := Lib.hid ht
  clear hW0 h hE hbg hl ht
  go_enter Tryz.func102, Tryz.ntmps102
  go_upto_region 1 with (fail)
  rw [← HW.out]
  have xf0 : W0.drew.cell? ⟨w.heap.size, 0, none⟩ = some (.iface 105 (.pointer (some ⟨g, 0, none⟩))) := KF0.out.drew.cell 0
  have xf1 : W0.drew.cell? ⟨w.heap.size, 1, none⟩ = some (.pointer (some ⟨b, 0, none⟩)) := KF0.out.drew.cell 1
  have xc : W0.drew.cell? ⟨b, 1, none⟩ = some (.int .i64 m.tid) := mt_cell KE0.out.drew (j := 1) rfl
  have NM := Lib.hid (wmnum g K (l) b 1 m.tid 0 2 W0.drew HS0.out.drew xc (by have := HT.out; omega) (by have := HT.out; omega) (by have := HL.out; omega))
  go_wp2_with fail
  refine wp_region_qtail 8 (by kernel_rfl) (by kernel_rfl) ?_
  simp only [List.take_succ_cons, List.take_zero, List.drop_succ_cons, List.drop_zero]
  repeat (go_big_quiet_step (fail))
  refine wpQuiet_nil ?_
  go_wp2_with fail
  refine NM.out.mono ?_
  rintro e w1 ⟨rfl, hs, ho⟩
  have KE1 := Lib.hid (ho.blk KE0.out.drew HBG.out)
  have KF1 := Lib.hid (ho.blk KF0.out.drew HFG.out.1)
  have HO1 := Lib.hid (HO0.out.drew.trans (ho.mono (fun x _ hx => .inl hx)))
  have HS1 := Lib.hid hs
  clear hs ho xf0 xf1 NM xc
  go_wp2_with fail
  go_end0
  have hs := HS1.out
  try simp only [List.append_assoc] at hs
  exact ⟨rfl, hs, KE1.out, HO1.out⟩
set_option maxRecDepth 100000 in
set_option maxHeartbeats 2000000 in
theorem wmbegin (g K : Nat) (l : List UInt8) (b : Nat) (m : Mt) (A D : Option Addr) (c e : Nat) (w : World) (h : WmS g K l w) (hE : Blk w b 42 (mtX m A D c e)) (hbg : b ≠ g) (ht : 0 ≤ m.tid ∧ m.tid ≤ 1048576) (hn : 0 ≤ m.tm ∧ m.tm ≤ 1048576) (hl : l.length ≤ 100) :
    Calls Tryz.prog 99 #[.agg #[.iface 105 (.pointer (some ⟨g, 0, none⟩)), .pointer (some ⟨b, 0, none⟩)]] w (WmE g K b (mtX m A D c e) (l ++ (enc m.tid.toNat ++ enc m.tm.toNat)) w) := by
  obtain ⟨W0, hW0⟩ : ∃ W0, W0 = w.alloc (.cells #[.iface 105 (.pointer (some ⟨g, 0, none⟩)), .pointer (some ⟨b, 0, none⟩)] 114) := ⟨_, rfl⟩
  have KF0 := Lib.hid (show Blk W0 w.heap.size 114 #[.iface 105 (.pointer (some ⟨g, 0, none⟩)), .pointer (some ⟨b, 0, none⟩)] by rw [hW0]; exact Blk.new w 114 #[.iface 105 (.pointer (some ⟨g, 0, none⟩)), .pointer (some ⟨b, 0, none⟩)])
  have HS0 := Lib.hid (show WmS g K l W0 by rw [hW0]; exact h.alloc _)
  have KE0 := Lib.hid (show Blk W0 b 42 (mtX m A D c e) by rw [hW0]; exact hE.alloc _)
  have HO0 := Lib.hid (show Only (fun x => x = g ∨ x = b) w W0 by rw [hW0]; exact (Only.refl _ _).alloc _)
  have HBG := Lib.hid hbg
  have HL := Lib.hid hl
  have HW := Lib.hid hW0
  have HFG := Lib.hid (show w.heap.size ≠ g ∧ w.heap.size ≠ b by have := h.lt; have := hE.lt; omega)
  have HT := Lib.hid ht
  have HN := Lib.hid hn
  clear hW0 h hE hbg hl ht hn
  go_enter Tryz.func99, Tryz.ntmps99
  go_upto_region 1 with (fail)
  rw [← HW.out]
  have xf0 : W0.cell? ⟨w.heap.size, 0, none⟩ = some (.iface 105 (.pointer (some ⟨g, 0, none⟩))) := KF0.out.cell 0
  have xf1 : W0.cell? ⟨w.heap.size, 1, none⟩ = some (.pointer (some ⟨b, 0, none⟩)) := KF0.out.cell 1
  have NM := Lib.hid (wmtid g K (l) b m A D c e W0 HS0.out KE0.out HBG.out HT.out (by have := HL.out; omega))
  go_wp2_with fail
  refine NM.out.mono ?_
  rintro e w1 ⟨rfl, hs, hk, ho⟩
  have KE1 := Lib.hid hk
  have KF1 := Lib.hid (ho.blk KF0.out (fun x => x.elim HFG.out.1 HFG.out.2))
  have HO1 := Lib.hid (HO0.out.trans ho)
  clear hk
  have HS1 := Lib.hid hs
  clear hs ho xf0 xf1 NM
  have xf0 : w1.drew.cell? ⟨w.heap.size, 0, none⟩ = some (.iface 105 (.pointer (some ⟨g, 0, none⟩))) := KF1.out.drew.cell 0
  have xf1 : w1.drew.cell? ⟨w.heap.size, 1, none⟩ = some (.pointer (some ⟨b, 0, none⟩)) := KF1.out.drew.cell 1
  have xc : w1.drew.cell? ⟨b, 2, none⟩ = some (.int .i64 m.tm) := mt_cell KE1.out.drew (j := 2) rfl
  have NM := Lib.hid (wmnum g K (l ++ enc m.tid.toNat) b 2 m.tm 1 20 w1.drew HS1.out.drew xc (by have := HN.out; omega) (by have := HN.out; omega) (by have := (wm_len (n := m.tid) (by have := HT.out; omega) HL.out); omega))
  go_wp2_with fail
  refine wp_region_qtail 8 (by kernel_rfl) (by kernel_rfl) ?_
  simp only [List.take_succ_cons, List.take_zero, List.drop_succ_cons, List.drop_zero]
  repeat (go_big_quiet_step (fail))
  refine wpQuiet_nil ?_
  go_wp2_with fail
  refine NM.out.mono ?_
  rintro e w2 ⟨rfl, hs, ho⟩
  have KE2 := Lib.hid (ho.blk KE1.out.drew HBG.out)
  have KF2 := Lib.hid (ho.blk KF1.out.drew HFG.out.1)
  have HO2 := Lib.hid (HO1.out.drew.trans (ho.mono (fun x _ hx => .inl hx)))
  have HS2 := Lib.hid hs
  clear hs ho xf0 xf1 NM xc
  go_wp2_with fail
  go_end0
  have hs := HS2.out
  try simp only [List.append_assoc] at hs
  exact ⟨rfl, hs, KE2.out, HO2.out⟩
set_option maxRecDepth 100000 in
set_option maxHeartbeats 2000000 in
theorem wmnext (g K : Nat) (l : List UInt8) (b : Nat) (m : Mt) (A D : Option Addr) (c e : Nat) (w : World) (h : WmS g K l w) (hE : Blk w b 42 (mtX m A D c e)) (hbg : b ≠ g) (hn : 0 ≤ m.nx ∧ m.nx ≤ 1048576) (hl : l.length ≤ 100) :
    Calls Tryz.prog 105 #[.agg #[.iface 105 (.pointer (some ⟨g, 0, none⟩)), .pointer (some ⟨b, 0, none⟩)]] w (WmE g K b (mtX m A D c e) (l ++ enc m.nx.toNat) w) := by
  obtain ⟨W0, hW0⟩ : ∃ W0, W0 = w.alloc (.cells #[.iface 105 (.pointer (some ⟨g, 0, none⟩)), .pointer (some ⟨b, 0, none⟩)] 114) := ⟨_, rfl⟩
  have KF0 := Lib.hid (show Blk W0 w.heap.size 114 #[.iface 105 (.pointer (some ⟨g, 0, none⟩)), .pointer (some ⟨b, 0, none⟩)] by rw [hW0]; exact Blk.new w 114 #[.iface 105 (.pointer (some ⟨g, 0, none⟩)), .pointer (some ⟨b, 0, none⟩)])
  have HS0 := Lib.hid (show WmS g K l W0 by rw [hW0]; exact h.alloc _)
  have KE0 := Lib.hid (show Blk W0 b 42 (mtX m A D c e) by rw [hW0]; exact hE.alloc _)
  have HO0 := Lib.hid (show Only (fun x => x = g ∨ x = b) w W0 by rw [hW0]; exact (Only.refl _ _).alloc _)
  have HBG := Lib.hid hbg
  have HL := Lib.hid hl
  have HW := Lib.hid hW0
  have HFG := Lib.hid (show w.heap.size ≠ g ∧ w.heap.size ≠ b by have := h.lt; have := hE.lt; omega)
  have HN := Lib.hid hn
  clear hW0 h hE hbg hl hn
  go_enter Tryz.func105, Tryz.ntmps105
  go_upto_region 1 with (fail)
  rw [← HW.out]
  have xf0 : W0.drew.cell? ⟨w.heap.size, 0, none⟩ = some (.iface 105 (.pointer (some ⟨g, 0, none⟩))) := KF0.out.drew.cell 0
  have xf1 : W0.drew.cell? ⟨w.heap.size, 1, none⟩ = some (.pointer (some ⟨b, 0, none⟩)) := KF0.out.drew.cell 1
  have xc : W0.drew.cell? ⟨b, 16, none⟩ = some (.int .i64 m.nx) := mt_cell KE0.out.drew (j := 16) rfl
  have NM := Lib.hid (wmnum g K (l) b 16 m.nx 0 8 W0.drew HS0.out.drew xc (by have := HN.out; omega) (by have := HN.out; omega) (by have := HL.out; omega))
  go_wp2_with fail
  refine wp_region_qtail 8 (by kernel_rfl) (by kernel_rfl) ?_
  simp only [List.take_succ_cons, List.take_zero, List.drop_succ_cons, List.drop_zero]
  repeat (go_big_quiet_step (fail))
  refine wpQuiet_nil ?_
  go_wp2_with fail
  refine NM.out.mono ?_
  rintro e w1 ⟨rfl, hs, ho⟩
  have KE1 := Lib.hid (ho.blk KE0.out.drew HBG.out)
  have KF1 := Lib.hid (ho.blk KF0.out.drew HFG.out.1)
  have HO1 := Lib.hid (HO0.out.drew.trans (ho.mono (fun x _ hx => .inl hx)))
  have HS1 := Lib.hid hs
  clear hs ho xf0 xf1 NM xc
  go_wp2_with fail
  go_end0
  have hs := HS1.out
  try simp only [List.append_assoc] at hs
  exact ⟨rfl, hs, KE1.out, HO1.out⟩
set_option maxRecDepth 100000 in
set_option maxHeartbeats 2000000 in
theorem wmprep (g K : Nat) (l : List UInt8) (b : Nat) (m : Mt) (A D : Option Addr) (c e : Nat) (w : World) (h : WmS g K l w) (hE : Blk w b 42 (mtX m A D c e)) (hbg : b ≠ g) (ht : 0 ≤ m.tid ∧ m.tid ≤ 1048576) (hn : 0 ≤ m.th ∧ m.th ≤ 1048576) (hl : l.length ≤ 100) :
    Calls Tryz.prog 101 #[.agg #[.iface 105 (.pointer (some ⟨g, 0, none⟩)), .pointer (some ⟨b, 0, none⟩)]] w (WmE g K b (mtX m A D c e) (l ++ (enc m.tid.toNat ++ (encY m.yes ++ enc m.th.toNat))) w) := by
  obtain ⟨W0, hW0⟩ : ∃ W0, W0 = w.alloc (.cells #[.iface 105 (.pointer (some ⟨g, 0, none⟩)), .pointer (some ⟨b, 0, none⟩)] 114) := ⟨_, rfl⟩
  have KF0 := Lib.hid (show Blk W0 w.heap.size 114 #[.iface 105 (.pointer (some ⟨g, 0, none⟩)), .pointer (some ⟨b, 0, none⟩)] by rw [hW0]; exact Blk.new w 114 #[.iface 105 (.pointer (some ⟨g, 0, none⟩)), .pointer (some ⟨b, 0, none⟩)])
  have HS0 := Lib.hid (show WmS g K l W0 by rw [hW0]; exact h.alloc _)
  have KE0 := Lib.hid (show Blk W0 b 42 (mtX m A D c e) by rw [hW0]; exact hE.alloc _)
  have HO0 := Lib.hid (show Only (fun x => x = g ∨ x = b) w W0 by rw [hW0]; exact (Only.refl _ _).alloc _)
  have HBG := Lib.hid hbg
  have HL := Lib.hid hl
  have HW := Lib.hid hW0
  have HFG := Lib.hid (show w.heap.size ≠ g ∧ w.heap.size ≠ b by have := h.lt; have := hE.lt; omega)
  have HT := Lib.hid ht
  have HN := Lib.hid hn
  clear hW0 h hE hbg hl ht hn
  go_enter Tryz.func101, Tryz.ntmps101
  go_upto_region 1 with (fail)
  rw [← HW.out]
  have xf0 : W0.cell? ⟨w.heap.size, 0, none⟩ = some (.iface 105 (.pointer (some ⟨g, 0, none⟩))) := KF0.out.cell 0
  have xf1 : W0.cell? ⟨w.heap.size, 1, none⟩ = some (.pointer (some ⟨b, 0, none⟩)) := KF0.out.cell 1
  have NM := Lib.hid (wmtid g K (l) b m A D c e W0 HS0.out KE0.out HBG.out HT.out (by have := HL.out; omega))
  go_wp2_with fail
  refine NM.out.mono ?_
  rintro e w1 ⟨rfl, hs, hk, ho⟩
  have KE1 := Lib.hid hk
  have KF1 := Lib.hid (ho.blk KF0.out (fun x => x.elim HFG.out.1 HFG.out.2))
  have HO1 := Lib.hid (HO0.out.trans ho)
  clear hk
  have HS1 := Lib.hid hs
  clear hs ho xf0 xf1 NM
  have xf0 : w1.drew.cell? ⟨w.heap.size, 0, none⟩ = some (.iface 105 (.pointer (some ⟨g, 0, none⟩))) := KF1.out.drew.cell 0
  have xf1 : w1.drew.cell? ⟨w.heap.size, 1, none⟩ = some (.pointer (some ⟨b, 0, none⟩)) := KF1.out.drew.cell 1
  have xc : w1.drew.cell? ⟨b, 6, none⟩ = some (.bool m.yes) := mt_cell KE1.out.drew (j := 6) rfl
  have NM := Lib.hid (wmflag g K (l ++ enc m.tid.toNat) b 6 m.yes w1.drew HS1.out.drew xc (by have := (wm_len (n := m.tid) (by have := HT.out; omega) HL.out); omega))
  go_wp2_with fail
  refine wp_region_qtail 8 (by kernel_rfl) (by kernel_rfl) ?_
  simp only [List.take_succ_cons, List.take_zero, List.drop_succ_cons, List.drop_zero]
  repeat (go_big_quiet_step (fail))
  refine wpQuiet_nil ?_
  go_wp2_with fail
  refine NM.out.mono ?_
  rintro e w2 ⟨rfl, hs, ho⟩
  have KE2 := Lib.hid (ho.blk KE1.out.drew HBG.out)
  have KF2 := Lib.hid (ho.blk KF1.out.drew HFG.out.1)
  have HO2 := Lib.hid (HO1.out.drew.trans (ho.mono (fun x _ hx => .inl hx)))
  have HS2 := Lib.hid hs
  clear hs ho xf0 xf1 NM xc
  have xf0 : w2.drew.cell? ⟨w.heap.size, 0, none⟩ = some (.iface 105 (.pointer (some ⟨g, 0, none⟩))) := KF2.out.drew.cell 0
  have xf1 : w2.drew.cell? ⟨w.heap.size, 1, none⟩ = some (.pointer (some ⟨b, 0, none⟩)) := KF2.out.drew.cell 1
  have xc : w2.drew.cell? ⟨b, 7, none⟩ = some (.int .i64 m.th) := mt_cell KE2.out.drew (j := 7) rfl
  have NM := Lib.hid (wmnum g K (l ++ enc m.tid.toNat ++ encY m.yes) b 7 m.th 0 20 w2.drew HS2.out.drew xc (by have := HN.out; omega) (by have := HN.out; omega) (by have := (show (l ++ enc m.tid.toNat ++ encY m.yes).length ≤ _ from (by rw [List.length_append]; exact Nat.add_le_add_right (wm_len (n := m.tid) (by have := HT.out; omega) HL.out) 1)); omega))
  go_wp2_with fail
  refine wp_region_qtail 8 (by kernel_rfl) (by kernel_rfl) ?_
  simp only [List.take_succ_cons, List.take_zero, List.drop_succ_cons, List.drop_zero]
  repeat (go_big_quiet_step (fail))
  refine wpQuiet_nil ?_
  go_wp2_with fail
  refine NM.out.mono ?_
  rintro e w3 ⟨rfl, hs, ho⟩
  have KE3 := Lib.hid (ho.blk KE2.out.drew HBG.out)
  have KF3 := Lib.hid (ho.blk KF2.out.drew HFG.out.1)
  have HO3 := Lib.hid (HO2.out.drew.trans (ho.mono (fun x _ hx => .inl hx)))
  have HS3 := Lib.hid hs
  clear hs ho xf0 xf1 NM xc
  go_wp2_with fail
  go_end0
  have hs := HS3.out
  try simp only [List.append_assoc] at hs
  exact ⟨rfl, hs, KE3.out, HO3.out⟩
set_option maxRecDepth 100000 in
set_option maxHeartbeats 2000000 in
theorem wmcommit (g K : Nat) (l : List UInt8) (b : Nat) (m : Mt) (A D : Option Addr) (c e : Nat) (w : World) (h : WmS g K l w) (hE : Blk w b 42 (mtX m A D c e)) (hbg : b ≠ g) (hp : pendB m.p = true) (hl : l.length ≤ 100) :
    Calls Tryz.prog 103 #[.agg #[.iface 105 (.pointer (some ⟨g, 0, none⟩)), .pointer (some ⟨b, 0, none⟩)]] w (WmE g K b (mtX m A D c e) (l ++ (enc m.p.1.toNat ++ (enc m.p.2.1.toNat ++ enc m.p.2.2.toNat))) w) := by
  obtain ⟨W0, hW0⟩ : ∃ W0, W0 = w.alloc (.cells #[.iface 105 (.pointer (some ⟨g, 0, none⟩)), .pointer (some ⟨b, 0, none⟩)] 114) := ⟨_, rfl⟩
  have KF0 := Lib.hid (show Blk W0 w.heap.size 114 #[.iface 105 (.pointer (some ⟨g, 0, none⟩)), .pointer (some ⟨b, 0, none⟩)] by rw [hW0]; exact Blk.new w 114 #[.iface 105 (.pointer (some ⟨g, 0, none⟩)), .pointer (some ⟨b, 0, none⟩)])
  have HS0 := Lib.hid (show WmS g K l W0 by rw [hW0]; exact h.alloc _)
  have KE0 := Lib.hid (show Blk W0 b 42 (mtX m A D c e) by rw [hW0]; exact hE.alloc _)
  have HO0 := Lib.hid (show Only (fun x => x = g ∨ x = b) w W0 by rw [hW0]; exact (Only.refl _ _).alloc _)
  have HBG := Lib.hid hbg
  have HL := Lib.hid hl
  have HW := Lib.hid hW0
  have HFG := Lib.hid (show w.heap.size ≠ g ∧ w.heap.size ≠ b by have := h.lt; have := hE.lt; omega)
  have HP := Lib.hid hp
  clear hW0 h hE hbg hl hp
  go_enter Tryz.func103, Tryz.ntmps103
  go_upto_region 1 with (fail)
  rw [← HW.out]
  have xf0 : W0.drew.cell? ⟨w.heap.size, 0, none⟩ = some (.iface 105 (.pointer (some ⟨g, 0, none⟩))) := KF0.out.drew.cell 0
  have xf1 : W0.drew.cell? ⟨w.heap.size, 1, none⟩ = some (.pointer (some ⟨b, 0, none⟩)) := KF0.out.drew.cell 1
  have NM := Lib.hid (wmpend g K (l) (.pointer (some ⟨b, 0, none⟩)) b 3 m.p W0.drew HS0.out.drew HBG.out KE0.out.drew.lt (mt_cell KE0.out.drew (j := 3) rfl) (mt_cell KE0.out.drew (j := 4) rfl) (mt_cell KE0.out.drew (j := 5) rfl) HP.out (by have := HL.out; omega))
  go_wp2_with fail
  refine wp_region_qtail 5 (by kernel_rfl) (by kernel_rfl) ?_
  simp only [List.take_succ_cons, List.take_zero, List.drop_succ_cons, List.drop_zero]
  repeat (go_big_quiet_step (fail))
  refine wpQuiet_nil ?_
  go_wp2_with fail
  refine NM.out.mono ?_
  rintro e w1 ⟨rfl, hs, ho⟩
  have KE1 := Lib.hid (ho.blk KE0.out.drew HBG.out)
  have KF1 := Lib.hid (ho.blk KF0.out.drew HFG.out.1)
  have HO1 := Lib.hid (HO0.out.drew.trans (ho.mono (fun x _ hx => .inl hx)))
  have HS1 := Lib.hid hs
  clear hs ho xf0 xf1 NM
  go_wp2_with fail
  go_end0
  have hs := HS1.out
  try simp only [List.append_assoc] at hs
  exact ⟨rfl, hs, KE1.out, HO1.out⟩
set_option maxRecDepth 100000 in
set_option maxHeartbeats 2000000 in
theorem wmoffset (g K : Nat) (l : List UInt8) (b : Nat) (m : Mt) (A D : Option Addr) (c e : Nat) (w : World) (h : WmS g K l w) (hE : Blk w b 42 (mtX m A D c e)) (hbg : b ≠ g) (ht : 0 ≤ m.tid ∧ m.tid ≤ 1048576) (hp : pendB m.p = true) (hl : l.length ≤ 100) :
    Calls Tryz.prog 100 #[.agg #[.iface 105 (.pointer (some ⟨g, 0, none⟩)), .pointer (some ⟨b, 0, none⟩)]] w (WmE g K b (mtX m A D c e) (l ++ (enc m.tid.toNat ++ (enc m.p.1.toNat ++ (enc m.p.2.1.toNat ++ enc m.p.2.2.toNat)))) w) := by
  obtain ⟨W0, hW0⟩ : ∃ W0, W0 = w.alloc (.cells #[.iface 105 (.pointer (some ⟨g, 0, none⟩)), .pointer (some ⟨b, 0, none⟩)] 114) := ⟨_, rfl⟩
  have KF0 := Lib.hid (show Blk W0 w.heap.size 114 #[.iface 105 (.pointer (some ⟨g, 0, none⟩)), .pointer (some ⟨b, 0, none⟩)] by rw [hW0]; exact Blk.new w 114 #[.iface 105 (.pointer (some ⟨g, 0, none⟩)), .pointer (some ⟨b, 0, none⟩)])
  have HS0 := Lib.hid (show WmS g K l W0 by rw [hW0]; exact h.alloc _)
  have KE0 := Lib.hid (show Blk W0 b 42 (mtX m A D c e) by rw [hW0]; exact hE.alloc _)
  have HO0 := Lib.hid (show Only (fun x => x = g ∨ x = b) w W0 by rw [hW0]; exact (Only.refl _ _).alloc _)
  have HBG := Lib.hid hbg
  have HL := Lib.hid hl
  have HW := Lib.hid hW0
  have HFG := Lib.hid (show w.heap.size ≠ g ∧ w.heap.size ≠ b by have := h.lt; have := hE.lt; omega)
  have HT := Lib.hid ht
  have HP := Lib.hid hp
  clear hW0 h hE hbg hl ht hp
  go_enter Tryz.func100, Tryz.ntmps100
  go_upto_region 1 with (fail)
  rw [← HW.out]
  have xf0 : W0.cell? ⟨w.heap.size, 0, none⟩ = some (.iface 105 (.pointer (some ⟨g, 0, none⟩))) := KF0.out.cell 0
  have xf1 : W0.cell? ⟨w.heap.size, 1, none⟩ = some (.pointer (some ⟨b, 0, none⟩)) := KF0.out.cell 1
  have NM := Lib.hid (wmtid g K (l) b m A D c e W0 HS0.out KE0.out HBG.out HT.out (by have := HL.out; omega))
  go_wp2_with fail
  refine NM.out.mono ?_
  rintro e w1 ⟨rfl, hs, hk, ho⟩
  have KE1 := Lib.hid hk
  have KF1 := Lib.hid (ho.blk KF0.out (fun x => x.elim HFG.out.1 HFG.out.2))
  have HO1 := Lib.hid (HO0.out.trans ho)
  clear hk
  have HS1 := Lib.hid hs
  clear hs ho xf0 xf1 NM
  have xf0 : w1.drew.cell? ⟨w.heap.size, 0, none⟩ = some (.iface 105 (.pointer (some ⟨g, 0, none⟩))) := KF1.out.drew.cell 0
  have xf1 : w1.drew.cell? ⟨w.heap.size, 1, none⟩ = some (.pointer (some ⟨b, 0, none⟩)) := KF1.out.drew.cell 1
  have NM := Lib.hid (wmpend g K (l ++ enc m.tid.toNat) (.pointer (some ⟨b, 0, none⟩)) b 3 m.p w1.drew HS1.out.drew HBG.out KE1.out.drew.lt (mt_cell KE1.out.drew (j := 3) rfl) (mt_cell KE1.out.drew (j := 4) rfl) (mt_cell KE1.out.drew (j := 5) rfl) HP.out (by have := (wm_len (n := m.tid) (by have := HT.out; omega) HL.out); omega))
  go_wp2_with fail
  refine wp_region_qtail 5 (by kernel_rfl) (by kernel_rfl) ?_
  simp only [List.take_succ_cons, List.take_zero, List.drop_succ_cons, List.drop_zero]
  repeat (go_big_quiet_step (fail))
  refine wpQuiet_nil ?_
  go_wp2_with fail
  refine NM.out.mono ?_
  rintro e w2 ⟨rfl, hs, ho⟩
  have KE2 := Lib.hid (ho.blk KE1.out.drew HBG.out)
  have KF2 := Lib.hid (ho.blk KF1.out.drew HFG.out.1)
  have HO2 := Lib.hid (HO1.out.drew.trans (ho.mono (fun x _ hx => .inl hx)))
  have HS2 := Lib.hid hs
  clear hs ho xf0 xf1 NM
  go_wp2_with fail
  go_end0
  have hs := HS2.out
  try simp only [List.append_assoc] at hs
  exact ⟨rfl, hs, KE2.out, HO2.out⟩
end Go.Proofs.YtbpkckahonmpkaaGreatDoor
namespace Go.Proofs.YtbpkckahonmpkaaGreatDoor
open Go.RowKit
set_option maxRecDepth 100000 in
set_option maxHeartbeats 4000000 in
theorem wmstate (g K : Nat) (l : List UInt8) (b B : Nat) (m : Mt) (A D : Option Addr) (c e : Nat) (w : World) (h : WmS g K l w) (hE : Blk w b 42 (mtX m A D c e)) (hbg : b ≠ g) (ht : 0 ≤ m.tid ∧ m.tid ≤ 1048576)
    (hD : Reads w B 3 D m.c.qs.length (cellsP m.c.qs)) (hB : B ≤ g ∧ B ≤ b ∧ b < K ∧ B ≤ w.heap.size) (hm : mayB m.c = true) (hl : l.length ≤ 100) :
    Calls Tryz.prog 104 #[.agg #[.iface 105 (.pointer (some ⟨g, 0, none⟩)), .pointer (some ⟨b, 0, none⟩)]] w (WmE g K b (mtX m A D c e) (l ++ (enc m.tid.toNat ++ (enc m.c.st.toNat ++ (enc m.c.pid.toNat ++ (enc m.c.ep.toNat ++ (enc m.c.tm.toNat ++ (enc m.c.th.toNat ++ (enc ((m.c.qs.length : Int)).toNat ++ (m.c.qs.flatMap cPn.e ++ enc m.c.ag.toNat))))))))) w) := by
  have hbx := may_box hm
  obtain ⟨W0, hW0⟩ : ∃ W0, W0 = w.alloc (.cells #[.iface 105 (.pointer (some ⟨g, 0, none⟩)), .pointer (some ⟨b, 0, none⟩)] 114) := ⟨_, rfl⟩
  have KF0 := Lib.hid (show Blk W0 w.heap.size 114 #[.iface 105 (.pointer (some ⟨g, 0, none⟩)), .pointer (some ⟨b, 0, none⟩)] by rw [hW0]; exact Blk.new w 114 #[.iface 105 (.pointer (some ⟨g, 0, none⟩)), .pointer (some ⟨b, 0, none⟩)])
  have HS0 := Lib.hid (show WmS g K l W0 by rw [hW0]; exact h.alloc _)
  have KE0 := Lib.hid (show Blk W0 b 42 (mtX m A D c e) by rw [hW0]; exact hE.alloc _)
  have HO0 := Lib.hid (show Only (fun x => x = g ∨ x = b) w W0 by rw [hW0]; exact (Only.refl _ _).alloc _)
  have HBG := Lib.hid hbg
  have HL := Lib.hid hl
  have HW := Lib.hid hW0
  have HT := Lib.hid ht
  have HX := Lib.hid hbx
  have HD := Lib.hid hD
  have HB := Lib.hid hB
  have HLT := Lib.hid (And.intro h.lt hE.lt)
  have HFG := Lib.hid (show w.heap.size ≠ g ∧ w.heap.size ≠ b by have := h.lt; have := hE.lt; omega)
  have wc : IntKind.i64.wrap m.c.st = m.c.st := IntWalk.i64_in _ (by omega)
  have wc8 : IntKind.i8.wrap m.c.st = m.c.st := IntWalk.i8_in _ (by omega)
  have NM := Lib.hid (wmtid g K l b m A D c e W0 HS0.out KE0.out HBG.out HT.out (by have := HL.out; omega))
  have xf0 : W0.cell? ⟨w.heap.size, 0, none⟩ = some (.iface 105 (.pointer (some ⟨g, 0, none⟩))) := KF0.out.cell 0
  have xf1 : W0.cell? ⟨w.heap.size, 1, none⟩ = some (.pointer (some ⟨b, 0, none⟩)) := KF0.out.cell 1
  clear hW0 h hE hbg hl ht hbx hD hB hm
  go_enter Tryz.func104, Tryz.ntmps104
  go_upto_region 1 with (fail)
  rw [← HW.out]
  go_wp2_with fail
  refine NM.out.mono ?_
  rintro e w1 ⟨rfl, hs, hk, ho⟩
  have xc := mt_cell hk (j := 8) rfl
  have yf0 := (ho.blk KF0.out (fun x => x.elim HFG.out.1 HFG.out.2)).cell 0
  have yf1 := (ho.blk KF0.out (fun x => x.elim HFG.out.1 HFG.out.2)).cell 1
  have n1 : w1.heap.size ≠ g ∧ w1.heap.size ≠ b := by have := hs.lt; have := hk.lt; omega
  have N1 := Lib.hid n1
  have o2 := (HO0.out.trans ho).alloc (.cells #[.int .i64 m.c.st] 3)
  have kf2 := (ho.blk KF0.out (fun x => x.elim HFG.out.1 HFG.out.2)).alloc (.cells #[.int .i64 m.c.st] 3)
  have ke2 := hk.alloc (.cells #[.int .i64 m.c.st] 3)
  have kn2 := Blk.new w1 3 #[.int .i64 m.c.st]
  have hs2 := hs.alloc (.cells #[.int .i64 m.c.st] 3)
  obtain ⟨W2, hW2⟩ : ∃ W2, W2 = w1.alloc (.cells #[.int .i64 m.c.st] 3) := ⟨_, rfl⟩
  rw [← hW2] at o2 kf2 ke2 kn2 hs2
  have zf0 : (w1.alloc (.cells #[.int .i64 m.c.st] 3)).cell? ⟨w.heap.size, 0, none⟩ = some (.iface 105 (.pointer (some ⟨g, 0, none⟩))) := by rw [← hW2]; exact kf2.cell 0
  have HW2 := Lib.hid hW2
  have KF2 := Lib.hid kf2
  have KE2 := Lib.hid ke2
  have KN2 := Lib.hid kn2
  have HO2 := Lib.hid o2
  have nm := wmnum g K (l ++ enc m.tid.toNat) w1.heap.size 0 m.c.st 0 6 W2 hs2 (kn2.cell 0) (by have := HX.out; omega) (by have := HX.out; omega) (Nat.le_trans (wm_len (n := m.tid) (by have := HT.out; omega) HL.out) (by decide))
  rw [hW2] at nm
  have NM := Lib.hid nm
  clear xf0 xf1 hW2 kf2 ke2 kn2 o2 nm hs hk ho n1 hs2
  go_wp2_with fail
  refine NM.out.mono ?_
  rw [← HW2.out]
  rintro e w2 ⟨rfl, hs, ho⟩
  have zc := (ho.blk KN2.out N1.out.1).cell 0
  have ke := ho.blk KE2.out HBG.out
  have xe := ke.cell 8
  have fe := ke.frozen 8
  have HSA := Lib.hid (hs.set HB.out.2.2.1 (HBG.out) 8 (.int .i8 m.c.st))
  have KE3 := Lib.hid (show Blk (w2.setCell ⟨b, 8, none⟩ (.int .i8 m.c.st)) b 42 (mtX m A D c e) from ke.set_ 8 (.int .i8 m.c.st))
  have KF3 := Lib.hid ((ho.blk KF2.out HFG.out.1).far (p := ⟨b, 8, none⟩) HFG.out.2 (.int .i8 m.c.st))
  have HO3 := Lib.hid ((HO2.out.trans (ho.mono (fun x _ hx => .inl hx))).set (.inl (.inr rfl)) (o := 8) (.int .i8 m.c.st))
  have HS3 := HSA
  obtain ⟨W3, hW3⟩ : ∃ W3, W3 = w2.setCell ⟨b, 8, none⟩ (.int .i8 m.c.st) := ⟨_, rfl⟩
  rw [← hW3] at KE3 KF3 HO3 HS3
  have HW3 := Lib.hid hW3
  clear HSA hs ho ke hW3 zf0 xc yf0 yf1
  have xf0 : W3.drew.cell? ⟨w.heap.size, 0, none⟩ = some (.iface 105 (.pointer (some ⟨g, 0, none⟩))) := KF3.out.drew.cell 0
  have xc : W3.drew.cell? ⟨b, 9, none⟩ = some (.int .i64 m.c.pid) := mt_cell KE3.out.drew (j := 9) rfl
  have NM := Lib.hid (wmnum g K ((l ++ enc m.tid.toNat) ++ enc m.c.st.toNat) b 9 m.c.pid 0 8 W3.drew HS3.out.drew xc (by have := HX.out; omega) (by have := HX.out; omega) (Nat.le_trans (wm_len (n := m.c.st) (by have := HX.out; omega) (wm_len (n := m.tid) (by have := HT.out; omega) HL.out)) (by decide)))
  go_wp2_with fail
  rw [← HW3.out]
  go_wp2_with fail
  refine wp_region_qtail 7 (by kernel_rfl) (by kernel_rfl) ?_
  simp only [List.take_succ_cons, List.take_zero, List.drop_succ_cons, List.drop_zero]
  repeat (go_big_quiet_step (fail))
  refine wpQuiet_nil ?_
  go_wp2_with fail
  refine NM.out.mono ?_
  rintro e w4 ⟨rfl, hs, ho⟩
  have KE4 := Lib.hid (ho.blk KE3.out.drew HBG.out)
  have KF4 := Lib.hid (ho.blk KF3.out.drew HFG.out.1)
  have HO4 := Lib.hid (HO3.out.drew.trans (ho.mono (fun x _ hx => .inl hx)))
  have HS4 := Lib.hid hs
  clear hs ho xf0 NM xc zc xe fe
  have xf0 : w4.drew.cell? ⟨w.heap.size, 0, none⟩ = some (.iface 105 (.pointer (some ⟨g, 0, none⟩))) := KF4.out.drew.cell 0
  have xc : w4.drew.cell? ⟨b, 10, none⟩ = some (.int .i64 m.c.ep) := mt_cell KE4.out.drew (j := 10) rfl
  have NM := Lib.hid (wmnum g K (((l ++ enc m.tid.toNat) ++ enc m.c.st.toNat) ++ enc m.c.pid.toNat) b 10 m.c.ep 0 100 w4.drew HS4.out.drew xc (by have := HX.out; omega) (by have := HX.out; omega) (Nat.le_trans (wm_len (n := m.c.pid) (by have := HX.out; omega) (wm_len (n := m.c.st) (by have := HX.out; omega) (wm_len (n := m.tid) (by have := HT.out; omega) HL.out))) (by decide)))
  go_wp2_with fail
  refine wp_region_qtail 7 (by kernel_rfl) (by kernel_rfl) ?_
  simp only [List.take_succ_cons, List.take_zero, List.drop_succ_cons, List.drop_zero]
  repeat (go_big_quiet_step (fail))
  refine wpQuiet_nil ?_
  go_wp2_with fail
  refine NM.out.mono ?_
  rintro e w5 ⟨rfl, hs, ho⟩
  have KE5 := Lib.hid (ho.blk KE4.out.drew HBG.out)
  have KF5 := Lib.hid (ho.blk KF4.out.drew HFG.out.1)
  have HO5 := Lib.hid (HO4.out.drew.trans (ho.mono (fun x _ hx => .inl hx)))
  have HS5 := Lib.hid hs
  clear hs ho xf0 NM xc
  have xf0 : w5.drew.cell? ⟨w.heap.size, 0, none⟩ = some (.iface 105 (.pointer (some ⟨g, 0, none⟩))) := KF5.out.drew.cell 0
  have xc : w5.drew.cell? ⟨b, 11, none⟩ = some (.int .i64 m.c.tm) := mt_cell KE5.out.drew (j := 11) rfl
  have NM := Lib.hid (wmnum g K ((((l ++ enc m.tid.toNat) ++ enc m.c.st.toNat) ++ enc m.c.pid.toNat) ++ enc m.c.ep.toNat) b 11 m.c.tm 0 20 w5.drew HS5.out.drew xc (by have := HX.out; omega) (by have := HX.out; omega) (Nat.le_trans (wm_len (n := m.c.ep) (by have := HX.out; omega) (wm_len (n := m.c.pid) (by have := HX.out; omega) (wm_len (n := m.c.st) (by have := HX.out; omega) (wm_len (n := m.tid) (by have := HT.out; omega) HL.out)))) (by decide)))
  go_wp2_with fail
  refine wp_region_qtail 7 (by kernel_rfl) (by kernel_rfl) ?_
  simp only [List.take_succ_cons, List.take_zero, List.drop_succ_cons, List.drop_zero]
  repeat (go_big_quiet_step (fail))
  refine wpQuiet_nil ?_
  go_wp2_with fail
  refine NM.out.mono ?_
  rintro e w6 ⟨rfl, hs, ho⟩
  have KE6 := Lib.hid (ho.blk KE5.out.drew HBG.out)
  have KF6 := Lib.hid (ho.blk KF5.out.drew HFG.out.1)
  have HO6 := Lib.hid (HO5.out.drew.trans (ho.mono (fun x _ hx => .inl hx)))
  have HS6 := Lib.hid hs
  clear hs ho xf0 NM xc
  have xf0 : w6.drew.cell? ⟨w.heap.size, 0, none⟩ = some (.iface 105 (.pointer (some ⟨g, 0, none⟩))) := KF6.out.drew.cell 0
  have xc : w6.drew.cell? ⟨b, 12, none⟩ = some (.int .i64 m.c.th) := mt_cell KE6.out.drew (j := 12) rfl
  have NM := Lib.hid (wmnum g K (((((l ++ enc m.tid.toNat) ++ enc m.c.st.toNat) ++ enc m.c.pid.toNat) ++ enc m.c.ep.toNat) ++ enc m.c.tm.toNat) b 12 m.c.th 0 20 w6.drew HS6.out.drew xc (by have := HX.out; omega) (by have := HX.out; omega) (Nat.le_trans (wm_len (n := m.c.tm) (by have := HX.out; omega) (wm_len (n := m.c.ep) (by have := HX.out; omega) (wm_len (n := m.c.pid) (by have := HX.out; omega) (wm_len (n := m.c.st) (by have := HX.out; omega) (wm_len (n := m.tid) (by have := HT.out; omega) HL.out))))) (by decide)))
  go_wp2_with fail
  refine wp_region_qtail 7 (by kernel_rfl) (by kernel_rfl) ?_
  simp only [List.take_succ_cons, List.take_zero, List.drop_succ_cons, List.drop_zero]
  repeat (go_big_quiet_step (fail))
  refine wpQuiet_nil ?_
  go_wp2_with fail
  refine NM.out.mono ?_
  rintro e w7 ⟨rfl, hs, ho⟩
  have KE7 := Lib.hid (ho.blk KE6.out.drew HBG.out)
  have KF7 := Lib.hid (ho.blk KF6.out.drew HFG.out.1)
  have HO7 := Lib.hid (HO6.out.drew.trans (ho.mono (fun x _ hx => .inl hx)))
  have HS7 := Lib.hid hs
  clear hs ho xf0 NM xc
  have wn : IntKind.i64.wrap (m.c.qs.length : Int) = (m.c.qs.length : Int) := IntWalk.i64_in _ (by have := HX.out; omega)
  have xq := mt_cell KE7.out (j := 14) rfl
  obtain ⟨N, hN⟩ : ∃ N : Int, N = (m.c.qs.length : Int) := ⟨_, rfl⟩
  have n1 : w7.heap.size ≠ g ∧ w7.heap.size ≠ b := by have := HS7.out.lt; have := KE7.out.lt; omega
  have N1 := Lib.hid n1
  have o2 := HO7.out.alloc (.cells #[.int .i64 (m.c.qs.length : Int)] 3)
  have kf2 := KF7.out.alloc (.cells #[.int .i64 (m.c.qs.length : Int)] 3)
  have ke2 := KE7.out.alloc (.cells #[.int .i64 (m.c.qs.length : Int)] 3)
  have kn2 := Blk.new w7 3 #[.int .i64 (m.c.qs.length : Int)]
  have hs2 := HS7.out.alloc (.cells #[.int .i64 (m.c.qs.length : Int)] 3)
  obtain ⟨W8, hW8⟩ : ∃ W8, W8 = w7.alloc (.cells #[.int .i64 (m.c.qs.length : Int)] 3) := ⟨_, rfl⟩
  rw [← hW8] at o2 kf2 ke2 kn2 hs2
  have zf0 : (w7.alloc (.cells #[.int .i64 (m.c.qs.length : Int)] 3)).cell? ⟨w.heap.size, 0, none⟩ = some (.iface 105 (.pointer (some ⟨g, 0, none⟩))) := by rw [← hW8]; exact kf2.cell 0
  have HW8 := Lib.hid hW8
  have KF8 := Lib.hid kf2
  have KE8 := Lib.hid ke2
  have KN8 := Lib.hid kn2
  have HO8 := Lib.hid o2
  have nm := wmnum g K ((((((l ++ enc m.tid.toNat) ++ enc m.c.st.toNat) ++ enc m.c.pid.toNat) ++ enc m.c.ep.toNat) ++ enc m.c.tm.toNat) ++ enc m.c.th.toNat) w7.heap.size 0 (m.c.qs.length : Int) 0 6 W8 hs2 (kn2.cell 0) (by omega) (by have := HX.out; omega) (Nat.le_trans (wm_len (n := m.c.th) (by have := HX.out; omega) (wm_len (n := m.c.tm) (by have := HX.out; omega) (wm_len (n := m.c.ep) (by have := HX.out; omega) (wm_len (n := m.c.pid) (by have := HX.out; omega) (wm_len (n := m.c.st) (by have := HX.out; omega) (wm_len (n := m.tid) (by have := HT.out; omega) HL.out)))))) (by decide))
  rw [hW8] at nm
  have NM := Lib.hid nm
  clear hW8 kf2 ke2 kn2 o2 nm n1 hs2 hN
  go_wp2_with fail
  refine NM.out.mono ?_
  rw [← HW8.out]
  rintro e w9 ⟨rfl, hs, ho⟩
  have KN9 := Lib.hid (ho.blk KN8.out N1.out.1)
  have KE9 := Lib.hid (ho.blk KE8.out HBG.out)
  have KF9 := Lib.hid (ho.blk KF8.out HFG.out.1)
  have HO9 := Lib.hid (HO8.out.trans (ho.mono (fun x _ hx => .inl hx)))
  have HS9 := Lib.hid hs
  have HL9 := Lib.hid (show (((((((l ++ enc m.tid.toNat) ++ enc m.c.st.toNat) ++ enc m.c.pid.toNat) ++ enc m.c.ep.toNat) ++ enc m.c.tm.toNat) ++ enc m.c.th.toNat) ++ enc ((m.c.qs.length : Int)).toNat).length ≤ 121 from (wm_len (n := (m.c.qs.length : Int)) (by have := HX.out; omega) (wm_len (n := m.c.th) (by have := HX.out; omega) (wm_len (n := m.c.tm) (by have := HX.out; omega) (wm_len (n := m.c.ep) (by have := HX.out; omega) (wm_len (n := m.c.pid) (by have := HX.out; omega) (wm_len (n := m.c.st) (by have := HX.out; omega) (wm_len (n := m.tid) (by have := HT.out; omega) HL.out))))))))
  have HACC := Lib.hid (show (((((((l ++ enc m.tid.toNat) ++ enc m.c.st.toNat) ++ enc m.c.pid.toNat) ++ enc m.c.ep.toNat) ++ enc m.c.tm.toNat) ++ enc m.c.th.toNat) ++ enc ((m.c.qs.length : Int)).toNat) = l ++ (enc m.tid.toNat ++ (enc m.c.st.toNat ++ (enc m.c.pid.toNat ++ (enc m.c.ep.toNat ++ (enc m.c.tm.toNat ++ (enc m.c.th.toNat ++ enc ((m.c.qs.length : Int)).toNat)))))) by simp only [List.append_assoc])
  obtain ⟨L, hL⟩ : ∃ L, L = (((((((l ++ enc m.tid.toNat) ++ enc m.c.st.toNat) ++ enc m.c.pid.toNat) ++ enc m.c.ep.toNat) ++ enc m.c.tm.toNat) ++ enc m.c.th.toNat) ++ enc ((m.c.qs.length : Int)).toNat) := ⟨_, rfl⟩
  rw [← hL] at HS9 HL9 HACC
  clear hs ho hL zf0 NM xq
  have xn := KN9.out.cell 0
  have xq := mt_cell KE9.out (j := 14) rfl
  have dn : decide ((m.c.qs.length : Int) < (m.c.qs.length : Int)) = false := decide_eq_false (by omega)
  go_wp2_with fail
  clear xn xq
  go_loopg [] 1 (fun mm wq => wq = w9)
  case atStart => rfl
  case round =>
    obtain rfl := hrel
    have xn : wr.drew.cell? ⟨w7.heap.size, 0, none⟩ = some (.int .i64 (m.c.qs.length : Int)) := KN9.out.cell 0
    have xq : wr.drew.cell? ⟨b, 14, none⟩ = some (.slice D m.c.qs.length e) := mt_cell KE9.out.drew (j := 14) rfl
    go_wp2_with fail
    refine wp_region_qtail 6 (by kernel_rfl) (by kernel_rfl) ?_
    simp only [List.take_succ_cons, List.take_zero, List.drop_succ_cons, List.drop_zero]
    repeat (go_big_quiet_step (fail))
    refine wpQuiet_nil ?_
    go_wp2_with fail
    clear xn xq dn
    have HDR := Lib.hid ((HO9.out.drew.reads (HD.out) HB.out.2.2.2 (fun x hx hs => by have := HB.out; omega)))
    have KE10 := Lib.hid KE9.out.drew
    have KF10 := Lib.hid KF9.out.drew
    have HO10 := Lib.hid HO9.out.drew
    have HS10 := Lib.hid HS9.out.drew
    have hlt10 : w.heap.size < wr.drew.heap.size := by have := KF10.out.lt; exact this
    obtain ⟨W10, hW10⟩ : ∃ W10, W10 = wr.drew := ⟨_, rfl⟩
    rw [← hW10] at KE10 KF10 HO10 HS10 HDR hlt10 ⊢
    have HLT10 := Lib.hid hlt10
    clear hW10 KE9 KF9 HO9 HS9 KN9 hlt10
    have xq := mt_cell KE10.out (j := 14) rfl
    go_wp2_with fail
    clear xq
    go_loopg [87] m.c.qs.length (fun mm y wq => ∃ k : Nat, k ≤ m.c.qs.length ∧ y = .int .i64 k ∧ mm = m.c.qs.length - k ∧ WmS g K (L ++ (m.c.qs.take k).flatMap cPn.e) wq ∧ Blk wq b 42 (mtX m A D c e) ∧ Blk wq w.heap.size 114 #[.iface 105 (.pointer (some ⟨g, 0, none⟩)), .pointer (some ⟨b, 0, none⟩)] ∧ Only (fun x => x = g ∨ x = b) W10 wq)
    case atStart => exact ⟨0, by omega, rfl, by omega, by simpa using HS10.out, KE10.out, KF10.out, Only.refl _ _⟩
    case round =>
      obtain ⟨k, hk, rfl, hmm, hs, ke, kf, ho⟩ := hrel
      have HMM := Lib.hid hmm
      have HSk := Lib.hid hs
      have KEk := Lib.hid ke
      have KFk := Lib.hid kf
      have HOk := Lib.hid ho
      clear hmm hs ke kf ho
      by_cases hlt : k < m.c.qs.length
      · have d3 : decide ((k : Int) < (m.c.qs.length : Int)) = true := decide_eq_true (by omega)
        have i1 : (0 : Int) ≤ (k : Int) := by omega
        have i2 : (k : Int) < (m.c.qs.length : Int) := by omega
        obtain ⟨p, hp⟩ : ∃ p, m.c.qs[k]? = some p := ⟨_, List.getElem?_eq_getElem hlt⟩
        have hpb := List.all_eq_true.1 HX.out.2.2.2.2.2.2.1 p (List.mem_of_getElem? hp)
        obtain ⟨bD, off, hDe, hbD, hcells⟩ := HDR.out.plain3 (by omega)
        obtain ⟨c0, c1, c2⟩ := hcells k p hp
        have hbDg : bD ≠ g ∧ bD ≠ b ∧ bD < W10.heap.size := by have := HB.out; have := HLT10.out; omega
        have e0 : wr.drew.cell? ⟨bD, off + k * 3, none⟩ = some (.int .i64 p.1) := (HOk.out.drew.cell (p := ⟨bD, off + k * 3, none⟩) hbDg.2.2 (fun x => x.elim hbDg.1 hbDg.2.1)).trans c0
        have e1 : wr.drew.cell? ⟨bD, off + k * 3 + 1, none⟩ = some (.int .i64 p.2.1) := (HOk.out.drew.cell (p := ⟨bD, off + k * 3 + 1, none⟩) hbDg.2.2 (fun x => x.elim hbDg.1 hbDg.2.1)).trans c1
        have e2 : wr.drew.cell? ⟨bD, off + k * 3 + 2, none⟩ = some (.int .i64 p.2.2) := (HOk.out.drew.cell (p := ⟨bD, off + k * 3 + 2, none⟩) hbDg.2.2 (fun x => x.elim hbDg.1 hbDg.2.1)).trans c2
        have hlen : (L ++ (m.c.qs.take k).flatMap cPn.e).length ≤ 900 := by
          have := flat_le cPn.e 9 (m.c.qs.take k) (fun x hx => cPn_len (cPn_v (List.all_eq_true.1 HX.out.2.2.2.2.2.2.1 x (List.mem_of_mem_take hx))))
          have h6 := HX.out.2.2.2.2.2.2.2
          have h7 : (m.c.qs.take k).length ≤ 6 := by rw [List.length_take]; omega
          have := HL9.out
          rw [List.length_append]; omega
        have NM := Lib.hid (wmpend g K (L ++ (m.c.qs.take k).flatMap cPn.e) (.pointer (some ⟨b, 0, none⟩)) bD (off + k * 3) p wr.drew HSk.out.drew hbDg.1 (Nat.lt_of_lt_of_le hbDg.2.2 HOk.out.drew.size) e0 e1 e2 hpb hlen)
        have xq : wr.drew.cell? ⟨b, 14, none⟩ = some (.slice D m.c.qs.length e) := mt_cell KEk.out.drew (j := 14) rfl
        have xf0 : wr.drew.cell? ⟨w.heap.size, 0, none⟩ = some (.iface 105 (.pointer (some ⟨g, 0, none⟩))) := KFk.out.drew.cell 0
        have xf1 : wr.drew.cell? ⟨w.heap.size, 1, none⟩ = some (.pointer (some ⟨b, 0, none⟩)) := KFk.out.drew.cell 1
        have HP := Lib.hid hp
        rw [hDe] at xq
        have HDE := Lib.hid hDe
        clear hp hpb hcells c0 c1 c2 hbDg e0 e1 e2 hlen hDe
        go_wp2_with fail
        refine wp_region_qtail 7 (by kernel_rfl) (by kernel_rfl) ?_
        simp only [List.take_succ_cons, List.take_zero, List.drop_succ_cons, List.drop_zero]
        repeat (go_big_quiet_step (fail))
        refine wpQuiet_nil ?_
        go_wp2_with fail
        refine NM.out.mono ?_
        rintro e w11 ⟨rfl, hs, ho⟩
        have HSn := Lib.hid (show WmS g K (L ++ (m.c.qs.take (k + 1)).flatMap cPn.e) w11 from by
          rw [List.take_add_one, HP.out]
          simp only [Option.toList_some, List.flatMap_append, List.flatMap_cons, List.flatMap_nil, List.append_nil]
          rw [← List.append_assoc]
          exact hs)
        have KEn := Lib.hid (ho.blk KEk.out.drew HBG.out)
        have KFn := Lib.hid (ho.blk KFk.out.drew HFG.out.1)
        have HOn := Lib.hid (HOk.out.drew.trans (ho.mono (fun x _ hx => .inl hx)))
        clear hs ho xf0 xf1 xq NM
        go_wp2_with fail
        go_roundg (m.c.qs.length - k - 1)
        case measure => have := HMM.out; omega
        case rel => have h6 := HX.out.2.2.2.2.2.2.2; exact ⟨k + 1, by omega, by (first | (rw [IntWalk.wrap64_in _ (by omega)]; rfl) | (rw [IntWalk.i64_in _ (by omega)]; rfl)), by omega, HSn.out, KEn.out, KFn.out, HOn.out⟩
      · have hkn : k = m.c.qs.length := by omega
        have d3 : decide ((k : Int) < (m.c.qs.length : Int)) = false := decide_eq_false (by omega)
        have HSe := Lib.hid (show WmS g K (L ++ m.c.qs.flatMap cPn.e) wr from by have := HSk.out; rw [hkn, List.take_length] at this; exact this)
        have hlen : (L ++ m.c.qs.flatMap cPn.e).length ≤ 900 := by
          have := flat_le cPn.e 9 m.c.qs (fun x hx => cPn_len (cPn_v (List.all_eq_true.1 HX.out.2.2.2.2.2.2.1 x hx)))
          have h6 := HX.out.2.2.2.2.2.2.2
          have := HL9.out
          rw [List.length_append]; omega
        have xf0 : wr.drew.cell? ⟨w.heap.size, 0, none⟩ = some (.iface 105 (.pointer (some ⟨g, 0, none⟩))) := KFk.out.drew.cell 0
        have xc : wr.drew.cell? ⟨b, 15, none⟩ = some (.int .i64 m.c.ag) := mt_cell KEk.out.drew (j := 15) rfl
        have NM := Lib.hid (wmnum g K (L ++ m.c.qs.flatMap cPn.e) b 15 m.c.ag 0 1048576 wr.drew HSe.out.drew xc (by have := HX.out; omega) (by have := HX.out; omega) (by omega))
        clear hkn hlen
        go_wp2_with fail
        refine wp_region_qtail 7 (by kernel_rfl) (by kernel_rfl) ?_
        simp only [List.take_succ_cons, List.take_zero, List.drop_succ_cons, List.drop_zero]
        repeat (go_big_quiet_step (fail))
        refine wpQuiet_nil ?_
        go_wp2_with fail
        refine NM.out.mono ?_
        rintro e w11 ⟨rfl, hs, ho⟩
        have HSn := Lib.hid hs
        have KEn := Lib.hid (ho.blk KEk.out.drew HBG.out)
        have HOn := Lib.hid ((HO10.out.trans HOk.out.drew).trans (ho.mono (fun x _ hx => .inl hx)))
        clear hs ho xf0 xc NM
        go_wp2_with fail
        go_end0
        have hs := HSn.out
        rw [HACC.out] at hs
        simp only [List.append_assoc] at hs
        exact ⟨rfl, hs, KEn.out, HOn.out⟩
end Go.Proofs.YtbpkckahonmpkaaGreatDoor
