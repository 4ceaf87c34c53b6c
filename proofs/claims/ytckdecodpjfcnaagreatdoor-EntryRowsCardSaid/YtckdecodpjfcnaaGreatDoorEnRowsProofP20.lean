/-
  Layer 7: the loads of rows of entries, by the program and by the document.
  Layer 7: Great of entries.
  The statement EntryTells: its walk.
  Rows of texts compared by the document (layer 5).
  Layer 7: rows of entries in memory; which are too great; rows compared by the document.
  errors.As and errors.Is at an error of type entry.fault, which wraps its code.
-/
import Derived.Test.YtckdecodpjfcnaaGreatDoorEnRowsProofP19
import Derived.Deep.LoopGhost
set_option linter.unusedVariables false
set_option linter.unusedSimpArgs false
namespace Go.Proofs.YtckdecodpjfcnaaGreatDoor
open Go.RowKit

def bigR7 (r : Rec) : Bool := decide (200 < r.1.size) || decide (200 < r.2.size)
def headG (x : En) : Bool := decide (40 < x.b.rs.length) || (decide (200 < x.row.2.2.2.1.size) || (decide (200 < x.row.2.2.2.2.size) || decide (40 < x.prod.seen.length)))
/-- An entry that is too great. -/
def greatEn (x : En) : Bool := headG x || x.b.rs.any bigR7
theorem not_greatEn {x : En} (h : greatEn x = false) : x.b.rs.length ≤ 40 ∧ x.prod.seen.length ≤ 40 := by
  unfold greatEn headG at h
  simp only [Bool.or_eq_false_iff, decide_eq_false_iff_not] at h
  omega
set_option maxRecDepth 100000 in
set_option maxHeartbeats 2000000 in
theorem EnGreat_any (x : En) (A1 D1 : Option Addr) (c1 e1 : Nat) (w : World) (hr : Reads w w.heap.size 2 A1 x.b.rs.length (cellsR x.b.rs)) :
    Calls Tryz.prog 9 #[(.agg #[.int .i8 x.kd, .int .i64 x.b.pid, .int .i64 x.b.ep, .int .i64 x.b.seq, .bool x.b.txn, .slice A1 x.b.rs.length c1, .bool x.yes, .int .i64 x.nx, .int .i64 x.off, .int .i64 x.row.1, .int .i64 x.row.2.1, .int .i64 x.row.2.2.1, .string x.row.2.2.2.1, .string x.row.2.2.2.2, .int .i64 x.prod.pid, .int .i64 x.prod.ep, .int .i64 x.prod.nx, .slice D1 x.prod.seen.length e1])] w fun e w' => e = .returned (.bool (greatEn x)) ∧ Below w.heap.size w w' := by
  have HR := Lib.hid (hr.alloc (Nat.le_refl _) (.cells #[.int .i8 x.kd, .int .i64 x.b.pid, .int .i64 x.b.ep, .int .i64 x.b.seq, .bool x.b.txn, .slice A1 x.b.rs.length c1, .bool x.yes, .int .i64 x.nx, .int .i64 x.off, .int .i64 x.row.1, .int .i64 x.row.2.1, .int .i64 x.row.2.2.1, .string x.row.2.2.2.1, .string x.row.2.2.2.2, .int .i64 x.prod.pid, .int .i64 x.prod.ep, .int .i64 x.prod.nx, .slice D1 x.prod.seen.length e1] 32))
  have HB := Lib.hid (bal (Below.refl w.heap.size w) (.cells #[.int .i8 x.kd, .int .i64 x.b.pid, .int .i64 x.b.ep, .int .i64 x.b.seq, .bool x.b.txn, .slice A1 x.b.rs.length c1, .bool x.yes, .int .i64 x.nx, .int .i64 x.off, .int .i64 x.row.1, .int .i64 x.row.2.1, .int .i64 x.row.2.2.1, .string x.row.2.2.2.1, .string x.row.2.2.2.2, .int .i64 x.prod.pid, .int .i64 x.prod.ep, .int .i64 x.prod.nx, .slice D1 x.prod.seen.length e1] 32))
  have HG := Lib.hid (show greatEn x = (headG x || x.b.rs.any bigR7) from rfl)
  have HH := Lib.hid (show headG x = (decide (40 < x.b.rs.length) || (decide (200 < x.row.2.2.2.1.size) || (decide (200 < x.row.2.2.2.2.size) || decide (40 < x.prod.seen.length)))) from rfl)
  have kb := Blk.new w 32 #[.int .i8 x.kd, .int .i64 x.b.pid, .int .i64 x.b.ep, .int .i64 x.b.seq, .bool x.b.txn, .slice A1 x.b.rs.length c1, .bool x.yes, .int .i64 x.nx, .int .i64 x.off, .int .i64 x.row.1, .int .i64 x.row.2.1, .int .i64 x.row.2.2.1, .string x.row.2.2.2.1, .string x.row.2.2.2.2, .int .i64 x.prod.pid, .int .i64 x.prod.ep, .int .i64 x.prod.nx, .slice D1 x.prod.seen.length e1]
  have x5 := kb.cell 5
  have x12 := kb.cell 12
  have x13 := kb.cell 13
  have x17 := kb.cell 17
  clear hr kb
  by_cases h1 : 40 < x.b.rs.length
  · have d1 : decide ((40 : Int) < (x.b.rs.length : Int)) = true := by simp; omega
    have HF := Lib.hid (show greatEn x = true by rw [HG.out, HH.out, decide_eq_true h1]; rfl)
    clear h1
    go_enter Tryz.func9, Tryz.ntmps9
    go_wp2_with fail
    go_ret
    exact ⟨ret_bool HF.out.symm, HB.out⟩
  have d1 : decide ((40 : Int) < (x.b.rs.length : Int)) = false := by simp; omega
  by_cases h2 : 200 < x.row.2.2.2.1.size
  · have d2 : decide ((200 : Int) < (x.row.2.2.2.1.size : Int)) = true := by simp; omega
    have HF := Lib.hid (show greatEn x = true by rw [HG.out, HH.out, decide_eq_true h2, decide_eq_false h1]; rfl)
    clear h1 h2
    go_enter Tryz.func9, Tryz.ntmps9
    go_wp2_with fail
    go_ret
    exact ⟨ret_bool HF.out.symm, HB.out⟩
  have d2 : decide ((200 : Int) < (x.row.2.2.2.1.size : Int)) = false := by simp; omega
  by_cases h3 : 200 < x.row.2.2.2.2.size
  · have d3 : decide ((200 : Int) < (x.row.2.2.2.2.size : Int)) = true := by simp; omega
    have HF := Lib.hid (show greatEn x = true by rw [HG.out, HH.out, decide_eq_true h3, decide_eq_false h1, decide_eq_false h2]; rfl)
    clear h1 h2 h3
    go_enter Tryz.func9, Tryz.ntmps9
    go_wp2_with fail
    go_ret
    exact ⟨ret_bool HF.out.symm, HB.out⟩
  have d3 : decide ((200 : Int) < (x.row.2.2.2.2.size : Int)) = false := by simp; omega
  by_cases h4 : 40 < x.prod.seen.length
  · have d4 : decide ((40 : Int) < (x.prod.seen.length : Int)) = true := by simp; omega
    have HF := Lib.hid (show greatEn x = true by rw [HG.out, HH.out, decide_eq_true h4, decide_eq_false h1, decide_eq_false h2, decide_eq_false h3]; rfl)
    clear h1 h2 h3 h4
    go_enter Tryz.func9, Tryz.ntmps9
    go_wp2_with fail
    go_ret
    exact ⟨ret_bool HF.out.symm, HB.out⟩
  have d4 : decide ((40 : Int) < (x.prod.seen.length : Int)) = false := by simp; omega
  have HG2 := Lib.hid (show greatEn x = x.b.rs.any bigR7 by rw [HG.out, HH.out, decide_eq_false h1, decide_eq_false h2, decide_eq_false h3, decide_eq_false h4]; rfl)
  clear h2 h3 h4
  go_enter Tryz.func9, Tryz.ntmps9
  go_wp2_with fail
  generalize hW : w.alloc (.cells #[.int .i8 x.kd, .int .i64 x.b.pid, .int .i64 x.b.ep, .int .i64 x.b.seq, .bool x.b.txn, .slice A1 x.b.rs.length c1, .bool x.yes, .int .i64 x.nx, .int .i64 x.off, .int .i64 x.row.1, .int .i64 x.row.2.1, .int .i64 x.row.2.2.1, .string x.row.2.2.2.1, .string x.row.2.2.2.2, .int .i64 x.prod.pid, .int .i64 x.prod.ep, .int .i64 x.prod.nx, .slice D1 x.prod.seen.length e1] 32) = W at *
  clear hW
  go_loopw [3] (fun y wr => ∃ k : Nat, k ≤ x.b.rs.length ∧ y = .int .i64 k ∧ wr = W ∧ (x.b.rs.take k).any bigR7 = false) (fun y _ => x.b.rs.length - (intOf y).toNat)
  case atStart => exact ⟨0, Nat.zero_le _, rfl, rfl, by simp⟩
  case round =>
    obtain ⟨k, hk, rfl, rfl, hany⟩ := hrel
    have HANY := Lib.hid hany
    clear hany
    by_cases hlt : k < x.b.rs.length
    · have e1 : decide ((k : Int) < (x.b.rs.length : Int)) = true := by simp; omega
      obtain ⟨b1, o1, hA, _, hc1⟩ := HR.out.plain2 (by omega)
      obtain ⟨r, hx⟩ : ∃ z, x.b.rs[k]? = some z := ⟨_, List.getElem?_eq_getElem hlt⟩
      obtain ⟨g1, g2⟩ := hc1 k _ hx
      have HSN := Lib.hid (show (x.b.rs.take (k + 1)).any bigR7 = ((x.b.rs.take k).any bigR7 || bigR7 r) by rw [List.take_add_one, hx]; simp)
      have HBW := Lib.hid (show bigR7 r = (decide (200 < r.1.size) || decide (200 < r.2.size)) from rfl)
      have HMEM := Lib.hid (List.mem_of_getElem? hx)
      have i1 : (0 : Int) ≤ (k : Int) := by omega
      have i2 : (k : Int) < (x.b.rs.length : Int) := by omega
      clear hc1 hx
      subst hA
      by_cases hb1 : 200 < r.1.size
      · have f2 : decide ((200 : Int) < (r.1.size : Int)) = true := by simp; omega
        have HF := Lib.hid (show greatEn x = true by rw [HG2.out, List.any_eq_true]; exact ⟨r, HMEM.out, by rw [HBW.out]; simp [hb1]⟩)
        go_wp2_with fail
        go_ret
        exact ⟨ret_bool HF.out.symm, HB.out⟩
      have f2 : decide ((200 : Int) < (r.1.size : Int)) = false := by simp; omega
      by_cases hb2 : 200 < r.2.size
      · have f3 : decide ((200 : Int) < (r.2.size : Int)) = true := by simp; omega
        have HF := Lib.hid (show greatEn x = true by rw [HG2.out, List.any_eq_true]; exact ⟨r, HMEM.out, by rw [HBW.out]; simp [hb2]⟩)
        go_wp2_with fail
        go_ret
        exact ⟨ret_bool HF.out.symm, HB.out⟩
      have f3 : decide ((200 : Int) < (r.2.size : Int)) = false := by simp; omega
      go_wp2_with fail
      go_roundw
      case rel => exact ⟨k + 1, by omega, by go_num, trivial, by rw [HSN.out, HANY.out, HBW.out]; simp [hb1, hb2]⟩
      case measure => simp [intOf]; omega
    · obtain rfl : k = x.b.rs.length := by omega
      have e1 : decide ((x.b.rs.length : Int) < (x.b.rs.length : Int)) = false := by simp
      have HF := Lib.hid (show greatEn x = false by rw [HG2.out]; have := HANY.out; rwa [List.take_length] at this)
      go_wp2_with fail
      go_ret
      exact ⟨ret_bool HF.out.symm, HB.out⟩
end Go.Proofs.YtckdecodpjfcnaaGreatDoor
namespace Go.Proofs.YtckdecodpjfcnaaGreatDoor
open Go.RowKit

/-- Two entries and two producers lie in memory. -/
def TellM (w : World) (X Y P Q : Array Value) (W : World) : Prop :=
  Below w.heap.size w W ∧ Blk W w.heap.size 32 X ∧ Blk W (w.heap.size + 1) 32 Y ∧ Blk W (w.heap.size + 1 + 1) 30 P ∧ Blk W (w.heap.size + 1 + 1 + 1) 30 Q
theorem TellM.below {w W W' : World} {X Y P Q : Array Value} (h : TellM w X Y P Q W) (k : Below W.heap.size W W') : TellM w X Y P Q W' :=
  ⟨btrans h.1 k, h.2.1.below k h.2.1.lt, h.2.2.1.below k h.2.2.1.lt, h.2.2.2.1.below k h.2.2.2.1.lt, h.2.2.2.2.below k h.2.2.2.2.lt⟩
theorem TellM.b {w W : World} {X Y P Q : Array Value} (h : TellM w X Y P Q W) : Below w.heap.size w W := h.1
def TellS (w : World) (X Y P Q : Array Value) (W : World) : Prop :=
  TellM w X Y P Q W ∧ (loadCells ⟨w.heap.size, 0, none⟩ 18).run Tryz.prog W = .ok X W ∧ (loadCells ⟨w.heap.size + 1, 0, none⟩ 18).run Tryz.prog W = .ok Y W ∧ (loadCells ⟨w.heap.size + 1 + 1, 0, none⟩ 4).run Tryz.prog W = .ok P W ∧ (loadCells ⟨w.heap.size + 1 + 1 + 1, 0, none⟩ 4).run Tryz.prog W = .ok Q W
theorem cells_any {W : World} {b : Nat} {t : TypeId} {cs : Array Value} (n : Nat) (h : Blk W b t cs) (hn : cs.size = n) : (loadCells ⟨b, 0, none⟩ n).run Tryz.prog W = .ok cs W := by
  have := cells_off (cs := cs.toList) (show Blk W b t cs.toList.toArray from h) 0 n (vs := cs.toList) (by rw [List.drop_zero, List.take_of_length_le (by simp; omega)]) (by simpa using hn)
  simpa using this
theorem TellM.all {w W : World} {X Y P Q : Array Value} (h : TellM w X Y P Q W) (h1 : X.size = 18) (h2 : Y.size = 18) (h3 : P.size = 4) (h4 : Q.size = 4) : TellS w X Y P Q W :=
  ⟨h, cells_any 18 h.2.1 h1, cells_any 18 h.2.2.1 h2, cells_any 4 h.2.2.2.1 h3, cells_any 4 h.2.2.2.2 h4⟩
section
attribute [-go_sem] loadCells
end
end Go.Proofs.YtckdecodpjfcnaaGreatDoor
namespace Go.Proofs.YtckdecodpjfcnaaGreatDoor
open Go.RowKit
section
set_option maxRecDepth 100000 in
set_option maxHeartbeats 4000000 in
/-- A row of texts beside itself. -/
theorem texts_self (r : List ByteArray) (A C : Option Addr) (c d : Nat) (w : World) (h1 : Reads w w.heap.size 1 A r.length (cellsS r)) (h2 : Reads w w.heap.size 1 C r.length (cellsS r)) (hn : r.length ≤ 10000) :
    Calls Tryz.prog 28 #[.slice A r.length c, .slice C r.length d] w fun e w' => e = .returned (.bool true) ∧ Below w.heap.size w w' := by
  have H1 := Lib.hid h1
  have H2 := Lib.hid h2
  have HN := Lib.hid hn
  clear h1 h2 hn
  go_enter Tryz.func28, Tryz.ntmps28
  go_wp2_with fail
  go_loopg [5] r.length (fun mm y wq => ∃ k : Nat, k ≤ r.length ∧ y = .int .i64 k ∧ mm = r.length - k ∧ Below w.heap.size w wq)
  case atStart => exact ⟨0, Nat.zero_le _, rfl, rfl, Below.refl _ _⟩
  case round =>
    obtain ⟨k, hk, rfl, hmm, hbw⟩ := hrel
    have HMM := Lib.hid hmm
    have BW' := Lib.hid hbw
    clear hmm hbw
    by_cases hlt : k < r.length
    · have d1 : decide ((k : Int) < (r.length : Int)) = true := decide_eq_true (by omega)
      have i1 : (0 : Int) ≤ (k : Int) := by omega
      have i2 : (k : Int) < (r.length : Int) := by omega
      obtain ⟨p, hp⟩ : ∃ p, r[k]? = some p := ⟨_, List.getElem?_eq_getElem hlt⟩
      obtain ⟨b1, o1, hA1, _, hc1⟩ := (H1.out.below (BW'.out.drew)).plain (by omega)
      obtain ⟨b2, o2, hA2, _, hc2⟩ := (H2.out.below (BW'.out.drew)).plain (by omega)
      subst hA1; subst hA2
      have x1 := hc1 k (.string p) (by rw [getElem?_cellsS, hp]; rfl)
      have y1 := hc2 k (.string p) (by rw [getElem?_cellsS, hp]; rfl)
      clear hc1 hc2 hp
      go_wp2_with fail
      refine wp_region_qtail 8 (by kernel_rfl) (by kernel_rfl) ?_
      simp only [List.take_succ_cons, List.take_zero, List.drop_succ_cons, List.drop_zero]
      repeat (go_big_quiet_step (fail))
      refine wpQuiet_nil ?_
      go_wp2_with fail
      go_roundg (r.length - k - 1)
      case measure => have := HMM.out; omega
      case rel => have := HN.out; exact ⟨k + 1, by omega, by (first | rfl | (rw [IntWalk.wrap64_in _ (by omega)]; rfl) | (rw [IntWalk.i64_in _ (by omega)]; rfl)), by omega, BW'.out.drew⟩
    · have d1 : decide ((k : Int) < (r.length : Int)) = false := decide_eq_false (by omega)
      go_wp2_with fail
      go_ret
      exact ⟨rfl, BW'.out⟩
end
end Go.Proofs.YtckdecodpjfcnaaGreatDoor
namespace Go.Proofs.YtckdecodpjfcnaaGreatDoor
open Go.RowKit
def enL (x : En) (A5 D5 : Option Addr) (c5 e5 : Nat) : List Value := [.int .i8 x.kd, .int .i64 x.b.pid, .int .i64 x.b.ep, .int .i64 x.b.seq, .bool x.b.txn, .slice A5 x.b.rs.length c5, .bool x.yes, .int .i64 x.nx, .int .i64 x.off, .int .i64 x.row.1, .int .i64 x.row.2.1, .int .i64 x.row.2.2.1, .string x.row.2.2.2.1, .string x.row.2.2.2.2, .int .i64 x.prod.pid, .int .i64 x.prod.ep, .int .i64 x.prod.nx, .slice D5 x.prod.seen.length e5]
def enX (x : En) (A5 D5 : Option Addr) (c5 e5 : Nat) : Array Value := (enL x A5 D5 c5 e5).toArray
theorem enX_size (x : En) (A D : Option Addr) (c e : Nat) : (enX x A D c e).size = 18 := rfl
theorem enX_one (x : En) (A D : Option Addr) (c e : Nat) : (enX x A D c e).all (·.oneCell') = true := by
  simp [enX, enL, Value.oneCell']
structure EnM where
  x : En
  A : Option Addr
  D : Option Addr
  c : Nat
  e : Nat
def cE7 (y : EnM) : List Value := enL y.x y.A y.D y.c y.e
def cellsE7 (l : List EnM) : List Value := l.flatMap cE7
theorem cE7_len (y : EnM) : (cE7 y).length = 18 := rfl
theorem cellsE7_cons (y : EnM) (l : List EnM) : cellsE7 (y :: l) = cE7 y ++ cellsE7 l := by simp [cellsE7]
theorem cellsE7_snoc (l : List EnM) (y : EnM) : cellsE7 (l ++ [y]) = cellsE7 l ++ cE7 y := by simp [cellsE7]
theorem cE7_one (y : EnM) : ∀ u ∈ cE7 y, u.oneCell' = true := by
  intro u hu
  have := enX_one y.x y.A y.D y.c y.e
  rw [Array.all_eq_true_iff_forall_mem] at this
  exact this u (by unfold enX; simpa [cE7] using hu)
theorem length_cellsE7 : ∀ l : List EnM, (cellsE7 l).length = l.length * 18
  | [] => rfl
  | m :: l => by rw [cellsE7_cons, List.length_append, length_cellsE7 l, List.length_cons, cE7_len]; omega
theorem cellsE7_at : ∀ (l : List EnM) (i : Nat) (m : EnM) (j : Nat), l[i]? = some m → j < 18 → (cellsE7 l)[i * 18 + j]? = (cE7 m)[j]?
  | [], i, m, j, h, _ => by simp at h
  | x :: l, 0, m, j, h, hj => by
    simp at h
    subst h
    rw [show (0 * 18 + j) = j by omega, cellsE7_cons]
    exact List.getElem?_append_left (by rw [cE7_len]; exact hj)
  | x :: l, i + 1, m, j, h, hj => by
    have := cellsE7_at l i m j (by simpa using h) hj
    rw [cellsE7_cons, List.getElem?_append_right (by rw [cE7_len]; omega), ← this, cE7_len]
    congr 1
    omega
theorem Reads.plain18 {w : World} {B n : Nat} {A : Option Addr} {l : List EnM} (h : Reads w B 18 A n (cellsE7 l)) (hn : 0 < n) :
    ∃ b off, A = some ⟨b, off, none⟩ ∧ b < B ∧ ∀ i m, l[i]? = some m → (loadCells ⟨b, off + i * 18, none⟩ 18).run Tryz.prog w = .ok (enX m.x m.A m.D m.c m.e) w := by
  obtain ⟨ad, rfl, hb, hc⟩ := h.2 hn
  obtain ⟨b, off, spot⟩ := ad
  have hl : 0 < (cellsE7 l).length := by have := h.1; omega
  have h0 := hc 0 _ (List.getElem?_eq_getElem hl)
  have hs : spot = none := by simpa [Addr.add] using World.cell?_spot h0
  subst hs
  refine ⟨b, off, rfl, hb, fun i m hm => ?_⟩
  exact run_loadCells_list (P := Tryz.prog) w ⟨b, off + i * 18, none⟩ (cE7 m) (fun j v hv => by
    have hj : j < 18 := (List.getElem?_eq_some_iff.1 hv).1
    have k1 := hc _ _ ((cellsE7_at l i m j hm hj).trans hv)
    rw [add_none] at k1
    rw [add_none, Nat.add_assoc]; exact k1)
theorem Reads.load18 {w : World} {B n b o : Nat} {l : List EnM} (h : Reads w B 18 (some ⟨b, o, none⟩) n (cellsE7 l)) (hn : 0 < n) (i : Nat) (m : EnM) (hm : l[i]? = some m) :
    (loadCells ⟨b, o + i * 18, none⟩ 18).run Tryz.prog w = .ok (enX m.x m.A m.D m.c m.e) w := by
  obtain ⟨b', o', he, _, hc⟩ := h.plain18 hn
  injection he with he
  injection he with h1 h2
  subst h1
  subst h2
  exact hc i m hm
theorem en_load {W : World} {b : Nat} {t : TypeId} {x : En} {A D : Option Addr} {c e : Nat} (h : Blk W b t (enX x A D c e)) : (loadCells ⟨b, 0, none⟩ 18).run Tryz.prog W = .ok (enX x A D c e) W :=
  cells_blk (cs := enL x A D c e) h rfl
theorem fresh_enX (w1 : World) (x : En) (A D : Option Addr) (c e : Nat) :
    ∃ W', (storeVar 32 ⟨w1.heap.size, 0, none⟩ (.agg (enX x A D c e))).run Tryz.prog (w1.alloc (.cells #[.int .i8 0, .int .i64 0, .int .i64 0, .int .i64 0, .bool false, .slice none 0 0, .bool false, .int .i64 0, .int .i64 0, .int .i64 0, .int .i64 0, .int .i64 0, .string ⟨#[]⟩, .string ⟨#[]⟩, .int .i64 0, .int .i64 0, .int .i64 0, .slice none 0 0] 32)) = .ok () W' ∧ Blk W' w1.heap.size 32 (enX x A D c e) ∧ Below w1.heap.size w1 W' :=
  fresh_en w1 (enX x A D c e) (enX_size ..) (enX_one ..)
/-- What is known of the lists of a row of entries. -/
def EnsR (w : World) (l : List EnM) : Prop := ∀ y ∈ l, EnR w y.x y.A y.D
theorem EnsR.up {w w' : World} {l : List EnM} (h : EnsR w l) (hb : Below w.heap.size w w') : EnsR w' l := fun y hy => (h y hy).up hb
def EnRaw (w : World) (x : En) (A D : Option Addr) : Prop := Reads w w.heap.size 2 A x.b.rs.length (cellsR x.b.rs) ∧ Reads w w.heap.size 3 D x.prod.seen.length (cellsN x.prod.seen)
theorem EnRaw.up {w w' : World} {x : En} {A D : Option Addr} (h : EnRaw w x A D) (hb : Below w.heap.size w w') : EnRaw w' x A D := ⟨(h.1.below hb).more hb.size, (h.2.below hb).more hb.size⟩
theorem EnRaw.en {w : World} {x : En} {A D : Option Addr} (h : EnRaw w x A D) (hb : greatEn x = false) : EnR w x A D := by
  have := not_greatEn hb
  exact ⟨h.1, h.2, by omega, by omega⟩
noncomputable def bytesE (x : En) : List UInt8 × Int := if mayEn x = true then (encEn x, 0) else ([], 2)
theorem enBytes_X (x : En) (A D : Option Addr) (c e : Nat) (w : World) (hg : HasET w) (hr : EnR w x A D) :
    Calls Tryz.prog 11 #[.agg (enX x A D c e)] w (EbPost (bytesE x).1 (bytesE x).2 w) := by
  unfold bytesE
  cases hm : mayEn x
  · rw [if_neg (by decide)]
    exact EnBytes_no x hm A D c e w hr
  · rw [if_pos rfl]
    exact EnBytes_any x hm A D c e w hg hr
theorem rEnBytes_X (x : En) (A D : Option Addr) (c e : Nat) (w : World) (hr : EnR w x A D) :
    Calls Tryz.prog 12 #[.agg (enX x A D c e)] w (EbPost (bytesE x).1 (bytesE x).2 w) := by
  unfold bytesE
  cases hm : mayEn x
  · rw [if_neg (by decide)]
    exact rEnBytes_no x hm A D c e w hr
  · rw [if_pos rfl]
    exact rEnBytes_any x hm A D c e w hr
theorem rGreat07_X (x : En) (A D : Option Addr) (c e : Nat) (w : World) (hr : EnRaw w x A D) :
    Calls Tryz.prog 9 #[.agg (enX x A D c e)] w fun e w' => e = .returned (.bool (greatEn x)) ∧ Below w.heap.size w w' :=
  EnGreat_any x A D c e w hr.1
theorem rSame07_X (x y : En) (hxy : x = y) (A D A2 D2 : Option Addr) (c e c2 e2 : Nat) (w : World) (h1 : EnR w x A D) (h2 : EnR w y A2 D2) :
    Calls Tryz.prog 16 #[.agg (enX x A D c e), .agg (enX y A2 D2 c2 e2)] w fun e w' => e = .returned (.bool true) ∧ Below w.heap.size w w' := by
  have := rEnSame_any x y A D A2 D2 c e c2 e2 w h1 h2
  rw [(sameEn_iff x y).2 hxy] at this
  exact this
def bigLE (l : List EnM) : Bool := decide (200 < l.length) || l.any fun y => greatEn y.x
theorem bigLE_no {l : List EnM} (h : bigLE l = false) : l.length ≤ 200 ∧ ∀ y ∈ l, greatEn y.x = false := by
  unfold bigLE at h
  simp only [Bool.or_eq_false_iff, decide_eq_false_iff_not, Nat.not_lt, List.any_eq_false] at h
  exact ⟨h.1, fun y hy => by have := h.2 y hy; simpa using this⟩
section
attribute [-go_sem] loadCells storeVar
set_option maxRecDepth 100000 in
set_option maxHeartbeats 4000000 in
theorem great07_any (l : List EnM) (A : Option Addr) (c : Nat) (w : World) (hr : Reads w w.heap.size 18 A l.length (cellsE7 l)) (hm : ∀ y ∈ l, EnRaw w y.x y.A y.D) :
    Calls Tryz.prog 23 #[.slice A l.length c] w fun e w' => e = .returned (.bool (bigLE l)) ∧ Below w.heap.size w w' := by
  have HR := Lib.hid hr
  have HM := Lib.hid hm
  clear hr hm
  by_cases h2 : 200 < l.length
  · have d2 : decide ((200 : Int) < (l.length : Int)) = true := decide_eq_true (by omega)
    have hb : bigLE l = true := by unfold bigLE; rw [decide_eq_true h2, Bool.true_or]
    rw [hb]
    clear h2 hb
    go_enter Tryz.func23, Tryz.ntmps23
    go_wp2_with fail
    go_ret
    exact ⟨rfl, Below.refl _ _⟩
  · have d2 : decide ((200 : Int) < (l.length : Int)) = false := decide_eq_false (by omega)
    have HL := Lib.hid (show l.length ≤ 200 by omega)
    clear h2
    go_enter Tryz.func23, Tryz.ntmps23
    go_wp2_with fail
    go_loopg [3] l.length (fun mm y wq => ∃ k : Nat, k ≤ l.length ∧ y = .int .i64 k ∧ mm = l.length - k ∧ (∀ y ∈ l.take k, greatEn y.x = false) ∧ Below w.heap.size w wq)
    case atStart => exact ⟨0, Nat.zero_le _, rfl, rfl, fun y hy => by simp at hy, Below.refl _ _⟩
    case round =>
      obtain ⟨k, hk, rfl, hmm, hno, hbw⟩ := hrel
      have HMM := Lib.hid hmm
      have HNO := Lib.hid hno
      have BW' := Lib.hid hbw
      clear hmm hno hbw
      by_cases hlt : k < l.length
      · have d1 : decide ((k : Int) < (l.length : Int)) = true := decide_eq_true (by omega)
        have i1 : (0 : Int) ≤ (k : Int) := by omega
        have i2 : (k : Int) < (l.length : Int) := by omega
        obtain ⟨y, hy⟩ : ∃ y, l[k]? = some y := ⟨_, List.getElem?_eq_getElem hlt⟩
        obtain ⟨b, off, hA, hbB, hcells⟩ := (HR.out.below BW'.out).plain18 (by omega)
        subst hA
        have ld := hcells k y hy
        have HY := Lib.hid hy
        cases hu : greatEn y.x
        · have GR := rGreat07_X y.x y.A y.D y.c y.e wr ((HM.out y (List.mem_of_getElem? hy)).up BW'.out)
          rw [hu] at GR
          have GR := Lib.hid GR
          have HU := Lib.hid hu
          clear hcells hy hu
          go_wp2_with fail
          refine GR.out.mono ?_
          rintro e w3 ⟨rfl, b3⟩
          have B3 := Lib.hid (BW'.out.trans (b3.mono BW'.out.size))
          clear b3 ld
          go_wp2_with fail
          go_roundg (l.length - k - 1)
          case measure => have := HMM.out; omega
          case rel =>
            have := HL.out
            refine ⟨k + 1, by omega, by (first | rfl | (rw [IntWalk.wrap64_in _ (by omega)]; rfl) | (rw [IntWalk.i64_in _ (by omega)]; rfl)), by omega, fun z hz => ?_, B3.out⟩
            rw [List.take_add_one, HY.out] at hz
            simp only [Option.toList_some, List.mem_append, List.mem_cons, List.not_mem_nil, or_false] at hz
            rcases hz with h | h
            · exact HNO.out z h
            · rw [h]; exact HU.out
        · have GR := rGreat07_X y.x y.A y.D y.c y.e wr ((HM.out y (List.mem_of_getElem? hy)).up BW'.out)
          rw [hu] at GR
          have GR := Lib.hid GR
          have HT := Lib.hid (show bigLE l = true by
            unfold bigLE
            rw [Bool.or_eq_true, List.any_eq_true]
            exact .inr ⟨y, List.mem_of_getElem? hy, hu⟩)
          clear hcells hy hu
          go_wp2_with fail
          refine GR.out.mono ?_
          rintro e w3 ⟨rfl, b3⟩
          have B3 := Lib.hid (BW'.out.trans (b3.mono BW'.out.size))
          clear b3 ld
          go_wp2_with fail
          go_ret
          rw [HT.out]
          exact ⟨rfl, B3.out⟩
      · have hkn : k = l.length := by omega
        have d1 : decide ((k : Int) < (l.length : Int)) = false := decide_eq_false (by omega)
        have HF := Lib.hid (show bigLE l = false by
          have h := HNO.out
          rw [hkn, List.take_length] at h
          unfold bigLE
          rw [Bool.or_eq_false_iff, List.any_eq_false]
          exact ⟨decide_eq_false (by have := HL.out; omega), fun y hy => by rw [h y hy]; decide⟩)
        go_wp2_with fail
        go_ret
        rw [HF.out]
        exact ⟨rfl, BW'.out⟩
theorem map_at7 {l m : List EnM} (h : l.map (·.x) = m.map (·.x)) (k : Nat) (y : EnM) (hy : l[k]? = some y) : ∃ z, m[k]? = some z ∧ z.x = y.x := by
  have h1 := congrArg (·[k]?) h
  simp only [List.getElem?_map, hy, Option.map_some] at h1
  cases hz : m[k]? with
  | none => rw [hz] at h1; simp at h1
  | some z => rw [hz] at h1; simp only [Option.map_some, Option.some.injEq] at h1; exact ⟨z, rfl, h1.symm⟩
set_option maxRecDepth 100000 in
set_option maxHeartbeats 4000000 in
theorem sameAll07 (l m : List EnM) (N : Nat) (hl : l.length = N) (h : l.map (·.x) = m.map (·.x)) (A C : Option Addr) (c d : Nat) (w : World) (h1 : Reads w w.heap.size 18 A N (cellsE7 l)) (h2 : Reads w w.heap.size 18 C N (cellsE7 m)) (r1 : EnsR w l) (r2 : EnsR w m) (hn : N ≤ 10000) :
    Calls Tryz.prog 29 #[.slice A N c, .slice C N d] w fun e w' => e = .returned (.bool true) ∧ Below w.heap.size w w' := by
  have HL := Lib.hid hl
  have HH := Lib.hid h
  have H1 := Lib.hid h1
  have H2 := Lib.hid h2
  have R1 := Lib.hid r1
  have R2 := Lib.hid r2
  have HN := Lib.hid hn
  clear hl h h1 h2 r1 r2 hn
  go_enter Tryz.func29, Tryz.ntmps29
  go_wp2_with fail
  go_loopg [5] N (fun mm y wq => ∃ k : Nat, k ≤ N ∧ y = .int .i64 k ∧ mm = N - k ∧ Below w.heap.size w wq)
  case atStart => exact ⟨0, Nat.zero_le _, rfl, rfl, Below.refl _ _⟩
  case round =>
    obtain ⟨k, hk, rfl, hmm, hbw⟩ := hrel
    have HMM := Lib.hid hmm
    have BX := Lib.hid hbw
    clear hmm hbw
    by_cases hlt : k < N
    · have d1 : decide ((k : Int) < (N : Int)) = true := decide_eq_true (by omega)
      have i1 : (0 : Int) ≤ (k : Int) := by omega
      have i2 : (k : Int) < (N : Int) := by omega
      obtain ⟨y, hy⟩ : ∃ y, l[k]? = some y := ⟨_, List.getElem?_eq_getElem (by rw [HL.out]; exact hlt)⟩
      obtain ⟨z, hz, hzx⟩ := map_at7 HH.out k y hy
      obtain ⟨b1, o1, hA1, hb1, hq1⟩ := (H1.out.below BX.out).plain18 (by omega)
      obtain ⟨b2, o2, hA2, hb2, hq2⟩ := (H2.out.below BX.out).plain18 (by omega)
      subst hA1
      subst hA2
      have RX1 := Lib.hid ((H1.out.below BX.out).more BX.out.size)
      have RX2 := Lib.hid ((H2.out.below BX.out).more BX.out.size)
      have lx := fun q : BW wr.heap.size wr => (RX1.out.below q.2).load18 (by omega) k y hy
      have ly := fun q : BW wr.heap.size wr => (RX2.out.below q.2).load18 (by omega) k z hz
      have SA := Lib.hid (fun W (h : Below wr.heap.size wr W) => rSame07_X y.x z.x hzx.symm y.A y.D z.A z.D y.c y.e z.c z.e W ((R1.out.up BX.out y (List.mem_of_getElem? hy)).up h) ((R2.out.up BX.out z (List.mem_of_getElem? hz)).up h))
      clear hq1 hq2 hy hz hzx hb1 hb2
      go_wp2_with fail
      refine wp_region_bq wr.heap.size (by kernel_rfl) (by kernel_rfl) ?_
      repeat (go_big_quiet_step (fail))
      go_big_quiet_want
      go_big_quiet_op
      refine ⟨_, fun m => bw_call (Nat.le_refl _) (SA.out m.1 m.2), ?_⟩
      go_big_quiet_on
      repeat (go_big_quiet_step (fail))
      refine wpQuiet_nil ?_
      rintro _ ⟨q, rfl⟩
      have BN := Lib.hid (BX.out.trans (q.2.mono BX.out.size))
      clear lx ly
      go_wp2_with fail
      go_roundg (N - k - 1)
      case measure => have := HMM.out; omega
      case rel =>
        have := HN.out
        refine ⟨k + 1, by omega, by (first | rfl | (rw [IntWalk.wrap64_in _ (by omega)]; rfl) | (rw [IntWalk.i64_in _ (by omega)]; rfl)), by omega, BN.out⟩
    · have d1 : decide ((k : Int) < (N : Int)) = false := decide_eq_false (by omega)
      go_wp2_with fail
      go_ret
      exact ⟨rfl, BX.out⟩
end
end Go.Proofs.YtckdecodpjfcnaaGreatDoor
namespace Go.Proofs.YtckdecodpjfcnaaGreatDoor.ErEn
open Go.RowKit Go.Stop Go.Extern

theorem asTypeOfB (v : Value) (w : World) : (callFunc 97 #[.iface 121 v]).run Tryz.prog w = .ok (.value (.iface 162 (.agg #[.pointer (some ⟨1, 121, none⟩)]))) w := by kernel_rfl
theorem asAssignB (w : World) : (callFunc 150 #[.agg #[.pointer (some ⟨1, 121, none⟩)], .iface 162 (.agg #[.pointer (some ⟨1, 35, none⟩)])]).run Tryz.prog w = .ok (.value (.bool false)) w := by kernel_rfl
theorem asNoAs (v : Value) (xT : TypeId) (w : World) : (Instr.typeAssert (.iface 121 v) xT 174 true).run Tryz.prog w = .ok (.tuple #[.nilIface, .bool false]) w := run_typeAssert_lacksB Tryz.underlying174 (by kernel_rfl) (by kernel_rfl) v xT w
theorem asHasUnwrap (v : Value) (xT : TypeId) (w : World) : (Instr.typeAssert (.iface 121 v) xT 167 true).run Tryz.prog w = .ok (.tuple #[.iface 121 v, .bool true]) w := run_typeAssert_hasB Tryz.underlying167 (by kernel_rfl) v xT w
theorem asMethodUnwrap (k : Nat) (v : Value) (w : World) : (Go.method (k + 1) 121 v "Unwrap").run Tryz.prog w = .ok (143, v) w := by kernel_rfl
set_option maxHeartbeats 4000000 in
/-- errors.As(&error{.., n}, &e): true, and e is n. -/
theorem as_any (b t : Nat) (n : Int) (old : Value) (w : World) (hg : w.cell? ⟨0, 0, none⟩ = some (.iface 162 (.agg #[.pointer (some ⟨1, 99, none⟩)])))
    (hb1 : w.cell? ⟨b, 1, none⟩ = some (.int .i64 n)) (ht0 : w.cell? ⟨t, 0, none⟩ = some old) (hf0 : w.frozen? ⟨t, 0, none⟩ = false) :
    Calls Tryz.prog 87 #[.iface 121 (.pointer (some ⟨b, 0, none⟩)), .iface 125 (.pointer (some ⟨t, 0, none⟩))] w fun ev w' => ev = .returned (.bool true) ∧ asWorld w t n = w' := by
  have hlt : 0 < w.heap.size := by
    rcases Nat.lt_or_ge 0 w.heap.size with h | h
    · exact h
    · simp [World.cell?, Array.getElem?_eq_none h] at hg
  have hbl : b < w.heap.size := by
    rcases Nat.lt_or_ge b w.heap.size with h | h
    · exact h
    · simp [World.cell?, Array.getElem?_eq_none h] at hb1
  have htl : t < w.heap.size := by
    rcases Nat.lt_or_ge t w.heap.size with h | h
    · exact h
    · simp [World.cell?, Array.getElem?_eq_none h] at ht0
  have f1 := asValueOf
  have f2 := asType
  have f3 := asMethodKind
  have f4 := asKindP
  have f5 := asKindE
  have f6 := asMethodElem
  have f7 := asMethodImplements
  have f8 := asMethodAssignable
  have f9 := asElem
  have f10 := asImplements
  have f11 := asTypeOfB
  have f12 := asTypeOfE
  have f13 := asAssignB
  have f14 := asAssignE
  have f15 := asValueOfE
  have f16 := asNoAs
  have f17 := asHasUnwrap
  have f18 := asMethodUnwrap
  have n8 := asIsNil ⟨w.heap.size, 0, none⟩ ⟨t, 0, none⟩ ((w.alloc (.cells #[.pointer (some ⟨t, 0, none⟩)] 125)).alloc (.cells #[.pointer (some ⟨1, 125, none⟩), .pointer (some ⟨w.heap.size, 0, none⟩), .int .u64 150] 146)) (by simp)
  have hg2 : ((w.alloc (.cells #[.pointer (some ⟨t, 0, none⟩)] 125)).alloc (.cells #[.pointer (some ⟨1, 125, none⟩), .pointer (some ⟨w.heap.size, 0, none⟩), .int .u64 150] 146)).cell? ⟨0, 0, none⟩ = some (.iface 162 (.agg #[.pointer (some ⟨1, 99, none⟩)])) := by
    rw [World.cell?_alloc_lt _ _ ⟨0, 0, none⟩ (by simp only [World.size_alloc]; omega), World.cell?_alloc_lt _ _ ⟨0, 0, none⟩ hlt]; exact hg
  have hb2 : (((w.alloc (.cells #[.pointer (some ⟨t, 0, none⟩)] 125)).alloc (.cells #[.pointer (some ⟨1, 125, none⟩), .pointer (some ⟨w.heap.size, 0, none⟩), .int .u64 150] 146)).alloc (.cells #[.pointer (some ⟨1, 125, none⟩), .pointer (some ⟨w.heap.size, 0, none⟩), .int .u64 150] 146)).cell? ⟨b, 1, none⟩ = some (.int .i64 n) := by
    rw [World.cell?_alloc_lt _ _ ⟨b, 1, none⟩ (by simp only [World.size_alloc]; omega), World.cell?_alloc_lt _ _ ⟨b, 1, none⟩ (by simp only [World.size_alloc]; omega), World.cell?_alloc_lt _ _ ⟨b, 1, none⟩ hbl]; exact hb1
  have el := asElemV ⟨w.heap.size, 0, none⟩ ⟨t, 0, none⟩ (((w.alloc (.cells #[.pointer (some ⟨t, 0, none⟩)] 125)).alloc (.cells #[.pointer (some ⟨1, 125, none⟩), .pointer (some ⟨w.heap.size, 0, none⟩), .int .u64 150] 146)).alloc (.cells #[.pointer (some ⟨1, 125, none⟩), .pointer (some ⟨w.heap.size, 0, none⟩), .int .u64 150] 146)) (by rw [World.cell?_alloc_lt _ _ ⟨w.heap.size, 0, none⟩ (by simp only [World.size_alloc]; omega)]; simp)
  have st := asSet ⟨t, 0, none⟩ ⟨w.heap.size + 1 + 1 + 1, 0, none⟩ n old ((((w.alloc (.cells #[.pointer (some ⟨t, 0, none⟩)] 125)).alloc (.cells #[.pointer (some ⟨1, 125, none⟩), .pointer (some ⟨w.heap.size, 0, none⟩), .int .u64 150] 146)).alloc (.cells #[.pointer (some ⟨1, 125, none⟩), .pointer (some ⟨w.heap.size, 0, none⟩), .int .u64 150] 146)).alloc (.cells #[.int .i64 n] 35))
    (by rw [World.cell?_alloc_at _ _ _ _ (by simp)]; rfl)
    (by rw [World.cell?_alloc_lt _ _ ⟨t, 0, none⟩ (by simp only [World.size_alloc]; omega), World.cell?_alloc_lt _ _ ⟨t, 0, none⟩ (by simp only [World.size_alloc]; omega), World.cell?_alloc_lt _ _ ⟨t, 0, none⟩ (by simp only [World.size_alloc]; omega), World.cell?_alloc_lt _ _ ⟨t, 0, none⟩ htl]; exact ht0)
    (by rw [World.frozen?_alloc_old _ _ ⟨t, 0, none⟩ (by simp only [World.size_alloc]; omega), World.frozen?_alloc_old _ _ ⟨t, 0, none⟩ (by simp only [World.size_alloc]; omega), World.frozen?_alloc_old _ _ ⟨t, 0, none⟩ (by simp only [World.size_alloc]; omega), World.frozen?_alloc_old _ _ ⟨t, 0, none⟩ (Nat.ne_of_lt htl)]; exact hf0)
  go_enter Tryz.func87, Tryz.ntmps87
  go_wp2
  refine wp_loop_rounds 2 ?_
  iterate 2 (rw [rounds_succ]; go_wp2)
  go_ret
  exact ⟨rfl, rfl⟩

theorem isNoIs (v : Value) (xT : TypeId) (w : World) : (Instr.typeAssert (.iface 121 v) xT 164 true).run Tryz.prog w = .ok (.tuple #[.nilIface, .bool false]) w := run_typeAssert_lacksB Tryz.underlying164 (by kernel_rfl) (by kernel_rfl) v xT w
theorem eqOther (v : Value) (b : Int) (w : World) : (binOp .eql 99 (.iface 121 v) (.iface 35 (.int .i64 b))).run Tryz.prog w = .ok (.bool false) w := by kernel_rfl

set_option maxRecDepth 100000 in
set_option maxHeartbeats 4000000 in
/-- errors.Is(&error{.., n}, m): whether n is m. -/
theorem is_any (b : Nat) (n m : Int) (w : World) (hb1 : w.cell? ⟨b, 1, none⟩ = some (.int .i64 n)) :
    Calls Tryz.prog 77 #[.iface 121 (.pointer (some ⟨b, 0, none⟩)), .iface 35 (.int .i64 m)] w fun ev w' => ev = .returned (.bool (n == m)) ∧ w = w' := by
  have f6 := isMethodComparable
  have f7 := isComparableE
  have f8 := isNoIsE
  have f9 := isNoUnwrapE
  have f10 := isNoUnwrapsE
  have f11 := eqErrno
  have f12 := asTypeOfE
  have f16 := isNoIs
  have f17 := asHasUnwrap
  have f18 := asMethodUnwrap
  have f19 := eqOther
  by_cases hnm : n = m
  · subst hnm
    go_enter Tryz.func77, Tryz.ntmps77
    go_wp2
    refine wp_loop_rounds 2 ?_
    iterate 2 (rw [rounds_succ]; go_wp2)
    go_ret
    exact ⟨by simp, rfl⟩
  · have d1 : (n == m) = false := beq_eq_false_iff_ne.2 hnm
    have D1 := Lib.hid d1
    go_enter Tryz.func77, Tryz.ntmps77
    go_wp2
    refine wp_loop_rounds 2 ?_
    iterate 2 (rw [rounds_succ]; go_wp2)
    go_ret
    exact ⟨by rw [D1.out]; rfl, rfl⟩
end Go.Proofs.YtckdecodpjfcnaaGreatDoor.ErEn
namespace Go.Proofs.YtckdecodpjfcnaaGreatDoor
open Go.RowKit
set_option maxHeartbeats 1000000 in
theorem code_en (b : Nat) (n : Int) (w : World) (hg : HasET w) (hb1 : w.cell? ⟨b, 1, none⟩ = some (.int .i64 n)) :
    Calls Tryz.prog 59 #[.iface 121 (.pointer (some ⟨b, 0, none⟩))] w fun e w' => e = .returned (.int .i64 n) ∧ Below w.heap.size w w' := by
  have hb2 := (World.cell?_alloc_lt w (.cells #[.int .i64 0] 35) ⟨b, 1, none⟩ (cell_lt hb1)).trans hb1
  have HAS := Lib.hid (ErEn.as_any b w.heap.size n (.int .i64 0) (w.alloc (.cells #[.int .i64 0] 35)) (hg.up ((Below.refl _ _).alloc (Nat.le_refl _) _)) hb2 (by simp) (by simp))
  have HBW := Lib.hid (asW_below w n)
  clear hb2 hb1 hg
  go_enter Tryz.func59, Tryz.ntmps59
  go_wp2_with (go_at_call 87; refine HAS.out.mono ?_; rintro e w1 ⟨rfl, hw1⟩; have hc1 : w1.cell? ⟨w.heap.size, 0, none⟩ = some (.int .i64 n) := (by rw [← hw1]; exact asW_cell w n); have HW1 := Lib.hid hw1; clear hw1)
  go_ret
  exact ⟨rfl, by rw [← HW1.out]; exact HBW.out⟩
set_option maxHeartbeats 1000000 in
theorem code_nil (w : World) : Calls Tryz.prog 59 #[.nilIface] w fun e w' => e = .returned (.int .i64 0) ∧ Below w.heap.size w w' := by
  have HB := Lib.hid (bal (Below.refl w.heap.size w) (.cells #[.int .i64 0] 35))
  go_enter Tryz.func59, Tryz.ntmps59
  go_wp2_with fail
  go_ret
  exact ⟨rfl, HB.out⟩
theorem infoStr : (Tryz.prog.info? 9).map (fun i => (i.zero, i.size, i.bytes)) = some (some (.string ⟨#[]⟩), 1, 16) := by kernel_rfl
theorem cellsS_one (l : List ByteArray) : ∀ u ∈ cellsS l, u.oneCell' = true := by
  intro u hu
  simp only [cellsS, List.mem_map] at hu
  obtain ⟨s, _, rfl⟩ := hu
  rfl
theorem cellsS_snoc (l : List ByteArray) (s : ByteArray) : cellsS (l ++ [s]) = cellsS l ++ cellsS [s] := by simp [cellsS]
theorem reads_str (w : World) (s : ByteArray) (t : TypeId) (g : Nat) (hg : w.heap.size = g) : Reads (w.alloc (.cells #[.string s] t)) (g + 1) 1 (some ⟨g, 0, none⟩) 1 (cellsS [s]) := by
  subst hg
  refine ⟨rfl, fun _ => ⟨_, rfl, Nat.lt_succ_self _, fun j u hu => ?_⟩⟩
  rw [add_none, Nat.zero_add]
  rw [(Blk.new w t _).cell j]
  simpa [cellsS] using hu
noncomputable def bsE (x : En) : ByteArray := bs (bytesE x).1
open Classical in
noncomputable def loadsE (l : List En) : List ByteArray × Int := if ∀ x ∈ l, mayEn x = true then (l.map bsE, 0) else ([], 2)
theorem bytesE_ok {x : En} (h : mayEn x = true) : (bytesE x).2 = 0 := by unfold bytesE; rw [if_pos h]
theorem bytesE_no {x : En} (h : mayEn x = false) : bytesE x = ([], 2) := by unfold bytesE; rw [if_neg (by rw [h]; decide)]
theorem loadsE_no {l : List EnM} {k : Nat} {y : EnM} (hy : l[k]? = some y) (h : mayEn y.x = false) : loadsE (l.map (·.x)) = ([], 2) := by
  unfold loadsE
  rw [if_neg]
  intro h2
  have := h2 y.x (List.mem_map_of_mem (List.mem_of_getElem? hy))
  rw [h] at this
  cases this
theorem loadsE_ok {l : List EnM} (h : ∀ y ∈ l, mayEn y.x = true) : loadsE (l.map (·.x)) = (l.map fun y => bsE y.x, 0) := by
  unfold loadsE
  rw [if_pos (fun x hx => by
    obtain ⟨y, hy, rfl⟩ := List.mem_map.1 hx
    exact h y hy), List.map_map]
  rfl
def LoP (r : List ByteArray) (n : Int) (w : World) (e : Ending) (w' : World) : Prop := ∃ A c, e = .returned (.tuple #[.slice A r.length c, .int .i64 n]) ∧ Reads w' w'.heap.size 1 A r.length (cellsS r) ∧ Below w.heap.size w w'
/-- What each leaves. -/
def EaP (r : List ByteArray) (n : Int) (w : World) (e : Ending) (w' : World) : Prop :=
  (n = 0 ∧ ∃ A c, e = .returned (.tuple #[.slice A r.length c, .nilIface]) ∧ Reads w' w'.heap.size 1 A r.length (cellsS r) ∧ Below w.heap.size w w') ∨
  (r = [] ∧ ∃ fb, e = .returned (.tuple #[.slice none 0 0, .iface 121 (.pointer (some ⟨fb, 0, none⟩))]) ∧ w'.cell? ⟨fb, 1, none⟩ = some (.int .i64 n) ∧ Below w.heap.size w w')
theorem map_snoc {α β : Type} {l : List α} {k : Nat} {y : α} (f : α → β) (hy : l[k]? = some y) : (l.take (k + 1)).map f = (l.take k).map f ++ [f y] := by
  rw [List.take_add_one, hy]
  simp
theorem all_snoc {α : Type} {l : List α} {k : Nat} {y : α} {p : α → Prop} (hy : l[k]? = some y) (h : ∀ z ∈ l.take k, p z) (hp : p y) : ∀ z ∈ l.take (k + 1), p z := by
  intro z hz
  rw [List.take_add_one, hy] at hz
  simp only [Option.toList_some, List.mem_append, List.mem_cons, List.not_mem_nil, or_false] at hz
  rcases hz with h1 | h1
  · exact h z h1
  · rw [h1]; exact hp
theorem made_str (n : Nat) : (madeCells (Value.string ⟨#[]⟩).cells (n * 1)).toList.length = n := by
  simp [madeCells, Value.cells]
theorem own_madeS (w : World) (n : Nat) (hn : n ≤ 1000000) : (w.alloc (.cells (madeCells (Value.string ⟨#[]⟩).cells (n * 1)) 9)).ownsRow w.heap.size 9 1 (.slice (some ⟨w.heap.size, 0, none⟩) 0 n) 0 [] := by
  have h := made_str n
  refine ⟨rfl, .inr ⟨w.heap.size, n, _, rfl, Nat.le_refl _, heap_alloc_new w _, by omega, by unfold maxLen; omega, ?_, by simp⟩⟩
  rw [← Array.length_toList, h]; omega
section
attribute [-go_sem] loadCells storeVar
set_option maxRecDepth 100000 in
set_option maxHeartbeats 8000000 in
theorem eachB_any (l : List EnM) (A : Option Addr) (c : Nat) (w : World) (hg : HasET w) (hr : Reads w w.heap.size 18 A l.length (cellsE7 l)) (hl : EnsR w l) (hn : l.length ≤ 1000) :
    Calls Tryz.prog 58 #[.slice A l.length c, .func (.func 11) #[] #[]] w (EaP (loadsE (l.map (·.x))).1 (loadsE (l.map (·.x))).2 w) := by
  obtain ⟨i0, hi, hi0, hi1, hi2⟩ := info_parts infoStr
  have HG := Lib.hid hg
  have HR := Lib.hid hr
  have HL := Lib.hid hl
  have HN := Lib.hid hn
  have hmk := run_make_rowN (P := Tryz.prog) 50 9 i0 _ Tryz.underlying50 hi hi0 .i64 .i64 0 l.length (by omega) (by rw [hi2]; omega) (by omega) w
  rw [hi1] at hmk
  obtain ⟨W1, hW1⟩ : ∃ W1, W1 = w.alloc (.cells (madeCells (Value.string ⟨#[]⟩).cells (l.length * 1)) 9) := ⟨_, rfl⟩
  have O1 : W1.ownsRow w.heap.size 9 1 (.slice (some ⟨w.heap.size, 0, none⟩) 0 l.length) 0 [] := by rw [hW1]; exact own_madeS w _ (by omega)
  have B1 : Below w.heap.size w W1 := by rw [hW1]; exact bal (Below.refl _ _) _
  rw [show ((0 : Nat) : Int) = 0 from rfl, ← hW1] at hmk
  have O1' := Lib.hid O1
  have B1' := Lib.hid B1
  clear hg hr hl hn hW1 O1 B1
  go_enter Tryz.func58, Tryz.ntmps58
  go_wp2_with fail
  go_loopg [6, 16] l.length (fun mm v y wq => ∃ k : Nat, k ≤ l.length ∧ y = .int .i64 k ∧ mm = l.length - k ∧ (∀ y ∈ l.take k, mayEn y.x = true) ∧ wq.ownsRow w.heap.size 9 1 v k (cellsS ((l.take k).map fun y => bsE y.x)) ∧ Below w.heap.size w wq)
  case atStart => exact ⟨0, Nat.zero_le _, rfl, rfl, fun s hs => by simp at hs, O1'.out, B1'.out⟩
  case round =>
    obtain ⟨k, hk, rfl, hmm, hall, how, hbw⟩ := hrel
    have HMM := Lib.hid hmm
    have HALL := Lib.hid hall
    have OW := Lib.hid how
    have BW' := Lib.hid hbw
    clear hmm hall how hbw hmk
    by_cases hlt : k < l.length
    · have d1 : decide ((k : Int) < (l.length : Int)) = true := decide_eq_true (by omega)
      have i1 : (0 : Int) ≤ (k : Int) := by omega
      have i2 : (k : Int) < (l.length : Int) := by omega
      obtain ⟨y, hy⟩ : ∃ y, l[k]? = some y := ⟨_, List.getElem?_eq_getElem hlt⟩
      obtain ⟨b, off, hA, hbB, hcells⟩ := (HR.out.below BW'.out).plain18 (by omega)
      subst hA
      have ld := hcells k y hy
      have HY := Lib.hid hy
      have hER := (HL.out y (List.mem_of_getElem? hy)).up BW'.out
      obtain ⟨W1, st1, k1, b1⟩ := fresh_enX wr y.x y.A y.D y.c y.e
      have l1 := en_load k1
      have B1 := Lib.hid (BW'.out.trans (b1.mono BW'.out.size))
      have O1 := Lib.hid (own_below OW.out b1)
      have BY := enBytes_X y.x y.A y.D y.c y.e W1 (HG.out.up B1.out) (hER.up b1)
      cases hmy : mayEn y.x
      · rw [bytesE_no hmy] at BY
        have BY := Lib.hid BY
        have HP := Lib.hid (loadsE_no hy hmy)
        clear hcells k1 b1 hER hy hmy hbB
        go_wp2_with fail
        refine BY.out.mono ?_
        rintro e w2 ⟨rfl, b2⟩
        have B2 := Lib.hid (B1.out.trans (b2.mono B1.out.size))
        clear b2
        go_wp2_with fail
        go_ret2
        rw [HP.out]
        refine .inr ⟨rfl, _, rfl, ?_, ?_⟩
        · go_simp
        · exact bal B2.out _
      · have hbe := bytesE_ok hmy
        have HMY := Lib.hid hmy
        obtain ⟨Z, hZ⟩ : ∃ Z, bsE y.x = Z := ⟨_, rfl⟩
        change Calls _ _ _ _ (fun e w' => e = .returned (.tuple #[.string (bsE y.x), .int .i64 (bytesE y.x).2]) ∧ Below _ _ w') at BY
        rw [hbe, hZ] at BY
        have BY := Lib.hid BY
        have HZ := Lib.hid hZ
        clear hcells k1 b1 hER hy hmy hbB hbe hZ
        go_wp2_with fail
        refine BY.out.mono ?_
        rintro e w2 ⟨rfl, b2⟩
        have B2 := Lib.hid (B1.out.trans (b2.mono B1.out.size))
        have O2 := Lib.hid (own_below O1.out b2)
        have hn := HN.out
        have hsz3 := B2.out.size
        clear b2 ld l1 st1
        go_wp2_with (at_builtin; refine wpList_append_any _ rfl (.tmp 34) (.tmp 36) 50 rfl w.heap.size 9 i0 _ 1 16 Tryz.underlying50 hi hi0 hi1 hi2 rfl (by decide) _ k _ (by rfl) (O2.out.alloc _) _ _ 1 1 (cellsS [Z]) (by rfl) (reads_str w2 Z _ _ rfl) (cellsS_one _) (by unfold maxLen; omega) (by omega) (by simp; omega) ?_; intro v' w8 hown' hgrow hat')
        have R1 := Lib.hid (show w8.ownsRow w.heap.size 9 1 v' (k + 1) (cellsS ((l.take (k + 1)).map fun y => bsE y.x)) from by
          rw [map_snoc (fun y : EnM => bsE y.x) HY.out, cellsS_snoc, HZ.out]
          exact hown')
        have R2 := Lib.hid (show Below w.heap.size w w8 from (bal B2.out _).grown hgrow (by simp; omega) (fun x hx => (O2.out.lt x hx).1))
        have R3 := Lib.hid (all_snoc HY.out HALL.out HMY.out)
        clear hown' hgrow hat' hn hsz3
        go_wp2_with fail
        go_roundg (l.length - k - 1)
        case measure => have := HMM.out; omega
        case rel => have := HN.out; exact ⟨k + 1, by omega, by (first | rfl | (rw [IntWalk.wrap64_in _ (by omega)]; rfl) | (rw [IntWalk.i64_in _ (by omega)]; rfl)), by omega, R3.out, R1.out, R2.out⟩
    · have hkn : k = l.length := by omega
      have d1 : decide ((k : Int) < (l.length : Int)) = false := decide_eq_false (by omega)
      have HP := Lib.hid (loadsE_ok (l := l) (by
        have h := HALL.out
        rw [hkn, List.take_length] at h
        exact h))
      have hof := OW.out
      rw [hkn, List.take_length] at hof
      obtain ⟨A8, c8, rfl, hc8⟩ := own_slice hof
      have HF := Lib.hid (Reads.of_own hof)
      clear hof hc8
      go_wp2_with fail
      go_ret2
      rw [HP.out]
      exact .inl ⟨rfl, A8, c8, (by rw [List.length_map]; rfl), by rw [List.length_map]; exact HF.out, BW'.out⟩
set_option maxRecDepth 100000 in
set_option maxHeartbeats 8000000 in
theorem rLoads_any (l : List EnM) (A : Option Addr) (c : Nat) (w : World) (hr : Reads w w.heap.size 18 A l.length (cellsE7 l)) (hl : EnsR w l) (hn : l.length ≤ 1000) :
    Calls Tryz.prog 25 #[.slice A l.length c] w (LoP (loadsE (l.map (·.x))).1 (loadsE (l.map (·.x))).2 w) := by
  obtain ⟨i0, hi, hi0, hi1, hi2⟩ := info_parts infoStr
  skip
  have HR := Lib.hid hr
  have HL := Lib.hid hl
  have HN := Lib.hid hn
  clear hr hl hn
  go_enter Tryz.func25, Tryz.ntmps25
  go_wp2_with fail
  go_loopg [4, 5] l.length (fun mm v y wq => ∃ k : Nat, k ≤ l.length ∧ y = .int .i64 k ∧ mm = l.length - k ∧ (∀ y ∈ l.take k, mayEn y.x = true) ∧ wq.ownsRow w.heap.size 9 1 v k (cellsS ((l.take k).map fun y => bsE y.x)) ∧ Below w.heap.size w wq)
  case atStart => exact ⟨0, Nat.zero_le _, rfl, rfl, fun s hs => by simp at hs, World.ownsRow_nil _ _ _ _, Below.refl _ _⟩
  case round =>
    obtain ⟨k, hk, rfl, hmm, hall, how, hbw⟩ := hrel
    have HMM := Lib.hid hmm
    have HALL := Lib.hid hall
    have OW := Lib.hid how
    have BW' := Lib.hid hbw
    clear hmm hall how hbw
    by_cases hlt : k < l.length
    · have d1 : decide ((k : Int) < (l.length : Int)) = true := decide_eq_true (by omega)
      have i1 : (0 : Int) ≤ (k : Int) := by omega
      have i2 : (k : Int) < (l.length : Int) := by omega
      obtain ⟨y, hy⟩ : ∃ y, l[k]? = some y := ⟨_, List.getElem?_eq_getElem hlt⟩
      obtain ⟨b, off, hA, hbB, hcells⟩ := (HR.out.below BW'.out).plain18 (by omega)
      subst hA
      have ld := hcells k y hy
      have HY := Lib.hid hy
      have hER := (HL.out y (List.mem_of_getElem? hy)).up BW'.out
      have B1 := Lib.hid BW'.out
      have O1 := Lib.hid OW.out
      have BY := rEnBytes_X y.x y.A y.D y.c y.e wr hER
      cases hmy : mayEn y.x
      · rw [bytesE_no hmy] at BY
        have BY := Lib.hid BY
        have HP := Lib.hid (loadsE_no hy hmy)
        clear hcells hER hy hmy hbB
        go_wp2_with fail
        refine BY.out.mono ?_
        rintro e w2 ⟨rfl, b2⟩
        have B2 := Lib.hid (B1.out.trans (b2.mono B1.out.size))
        clear b2
        go_wp2_with fail
        go_ret2
        rw [HP.out]
        exact ⟨none, 0, rfl, Reads.none_, B2.out⟩
      · have hbe := bytesE_ok hmy
        have HMY := Lib.hid hmy
        obtain ⟨Z, hZ⟩ : ∃ Z, bsE y.x = Z := ⟨_, rfl⟩
        change Calls _ _ _ _ (fun e w' => e = .returned (.tuple #[.string (bsE y.x), .int .i64 (bytesE y.x).2]) ∧ Below _ _ w') at BY
        rw [hbe, hZ] at BY
        have BY := Lib.hid BY
        have HZ := Lib.hid hZ
        clear hcells hER hy hmy hbB hbe hZ
        go_wp2_with fail
        refine BY.out.mono ?_
        rintro e w2 ⟨rfl, b2⟩
        have B2 := Lib.hid (B1.out.trans (b2.mono B1.out.size))
        have O2 := Lib.hid (own_below O1.out b2)
        have hn := HN.out
        have hsz3 := B2.out.size
        clear b2 ld
        go_wp2_with (at_builtin; refine wpList_append_any _ rfl (.tmp 25) (.tmp 27) 50 rfl w.heap.size 9 i0 _ 1 16 Tryz.underlying50 hi hi0 hi1 hi2 rfl (by decide) _ k _ (by rfl) (O2.out.alloc _) _ _ 1 1 (cellsS [Z]) (by rfl) (reads_str w2 Z _ _ rfl) (cellsS_one _) (by unfold maxLen; omega) (by omega) (by simp; omega) ?_; intro v' w8 hown' hgrow hat')
        have R1 := Lib.hid (show w8.ownsRow w.heap.size 9 1 v' (k + 1) (cellsS ((l.take (k + 1)).map fun y => bsE y.x)) from by
          rw [map_snoc (fun y : EnM => bsE y.x) HY.out, cellsS_snoc, HZ.out]
          exact hown')
        have R2 := Lib.hid (show Below w.heap.size w w8 from (bal B2.out _).grown hgrow (by simp; omega) (fun x hx => (O2.out.lt x hx).1))
        have R3 := Lib.hid (all_snoc HY.out HALL.out HMY.out)
        clear hown' hgrow hat' hn hsz3
        go_wp2_with fail
        go_roundg (l.length - k - 1)
        case measure => have := HMM.out; omega
        case rel => have := HN.out; exact ⟨k + 1, by omega, by (first | rfl | (rw [IntWalk.wrap64_in _ (by omega)]; rfl) | (rw [IntWalk.i64_in _ (by omega)]; rfl)), by omega, R3.out, R1.out, R2.out⟩
    · have hkn : k = l.length := by omega
      have d1 : decide ((k : Int) < (l.length : Int)) = false := decide_eq_false (by omega)
      have HP := Lib.hid (loadsE_ok (l := l) (by
        have h := HALL.out
        rw [hkn, List.take_length] at h
        exact h))
      have hof := OW.out
      rw [hkn, List.take_length] at hof
      obtain ⟨A8, c8, rfl, hc8⟩ := own_slice hof
      have HF := Lib.hid (Reads.of_own hof)
      clear hof hc8
      go_wp2_with fail
      go_ret2
      rw [HP.out]
      exact ⟨A8, c8, (by rw [List.length_map]; rfl), by rw [List.length_map]; exact HF.out, BW'.out⟩
set_option maxRecDepth 100000 in
set_option maxHeartbeats 2000000 in
theorem Loads_any (l : List EnM) (A : Option Addr) (c : Nat) (w : World) (hg : HasET w) (hr : Reads w w.heap.size 18 A l.length (cellsE7 l)) (hl : EnsR w l) (hn : l.length ≤ 1000) :
    Calls Tryz.prog 24 #[.slice A l.length c] w (LoP (loadsE (l.map (·.x))).1 (loadsE (l.map (·.x))).2 w) := by
  have EB := Lib.hid (eachB_any l A c w hg hr hl hn)
  have HG := Lib.hid hg
  clear hg hr hl hn
  generalize loadsE (l.map (·.x)) = R at EB ⊢
  obtain ⟨r, n⟩ := R
  go_enter Tryz.func24, Tryz.ntmps24
  go_wp2_with fail
  refine EB.out.mono ?_
  rintro e w2 (⟨h0, A2, c2, rfl, r2, b2⟩ | ⟨h0, fb, rfl, hf, b2⟩)
  · have R2 := Lib.hid r2
    have B2 := Lib.hid b2
    have H0 := Lib.hid h0
    have CN := Lib.hid (code_nil w2)
    clear r2 b2 h0
    go_wp2_with fail
    refine CN.out.mono ?_
    rintro e w3 ⟨rfl, b3⟩
    have B3 := Lib.hid (B2.out.trans (b3.mono B2.out.size))
    have R3 := Lib.hid ((R2.out.below b3).more b3.size)
    clear b3
    go_wp2_with fail
    go_ret2
    exact ⟨A2, c2, (by rw [show n = 0 from H0.out]; rfl), R3.out, B3.out⟩
  · have B2 := Lib.hid b2
    have H0 := Lib.hid h0
    have CN := Lib.hid (code_en fb n w2 (HG.out.up b2) hf)
    clear b2 hf h0
    go_wp2_with fail
    refine CN.out.mono ?_
    rintro e w3 ⟨rfl, b3⟩
    have B3 := Lib.hid (B2.out.trans (b3.mono B2.out.size))
    clear b3
    go_wp2_with fail
    go_ret2
    have hr0 : r = [] := H0.out
    subst hr0
    exact ⟨none, 0, rfl, Reads.none_, B3.out⟩
end
end Go.Proofs.YtckdecodpjfcnaaGreatDoor
