/-
  Package varint's Row and the document's: what they give.
-/
import Derived.Test.YtlojphajdefkdaaDoorVaQ
import Derived.Test.YtlojphajdefkdaaDoorVaI
namespace Go.Proofs.YtlojphajdefkdaaDoor
open Go.RowKit

/-- What the closure of Row leaves, where it writes a number. -/
def Row1Post (base go ga : Nat) (X : List UInt8) (n : Nat) (k : Int) (w : World) (e : Ending) (w' : World) : Prop :=
  ∃ v', e = .returned (.bool true) ∧ Blk w' go 22 #[v'] ∧ Blk w' ga 3 #[.int .i64 (k + 1)] ∧ w'.ownsRow base 5 1 v' (X ++ enc n).length (cellsB (X ++ enc n)) ∧
    w.heap.size ≤ w'.heap.size ∧ (∀ i, i < base → i ≠ go → i ≠ ga → w'.heap[i]? = w.heap[i]?) ∧ (∀ B, B ≤ go → B ≤ ga → B ≤ base → Below B w w')

set_option maxRecDepth 100000 in
set_option maxHeartbeats 1000000 in
theorem row1_ok (base go ge ga : Nat) (v : Value) (X : List UInt8) (n : Nat) (k : Int) (w : World) (hn : n ≤ maxNum) (hk0 : 0 ≤ k) (hk : k ≤ 1000000) (ho : Blk w go 22 #[v]) (ha : Blk w ga 3 #[.int .i64 k])
    (hown : w.ownsRow base 5 1 v X.length (cellsB X)) (hX : X.length ≤ 90000) (hgo : go < base) (hga : ga < base) (hne : ¬ go = ga) (hbase : base ≤ w.heap.size) :
    Calls Tryd.prog 24 #[.int .i64 n, .pointer (some ⟨ga, 0, none⟩), .pointer (some ⟨ge, 0, none⟩), .pointer (some ⟨go, 0, none⟩)] w (Row1Post base go ga X n k w) := by
  have HL := Lib.hid (len_ok n w hn)
  have HP := Lib.hid (put_any base v X n w hn hown (by omega) hbase)
  have hp := encLen_pos n
  have d1 : ((encLen n : Int) == 0) = false := beq_eq_false_iff_ne.2 (by omega)
  have hne' : ¬ ga = go := fun h => hne h.symm
  have c1 : w.cell? ⟨go, 0, none⟩ = some v := ho.cell 0
  have HO := Lib.hid ho
  have HA := Lib.hid ha
  have HOWN := Lib.hid hown
  clear ho ha hown
  go_enter Tryd.func24, Tryd.ntmps24
  go_wp2_with (go_at_call 14; refine HL.out.mono ?_; rintro e w1 ⟨rfl, rfl⟩)
  refine HP.out.mono ?_
  rintro e w1 ⟨v', rfl, how1, hg1, hat1⟩
  obtain ⟨A1, c1', rfl, _⟩ := own_slice how1
  have bo1 := HO.out.grown hg1 (own_ge HOWN.out hgo)
  have ba1 := HA.out.grown hg1 (own_ge HOWN.out hga)
  have g1 : w1.cell? ⟨go, 0, none⟩ = some v := bo1.cell 0
  have g2 : w1.frozen? ⟨go, 0, none⟩ = false := bo1.frozen 0
  have g3 : w1.cell? ⟨ga, 0, none⟩ = some (.int .i64 k) := ba1.cell 0
  have g4 : w1.frozen? ⟨ga, 0, none⟩ = false := ba1.frozen 0
  have BO1 := Lib.hid bo1
  have BA1 := Lib.hid ba1
  have HOW1 := Lib.hid how1
  have HG1 := Lib.hid hg1
  clear bo1 ba1 how1 hg1 hat1
  go_wp2_with fail
  go_ret
  have own2 : ((w1.setCell ⟨go, 0, none⟩ (.slice A1 (X.length + encLen n) c1')).setCell ⟨ga, 0, none⟩ (.int .i64 (k + 1))).ownsRow base 5 1 (.slice A1 (X.length + encLen n) c1') (X.length + encLen n) (cellsB (X ++ enc n)) := ownsRow_setCell_below (ownsRow_setCell_below HOW1.out (a := ⟨go, 0, none⟩) hgo _) (a := ⟨ga, 0, none⟩) hga _
  refine ⟨.slice A1 (X.length + encLen n) c1', rfl, ?_, ?_, ?_, ?_, ?_, ?_⟩
  · exact (BO1.out.set_ 0 _).far (p := ⟨ga, 0, none⟩) (by exact hne) _
  · exact (BA1.out.far (p := ⟨go, 0, none⟩) (by exact hne') _).set_ 0 _
  · rw [List.length_append]; exact own2
  · simpa [World.setCell] using HG1.out.size
  · intro i hi h1 h2
    rw [Below.heap_setCell _ ⟨ga, 0, none⟩ _ i h2, Below.heap_setCell _ ⟨go, 0, none⟩ _ i h1]
    exact HG1.out.block i (by omega) (own_ge HOWN.out hi)
  · intro B h1 h2 h3
    refine (Below.setCell (p := ⟨ga, 0, none⟩) (Below.setCell (p := ⟨go, 0, none⟩) ?_ h1 _) h2 _)
    exact (Below.refl _ _).grown HG1.out (by omega) (fun g hg => by have := (HOWN.out.lt g hg).1; omega)

set_option maxRecDepth 100000 in
set_option maxHeartbeats 1000000 in
theorem row1_no (go ge ga : Nat) (n k : Int) (u : Value) (w : World) (hn : n < 0 ∨ 1099511627776 < n) (ha : Blk w ga 3 #[.int .i64 k]) (he : Blk w ge 45 #[u]) :
    Calls Tryd.prog 24 #[.int .i64 n, .pointer (some ⟨ga, 0, none⟩), .pointer (some ⟨ge, 0, none⟩), .pointer (some ⟨go, 0, none⟩)] w fun e w' => e = .returned (.bool false) ∧ w' = (w.setCell ⟨ge, 0, none⟩ (.iface 50 (.pointer (some ⟨w.heap.size, 0, none⟩)))).alloc (.cells #[.int .i64 k, .int .i64 2] 52) := by
  have HL := Lib.hid (len_no n w hn)
  have c1 : w.cell? ⟨ga, 0, none⟩ = some (.int .i64 k) := ha.cell 0
  have c2 : w.cell? ⟨ge, 0, none⟩ = some u := he.cell 0
  have c3 : w.frozen? ⟨ge, 0, none⟩ = false := he.frozen 0
  have c4 := he.lt
  have c5 : ¬ ge = w.heap.size := by omega
  clear ha he
  go_enter Tryd.func24, Tryd.ntmps24
  go_wp2_with (go_at_call 14; refine HL.out.mono ?_; rintro e w1 ⟨rfl, rfl⟩)
  go_ret
  exact ⟨rfl, rfl⟩

def rowX (l : List Int) (k : Nat) : List UInt8 := enc l.length ++ encs (l.take k)
theorem rowX_zero (l : List Int) : rowX l 0 = enc l.length := by simp [rowX, encs]
theorem rowX_all (l : List Int) : rowX l l.length = rowBytes l := by simp [rowX, rowBytes]
theorem rowX_succ (l : List Int) (k n : Nat) (h : l[k]? = some (n : Int)) : rowX l (k + 1) = rowX l k ++ enc n := by
  unfold rowX
  rw [List.take_add_one, h, encs_append, List.append_assoc]
  simp [encs]
theorem rowX_le (l : List Int) (k : Nat) (hl : l.length ≤ 300) (h : AllOk (l.take k)) : (rowX l k).length ≤ 1806 := by
  have h1 := encLen_le l.length (show l.length ≤ 1099511627776 by omega)
  have h2 := encs_le _ h
  have h3 : (l.take k).length ≤ l.length := List.length_take_le' ..
  unfold encLen at h1
  unfold rowX
  rw [List.length_append]; omega
theorem allOk_take {l : List Int} {k : Nat} {z : Int} (h : AllOk (l.take k)) (hz : l[k]? = some z) (ho : 0 ≤ z ∧ z ≤ 1099511627776) : AllOk (l.take (k + 1)) := by
  intro x hx
  rw [List.take_add_one, hz, List.mem_append] at hx
  rcases hx with hx | hx
  · exact h x hx
  · simp at hx
    subst hx
    exact ho

/-- The boxes of Row behind k numbers. -/
def RowInv (l : List Int) (k : Nat) (B : Nat) (w wr : World) : Prop :=
  ∃ A c, Blk wr B 22 #[.slice A (rowX l k).length c] ∧ Blk wr (B + 1) 45 #[.nilIface] ∧ Blk wr (B + 2) 3 #[.int .i64 ((k : Int) + 1)] ∧ wr.ownsRow (B + 3) 5 1 (.slice A (rowX l k).length c) (rowX l k).length (cellsB (rowX l k)) ∧ Below B w wr ∧ B + 3 ≤ wr.heap.size

theorem rowInv_of {l : List Int} {k : Nat} {B : Nat} {w wr w' : World} {e : Ending} {X : List UInt8} {n : Nat} {j : Int} (hb : Below B w wr) (hs : B + 3 ≤ wr.heap.size) (he : Blk wr (B + 1) 45 #[.nilIface])
    (h : Row1Post (B + 3) B (B + 2) X n j wr e w') (hX : X ++ enc n = rowX l k) (hj : j = (k : Int)) : e = .returned (.bool true) ∧ RowInv l k B w w' := by
  subst hj
  obtain ⟨v', rfl, h1, h2, h3, h4, h5, h6⟩ := h
  rw [hX] at h3
  obtain ⟨A, c, rfl, _⟩ := own_slice h3
  exact ⟨rfl, A, c, h1, (h5 (B + 1) (by omega) (by omega) (by omega)).trans he, h2, h3, hb.trans (h6 B (by omega) (by omega) (by omega)), by omega⟩

def RowPost (l : List Int) (w : World) (e : Ending) (w' : World) : Prop :=
  (AllOk l ∧ BytesPost (rowBytes l) 0 w e w') ∨ (¬ AllOk l ∧ BytesPost [] 2 w e w')

set_option maxRecDepth 100000 in
set_option maxHeartbeats 1000000 in
theorem Row_any (A : Option Addr) (l : List Int) (c : Nat) (w : World) (hr : Reads w w.heap.size 1 A l.length (cellsI .i64 l)) (hl : l.length ≤ 300) (hg : HasErr w) :
    Calls Tryd.prog 16 #[.slice A l.length c] w (RowPost l w) := by
  have hmf : ∀ (fn : Fn) (first cap : Array Value) (w : World), (Instr.makeFunc fn first cap).run Tryd.prog w = .ok (.func fn first cap) w := fun _ _ _ _ => rfl
  have HG := Lib.hid hg
  have HR := Lib.hid hr
  have hB0 : Below w.heap.size w (((w.alloc (.cells #[.slice none 0 0] 22)).alloc (.cells #[.nilIface] 45)).alloc (.cells #[.int .i64 0] 3)) :=
    (((Below.refl _ w).alloc (Nat.le_refl _) _).alloc (by simp) _).alloc (by simp only [World.size_alloc]; omega) _
  have bo := ((Blk.new w 22 #[.slice none 0 0]).alloc (.cells #[.nilIface] 45)).alloc (.cells #[.int .i64 0] 3)
  have be := (Blk.new (w.alloc (.cells #[.slice none 0 0] 22)) 45 #[.nilIface]).alloc (.cells #[.int .i64 0] 3)
  have ba := Blk.new ((w.alloc (.cells #[.slice none 0 0] 22)).alloc (.cells #[.nilIface] 45)) 3 #[.int .i64 0]
  have HC := Lib.hid (row1_ok (w.heap.size + 3) w.heap.size (w.heap.size + 1) (w.heap.size + 2) (.slice none 0 0) [] l.length 0 (((w.alloc (.cells #[.slice none 0 0] 22)).alloc (.cells #[.nilIface] 45)).alloc (.cells #[.int .i64 0] 3))
    (show l.length ≤ 1099511627776 by omega) (by omega) (by omega) bo (by simpa using ba) (World.ownsRow_nil _ _ _ _) (by decide) (by omega) (by omega) (by omega) (by simp))
  have HBE := Lib.hid (show Blk (((w.alloc (.cells #[.slice none 0 0] 22)).alloc (.cells #[.nilIface] 45)).alloc (.cells #[.int .i64 0] 3)) (w.heap.size + 1) 45 #[.nilIface] by simpa using be)
  have HB0 := Lib.hid hB0
  clear bo be ba hB0 hg hr
  go_enter Tryd.func16, Tryd.ntmps16
  go_wp2_with fail
  refine HC.out.mono ?_
  intro e w1 hp1
  obtain ⟨rfl, inv0⟩ := rowInv_of (l := l) (k := 0) HB0.out (by simp) HBE.out hp1 (by rw [rowX_zero]; rfl) rfl
  have INV0 := Lib.hid inv0
  clear hp1 inv0
  go_wp2_with fail
  go_loopw [17] (fun x wr => ∃ k : Nat, k ≤ l.length ∧ x = .int .i64 k ∧ AllOk (l.take k) ∧ RowInv l k w.heap.size w wr) (fun x _ => l.length - (intOf x).toNat)
  case atStart => exact ⟨0, Nat.zero_le _, rfl, by simp [AllOk], INV0.out⟩
  case round =>
    obtain ⟨k, hk, rfl, hok, hinv⟩ := hrel
    have hxl := rowX_le l k hl hok
    obtain ⟨A1, c1, bo, be, ba, own1, bel, hsz⟩ := hinv
    have HOK := Lib.hid hok
    have BO := Lib.hid bo
    have BE := Lib.hid be
    have BA := Lib.hid ba
    have OWN := Lib.hid own1
    have BEL := Lib.hid bel
    clear hok bo be ba own1 bel
    by_cases hlt : k < l.length
    · have d1 : decide ((k : Int) < (l.length : Int)) = true := by simp; omega
      obtain ⟨b1, o1, rfl, _, hc1⟩ := (HR.out.below BEL.out).plain (by omega)
      obtain ⟨z, hz⟩ : ∃ z, l[k]? = some z := ⟨_, List.getElem?_eq_getElem hlt⟩
      have g1 := hc1 k _ (by rw [getElem?_cellsI, hz]; rfl)
      have HZ := Lib.hid hz
      clear hc1 hz
      by_cases hzo : 0 ≤ z ∧ z ≤ 1099511627776
      · obtain ⟨n, rfl⟩ := Int.eq_ofNat_of_zero_le hzo.1
        have hn : n ≤ maxNum := show n ≤ 1099511627776 by omega
        have HC1 := Lib.hid (row1_ok (w.heap.size + 3) w.heap.size (w.heap.size + 1) (w.heap.size + 2) _ (rowX l k) n ((k : Int) + 1) wr hn (by omega) (by omega) BO.out BA.out OWN.out (by omega) (by omega) (by omega) (by omega) hsz)
        go_wp2_with fail
        refine HC1.out.mono ?_
        intro e w2 hp2
        obtain ⟨rfl, inv2⟩ := rowInv_of (l := l) (k := k + 1) BEL.out hsz BE.out hp2 (rowX_succ l k n HZ.out).symm (by omega)
        have INV2 := Lib.hid inv2
        clear hp2 inv2
        go_wp2_with fail
        go_roundw
        case rel => exact ⟨k + 1, by omega, by go_num, allOk_take HOK.out HZ.out hzo, INV2.out⟩
        case measure => simp [intOf]; omega
      · have HC1 := Lib.hid (row1_no w.heap.size (w.heap.size + 1) (w.heap.size + 2) z ((k : Int) + 1) _ wr (by omega) BA.out BE.out)
        have belw : Below w.heap.size w ((wr.setCell ⟨w.heap.size + 1, 0, none⟩ (.iface 50 (.pointer (some ⟨wr.heap.size, 0, none⟩)))).alloc (.cells #[.int .i64 ((k : Int) + 1), .int .i64 2] 52)) :=
          (BEL.out.setCell (p := ⟨w.heap.size + 1, 0, none⟩) (by simp) _).alloc (by simp [World.setCell]; omega) _
        have HCB := Lib.hid (code_broken wr.heap.size 2 ((wr.setCell ⟨w.heap.size + 1, 0, none⟩ (.iface 50 (.pointer (some ⟨wr.heap.size, 0, none⟩)))).alloc (.cells #[.int .i64 ((k : Int) + 1), .int .i64 2] 52)) (HG.out.below belw HG.out.lt) (by
          have := (Blk.new (wr.setCell ⟨w.heap.size + 1, 0, none⟩ (.iface 50 (.pointer (some ⟨wr.heap.size, 0, none⟩)))) 52 #[.int .i64 ((k : Int) + 1), .int .i64 2]).cell 1
          simpa [World.setCell] using this))
        have hce : ((wr.setCell ⟨w.heap.size + 1, 0, none⟩ (.iface 50 (.pointer (some ⟨wr.heap.size, 0, none⟩)))).alloc (.cells #[.int .i64 ((k : Int) + 1), .int .i64 2] 52)).cell? ⟨w.heap.size + 1, 0, none⟩ = some (.iface 50 (.pointer (some ⟨wr.heap.size, 0, none⟩))) :=
          ((BE.out.set_ 0 _).alloc _).cell 0
        have hnot : ¬ AllOk l := fun h => hzo (h z (List.mem_of_getElem? HZ.out))
        have HN := Lib.hid hnot
        have HB := Lib.hid belw
        clear hzo hnot belw
        go_wp2_with fail
        refine HC1.out.mono ?_
        rintro e w2 ⟨rfl, rfl⟩
        go_wp2_with fail
        refine HCB.out.mono ?_
        rintro e w3 ⟨rfl, b3⟩
        go_wp2_with fail
        go_ret2
        exact .inr ⟨HN.out, none, 0, rfl, Reads.none_, Nat.le_refl _, HB.out.trans (b3.mono HB.out.size)⟩
    · obtain rfl : k = l.length := by omega
      have d1 : decide ((l.length : Int) < (l.length : Int)) = false := by simp
      have g1 : wr.cell? ⟨w.heap.size, 0, none⟩ = some (.slice A1 (rowX l l.length).length c1) := BO.out.cell 0
      obtain ⟨_, _, h3, hc3⟩ := own_slice OWN.out
      injection h3 with h3 h4 h5
      subst h5
      have HF := Lib.hid (show BytesPost (rowBytes l) 0 w (.returned (.tuple #[.slice A1 (rowX l l.length).length c1, .int .i64 0])) wr from ⟨A1, c1, by rw [rowX_all], by have := Reads.of_own OWN.out; rwa [rowX_all] at this, by rw [← rowX_all]; exact hc3, BEL.out⟩)
      have hall : AllOk l := by have := HOK.out; rwa [List.take_length] at this
      have HALL := Lib.hid hall
      clear hall h3 h4
      go_wp2_with fail
      go_ret2
      exact .inl ⟨HALL.out, HF.out⟩
end Go.Proofs.YtlojphajdefkdaaDoor
