/-
  Package varint's ReadRow and the document's: what they give.
-/
import Derived.Test.YtlojphajdefkdaaDoorVaS
namespace Go.Proofs.YtlojphajdefkdaaDoor
open Go.RowKit

def cont (done : List Int) (d : Nat) (x : Option (List Int × Nat)) : Option (List Int × Nat) := x.map fun q => (done ++ q.1, d + q.2)
theorem cont_nil (x : Option (List Int × Nat)) : cont [] 0 x = x := by
  cases x <;> simp [cont]
theorem cont_cont (a b : List Int) (d e : Nat) (x : Option (List Int × Nat)) : cont a d (cont b e x) = cont (a ++ b) (d + e) x := by
  cases x <;> simp [cont, Nat.add_assoc]
theorem decs_step (c : Nat) (L : List UInt8) (p n m : Nat) (h : dec (L.drop p) = some (n, m)) : decs (c + 1) (L.drop p) = cont [(n : Int)] m (decs c (L.drop (p + m))) := by
  rw [decs, h]
  simp only
  rw [List.drop_drop]
  cases decs c (L.drop (p + m)) <;> simp [cont]
theorem decs_stop (c : Nat) (l : List UInt8) (h : dec l = none) : decs (c + 1) l = none := by rw [decs, h]

/-- Ints beside a code. -/
def IntsPost (zs : List Int) (E : Int) (w : World) (e : Ending) (w' : World) : Prop :=
  ∃ A c, e = .returned (.tuple #[.slice A zs.length c, .int .i64 E]) ∧ Reads w' w'.heap.size 1 A zs.length (cellsI .i64 zs) ∧ zs.length ≤ c ∧ Below w.heap.size w w'
def rowZs (b : List UInt8) : List Int := (readOf b).getD []
def rowE (b : List UInt8) : Int := if (readOf b).isSome then 0 else 70
def ReadPost (b : List UInt8) (w : World) (e : Ending) (w' : World) : Prop := IntsPost (rowZs b) (rowE b) w e w'
theorem readPost_no {b : List UInt8} {w w' : World} (h : readOf b = none) (hb : Below w.heap.size w w') : ReadPost b w (.returned (.tuple #[.slice none 0 0, .int .i64 70])) w' := by
  unfold ReadPost rowZs rowE
  rw [h]
  exact ⟨none, 0, rfl, Reads.none_, Nat.le_refl _, hb⟩
theorem readPost_ok {b : List UInt8} {w w' : World} {zs : List Int} {base : Nat} {v : Value} {n : Nat} (h : readOf b = some zs) (hn : zs.length = n) (ho : w'.ownsRow base 3 1 v n (cellsI .i64 zs)) (hb : Below w.heap.size w w') :
    ReadPost b w (.returned (.tuple #[v, .int .i64 0])) w' := by
  subst hn
  unfold ReadPost rowZs rowE
  rw [h]
  obtain ⟨A, c, rfl, hc⟩ := own_slice ho
  exact ⟨A, c, rfl, Reads.of_own ho, hc, hb⟩
theorem readOf_bad0 {b : List UInt8} (h : dec b = none) : readOf b = none := by unfold readOf; rw [h]
theorem readOf_of {b : List UInt8} {n m : Nat} (h : dec b = some (n, m)) : readOf b = match decs n (b.drop m) with
    | none => none
    | some (ns, k) => if m + k = b.length then some ns else none := by
  unfold readOf
  rw [h]
  rfl

theorem infoInt : (Tryd.prog.info? 3).map (fun i => (i.zero, i.size, i.bytes)) = some (some (.int .i64 0), 1, 8) := by kernel_rfl
theorem cellsI_snoc (l : List Int) (z : Int) : cellsI .i64 (l ++ [z]) = cellsI .i64 l ++ [.int .i64 z] := by simp [cellsI]

theorem made_int (n : Nat) : (madeCells (Value.int .i64 0).cells (n * 1)).toList.length = n := by
  simp [madeCells, Value.cells]
theorem own_made (w : World) (n : Nat) (hn : n ≤ 1000000) : (w.alloc (.cells (madeCells (Value.int .i64 0).cells (n * 1)) 3)).ownsRow w.heap.size 3 1 (.slice (some ⟨w.heap.size, 0, none⟩) 0 n) 0 [] := by
  have h := made_int n
  refine ⟨rfl, .inr ⟨w.heap.size, n, _, rfl, Nat.le_refl _, heap_alloc_new w _, by omega, by unfold maxLen; omega, ?_, by simp⟩⟩
  rw [← Array.length_toList, h]; omega

set_option maxRecDepth 100000 in
set_option maxHeartbeats 1000000 in
theorem ReadRow_bad (A : Option Addr) (L : List UInt8) (c : Nat) (w : World) (hL : L.length ≤ 100000) (hr : Reads w w.heap.size 1 A L.length (cellsB L)) (hd : dec L = none) :
    Calls Tryd.prog 18 #[.slice A L.length c] w (ReadPost L w) := by
  have hb0 : Below w.heap.size w (w.alloc (.cells #[.slice A L.length c, .int .i64 0] 43)) := (Below.refl _ _).alloc (Nat.le_refl _) _
  have blk := Blk.new w 43 #[.slice A L.length c, .int .i64 0]
  have hn := next_in w.heap.size A L c 0 w.heap.size _ (blk.cell 0) (blk.cell 1) (blk.frozen 1) (by omega) hL (hr.alloc (Nat.le_refl _) _)
  unfold NextPost at hn
  rw [List.drop_zero, hd] at hn
  have HN := Lib.hid hn
  have HF := Lib.hid (fun W => readPost_no (w := w) (w' := W) (readOf_bad0 hd))
  clear hn blk hr hd
  go_enter Tryd.func18, Tryd.ntmps18
  go_wp2_with (go_at_call 22; refine HN.out.mono ?_; rintro e w1 ⟨b, rfl, _, _, hb1⟩)
  go_ret2
  exact HF.out _ (hb0.trans (hb1.mono hb0.size))

set_option maxRecDepth 100000 in
set_option maxHeartbeats 1000000 in
theorem ReadRow_few (A : Option Addr) (L : List UInt8) (c n0 m0 : Nat) (w : World) (hL : L.length ≤ 100000) (hr : Reads w w.heap.size 1 A L.length (cellsB L)) (hd : dec L = some (n0, m0)) (hm : m0 ≤ L.length) (hfew : L.length - m0 < n0) :
    Calls Tryd.prog 18 #[.slice A L.length c] w (ReadPost L w) := by
  have hb0 : Below w.heap.size w (w.alloc (.cells #[.slice A L.length c, .int .i64 0] 43)) := (Below.refl _ _).alloc (Nat.le_refl _) _
  have blk := Blk.new w 43 #[.slice A L.length c, .int .i64 0]
  have hn := next_in w.heap.size A L c 0 w.heap.size _ (blk.cell 0) (blk.cell 1) (blk.frozen 1) (by omega) hL (hr.alloc (Nat.le_refl _) _)
  unfold NextPost at hn
  rw [List.drop_zero, hd] at hn
  simp only [Int.natCast_zero, Int.zero_add] at hn
  have HN := Lib.hid hn
  have hno : readOf L = none := by
    rw [readOf_of hd, decs_short n0 _ (by rw [List.length_drop]; omega)]
  have HF := Lib.hid (fun W => readPost_no (w := w) (w' := W) hno)
  have d1 : decide ((L.length : Int) - (m0 : Int) < (n0 : Int)) = true := by simp; omega
  clear hn blk hr hd hno
  go_enter Tryd.func18, Tryd.ntmps18
  go_wp2_with fail
  refine HN.out.mono ?_
  rintro e w1 ⟨rfl, q, rfl⟩
  go_wp2_with fail
  go_ret2
  exact HF.out _ ((below_drewN hb0 q).setCell (p := ⟨w.heap.size, 1, none⟩) (Nat.le_refl _) _)

/-- What stands in the loop of ReadRow. -/
def RdInv (A : Option Addr) (L : List UInt8) (c n0 m0 i at_ : Nat) (done : List Int) (v : Value) (w wr : World) : Prop :=
  done.length = i ∧ m0 ≤ at_ ∧ at_ ≤ L.length ∧ wr.ownsRow (w.heap.size + 1) 3 1 v i (cellsI .i64 done) ∧ Blk wr w.heap.size 43 #[.slice A L.length c, .int .i64 at_] ∧ Below w.heap.size w wr ∧ w.heap.size + 1 ≤ wr.heap.size ∧ decs n0 (L.drop m0) = cont done (at_ - m0) (decs (n0 - i) (L.drop at_))

set_option maxRecDepth 100000 in
set_option maxHeartbeats 1000000 in
theorem ReadRow_ok (A : Option Addr) (L : List UInt8) (c n0 m0 : Nat) (w : World) (hL : L.length ≤ 100000) (hg : HasErr w) (hr : Reads w w.heap.size 1 A L.length (cellsB L)) (hd : dec L = some (n0, m0)) (hm : m0 ≤ L.length) (hfew : n0 ≤ L.length - m0) :
    Calls Tryd.prog 18 #[.slice A L.length c] w (ReadPost L w) := by
  obtain ⟨i0, hi, hz0, hz1, hz2⟩ := info_parts infoInt
  have hb0 : Below w.heap.size w (w.alloc (.cells #[.slice A L.length c, .int .i64 0] 43)) := (Below.refl _ _).alloc (Nat.le_refl _) _
  have blk := Blk.new w 43 #[.slice A L.length c, .int .i64 0]
  have hn := next_in w.heap.size A L c 0 w.heap.size _ (blk.cell 0) (blk.cell 1) (blk.frozen 1) (by omega) hL (hr.alloc (Nat.le_refl _) _)
  unfold NextPost at hn
  rw [List.drop_zero, hd] at hn
  simp only [Int.natCast_zero, Int.zero_add] at hn
  have HN := Lib.hid hn
  have HRO := Lib.hid (readOf_of hd)
  have HG := Lib.hid hg
  have HR := Lib.hid hr
  have HBK := Lib.hid blk
  have d1 : decide ((L.length : Int) - (m0 : Int) < (n0 : Int)) = false := by simp; omega
  have hmk : ∀ W : World, (Instr.makeSlice 34 (.int .i64 0) (.int .i64 (n0 : Int))).run Tryd.prog W = .ok (.slice (some ⟨W.heap.size, 0, none⟩) 0 n0) (W.alloc (.cells (madeCells (Value.int .i64 0).cells (n0 * 1)) 3)) := fun W => by
    have := run_make_rowN (P := Tryd.prog) 34 3 i0 _ Tryd.underlying34 hi hz0 .i64 .i64 0 n0 (by omega) (by rw [hz2]; omega) (by omega) W
    rw [hz1] at this
    exact this
  have HOM := Lib.hid (fun W => own_made W n0 (by omega))
  generalize madeCells (Value.int .i64 0).cells (n0 * 1) = mc at hmk HOM
  clear hn blk hr hd hg
  go_enter Tryd.func18, Tryd.ntmps18
  go_wp2_with fail
  refine HN.out.mono ?_
  rintro e w1 ⟨rfl, q, rfl⟩
  go_wp2_with fail
  go_loopw [30, 7] (fun x v wr => ∃ (i at_ : Nat) (done : List Int), i ≤ n0 ∧ x = .int .i64 i ∧ RdInv A L c n0 m0 i at_ done v w wr) (fun x _ _ => n0 - (intOf x).toNat)
  case atStart =>
    refine ⟨0, m0, [], Nat.zero_le _, rfl, rfl, Nat.le_refl _, hm, ?_, ?_, ?_, ?_, ?_⟩
    · have := HOM.out (((w.alloc (.cells #[.slice A L.length c, .int .i64 0] 43)).drewN q).setCell ⟨w.heap.size, 1, none⟩ (.int .i64 m0))
      simpa [World.setCell, cellsI] using this
    · exact ((HBK.out.drewN q).set_ 1 _).alloc _
    · exact ((below_drewN hb0 q).setCell (p := ⟨w.heap.size, 1, none⟩) (Nat.le_refl _) _).alloc (by simp [World.setCell]) _
    · simp [World.setCell]
    · rw [Nat.sub_self, cont_nil, Nat.sub_zero]
  case round =>
    obtain ⟨i, at_, done, hin, rfl, hlen, hma, hal, hown, hblk, hbel, hsz, hdec⟩ := hrel
    have HOWN := Lib.hid hown
    have HBLK := Lib.hid hblk
    have HBEL := Lib.hid hbel
    have HDEC := Lib.hid hdec
    have HLEN := Lib.hid hlen
    have hgw := HG.out.below hbel HG.out.lt
    obtain ⟨AV, cv, rfl, hcv⟩ := own_slice hown
    clear hown hbel hdec hlen
    by_cases hlt : i < n0
    · have d2 : decide ((i : Int) < (n0 : Int)) = true := by simp; omega
      have hnx := next_in w.heap.size A L c at_ w.heap.size wr (hblk.cell 0) (hblk.cell 1) (hblk.frozen 1) hal hL (HR.out.below HBEL.out)
      unfold NextPost at hnx
      obtain ⟨f, hf⟩ : ∃ f, n0 - i = f + 1 := ⟨n0 - i - 1, by omega⟩
      cases hdd : dec (L.drop at_) with
      | none =>
        rw [hdd] at hnx
        have hno : readOf L = none := by
          rw [HRO.out, HDEC.out, hf, decs_stop f _ hdd]; rfl
        have HF := Lib.hid (fun W => readPost_no (w := w) (w' := W) hno)
        have HNX := Lib.hid hnx
        have HGW := Lib.hid hgw
        clear hnx hno hdd hf hblk hgw
        go_wp2_with fail
        refine HNX.out.mono ?_
        rintro e w2 ⟨b, rfl, hc70, hbge, hb2⟩
        have hb3 := HBEL.out.trans (hb2.mono HBEL.out.size)
        have HCB := Lib.hid (code_broken b 70 w2 (HG.out.below hb3 HG.out.lt) hc70)
        clear hc70
        go_wp2_with fail
        refine HCB.out.mono ?_
        rintro e w3 ⟨rfl, hb4⟩
        go_wp2_with fail
        go_ret2
        exact HF.out _ (hb3.trans (hb4.mono hb3.size))
      | some r =>
        obtain ⟨n, m⟩ := r
        rw [hdd] at hnx
        simp only at hnx
        obtain ⟨hnm, hm0, _, hml, _⟩ := dec_only _ _ _ hdd
        rw [List.length_drop] at hml
        have hst := decs_step f L at_ n m hdd
        rw [← hf] at hst
        have HST := Lib.hid hst
        have HNX := Lib.hid hnx
        have HF1 := Lib.hid hf
        clear hst hnx hdd hf hgw
        go_wp2_with fail
        refine HNX.out.mono ?_
        rintro e w2 ⟨rfl, q2, rfl⟩
        have own2 : (((wr.drewN q2).setCell ⟨w.heap.size, 1, none⟩ (.int .i64 ((at_ : Int) + m))).alloc (.cells #[.int .i64 n] 3)).ownsRow (w.heap.size + 1) 3 1 (.slice AV i cv) i (cellsI .i64 done) :=
          (ownsRow_setCell_below (show (wr.drewN q2).ownsRow (w.heap.size + 1) 3 1 (.slice AV i cv) i (cellsI .i64 done) from HOWN.out) (a := ⟨w.heap.size, 1, none⟩) (by simp) _).alloc _
        have bel2 : Below w.heap.size w (((wr.drewN q2).setCell ⟨w.heap.size, 1, none⟩ (.int .i64 ((at_ : Int) + m))).alloc (.cells #[.int .i64 n] 3)) :=
          ((below_drewN HBEL.out q2).setCell (p := ⟨w.heap.size, 1, none⟩) (Nat.le_refl _) _).alloc (by simp [World.setCell]; omega) _
        have blk2 : Blk (((wr.drewN q2).setCell ⟨w.heap.size, 1, none⟩ (.int .i64 ((at_ : Int) + m))).alloc (.cells #[.int .i64 n] 3)) w.heap.size 43 #[.slice A L.length c, .int .i64 ((at_ : Int) + m)] :=
          ((hblk.drewN q2).set_ 1 _).alloc _
        have OWN2 := Lib.hid own2
        have BEL2 := Lib.hid bel2
        have BLK2 := Lib.hid blk2
        have hs2 : w.heap.size + 1 ≤ (((wr.drewN q2).setCell ⟨w.heap.size, 1, none⟩ (.int .i64 ((at_ : Int) + m))).alloc (.cells #[.int .i64 n] 3)).heap.size := by simp [World.setCell]; omega
        have HS2 := Lib.hid hs2
        have hrd := reads_new1 ((wr.drewN q2).setCell ⟨w.heap.size, 1, none⟩ (.int .i64 ((at_ : Int) + m))) (.int .i64 n) 3
        rw [show ((wr.drewN q2).setCell ⟨w.heap.size, 1, none⟩ (.int .i64 ((at_ : Int) + m))).heap.size = wr.heap.size by simp [World.setCell]] at hrd
        have HRD := Lib.hid hrd
        clear hrd
        clear own2 bel2 blk2 hblk hs2
        go_wp2_with (at_builtin; refine wpList_append_any _ rfl (.tmp 40) (.tmp 42) 34 rfl (w.heap.size + 1) 3 i0 (.int .i64 0) 1 8 Tryd.underlying34 hi hz0 hz1 hz2 rfl (by decide) (.slice AV i cv) i (cellsI .i64 done) rfl OWN2.out _ _ 1 1 [.int .i64 n] rfl HRD.out (by simp [Value.oneCell']) (by unfold maxLen; omega) (by omega) HS2.out ?_; intro v' w4 hown' hgrow hat')
        go_roundw
        case rel =>
          have hs4 := hgrow.size
          refine ⟨i + 1, at_ + m, done ++ [(n : Int)], by omega, by go_num, ?_, by omega, by omega, ?_, ?_, ?_, ?_, ?_⟩
          · rw [List.length_append, HLEN.out]; rfl
          · rw [cellsI_snoc]; exact hown'
          · rw [Int.natCast_add]; exact BLK2.out.grown hgrow (own_ge OWN2.out (by omega))
          · exact BEL2.out.grown hgrow (by have := HS2.out; omega) (fun g hg => by have := (OWN2.out.lt g hg).1; omega)
          · have := HS2.out; omega
          · rw [HDEC.out, HST.out, cont_cont, show at_ - m0 + m = at_ + m - m0 by omega, show n0 - (i + 1) = f by have := HF1.out; omega]
        case measure => simp [intOf]; omega
    · obtain rfl : i = n0 := by omega
      have d2 : decide ((i : Int) < (i : Int)) = false := by simp
      have g1 : wr.cell? ⟨w.heap.size, 1, none⟩ = some (.int .i64 at_) := hblk.cell 1
      have hro : readOf L = if m0 + (at_ - m0) = L.length then some done else none := by
        rw [HRO.out, HDEC.out, Nat.sub_self]
        simp [decs, cont]
      by_cases he : at_ = L.length
      · have d3 : ((at_ : Int) != (L.length : Int)) = false := by rw [he]; simp
        rw [if_pos (by omega)] at hro
        have HF := Lib.hid (readPost_ok hro HLEN.out HOWN.out HBEL.out)
        clear hro he hgw hblk
        go_wp2_with fail
        go_ret2
        exact HF.out
      · have d3 : ((at_ : Int) != (L.length : Int)) = true := by simp; omega
        rw [if_neg (by omega)] at hro
        have HF := Lib.hid (readPost_no hro HBEL.out)
        clear hro he hgw hblk
        go_wp2_with fail
        go_ret2
        exact HF.out

theorem ReadRow_any (A : Option Addr) (L : List UInt8) (c : Nat) (w : World) (hL : L.length ≤ 100000) (hg : HasErr w) (hr : Reads w w.heap.size 1 A L.length (cellsB L)) :
    Calls Tryd.prog 18 #[.slice A L.length c] w (ReadPost L w) := by
  cases hd : dec L with
  | none => exact ReadRow_bad A L c w hL hr hd
  | some r =>
    obtain ⟨n, m⟩ := r
    obtain ⟨_, _, _, hm, _⟩ := dec_only _ _ _ hd
    rcases Nat.lt_or_ge (L.length - m) n with h | h
    · exact ReadRow_few A L c n m w hL hr hd hm h
    · exact ReadRow_ok A L c n m w hL hg hr hd hm h
end Go.Proofs.YtlojphajdefkdaaDoor
