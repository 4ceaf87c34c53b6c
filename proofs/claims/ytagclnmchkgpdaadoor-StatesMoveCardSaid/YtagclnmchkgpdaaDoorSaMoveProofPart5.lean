/-
  The statement StatesOld: its walk.
  Layer 18, the document's: Set.
  Layer 18: a move, made by the document.
  The statement StatesTell: its walk.
  Arguments that are transactional ids, opened: their fields, and how their lists lie in memory. (After the guide's page on structs.)
  Rows of moves in memory; arguments that are moves, or slices of moves, opened.
-/
import Derived.Test.YtagclnmchkgpdaaDoorSaMoveProofPart4
import Derived.Test.YtagclnmchkgpdaaDoorGrp12
import Derived.Deep.Slices
import Derived.Deep.Fields
import Derived.ChangeSame
import Derived.Lib.SmallJoins
import Derived.Test.YtagclnmchkgpdaaDoorSaMoveProofPart2
import Derived.Deep.LoopGhost
import Derived.Deep.RegionHeld3
set_option linter.unusedVariables false
set_option linter.unusedSimpArgs false
namespace Go.Proofs.YtagclnmchkgpdaaDoor
open Go.RowKit
/-- How the document puts an offset into its place. -/
def goP (p : Pd) : List Pd → Bool → List Pd
  | [], d => if d then [] else [p]
  | x :: t, d => (if d = false ∧ aheadB x p = false then [p] else []) ++ ((if aheadB x p = true ∨ aheadB p x = true then [x] else []) ++ goP p t (d || !(aheadB x p)))
theorem plI_posr (a b : Pd) : aheadP b a → 0 < plI a b := fun h => by
  have h1 := plI_neg a b
  have h2 := plI_zero a b
  have h3 : ¬ plI a b < 0 := fun k => by have := h1.1 k; have h5 : aheadP a b := this; rw [ahead_iff] at *; omega
  have h4 : ¬ plI a b = 0 := fun k => by have := h2.1 k; rw [ahead_iff] at *; omega
  omega
theorem goP_done (p : Pd) : ∀ l : List Pd, (∀ y ∈ l, aheadP p y) → goP p l true = l
  | [], _ => rfl
  | x :: t, h => by
    unfold goP
    rw [if_neg (by simp), if_pos (.inr (h x List.mem_cons_self)), Bool.true_or, goP_done p t (fun y hy => h y (List.mem_cons_of_mem _ hy))]
    rfl
theorem goP_keep (p : Pd) : ∀ l : List Pd, l.Pairwise aheadP → goP p l false = keepF (fun y => plI y p) l p
  | [], _ => rfl
  | x :: t, h => by
    have h' := List.pairwise_cons.1 h
    have c1 := plI_neg x p
    rw [keepF_cons]
    unfold goP
    cases hx : aheadB x p
    · have n1 : ¬ plI x p < 0 := fun k => by rw [c1.1 k] at hx; cases hx
      rw [if_pos ⟨rfl, rfl⟩, if_neg n1, Bool.false_or, show (!false) = true from rfl]
      by_cases hz : plI x p = 0
      · have hxp : ¬ aheadB p x = true := fun k => by have := plI_posr x p k; omega
        have := (plI_zero x p).1 hz
        rw [if_pos hz, if_neg (by simp [hxp]), goP_done p t (fun y hy => by have h1 := h'.1 y hy; rw [ahead_iff] at *; omega)]
        rfl
      · have hp : aheadP p x := plI_pos x p (by omega)
        rw [if_neg hz, if_pos (.inr hp), goP_done p t (fun y hy => ahead_tr _ _ _ hp (h'.1 y hy))]
        rfl
    · rw [if_neg (by simp), if_pos (.inl rfl), if_pos (c1.2 hx), Bool.false_or, show (!true) = false from rfl, goP_keep p t h'.2]
      rfl
/-- A round's worlds: the call's blocks, the box of what is looked at, the list that is made. -/
structure RdB (w : World) (n : Nat) (cs : List (TypeId × Array Value)) (xb : Nat) (t : TypeId) (xc : Array Value) (ou : List Pd) (A : Option Addr) (cc : Nat) (W : World) : Prop where
  ms : MkS w n cs W
  xl : w.heap.size + n ≤ xb
  bx : Blk W xb t xc
  ow : W.ownsRow (w.heap.size + n) 38 3 (.slice A ou.length cc) ou.length (cellsP ou)
  ne : ∀ y, (Value.slice A ou.length cc).ownBlock = some y → y ≠ xb
section
variable {w : World} {n : Nat} {cs : List (TypeId × Array Value)} {xb : Nat} {t : TypeId} {xc : Array Value} {ou : List Pd} {A : Option Addr} {cc : Nat} {W : World}
theorem RdB.start {W1 : World} (h : MkS w n cs W) (hl : cs.length = n) (ow : W.ownsRow (w.heap.size + n) 38 3 (.slice A ou.length cc) ou.length (cellsP ou)) (bx : Blk W1 W.heap.size t xc) (hb : Below W.heap.size W W1) : RdB w n cs W.heap.size t xc ou A cc W1 :=
  ⟨h.below hl hb, h.top, bx, own_below ow hb, fun y hy => by have := (ow.lt y hy).2; omega⟩
theorem RdB.below {W1 : World} (h : RdB w n cs xb t xc ou A cc W) (hl : cs.length = n) (hb : Below W.heap.size W W1) : RdB w n cs xb t xc ou A cc W1 :=
  ⟨h.ms.below hl hb, h.xl, h.bx.below hb h.bx.lt, own_below h.ow hb, h.ne⟩
theorem RdB.app {W3 : World} {ob : Obj} {ou' : List Pd} {A' : Option Addr} {c' : Nat} (h : RdB w n cs xb t xc ou A cc W) (hl : cs.length = n) (hg : (W.alloc ob).grownBy W3 (Value.slice A ou.length cc).ownBlock) (ow : W3.ownsRow (w.heap.size + n) 38 3 (.slice A' ou'.length c') ou'.length (cellsP ou')) (hat : (Value.slice A' ou'.length c').ownBlock = (Value.slice A ou.length cc).ownBlock ∨ (Value.slice A' ou'.length c').ownBlock = some (W.alloc ob).heap.size) : RdB w n cs xb t xc ou' A' c' W3 :=
  ⟨(h.ms.alloc hl ob).grown hl hg (fun y hy => (h.ow.lt y hy).1), h.xl, bk_grown_blk hg (h.bx.alloc ob) (fun e => h.ne _ e rfl), ow, fun y hy e => by
    rcases hat with k | k
    · rw [k] at hy; exact h.ne y hy e
    · rw [k, World.size_alloc] at hy; injection hy with hy; have := h.bx.lt; omega⟩
end
theorem pends_pw {c : Co} (h : mayB c = true) : c.qs.Pairwise aheadP := by
  by_cases h0 : c.st = 0
  · rw [may_none h h0]; exact List.Pairwise.nil
  have h1 := may_range h h0
  unfold rangeB at h1
  simp only [Bool.and_eq_true, decide_eq_true_eq] at h1
  obtain ⟨_, _, _, _, _, _, _, _, _, _, hqs⟩ := h1
  rw [adjB_iff] at hqs
  exact adj_pw ahead_tr hqs
theorem infoPd3 : (Tryd.prog.info? 38).map (·.size) = some 3 := by kernel_rfl
theorem reads_newP (w : World) (t : TypeId) (l : List Pd) : Reads (w.alloc (.cells (cellsP l).toArray t)) (w.heap.size + 1) 3 (some ⟨w.heap.size, 0, none⟩) l.length (cellsP l) := by
  refine ⟨by rw [length_cellsP], fun _ => ⟨_, rfl, Nat.lt_succ_self _, fun j u hu => ?_⟩⟩
  rw [add_none, Nat.zero_add]
  have := (Blk.new w t (cellsP l).toArray).cell j
  rw [this]
  simpa using hu
theorem load_pd {W : World} {b o : Nat} {x : Pd} (h : W.cell? ⟨b, o, none⟩ = some (.int .i64 x.1) ∧ W.cell? ⟨b, o + 1, none⟩ = some (.int .i64 x.2.1) ∧ W.cell? ⟨b, o + 2, none⟩ = some (.int .i64 x.2.2)) :
    (loadCells ⟨b, o, none⟩ 3).run Tryd.prog W = .ok #[.int .i64 x.1, .int .i64 x.2.1, .int .i64 x.2.2] W := by
  have := run_loadCells_list (P := Tryd.prog) W ⟨b, o, none⟩ [.int .i64 x.1, .int .i64 x.2.1, .int .i64 x.2.2] (fun j v hv => by
    rw [Addr.add_mid]
    match j, hv with
    | 0, hv => simp at hv; subst hv; exact h.1
    | 1, hv => simp at hv; subst hv; exact h.2.1
    | 2, hv => simp at hv; subst hv; exact h.2.2)
  simpa using this
section
attribute [-go_sem] loadCells storeVar
set_option maxRecDepth 100000 in
theorem rset_ret (x : Co) (A5 D5 : Option Addr) (c5 e5 : Nat) (n : Int) (tmps : Array Value) (b : Nat) (W : World) (h2 : tmps[4]?.getD undef = .pointer (some ⟨b, 0, none⟩)) (h3 : tmps[5]?.getD undef = .int .i64 n) (hK : Blk W b 26 #[.int .i8 x.st, .int .i64 x.pid, .int .i64 x.ep, .int .i64 x.tm, .int .i64 x.th, .slice A5 x.ps.length c5, .slice D5 x.qs.length e5, .int .i64 x.ag]) :
    (results Tryd.f42 tmps).run Tryd.prog W = .ok (.tuple #[(.agg #[.int .i8 x.st, .int .i64 x.pid, .int .i64 x.ep, .int .i64 x.tm, .int .i64 x.th, .slice A5 x.ps.length c5, .slice D5 x.qs.length e5, .int .i64 x.ag]), .int .i64 n]) W := by
  have LC := bk_load (P := Tryd.prog) 8 hK rfl
  clear hK
  simp [results, Tryd.results42, go_sem, h2, h3, LC]
set_option maxRecDepth 100000 in
set_option maxHeartbeats 2000000 in
theorem rset_a (c : Co) (A1 D1 : Option Addr) (c1 e1 : Nat) (p : Pd) (w : World) (h1 : CoR w w.heap.size c A1 D1) (h8 : -128 ≤ c.st) (h9 : c.st ≤ 127) (hmay : mayB c = false) :
    Calls Tryd.prog 42 #[(.agg #[.int .i8 c.st, .int .i64 c.pid, .int .i64 c.ep, .int .i64 c.tm, .int .i64 c.th, .slice A1 c.ps.length c1, .slice D1 c.qs.length e1, .int .i64 c.ag]), .agg #[.int .i64 p.1, .int .i64 p.2.1, .int .i64 p.2.2]] w (MvP c A1 D1 (setC c p) (setE c p) w) := by
  have HE := Lib.hid (show setE c p = 2 by unfold setE; rw [chk_no hmay])
  have HC := Lib.hid (show setC c p = Co0 by unfold setC; rw [HE.out, if_neg (by decide)])

  obtain ⟨W0, hW0⟩ : ∃ W0, W0 = ((w.alloc (.cells #[.int .i8 c.st, .int .i64 c.pid, .int .i64 c.ep, .int .i64 c.tm, .int .i64 c.th, .slice A1 c.ps.length c1, .slice D1 c.qs.length e1, .int .i64 c.ag] 26)).alloc (.cells #[.int .i64 p.1, .int .i64 p.2.1, .int .i64 p.2.2] 38)).alloc (.cells #[.int .i8 0, .int .i64 0, .int .i64 0, .int .i64 0, .int .i64 0, .slice none 0 0, .slice none 0 0, .int .i64 0] 26) := ⟨_, rfl⟩
  have s0 : W0.heap.size = w.heap.size + 1 + 1 + 1 := by rw [hW0]; simp
  have B0 : Below w.heap.size w W0 := by rw [hW0]; exact bal (bal (bal (Below.refl _ _) _) _) _
  have K1 : Blk W0 w.heap.size 26 #[.int .i8 c.st, .int .i64 c.pid, .int .i64 c.ep, .int .i64 c.tm, .int .i64 c.th, .slice A1 c.ps.length c1, .slice D1 c.qs.length e1, .int .i64 c.ag] := by rw [hW0]; exact ((Blk.new w 26 #[.int .i8 c.st, .int .i64 c.pid, .int .i64 c.ep, .int .i64 c.tm, .int .i64 c.th, .slice A1 c.ps.length c1, .slice D1 c.qs.length e1, .int .i64 c.ag]).alloc _).alloc _
  have K2 : Blk W0 (w.heap.size + 1) 38 #[.int .i64 p.1, .int .i64 p.2.1, .int .i64 p.2.2] := by rw [hW0]; exact (bk_new _ 38 #[.int .i64 p.1, .int .i64 p.2.1, .int .i64 p.2.2] (by simp)).alloc _
  have K3 : Blk W0 (w.heap.size + 1 + 1) 26 #[.int .i8 0, .int .i64 0, .int .i64 0, .int .i64 0, .int .i64 0, .slice none 0 0, .slice none 0 0, .int .i64 0] := by rw [hW0]; exact bk_new _ 26 #[.int .i8 0, .int .i64 0, .int .i64 0, .int .i64 0, .int .i64 0, .slice none 0 0, .slice none 0 0, .int .i64 0] (by simp)
  have HW := Lib.hid hW0
  have HS := Lib.hid s0
  have HB := Lib.hid B0
  have HK1 := Lib.hid K1
  have HK2 := Lib.hid K2
  have HK3 := Lib.hid K3
  have H1 := Lib.hid h1
  have MY := Lib.hid (rMay_any c A1 D1 c1 e1 w.heap.size W0 (h1.below B0) B0.size h8 h9)
  rw [hmay] at MY
  have L0 := bk_load (P := Tryd.prog) 8 K1 rfl
  clear hW0 s0 B0 K1 K2 K3 h1 h8 h9 hmay 
  go_enter Tryd.func42, Tryd.ntmps42
  go_upto_region 1 with (fail)
  rw [← HW.out]
  go_wp2_with fail
  refine MY.out.mono ?_
  rintro e w1 ⟨rfl, b1⟩
  have B1 := Lib.hid (show Below W0.heap.size W0 w1 from b1)
  clear L0 b1
  have kx := HK1.out.below B1.out (by have := HS.out; omega)
  have x0 := kx.cell 0
  have x1 := kx.cell 1
  have x2 := kx.cell 2
  have x3 := kx.cell 3
  have x4 := kx.cell 4
  have x5 := kx.cell 5
  have x6 := kx.cell 6
  have L1 := bk_load (P := Tryd.prog) 8 kx rfl
  have LP := bk_load (P := Tryd.prog) 3 (HK2.out.below B1.out (by have := HS.out; omega)) rfl
  clear kx
  obtain ⟨W9, st, kk, fb, fh, fs⟩ := bk_store (P := Tryd.prog) (ty := 26) (cs := #[.int .i8 0, .int .i64 0, .int .i64 0, .int .i64 0, .int .i64 0, .slice none 0 0, .slice none 0 0, .int .i64 0]) 8 (HK3.out.below B1.out (by have := HS.out; omega)) infoCo rfl rfl (by simp [Value.oneCell'])
  have BB := Lib.hid (fb w.heap.size w (by omega) (HB.out.trans (B1.out.mono HB.out.size)))
  have KK := Lib.hid kk
  clear kk fb fh fs
  go_wp2_with fail
  refine bodyPost_ret (v := .tuple #[.agg #[.int .i8 0, .int .i64 0, .int .i64 0, .int .i64 0, .int .i64 0, .slice none 0 0, .slice none 0 0, .int .i64 0], .int .i64 2]) (rset_ret Co0 none none 0 0 _ _ (w.heap.size + 1 + 1) _ rfl rfl KK.out) rfl ?_
  rw [HE.out, HC.out]
  exact ⟨none, none, 0, 0, rfl, ⟨Reads.none_, Reads.none_, Nat.zero_le _, Nat.zero_le _⟩, BB.out, fun b hb _ _ => ⟨offB_none', offB_none'⟩⟩
set_option maxRecDepth 100000 in
set_option maxHeartbeats 2000000 in
theorem rset_b (c : Co) (A1 D1 : Option Addr) (c1 e1 : Nat) (p : Pd) (w : World) (h1 : CoR w w.heap.size c A1 D1) (h8 : -128 ≤ c.st) (h9 : c.st ≤ 127) (hmay : mayB c = true) (kp : pendB p = false) :
    Calls Tryd.prog 42 #[(.agg #[.int .i8 c.st, .int .i64 c.pid, .int .i64 c.ep, .int .i64 c.tm, .int .i64 c.th, .slice A1 c.ps.length c1, .slice D1 c.qs.length e1, .int .i64 c.ag]), .agg #[.int .i64 p.1, .int .i64 p.2.1, .int .i64 p.2.2]] w (MvP c A1 D1 (setC c p) (setE c p) w) := by
  have HE := Lib.hid (show setE c p = 2 by unfold setE chkE; rw [if_pos (.inl kp)])
  have HC := Lib.hid (show setC c p = Co0 by unfold setC; rw [HE.out, if_neg (by decide)])
  have PW := Lib.hid (fun W => pend_any p W)
  rw [kp] at PW
  obtain ⟨W0, hW0⟩ : ∃ W0, W0 = ((w.alloc (.cells #[.int .i8 c.st, .int .i64 c.pid, .int .i64 c.ep, .int .i64 c.tm, .int .i64 c.th, .slice A1 c.ps.length c1, .slice D1 c.qs.length e1, .int .i64 c.ag] 26)).alloc (.cells #[.int .i64 p.1, .int .i64 p.2.1, .int .i64 p.2.2] 38)).alloc (.cells #[.int .i8 0, .int .i64 0, .int .i64 0, .int .i64 0, .int .i64 0, .slice none 0 0, .slice none 0 0, .int .i64 0] 26) := ⟨_, rfl⟩
  have s0 : W0.heap.size = w.heap.size + 1 + 1 + 1 := by rw [hW0]; simp
  have B0 : Below w.heap.size w W0 := by rw [hW0]; exact bal (bal (bal (Below.refl _ _) _) _) _
  have K1 : Blk W0 w.heap.size 26 #[.int .i8 c.st, .int .i64 c.pid, .int .i64 c.ep, .int .i64 c.tm, .int .i64 c.th, .slice A1 c.ps.length c1, .slice D1 c.qs.length e1, .int .i64 c.ag] := by rw [hW0]; exact ((Blk.new w 26 #[.int .i8 c.st, .int .i64 c.pid, .int .i64 c.ep, .int .i64 c.tm, .int .i64 c.th, .slice A1 c.ps.length c1, .slice D1 c.qs.length e1, .int .i64 c.ag]).alloc _).alloc _
  have K2 : Blk W0 (w.heap.size + 1) 38 #[.int .i64 p.1, .int .i64 p.2.1, .int .i64 p.2.2] := by rw [hW0]; exact (bk_new _ 38 #[.int .i64 p.1, .int .i64 p.2.1, .int .i64 p.2.2] (by simp)).alloc _
  have K3 : Blk W0 (w.heap.size + 1 + 1) 26 #[.int .i8 0, .int .i64 0, .int .i64 0, .int .i64 0, .int .i64 0, .slice none 0 0, .slice none 0 0, .int .i64 0] := by rw [hW0]; exact bk_new _ 26 #[.int .i8 0, .int .i64 0, .int .i64 0, .int .i64 0, .int .i64 0, .slice none 0 0, .slice none 0 0, .int .i64 0] (by simp)
  have HW := Lib.hid hW0
  have HS := Lib.hid s0
  have HB := Lib.hid B0
  have HK1 := Lib.hid K1
  have HK2 := Lib.hid K2
  have HK3 := Lib.hid K3
  have H1 := Lib.hid h1
  have MY := Lib.hid (rMay_any c A1 D1 c1 e1 w.heap.size W0 (h1.below B0) B0.size h8 h9)
  rw [hmay] at MY
  have L0 := bk_load (P := Tryd.prog) 8 K1 rfl
  clear hW0 s0 B0 K1 K2 K3 h1 h8 h9 hmay kp
  go_enter Tryd.func42, Tryd.ntmps42
  go_upto_region 1 with (fail)
  rw [← HW.out]
  go_wp2_with fail
  refine MY.out.mono ?_
  rintro e w1 ⟨rfl, b1⟩
  have B1 := Lib.hid (show Below W0.heap.size W0 w1 from b1)
  clear L0 b1
  have kx := HK1.out.below B1.out (by have := HS.out; omega)
  have x0 := kx.cell 0
  have x1 := kx.cell 1
  have x2 := kx.cell 2
  have x3 := kx.cell 3
  have x4 := kx.cell 4
  have x5 := kx.cell 5
  have x6 := kx.cell 6
  have L1 := bk_load (P := Tryd.prog) 8 kx rfl
  have LP := bk_load (P := Tryd.prog) 3 (HK2.out.below B1.out (by have := HS.out; omega)) rfl
  clear kx
  go_wp2_with fail
  refine (PW.out _).mono ?_
  rintro e w2 ⟨rfl, b2⟩
  have B2 := Lib.hid (B1.out.trans (b2.mono B1.out.size))
  clear b2
  clear x0 x1 x2 x3 x4 x5 x6 L1 LP
  have kx := HK1.out.below B2.out (by have := HS.out; omega)
  have x0 := kx.cell 0
  have x1 := kx.cell 1
  have x2 := kx.cell 2
  have x3 := kx.cell 3
  have x4 := kx.cell 4
  have x5 := kx.cell 5
  have x6 := kx.cell 6
  have L1 := bk_load (P := Tryd.prog) 8 kx rfl
  have LP := bk_load (P := Tryd.prog) 3 (HK2.out.below B2.out (by have := HS.out; omega)) rfl
  clear kx
  obtain ⟨W9, st, kk, fb, fh, fs⟩ := bk_store (P := Tryd.prog) (ty := 26) (cs := #[.int .i8 0, .int .i64 0, .int .i64 0, .int .i64 0, .int .i64 0, .slice none 0 0, .slice none 0 0, .int .i64 0]) 8 (HK3.out.below B2.out (by have := HS.out; omega)) infoCo rfl rfl (by simp [Value.oneCell'])
  have BB := Lib.hid (fb w.heap.size w (by omega) (HB.out.trans (B2.out.mono HB.out.size)))
  have KK := Lib.hid kk
  clear kk fb fh fs
  go_wp2_with fail
  refine bodyPost_ret (v := .tuple #[.agg #[.int .i8 0, .int .i64 0, .int .i64 0, .int .i64 0, .int .i64 0, .slice none 0 0, .slice none 0 0, .int .i64 0], .int .i64 2]) (rset_ret Co0 none none 0 0 _ _ (w.heap.size + 1 + 1) _ rfl rfl KK.out) rfl ?_
  rw [HE.out, HC.out]
  exact ⟨none, none, 0, 0, rfl, ⟨Reads.none_, Reads.none_, Nat.zero_le _, Nat.zero_le _⟩, BB.out, fun b hb _ _ => ⟨offB_none', offB_none'⟩⟩
set_option maxRecDepth 100000 in
set_option maxHeartbeats 2000000 in
theorem rset_c (c : Co) (A1 D1 : Option Addr) (c1 e1 : Nat) (p : Pd) (w : World) (h1 : CoR w w.heap.size c A1 D1) (h8 : -128 ≤ c.st) (h9 : c.st ≤ 127) (hmay : mayB c = true) (kp : pendB p = true) (ki : idlB c = false) (k2 : ¬ c.st = 2) :
    Calls Tryd.prog 42 #[(.agg #[.int .i8 c.st, .int .i64 c.pid, .int .i64 c.ep, .int .i64 c.tm, .int .i64 c.th, .slice A1 c.ps.length c1, .slice D1 c.qs.length e1, .int .i64 c.ag]), .agg #[.int .i64 p.1, .int .i64 p.2.1, .int .i64 p.2.2]] w (MvP c A1 D1 (setC c p) (setE c p) w) := by
  have HE := Lib.hid (show setE c p = 180 by unfold setE; rw [kp, chk_of hmay, begins_of hmay]; by_cases h0 : c.st = 0 <;> simp [h0, ki, k2])
  have HC := Lib.hid (show setC c p = Co0 by unfold setC; rw [HE.out, if_neg (by decide)])
  have ID := Lib.hid (fun W => idle_any c A1 D1 c1 e1 W)
  have PW := Lib.hid (fun W => pend_any p W)
  rw [kp] at PW
  rw [ki] at ID
  have z2 : (c.st != 2) = true := by simpa using k2
  obtain ⟨W0, hW0⟩ : ∃ W0, W0 = ((w.alloc (.cells #[.int .i8 c.st, .int .i64 c.pid, .int .i64 c.ep, .int .i64 c.tm, .int .i64 c.th, .slice A1 c.ps.length c1, .slice D1 c.qs.length e1, .int .i64 c.ag] 26)).alloc (.cells #[.int .i64 p.1, .int .i64 p.2.1, .int .i64 p.2.2] 38)).alloc (.cells #[.int .i8 0, .int .i64 0, .int .i64 0, .int .i64 0, .int .i64 0, .slice none 0 0, .slice none 0 0, .int .i64 0] 26) := ⟨_, rfl⟩
  have s0 : W0.heap.size = w.heap.size + 1 + 1 + 1 := by rw [hW0]; simp
  have B0 : Below w.heap.size w W0 := by rw [hW0]; exact bal (bal (bal (Below.refl _ _) _) _) _
  have K1 : Blk W0 w.heap.size 26 #[.int .i8 c.st, .int .i64 c.pid, .int .i64 c.ep, .int .i64 c.tm, .int .i64 c.th, .slice A1 c.ps.length c1, .slice D1 c.qs.length e1, .int .i64 c.ag] := by rw [hW0]; exact ((Blk.new w 26 #[.int .i8 c.st, .int .i64 c.pid, .int .i64 c.ep, .int .i64 c.tm, .int .i64 c.th, .slice A1 c.ps.length c1, .slice D1 c.qs.length e1, .int .i64 c.ag]).alloc _).alloc _
  have K2 : Blk W0 (w.heap.size + 1) 38 #[.int .i64 p.1, .int .i64 p.2.1, .int .i64 p.2.2] := by rw [hW0]; exact (bk_new _ 38 #[.int .i64 p.1, .int .i64 p.2.1, .int .i64 p.2.2] (by simp)).alloc _
  have K3 : Blk W0 (w.heap.size + 1 + 1) 26 #[.int .i8 0, .int .i64 0, .int .i64 0, .int .i64 0, .int .i64 0, .slice none 0 0, .slice none 0 0, .int .i64 0] := by rw [hW0]; exact bk_new _ 26 #[.int .i8 0, .int .i64 0, .int .i64 0, .int .i64 0, .int .i64 0, .slice none 0 0, .slice none 0 0, .int .i64 0] (by simp)
  have HW := Lib.hid hW0
  have HS := Lib.hid s0
  have HB := Lib.hid B0
  have HK1 := Lib.hid K1
  have HK2 := Lib.hid K2
  have HK3 := Lib.hid K3
  have H1 := Lib.hid h1
  have MY := Lib.hid (rMay_any c A1 D1 c1 e1 w.heap.size W0 (h1.below B0) B0.size h8 h9)
  rw [hmay] at MY
  have L0 := bk_load (P := Tryd.prog) 8 K1 rfl
  clear hW0 s0 B0 K1 K2 K3 h1 h8 h9 hmay kp ki k2
  go_enter Tryd.func42, Tryd.ntmps42
  go_upto_region 1 with (fail)
  rw [← HW.out]
  go_wp2_with fail
  refine MY.out.mono ?_
  rintro e w1 ⟨rfl, b1⟩
  have B1 := Lib.hid (show Below W0.heap.size W0 w1 from b1)
  clear L0 b1
  have kx := HK1.out.below B1.out (by have := HS.out; omega)
  have x0 := kx.cell 0
  have x1 := kx.cell 1
  have x2 := kx.cell 2
  have x3 := kx.cell 3
  have x4 := kx.cell 4
  have x5 := kx.cell 5
  have x6 := kx.cell 6
  have L1 := bk_load (P := Tryd.prog) 8 kx rfl
  have LP := bk_load (P := Tryd.prog) 3 (HK2.out.below B1.out (by have := HS.out; omega)) rfl
  clear kx
  go_wp2_with fail
  refine (PW.out _).mono ?_
  rintro e w2 ⟨rfl, b2⟩
  have B2 := Lib.hid (B1.out.trans (b2.mono B1.out.size))
  clear b2
  clear x0 x1 x2 x3 x4 x5 x6 L1 LP
  have kx := HK1.out.below B2.out (by have := HS.out; omega)
  have x0 := kx.cell 0
  have x1 := kx.cell 1
  have x2 := kx.cell 2
  have x3 := kx.cell 3
  have x4 := kx.cell 4
  have x5 := kx.cell 5
  have x6 := kx.cell 6
  have L1 := bk_load (P := Tryd.prog) 8 kx rfl
  have LP := bk_load (P := Tryd.prog) 3 (HK2.out.below B2.out (by have := HS.out; omega)) rfl
  clear kx
  go_wp2_with fail
  refine (ID.out _).mono ?_
  rintro e w3 ⟨rfl, b3⟩
  have B3 := Lib.hid (B2.out.trans (b3.mono B2.out.size))
  clear b3
  clear x0 x1 x2 x3 x4 x5 x6 L1 LP
  have kx := HK1.out.below B3.out (by have := HS.out; omega)
  have x0 := kx.cell 0
  have x1 := kx.cell 1
  have x2 := kx.cell 2
  have x3 := kx.cell 3
  have x4 := kx.cell 4
  have x5 := kx.cell 5
  have x6 := kx.cell 6
  have L1 := bk_load (P := Tryd.prog) 8 kx rfl
  have LP := bk_load (P := Tryd.prog) 3 (HK2.out.below B3.out (by have := HS.out; omega)) rfl
  clear kx
  obtain ⟨W9, st, kk, fb, fh, fs⟩ := bk_store (P := Tryd.prog) (ty := 26) (cs := #[.int .i8 0, .int .i64 0, .int .i64 0, .int .i64 0, .int .i64 0, .slice none 0 0, .slice none 0 0, .int .i64 0]) 8 (HK3.out.below B3.out (by have := HS.out; omega)) infoCo rfl rfl (by simp [Value.oneCell'])
  have BB := Lib.hid (fb w.heap.size w (by omega) (HB.out.trans (B3.out.mono HB.out.size)))
  have KK := Lib.hid kk
  clear kk fb fh fs
  go_wp2_with fail
  refine bodyPost_ret (v := .tuple #[.agg #[.int .i8 0, .int .i64 0, .int .i64 0, .int .i64 0, .int .i64 0, .slice none 0 0, .slice none 0 0, .int .i64 0], .int .i64 180]) (rset_ret Co0 none none 0 0 _ _ (w.heap.size + 1 + 1) _ rfl rfl KK.out) rfl ?_
  rw [HE.out, HC.out]
  exact ⟨none, none, 0, 0, rfl, ⟨Reads.none_, Reads.none_, Nat.zero_le _, Nat.zero_le _⟩, BB.out, fun b hb _ _ => ⟨offB_none', offB_none'⟩⟩
set_option maxRecDepth 100000 in
set_option maxHeartbeats 2000000 in
theorem rset_di (c : Co) (A1 D1 : Option Addr) (c1 e1 : Nat) (p : Pd) (w : World) (h1 : CoR w w.heap.size c A1 D1) (h8 : -128 ≤ c.st) (h9 : c.st ≤ 127) (hmay : mayB c = true) (kp : pendB p = true) (k3 : idlB c = true ∨ c.st = 2) (k4 : idlB c = true) :
    Calls Tryd.prog 42 #[(.agg #[.int .i8 c.st, .int .i64 c.pid, .int .i64 c.ep, .int .i64 c.tm, .int .i64 c.th, .slice A1 c.ps.length c1, .slice D1 c.qs.length e1, .int .i64 c.ag]), .agg #[.int .i64 p.1, .int .i64 p.2.1, .int .i64 p.2.2]] w (MvP c A1 D1 (setC c p) (setE c p) w) := by
  have HE := Lib.hid (show setE c p = 0 by unfold setE; rw [kp, chk_of hmay, begins_of hmay, if_neg (show ¬ c.st = 0 by rcases k3 with h | h; have := (idl_iff c).1 h; omega; omega)]; rcases k3 with h | h; by_cases h2 : c.st = 2; simp [h2]; simp [h2, h]; simp [h])
  have HC := Lib.hid (show setC c p = { c with st := 2, qs := keepF (fun y => plI y p) c.qs p } by unfold setC; rw [HE.out, if_pos rfl])
  have ID := Lib.hid (fun W => idle_any c A1 D1 c1 e1 W)
  have PW := Lib.hid (fun W => pend_any p W)
  rw [kp] at PW
  rw [k4] at ID
  have PWW := Lib.hid (pends_pw hmay)
  have HPS := Lib.hid (may_small hmay).2
  obtain ⟨W0, hW0⟩ : ∃ W0, W0 = ((w.alloc (.cells #[.int .i8 c.st, .int .i64 c.pid, .int .i64 c.ep, .int .i64 c.tm, .int .i64 c.th, .slice A1 c.ps.length c1, .slice D1 c.qs.length e1, .int .i64 c.ag] 26)).alloc (.cells #[.int .i64 p.1, .int .i64 p.2.1, .int .i64 p.2.2] 38)).alloc (.cells #[.int .i8 0, .int .i64 0, .int .i64 0, .int .i64 0, .int .i64 0, .slice none 0 0, .slice none 0 0, .int .i64 0] 26) := ⟨_, rfl⟩
  have s0 : W0.heap.size = w.heap.size + 1 + 1 + 1 := by rw [hW0]; simp
  have B0 : Below w.heap.size w W0 := by rw [hW0]; exact bal (bal (bal (Below.refl _ _) _) _) _
  have K1 : Blk W0 w.heap.size 26 #[.int .i8 c.st, .int .i64 c.pid, .int .i64 c.ep, .int .i64 c.tm, .int .i64 c.th, .slice A1 c.ps.length c1, .slice D1 c.qs.length e1, .int .i64 c.ag] := by rw [hW0]; exact ((Blk.new w 26 #[.int .i8 c.st, .int .i64 c.pid, .int .i64 c.ep, .int .i64 c.tm, .int .i64 c.th, .slice A1 c.ps.length c1, .slice D1 c.qs.length e1, .int .i64 c.ag]).alloc _).alloc _
  have K2 : Blk W0 (w.heap.size + 1) 38 #[.int .i64 p.1, .int .i64 p.2.1, .int .i64 p.2.2] := by rw [hW0]; exact (bk_new _ 38 #[.int .i64 p.1, .int .i64 p.2.1, .int .i64 p.2.2] (by simp)).alloc _
  have K3 : Blk W0 (w.heap.size + 1 + 1) 26 #[.int .i8 0, .int .i64 0, .int .i64 0, .int .i64 0, .int .i64 0, .slice none 0 0, .slice none 0 0, .int .i64 0] := by rw [hW0]; exact bk_new _ 26 #[.int .i8 0, .int .i64 0, .int .i64 0, .int .i64 0, .int .i64 0, .slice none 0 0, .slice none 0 0, .int .i64 0] (by simp)
  have HW := Lib.hid hW0
  have HS := Lib.hid s0
  have HB := Lib.hid B0
  have HK1 := Lib.hid K1
  have HK2 := Lib.hid K2
  have HK3 := Lib.hid K3
  have H1 := Lib.hid h1
  have MY := Lib.hid (rMay_any c A1 D1 c1 e1 w.heap.size W0 (h1.below B0) B0.size h8 h9)
  rw [hmay] at MY
  have L0 := bk_load (P := Tryd.prog) 8 K1 rfl
  clear hW0 s0 B0 K1 K2 K3 h1 h8 h9 hmay kp k3 k4
  go_enter Tryd.func42, Tryd.ntmps42
  go_upto_region 1 with (fail)
  rw [← HW.out]
  go_wp2_with fail
  refine MY.out.mono ?_
  rintro e w1 ⟨rfl, b1⟩
  have B1 := Lib.hid (show Below W0.heap.size W0 w1 from b1)
  clear L0 b1
  have kx := HK1.out.below B1.out (by have := HS.out; omega)
  have x0 := kx.cell 0
  have x1 := kx.cell 1
  have x2 := kx.cell 2
  have x3 := kx.cell 3
  have x4 := kx.cell 4
  have x5 := kx.cell 5
  have x6 := kx.cell 6
  have L1 := bk_load (P := Tryd.prog) 8 kx rfl
  have LP := bk_load (P := Tryd.prog) 3 (HK2.out.below B1.out (by have := HS.out; omega)) rfl
  clear kx
  go_wp2_with fail
  refine (PW.out _).mono ?_
  rintro e w2 ⟨rfl, b2⟩
  have B2 := Lib.hid (B1.out.trans (b2.mono B1.out.size))
  clear b2
  clear x0 x1 x2 x3 x4 x5 x6 L1 LP
  have kx := HK1.out.below B2.out (by have := HS.out; omega)
  have x0 := kx.cell 0
  have x1 := kx.cell 1
  have x2 := kx.cell 2
  have x3 := kx.cell 3
  have x4 := kx.cell 4
  have x5 := kx.cell 5
  have x6 := kx.cell 6
  have L1 := bk_load (P := Tryd.prog) 8 kx rfl
  have LP := bk_load (P := Tryd.prog) 3 (HK2.out.below B2.out (by have := HS.out; omega)) rfl
  clear kx
  go_wp2_with fail
  refine (ID.out _).mono ?_
  rintro e w3 ⟨rfl, b3⟩
  have B3 := Lib.hid (B2.out.trans (b3.mono B2.out.size))
  clear b3
  clear x0 x1 x2 x3 x4 x5 x6 L1 LP
  have kx := HK1.out.below B3.out (by have := HS.out; omega)
  have x0 := kx.cell 0
  have x1 := kx.cell 1
  have x2 := kx.cell 2
  have x3 := kx.cell 3
  have x4 := kx.cell 4
  have x5 := kx.cell 5
  have x6 := kx.cell 6
  have L1 := bk_load (P := Tryd.prog) 8 kx rfl
  have LP := bk_load (P := Tryd.prog) 3 (HK2.out.below B3.out (by have := HS.out; omega)) rfl
  clear kx
  obtain ⟨i0, hi0, hz0, hz1, hz2⟩ := info_parts infoP
  have kx := HK1.out.below B3.out (by have := HS.out; omega)
  have st5 := store_i8 2 (kx.cell 0) (kx.frozen 0)
  have k5 : Blk (w3.setCell ⟨w.heap.size, 0, none⟩ (.int .i8 2)) w.heap.size 26 #[.int .i8 2, .int .i64 c.pid, .int .i64 c.ep, .int .i64 c.tm, .int .i64 c.th, .slice A1 c.ps.length c1, .slice D1 c.qs.length e1, .int .i64 c.ag] := kx.set_ 0 (.int .i8 2)
  have k25 := (HK2.out.below B3.out (by have := HS.out; omega)).far (p := ⟨w.heap.size, 0, none⟩) (by simp) (.int .i8 2)
  have k35 := (HK3.out.below B3.out (by have := HS.out; omega)).far (p := ⟨w.heap.size, 0, none⟩) (by simp; omega) (.int .i8 2)
  have b5 := (HB.out.trans (B3.out.mono HB.out.size)).setCell (p := ⟨w.heap.size, 0, none⟩) (Nat.le_refl _) (.int .i8 2)
  have M5 := Lib.hid (show MkS w 3 [(26, #[.int .i8 2, .int .i64 c.pid, .int .i64 c.ep, .int .i64 c.tm, .int .i64 c.th, .slice A1 c.ps.length c1, .slice D1 c.qs.length e1, .int .i64 c.ag]), (38, #[.int .i64 p.1, .int .i64 p.2.1, .int .i64 p.2.2]), (26, #[.int .i8 0, .int .i64 0, .int .i64 0, .int .i64 0, .int .i64 0, .slice none 0 0, .slice none 0 0, .int .i64 0])] (w3.setCell ⟨w.heap.size, 0, none⟩ (.int .i8 2)) from ⟨fun j t a hj => by
    match j, hj with
    | 0, hj => simp at hj; obtain ⟨rfl, rfl⟩ := hj; exact k5
    | 1, hj => simp at hj; obtain ⟨rfl, rfl⟩ := hj; exact k25
    | 2, hj => simp at hj; obtain ⟨rfl, rfl⟩ := hj; exact k35, b5, by have := k35.lt; omega⟩)
  clear kx k5 k25 k35 b5
  go_upto_region 6 with (fail)
  clear st5 x0 x1 x2 x3 x4 x5 x6 L1 LP
  generalize w3.setCell ⟨w.heap.size, 0, none⟩ (.int .i8 2) = W5 at *
  go_wp2_with fail
  go_loopg [6, 7, 8, 9] c.qs.length (fun mm y1 y2 y3 y4 wr => ∃ (k : Nat) (d : Bool) (ou : List Pd) (A : Option Addr) (cc : Nat), k ≤ c.qs.length ∧ y3 = .int .i64 k ∧ y2 = .bool d ∧ y1 = .slice A ou.length cc ∧ mm = c.qs.length - k ∧ ou.length ≤ k + k ∧ ou ++ goP p (c.qs.drop k) d = keepF (fun y => plI y p) c.qs p ∧ wr.ownsRow (w.heap.size + 3) 38 3 (.slice A ou.length cc) ou.length (cellsP ou) ∧ MkS w 3 [(26, #[.int .i8 2, .int .i64 c.pid, .int .i64 c.ep, .int .i64 c.tm, .int .i64 c.th, .slice A1 c.ps.length c1, .slice D1 c.qs.length e1, .int .i64 c.ag]), (38, #[.int .i64 p.1, .int .i64 p.2.1, .int .i64 p.2.2]), (26, #[.int .i8 0, .int .i64 0, .int .i64 0, .int .i64 0, .int .i64 0, .slice none 0 0, .slice none 0 0, .int .i64 0])] wr)
  case atStart => exact ⟨0, false, [], none, 0, Nat.zero_le _, rfl, rfl, rfl, by omega, by simp, by rw [List.nil_append, List.drop_zero]; exact goP_keep p c.qs PWW.out, World.ownsRow_nil _ _ _ _, M5.out⟩
  case round =>
    obtain ⟨k, d, ou, A, cc, hk, rfl, rfl, rfl, hmm, hou, hres, hown, hms⟩ := hrel
    have HM := Lib.hid hmm
    have HRS := Lib.hid hres
    have OW := Lib.hid hown
    have MS := Lib.hid hms
    have x6 := hms.b0.cell 6
    have hl3 : c.qs.length ≤ 6 := HPS.out
    have hle : ou.length ≤ 12 := by omega
    clear hmm hres hown hms
    by_cases hlt : k < c.qs.length
    · have d1 : decide ((k : Int) < (c.qs.length : Int)) = true := by simp; omega
      obtain ⟨x, hz⟩ : ∃ z, c.qs[k]? = some z := ⟨_, List.getElem?_eq_getElem hlt⟩
      have hdz : c.qs.drop k = x :: c.qs.drop (k + 1) := by
        rw [List.drop_eq_getElem_cons hlt]
        congr 1
        rw [List.getElem?_eq_getElem hlt] at hz
        exact Option.some.inj hz
      obtain ⟨b1, o1, rfl, hb1, hc1⟩ := H1.out.2.1.plain3 (by omega)
      have LQ : (loadCells ⟨b1, o1 + k * 3, none⟩ 3).run Tryd.prog wr = .ok #[.int .i64 x.1, .int .i64 x.2.1, .int .i64 x.2.2] wr := by
        have hh := hc1 k _ hz
        exact load_pd (x := x) ⟨by rw [MS.out.bel.cell (by exact hb1)]; exact hh.1, by rw [MS.out.bel.cell (by exact hb1)]; exact hh.2.1, by rw [MS.out.bel.cell (by exact hb1)]; exact hh.2.2⟩
      obtain ⟨W7, st7, kb, bb, sb⟩ := bk_fresh (P := Tryd.prog) wr 38 #[.int .i64 0, .int .i64 0, .int .i64 0] #[.int .i64 x.1, .int .i64 x.2.1, .int .i64 x.2.2] 3 infoPd3 rfl rfl (by simp [Value.oneCell'])
      have RD0 := Lib.hid (RdB.start MS.out rfl OW.out kb bb)
      have i1' : (0 : Int) ≤ (k : Int) := by omega
      have i2' : (k : Int) < (c.qs.length : Int) := by omega
      have HDZ := Lib.hid hdz
      clear hz hdz hc1 kb bb sb
      have x6 := RD0.out.ms.b0.cell 6
      have LP := bk_load (P := Tryd.prog) 3 RD0.out.ms.b1 rfl
      have LX := bk_load (P := Tryd.prog) 3 RD0.out.bx rfl
      clear x6
      have x6 := MS.out.b0.cell 6
      cases hxp : aheadB x p
      · cases hpx : aheadB p x
        · cases d
          · go_wp2_with fail
            refine (ahead_any x p _).mono ?_
            rintro e V1 ⟨rfl, b1⟩
            have RD1 := Lib.hid (RD0.out.below rfl b1)
            clear b1 x6 LP LX
            have x6 := RD1.out.ms.b0.cell 6
            have LP := bk_load (P := Tryd.prog) 3 RD1.out.ms.b1 rfl
            have LX := bk_load (P := Tryd.prog) 3 RD1.out.bx rfl
            rw [hxp]
            go_wp2_with (at_builtin; refine wpList_append_any _ rfl (.tmp 49) (.tmp 51) 24 rfl (w.heap.size + 3) 38 i0 _ 3 24 Tryd.underlying24 hi0 hz0 hz1 hz2 rfl (by decide) (.slice A ou.length cc) ou.length (cellsP ou) (by rfl) (RD1.out.ow.alloc _) (V1.heap.size + 1) (some ⟨V1.heap.size, 0, none⟩) 1 1 (cellsP [p]) (by rfl) (reads_newP V1 38 [p]) (cellsP_one _) (by unfold maxLen; omega) (by omega) (by rw [World.size_alloc]; have := RD1.out.ms.top; omega) ?_; intro v2 V2 hown2 hg2 hat2; obtain ⟨ou2, hl2⟩ : ∃ l, l = ou ++ [p] := ⟨_, rfl⟩; have hn2 : ou.length + 1 = ou2.length := (by simp [hl2]); have hb2 : ou2.length ≤ ou.length + 1 := (by omega); rw [hn2, show cellsP ou ++ cellsP [p] = cellsP ou2 by rw [hl2, cellsP_append]] at hown2; obtain ⟨A2, c2, rfl, hc2⟩ := own_slice hown2; have RD2 := Lib.hid (RD1.out.app rfl hg2 hown2 hat2); have HL2 := Lib.hid hl2; clear hown2 hg2 hat2 hl2 hn2 hc2 x6 LP LX; have x6 := RD2.out.ms.b0.cell 6; have LP := bk_load (P := Tryd.prog) 3 RD2.out.ms.b1 rfl; have LX := bk_load (P := Tryd.prog) 3 RD2.out.bx rfl)
            refine (ahead_any x p _).mono ?_
            rintro e V3 ⟨rfl, b3⟩
            have RD3 := Lib.hid (RD2.out.below rfl b3)
            clear b3 x6 LP LX
            have x6 := RD3.out.ms.b0.cell 6
            have LP := bk_load (P := Tryd.prog) 3 RD3.out.ms.b1 rfl
            have LX := bk_load (P := Tryd.prog) 3 RD3.out.bx rfl
            rw [hxp]
            go_wp2_with fail
            refine (ahead_any p x _).mono ?_
            rintro e V4 ⟨rfl, b4⟩
            have RD4 := Lib.hid (RD3.out.below rfl b4)
            clear b4 x6 LP LX
            have x6 := RD4.out.ms.b0.cell 6
            have LP := bk_load (P := Tryd.prog) 3 RD4.out.ms.b1 rfl
            have LX := bk_load (P := Tryd.prog) 3 RD4.out.bx rfl
            rw [hpx]
            go_wp2_with fail
            go_roundg (gk - 1)
            case measure => have := HM.out; omega
            case rel =>
              have hgo : goP p (x :: c.qs.drop (k + 1)) false = [p] ++ goP p (c.qs.drop (k + 1)) true := by
                conv => lhs; unfold goP
                simp [hxp, hpx]
              refine ⟨k + 1, true, ou2, A2, c2, by omega, by go_num, rfl, rfl, by have := HM.out; omega, by omega, ?_, RD4.out.ow, RD4.out.ms⟩
              rw [← HRS.out, HDZ.out, hgo, HL2.out]
              simp
          · go_wp2_with fail
            refine (ahead_any x p _).mono ?_
            rintro e V1 ⟨rfl, b1⟩
            have RD1 := Lib.hid (RD0.out.below rfl b1)
            clear b1 x6 LP LX
            have x6 := RD1.out.ms.b0.cell 6
            have LP := bk_load (P := Tryd.prog) 3 RD1.out.ms.b1 rfl
            have LX := bk_load (P := Tryd.prog) 3 RD1.out.bx rfl
            rw [hxp]
            go_wp2_with fail
            refine (ahead_any p x _).mono ?_
            rintro e V2 ⟨rfl, b2⟩
            have RD2 := Lib.hid (RD1.out.below rfl b2)
            clear b2 x6 LP LX
            have x6 := RD2.out.ms.b0.cell 6
            have LP := bk_load (P := Tryd.prog) 3 RD2.out.ms.b1 rfl
            have LX := bk_load (P := Tryd.prog) 3 RD2.out.bx rfl
            rw [hpx]
            go_wp2_with fail
            go_roundg (gk - 1)
            case measure => have := HM.out; omega
            case rel =>
              have hgo : goP p (x :: c.qs.drop (k + 1)) true = [] ++ goP p (c.qs.drop (k + 1)) true := by
                conv => lhs; unfold goP
                simp [hxp, hpx]
              refine ⟨k + 1, true, ou, A, cc, by omega, by go_num, rfl, rfl, by have := HM.out; omega, by omega, ?_, RD2.out.ow, RD2.out.ms⟩
              rw [← HRS.out, HDZ.out, hgo]
              simp
        · cases d
          · go_wp2_with fail
            refine (ahead_any x p _).mono ?_
            rintro e V1 ⟨rfl, b1⟩
            have RD1 := Lib.hid (RD0.out.below rfl b1)
            clear b1 x6 LP LX
            have x6 := RD1.out.ms.b0.cell 6
            have LP := bk_load (P := Tryd.prog) 3 RD1.out.ms.b1 rfl
            have LX := bk_load (P := Tryd.prog) 3 RD1.out.bx rfl
            rw [hxp]
            go_wp2_with (at_builtin; refine wpList_append_any _ rfl (.tmp 49) (.tmp 51) 24 rfl (w.heap.size + 3) 38 i0 _ 3 24 Tryd.underlying24 hi0 hz0 hz1 hz2 rfl (by decide) (.slice A ou.length cc) ou.length (cellsP ou) (by rfl) (RD1.out.ow.alloc _) (V1.heap.size + 1) (some ⟨V1.heap.size, 0, none⟩) 1 1 (cellsP [p]) (by rfl) (reads_newP V1 38 [p]) (cellsP_one _) (by unfold maxLen; omega) (by omega) (by rw [World.size_alloc]; have := RD1.out.ms.top; omega) ?_; intro v2 V2 hown2 hg2 hat2; obtain ⟨ou2, hl2⟩ : ∃ l, l = ou ++ [p] := ⟨_, rfl⟩; have hn2 : ou.length + 1 = ou2.length := (by simp [hl2]); have hb2 : ou2.length ≤ ou.length + 1 := (by omega); rw [hn2, show cellsP ou ++ cellsP [p] = cellsP ou2 by rw [hl2, cellsP_append]] at hown2; obtain ⟨A2, c2, rfl, hc2⟩ := own_slice hown2; have RD2 := Lib.hid (RD1.out.app rfl hg2 hown2 hat2); have HL2 := Lib.hid hl2; clear hown2 hg2 hat2 hl2 hn2 hc2 x6 LP LX; have x6 := RD2.out.ms.b0.cell 6; have LP := bk_load (P := Tryd.prog) 3 RD2.out.ms.b1 rfl; have LX := bk_load (P := Tryd.prog) 3 RD2.out.bx rfl)
            refine (ahead_any x p _).mono ?_
            rintro e V3 ⟨rfl, b3⟩
            have RD3 := Lib.hid (RD2.out.below rfl b3)
            clear b3 x6 LP LX
            have x6 := RD3.out.ms.b0.cell 6
            have LP := bk_load (P := Tryd.prog) 3 RD3.out.ms.b1 rfl
            have LX := bk_load (P := Tryd.prog) 3 RD3.out.bx rfl
            rw [hxp]
            go_wp2_with fail
            refine (ahead_any p x _).mono ?_
            rintro e V4 ⟨rfl, b4⟩
            have RD4 := Lib.hid (RD3.out.below rfl b4)
            clear b4 x6 LP LX
            have x6 := RD4.out.ms.b0.cell 6
            have LP := bk_load (P := Tryd.prog) 3 RD4.out.ms.b1 rfl
            have LX := bk_load (P := Tryd.prog) 3 RD4.out.bx rfl
            rw [hpx]
            go_wp2_with (at_builtin; refine wpList_append_any _ rfl (.tmp 61) (.tmp 63) 24 rfl (w.heap.size + 3) 38 i0 _ 3 24 Tryd.underlying24 hi0 hz0 hz1 hz2 rfl (by decide) (.slice A2 ou2.length c2) ou2.length (cellsP ou2) (by rfl) (RD4.out.ow.alloc _) (V4.heap.size + 1) (some ⟨V4.heap.size, 0, none⟩) 1 1 (cellsP [x]) (by rfl) (reads_newP V4 38 [x]) (cellsP_one _) (by unfold maxLen; omega) (by omega) (by rw [World.size_alloc]; have := RD4.out.ms.top; omega) ?_; intro v5 V5 hown5 hg5 hat5; obtain ⟨ou5, hl5⟩ : ∃ l, l = ou2 ++ [x] := ⟨_, rfl⟩; have hn5 : ou2.length + 1 = ou5.length := (by simp [hl5]); have hb5 : ou5.length ≤ ou2.length + 1 := (by omega); rw [hn5, show cellsP ou2 ++ cellsP [x] = cellsP ou5 by rw [hl5, cellsP_append]] at hown5; obtain ⟨A5, c5, rfl, hc5⟩ := own_slice hown5; have RD5 := Lib.hid (RD4.out.app rfl hg5 hown5 hat5); have HL5 := Lib.hid hl5; clear hown5 hg5 hat5 hl5 hn5 hc5 x6 LP LX; have x6 := RD5.out.ms.b0.cell 6; have LP := bk_load (P := Tryd.prog) 3 RD5.out.ms.b1 rfl; have LX := bk_load (P := Tryd.prog) 3 RD5.out.bx rfl)
            go_roundg (gk - 1)
            case measure => have := HM.out; omega
            case rel =>
              have hgo : goP p (x :: c.qs.drop (k + 1)) false = [p, x] ++ goP p (c.qs.drop (k + 1)) true := by
                conv => lhs; unfold goP
                simp [hxp, hpx]
              refine ⟨k + 1, true, ou5, A5, c5, by omega, by go_num, rfl, rfl, by have := HM.out; omega, by omega, ?_, RD5.out.ow, RD5.out.ms⟩
              rw [← HRS.out, HDZ.out, hgo, HL5.out, HL2.out]
              simp
          · go_wp2_with fail
            refine (ahead_any x p _).mono ?_
            rintro e V1 ⟨rfl, b1⟩
            have RD1 := Lib.hid (RD0.out.below rfl b1)
            clear b1 x6 LP LX
            have x6 := RD1.out.ms.b0.cell 6
            have LP := bk_load (P := Tryd.prog) 3 RD1.out.ms.b1 rfl
            have LX := bk_load (P := Tryd.prog) 3 RD1.out.bx rfl
            rw [hxp]
            go_wp2_with fail
            refine (ahead_any p x _).mono ?_
            rintro e V2 ⟨rfl, b2⟩
            have RD2 := Lib.hid (RD1.out.below rfl b2)
            clear b2 x6 LP LX
            have x6 := RD2.out.ms.b0.cell 6
            have LP := bk_load (P := Tryd.prog) 3 RD2.out.ms.b1 rfl
            have LX := bk_load (P := Tryd.prog) 3 RD2.out.bx rfl
            rw [hpx]
            go_wp2_with (at_builtin; refine wpList_append_any _ rfl (.tmp 61) (.tmp 63) 24 rfl (w.heap.size + 3) 38 i0 _ 3 24 Tryd.underlying24 hi0 hz0 hz1 hz2 rfl (by decide) (.slice A ou.length cc) ou.length (cellsP ou) (by rfl) (RD2.out.ow.alloc _) (V2.heap.size + 1) (some ⟨V2.heap.size, 0, none⟩) 1 1 (cellsP [x]) (by rfl) (reads_newP V2 38 [x]) (cellsP_one _) (by unfold maxLen; omega) (by omega) (by rw [World.size_alloc]; have := RD2.out.ms.top; omega) ?_; intro v3 V3 hown3 hg3 hat3; obtain ⟨ou3, hl3⟩ : ∃ l, l = ou ++ [x] := ⟨_, rfl⟩; have hn3 : ou.length + 1 = ou3.length := (by simp [hl3]); have hb3 : ou3.length ≤ ou.length + 1 := (by omega); rw [hn3, show cellsP ou ++ cellsP [x] = cellsP ou3 by rw [hl3, cellsP_append]] at hown3; obtain ⟨A3, c3, rfl, hc3⟩ := own_slice hown3; have RD3 := Lib.hid (RD2.out.app rfl hg3 hown3 hat3); have HL3 := Lib.hid hl3; clear hown3 hg3 hat3 hl3 hn3 hc3 x6 LP LX; have x6 := RD3.out.ms.b0.cell 6; have LP := bk_load (P := Tryd.prog) 3 RD3.out.ms.b1 rfl; have LX := bk_load (P := Tryd.prog) 3 RD3.out.bx rfl)
            go_roundg (gk - 1)
            case measure => have := HM.out; omega
            case rel =>
              have hgo : goP p (x :: c.qs.drop (k + 1)) true = [x] ++ goP p (c.qs.drop (k + 1)) true := by
                conv => lhs; unfold goP
                simp [hxp, hpx]
              refine ⟨k + 1, true, ou3, A3, c3, by omega, by go_num, rfl, rfl, by have := HM.out; omega, by omega, ?_, RD3.out.ow, RD3.out.ms⟩
              rw [← HRS.out, HDZ.out, hgo, HL3.out]
              simp
      · have hpx : True := trivial
        cases d
        · go_wp2_with fail
          refine (ahead_any x p _).mono ?_
          rintro e V1 ⟨rfl, b1⟩
          have RD1 := Lib.hid (RD0.out.below rfl b1)
          clear b1 x6 LP LX
          have x6 := RD1.out.ms.b0.cell 6
          have LP := bk_load (P := Tryd.prog) 3 RD1.out.ms.b1 rfl
          have LX := bk_load (P := Tryd.prog) 3 RD1.out.bx rfl
          rw [hxp]
          go_wp2_with fail
          refine (ahead_any x p _).mono ?_
          rintro e V2 ⟨rfl, b2⟩
          have RD2 := Lib.hid (RD1.out.below rfl b2)
          clear b2 x6 LP LX
          have x6 := RD2.out.ms.b0.cell 6
          have LP := bk_load (P := Tryd.prog) 3 RD2.out.ms.b1 rfl
          have LX := bk_load (P := Tryd.prog) 3 RD2.out.bx rfl
          rw [hxp]
          go_wp2_with (at_builtin; refine wpList_append_any _ rfl (.tmp 61) (.tmp 63) 24 rfl (w.heap.size + 3) 38 i0 _ 3 24 Tryd.underlying24 hi0 hz0 hz1 hz2 rfl (by decide) (.slice A ou.length cc) ou.length (cellsP ou) (by rfl) (RD2.out.ow.alloc _) (V2.heap.size + 1) (some ⟨V2.heap.size, 0, none⟩) 1 1 (cellsP [x]) (by rfl) (reads_newP V2 38 [x]) (cellsP_one _) (by unfold maxLen; omega) (by omega) (by rw [World.size_alloc]; have := RD2.out.ms.top; omega) ?_; intro v3 V3 hown3 hg3 hat3; obtain ⟨ou3, hl3⟩ : ∃ l, l = ou ++ [x] := ⟨_, rfl⟩; have hn3 : ou.length + 1 = ou3.length := (by simp [hl3]); have hb3 : ou3.length ≤ ou.length + 1 := (by omega); rw [hn3, show cellsP ou ++ cellsP [x] = cellsP ou3 by rw [hl3, cellsP_append]] at hown3; obtain ⟨A3, c3, rfl, hc3⟩ := own_slice hown3; have RD3 := Lib.hid (RD2.out.app rfl hg3 hown3 hat3); have HL3 := Lib.hid hl3; clear hown3 hg3 hat3 hl3 hn3 hc3 x6 LP LX; have x6 := RD3.out.ms.b0.cell 6; have LP := bk_load (P := Tryd.prog) 3 RD3.out.ms.b1 rfl; have LX := bk_load (P := Tryd.prog) 3 RD3.out.bx rfl)
          go_roundg (gk - 1)
          case measure => have := HM.out; omega
          case rel =>
            have hgo : goP p (x :: c.qs.drop (k + 1)) false = [x] ++ goP p (c.qs.drop (k + 1)) false := by
              conv => lhs; unfold goP
              simp [hxp, hpx]
            refine ⟨k + 1, false, ou3, A3, c3, by omega, by go_num, rfl, rfl, by have := HM.out; omega, by omega, ?_, RD3.out.ow, RD3.out.ms⟩
            rw [← HRS.out, HDZ.out, hgo, HL3.out]
            simp
        · go_wp2_with fail
          refine (ahead_any x p _).mono ?_
          rintro e V1 ⟨rfl, b1⟩
          have RD1 := Lib.hid (RD0.out.below rfl b1)
          clear b1 x6 LP LX
          have x6 := RD1.out.ms.b0.cell 6
          have LP := bk_load (P := Tryd.prog) 3 RD1.out.ms.b1 rfl
          have LX := bk_load (P := Tryd.prog) 3 RD1.out.bx rfl
          rw [hxp]
          go_wp2_with (at_builtin; refine wpList_append_any _ rfl (.tmp 61) (.tmp 63) 24 rfl (w.heap.size + 3) 38 i0 _ 3 24 Tryd.underlying24 hi0 hz0 hz1 hz2 rfl (by decide) (.slice A ou.length cc) ou.length (cellsP ou) (by rfl) (RD1.out.ow.alloc _) (V1.heap.size + 1) (some ⟨V1.heap.size, 0, none⟩) 1 1 (cellsP [x]) (by rfl) (reads_newP V1 38 [x]) (cellsP_one _) (by unfold maxLen; omega) (by omega) (by rw [World.size_alloc]; have := RD1.out.ms.top; omega) ?_; intro v2 V2 hown2 hg2 hat2; obtain ⟨ou2, hl2⟩ : ∃ l, l = ou ++ [x] := ⟨_, rfl⟩; have hn2 : ou.length + 1 = ou2.length := (by simp [hl2]); have hb2 : ou2.length ≤ ou.length + 1 := (by omega); rw [hn2, show cellsP ou ++ cellsP [x] = cellsP ou2 by rw [hl2, cellsP_append]] at hown2; obtain ⟨A2, c2, rfl, hc2⟩ := own_slice hown2; have RD2 := Lib.hid (RD1.out.app rfl hg2 hown2 hat2); have HL2 := Lib.hid hl2; clear hown2 hg2 hat2 hl2 hn2 hc2 x6 LP LX; have x6 := RD2.out.ms.b0.cell 6; have LP := bk_load (P := Tryd.prog) 3 RD2.out.ms.b1 rfl; have LX := bk_load (P := Tryd.prog) 3 RD2.out.bx rfl)
          go_roundg (gk - 1)
          case measure => have := HM.out; omega
          case rel =>
            have hgo : goP p (x :: c.qs.drop (k + 1)) true = [x] ++ goP p (c.qs.drop (k + 1)) true := by
              conv => lhs; unfold goP
              simp [hxp, hpx]
            refine ⟨k + 1, true, ou2, A2, c2, by omega, by go_num, rfl, rfl, by have := HM.out; omega, by omega, ?_, RD2.out.ow, RD2.out.ms⟩
            rw [← HRS.out, HDZ.out, hgo, HL2.out]
            simp
    · obtain rfl : k = c.qs.length := by omega
      have d1 : decide ((c.qs.length : Int) < (c.qs.length : Int)) = false := by simp
      have hdr : c.qs.drop c.qs.length = [] := List.drop_of_length_le (Nat.le_refl _)
      cases d
      · have HR2 := Lib.hid (show ou ++ [p] = keepF (fun y => plI y p) c.qs p by rw [← HRS.out, hdr]; rfl)
        have HLN' := Lib.hid (show (ou ++ [p]).length ≤ 1000 by rw [HR2.out]; have := length_keepF (fun y => plI y p) c.qs p; have := HPS.out; omega)
        clear hdr
        have LP := bk_load (P := Tryd.prog) 3 MS.out.b1 rfl
        go_wp2_with (at_builtin; refine wpList_append_any _ rfl (.tmp 67) (.tmp 69) 24 rfl (w.heap.size + 3) 38 i0 _ 3 24 Tryd.underlying24 hi0 hz0 hz1 hz2 rfl (by decide) (.slice A ou.length cc) ou.length (cellsP ou) (by rfl) (OW.out.alloc _) (wr.heap.size + 1) (some ⟨wr.heap.size, 0, none⟩) 1 1 (cellsP [p]) (by rfl) (reads_newP wr 38 [p]) (cellsP_one _) (by unfold maxLen; omega) (by omega) (by rw [World.size_alloc]; have := MS.out.top; omega) ?_; intro v4 W4 hown4 hg4 hat4; have MS4 := Lib.hid ((MS.out.alloc rfl _).grown rfl hg4 (fun y hy => (OW.out.lt y hy).1)); obtain ⟨ou4, hl4⟩ : ∃ l, l = ou ++ [p] := ⟨_, rfl⟩; have hn4 : ou.length + 1 = ou4.length := (by simp [hl4]); have hb4 : ou4.length ≤ ou.length + 1 := (by omega); rw [hn4, show cellsP ou ++ cellsP [p] = cellsP ou4 by rw [hl4, cellsP_append]] at hown4; obtain ⟨A4, c4, rfl, hc4⟩ := own_slice hown4; have OW4 := Lib.hid hown4; have HL4 := Lib.hid hl4; have HN4 := Lib.hid hn4; clear hown4 hg4 hat4 hl4 hn4; have kz0 := MS4.out.b0; have st7 := store_slP A4 ou4.length c4 (kz0.cell 6) (kz0.frozen 6); have kz : Blk (W4.setCell ⟨w.heap.size, 6, none⟩ (.slice A4 ou4.length c4)) w.heap.size 26 #[.int .i8 2, .int .i64 c.pid, .int .i64 c.ep, .int .i64 c.tm, .int .i64 c.th, .slice A1 c.ps.length c1, .slice A4 ou4.length c4, .int .i64 c.ag] := kz0.set_ 6 (.slice A4 ou4.length c4); have L7 := bk_load (P := Tryd.prog) 8 kz rfl; have k37 := MS4.out.b2.far (p := ⟨w.heap.size, 6, none⟩) (by simp; omega) (.slice A4 ou4.length c4); have b7 := MS4.out.bel.setCell (p := ⟨w.heap.size, 6, none⟩) (Nat.le_refl _) (.slice A4 ou4.length c4); have o7 := bk_own (w' := W4.setCell ⟨w.heap.size, 6, none⟩ (.slice A4 ou4.length c4)) OW4.out (fun y hy => Below.heap_setCell _ _ _ _ (by have := (OW4.out.lt y hy).1; show y ≠ w.heap.size; omega)); obtain ⟨W9, st9, kk, fb, fh, fs⟩ := bk_store (P := Tryd.prog) (ty := 26) (cs := #[.int .i8 2, .int .i64 c.pid, .int .i64 c.ep, .int .i64 c.tm, .int .i64 c.th, .slice A1 c.ps.length c1, .slice A4 ou4.length c4, .int .i64 c.ag]) 8 k37 infoCo rfl rfl (by simp [Value.oneCell']); have BB := Lib.hid (fb w.heap.size w (by omega) b7); have OO := Lib.hid (bk_own o7 (fun y hy => fh y (by have := (OW4.out.lt y hy).1; omega))); have KK := Lib.hid kk; clear kz0 kz k37 b7 o7 kk fb fh fs)
        have HLN := Lib.hid (show ou4.length ≤ 1000 by rw [HL4.out]; exact HLN'.out)
        rw [← HL4.out] at HR2
        refine bodyPost_ret (v := .tuple #[.agg #[.int .i8 2, .int .i64 c.pid, .int .i64 c.ep, .int .i64 c.tm, .int .i64 c.th, .slice A1 c.ps.length c1, .slice A4 ou4.length c4, .int .i64 c.ag], .int .i64 0]) (rset_ret { c with st := 2, qs := ou4 } A1 A4 c1 c4 0 _ (w.heap.size + 1 + 1) _ rfl rfl KK.out) rfl ?_
        rw [HE.out, HC.out, ← HR2.out]
        have rr := H1.out.up BB.out
        have na := newAt_of_own OO.out
        exact ⟨A1, A4, c1, c4, rfl, ⟨rr.1, Reads.of_own OO.out, rr.2.2.1, HLN.out⟩, BB.out, fun b hb o1 o2 => ⟨o1, na.off (by omega)⟩⟩
      · have HR2 := Lib.hid (show ou = keepF (fun y => plI y p) c.qs p by rw [← HRS.out, hdr]; show ou = ou ++ []; simp)
        have HLN := Lib.hid (show ou.length ≤ 1000 by rw [HR2.out]; have := length_keepF (fun y => plI y p) c.qs p; have := HPS.out; omega)
        clear hdr
        have kz0 := MS.out.b0
        have st7 := store_slP A ou.length cc (kz0.cell 6) (kz0.frozen 6)
        have kz : Blk (wr.setCell ⟨w.heap.size, 6, none⟩ (.slice A ou.length cc)) w.heap.size 26 #[.int .i8 2, .int .i64 c.pid, .int .i64 c.ep, .int .i64 c.tm, .int .i64 c.th, .slice A1 c.ps.length c1, .slice A ou.length cc, .int .i64 c.ag] := kz0.set_ 6 (.slice A ou.length cc)
        have L7 := bk_load (P := Tryd.prog) 8 kz rfl
        have k37 := MS.out.b2.far (p := ⟨w.heap.size, 6, none⟩) (by simp; omega) (.slice A ou.length cc)
        have b7 := MS.out.bel.setCell (p := ⟨w.heap.size, 6, none⟩) (Nat.le_refl _) (.slice A ou.length cc)
        have o7 := bk_own (w' := wr.setCell ⟨w.heap.size, 6, none⟩ (.slice A ou.length cc)) OW.out (fun y hy => Below.heap_setCell _ _ _ _ (by have := (OW.out.lt y hy).1; show y ≠ w.heap.size; omega))
        obtain ⟨W9, st9, kk, fb, fh, fs⟩ := bk_store (P := Tryd.prog) (ty := 26) (cs := #[.int .i8 2, .int .i64 c.pid, .int .i64 c.ep, .int .i64 c.tm, .int .i64 c.th, .slice A1 c.ps.length c1, .slice A ou.length cc, .int .i64 c.ag]) 8 k37 infoCo rfl rfl (by simp [Value.oneCell'])
        have BB := Lib.hid (fb w.heap.size w (by omega) b7)
        have OO := Lib.hid (bk_own o7 (fun y hy => fh y (by have := (OW.out.lt y hy).1; omega)))
        have KK := Lib.hid kk
        clear kz0 kz k37 b7 o7 kk fb fh fs
        go_wp2_with fail
        refine bodyPost_ret (v := .tuple #[.agg #[.int .i8 2, .int .i64 c.pid, .int .i64 c.ep, .int .i64 c.tm, .int .i64 c.th, .slice A1 c.ps.length c1, .slice A ou.length cc, .int .i64 c.ag], .int .i64 0]) (rset_ret { c with st := 2, qs := ou } A1 A c1 cc 0 _ (w.heap.size + 1 + 1) _ rfl rfl KK.out) rfl ?_
        rw [HE.out, HC.out, ← HR2.out]
        have rr := H1.out.up BB.out
        have na := newAt_of_own OO.out
        exact ⟨A1, A, c1, cc, rfl, ⟨rr.1, Reads.of_own OO.out, rr.2.2.1, HLN.out⟩, BB.out, fun b hb o1 o2 => ⟨o1, na.off (by omega)⟩⟩
set_option maxRecDepth 100000 in
set_option maxHeartbeats 2000000 in
theorem rset_dg (c : Co) (A1 D1 : Option Addr) (c1 e1 : Nat) (p : Pd) (w : World) (h1 : CoR w w.heap.size c A1 D1) (h8 : -128 ≤ c.st) (h9 : c.st ≤ 127) (hmay : mayB c = true) (kp : pendB p = true) (k3 : idlB c = true ∨ c.st = 2) (k4 : idlB c = false) (k6 : c.st = 2) :
    Calls Tryd.prog 42 #[(.agg #[.int .i8 c.st, .int .i64 c.pid, .int .i64 c.ep, .int .i64 c.tm, .int .i64 c.th, .slice A1 c.ps.length c1, .slice D1 c.qs.length e1, .int .i64 c.ag]), .agg #[.int .i64 p.1, .int .i64 p.2.1, .int .i64 p.2.2]] w (MvP c A1 D1 (setC c p) (setE c p) w) := by
  have HE := Lib.hid (show setE c p = 0 by unfold setE; rw [kp, chk_of hmay, begins_of hmay, if_neg (show ¬ c.st = 0 by rcases k3 with h | h; have := (idl_iff c).1 h; omega; omega)]; rcases k3 with h | h; by_cases h2 : c.st = 2; simp [h2]; simp [h2, h]; simp [h])
  have HC := Lib.hid (show setC c p = { c with st := 2, qs := keepF (fun y => plI y p) c.qs p } by unfold setC; rw [HE.out, if_pos rfl])
  have ID := Lib.hid (fun W => idle_any c A1 D1 c1 e1 W)
  have PW := Lib.hid (fun W => pend_any p W)
  rw [kp] at PW
  rw [k4] at ID
  have z2 : (c.st != 2) = false := by rw [k6]; rfl
  have PWW := Lib.hid (pends_pw hmay)
  have HPS := Lib.hid (may_small hmay).2
  obtain ⟨W0, hW0⟩ : ∃ W0, W0 = ((w.alloc (.cells #[.int .i8 c.st, .int .i64 c.pid, .int .i64 c.ep, .int .i64 c.tm, .int .i64 c.th, .slice A1 c.ps.length c1, .slice D1 c.qs.length e1, .int .i64 c.ag] 26)).alloc (.cells #[.int .i64 p.1, .int .i64 p.2.1, .int .i64 p.2.2] 38)).alloc (.cells #[.int .i8 0, .int .i64 0, .int .i64 0, .int .i64 0, .int .i64 0, .slice none 0 0, .slice none 0 0, .int .i64 0] 26) := ⟨_, rfl⟩
  have s0 : W0.heap.size = w.heap.size + 1 + 1 + 1 := by rw [hW0]; simp
  have B0 : Below w.heap.size w W0 := by rw [hW0]; exact bal (bal (bal (Below.refl _ _) _) _) _
  have K1 : Blk W0 w.heap.size 26 #[.int .i8 c.st, .int .i64 c.pid, .int .i64 c.ep, .int .i64 c.tm, .int .i64 c.th, .slice A1 c.ps.length c1, .slice D1 c.qs.length e1, .int .i64 c.ag] := by rw [hW0]; exact ((Blk.new w 26 #[.int .i8 c.st, .int .i64 c.pid, .int .i64 c.ep, .int .i64 c.tm, .int .i64 c.th, .slice A1 c.ps.length c1, .slice D1 c.qs.length e1, .int .i64 c.ag]).alloc _).alloc _
  have K2 : Blk W0 (w.heap.size + 1) 38 #[.int .i64 p.1, .int .i64 p.2.1, .int .i64 p.2.2] := by rw [hW0]; exact (bk_new _ 38 #[.int .i64 p.1, .int .i64 p.2.1, .int .i64 p.2.2] (by simp)).alloc _
  have K3 : Blk W0 (w.heap.size + 1 + 1) 26 #[.int .i8 0, .int .i64 0, .int .i64 0, .int .i64 0, .int .i64 0, .slice none 0 0, .slice none 0 0, .int .i64 0] := by rw [hW0]; exact bk_new _ 26 #[.int .i8 0, .int .i64 0, .int .i64 0, .int .i64 0, .int .i64 0, .slice none 0 0, .slice none 0 0, .int .i64 0] (by simp)
  have HW := Lib.hid hW0
  have HS := Lib.hid s0
  have HB := Lib.hid B0
  have HK1 := Lib.hid K1
  have HK2 := Lib.hid K2
  have HK3 := Lib.hid K3
  have H1 := Lib.hid h1
  have MY := Lib.hid (rMay_any c A1 D1 c1 e1 w.heap.size W0 (h1.below B0) B0.size h8 h9)
  rw [hmay] at MY
  have L0 := bk_load (P := Tryd.prog) 8 K1 rfl
  clear hW0 s0 B0 K1 K2 K3 h1 h8 h9 hmay kp k3 k4 k6
  go_enter Tryd.func42, Tryd.ntmps42
  go_upto_region 1 with (fail)
  rw [← HW.out]
  go_wp2_with fail
  refine MY.out.mono ?_
  rintro e w1 ⟨rfl, b1⟩
  have B1 := Lib.hid (show Below W0.heap.size W0 w1 from b1)
  clear L0 b1
  have kx := HK1.out.below B1.out (by have := HS.out; omega)
  have x0 := kx.cell 0
  have x1 := kx.cell 1
  have x2 := kx.cell 2
  have x3 := kx.cell 3
  have x4 := kx.cell 4
  have x5 := kx.cell 5
  have x6 := kx.cell 6
  have L1 := bk_load (P := Tryd.prog) 8 kx rfl
  have LP := bk_load (P := Tryd.prog) 3 (HK2.out.below B1.out (by have := HS.out; omega)) rfl
  clear kx
  go_wp2_with fail
  refine (PW.out _).mono ?_
  rintro e w2 ⟨rfl, b2⟩
  have B2 := Lib.hid (B1.out.trans (b2.mono B1.out.size))
  clear b2
  clear x0 x1 x2 x3 x4 x5 x6 L1 LP
  have kx := HK1.out.below B2.out (by have := HS.out; omega)
  have x0 := kx.cell 0
  have x1 := kx.cell 1
  have x2 := kx.cell 2
  have x3 := kx.cell 3
  have x4 := kx.cell 4
  have x5 := kx.cell 5
  have x6 := kx.cell 6
  have L1 := bk_load (P := Tryd.prog) 8 kx rfl
  have LP := bk_load (P := Tryd.prog) 3 (HK2.out.below B2.out (by have := HS.out; omega)) rfl
  clear kx
  go_wp2_with fail
  refine (ID.out _).mono ?_
  rintro e w3 ⟨rfl, b3⟩
  have B3 := Lib.hid (B2.out.trans (b3.mono B2.out.size))
  clear b3
  clear x0 x1 x2 x3 x4 x5 x6 L1 LP
  have kx := HK1.out.below B3.out (by have := HS.out; omega)
  have x0 := kx.cell 0
  have x1 := kx.cell 1
  have x2 := kx.cell 2
  have x3 := kx.cell 3
  have x4 := kx.cell 4
  have x5 := kx.cell 5
  have x6 := kx.cell 6
  have L1 := bk_load (P := Tryd.prog) 8 kx rfl
  have LP := bk_load (P := Tryd.prog) 3 (HK2.out.below B3.out (by have := HS.out; omega)) rfl
  clear kx
  obtain ⟨i0, hi0, hz0, hz1, hz2⟩ := info_parts infoP
  have kx := HK1.out.below B3.out (by have := HS.out; omega)
  have st5 := store_i8 2 (kx.cell 0) (kx.frozen 0)
  have k5 : Blk (w3.setCell ⟨w.heap.size, 0, none⟩ (.int .i8 2)) w.heap.size 26 #[.int .i8 2, .int .i64 c.pid, .int .i64 c.ep, .int .i64 c.tm, .int .i64 c.th, .slice A1 c.ps.length c1, .slice D1 c.qs.length e1, .int .i64 c.ag] := kx.set_ 0 (.int .i8 2)
  have k25 := (HK2.out.below B3.out (by have := HS.out; omega)).far (p := ⟨w.heap.size, 0, none⟩) (by simp) (.int .i8 2)
  have k35 := (HK3.out.below B3.out (by have := HS.out; omega)).far (p := ⟨w.heap.size, 0, none⟩) (by simp; omega) (.int .i8 2)
  have b5 := (HB.out.trans (B3.out.mono HB.out.size)).setCell (p := ⟨w.heap.size, 0, none⟩) (Nat.le_refl _) (.int .i8 2)
  have M5 := Lib.hid (show MkS w 3 [(26, #[.int .i8 2, .int .i64 c.pid, .int .i64 c.ep, .int .i64 c.tm, .int .i64 c.th, .slice A1 c.ps.length c1, .slice D1 c.qs.length e1, .int .i64 c.ag]), (38, #[.int .i64 p.1, .int .i64 p.2.1, .int .i64 p.2.2]), (26, #[.int .i8 0, .int .i64 0, .int .i64 0, .int .i64 0, .int .i64 0, .slice none 0 0, .slice none 0 0, .int .i64 0])] (w3.setCell ⟨w.heap.size, 0, none⟩ (.int .i8 2)) from ⟨fun j t a hj => by
    match j, hj with
    | 0, hj => simp at hj; obtain ⟨rfl, rfl⟩ := hj; exact k5
    | 1, hj => simp at hj; obtain ⟨rfl, rfl⟩ := hj; exact k25
    | 2, hj => simp at hj; obtain ⟨rfl, rfl⟩ := hj; exact k35, b5, by have := k35.lt; omega⟩)
  clear kx k5 k25 k35 b5
  go_upto_region 6 with (fail)
  clear st5 x0 x1 x2 x3 x4 x5 x6 L1 LP
  generalize w3.setCell ⟨w.heap.size, 0, none⟩ (.int .i8 2) = W5 at *
  go_wp2_with fail
  go_loopg [6, 7, 8, 9] c.qs.length (fun mm y1 y2 y3 y4 wr => ∃ (k : Nat) (d : Bool) (ou : List Pd) (A : Option Addr) (cc : Nat), k ≤ c.qs.length ∧ y3 = .int .i64 k ∧ y2 = .bool d ∧ y1 = .slice A ou.length cc ∧ mm = c.qs.length - k ∧ ou.length ≤ k + k ∧ ou ++ goP p (c.qs.drop k) d = keepF (fun y => plI y p) c.qs p ∧ wr.ownsRow (w.heap.size + 3) 38 3 (.slice A ou.length cc) ou.length (cellsP ou) ∧ MkS w 3 [(26, #[.int .i8 2, .int .i64 c.pid, .int .i64 c.ep, .int .i64 c.tm, .int .i64 c.th, .slice A1 c.ps.length c1, .slice D1 c.qs.length e1, .int .i64 c.ag]), (38, #[.int .i64 p.1, .int .i64 p.2.1, .int .i64 p.2.2]), (26, #[.int .i8 0, .int .i64 0, .int .i64 0, .int .i64 0, .int .i64 0, .slice none 0 0, .slice none 0 0, .int .i64 0])] wr)
  case atStart => exact ⟨0, false, [], none, 0, Nat.zero_le _, rfl, rfl, rfl, by omega, by simp, by rw [List.nil_append, List.drop_zero]; exact goP_keep p c.qs PWW.out, World.ownsRow_nil _ _ _ _, M5.out⟩
  case round =>
    obtain ⟨k, d, ou, A, cc, hk, rfl, rfl, rfl, hmm, hou, hres, hown, hms⟩ := hrel
    have HM := Lib.hid hmm
    have HRS := Lib.hid hres
    have OW := Lib.hid hown
    have MS := Lib.hid hms
    have x6 := hms.b0.cell 6
    have hl3 : c.qs.length ≤ 6 := HPS.out
    have hle : ou.length ≤ 12 := by omega
    clear hmm hres hown hms
    by_cases hlt : k < c.qs.length
    · have d1 : decide ((k : Int) < (c.qs.length : Int)) = true := by simp; omega
      obtain ⟨x, hz⟩ : ∃ z, c.qs[k]? = some z := ⟨_, List.getElem?_eq_getElem hlt⟩
      have hdz : c.qs.drop k = x :: c.qs.drop (k + 1) := by
        rw [List.drop_eq_getElem_cons hlt]
        congr 1
        rw [List.getElem?_eq_getElem hlt] at hz
        exact Option.some.inj hz
      obtain ⟨b1, o1, rfl, hb1, hc1⟩ := H1.out.2.1.plain3 (by omega)
      have LQ : (loadCells ⟨b1, o1 + k * 3, none⟩ 3).run Tryd.prog wr = .ok #[.int .i64 x.1, .int .i64 x.2.1, .int .i64 x.2.2] wr := by
        have hh := hc1 k _ hz
        exact load_pd (x := x) ⟨by rw [MS.out.bel.cell (by exact hb1)]; exact hh.1, by rw [MS.out.bel.cell (by exact hb1)]; exact hh.2.1, by rw [MS.out.bel.cell (by exact hb1)]; exact hh.2.2⟩
      obtain ⟨W7, st7, kb, bb, sb⟩ := bk_fresh (P := Tryd.prog) wr 38 #[.int .i64 0, .int .i64 0, .int .i64 0] #[.int .i64 x.1, .int .i64 x.2.1, .int .i64 x.2.2] 3 infoPd3 rfl rfl (by simp [Value.oneCell'])
      have RD0 := Lib.hid (RdB.start MS.out rfl OW.out kb bb)
      have i1' : (0 : Int) ≤ (k : Int) := by omega
      have i2' : (k : Int) < (c.qs.length : Int) := by omega
      have HDZ := Lib.hid hdz
      clear hz hdz hc1 kb bb sb
      have x6 := RD0.out.ms.b0.cell 6
      have LP := bk_load (P := Tryd.prog) 3 RD0.out.ms.b1 rfl
      have LX := bk_load (P := Tryd.prog) 3 RD0.out.bx rfl
      clear x6
      have x6 := MS.out.b0.cell 6
      cases hxp : aheadB x p
      · cases hpx : aheadB p x
        · cases d
          · go_wp2_with fail
            refine (ahead_any x p _).mono ?_
            rintro e V1 ⟨rfl, b1⟩
            have RD1 := Lib.hid (RD0.out.below rfl b1)
            clear b1 x6 LP LX
            have x6 := RD1.out.ms.b0.cell 6
            have LP := bk_load (P := Tryd.prog) 3 RD1.out.ms.b1 rfl
            have LX := bk_load (P := Tryd.prog) 3 RD1.out.bx rfl
            rw [hxp]
            go_wp2_with (at_builtin; refine wpList_append_any _ rfl (.tmp 49) (.tmp 51) 24 rfl (w.heap.size + 3) 38 i0 _ 3 24 Tryd.underlying24 hi0 hz0 hz1 hz2 rfl (by decide) (.slice A ou.length cc) ou.length (cellsP ou) (by rfl) (RD1.out.ow.alloc _) (V1.heap.size + 1) (some ⟨V1.heap.size, 0, none⟩) 1 1 (cellsP [p]) (by rfl) (reads_newP V1 38 [p]) (cellsP_one _) (by unfold maxLen; omega) (by omega) (by rw [World.size_alloc]; have := RD1.out.ms.top; omega) ?_; intro v2 V2 hown2 hg2 hat2; obtain ⟨ou2, hl2⟩ : ∃ l, l = ou ++ [p] := ⟨_, rfl⟩; have hn2 : ou.length + 1 = ou2.length := (by simp [hl2]); have hb2 : ou2.length ≤ ou.length + 1 := (by omega); rw [hn2, show cellsP ou ++ cellsP [p] = cellsP ou2 by rw [hl2, cellsP_append]] at hown2; obtain ⟨A2, c2, rfl, hc2⟩ := own_slice hown2; have RD2 := Lib.hid (RD1.out.app rfl hg2 hown2 hat2); have HL2 := Lib.hid hl2; clear hown2 hg2 hat2 hl2 hn2 hc2 x6 LP LX; have x6 := RD2.out.ms.b0.cell 6; have LP := bk_load (P := Tryd.prog) 3 RD2.out.ms.b1 rfl; have LX := bk_load (P := Tryd.prog) 3 RD2.out.bx rfl)
            refine (ahead_any x p _).mono ?_
            rintro e V3 ⟨rfl, b3⟩
            have RD3 := Lib.hid (RD2.out.below rfl b3)
            clear b3 x6 LP LX
            have x6 := RD3.out.ms.b0.cell 6
            have LP := bk_load (P := Tryd.prog) 3 RD3.out.ms.b1 rfl
            have LX := bk_load (P := Tryd.prog) 3 RD3.out.bx rfl
            rw [hxp]
            go_wp2_with fail
            refine (ahead_any p x _).mono ?_
            rintro e V4 ⟨rfl, b4⟩
            have RD4 := Lib.hid (RD3.out.below rfl b4)
            clear b4 x6 LP LX
            have x6 := RD4.out.ms.b0.cell 6
            have LP := bk_load (P := Tryd.prog) 3 RD4.out.ms.b1 rfl
            have LX := bk_load (P := Tryd.prog) 3 RD4.out.bx rfl
            rw [hpx]
            go_wp2_with fail
            go_roundg (gk - 1)
            case measure => have := HM.out; omega
            case rel =>
              have hgo : goP p (x :: c.qs.drop (k + 1)) false = [p] ++ goP p (c.qs.drop (k + 1)) true := by
                conv => lhs; unfold goP
                simp [hxp, hpx]
              refine ⟨k + 1, true, ou2, A2, c2, by omega, by go_num, rfl, rfl, by have := HM.out; omega, by omega, ?_, RD4.out.ow, RD4.out.ms⟩
              rw [← HRS.out, HDZ.out, hgo, HL2.out]
              simp
          · go_wp2_with fail
            refine (ahead_any x p _).mono ?_
            rintro e V1 ⟨rfl, b1⟩
            have RD1 := Lib.hid (RD0.out.below rfl b1)
            clear b1 x6 LP LX
            have x6 := RD1.out.ms.b0.cell 6
            have LP := bk_load (P := Tryd.prog) 3 RD1.out.ms.b1 rfl
            have LX := bk_load (P := Tryd.prog) 3 RD1.out.bx rfl
            rw [hxp]
            go_wp2_with fail
            refine (ahead_any p x _).mono ?_
            rintro e V2 ⟨rfl, b2⟩
            have RD2 := Lib.hid (RD1.out.below rfl b2)
            clear b2 x6 LP LX
            have x6 := RD2.out.ms.b0.cell 6
            have LP := bk_load (P := Tryd.prog) 3 RD2.out.ms.b1 rfl
            have LX := bk_load (P := Tryd.prog) 3 RD2.out.bx rfl
            rw [hpx]
            go_wp2_with fail
            go_roundg (gk - 1)
            case measure => have := HM.out; omega
            case rel =>
              have hgo : goP p (x :: c.qs.drop (k + 1)) true = [] ++ goP p (c.qs.drop (k + 1)) true := by
                conv => lhs; unfold goP
                simp [hxp, hpx]
              refine ⟨k + 1, true, ou, A, cc, by omega, by go_num, rfl, rfl, by have := HM.out; omega, by omega, ?_, RD2.out.ow, RD2.out.ms⟩
              rw [← HRS.out, HDZ.out, hgo]
              simp
        · cases d
          · go_wp2_with fail
            refine (ahead_any x p _).mono ?_
            rintro e V1 ⟨rfl, b1⟩
            have RD1 := Lib.hid (RD0.out.below rfl b1)
            clear b1 x6 LP LX
            have x6 := RD1.out.ms.b0.cell 6
            have LP := bk_load (P := Tryd.prog) 3 RD1.out.ms.b1 rfl
            have LX := bk_load (P := Tryd.prog) 3 RD1.out.bx rfl
            rw [hxp]
            go_wp2_with (at_builtin; refine wpList_append_any _ rfl (.tmp 49) (.tmp 51) 24 rfl (w.heap.size + 3) 38 i0 _ 3 24 Tryd.underlying24 hi0 hz0 hz1 hz2 rfl (by decide) (.slice A ou.length cc) ou.length (cellsP ou) (by rfl) (RD1.out.ow.alloc _) (V1.heap.size + 1) (some ⟨V1.heap.size, 0, none⟩) 1 1 (cellsP [p]) (by rfl) (reads_newP V1 38 [p]) (cellsP_one _) (by unfold maxLen; omega) (by omega) (by rw [World.size_alloc]; have := RD1.out.ms.top; omega) ?_; intro v2 V2 hown2 hg2 hat2; obtain ⟨ou2, hl2⟩ : ∃ l, l = ou ++ [p] := ⟨_, rfl⟩; have hn2 : ou.length + 1 = ou2.length := (by simp [hl2]); have hb2 : ou2.length ≤ ou.length + 1 := (by omega); rw [hn2, show cellsP ou ++ cellsP [p] = cellsP ou2 by rw [hl2, cellsP_append]] at hown2; obtain ⟨A2, c2, rfl, hc2⟩ := own_slice hown2; have RD2 := Lib.hid (RD1.out.app rfl hg2 hown2 hat2); have HL2 := Lib.hid hl2; clear hown2 hg2 hat2 hl2 hn2 hc2 x6 LP LX; have x6 := RD2.out.ms.b0.cell 6; have LP := bk_load (P := Tryd.prog) 3 RD2.out.ms.b1 rfl; have LX := bk_load (P := Tryd.prog) 3 RD2.out.bx rfl)
            refine (ahead_any x p _).mono ?_
            rintro e V3 ⟨rfl, b3⟩
            have RD3 := Lib.hid (RD2.out.below rfl b3)
            clear b3 x6 LP LX
            have x6 := RD3.out.ms.b0.cell 6
            have LP := bk_load (P := Tryd.prog) 3 RD3.out.ms.b1 rfl
            have LX := bk_load (P := Tryd.prog) 3 RD3.out.bx rfl
            rw [hxp]
            go_wp2_with fail
            refine (ahead_any p x _).mono ?_
            rintro e V4 ⟨rfl, b4⟩
            have RD4 := Lib.hid (RD3.out.below rfl b4)
            clear b4 x6 LP LX
            have x6 := RD4.out.ms.b0.cell 6
            have LP := bk_load (P := Tryd.prog) 3 RD4.out.ms.b1 rfl
            have LX := bk_load (P := Tryd.prog) 3 RD4.out.bx rfl
            rw [hpx]
            go_wp2_with (at_builtin; refine wpList_append_any _ rfl (.tmp 61) (.tmp 63) 24 rfl (w.heap.size + 3) 38 i0 _ 3 24 Tryd.underlying24 hi0 hz0 hz1 hz2 rfl (by decide) (.slice A2 ou2.length c2) ou2.length (cellsP ou2) (by rfl) (RD4.out.ow.alloc _) (V4.heap.size + 1) (some ⟨V4.heap.size, 0, none⟩) 1 1 (cellsP [x]) (by rfl) (reads_newP V4 38 [x]) (cellsP_one _) (by unfold maxLen; omega) (by omega) (by rw [World.size_alloc]; have := RD4.out.ms.top; omega) ?_; intro v5 V5 hown5 hg5 hat5; obtain ⟨ou5, hl5⟩ : ∃ l, l = ou2 ++ [x] := ⟨_, rfl⟩; have hn5 : ou2.length + 1 = ou5.length := (by simp [hl5]); have hb5 : ou5.length ≤ ou2.length + 1 := (by omega); rw [hn5, show cellsP ou2 ++ cellsP [x] = cellsP ou5 by rw [hl5, cellsP_append]] at hown5; obtain ⟨A5, c5, rfl, hc5⟩ := own_slice hown5; have RD5 := Lib.hid (RD4.out.app rfl hg5 hown5 hat5); have HL5 := Lib.hid hl5; clear hown5 hg5 hat5 hl5 hn5 hc5 x6 LP LX; have x6 := RD5.out.ms.b0.cell 6; have LP := bk_load (P := Tryd.prog) 3 RD5.out.ms.b1 rfl; have LX := bk_load (P := Tryd.prog) 3 RD5.out.bx rfl)
            go_roundg (gk - 1)
            case measure => have := HM.out; omega
            case rel =>
              have hgo : goP p (x :: c.qs.drop (k + 1)) false = [p, x] ++ goP p (c.qs.drop (k + 1)) true := by
                conv => lhs; unfold goP
                simp [hxp, hpx]
              refine ⟨k + 1, true, ou5, A5, c5, by omega, by go_num, rfl, rfl, by have := HM.out; omega, by omega, ?_, RD5.out.ow, RD5.out.ms⟩
              rw [← HRS.out, HDZ.out, hgo, HL5.out, HL2.out]
              simp
          · go_wp2_with fail
            refine (ahead_any x p _).mono ?_
            rintro e V1 ⟨rfl, b1⟩
            have RD1 := Lib.hid (RD0.out.below rfl b1)
            clear b1 x6 LP LX
            have x6 := RD1.out.ms.b0.cell 6
            have LP := bk_load (P := Tryd.prog) 3 RD1.out.ms.b1 rfl
            have LX := bk_load (P := Tryd.prog) 3 RD1.out.bx rfl
            rw [hxp]
            go_wp2_with fail
            refine (ahead_any p x _).mono ?_
            rintro e V2 ⟨rfl, b2⟩
            have RD2 := Lib.hid (RD1.out.below rfl b2)
            clear b2 x6 LP LX
            have x6 := RD2.out.ms.b0.cell 6
            have LP := bk_load (P := Tryd.prog) 3 RD2.out.ms.b1 rfl
            have LX := bk_load (P := Tryd.prog) 3 RD2.out.bx rfl
            rw [hpx]
            go_wp2_with (at_builtin; refine wpList_append_any _ rfl (.tmp 61) (.tmp 63) 24 rfl (w.heap.size + 3) 38 i0 _ 3 24 Tryd.underlying24 hi0 hz0 hz1 hz2 rfl (by decide) (.slice A ou.length cc) ou.length (cellsP ou) (by rfl) (RD2.out.ow.alloc _) (V2.heap.size + 1) (some ⟨V2.heap.size, 0, none⟩) 1 1 (cellsP [x]) (by rfl) (reads_newP V2 38 [x]) (cellsP_one _) (by unfold maxLen; omega) (by omega) (by rw [World.size_alloc]; have := RD2.out.ms.top; omega) ?_; intro v3 V3 hown3 hg3 hat3; obtain ⟨ou3, hl3⟩ : ∃ l, l = ou ++ [x] := ⟨_, rfl⟩; have hn3 : ou.length + 1 = ou3.length := (by simp [hl3]); have hb3 : ou3.length ≤ ou.length + 1 := (by omega); rw [hn3, show cellsP ou ++ cellsP [x] = cellsP ou3 by rw [hl3, cellsP_append]] at hown3; obtain ⟨A3, c3, rfl, hc3⟩ := own_slice hown3; have RD3 := Lib.hid (RD2.out.app rfl hg3 hown3 hat3); have HL3 := Lib.hid hl3; clear hown3 hg3 hat3 hl3 hn3 hc3 x6 LP LX; have x6 := RD3.out.ms.b0.cell 6; have LP := bk_load (P := Tryd.prog) 3 RD3.out.ms.b1 rfl; have LX := bk_load (P := Tryd.prog) 3 RD3.out.bx rfl)
            go_roundg (gk - 1)
            case measure => have := HM.out; omega
            case rel =>
              have hgo : goP p (x :: c.qs.drop (k + 1)) true = [x] ++ goP p (c.qs.drop (k + 1)) true := by
                conv => lhs; unfold goP
                simp [hxp, hpx]
              refine ⟨k + 1, true, ou3, A3, c3, by omega, by go_num, rfl, rfl, by have := HM.out; omega, by omega, ?_, RD3.out.ow, RD3.out.ms⟩
              rw [← HRS.out, HDZ.out, hgo, HL3.out]
              simp
      · have hpx : True := trivial
        cases d
        · go_wp2_with fail
          refine (ahead_any x p _).mono ?_
          rintro e V1 ⟨rfl, b1⟩
          have RD1 := Lib.hid (RD0.out.below rfl b1)
          clear b1 x6 LP LX
          have x6 := RD1.out.ms.b0.cell 6
          have LP := bk_load (P := Tryd.prog) 3 RD1.out.ms.b1 rfl
          have LX := bk_load (P := Tryd.prog) 3 RD1.out.bx rfl
          rw [hxp]
          go_wp2_with fail
          refine (ahead_any x p _).mono ?_
          rintro e V2 ⟨rfl, b2⟩
          have RD2 := Lib.hid (RD1.out.below rfl b2)
          clear b2 x6 LP LX
          have x6 := RD2.out.ms.b0.cell 6
          have LP := bk_load (P := Tryd.prog) 3 RD2.out.ms.b1 rfl
          have LX := bk_load (P := Tryd.prog) 3 RD2.out.bx rfl
          rw [hxp]
          go_wp2_with (at_builtin; refine wpList_append_any _ rfl (.tmp 61) (.tmp 63) 24 rfl (w.heap.size + 3) 38 i0 _ 3 24 Tryd.underlying24 hi0 hz0 hz1 hz2 rfl (by decide) (.slice A ou.length cc) ou.length (cellsP ou) (by rfl) (RD2.out.ow.alloc _) (V2.heap.size + 1) (some ⟨V2.heap.size, 0, none⟩) 1 1 (cellsP [x]) (by rfl) (reads_newP V2 38 [x]) (cellsP_one _) (by unfold maxLen; omega) (by omega) (by rw [World.size_alloc]; have := RD2.out.ms.top; omega) ?_; intro v3 V3 hown3 hg3 hat3; obtain ⟨ou3, hl3⟩ : ∃ l, l = ou ++ [x] := ⟨_, rfl⟩; have hn3 : ou.length + 1 = ou3.length := (by simp [hl3]); have hb3 : ou3.length ≤ ou.length + 1 := (by omega); rw [hn3, show cellsP ou ++ cellsP [x] = cellsP ou3 by rw [hl3, cellsP_append]] at hown3; obtain ⟨A3, c3, rfl, hc3⟩ := own_slice hown3; have RD3 := Lib.hid (RD2.out.app rfl hg3 hown3 hat3); have HL3 := Lib.hid hl3; clear hown3 hg3 hat3 hl3 hn3 hc3 x6 LP LX; have x6 := RD3.out.ms.b0.cell 6; have LP := bk_load (P := Tryd.prog) 3 RD3.out.ms.b1 rfl; have LX := bk_load (P := Tryd.prog) 3 RD3.out.bx rfl)
          go_roundg (gk - 1)
          case measure => have := HM.out; omega
          case rel =>
            have hgo : goP p (x :: c.qs.drop (k + 1)) false = [x] ++ goP p (c.qs.drop (k + 1)) false := by
              conv => lhs; unfold goP
              simp [hxp, hpx]
            refine ⟨k + 1, false, ou3, A3, c3, by omega, by go_num, rfl, rfl, by have := HM.out; omega, by omega, ?_, RD3.out.ow, RD3.out.ms⟩
            rw [← HRS.out, HDZ.out, hgo, HL3.out]
            simp
        · go_wp2_with fail
          refine (ahead_any x p _).mono ?_
          rintro e V1 ⟨rfl, b1⟩
          have RD1 := Lib.hid (RD0.out.below rfl b1)
          clear b1 x6 LP LX
          have x6 := RD1.out.ms.b0.cell 6
          have LP := bk_load (P := Tryd.prog) 3 RD1.out.ms.b1 rfl
          have LX := bk_load (P := Tryd.prog) 3 RD1.out.bx rfl
          rw [hxp]
          go_wp2_with (at_builtin; refine wpList_append_any _ rfl (.tmp 61) (.tmp 63) 24 rfl (w.heap.size + 3) 38 i0 _ 3 24 Tryd.underlying24 hi0 hz0 hz1 hz2 rfl (by decide) (.slice A ou.length cc) ou.length (cellsP ou) (by rfl) (RD1.out.ow.alloc _) (V1.heap.size + 1) (some ⟨V1.heap.size, 0, none⟩) 1 1 (cellsP [x]) (by rfl) (reads_newP V1 38 [x]) (cellsP_one _) (by unfold maxLen; omega) (by omega) (by rw [World.size_alloc]; have := RD1.out.ms.top; omega) ?_; intro v2 V2 hown2 hg2 hat2; obtain ⟨ou2, hl2⟩ : ∃ l, l = ou ++ [x] := ⟨_, rfl⟩; have hn2 : ou.length + 1 = ou2.length := (by simp [hl2]); have hb2 : ou2.length ≤ ou.length + 1 := (by omega); rw [hn2, show cellsP ou ++ cellsP [x] = cellsP ou2 by rw [hl2, cellsP_append]] at hown2; obtain ⟨A2, c2, rfl, hc2⟩ := own_slice hown2; have RD2 := Lib.hid (RD1.out.app rfl hg2 hown2 hat2); have HL2 := Lib.hid hl2; clear hown2 hg2 hat2 hl2 hn2 hc2 x6 LP LX; have x6 := RD2.out.ms.b0.cell 6; have LP := bk_load (P := Tryd.prog) 3 RD2.out.ms.b1 rfl; have LX := bk_load (P := Tryd.prog) 3 RD2.out.bx rfl)
          go_roundg (gk - 1)
          case measure => have := HM.out; omega
          case rel =>
            have hgo : goP p (x :: c.qs.drop (k + 1)) true = [x] ++ goP p (c.qs.drop (k + 1)) true := by
              conv => lhs; unfold goP
              simp [hxp, hpx]
            refine ⟨k + 1, true, ou2, A2, c2, by omega, by go_num, rfl, rfl, by have := HM.out; omega, by omega, ?_, RD2.out.ow, RD2.out.ms⟩
            rw [← HRS.out, HDZ.out, hgo, HL2.out]
            simp
    · obtain rfl : k = c.qs.length := by omega
      have d1 : decide ((c.qs.length : Int) < (c.qs.length : Int)) = false := by simp
      have hdr : c.qs.drop c.qs.length = [] := List.drop_of_length_le (Nat.le_refl _)
      cases d
      · have HR2 := Lib.hid (show ou ++ [p] = keepF (fun y => plI y p) c.qs p by rw [← HRS.out, hdr]; rfl)
        have HLN' := Lib.hid (show (ou ++ [p]).length ≤ 1000 by rw [HR2.out]; have := length_keepF (fun y => plI y p) c.qs p; have := HPS.out; omega)
        clear hdr
        have LP := bk_load (P := Tryd.prog) 3 MS.out.b1 rfl
        go_wp2_with (at_builtin; refine wpList_append_any _ rfl (.tmp 67) (.tmp 69) 24 rfl (w.heap.size + 3) 38 i0 _ 3 24 Tryd.underlying24 hi0 hz0 hz1 hz2 rfl (by decide) (.slice A ou.length cc) ou.length (cellsP ou) (by rfl) (OW.out.alloc _) (wr.heap.size + 1) (some ⟨wr.heap.size, 0, none⟩) 1 1 (cellsP [p]) (by rfl) (reads_newP wr 38 [p]) (cellsP_one _) (by unfold maxLen; omega) (by omega) (by rw [World.size_alloc]; have := MS.out.top; omega) ?_; intro v4 W4 hown4 hg4 hat4; have MS4 := Lib.hid ((MS.out.alloc rfl _).grown rfl hg4 (fun y hy => (OW.out.lt y hy).1)); obtain ⟨ou4, hl4⟩ : ∃ l, l = ou ++ [p] := ⟨_, rfl⟩; have hn4 : ou.length + 1 = ou4.length := (by simp [hl4]); have hb4 : ou4.length ≤ ou.length + 1 := (by omega); rw [hn4, show cellsP ou ++ cellsP [p] = cellsP ou4 by rw [hl4, cellsP_append]] at hown4; obtain ⟨A4, c4, rfl, hc4⟩ := own_slice hown4; have OW4 := Lib.hid hown4; have HL4 := Lib.hid hl4; have HN4 := Lib.hid hn4; clear hown4 hg4 hat4 hl4 hn4; have kz0 := MS4.out.b0; have st7 := store_slP A4 ou4.length c4 (kz0.cell 6) (kz0.frozen 6); have kz : Blk (W4.setCell ⟨w.heap.size, 6, none⟩ (.slice A4 ou4.length c4)) w.heap.size 26 #[.int .i8 2, .int .i64 c.pid, .int .i64 c.ep, .int .i64 c.tm, .int .i64 c.th, .slice A1 c.ps.length c1, .slice A4 ou4.length c4, .int .i64 c.ag] := kz0.set_ 6 (.slice A4 ou4.length c4); have L7 := bk_load (P := Tryd.prog) 8 kz rfl; have k37 := MS4.out.b2.far (p := ⟨w.heap.size, 6, none⟩) (by simp; omega) (.slice A4 ou4.length c4); have b7 := MS4.out.bel.setCell (p := ⟨w.heap.size, 6, none⟩) (Nat.le_refl _) (.slice A4 ou4.length c4); have o7 := bk_own (w' := W4.setCell ⟨w.heap.size, 6, none⟩ (.slice A4 ou4.length c4)) OW4.out (fun y hy => Below.heap_setCell _ _ _ _ (by have := (OW4.out.lt y hy).1; show y ≠ w.heap.size; omega)); obtain ⟨W9, st9, kk, fb, fh, fs⟩ := bk_store (P := Tryd.prog) (ty := 26) (cs := #[.int .i8 2, .int .i64 c.pid, .int .i64 c.ep, .int .i64 c.tm, .int .i64 c.th, .slice A1 c.ps.length c1, .slice A4 ou4.length c4, .int .i64 c.ag]) 8 k37 infoCo rfl rfl (by simp [Value.oneCell']); have BB := Lib.hid (fb w.heap.size w (by omega) b7); have OO := Lib.hid (bk_own o7 (fun y hy => fh y (by have := (OW4.out.lt y hy).1; omega))); have KK := Lib.hid kk; clear kz0 kz k37 b7 o7 kk fb fh fs)
        have HLN := Lib.hid (show ou4.length ≤ 1000 by rw [HL4.out]; exact HLN'.out)
        rw [← HL4.out] at HR2
        refine bodyPost_ret (v := .tuple #[.agg #[.int .i8 2, .int .i64 c.pid, .int .i64 c.ep, .int .i64 c.tm, .int .i64 c.th, .slice A1 c.ps.length c1, .slice A4 ou4.length c4, .int .i64 c.ag], .int .i64 0]) (rset_ret { c with st := 2, qs := ou4 } A1 A4 c1 c4 0 _ (w.heap.size + 1 + 1) _ rfl rfl KK.out) rfl ?_
        rw [HE.out, HC.out, ← HR2.out]
        have rr := H1.out.up BB.out
        have na := newAt_of_own OO.out
        exact ⟨A1, A4, c1, c4, rfl, ⟨rr.1, Reads.of_own OO.out, rr.2.2.1, HLN.out⟩, BB.out, fun b hb o1 o2 => ⟨o1, na.off (by omega)⟩⟩
      · have HR2 := Lib.hid (show ou = keepF (fun y => plI y p) c.qs p by rw [← HRS.out, hdr]; show ou = ou ++ []; simp)
        have HLN := Lib.hid (show ou.length ≤ 1000 by rw [HR2.out]; have := length_keepF (fun y => plI y p) c.qs p; have := HPS.out; omega)
        clear hdr
        have kz0 := MS.out.b0
        have st7 := store_slP A ou.length cc (kz0.cell 6) (kz0.frozen 6)
        have kz : Blk (wr.setCell ⟨w.heap.size, 6, none⟩ (.slice A ou.length cc)) w.heap.size 26 #[.int .i8 2, .int .i64 c.pid, .int .i64 c.ep, .int .i64 c.tm, .int .i64 c.th, .slice A1 c.ps.length c1, .slice A ou.length cc, .int .i64 c.ag] := kz0.set_ 6 (.slice A ou.length cc)
        have L7 := bk_load (P := Tryd.prog) 8 kz rfl
        have k37 := MS.out.b2.far (p := ⟨w.heap.size, 6, none⟩) (by simp; omega) (.slice A ou.length cc)
        have b7 := MS.out.bel.setCell (p := ⟨w.heap.size, 6, none⟩) (Nat.le_refl _) (.slice A ou.length cc)
        have o7 := bk_own (w' := wr.setCell ⟨w.heap.size, 6, none⟩ (.slice A ou.length cc)) OW.out (fun y hy => Below.heap_setCell _ _ _ _ (by have := (OW.out.lt y hy).1; show y ≠ w.heap.size; omega))
        obtain ⟨W9, st9, kk, fb, fh, fs⟩ := bk_store (P := Tryd.prog) (ty := 26) (cs := #[.int .i8 2, .int .i64 c.pid, .int .i64 c.ep, .int .i64 c.tm, .int .i64 c.th, .slice A1 c.ps.length c1, .slice A ou.length cc, .int .i64 c.ag]) 8 k37 infoCo rfl rfl (by simp [Value.oneCell'])
        have BB := Lib.hid (fb w.heap.size w (by omega) b7)
        have OO := Lib.hid (bk_own o7 (fun y hy => fh y (by have := (OW.out.lt y hy).1; omega)))
        have KK := Lib.hid kk
        clear kz0 kz k37 b7 o7 kk fb fh fs
        go_wp2_with fail
        refine bodyPost_ret (v := .tuple #[.agg #[.int .i8 2, .int .i64 c.pid, .int .i64 c.ep, .int .i64 c.tm, .int .i64 c.th, .slice A1 c.ps.length c1, .slice A ou.length cc, .int .i64 c.ag], .int .i64 0]) (rset_ret { c with st := 2, qs := ou } A1 A c1 cc 0 _ (w.heap.size + 1 + 1) _ rfl rfl KK.out) rfl ?_
        rw [HE.out, HC.out, ← HR2.out]
        have rr := H1.out.up BB.out
        have na := newAt_of_own OO.out
        exact ⟨A1, A, c1, cc, rfl, ⟨rr.1, Reads.of_own OO.out, rr.2.2.1, HLN.out⟩, BB.out, fun b hb o1 o2 => ⟨o1, na.off (by omega)⟩⟩
theorem rSet_any (c : Co) (A1 D1 : Option Addr) (c1 e1 : Nat) (p : Pd) (w : World) (h1 : CoR w w.heap.size c A1 D1) (h8 : -128 ≤ c.st) (h9 : c.st ≤ 127) :
    Calls Tryd.prog 42 #[(.agg #[.int .i8 c.st, .int .i64 c.pid, .int .i64 c.ep, .int .i64 c.tm, .int .i64 c.th, .slice A1 c.ps.length c1, .slice D1 c.qs.length e1, .int .i64 c.ag]), .agg #[.int .i64 p.1, .int .i64 p.2.1, .int .i64 p.2.2]] w (MvP c A1 D1 (setC c p) (setE c p) w) := by
  cases hm : mayB c
  · exact rset_a c A1 D1 c1 e1 p w h1 h8 h9 hm
  cases kp : pendB p
  · exact rset_b c A1 D1 c1 e1 p w h1 h8 h9 hm kp
  cases ki : idlB c
  · by_cases k2 : c.st = 2
    · exact rset_dg c A1 D1 c1 e1 p w h1 h8 h9 hm kp (.inr k2) ki k2
    · exact rset_c c A1 D1 c1 e1 p w h1 h8 h9 hm kp ki k2
  · exact rset_di c A1 D1 c1 e1 p w h1 h8 h9 hm kp (.inl ki) ki
end
end Go.Proofs.YtagclnmchkgpdaaDoor
namespace Go.Proofs.YtagclnmchkgpdaaDoor
open Go.RowKit
theorem CoR.holdOff {w w' : World} {c : Co} {A D : Option Addr} {b : Nat} (h : CoR w w.heap.size c A D) (f : OffB b c.ps.length A) (g : OffB b c.qs.length D) (k : ∀ y, y ≠ b → w'.heap[y]? = w.heap[y]?) (hs : w'.heap.size = w.heap.size) : CoR w' w'.heap.size c A D := by
  rw [hs]
  exact ⟨reads_hold h.1 (fun hn ad e => k _ (f hn ad e)), reads_hold h.2.1 (fun hn ad e => k _ (g hn ad e)), h.2.2⟩
section
attribute [-go_sem] loadCells storeVar
set_option maxRecDepth 100000 in
theorem told_ret (x : Co) (A5 D5 : Option Addr) (c5 e5 : Nat) (n : Int) (tmps : Array Value) (b : Nat) (W : World) (h2 : tmps[4]?.getD undef = .pointer (some ⟨b, 0, none⟩)) (h3 : tmps[5]?.getD undef = .int .i64 n) (hK : Blk W b 26 #[.int .i8 x.st, .int .i64 x.pid, .int .i64 x.ep, .int .i64 x.tm, .int .i64 x.th, .slice A5 x.ps.length c5, .slice D5 x.qs.length e5, .int .i64 x.ag]) :
    (results Tryd.f22 tmps).run Tryd.prog W = .ok (.tuple #[(.agg #[.int .i8 x.st, .int .i64 x.pid, .int .i64 x.ep, .int .i64 x.tm, .int .i64 x.th, .slice A5 x.ps.length c5, .slice D5 x.qs.length e5, .int .i64 x.ag]), .int .i64 n]) W := by
  have LC := bk_load (P := Tryd.prog) 8 hK rfl
  clear hK
  simp [results, Tryd.results22, go_sem, h2, h3, LC]

set_option maxRecDepth 100000 in
set_option maxHeartbeats 2000000 in
theorem told_0 (c : Co) (A1 D1 : Option Addr) (c1 e1 : Nat) (x : Mv) (L1 : Option Addr) (m1 : Nat) (w : World) (h1 : CoR w w.heap.size c A1 D1) (h8 : -128 ≤ c.st) (h9 : c.st ≤ 127) (hk : x.k = 0) :
    Calls Tryd.prog 22 #[(.agg #[.int .i8 c.st, .int .i64 c.pid, .int .i64 c.ep, .int .i64 c.tm, .int .i64 c.th, .slice A1 c.ps.length c1, .slice D1 c.qs.length e1, .int .i64 c.ag]), (.agg #[.int .i64 x.k, .int .i64 x.a, .int .i64 x.b, .int .i64 x.p.1, .int .i64 x.p.2.1, .int .i64 x.p.2.2, .bool x.yes, .slice L1 x.l.length m1])] w (MvP c A1 D1 (initC c x.a x.b) (initE c x.a x.b) w) := by
  obtain ⟨W0, hW0⟩ : ∃ W0, W0 = ((w.alloc (.cells #[.int .i8 c.st, .int .i64 c.pid, .int .i64 c.ep, .int .i64 c.tm, .int .i64 c.th, .slice A1 c.ps.length c1, .slice D1 c.qs.length e1, .int .i64 c.ag] 26)).alloc (.cells #[.int .i64 x.k, .int .i64 x.a, .int .i64 x.b, .int .i64 x.p.1, .int .i64 x.p.2.1, .int .i64 x.p.2.2, .bool x.yes, .slice L1 x.l.length m1] 40)).alloc (.cells #[.int .i8 0, .int .i64 0, .int .i64 0, .int .i64 0, .int .i64 0, .slice none 0 0, .slice none 0 0, .int .i64 0] 26) := ⟨_, rfl⟩
  have s0 : W0.heap.size = w.heap.size + 1 + 1 + 1 := by rw [hW0]; simp
  have B0 : Below w.heap.size w W0 := by rw [hW0]; exact bal (bal (bal (Below.refl _ _) _) _) _
  have K1 : Blk W0 w.heap.size 26 #[.int .i8 c.st, .int .i64 c.pid, .int .i64 c.ep, .int .i64 c.tm, .int .i64 c.th, .slice A1 c.ps.length c1, .slice D1 c.qs.length e1, .int .i64 c.ag] := by rw [hW0]; exact ((Blk.new w 26 #[.int .i8 c.st, .int .i64 c.pid, .int .i64 c.ep, .int .i64 c.tm, .int .i64 c.th, .slice A1 c.ps.length c1, .slice D1 c.qs.length e1, .int .i64 c.ag]).alloc _).alloc _
  have K2 : Blk W0 (w.heap.size + 1) 40 #[.int .i64 x.k, .int .i64 x.a, .int .i64 x.b, .int .i64 x.p.1, .int .i64 x.p.2.1, .int .i64 x.p.2.2, .bool x.yes, .slice L1 x.l.length m1] := by rw [hW0]; exact (bk_new _ 40 #[.int .i64 x.k, .int .i64 x.a, .int .i64 x.b, .int .i64 x.p.1, .int .i64 x.p.2.1, .int .i64 x.p.2.2, .bool x.yes, .slice L1 x.l.length m1] (by simp)).alloc _
  have K3 : Blk W0 (w.heap.size + 1 + 1) 26 #[.int .i8 0, .int .i64 0, .int .i64 0, .int .i64 0, .int .i64 0, .slice none 0 0, .slice none 0 0, .int .i64 0] := by rw [hW0]; exact bk_new _ 26 #[.int .i8 0, .int .i64 0, .int .i64 0, .int .i64 0, .int .i64 0, .slice none 0 0, .slice none 0 0, .int .i64 0] (by simp)
  have HW := Lib.hid hW0
  have HS := Lib.hid s0
  have HB := Lib.hid B0
  have HK3 := Lib.hid K3
  have H1 := Lib.hid h1
  have L0 := bk_load (P := Tryd.prog) 8 K1 rfl

  have cc0 : (x.k == 0) = true := by rw [hk]; rfl

  have x0 := K2.cell 0

  have x1 := K2.cell 1

  have x2 := K2.cell 2

  have CA := Lib.hid (rInit_any c A1 D1 c1 e1 x.a x.b W0 (h1.up B0) h8 h9)

  clear hW0 s0 B0 K1 K2 K3 h1 h8 h9 hk
  go_enter Tryd.func22, Tryd.ntmps22
  go_upto_region 1 with (fail)
  rw [← HW.out]
  go_wp2_with fail
  refine CA.out.mono ?_

  rintro e w1 ⟨A5, D5, c5, e5, rfl, r5, b5, of⟩

  obtain ⟨W2, st, kk, fb, fh, fs⟩ := bk_store (P := Tryd.prog) (ty := 26) (cs := #[.int .i8 (initC c x.a x.b).st, .int .i64 (initC c x.a x.b).pid, .int .i64 (initC c x.a x.b).ep, .int .i64 (initC c x.a x.b).tm, .int .i64 (initC c x.a x.b).th, .slice A5 (initC c x.a x.b).ps.length c5, .slice D5 (initC c x.a x.b).qs.length e5, .int .i64 (initC c x.a x.b).ag]) 8 (HK3.out.below b5 (by have := HS.out; omega)) infoCo rfl rfl (by simp [Value.oneCell'])
  have BB := Lib.hid (fb w.heap.size w (by omega) (HB.out.trans (b5.mono HB.out.size)))
  have KK := Lib.hid kk
  have off := of (w.heap.size + 1 + 1) (by have := HS.out; omega) (H1.out.1.offB (by omega)) (H1.out.2.1.offB (by omega))
  have RR := Lib.hid (r5.holdOff off.1 off.2 fh fs)
  have OFF := Lib.hid (fun (b : Nat) (hb : b < w.heap.size) (o1 : OffB b c.ps.length A1) (o2 : OffB b c.qs.length D1) => of b (by have := HS.out; omega) o1 o2)

  clear kk fb fh fs r5 b5 of off 
  go_wp2_with fail
  refine bodyPost_ret (v := .tuple #[(.agg #[.int .i8 (initC c x.a x.b).st, .int .i64 (initC c x.a x.b).pid, .int .i64 (initC c x.a x.b).ep, .int .i64 (initC c x.a x.b).tm, .int .i64 (initC c x.a x.b).th, .slice A5 (initC c x.a x.b).ps.length c5, .slice D5 (initC c x.a x.b).qs.length e5, .int .i64 (initC c x.a x.b).ag]), .int .i64 (initE c x.a x.b)]) (told_ret (initC c x.a x.b) A5 D5 c5 e5 _ _ (w.heap.size + 1 + 1) _ rfl rfl KK.out) rfl ?_
  exact ⟨A5, D5, c5, e5, rfl, RR.out, BB.out, OFF.out⟩

set_option maxRecDepth 100000 in
set_option maxHeartbeats 2000000 in
theorem told_1 (c : Co) (A1 D1 : Option Addr) (c1 e1 : Nat) (x : Mv) (L1 : Option Addr) (m1 : Nat) (w : World) (h1 : CoR w w.heap.size c A1 D1) (h8 : -128 ≤ c.st) (h9 : c.st ≤ 127) (hk : x.k = 1) :
    Calls Tryd.prog 22 #[(.agg #[.int .i8 c.st, .int .i64 c.pid, .int .i64 c.ep, .int .i64 c.tm, .int .i64 c.th, .slice A1 c.ps.length c1, .slice D1 c.qs.length e1, .int .i64 c.ag]), (.agg #[.int .i64 x.k, .int .i64 x.a, .int .i64 x.b, .int .i64 x.p.1, .int .i64 x.p.2.1, .int .i64 x.p.2.2, .bool x.yes, .slice L1 x.l.length m1])] w (MvP c A1 D1 (addC c x.a) (addE c x.a) w) := by
  obtain ⟨W0, hW0⟩ : ∃ W0, W0 = ((w.alloc (.cells #[.int .i8 c.st, .int .i64 c.pid, .int .i64 c.ep, .int .i64 c.tm, .int .i64 c.th, .slice A1 c.ps.length c1, .slice D1 c.qs.length e1, .int .i64 c.ag] 26)).alloc (.cells #[.int .i64 x.k, .int .i64 x.a, .int .i64 x.b, .int .i64 x.p.1, .int .i64 x.p.2.1, .int .i64 x.p.2.2, .bool x.yes, .slice L1 x.l.length m1] 40)).alloc (.cells #[.int .i8 0, .int .i64 0, .int .i64 0, .int .i64 0, .int .i64 0, .slice none 0 0, .slice none 0 0, .int .i64 0] 26) := ⟨_, rfl⟩
  have s0 : W0.heap.size = w.heap.size + 1 + 1 + 1 := by rw [hW0]; simp
  have B0 : Below w.heap.size w W0 := by rw [hW0]; exact bal (bal (bal (Below.refl _ _) _) _) _
  have K1 : Blk W0 w.heap.size 26 #[.int .i8 c.st, .int .i64 c.pid, .int .i64 c.ep, .int .i64 c.tm, .int .i64 c.th, .slice A1 c.ps.length c1, .slice D1 c.qs.length e1, .int .i64 c.ag] := by rw [hW0]; exact ((Blk.new w 26 #[.int .i8 c.st, .int .i64 c.pid, .int .i64 c.ep, .int .i64 c.tm, .int .i64 c.th, .slice A1 c.ps.length c1, .slice D1 c.qs.length e1, .int .i64 c.ag]).alloc _).alloc _
  have K2 : Blk W0 (w.heap.size + 1) 40 #[.int .i64 x.k, .int .i64 x.a, .int .i64 x.b, .int .i64 x.p.1, .int .i64 x.p.2.1, .int .i64 x.p.2.2, .bool x.yes, .slice L1 x.l.length m1] := by rw [hW0]; exact (bk_new _ 40 #[.int .i64 x.k, .int .i64 x.a, .int .i64 x.b, .int .i64 x.p.1, .int .i64 x.p.2.1, .int .i64 x.p.2.2, .bool x.yes, .slice L1 x.l.length m1] (by simp)).alloc _
  have K3 : Blk W0 (w.heap.size + 1 + 1) 26 #[.int .i8 0, .int .i64 0, .int .i64 0, .int .i64 0, .int .i64 0, .slice none 0 0, .slice none 0 0, .int .i64 0] := by rw [hW0]; exact bk_new _ 26 #[.int .i8 0, .int .i64 0, .int .i64 0, .int .i64 0, .int .i64 0, .slice none 0 0, .slice none 0 0, .int .i64 0] (by simp)
  have HW := Lib.hid hW0
  have HS := Lib.hid s0
  have HB := Lib.hid B0
  have HK3 := Lib.hid K3
  have H1 := Lib.hid h1
  have L0 := bk_load (P := Tryd.prog) 8 K1 rfl

  have cc0 : (x.k == 0) = false := by rw [hk]; rfl

  have cc1 : (x.k == 1) = true := by rw [hk]; rfl

  have x0 := K2.cell 0

  have x1 := K2.cell 1

  have CA := Lib.hid (rAdd_any c A1 D1 c1 e1 x.a W0 (h1.up B0) h8 h9)

  clear hW0 s0 B0 K1 K2 K3 h1 h8 h9 hk
  go_enter Tryd.func22, Tryd.ntmps22
  go_upto_region 1 with (fail)
  rw [← HW.out]
  go_wp2_with fail
  refine CA.out.mono ?_

  rintro e w1 ⟨A5, D5, c5, e5, rfl, r5, b5, of⟩

  obtain ⟨W2, st, kk, fb, fh, fs⟩ := bk_store (P := Tryd.prog) (ty := 26) (cs := #[.int .i8 (addC c x.a).st, .int .i64 (addC c x.a).pid, .int .i64 (addC c x.a).ep, .int .i64 (addC c x.a).tm, .int .i64 (addC c x.a).th, .slice A5 (addC c x.a).ps.length c5, .slice D5 (addC c x.a).qs.length e5, .int .i64 (addC c x.a).ag]) 8 (HK3.out.below b5 (by have := HS.out; omega)) infoCo rfl rfl (by simp [Value.oneCell'])
  have BB := Lib.hid (fb w.heap.size w (by omega) (HB.out.trans (b5.mono HB.out.size)))
  have KK := Lib.hid kk
  have off := of (w.heap.size + 1 + 1) (by have := HS.out; omega) (H1.out.1.offB (by omega)) (H1.out.2.1.offB (by omega))
  have RR := Lib.hid (r5.holdOff off.1 off.2 fh fs)
  have OFF := Lib.hid (fun (b : Nat) (hb : b < w.heap.size) (o1 : OffB b c.ps.length A1) (o2 : OffB b c.qs.length D1) => of b (by have := HS.out; omega) o1 o2)

  clear kk fb fh fs r5 b5 of off 
  go_wp2_with fail
  refine bodyPost_ret (v := .tuple #[(.agg #[.int .i8 (addC c x.a).st, .int .i64 (addC c x.a).pid, .int .i64 (addC c x.a).ep, .int .i64 (addC c x.a).tm, .int .i64 (addC c x.a).th, .slice A5 (addC c x.a).ps.length c5, .slice D5 (addC c x.a).qs.length e5, .int .i64 (addC c x.a).ag]), .int .i64 (addE c x.a)]) (told_ret (addC c x.a) A5 D5 c5 e5 _ _ (w.heap.size + 1 + 1) _ rfl rfl KK.out) rfl ?_
  exact ⟨A5, D5, c5, e5, rfl, RR.out, BB.out, OFF.out⟩

set_option maxRecDepth 100000 in
set_option maxHeartbeats 2000000 in
theorem told_2 (c : Co) (A1 D1 : Option Addr) (c1 e1 : Nat) (x : Mv) (L1 : Option Addr) (m1 : Nat) (w : World) (h1 : CoR w w.heap.size c A1 D1) (h8 : -128 ≤ c.st) (h9 : c.st ≤ 127) (hk : x.k = 2) :
    Calls Tryd.prog 22 #[(.agg #[.int .i8 c.st, .int .i64 c.pid, .int .i64 c.ep, .int .i64 c.tm, .int .i64 c.th, .slice A1 c.ps.length c1, .slice D1 c.qs.length e1, .int .i64 c.ag]), (.agg #[.int .i64 x.k, .int .i64 x.a, .int .i64 x.b, .int .i64 x.p.1, .int .i64 x.p.2.1, .int .i64 x.p.2.2, .bool x.yes, .slice L1 x.l.length m1])] w (MvP c A1 D1 (setC c x.p) (setE c x.p) w) := by
  obtain ⟨W0, hW0⟩ : ∃ W0, W0 = ((w.alloc (.cells #[.int .i8 c.st, .int .i64 c.pid, .int .i64 c.ep, .int .i64 c.tm, .int .i64 c.th, .slice A1 c.ps.length c1, .slice D1 c.qs.length e1, .int .i64 c.ag] 26)).alloc (.cells #[.int .i64 x.k, .int .i64 x.a, .int .i64 x.b, .int .i64 x.p.1, .int .i64 x.p.2.1, .int .i64 x.p.2.2, .bool x.yes, .slice L1 x.l.length m1] 40)).alloc (.cells #[.int .i8 0, .int .i64 0, .int .i64 0, .int .i64 0, .int .i64 0, .slice none 0 0, .slice none 0 0, .int .i64 0] 26) := ⟨_, rfl⟩
  have s0 : W0.heap.size = w.heap.size + 1 + 1 + 1 := by rw [hW0]; simp
  have B0 : Below w.heap.size w W0 := by rw [hW0]; exact bal (bal (bal (Below.refl _ _) _) _) _
  have K1 : Blk W0 w.heap.size 26 #[.int .i8 c.st, .int .i64 c.pid, .int .i64 c.ep, .int .i64 c.tm, .int .i64 c.th, .slice A1 c.ps.length c1, .slice D1 c.qs.length e1, .int .i64 c.ag] := by rw [hW0]; exact ((Blk.new w 26 #[.int .i8 c.st, .int .i64 c.pid, .int .i64 c.ep, .int .i64 c.tm, .int .i64 c.th, .slice A1 c.ps.length c1, .slice D1 c.qs.length e1, .int .i64 c.ag]).alloc _).alloc _
  have K2 : Blk W0 (w.heap.size + 1) 40 #[.int .i64 x.k, .int .i64 x.a, .int .i64 x.b, .int .i64 x.p.1, .int .i64 x.p.2.1, .int .i64 x.p.2.2, .bool x.yes, .slice L1 x.l.length m1] := by rw [hW0]; exact (bk_new _ 40 #[.int .i64 x.k, .int .i64 x.a, .int .i64 x.b, .int .i64 x.p.1, .int .i64 x.p.2.1, .int .i64 x.p.2.2, .bool x.yes, .slice L1 x.l.length m1] (by simp)).alloc _
  have K3 : Blk W0 (w.heap.size + 1 + 1) 26 #[.int .i8 0, .int .i64 0, .int .i64 0, .int .i64 0, .int .i64 0, .slice none 0 0, .slice none 0 0, .int .i64 0] := by rw [hW0]; exact bk_new _ 26 #[.int .i8 0, .int .i64 0, .int .i64 0, .int .i64 0, .int .i64 0, .slice none 0 0, .slice none 0 0, .int .i64 0] (by simp)
  have HW := Lib.hid hW0
  have HS := Lib.hid s0
  have HB := Lib.hid B0
  have HK3 := Lib.hid K3
  have H1 := Lib.hid h1
  have L0 := bk_load (P := Tryd.prog) 8 K1 rfl

  have cc0 : (x.k == 0) = false := by rw [hk]; rfl

  have cc1 : (x.k == 1) = false := by rw [hk]; rfl

  have cc2 : (x.k == 2) = true := by rw [hk]; rfl

  have x0 := K2.cell 0

  have LP : (loadCells ⟨w.heap.size + 1, 3, none⟩ 3).run Tryd.prog W0 = .ok #[.int .i64 x.p.1, .int .i64 x.p.2.1, .int .i64 x.p.2.2] W0 := bk_load_off 3 3 K2 (by rfl) (by rfl)

  have CA := Lib.hid (rSet_any c A1 D1 c1 e1 x.p W0 (h1.up B0) h8 h9)

  clear hW0 s0 B0 K1 K2 K3 h1 h8 h9 hk
  go_enter Tryd.func22, Tryd.ntmps22
  go_upto_region 1 with (fail)
  rw [← HW.out]
  go_wp2_with fail
  refine CA.out.mono ?_

  rintro e w1 ⟨A5, D5, c5, e5, rfl, r5, b5, of⟩

  obtain ⟨W2, st, kk, fb, fh, fs⟩ := bk_store (P := Tryd.prog) (ty := 26) (cs := #[.int .i8 (setC c x.p).st, .int .i64 (setC c x.p).pid, .int .i64 (setC c x.p).ep, .int .i64 (setC c x.p).tm, .int .i64 (setC c x.p).th, .slice A5 (setC c x.p).ps.length c5, .slice D5 (setC c x.p).qs.length e5, .int .i64 (setC c x.p).ag]) 8 (HK3.out.below b5 (by have := HS.out; omega)) infoCo rfl rfl (by simp [Value.oneCell'])
  have BB := Lib.hid (fb w.heap.size w (by omega) (HB.out.trans (b5.mono HB.out.size)))
  have KK := Lib.hid kk
  have off := of (w.heap.size + 1 + 1) (by have := HS.out; omega) (H1.out.1.offB (by omega)) (H1.out.2.1.offB (by omega))
  have RR := Lib.hid (r5.holdOff off.1 off.2 fh fs)
  have OFF := Lib.hid (fun (b : Nat) (hb : b < w.heap.size) (o1 : OffB b c.ps.length A1) (o2 : OffB b c.qs.length D1) => of b (by have := HS.out; omega) o1 o2)

  clear kk fb fh fs r5 b5 of off 
  go_wp2_with fail
  refine bodyPost_ret (v := .tuple #[(.agg #[.int .i8 (setC c x.p).st, .int .i64 (setC c x.p).pid, .int .i64 (setC c x.p).ep, .int .i64 (setC c x.p).tm, .int .i64 (setC c x.p).th, .slice A5 (setC c x.p).ps.length c5, .slice D5 (setC c x.p).qs.length e5, .int .i64 (setC c x.p).ag]), .int .i64 (setE c x.p)]) (told_ret (setC c x.p) A5 D5 c5 e5 _ _ (w.heap.size + 1 + 1) _ rfl rfl KK.out) rfl ?_
  exact ⟨A5, D5, c5, e5, rfl, RR.out, BB.out, OFF.out⟩

set_option maxRecDepth 100000 in
set_option maxHeartbeats 2000000 in
theorem told_3 (c : Co) (A1 D1 : Option Addr) (c1 e1 : Nat) (x : Mv) (L1 : Option Addr) (m1 : Nat) (w : World) (h1 : CoR w w.heap.size c A1 D1) (h8 : -128 ≤ c.st) (h9 : c.st ≤ 127) (hk : x.k = 3) :
    Calls Tryd.prog 22 #[(.agg #[.int .i8 c.st, .int .i64 c.pid, .int .i64 c.ep, .int .i64 c.tm, .int .i64 c.th, .slice A1 c.ps.length c1, .slice D1 c.qs.length e1, .int .i64 c.ag]), (.agg #[.int .i64 x.k, .int .i64 x.a, .int .i64 x.b, .int .i64 x.p.1, .int .i64 x.p.2.1, .int .i64 x.p.2.2, .bool x.yes, .slice L1 x.l.length m1])] w (MvP c A1 D1 (prepC c x.yes x.a) (prepE c x.yes x.a) w) := by
  obtain ⟨W0, hW0⟩ : ∃ W0, W0 = ((w.alloc (.cells #[.int .i8 c.st, .int .i64 c.pid, .int .i64 c.ep, .int .i64 c.tm, .int .i64 c.th, .slice A1 c.ps.length c1, .slice D1 c.qs.length e1, .int .i64 c.ag] 26)).alloc (.cells #[.int .i64 x.k, .int .i64 x.a, .int .i64 x.b, .int .i64 x.p.1, .int .i64 x.p.2.1, .int .i64 x.p.2.2, .bool x.yes, .slice L1 x.l.length m1] 40)).alloc (.cells #[.int .i8 0, .int .i64 0, .int .i64 0, .int .i64 0, .int .i64 0, .slice none 0 0, .slice none 0 0, .int .i64 0] 26) := ⟨_, rfl⟩
  have s0 : W0.heap.size = w.heap.size + 1 + 1 + 1 := by rw [hW0]; simp
  have B0 : Below w.heap.size w W0 := by rw [hW0]; exact bal (bal (bal (Below.refl _ _) _) _) _
  have K1 : Blk W0 w.heap.size 26 #[.int .i8 c.st, .int .i64 c.pid, .int .i64 c.ep, .int .i64 c.tm, .int .i64 c.th, .slice A1 c.ps.length c1, .slice D1 c.qs.length e1, .int .i64 c.ag] := by rw [hW0]; exact ((Blk.new w 26 #[.int .i8 c.st, .int .i64 c.pid, .int .i64 c.ep, .int .i64 c.tm, .int .i64 c.th, .slice A1 c.ps.length c1, .slice D1 c.qs.length e1, .int .i64 c.ag]).alloc _).alloc _
  have K2 : Blk W0 (w.heap.size + 1) 40 #[.int .i64 x.k, .int .i64 x.a, .int .i64 x.b, .int .i64 x.p.1, .int .i64 x.p.2.1, .int .i64 x.p.2.2, .bool x.yes, .slice L1 x.l.length m1] := by rw [hW0]; exact (bk_new _ 40 #[.int .i64 x.k, .int .i64 x.a, .int .i64 x.b, .int .i64 x.p.1, .int .i64 x.p.2.1, .int .i64 x.p.2.2, .bool x.yes, .slice L1 x.l.length m1] (by simp)).alloc _
  have K3 : Blk W0 (w.heap.size + 1 + 1) 26 #[.int .i8 0, .int .i64 0, .int .i64 0, .int .i64 0, .int .i64 0, .slice none 0 0, .slice none 0 0, .int .i64 0] := by rw [hW0]; exact bk_new _ 26 #[.int .i8 0, .int .i64 0, .int .i64 0, .int .i64 0, .int .i64 0, .slice none 0 0, .slice none 0 0, .int .i64 0] (by simp)
  have HW := Lib.hid hW0
  have HS := Lib.hid s0
  have HB := Lib.hid B0
  have HK3 := Lib.hid K3
  have H1 := Lib.hid h1
  have L0 := bk_load (P := Tryd.prog) 8 K1 rfl

  have cc0 : (x.k == 0) = false := by rw [hk]; rfl

  have cc1 : (x.k == 1) = false := by rw [hk]; rfl

  have cc2 : (x.k == 2) = false := by rw [hk]; rfl

  have cc3 : (x.k == 3) = true := by rw [hk]; rfl

  have x0 := K2.cell 0

  have x1 := K2.cell 1

  have x6 := K2.cell 6

  have CA := Lib.hid (rPrep_any c A1 D1 c1 e1 x.yes x.a W0 (h1.up B0) h8 h9)

  clear hW0 s0 B0 K1 K2 K3 h1 h8 h9 hk
  go_enter Tryd.func22, Tryd.ntmps22
  go_upto_region 1 with (fail)
  rw [← HW.out]
  go_wp2_with fail
  refine CA.out.mono ?_

  rintro e w1 ⟨A5, D5, c5, e5, rfl, r5, b5, of⟩

  obtain ⟨W2, st, kk, fb, fh, fs⟩ := bk_store (P := Tryd.prog) (ty := 26) (cs := #[.int .i8 (prepC c x.yes x.a).st, .int .i64 (prepC c x.yes x.a).pid, .int .i64 (prepC c x.yes x.a).ep, .int .i64 (prepC c x.yes x.a).tm, .int .i64 (prepC c x.yes x.a).th, .slice A5 (prepC c x.yes x.a).ps.length c5, .slice D5 (prepC c x.yes x.a).qs.length e5, .int .i64 (prepC c x.yes x.a).ag]) 8 (HK3.out.below b5 (by have := HS.out; omega)) infoCo rfl rfl (by simp [Value.oneCell'])
  have BB := Lib.hid (fb w.heap.size w (by omega) (HB.out.trans (b5.mono HB.out.size)))
  have KK := Lib.hid kk
  have off := of (w.heap.size + 1 + 1) (by have := HS.out; omega) (H1.out.1.offB (by omega)) (H1.out.2.1.offB (by omega))
  have RR := Lib.hid (r5.holdOff off.1 off.2 fh fs)
  have OFF := Lib.hid (fun (b : Nat) (hb : b < w.heap.size) (o1 : OffB b c.ps.length A1) (o2 : OffB b c.qs.length D1) => of b (by have := HS.out; omega) o1 o2)

  clear kk fb fh fs r5 b5 of off 
  go_wp2_with fail
  refine bodyPost_ret (v := .tuple #[(.agg #[.int .i8 (prepC c x.yes x.a).st, .int .i64 (prepC c x.yes x.a).pid, .int .i64 (prepC c x.yes x.a).ep, .int .i64 (prepC c x.yes x.a).tm, .int .i64 (prepC c x.yes x.a).th, .slice A5 (prepC c x.yes x.a).ps.length c5, .slice D5 (prepC c x.yes x.a).qs.length e5, .int .i64 (prepC c x.yes x.a).ag]), .int .i64 (prepE c x.yes x.a)]) (told_ret (prepC c x.yes x.a) A5 D5 c5 e5 _ _ (w.heap.size + 1 + 1) _ rfl rfl KK.out) rfl ?_
  exact ⟨A5, D5, c5, e5, rfl, RR.out, BB.out, OFF.out⟩

set_option maxRecDepth 100000 in
set_option maxHeartbeats 2000000 in
theorem told_4 (c : Co) (A1 D1 : Option Addr) (c1 e1 : Nat) (x : Mv) (L1 : Option Addr) (m1 : Nat) (w : World) (h1 : CoR w w.heap.size c A1 D1) (h8 : -128 ≤ c.st) (h9 : c.st ≤ 127) (hk : x.k = 4) :
    Calls Tryd.prog 22 #[(.agg #[.int .i8 c.st, .int .i64 c.pid, .int .i64 c.ep, .int .i64 c.tm, .int .i64 c.th, .slice A1 c.ps.length c1, .slice D1 c.qs.length e1, .int .i64 c.ag]), (.agg #[.int .i64 x.k, .int .i64 x.a, .int .i64 x.b, .int .i64 x.p.1, .int .i64 x.p.2.1, .int .i64 x.p.2.2, .bool x.yes, .slice L1 x.l.length m1])] w (MvP c A1 D1 (compC c) (chkE c 3 true) w) := by
  obtain ⟨W0, hW0⟩ : ∃ W0, W0 = ((w.alloc (.cells #[.int .i8 c.st, .int .i64 c.pid, .int .i64 c.ep, .int .i64 c.tm, .int .i64 c.th, .slice A1 c.ps.length c1, .slice D1 c.qs.length e1, .int .i64 c.ag] 26)).alloc (.cells #[.int .i64 x.k, .int .i64 x.a, .int .i64 x.b, .int .i64 x.p.1, .int .i64 x.p.2.1, .int .i64 x.p.2.2, .bool x.yes, .slice L1 x.l.length m1] 40)).alloc (.cells #[.int .i8 0, .int .i64 0, .int .i64 0, .int .i64 0, .int .i64 0, .slice none 0 0, .slice none 0 0, .int .i64 0] 26) := ⟨_, rfl⟩
  have s0 : W0.heap.size = w.heap.size + 1 + 1 + 1 := by rw [hW0]; simp
  have B0 : Below w.heap.size w W0 := by rw [hW0]; exact bal (bal (bal (Below.refl _ _) _) _) _
  have K1 : Blk W0 w.heap.size 26 #[.int .i8 c.st, .int .i64 c.pid, .int .i64 c.ep, .int .i64 c.tm, .int .i64 c.th, .slice A1 c.ps.length c1, .slice D1 c.qs.length e1, .int .i64 c.ag] := by rw [hW0]; exact ((Blk.new w 26 #[.int .i8 c.st, .int .i64 c.pid, .int .i64 c.ep, .int .i64 c.tm, .int .i64 c.th, .slice A1 c.ps.length c1, .slice D1 c.qs.length e1, .int .i64 c.ag]).alloc _).alloc _
  have K2 : Blk W0 (w.heap.size + 1) 40 #[.int .i64 x.k, .int .i64 x.a, .int .i64 x.b, .int .i64 x.p.1, .int .i64 x.p.2.1, .int .i64 x.p.2.2, .bool x.yes, .slice L1 x.l.length m1] := by rw [hW0]; exact (bk_new _ 40 #[.int .i64 x.k, .int .i64 x.a, .int .i64 x.b, .int .i64 x.p.1, .int .i64 x.p.2.1, .int .i64 x.p.2.2, .bool x.yes, .slice L1 x.l.length m1] (by simp)).alloc _
  have K3 : Blk W0 (w.heap.size + 1 + 1) 26 #[.int .i8 0, .int .i64 0, .int .i64 0, .int .i64 0, .int .i64 0, .slice none 0 0, .slice none 0 0, .int .i64 0] := by rw [hW0]; exact bk_new _ 26 #[.int .i8 0, .int .i64 0, .int .i64 0, .int .i64 0, .int .i64 0, .slice none 0 0, .slice none 0 0, .int .i64 0] (by simp)
  have HW := Lib.hid hW0
  have HS := Lib.hid s0
  have HB := Lib.hid B0
  have HK3 := Lib.hid K3
  have H1 := Lib.hid h1
  have L0 := bk_load (P := Tryd.prog) 8 K1 rfl

  have cc0 : (x.k == 0) = false := by rw [hk]; rfl

  have cc1 : (x.k == 1) = false := by rw [hk]; rfl

  have cc2 : (x.k == 2) = false := by rw [hk]; rfl

  have cc3 : (x.k == 3) = false := by rw [hk]; rfl

  have cc4 : (x.k == 4) = true := by rw [hk]; rfl

  have x0 := K2.cell 0

  have CA := Lib.hid (rComp_any c A1 D1 c1 e1 W0 (h1.up B0) h8 h9)

  clear hW0 s0 B0 K1 K2 K3 h1 h8 h9 hk
  go_enter Tryd.func22, Tryd.ntmps22
  go_upto_region 1 with (fail)
  rw [← HW.out]
  go_wp2_with fail
  refine CA.out.mono ?_

  rintro e w1 ⟨A5, D5, c5, e5, rfl, r5, b5, of⟩

  obtain ⟨W2, st, kk, fb, fh, fs⟩ := bk_store (P := Tryd.prog) (ty := 26) (cs := #[.int .i8 (compC c).st, .int .i64 (compC c).pid, .int .i64 (compC c).ep, .int .i64 (compC c).tm, .int .i64 (compC c).th, .slice A5 (compC c).ps.length c5, .slice D5 (compC c).qs.length e5, .int .i64 (compC c).ag]) 8 (HK3.out.below b5 (by have := HS.out; omega)) infoCo rfl rfl (by simp [Value.oneCell'])
  have BB := Lib.hid (fb w.heap.size w (by omega) (HB.out.trans (b5.mono HB.out.size)))
  have KK := Lib.hid kk
  have off := of (w.heap.size + 1 + 1) (by have := HS.out; omega) (H1.out.1.offB (by omega)) (H1.out.2.1.offB (by omega))
  have RR := Lib.hid (r5.holdOff off.1 off.2 fh fs)
  have OFF := Lib.hid (fun (b : Nat) (hb : b < w.heap.size) (o1 : OffB b c.ps.length A1) (o2 : OffB b c.qs.length D1) => of b (by have := HS.out; omega) o1 o2)

  clear kk fb fh fs r5 b5 of off 
  go_wp2_with fail
  refine bodyPost_ret (v := .tuple #[(.agg #[.int .i8 (compC c).st, .int .i64 (compC c).pid, .int .i64 (compC c).ep, .int .i64 (compC c).tm, .int .i64 (compC c).th, .slice A5 (compC c).ps.length c5, .slice D5 (compC c).qs.length e5, .int .i64 (compC c).ag]), .int .i64 (chkE c 3 true)]) (told_ret (compC c) A5 D5 c5 e5 _ _ (w.heap.size + 1 + 1) _ rfl rfl KK.out) rfl ?_
  exact ⟨A5, D5, c5, e5, rfl, RR.out, BB.out, OFF.out⟩

set_option maxRecDepth 100000 in
set_option maxHeartbeats 2000000 in
theorem told_5 (c : Co) (A1 D1 : Option Addr) (c1 e1 : Nat) (x : Mv) (L1 : Option Addr) (m1 : Nat) (w : World) (h1 : CoR w w.heap.size c A1 D1) (h8 : -128 ≤ c.st) (h9 : c.st ≤ 127) (hk : x.k = 5) :
    Calls Tryd.prog 22 #[(.agg #[.int .i8 c.st, .int .i64 c.pid, .int .i64 c.ep, .int .i64 c.tm, .int .i64 c.th, .slice A1 c.ps.length c1, .slice D1 c.qs.length e1, .int .i64 c.ag]), (.agg #[.int .i64 x.k, .int .i64 x.a, .int .i64 x.b, .int .i64 x.p.1, .int .i64 x.p.2.1, .int .i64 x.p.2.2, .bool x.yes, .slice L1 x.l.length m1])] w (MvP c A1 D1 (tickC c) (0) w) := by
  obtain ⟨W0, hW0⟩ : ∃ W0, W0 = ((w.alloc (.cells #[.int .i8 c.st, .int .i64 c.pid, .int .i64 c.ep, .int .i64 c.tm, .int .i64 c.th, .slice A1 c.ps.length c1, .slice D1 c.qs.length e1, .int .i64 c.ag] 26)).alloc (.cells #[.int .i64 x.k, .int .i64 x.a, .int .i64 x.b, .int .i64 x.p.1, .int .i64 x.p.2.1, .int .i64 x.p.2.2, .bool x.yes, .slice L1 x.l.length m1] 40)).alloc (.cells #[.int .i8 0, .int .i64 0, .int .i64 0, .int .i64 0, .int .i64 0, .slice none 0 0, .slice none 0 0, .int .i64 0] 26) := ⟨_, rfl⟩
  have s0 : W0.heap.size = w.heap.size + 1 + 1 + 1 := by rw [hW0]; simp
  have B0 : Below w.heap.size w W0 := by rw [hW0]; exact bal (bal (bal (Below.refl _ _) _) _) _
  have K1 : Blk W0 w.heap.size 26 #[.int .i8 c.st, .int .i64 c.pid, .int .i64 c.ep, .int .i64 c.tm, .int .i64 c.th, .slice A1 c.ps.length c1, .slice D1 c.qs.length e1, .int .i64 c.ag] := by rw [hW0]; exact ((Blk.new w 26 #[.int .i8 c.st, .int .i64 c.pid, .int .i64 c.ep, .int .i64 c.tm, .int .i64 c.th, .slice A1 c.ps.length c1, .slice D1 c.qs.length e1, .int .i64 c.ag]).alloc _).alloc _
  have K2 : Blk W0 (w.heap.size + 1) 40 #[.int .i64 x.k, .int .i64 x.a, .int .i64 x.b, .int .i64 x.p.1, .int .i64 x.p.2.1, .int .i64 x.p.2.2, .bool x.yes, .slice L1 x.l.length m1] := by rw [hW0]; exact (bk_new _ 40 #[.int .i64 x.k, .int .i64 x.a, .int .i64 x.b, .int .i64 x.p.1, .int .i64 x.p.2.1, .int .i64 x.p.2.2, .bool x.yes, .slice L1 x.l.length m1] (by simp)).alloc _
  have K3 : Blk W0 (w.heap.size + 1 + 1) 26 #[.int .i8 0, .int .i64 0, .int .i64 0, .int .i64 0, .int .i64 0, .slice none 0 0, .slice none 0 0, .int .i64 0] := by rw [hW0]; exact bk_new _ 26 #[.int .i8 0, .int .i64 0, .int .i64 0, .int .i64 0, .int .i64 0, .slice none 0 0, .slice none 0 0, .int .i64 0] (by simp)
  have HW := Lib.hid hW0
  have HS := Lib.hid s0
  have HB := Lib.hid B0
  have HK3 := Lib.hid K3
  have H1 := Lib.hid h1
  have L0 := bk_load (P := Tryd.prog) 8 K1 rfl

  have cc0 : (x.k == 0) = false := by rw [hk]; rfl

  have cc1 : (x.k == 1) = false := by rw [hk]; rfl

  have cc2 : (x.k == 2) = false := by rw [hk]; rfl

  have cc3 : (x.k == 3) = false := by rw [hk]; rfl

  have cc4 : (x.k == 4) = false := by rw [hk]; rfl

  have cc5 : (x.k == 5) = true := by rw [hk]; rfl

  have x0 := K2.cell 0

  have CA := Lib.hid (rTick_any c A1 D1 c1 e1 W0 (h1.up B0) h8 h9)

  clear hW0 s0 B0 K1 K2 K3 h1 h8 h9 hk
  go_enter Tryd.func22, Tryd.ntmps22
  go_upto_region 1 with (fail)
  rw [← HW.out]
  go_wp2_with fail
  refine CA.out.mono ?_

  rintro e w1 ⟨A5, D5, c5, e5, rfl, r5, b5, hnew⟩
  have of : ∀ b, b < W0.heap.size → OffB b c.ps.length A1 → OffB b c.qs.length D1 → OffB b (tickC c).ps.length A5 ∧ OffB b (tickC c).qs.length D5 := fun b hb o1 o2 => by
    rcases hnew with ⟨rfl, rfl⟩ | ⟨na, nd⟩
    · have hn1 : (tickC c).ps = c.ps := by unfold tickC; split <;> rfl
      have hn2 : (tickC c).qs = c.qs := by unfold tickC; split <;> rfl
      rw [hn1, hn2]; exact ⟨o1, o2⟩
    · exact ⟨na.off hb, nd.off hb⟩
  have r5 : CoR w1 w1.heap.size (tickC c) A5 D5 := by
    rcases hnew with ⟨rfl, rfl⟩ | ⟨na, nd⟩
    · have hn1 : (tickC c).ps = c.ps := by unfold tickC; split <;> rfl
      have hn2 : (tickC c).qs = c.qs := by unfold tickC; split <;> rfl
      have hh := (H1.out.up HB.out).up b5
      exact ⟨by rw [hn1]; exact hh.1, by rw [hn2]; exact hh.2.1, by rw [hn1]; exact hh.2.2.1, by rw [hn2]; exact hh.2.2.2⟩
    · exact r5

  obtain ⟨W2, st, kk, fb, fh, fs⟩ := bk_store (P := Tryd.prog) (ty := 26) (cs := #[.int .i8 (tickC c).st, .int .i64 (tickC c).pid, .int .i64 (tickC c).ep, .int .i64 (tickC c).tm, .int .i64 (tickC c).th, .slice A5 (tickC c).ps.length c5, .slice D5 (tickC c).qs.length e5, .int .i64 (tickC c).ag]) 8 (HK3.out.below b5 (by have := HS.out; omega)) infoCo rfl rfl (by simp [Value.oneCell'])
  have BB := Lib.hid (fb w.heap.size w (by omega) (HB.out.trans (b5.mono HB.out.size)))
  have KK := Lib.hid kk
  have off := of (w.heap.size + 1 + 1) (by have := HS.out; omega) (H1.out.1.offB (by omega)) (H1.out.2.1.offB (by omega))
  have RR := Lib.hid (r5.holdOff off.1 off.2 fh fs)
  have OFF := Lib.hid (fun (b : Nat) (hb : b < w.heap.size) (o1 : OffB b c.ps.length A1) (o2 : OffB b c.qs.length D1) => of b (by have := HS.out; omega) o1 o2)

  clear kk fb fh fs r5 b5 of off hnew
  go_wp2_with fail
  refine bodyPost_ret (v := .tuple #[(.agg #[.int .i8 (tickC c).st, .int .i64 (tickC c).pid, .int .i64 (tickC c).ep, .int .i64 (tickC c).tm, .int .i64 (tickC c).th, .slice A5 (tickC c).ps.length c5, .slice D5 (tickC c).qs.length e5, .int .i64 (tickC c).ag]), .int .i64 (0)]) (told_ret (tickC c) A5 D5 c5 e5 _ _ (w.heap.size + 1 + 1) _ rfl rfl KK.out) rfl ?_
  exact ⟨A5, D5, c5, e5, rfl, RR.out, BB.out, OFF.out⟩

set_option maxRecDepth 100000 in
set_option maxHeartbeats 2000000 in
theorem told_6 (c : Co) (A1 D1 : Option Addr) (c1 e1 : Nat) (x : Mv) (L1 : Option Addr) (m1 : Nat) (w : World) (h1 : CoR w w.heap.size c A1 D1) (h8 : -128 ≤ c.st) (h9 : c.st ≤ 127) (hl : Reads w w.heap.size 1 L1 x.l.length (cellsI .i64 x.l)) (hll : x.l.length ≤ 1000) (n0 : ¬ x.k = 0) (n1 : ¬ x.k = 1) (n2 : ¬ x.k = 2) (n3 : ¬ x.k = 3) (n4 : ¬ x.k = 4) (n5 : ¬ x.k = 5) :
    Calls Tryd.prog 22 #[(.agg #[.int .i8 c.st, .int .i64 c.pid, .int .i64 c.ep, .int .i64 c.tm, .int .i64 c.th, .slice A1 c.ps.length c1, .slice D1 c.qs.length e1, .int .i64 c.ag]), (.agg #[.int .i64 x.k, .int .i64 x.a, .int .i64 x.b, .int .i64 x.p.1, .int .i64 x.p.2.1, .int .i64 x.p.2.2, .bool x.yes, .slice L1 x.l.length m1])] w (MvP c A1 D1 (placeC c x.l) (placeE c x.l) w) := by
  obtain ⟨W0, hW0⟩ : ∃ W0, W0 = ((w.alloc (.cells #[.int .i8 c.st, .int .i64 c.pid, .int .i64 c.ep, .int .i64 c.tm, .int .i64 c.th, .slice A1 c.ps.length c1, .slice D1 c.qs.length e1, .int .i64 c.ag] 26)).alloc (.cells #[.int .i64 x.k, .int .i64 x.a, .int .i64 x.b, .int .i64 x.p.1, .int .i64 x.p.2.1, .int .i64 x.p.2.2, .bool x.yes, .slice L1 x.l.length m1] 40)).alloc (.cells #[.int .i8 0, .int .i64 0, .int .i64 0, .int .i64 0, .int .i64 0, .slice none 0 0, .slice none 0 0, .int .i64 0] 26) := ⟨_, rfl⟩
  have s0 : W0.heap.size = w.heap.size + 1 + 1 + 1 := by rw [hW0]; simp
  have B0 : Below w.heap.size w W0 := by rw [hW0]; exact bal (bal (bal (Below.refl _ _) _) _) _
  have K1 : Blk W0 w.heap.size 26 #[.int .i8 c.st, .int .i64 c.pid, .int .i64 c.ep, .int .i64 c.tm, .int .i64 c.th, .slice A1 c.ps.length c1, .slice D1 c.qs.length e1, .int .i64 c.ag] := by rw [hW0]; exact ((Blk.new w 26 #[.int .i8 c.st, .int .i64 c.pid, .int .i64 c.ep, .int .i64 c.tm, .int .i64 c.th, .slice A1 c.ps.length c1, .slice D1 c.qs.length e1, .int .i64 c.ag]).alloc _).alloc _
  have K2 : Blk W0 (w.heap.size + 1) 40 #[.int .i64 x.k, .int .i64 x.a, .int .i64 x.b, .int .i64 x.p.1, .int .i64 x.p.2.1, .int .i64 x.p.2.2, .bool x.yes, .slice L1 x.l.length m1] := by rw [hW0]; exact (bk_new _ 40 #[.int .i64 x.k, .int .i64 x.a, .int .i64 x.b, .int .i64 x.p.1, .int .i64 x.p.2.1, .int .i64 x.p.2.2, .bool x.yes, .slice L1 x.l.length m1] (by simp)).alloc _
  have K3 : Blk W0 (w.heap.size + 1 + 1) 26 #[.int .i8 0, .int .i64 0, .int .i64 0, .int .i64 0, .int .i64 0, .slice none 0 0, .slice none 0 0, .int .i64 0] := by rw [hW0]; exact bk_new _ 26 #[.int .i8 0, .int .i64 0, .int .i64 0, .int .i64 0, .int .i64 0, .slice none 0 0, .slice none 0 0, .int .i64 0] (by simp)
  have HW := Lib.hid hW0
  have HS := Lib.hid s0
  have HB := Lib.hid B0
  have HK3 := Lib.hid K3
  have H1 := Lib.hid h1
  have L0 := bk_load (P := Tryd.prog) 8 K1 rfl

  have cc0 : (x.k == 0) = false := by simpa using n0

  have cc1 : (x.k == 1) = false := by simpa using n1

  have cc2 : (x.k == 2) = false := by simpa using n2

  have cc3 : (x.k == 3) = false := by simpa using n3

  have cc4 : (x.k == 4) = false := by simpa using n4

  have cc5 : (x.k == 5) = false := by simpa using n5

  have x0 := K2.cell 0

  have x7 := K2.cell 7

  have CA := Lib.hid (rPlace_any c A1 D1 c1 e1 x.l L1 m1 W0 (h1.up B0) h8 h9 ((hl.below B0).more B0.size) hll)

  clear hW0 s0 B0 K1 K2 K3 h1 h8 h9 hl hll n0 n1 n2 n3 n4 n5
  go_enter Tryd.func22, Tryd.ntmps22
  go_upto_region 1 with (fail)
  rw [← HW.out]
  go_wp2_with fail
  refine CA.out.mono ?_

  rintro e w1 ⟨A5, D5, c5, e5, rfl, r5, b5, of⟩

  obtain ⟨W2, st, kk, fb, fh, fs⟩ := bk_store (P := Tryd.prog) (ty := 26) (cs := #[.int .i8 (placeC c x.l).st, .int .i64 (placeC c x.l).pid, .int .i64 (placeC c x.l).ep, .int .i64 (placeC c x.l).tm, .int .i64 (placeC c x.l).th, .slice A5 (placeC c x.l).ps.length c5, .slice D5 (placeC c x.l).qs.length e5, .int .i64 (placeC c x.l).ag]) 8 (HK3.out.below b5 (by have := HS.out; omega)) infoCo rfl rfl (by simp [Value.oneCell'])
  have BB := Lib.hid (fb w.heap.size w (by omega) (HB.out.trans (b5.mono HB.out.size)))
  have KK := Lib.hid kk
  have off := of (w.heap.size + 1 + 1) (by have := HS.out; omega) (H1.out.1.offB (by omega)) (H1.out.2.1.offB (by omega))
  have RR := Lib.hid (r5.holdOff off.1 off.2 fh fs)
  have OFF := Lib.hid (fun (b : Nat) (hb : b < w.heap.size) (o1 : OffB b c.ps.length A1) (o2 : OffB b c.qs.length D1) => of b (by have := HS.out; omega) o1 o2)

  clear kk fb fh fs r5 b5 of off 
  go_wp2_with fail
  refine bodyPost_ret (v := .tuple #[(.agg #[.int .i8 (placeC c x.l).st, .int .i64 (placeC c x.l).pid, .int .i64 (placeC c x.l).ep, .int .i64 (placeC c x.l).tm, .int .i64 (placeC c x.l).th, .slice A5 (placeC c x.l).ps.length c5, .slice D5 (placeC c x.l).qs.length e5, .int .i64 (placeC c x.l).ag]), .int .i64 (placeE c x.l)]) (told_ret (placeC c x.l) A5 D5 c5 e5 _ _ (w.heap.size + 1 + 1) _ rfl rfl KK.out) rfl ?_
  exact ⟨A5, D5, c5, e5, rfl, RR.out, BB.out, OFF.out⟩

end
theorem told_any (c : Co) (A1 D1 : Option Addr) (c1 e1 : Nat) (x : Mv) (L1 : Option Addr) (m1 : Nat) (w : World) (h1 : CoR w w.heap.size c A1 D1) (h8 : -128 ≤ c.st) (h9 : c.st ≤ 127) (hl : Reads w w.heap.size 1 L1 x.l.length (cellsI .i64 x.l)) (hll : x.l.length ≤ 1000) :
    Calls Tryd.prog 22 #[(.agg #[.int .i8 c.st, .int .i64 c.pid, .int .i64 c.ep, .int .i64 c.tm, .int .i64 c.th, .slice A1 c.ps.length c1, .slice D1 c.qs.length e1, .int .i64 c.ag]), (.agg #[.int .i64 x.k, .int .i64 x.a, .int .i64 x.b, .int .i64 x.p.1, .int .i64 x.p.2.1, .int .i64 x.p.2.2, .bool x.yes, .slice L1 x.l.length m1])] w (MvP c A1 D1 (mvC c x) (mvE c x) w) := by
  unfold mvC mvE
  by_cases h0 : x.k = 0
  · rw [if_pos h0, if_pos h0]; exact told_0 c A1 D1 c1 e1 x L1 m1 w h1 h8 h9 h0
  rw [if_neg h0, if_neg h0]
  by_cases h1' : x.k = 1
  · rw [if_pos h1', if_pos h1']; exact told_1 c A1 D1 c1 e1 x L1 m1 w h1 h8 h9 h1'
  rw [if_neg h1', if_neg h1']
  by_cases h2 : x.k = 2
  · rw [if_pos h2, if_pos h2]; exact told_2 c A1 D1 c1 e1 x L1 m1 w h1 h8 h9 h2
  rw [if_neg h2, if_neg h2]
  by_cases h3 : x.k = 3
  · rw [if_pos h3, if_pos h3]; exact told_3 c A1 D1 c1 e1 x L1 m1 w h1 h8 h9 h3
  rw [if_neg h3, if_neg h3]
  by_cases h4 : x.k = 4
  · rw [if_pos h4, if_pos h4]; exact told_4 c A1 D1 c1 e1 x L1 m1 w h1 h8 h9 h4
  rw [if_neg h4, if_neg h4]
  by_cases h5 : x.k = 5
  · rw [if_pos h5, if_pos h5]; exact told_5 c A1 D1 c1 e1 x L1 m1 w h1 h8 h9 h5
  rw [if_neg h5, if_neg h5]
  exact told_6 c A1 D1 c1 e1 x L1 m1 w h1 h8 h9 hl hll h0 h1' h2 h3 h4 h5
end Go.Proofs.YtagclnmchkgpdaaDoor
namespace Go.Proofs.YtagclnmchkgpdaaDoor
open Go.RowKit

/-- The lists of a transactional id, however long. -/
def CoRaw (w : World) (c : Co) (A D : Option Addr) : Prop :=
  Reads w w.heap.size 1 A c.ps.length (cellsI .i64 c.ps) ∧ Reads w w.heap.size 3 D c.qs.length (cellsP c.qs) ∧ -128 ≤ c.st ∧ c.st ≤ 127
theorem CoRaw.small {w : World} {c : Co} {A D : Option Addr} (h : CoRaw w c A D) (hb : bigB c = false) : CoR w w.heap.size c A D := by
  unfold bigB at hb
  simp only [Bool.or_eq_false_iff, decide_eq_false_iff_not] at hb
  exact ⟨h.1, h.2.1, by omega, by omega⟩

set_option maxRecDepth 100000 in
set_option maxHeartbeats 1000000 in
theorem tell_big (c d : Co) (A1 D1 : Option Addr) (c1 e1 : Nat) (A2 D2 : Option Addr) (c2 e2 : Nat) (yes : Bool) (x : Int) (w : World) (hg : HasET w) (hbig : bigB c = true ∨ (bigB c = false ∧ bigB d = true)) :
    Calls Tryd.prog 3 #[(.agg #[.int .i8 c.st, .int .i64 c.pid, .int .i64 c.ep, .int .i64 c.tm, .int .i64 c.th, .slice A1 c.ps.length c1, .slice D1 c.qs.length e1, .int .i64 c.ag]), (.agg #[.int .i8 d.st, .int .i64 d.pid, .int .i64 d.ep, .int .i64 d.tm, .int .i64 d.th, .slice A2 d.ps.length c2, .slice D2 d.qs.length e2, .int .i64 d.ag]), .bool yes, .int .i64 x] w fun e w' => e = .returned (.bool true) ∧ Below w.heap.size w w' := by
  have HB := Lib.hid (bal (bal (Below.refl w.heap.size w) (.cells #[.int .i8 c.st, .int .i64 c.pid, .int .i64 c.ep, .int .i64 c.tm, .int .i64 c.th, .slice A1 c.ps.length c1, .slice D1 c.qs.length e1, .int .i64 c.ag] 26)) (.cells #[.int .i8 d.st, .int .i64 d.pid, .int .i64 d.ep, .int .i64 d.tm, .int .i64 d.th, .slice A2 d.ps.length c2, .slice D2 d.qs.length e2, .int .i64 d.ag] 26))
  have kk := Blk.new (w.alloc (.cells #[.int .i8 c.st, .int .i64 c.pid, .int .i64 c.ep, .int .i64 c.tm, .int .i64 c.th, .slice A1 c.ps.length c1, .slice D1 c.qs.length e1, .int .i64 c.ag] 26)) 26 #[.int .i8 d.st, .int .i64 d.pid, .int .i64 d.ep, .int .i64 d.tm, .int .i64 d.th, .slice A2 d.ps.length c2, .slice D2 d.qs.length e2, .int .i64 d.ag]
  rw [World.size_alloc] at kk
  have K2 := Lib.hid kk
  have G1 := Lib.hid (fun W => Great_any c A1 D1 c1 e1 W)
  have G2 := Lib.hid (fun W => Great_any d A2 D2 c2 e2 W)
  have HWK := Lib.hid (fun W (h : HasET W) => wakes_any W h)
  have HG := Lib.hid hg
  clear kk hg
  rcases hbig with h1 | ⟨h1, h2⟩
  · rw [h1] at G1
    clear h1
    go_enter Tryd.func3, Tryd.ntmps3
    go_wp2_with fail
    refine (G1.out _).mono ?_
    rintro e w1 ⟨rfl, b1⟩
    have bf := btrans HB.out b1
    go_wp2_with fail
    refine (HWK.out _ (HG.out.up bf)).mono ?_
    rintro e w2 ⟨rfl, b2⟩
    go_wp2_with fail
    go_ret
    exact ⟨rfl, btrans bf b2⟩
  · rw [h1] at G1
    rw [h2] at G2
    clear h1 h2
    go_enter Tryd.func3, Tryd.ntmps3
    go_wp2_with fail
    refine (G1.out _).mono ?_
    rintro e w1 ⟨rfl, b1⟩
    have bf := btrans HB.out b1
    have hz := b1.size
    simp only [World.size_alloc] at hz
    have k6 := K2.out.below b1 (by simp only [World.size_alloc]; omega)
    have y0 := k6.cell 0
    have y1 := k6.cell 1
    have y2 := k6.cell 2
    have y3 := k6.cell 3
    have y4 := k6.cell 4
    have y5 := k6.cell 5
    have y6 := k6.cell 6
    have y7 := k6.cell 7
    go_wp2_with fail
    refine (G2.out _).mono ?_
    rintro e w2 ⟨rfl, b2⟩
    have bg := btrans bf b2
    go_wp2_with fail
    refine (HWK.out _ (HG.out.up bg)).mono ?_
    rintro e w3 ⟨rfl, b3⟩
    go_wp2_with fail
    go_ret
    exact ⟨rfl, btrans bg b3⟩

set_option maxRecDepth 100000 in
set_option maxHeartbeats 2000000 in
theorem tell_ok (c d : Co) (A1 D1 : Option Addr) (c1 e1 : Nat) (A2 D2 : Option Addr) (c2 e2 : Nat) (yes : Bool) (x : Int) (w : World) (hg : HasET w) (h1 : CoR w w.heap.size c A1 D1) (h2 : CoR w w.heap.size d A2 D2) (s1 : -128 ≤ c.st) (s2 : c.st ≤ 127) (n1 : bigB c = false) (n2 : bigB d = false) :
    Calls Tryd.prog 3 #[(.agg #[.int .i8 c.st, .int .i64 c.pid, .int .i64 c.ep, .int .i64 c.tm, .int .i64 c.th, .slice A1 c.ps.length c1, .slice D1 c.qs.length e1, .int .i64 c.ag]), (.agg #[.int .i8 d.st, .int .i64 d.pid, .int .i64 d.ep, .int .i64 d.tm, .int .i64 d.th, .slice A2 d.ps.length c2, .slice D2 d.qs.length e2, .int .i64 d.ag]), .bool yes, .int .i64 x] w fun e w' => e = .returned (.bool true) ∧ Below w.heap.size w w' := by
  have HB := Lib.hid (bal (bal (Below.refl w.heap.size w) (.cells #[.int .i8 c.st, .int .i64 c.pid, .int .i64 c.ep, .int .i64 c.tm, .int .i64 c.th, .slice A1 c.ps.length c1, .slice D1 c.qs.length e1, .int .i64 c.ag] 26)) (.cells #[.int .i8 d.st, .int .i64 d.pid, .int .i64 d.ep, .int .i64 d.tm, .int .i64 d.th, .slice A2 d.ps.length c2, .slice D2 d.qs.length e2, .int .i64 d.ag] 26))
  have K1 := Lib.hid ((Blk.new w 26 #[.int .i8 c.st, .int .i64 c.pid, .int .i64 c.ep, .int .i64 c.tm, .int .i64 c.th, .slice A1 c.ps.length c1, .slice D1 c.qs.length e1, .int .i64 c.ag]).alloc (.cells #[.int .i8 d.st, .int .i64 d.pid, .int .i64 d.ep, .int .i64 d.tm, .int .i64 d.th, .slice A2 d.ps.length c2, .slice D2 d.qs.length e2, .int .i64 d.ag] 26))
  have kk := Blk.new (w.alloc (.cells #[.int .i8 c.st, .int .i64 c.pid, .int .i64 c.ep, .int .i64 c.tm, .int .i64 c.th, .slice A1 c.ps.length c1, .slice D1 c.qs.length e1, .int .i64 c.ag] 26)) 26 #[.int .i8 d.st, .int .i64 d.pid, .int .i64 d.ep, .int .i64 d.tm, .int .i64 d.th, .slice A2 d.ps.length c2, .slice D2 d.qs.length e2, .int .i64 d.ag]
  rw [World.size_alloc] at kk
  have K2 := Lib.hid kk
  have g1 := fun W => Great_any c A1 D1 c1 e1 W
  have g2 := fun W => Great_any d A2 D2 c2 e2 W
  rw [n1] at g1
  rw [n2] at g2
  have G1 := Lib.hid g1
  have G2 := Lib.hid g2
  have HWK := Lib.hid (fun W (h : Below w.heap.size w W) => wakes_any W (hg.up h))
  have M1 := Lib.hid (fun W (h : Below w.heap.size w W) => May_any c A1 D1 c1 e1 w.heap.size W (h1.below h) h.size)
  have M2 := Lib.hid (fun W (h : Below w.heap.size w W) => rMay_any c A1 D1 c1 e1 w.heap.size W (h1.below h) h.size s1 s2)
  have U1 := Lib.hid (fun W => Due_any c A1 D1 c1 e1 W)
  have U2 := Lib.hid (fun W => rDue_any c A1 D1 c1 e1 W)
  have E1 := Lib.hid (fun W => Ended_any c A1 D1 c1 e1 yes W)
  have E2 := Lib.hid (fun W => rEnded_any c A1 D1 c1 e1 yes W)
  have H1 := Lib.hid (fun W (h : Below w.heap.size w W) => Has_any c A1 D1 c1 e1 x w.heap.size W (h1.below h) h.size)
  have H2 := Lib.hid (fun W (h : Below w.heap.size w W) => rHas_any c A1 D1 c1 e1 x w.heap.size W (h1.below h) h.size)
  have S1 := Lib.hid (fun W (h : Below w.heap.size w W) => Same_any c d A1 D1 c1 e1 A2 D2 c2 e2 w.heap.size w.heap.size W (h1.below h) (h2.below h) h.size h.size)
  have S2 := Lib.hid (fun W (h : Below w.heap.size w W) => rSame_any c d A1 D1 c1 e1 A2 D2 c2 e2 w.heap.size w.heap.size W (h1.below h) (h2.below h) h.size h.size)
  generalize mayB c = q1 at *
  generalize dueB c = q2 at *
  generalize endedB c yes = q3 at *
  generalize decide (x ∈ c.ps) = q4 at *
  generalize sameB c d = q5 at *
  clear kk hg h1 h2 n1 n2 g1 g2
  go_enter Tryd.func3, Tryd.ntmps3
  go_wp2_with fail
  refine (G1.out _).mono ?_
  rintro e w1 ⟨rfl, b1⟩
  have bf := btrans HB.out b1
  have hz := b1.size
  simp only [World.size_alloc] at hz
  have k5 := K1.out.below b1 (by simp only [World.size_alloc]; omega)
  have k6 := K2.out.below b1 (by simp only [World.size_alloc]; omega)
  have x0 := k5.cell 0
  have x1 := k5.cell 1
  have x2 := k5.cell 2
  have x3 := k5.cell 3
  have x4 := k5.cell 4
  have x5 := k5.cell 5
  have x6 := k5.cell 6
  have x7 := k5.cell 7
  have y0 := k6.cell 0
  have y1 := k6.cell 1
  have y2 := k6.cell 2
  have y3 := k6.cell 3
  have y4 := k6.cell 4
  have y5 := k6.cell 5
  have y6 := k6.cell 6
  have y7 := k6.cell 7
  go_wp2_with fail
  refine (G2.out _).mono ?_
  rintro e w2 ⟨rfl, b2⟩
  have bg := btrans bf b2
  have k7 := k5.below b2 (by omega)
  have k8 := k6.below b2 (by omega)
  have hz2 := b2.size
  have hl1 : w.heap.size < w2.heap.size := by omega
  have hl2 : w.heap.size + 1 < w2.heap.size := by omega
  have p0 := bw_cell (B := w2.heap.size) (k7.cell 0) hl1
  have r0 := bw_cell (B := w2.heap.size) (k8.cell 0) hl2
  have p1 := bw_cell (B := w2.heap.size) (k7.cell 1) hl1
  have r1 := bw_cell (B := w2.heap.size) (k8.cell 1) hl2
  have p2 := bw_cell (B := w2.heap.size) (k7.cell 2) hl1
  have r2 := bw_cell (B := w2.heap.size) (k8.cell 2) hl2
  have p3 := bw_cell (B := w2.heap.size) (k7.cell 3) hl1
  have r3 := bw_cell (B := w2.heap.size) (k8.cell 3) hl2
  have p4 := bw_cell (B := w2.heap.size) (k7.cell 4) hl1
  have r4 := bw_cell (B := w2.heap.size) (k8.cell 4) hl2
  have p5 := bw_cell (B := w2.heap.size) (k7.cell 5) hl1
  have r5 := bw_cell (B := w2.heap.size) (k8.cell 5) hl2
  have p6 := bw_cell (B := w2.heap.size) (k7.cell 6) hl1
  have r6 := bw_cell (B := w2.heap.size) (k8.cell 6) hl2
  have p7 := bw_cell (B := w2.heap.size) (k7.cell 7) hl1
  have r7 := bw_cell (B := w2.heap.size) (k8.cell 7) hl2
  have HBN := Lib.hid (fun n : BW w2.heap.size w2 => btrans bg n.2)
  clear x0 y0 x1 y1 x2 y2 x3 y3 x4 y4 x5 y5 x6 y6 x7 y7
  go_wp2_with fail
  refine wp_region_bq w2.heap.size (by kernel_rfl) (by kernel_rfl) ?_
  repeat (go_big_quiet_step ((first | (go_at_call 10; exact bw_call (Nat.le_refl _) (M1.out _ (HBN.out _))) | (go_at_call 11; exact bw_call (Nat.le_refl _) (M2.out _ (HBN.out _))) | (go_at_call 12; exact bw_call (Nat.le_refl _) (U1.out _)) | (go_at_call 13; exact bw_call (Nat.le_refl _) (U2.out _)) | (go_at_call 14; exact bw_call (Nat.le_refl _) (E1.out _)) | (go_at_call 15; exact bw_call (Nat.le_refl _) (E2.out _)) | (go_at_call 16; exact bw_call (Nat.le_refl _) (H1.out _ (HBN.out _))) | (go_at_call 17; exact bw_call (Nat.le_refl _) (H2.out _ (HBN.out _))) | (go_at_call 18; exact bw_call (Nat.le_refl _) (S1.out _ (HBN.out _))) | (go_at_call 19; exact bw_call (Nat.le_refl _) (S2.out _ (HBN.out _))) | (go_at_call 9; exact bw_call (Nat.le_refl _) (HWK.out _ (HBN.out _))))))
  refine wpQuiet_nil ?_
  rintro _ ⟨n, rfl⟩
  have hn := HBN.out n
  go_wp2_with fail
  go_ret
  exact ⟨rfl, hn⟩

theorem tell_walk (c d : Co) (A1 D1 : Option Addr) (c1 e1 : Nat) (A2 D2 : Option Addr) (c2 e2 : Nat) (yes : Bool) (x : Int) (w : World) (hg : HasET w) (h1 : CoRaw w c A1 D1) (h2 : CoRaw w d A2 D2) :
    Calls Tryd.prog 3 #[(.agg #[.int .i8 c.st, .int .i64 c.pid, .int .i64 c.ep, .int .i64 c.tm, .int .i64 c.th, .slice A1 c.ps.length c1, .slice D1 c.qs.length e1, .int .i64 c.ag]), (.agg #[.int .i8 d.st, .int .i64 d.pid, .int .i64 d.ep, .int .i64 d.tm, .int .i64 d.th, .slice A2 d.ps.length c2, .slice D2 d.qs.length e2, .int .i64 d.ag]), .bool yes, .int .i64 x] w fun e w' => e = .returned (.bool true) ∧ Below w.heap.size w w' := by
  cases n1 : bigB c
  · cases n2 : bigB d
    · exact tell_ok c d A1 D1 c1 e1 A2 D2 c2 e2 yes x w hg (h1.small n1) (h2.small n2) h1.2.2.1 h1.2.2.2 n1 n2
    · exact tell_big c d A1 D1 c1 e1 A2 D2 c2 e2 yes x w hg (.inr ⟨n1, n2⟩)
  · exact tell_big c d A1 D1 c1 e1 A2 D2 c2 e2 yes x w hg (.inl n1)
end Go.Proofs.YtagclnmchkgpdaaDoor
namespace Go.Proofs.YtagclnmchkgpdaaDoor
open Go.Joins Go.ChangeShapes Go.WideShapes Go.RowKit Go.Deep

section
variable {H : Type} {enc : TypeId × Value → H} {P : Program} {w : World} {base : Nat} {spare : Nat → Bool} {held : Bool}
theorem open_agg8 {r : Reach} {b0 : Nat} {t : TypeId} {f0 f1 f2 f3 f4 f5 f6 f7 : Field} {v : Value} {d : DataW H} {p : List MemPlace} (hs : P.underlying t = some (.struct #[f0, f1, f2, f3, f4, f5, f6, f7])) (hone : oneCellFields P #[f0, f1, f2, f3, f4, f5, f6, f7] = true) (hC : P.cellsOf t = 8)
    (hv : Value.okWide P w r b0 t v) (h : DataW.Trod enc P w base spare held t v d p) :
    ∃ (v0 v1 v2 v3 v4 v5 v6 v7 : Value) (y0 y1 y2 y3 y4 y5 y6 y7 : DataW H × List MemPlace) (n : Nat), v = .agg #[v0, v1, v2, v3, v4, v5, v6, v7] ∧ d = .agg [y0.1, y1.1, y2.1, y3.1, y4.1, y5.1, y6.1, y7.1] ∧ p = y0.2 ++ (y1.2 ++ (y2.2 ++ (y3.2 ++ (y4.2 ++ (y5.2 ++ (y6.2 ++ (y7.2))))))) ∧
      DataW.trod enc P w base spare held n f0.type [v0] = some y0 ∧ DataW.trod enc P w base spare held n f1.type [v1] = some y1 ∧ DataW.trod enc P w base spare held n f2.type [v2] = some y2 ∧ DataW.trod enc P w base spare held n f3.type [v3] = some y3 ∧ DataW.trod enc P w base spare held n f4.type [v4] = some y4 ∧ DataW.trod enc P w base spare held n f5.type [v5] = some y5 ∧ DataW.trod enc P w base spare held n f6.type [v6] = some y6 ∧ DataW.trod enc P w base spare held n f7.type [v7] = some y7 := by
  obtain ⟨cs, rfl, hsz⟩ := okWide_struct hs hv
  obtain ⟨l⟩ := cs
  match l, hsz.trans hC with
  | [c0, c1, c2, c3, c4, c5, c6, c7], _ =>
    obtain ⟨fuel, hf⟩ := h
    obtain ⟨xs, n, _, hx, _, hlen, hg⟩ := DataW.trod_struct hs hf
    obtain ⟨o0, k0⟩ := hone_of hone 0 f0 rfl
    obtain ⟨o1, k1⟩ := hone_of hone 1 f1 rfl
    obtain ⟨o2, k2⟩ := hone_of hone 2 f2 rfl
    obtain ⟨o3, k3⟩ := hone_of hone 3 f3 rfl
    obtain ⟨o4, k4⟩ := hone_of hone 4 f4 rfl
    obtain ⟨o5, k5⟩ := hone_of hone 5 f5 rfl
    obtain ⟨o6, k6⟩ := hone_of hone 6 f6 rfl
    obtain ⟨o7, k7⟩ := hone_of hone 7 f7 rfl
    match xs, hlen with
    | [y0, y1, y2, y3, y4, y5, y6, y7], _ =>
      simp only [Prod.mk.injEq] at hx
      exact ⟨c0, c1, c2, c3, c4, c5, c6, c7, y0, y1, y2, y3, y4, y5, y6, y7, n, rfl, by simpa using hx.1, by simpa using hx.2, by simpa [Value.cells, o0, k0] using hg 0 f0 rfl, by simpa [Value.cells, o1, k1] using hg 1 f1 rfl, by simpa [Value.cells, o2, k2] using hg 2 f2 rfl, by simpa [Value.cells, o3, k3] using hg 3 f3 rfl, by simpa [Value.cells, o4, k4] using hg 4 f4 rfl, by simpa [Value.cells, o5, k5] using hg 5 f5 rfl, by simpa [Value.cells, o6, k6] using hg 6 f6 rfl, by simpa [Value.cells, o7, k7] using hg 7 f7 rfl⟩

theorem open_slice_fields {t e : TypeId} {fs : Array Field} {fuel : Nat} {cs : List Value} {x : DataW H × List MemPlace} (ht : P.underlying t = some (.slice e)) (he : P.underlying e = some (.struct fs))
    (hone : oneCellFields P fs = true) (hC : P.cellsOf e = fs.size) (h : DataW.trod enc P w base spare held fuel t cs = some x) :
    (cs = [.slice none 0 0] ∧ x = (.nil, [])) ∨
    ∃ (a : Addr) (len cap m : Nat) (D : Nat → DataW H) (Pl : Nat → List MemPlace), cs = [.slice (some a) len cap] ∧ base ≤ a.block ∧ len ≤ cap ∧ cap ≤ maxLen ∧ m = (if spare a.block then cap else len) ∧
      x = (.slice ((List.range len).map D) ((List.range (m - len)).map fun j => D (len + j)), MemPlace.row a (m * fs.size) ++ (List.range m).flatMap Pl) ∧
      ∀ i, i < m → ∃ (ys : List (DataW H × List MemPlace)) (n : Nat), D i = .agg (ys.map (·.1)) ∧ Pl i = ys.flatMap (·.2) ∧ ys.length = fs.size ∧
        ∀ (j : Nat) (f : Field), fs[j]? = some f → ∃ (v : Value) (y : DataW H × List MemPlace), w.cell? (a.add (i * fs.size + j)) = some v ∧ ys[j]? = some y ∧ DataW.trod enc P w base spare held n f.type [v] = some y := by
  rcases open_slice ht h with h0 | ⟨a, len, cap, m, n, D, Pl, hcs, hb, hl, hm, hmm, hx, hi⟩
  · exact .inl h0
  · refine .inr ⟨a, len, cap, m, D, Pl, hcs, hb, hl, hm, hmm, by rw [hC] at hx; exact hx, fun i him => ?_⟩
    obtain ⟨cs', hc, ht'⟩ := hi i him
    rw [hC] at hc
    obtain ⟨ys, n', hn', hy, hlen, hyl, hf⟩ := DataW.trod_struct he ht'
    obtain ⟨_, hcl, hat⟩ := World.cells?_some hc
    simp only [Prod.mk.injEq] at hy
    refine ⟨ys, n', hy.1, hy.2, hyl, fun j f hj => ?_⟩
    obtain ⟨ho, hk⟩ := hone_of hone j f hj
    have hjl : j < fs.size := (Array.getElem?_eq_some_iff.1 hj).1
    have hcell := hat j hjl
    have hv : cs'[j]? = some (cs'[j]'(by omega)) := List.getElem?_eq_getElem (by omega)
    have h1 := hf j f hj
    rw [ho, hk] at h1
    have hone' : (cs'.drop j).take 1 = [cs'[j]'(by omega)] := by
      rw [List.drop_eq_getElem_cons (by omega)]
      rfl
    rw [hone'] at h1
    have hys : ys[j]? = some (ys[j]'(by omega)) := List.getElem?_eq_getElem (by omega)
    refine ⟨_, _, ?_, hys, h1.trans hys⟩
    rw [← Go.Deep.add_add, hcell, hv]
end

section
variable {H : Type} {enc : TypeId × Value → H} {W : World}
theorem cell_block {a : Addr} {k : Nat} {v : Value} (h : W.cell? (a.add k) = some v) : a.block < W.heap.size := by
  have := block_lt_of_cell h
  rwa [block_of_add] at this
theorem field_ints {fuel : Nat} {v : Value} {x : DataW H × List MemPlace} (h : DataW.trod enc Tryd.prog W 0 (fun _ => true) true fuel 23 [v] = some x) :
    ∃ (A : Option Addr) (c : Nat) (l : List Int), v = .slice A l.length c ∧ l.length ≤ c ∧ Reads W W.heap.size 1 A l.length (cellsI .i64 l) := by
  rcases open_ints Tryd.underlying23 Tryd.underlying3 (by kernel_rfl) h with ⟨hcs, _⟩ | ⟨a, len, cap, zs, hcs, _, hl, hm, hz, hx, hcell, hwz⟩
  · simp at hcs
    subst hcs
    exact ⟨none, 0, [], rfl, Nat.le_refl _, Reads.none_⟩
  · simp at hcs
    subst hcs
    simp only [if_true] at hz
    have hlen : (zs.take len).length = len := by rw [List.length_take]; omega
    refine ⟨some a, cap, zs.take len, by rw [hlen], by omega, by rw [length_cellsI]; omega, fun hn => ⟨a, rfl, cell_block (hcell 0 (by omega)), fun j u hu => ?_⟩⟩
    rw [getElem?_cellsI, Option.map_eq_some_iff] at hu
    obtain ⟨s, hs, rfl⟩ := hu
    have hj : j < len := by
      have := (List.getElem?_eq_some_iff.1 hs).1
      omega
    rw [List.getElem?_take_of_lt hj] at hs
    rw [hcell j (by omega)]
    simp [hs]
theorem cellsP_get : ∀ (l : List Pd) (j : Nat) (u : Value), (cellsP l)[j]? = some u → ∃ i k p, j = i * 3 + k ∧ k < 3 ∧ l[i]? = some p ∧ u = (if k = 0 then .int .i64 p.1 else if k = 1 then .int .i64 p.2.1 else .int .i64 p.2.2) := by
  intro l j u hu
  have hj : j < l.length * 3 := by
    have := (List.getElem?_eq_some_iff.1 hu).1
    rwa [length_cellsP] at this
  have hi : j / 3 < l.length := by omega
  obtain ⟨p, hp⟩ : ∃ p, l[j / 3]? = some p := ⟨_, List.getElem?_eq_getElem hi⟩
  obtain ⟨h0, h1, h2⟩ := cellsP_at l (j / 3) p hp
  refine ⟨j / 3, j % 3, p, by omega, by omega, hp, ?_⟩
  have hk : j % 3 = 0 ∨ j % 3 = 1 ∨ j % 3 = 2 := by omega
  rcases hk with hk | hk | hk
  · rw [show j = j / 3 * 3 by omega, h0] at hu
    rw [if_pos hk]
    exact (Option.some.inj hu).symm
  · rw [show j = j / 3 * 3 + 1 by omega, h1] at hu
    rw [if_neg (by omega), if_pos hk]
    exact (Option.some.inj hu).symm
  · rw [show j = j / 3 * 3 + 2 by omega, h2] at hu
    rw [if_neg (by omega), if_neg (by omega)]
    exact (Option.some.inj hu).symm
theorem field_pends {fuel : Nat} {v : Value} {x : DataW H × List MemPlace} (h : DataW.trod enc Tryd.prog W 0 (fun _ => true) true fuel 24 [v] = some x) :
    ∃ (A : Option Addr) (c : Nat) (l : List Pd), v = .slice A l.length c ∧ l.length ≤ c ∧ Reads W W.heap.size 3 A l.length (cellsP l) := by
  rcases open_slice_fields Tryd.underlying24 Tryd.underlying38 (by kernel_rfl) (by kernel_rfl) h with ⟨hcs, _⟩ | ⟨a, len, cap, m, D, Pl, hcs, _, hl, hm, hmm, hx, hi⟩
  · simp at hcs
    subst hcs
    exact ⟨none, 0, [], rfl, Nat.le_refl _, Reads.none_⟩
  · simp at hcs
    subst hcs
    simp only [if_true] at hmm
    subst hmm
    have hp : ∀ i, ∃ p : Pd, i < len → W.cell? (a.add (i * 3 + 0)) = some (.int .i64 p.1) ∧ W.cell? (a.add (i * 3 + 1)) = some (.int .i64 p.2.1) ∧ W.cell? (a.add (i * 3 + 2)) = some (.int .i64 p.2.2) := by
      intro i
      by_cases hlt : i < len
      · obtain ⟨ys, n, _, _, _, hf⟩ := hi i (by omega)
        obtain ⟨v0, y0, hc0, _, t0⟩ := hf 0 _ rfl
        obtain ⟨v1, y1, hc1, _, t1⟩ := hf 1 _ rfl
        obtain ⟨v2, y2, hc2, _, t2⟩ := hf 2 _ rfl
        obtain ⟨z0, e0, _, _⟩ := DataW.trod_int Tryd.underlying3 t0
        obtain ⟨z1, e1, _, _⟩ := DataW.trod_int Tryd.underlying3 t1
        obtain ⟨z2, e2, _, _⟩ := DataW.trod_int Tryd.underlying3 t2
        simp at e0 e1 e2
        subst e0; subst e1; subst e2
        exact ⟨(z0, z1, z2), fun _ => ⟨hc0, hc1, hc2⟩⟩
      · exact ⟨(0, 0, 0), fun h => absurd h hlt⟩
    refine ⟨some a, m, (List.range len).map fun i => Classical.choose (hp i), by simp, by simpa using hl, by rw [length_cellsP], fun hn => ⟨a, rfl, ?_, fun j u hu => ?_⟩⟩
    · simp at hn
      exact cell_block (Classical.choose_spec (hp 0) hn).1
    · obtain ⟨i, k, p, rfl, hk, hpi, rfl⟩ := cellsP_get _ j u hu
      rw [List.getElem?_map, Option.map_eq_some_iff] at hpi
      obtain ⟨i', hi', rfl⟩ := hpi
      have hlt : i < len := by
        have := (List.getElem?_eq_some_iff.1 hi').1
        simpa using this
      rw [List.getElem?_range hlt] at hi'
      obtain rfl : i = i' := by simpa using hi'
      obtain ⟨q0, q1, q2⟩ := Classical.choose_spec (hp i) hlt
      have hk3 : k = 0 ∨ k = 1 ∨ k = 2 := by omega
      rcases hk3 with rfl | rfl | rfl
      · exact q0
      · exact q1
      · exact q2

set_option maxRecDepth 100000 in
theorem open_co {r : Reach} {base : Nat} {v : Value} {d : DataW H} {p : List MemPlace} (hv : Value.okWide Tryd.prog W r base 26 v) (h : DataW.Trod enc Tryd.prog W 0 (fun _ => true) true 26 v d p) :
    ∃ (c : Co) (A1 D1 : Option Addr) (c1 e1 : Nat), v = (.agg #[.int .i8 c.st, .int .i64 c.pid, .int .i64 c.ep, .int .i64 c.tm, .int .i64 c.th, .slice A1 c.ps.length c1, .slice D1 c.qs.length e1, .int .i64 c.ag]) ∧ CoRaw W c A1 D1 ∧ c.ps.length ≤ c1 ∧ c.qs.length ≤ e1 := by
  obtain ⟨v0, v1, v2, v3, v4, v5, v6, v7, y0, y1, y2, y3, y4, y5, y6, y7, n, rfl, _, _, t0, t1, t2, t3, t4, t5, t6, t7⟩ := open_agg8 Tryd.underlying26 (by kernel_rfl) (by kernel_rfl) hv h
  obtain ⟨z0, e0, _, w0⟩ := DataW.trod_int Tryd.underlying22 t0
  obtain ⟨z1, e1, _, _⟩ := DataW.trod_int Tryd.underlying3 t1
  obtain ⟨z2, e2, _, _⟩ := DataW.trod_int Tryd.underlying3 t2
  obtain ⟨z3, e3, _, _⟩ := DataW.trod_int Tryd.underlying3 t3
  obtain ⟨z4, e4, _, _⟩ := DataW.trod_int Tryd.underlying3 t4
  obtain ⟨A1, c1, l1, rfl, k1, r1⟩ := field_ints t5
  obtain ⟨D1, ee1, l2, rfl, k2, r2⟩ := field_pends t6
  obtain ⟨z7, e7, _, _⟩ := DataW.trod_int Tryd.underlying3 t7
  simp at e0 e1 e2 e3 e4 e7
  subst e0; subst e1; subst e2; subst e3; subst e4; subst e7
  have hw : -128 ≤ z0 ∧ z0 ≤ 127 := by
    simp only [Lit.wf, Bool.and_eq_true, decide_eq_true_eq] at w0
    exact ⟨w0.1, w0.2⟩
  exact ⟨⟨z0, z1, z2, z3, z4, l1, l2, z7⟩, A1, D1, c1, ee1, rfl, ⟨r1, r2, hw.1, hw.2⟩, k1, k2⟩
end
end Go.Proofs.YtagclnmchkgpdaaDoor
namespace Go.Proofs.YtagclnmchkgpdaaDoor
open Go.Joins Go.ChangeShapes Go.WideShapes Go.RowKit Go.Deep

structure MvM where
  x : Mv
  L : Option Addr
  m : Nat
def cM (y : MvM) : List Value := [.int .i64 y.x.k, .int .i64 y.x.a, .int .i64 y.x.b, .int .i64 y.x.p.1, .int .i64 y.x.p.2.1, .int .i64 y.x.p.2.2, .bool y.x.yes, .slice y.L y.x.l.length y.m]
def cellsM (l : List MvM) : List Value := l.flatMap cM
theorem cellsM_cons (y : MvM) (l : List MvM) : cellsM (y :: l) = cM y ++ cellsM l := by simp [cellsM]
theorem length_cellsM : ∀ l : List MvM, (cellsM l).length = l.length * 8
  | [] => rfl
  | m :: l => by rw [cellsM_cons, List.length_append, length_cellsM l, List.length_cons]; show 8 + _ = _; omega
theorem cellsM_at : ∀ (l : List MvM) (i : Nat) (m : MvM) (j : Nat), l[i]? = some m → j < 8 → (cellsM l)[i * 8 + j]? = (cM m)[j]?
  | [], i, m, j, h, _ => by simp at h
  | x :: l, 0, m, j, h, hj => by
    simp at h
    subst h
    rw [show (0 * 8 + j) = j by omega]
    show (cM x ++ cellsM l)[j]? = _
    exact List.getElem?_append_left (by show j < 8; exact hj)
  | x :: l, i + 1, m, j, h, hj => by
    have := cellsM_at l i m j (by simpa using h) hj
    show (cM x ++ cellsM l)[(i + 1) * 8 + j]? = _
    rw [List.getElem?_append_right (by show 8 ≤ _; omega), ← this]
    congr 1
    show (i + 1) * 8 + j - 8 = _
    omega
theorem Reads.plainM {w : World} {B n : Nat} {A : Option Addr} {l : List MvM} (h : Reads w B 8 A n (cellsM l)) (hn : 0 < n) :
    ∃ b off, A = some ⟨b, off, none⟩ ∧ b < B ∧ ∀ i m, l[i]? = some m → ∀ j u, (cM m)[j]? = some u → w.cell? ⟨b, off + i * 8 + j, none⟩ = some u := by
  obtain ⟨ad, rfl, hb, hc⟩ := h.2 hn
  obtain ⟨b, off, spot⟩ := ad
  have hl : 0 < (cellsM l).length := by have := h.1; omega
  have h0 := hc 0 _ (List.getElem?_eq_getElem hl)
  have hs : spot = none := by simpa [Addr.add] using World.cell?_spot h0
  subst hs
  refine ⟨b, off, rfl, hb, fun i m hm j u hu => ?_⟩
  have hj : j < 8 := (List.getElem?_eq_some_iff.1 hu).1
  have k1 := hc _ _ ((cellsM_at l i m j hm hj).trans hu)
  rw [add_none] at k1
  rw [Nat.add_assoc]; exact k1
/-- What is known of a move that was handed in. -/
def MvRaw (W : World) (x : Mv) (L : Option Addr) : Prop := Reads W W.heap.size 1 L x.l.length (cellsI .i64 x.l)
theorem MvRaw.up {W W' : World} {x : Mv} {L : Option Addr} (h : MvRaw W x L) (hb : Below W.heap.size W W') : Reads W' W.heap.size 1 L x.l.length (cellsI .i64 x.l) := Reads.below h hb
section
variable {H : Type} {enc : TypeId × Value → H} {W : World}
set_option maxRecDepth 100000 in
theorem trod_pend {fuel : Nat} {cs : List Value} {x : DataW H × List MemPlace} (h : DataW.trod enc Tryd.prog W 0 (fun _ => true) true fuel 38 cs = some x) :
    ∃ p : Pd, cs = [.int .i64 p.1, .int .i64 p.2.1, .int .i64 p.2.2] := by
  obtain ⟨xs, n, _, _, hl, hlen, hg⟩ := DataW.trod_struct Tryd.underlying38 h
  have hC : Tryd.prog.cellsOf 38 = 3 := by kernel_rfl
  have ki : Tryd.prog.cellsOf 3 = 1 := by kernel_rfl
  rw [hC] at hl
  match cs, hl with
  | [c0, c1, c2], _ =>
    match xs, hlen with
    | [y0, y1, y2], _ =>
      have t0 := hg 0 _ rfl
      have t1 := hg 1 _ rfl
      have t2 := hg 2 _ rfl
      simp [ki] at t0 t1 t2
      obtain ⟨z0, e0, _, w0⟩ := DataW.trod_int Tryd.underlying3 t0
      obtain ⟨z1, e1, _, w1⟩ := DataW.trod_int Tryd.underlying3 t1
      obtain ⟨z2, e2, _, w2⟩ := DataW.trod_int Tryd.underlying3 t2
      simp at e0 e1 e2
      subst e0; subst e1; subst e2
      exact ⟨(z0, z1, z2), rfl⟩
set_option maxRecDepth 100000 in
theorem trod_mv {fuel : Nat} {cs : List Value} {x : DataW H × List MemPlace} (h : DataW.trod enc Tryd.prog W 0 (fun _ => true) true fuel 40 cs = some x) :
    ∃ (y : MvM), cs = cM y ∧ MvRaw W y.x y.L := by
  obtain ⟨xs, n, _, _, hl, hlen, hg⟩ := DataW.trod_struct Tryd.underlying40 h
  have hC : Tryd.prog.cellsOf 40 = 8 := by kernel_rfl
  have ki : Tryd.prog.cellsOf 3 = 1 := by kernel_rfl
  have kb : Tryd.prog.cellsOf 4 = 1 := by kernel_rfl
  have kp : Tryd.prog.cellsOf 38 = 3 := by kernel_rfl
  have kl : Tryd.prog.cellsOf 23 = 1 := by kernel_rfl
  rw [hC] at hl
  match cs, hl with
  | [c0, c1, c2, c3, c4, c5, c6, c7], _ =>
    match xs, hlen with
    | [y0, y1, y2, y3, y4, y5], _ =>
      have t0 := hg 0 _ rfl
      have t1 := hg 1 _ rfl
      have t2 := hg 2 _ rfl
      have t3 := hg 3 _ rfl
      have t4 := hg 4 _ rfl
      have t5 := hg 5 _ rfl
      clear hg
      simp [ki] at t0 t1 t2
      simp [kp] at t3
      simp [kb] at t4
      simp [kl] at t5
      obtain ⟨z0, e0, _, w0⟩ := DataW.trod_int Tryd.underlying3 t0
      obtain ⟨z1, e1, _, w1⟩ := DataW.trod_int Tryd.underlying3 t1
      obtain ⟨z2, e2, _, w2⟩ := DataW.trod_int Tryd.underlying3 t2
      obtain ⟨p, ep⟩ := trod_pend t3
      obtain ⟨z4, e4, _⟩ := DataW.trod_bool Tryd.underlying4 t4
      obtain ⟨A1, cc, l1, rfl, k1, r1⟩ := field_ints t5
      simp at e0 e1 e2 e4 ep
      obtain ⟨rfl, rfl, rfl⟩ := ep
      subst e0; subst e1; subst e2; subst e4
      exact ⟨⟨⟨z0, z1, z2, p, z4, l1⟩, A1, cc⟩, rfl, r1⟩
set_option maxRecDepth 100000 in
theorem open_mv {r : Reach} {base : Nat} {v : Value} {d : DataW H} {p : List MemPlace} (hv : Value.okWide Tryd.prog W r base 40 v) (h : DataW.Trod enc Tryd.prog W 0 (fun _ => true) true 40 v d p) :
    ∃ (x : Mv) (L1 : Option Addr) (m1 : Nat), v = (.agg #[.int .i64 x.k, .int .i64 x.a, .int .i64 x.b, .int .i64 x.p.1, .int .i64 x.p.2.1, .int .i64 x.p.2.2, .bool x.yes, .slice L1 x.l.length m1]) ∧ MvRaw W x L1 := by
  obtain ⟨cs, rfl, _⟩ := okWide_struct Tryd.underlying40 hv
  obtain ⟨fuel, hf⟩ := h
  obtain ⟨y, e, hq⟩ := trod_mv hf
  have e2 : cs.toList = (#[.int .i64 y.x.k, .int .i64 y.x.a, .int .i64 y.x.b, .int .i64 y.x.p.1, .int .i64 y.x.p.2.1, .int .i64 y.x.p.2.2, .bool y.x.yes, .slice y.L y.x.l.length y.m] : Array Value).toList := e
  exact ⟨y.x, y.L, y.m, congrArg Value.agg (Array.toList_inj.1 e2), hq⟩
set_option maxRecDepth 100000 in
theorem open_mvs {r : Reach} {base : Nat} {v : Value} {d : DataW H} {p : List MemPlace} (hv : Value.okWide Tryd.prog W r base 43 v) (h : DataW.Trod enc Tryd.prog W 0 (fun _ => true) true 43 v d p) :
    ∃ (A : Option Addr) (c : Nat) (l : List MvM), v = .slice A l.length c ∧ Reads W W.heap.size 8 A l.length (cellsM l) ∧ ∀ m ∈ l, MvRaw W m.x m.L := by
  obtain ⟨a0, len, cap, rfl⟩ := okWide_slice Tryd.underlying43 hv
  obtain ⟨fuel, hf⟩ := h
  have hf' : DataW.trod enc Tryd.prog W 0 (fun _ => true) true fuel 43 [.slice a0 len cap] = some (d, p) := hf
  rcases open_slice Tryd.underlying43 hf' with ⟨hcs, _⟩ | ⟨a, len', cap', m, n, D, Pl, hcs, _, hl, hm, hmm, hx, hi⟩
  · simp at hcs
    obtain ⟨rfl, rfl, rfl⟩ := hcs
    exact ⟨none, 0, [], rfl, Reads.none_, by simp⟩
  · simp at hcs
    obtain ⟨rfl, rfl, rfl⟩ := hcs
    simp only [if_true] at hmm
    subst hmm
    have hC : Tryd.prog.cellsOf 40 = 8 := by kernel_rfl
    rw [hC] at hi
    have hp : ∀ i, ∃ x : MvM, MvRaw W x.x x.L ∧ (i < len → ∀ j u, (cM x)[j]? = some u → W.cell? (a.add (i * 8 + j)) = some u) := by
      intro i
      by_cases hlt : i < len
      · obtain ⟨cs', hc, ht⟩ := hi i (by omega)
        obtain ⟨y, e, hq⟩ := trod_mv ht
        obtain ⟨_, hcl, hat⟩ := World.cells?_some hc
        refine ⟨y, hq, fun _ j u hu => ?_⟩
        have hj : j < 8 := (List.getElem?_eq_some_iff.1 hu).1
        have h1 := hat j hj
        rw [e] at h1
        rw [← Go.Deep.add_add, h1]
        exact hu
      · exact ⟨⟨⟨0, 0, 0, (0, 0, 0), false, []⟩, none, 0⟩, Reads.none_, fun h => absurd h hlt⟩
    have hget : ∀ i x, ((List.range len).map fun i => Classical.choose (hp i))[i]? = some x → i < len ∧ x = Classical.choose (hp i) := by
      intro i x hx
      rw [List.getElem?_map, Option.map_eq_some_iff] at hx
      obtain ⟨i', hi', rfl⟩ := hx
      have hlt : i < len := by
        have := (List.getElem?_eq_some_iff.1 hi').1
        simpa using this
      rw [List.getElem?_range hlt] at hi'
      obtain rfl : i = i' := by simpa using hi'
      exact ⟨hlt, rfl⟩
    refine ⟨some a, m, (List.range len).map fun i => Classical.choose (hp i), by simp, ⟨by rw [length_cellsM], fun hn => ⟨a, rfl, ?_, fun j u hu => ?_⟩⟩, fun x hx => ?_⟩
    · have hn' : 0 < len := by simpa using hn
      exact cell_block ((Classical.choose_spec (hp 0)).2 hn' 0 _ rfl)
    · have hlj : j < len * 8 := by
        have := (List.getElem?_eq_some_iff.1 hu).1
        rw [length_cellsM] at this
        simpa using this
      have hi15 : j / 8 < len := by omega
      have hg : ((List.range len).map fun i => Classical.choose (hp i))[j / 8]? = some (Classical.choose (hp (j / 8))) := by
        rw [List.getElem?_map, List.getElem?_range hi15]; rfl
      have h1 := cellsM_at _ (j / 8) _ (j % 8) hg (by omega)
      have e1 : j / 8 * 8 + j % 8 = j := by omega
      rw [e1, hu] at h1
      have h2 := (Classical.choose_spec (hp (j / 8))).2 hi15 (j % 8) u h1.symm
      rw [e1] at h2
      exact h2
    · obtain ⟨i, _, rfl⟩ := List.mem_map.1 hx
      exact (Classical.choose_spec (hp i)).1
end
end Go.Proofs.YtagclnmchkgpdaaDoor
namespace Go.Proofs.YtagclnmchkgpdaaDoor
open Go.RowKit

theorem offB_none {b : Nat} {A : Option Addr} : OffB b 0 A := fun h => by omega
/-- A transactional id in a block of its own, its lists elsewhere. -/
def CoAt (w : World) (X : Nat) (c : Co) (W : World) : Prop :=
  ∃ (A5 D5 : Option Addr) (c5 e5 : Nat), Blk W X 26 #[.int .i8 c.st, .int .i64 c.pid, .int .i64 c.ep, .int .i64 c.tm, .int .i64 c.th, .slice A5 c.ps.length c5, .slice D5 c.qs.length e5, .int .i64 c.ag] ∧ CoR W W.heap.size c A5 D5 ∧ OffB X c.ps.length A5 ∧ OffB X c.qs.length D5 ∧ Below w.heap.size w W ∧ w.heap.size ≤ X
theorem CoAt.below {w W W' : World} {X : Nat} {c : Co} (h : CoAt w X c W) (hb : Below W.heap.size W W') : CoAt w X c W' := by
  obtain ⟨A5, D5, c5, e5, h1, h2, h3, h4, h5, h6⟩ := h
  exact ⟨A5, D5, c5, e5, h1.below hb h1.lt, h2.up hb, h3, h4, h5.trans (hb.mono h5.size), h6⟩
/-- Whatever is in the block, another one is put there. -/
theorem coat_store {w W : World} {X : Nat} {zs : Array Value} {d : Co} (A5 D5 : Option Addr) (c5 e5 : Nat) (hk : Blk W X 26 zs) (hz : zs.size = 8) (hr : CoR W W.heap.size d A5 D5) (h3 : OffB X d.ps.length A5) (h4 : OffB X d.qs.length D5) (hb : Below w.heap.size w W) (hX : w.heap.size ≤ X) :
    ∃ W', (storeVar 26 ⟨X, 0, none⟩ (.agg #[.int .i8 d.st, .int .i64 d.pid, .int .i64 d.ep, .int .i64 d.tm, .int .i64 d.th, .slice A5 d.ps.length c5, .slice D5 d.qs.length e5, .int .i64 d.ag])).run Tryd.prog W = .ok () W' ∧ CoAt w X d W' := by
  obtain ⟨W', st, kk, fb, fh, fs⟩ := bk_store (P := Tryd.prog) (ty := 26) (cs := #[.int .i8 d.st, .int .i64 d.pid, .int .i64 d.ep, .int .i64 d.tm, .int .i64 d.th, .slice A5 d.ps.length c5, .slice D5 d.qs.length e5, .int .i64 d.ag]) 8 hk infoCo hz rfl (by simp [Value.oneCell'])
  refine ⟨W', st, A5, D5, c5, e5, kk, ?_, h3, h4, fb w.heap.size w hX hb, hX⟩
  rw [fs]
  exact ⟨reads_hold hr.1 (fun hn ad e => fh _ (h3 hn ad e)), reads_hold hr.2.1 (fun hn ad e => fh _ (h4 hn ad e)), hr.2.2⟩
/-- .. in a new block. -/
theorem coat_new {w W : World} {d : Co} (A5 D5 : Option Addr) (c5 e5 : Nat) (hr : CoR W W.heap.size d A5 D5) (hb : Below w.heap.size w W) :
    ∃ W', (storeVar 26 ⟨W.heap.size, 0, none⟩ (.agg #[.int .i8 d.st, .int .i64 d.pid, .int .i64 d.ep, .int .i64 d.tm, .int .i64 d.th, .slice A5 d.ps.length c5, .slice D5 d.qs.length e5, .int .i64 d.ag])).run Tryd.prog (W.alloc (.cells #[.int .i8 0, .int .i64 0, .int .i64 0, .int .i64 0, .int .i64 0, .slice none 0 0, .slice none 0 0, .int .i64 0] 26)) = .ok () W' ∧ CoAt w W.heap.size d W' ∧ Below W.heap.size W W' ∧ W'.heap.size = W.heap.size + 1 := by
  obtain ⟨W', st, kk, fb, fs⟩ := bk_fresh (P := Tryd.prog) W 26 #[.int .i8 0, .int .i64 0, .int .i64 0, .int .i64 0, .int .i64 0, .slice none 0 0, .slice none 0 0, .int .i64 0] #[.int .i8 d.st, .int .i64 d.pid, .int .i64 d.ep, .int .i64 d.tm, .int .i64 d.th, .slice A5 d.ps.length c5, .slice D5 d.qs.length e5, .int .i64 d.ag] 8 infoCo rfl rfl (by simp [Value.oneCell'])
  exact ⟨W', st, ⟨A5, D5, c5, e5, kk, hr.up fb, hr.1.offB (Nat.le_refl _), hr.2.1.offB (Nat.le_refl _), hb.trans (fb.mono hb.size), hb.size⟩, fb, fs⟩
theorem init_zero_e (tm : Int) : initE Co0 1 tm = if 1 ≤ tm ∧ tm ≤ 20 then 0 else 2 := by
  have hm : mayB Co0 = true := by unfold mayB; rw [if_pos (show Co0.st = 0 from rfl)]; exact same_refl _
  have hk : chkE Co0 0 true = 0 := by unfold chkE; rw [if_neg (by simp [hm]), if_neg (by show ¬ beginsB 0 0 = false; decide)]
  unfold initE
  by_cases h : 1 ≤ tm ∧ tm ≤ 20
  · rw [if_neg (by omega), if_neg (by rw [hk]; simp), if_neg (by show ¬ (100 : Int) ≤ 0; decide), if_pos h]
  · rw [if_pos (by omega), if_neg h]
theorem init_zero_c (tm : Int) (h : 1 ≤ tm ∧ tm ≤ 20) : initC Co0 1 tm = ⟨1, 1, 0, tm, 0, [], [], 0⟩ := by
  unfold initC
  rw [init_zero_e, if_pos h, if_pos rfl, if_pos (show Co0.st = 0 from rfl)]
theorem add_zero (tm : Int) (h : 1 ≤ tm ∧ tm ≤ 20) : addE ⟨1, 1, 0, tm, 0, [], [], 0⟩ 0 = 0 := by
  have hm := may_new 1 1 0 tm (.inl rfl) (by omega) (by omega) h
  unfold addE chkE
  rw [if_neg (by rw [hm]; simp [partB]), if_neg (by show ¬ beginsB 1 1 = false; decide)]
/-- What a tick, an addition and an offset leave of one under way. -/
theorem old_tick {c : Co} (hm : mayB c = true) (h2 : c.st = 2) (ha : c.ag < 1048576) : mayB (tickC c) = true ∧ (tickC c).st = 2 ∧ (tickC c).ag = c.ag + 1 ∧ (tickC c).tm = c.tm := by
  refine ⟨tick_may hm, ?_, ?_, ?_⟩ <;> unfold tickC <;> rw [if_pos ⟨hm, h2⟩]
  · exact h2
  · show (if c.ag < 1048576 then c.ag + 1 else c.ag) = _
    rw [if_pos ha]
section
attribute [-go_sem] loadCells storeVar
set_option maxRecDepth 100000 in
set_option maxHeartbeats 2000000 in
theorem old_a (tm : Int) (A1 : Option Addr) (n c1 : Nat) (w : World) (hg : HasET w) (ht : tm < 1 ∨ 20 < tm) :
    Calls Tryd.prog 6 #[.int .i64 tm, .slice A1 n c1] w fun e w' => e = .returned (.bool true) ∧ Below w.heap.size w w' := by
  have WK := Lib.hid (fun W (hb : Below w.heap.size w W) => wakes_any W (hg.up hb))
  have HI := Lib.hid (Init_all Co0 none none 0 0 1 tm w (CoR.zero _ _ _ _) hg)
  rw [init_zero_e, if_neg (by omega)] at HI
  obtain ⟨d1, hd1⟩ : ∃ d, d = initC Co0 1 tm := ⟨_, rfl⟩
  rw [← hd1] at HI

  clear hg hd1
  rcases ht with ht | ht
  · have t1 : decide (tm < 1) = true := decide_eq_true ht
    clear ht
    go_enter Tryd.func6, Tryd.ntmps6
    go_wp2_with fail
    refine HI.out.mono ?_
    rintro e w1 ⟨A5, D5, c5, e5, rfl, r5, b5, na, nd⟩
    obtain ⟨W2, st, q2, b2, s2⟩ := coat_new A5 D5 c5 e5 r5 b5
    have Q2 := Lib.hid q2
    have B2 := Lib.hid (b5.trans (b2.mono b5.size))
    have HX := Lib.hid (show w1.heap.size < W2.heap.size by rw [s2]; omega)
    clear r5 b5 na nd q2 b2 s2
  
    go_wp2_with fail
    refine (WK.out _ B2.out).mono ?_
    rintro e w9 ⟨rfl, b9⟩
    go_wp2_with fail
    go_ret
    exact ⟨rfl, btrans B2.out b9⟩
  · have t1 : decide (tm < 1) = false := decide_eq_false (by omega)
    have t2 : decide (20 < tm) = true := decide_eq_true ht
    clear ht
    go_enter Tryd.func6, Tryd.ntmps6
    go_wp2_with fail
    refine HI.out.mono ?_
    rintro e w1 ⟨A5, D5, c5, e5, rfl, r5, b5, na, nd⟩
    obtain ⟨W2, st, q2, b2, s2⟩ := coat_new A5 D5 c5 e5 r5 b5
    have Q2 := Lib.hid q2
    have B2 := Lib.hid (b5.trans (b2.mono b5.size))
    have HX := Lib.hid (show w1.heap.size < W2.heap.size by rw [s2]; omega)
    clear r5 b5 na nd q2 b2 s2
  
    go_wp2_with fail
    refine (WK.out _ B2.out).mono ?_
    rintro e w9 ⟨rfl, b9⟩
    go_wp2_with fail
    go_ret
    exact ⟨rfl, btrans B2.out b9⟩
set_option maxRecDepth 100000 in
set_option maxHeartbeats 2000000 in
theorem old_b (tm : Int) (A1 : Option Addr) (n c1 : Nat) (w : World) (hg : HasET w) (h1 : 1 ≤ tm) (h2 : tm ≤ 20) (hn : 60 < n) :
    Calls Tryd.prog 6 #[.int .i64 tm, .slice A1 n c1] w fun e w' => e = .returned (.bool true) ∧ Below w.heap.size w w' := by
  have WK := Lib.hid (fun W (hb : Below w.heap.size w W) => wakes_any W (hg.up hb))
  have HI := Lib.hid (Init_all Co0 none none 0 0 1 tm w (CoR.zero _ _ _ _) hg)
  rw [init_zero_e, if_pos ⟨h1, h2⟩] at HI
  obtain ⟨d1, hd1⟩ : ∃ d, d = initC Co0 1 tm := ⟨_, rfl⟩
  rw [← hd1] at HI

  have t1 : decide (tm < 1) = false := decide_eq_false (by omega)
  have t2 : decide (20 < tm) = false := decide_eq_false (by omega)
  have t3 : decide ((60 : Int) < (n : Int)) = true := decide_eq_true (by omega)
  clear hg hd1 h1 h2 hn
  go_enter Tryd.func6, Tryd.ntmps6
  go_wp2_with fail
  refine HI.out.mono ?_
  rintro e w1 ⟨A5, D5, c5, e5, rfl, r5, b5, na, nd⟩
  obtain ⟨W2, st, q2, b2, s2⟩ := coat_new A5 D5 c5 e5 r5 b5
  have Q2 := Lib.hid q2
  have B2 := Lib.hid (b5.trans (b2.mono b5.size))
  have HX := Lib.hid (show w1.heap.size < W2.heap.size by rw [s2]; omega)
  clear r5 b5 na nd q2 b2 s2

  go_wp2_with fail
  refine (WK.out _ B2.out).mono ?_
  rintro e w9 ⟨rfl, b9⟩
  go_wp2_with fail
  go_ret
  exact ⟨rfl, btrans B2.out b9⟩
set_option maxRecDepth 100000 in
set_option maxHeartbeats 8000000 in
theorem old_c (tm : Int) (A1 : Option Addr) (l : List MvM) (c1 : Nat) (w : World) (hg : HasET w) (h1 : 1 ≤ tm) (h2 : tm ≤ 20) (hn : l.length ≤ 60) (hr : Reads w w.heap.size 8 A1 l.length (cellsM l)) :
    Calls Tryd.prog 6 #[.int .i64 tm, .slice A1 l.length c1] w fun e w' => e = .returned (.bool true) ∧ Below w.heap.size w w' := by
  have WK := Lib.hid (fun W (hb : Below w.heap.size w W) => wakes_any W (hg.up hb))
  have HI := Lib.hid (Init_all Co0 none none 0 0 1 tm w (CoR.zero _ _ _ _) hg)
  rw [init_zero_e, if_pos ⟨h1, h2⟩] at HI
  obtain ⟨d1, hd1⟩ : ∃ d, d = initC Co0 1 tm := ⟨_, rfl⟩
  rw [← hd1] at HI

  have t3 : decide ((60 : Int) < (l.length : Int)) = false := decide_eq_false (by omega)
  have hd1' := hd1.trans (init_zero_c tm ⟨h1, h2⟩)
  have ha : addE d1 0 = 0 := by rw [hd1']; exact add_zero tm ⟨h1, h2⟩
  have hac := (add_ok ha).1
  have hat : (addC d1 0).st = 2 ∧ (addC d1 0).ag = 0 ∧ (addC d1 0).tm = tm := by rw [(add_ok ha).2, hd1']; exact ⟨rfl, rfl, rfl⟩
  obtain ⟨d2, hd2⟩ : ∃ d, d = addC d1 0 := ⟨_, rfl⟩
  rw [← hd2] at hac hat
  have AD := Lib.hid (fun A D c e W (h : CoR W W.heap.size d1 A D) (hb : Below w.heap.size w W) => show Calls Tryd.prog 24 #[.agg #[.int .i8 d1.st, .int .i64 d1.pid, .int .i64 d1.ep, .int .i64 d1.tm, .int .i64 d1.th, .slice A d1.ps.length c, .slice D d1.qs.length e, .int .i64 d1.ag], .int .i64 0] W (MvPost d2 0 W) from by
    have := Add_any d1 A D c e 0 W h (hg.up hb)
    rw [ha, ← hd2] at this
    exact this)
  have HD := Lib.hid (And.intro hac hat)
  have HR := Lib.hid hr
  have HG := Lib.hid hg
  have HTM := Lib.hid (And.intro h1 h2)
  clear hg hd1 hd1' hd2 ha hac hat h1 h2 hr
  go_enter Tryd.func6, Tryd.ntmps6
  go_wp2_with fail
  refine HI.out.mono ?_
  rintro e w1 ⟨A5, D5, c5, e5, rfl, r5, b5, na, nd⟩
  obtain ⟨W2, st, q2, b2, s2⟩ := coat_new A5 D5 c5 e5 r5 b5
  have Q2 := Lib.hid q2
  have B2 := Lib.hid (b5.trans (b2.mono b5.size))
  have HX := Lib.hid (show w1.heap.size < W2.heap.size by rw [s2]; omega)
  clear r5 b5 na nd q2 b2 s2

  obtain ⟨A6, D6, c6, e6, k6, r6, of6, og6, b6, x6⟩ := Q2.out
  have L6 := bk_load (P := Tryd.prog) 8 k6 rfl
  have K6 := Lib.hid k6
  have AD2 := Lib.hid (AD.out A6 D6 c6 e6 W2 r6 b6)
  clear k6 r6 of6 og6 b6 x6
  go_wp2_with fail
  refine AD2.out.mono ?_
  rintro e w3 ⟨A7, D7, c7, e7, rfl, r7, b7, na, nd⟩
  obtain ⟨W4, st4, q4⟩ := coat_store (w := w) (X := w1.heap.size) A7 D7 c7 e7 (K6.out.below b7 K6.out.lt) rfl r7 (na.off HX.out) (nd.off HX.out) (btrans B2.out b7) (by have := Q2.out.choose_spec.choose_spec.choose_spec.choose_spec.2.2.2.2.2; exact this)
  have Q4 := Lib.hid q4
  clear r7 b7 na nd q4 L6
  go_wp2_with fail
  clear st st4
  go_loopg [7, 8] l.length (fun mm y x wr => ∃ (k age : Nat) (c : Co), k ≤ l.length ∧ age ≤ k ∧ x = .int .i64 k ∧ y = .int .i64 age ∧ mm = l.length - k ∧ mayB c = true ∧ c.st = 2 ∧ c.ag = age ∧ c.tm = tm ∧ CoAt w w1.heap.size c wr)
  case atStart => exact ⟨0, 0, d2, Nat.zero_le _, Nat.le_refl _, rfl, rfl, by omega, HD.out.1, HD.out.2.1, HD.out.2.2.1, HD.out.2.2.2, Q4.out⟩
  case round =>
    obtain ⟨k, age, c, hk, hage, rfl, rfl, hmm, hmay, hst, hag, htm, hco⟩ := hrel
    have HM := Lib.hid hmm
    have HF := Lib.hid (And.intro hmay (And.intro hst (And.intro hag htm)))
    have U0 := Lib.hid hco
    clear hmm hmay hag htm hco hst
    by_cases hlt : k < l.length
    · have d1' : decide ((k : Int) < (l.length : Int)) = true := by simp; omega
      obtain ⟨y, hy⟩ : ∃ z, l[k]? = some z := ⟨_, List.getElem?_eq_getElem hlt⟩
      obtain ⟨b1, o1, rfl, hb1, hcm⟩ := HR.out.plainM (by omega)
      have i1 : (0 : Int) ≤ (k : Int) := by omega
      have i2 : (k : Int) < (l.length : Int) := by omega
      have CE := Lib.hid (fun W (hb : Below w.heap.size w W) j u (hj : (cM y)[j]? = some u) => show W.cell? ⟨b1, o1 + k * 8 + j, none⟩ = some u from by rw [hb.cell (by exact hb1)]; exact hcm k y hy j u hj)
      have LE := Lib.hid (fun W (hb : Below w.heap.size w W) => show (loadCells ⟨b1, o1 + k * 8, none⟩ 8).run Tryd.prog W = .ok #[.int .i64 y.x.k, .int .i64 y.x.a, .int .i64 y.x.b, .int .i64 y.x.p.1, .int .i64 y.x.p.2.1, .int .i64 y.x.p.2.2, .bool y.x.yes, .slice y.L y.x.l.length y.m] W from by
        have := run_loadCells_list (P := Tryd.prog) W ⟨b1, o1 + k * 8, none⟩ (cM y) (fun j v hv => by rw [Addr.add_lit]; exact CE.out W hb j v hv)
        simpa [cM] using this)
      obtain ⟨A5, D5, c5, e5, k5, r5, of5, og5, bl5, x5⟩ := U0.out
      have L5 := bk_load (P := Tryd.prog) 8 k5 rfl
      obtain ⟨u, hu⟩ : ∃ u, decide (tm ≤ (age : Int)) = u := ⟨_, rfl⟩
      have hdu := Due_any c A5 D5 c5 e5 wr
      rw [show dueB c = u by
        unfold dueB
        rw [HF.out.2.1, HF.out.2.2.1, HF.out.2.2.2, ← hu]
        simp] at hdu
      have DU := Lib.hid hdu
      have BL5 := Lib.hid bl5
      clear k5 r5 of5 og5 bl5 x5 hcm hy hdu
      go_upto_region 11 with (fail)
      go_wp2_with fail
      refine DU.out.mono ?_
      rintro e w5 ⟨rfl, b5⟩
      have U5 := Lib.hid (U0.out.below b5)
      have BL6 := Lib.hid (btrans BL5.out b5)
      have g0 : w5.cell? ⟨b1, o1 + k * 8, none⟩ = some (.int .i64 y.x.k) := CE.out _ BL6.out 0 _ rfl
      clear b5 L5
      by_cases hk5 : y.x.k = 5
      · have cc1 : (y.x.k == 1) = false := by rw [hk5]; rfl
        have cc2 : (y.x.k == 2) = false := by rw [hk5]; rfl
        have cc5 : (y.x.k == 5) = true := by rw [hk5]; rfl
        clear hk5
        obtain ⟨A6, D6, c6, e6, k6, r6, of6, og6, b6, x6⟩ := U5.out
        have L6 := bk_load (P := Tryd.prog) 8 k6 rfl
        have TK := Lib.hid (Tick_any c A6 D6 c6 e6 w5 r6)
        have K6 := Lib.hid k6
        have O6 := Lib.hid (And.intro of6 (And.intro og6 x6))
        clear k6 r6 of6 og6 b6 x6
        go_wp2_with fail
        refine TK.out.mono ?_
        rintro e w7 ⟨A7, D7, c7, e7, rfl, r7, b7, hnew⟩
        obtain ⟨d3, hd3⟩ : ∃ d, d = tickC c := ⟨_, rfl⟩
        rw [← hd3] at r7 hnew ⊢
        have hps : d3.ps = c.ps ∧ d3.qs = c.qs := by rw [hd3]; unfold tickC; split <;> exact ⟨rfl, rfl⟩
        have hoff : OffB w1.heap.size d3.ps.length A7 ∧ OffB w1.heap.size d3.qs.length D7 := by
          rcases hnew with ⟨rfl, rfl⟩ | ⟨na, nd⟩
          · rw [hps.1, hps.2]; exact ⟨O6.out.1, O6.out.2.1⟩
          · exact ⟨na.off K6.out.lt, nd.off K6.out.lt⟩
        obtain ⟨W8, st8, q8⟩ := coat_store (w := w) (X := w1.heap.size) A7 D7 c7 e7 (K6.out.below b7 K6.out.lt) rfl r7 hoff.1 hoff.2 (btrans BL6.out b7) O6.out.2.2
        have HT := Lib.hid (show mayB d3 = true ∧ d3.st = 2 ∧ d3.ag = c.ag + 1 ∧ d3.tm = c.tm by rw [hd3]; exact old_tick HF.out.1 HF.out.2.1 (by rw [HF.out.2.2.1]; omega))
        have Q8 := Lib.hid q8
        obtain ⟨A8, D8, c8, e8, k8, _⟩ := q8
        have y7 := k8.cell 7
        have y0 := k8.cell 0
        have f7 : (d3.ag != (age : Int) + 1) = false := by rw [HT.out.2.2.1, HF.out.2.2.1]; simp
        have f0 : (d3.st != 2) = false := by rw [HT.out.2.1]; rfl
        have cw : IntKind.i64.wrap ((age : Int) + 1) = (age : Int) + 1 := IntWalk.i64_in _ (by omega)
        clear r7 b7 hnew hd3 hps hoff k8 L6
        go_wp2_with fail
        go_roundg (gk - 1)
        case measure => have := HM.out; omega
        case rel => exact ⟨k + 1, age + 1, d3, by omega, by omega, by go_num, by go_num, by have := HM.out; omega, HT.out.1, HT.out.2.1, by rw [HT.out.2.2.1, HF.out.2.2.1]; omega, by rw [HT.out.2.2.2]; exact HF.out.2.2.2, Q8.out⟩
      by_cases hk12 : y.x.k = 1 ∨ y.x.k = 2
      · rcases hk12 with hk12 | hk12
        · have cc1 : (y.x.k == 1) = true := by rw [hk12]; rfl
          have cc2 : (y.x.k == 2) = false := by rw [hk12]; rfl
          have cc5 : (y.x.k == 5) = false := by rw [hk12]; rfl
          obtain ⟨A6, D6, c6, e6, k6, r6, of6, og6, b6, x6⟩ := U5.out
          obtain ⟨d3, hd3⟩ : ∃ d, d = addC c y.x.a := ⟨_, rfl⟩
          obtain ⟨z3, hz3⟩ : ∃ z, z = addE c y.x.a := ⟨_, rfl⟩
          have MV := Lib.hid (fun W (hb : Below w5.heap.size w5 W) => show Calls Tryd.prog 21 #[(.agg #[.int .i8 c.st, .int .i64 c.pid, .int .i64 c.ep, .int .i64 c.tm, .int .i64 c.th, .slice A6 c.ps.length c6, .slice D6 c.qs.length e6, .int .i64 c.ag]), .agg #[.int .i64 y.x.k, .int .i64 y.x.a, .int .i64 y.x.b, .int .i64 y.x.p.1, .int .i64 y.x.p.2.1, .int .i64 y.x.p.2.2, .bool y.x.yes, .slice y.L y.x.l.length y.m]] W (MvP c A6 D6 d3 z3 W) from by
            rw [hd3, hz3]
            exact moves_1 c A6 D6 c6 e6 y.x y.L y.m W (r6.up hb) (HG.out.up (BL6.out.trans (hb.mono BL6.out.size))) hk12)
          have K6 := Lib.hid k6
          have R6 := Lib.hid r6
          have O6 := Lib.hid (And.intro of6 (And.intro og6 x6))
          have F3 := Lib.hid (show z3 = 0 → mayB d3 = true ∧ d3.st = 2 ∧ d3.ag = c.ag ∧ d3.tm = c.tm from fun h => by
            rw [hz3] at h
            have hh := add_ok h
            rw [hd3]
            refine ⟨hh.1, ?_, ?_, ?_⟩ <;> rw [hh.2])
          clear k6 r6 of6 og6 b6 x6 hk12 hd3 hz3
          go_wp2_with fail
          have SS := Lib.hid (fun W (hb : Below w5.heap.size w5 W) => And.intro hb (And.intro (bk_load (P := Tryd.prog) 8 (K6.out.below hb K6.out.lt) rfl) (LE.out W (BL6.out.trans (hb.mono BL6.out.size)))))
          go_region_held3 (fun W => Below w5.heap.size w5 W ∧ (loadCells ⟨w1.heap.size, 0, none⟩ 8).run Tryd.prog W = .ok #[.int .i8 c.st, .int .i64 c.pid, .int .i64 c.ep, .int .i64 c.tm, .int .i64 c.th, .slice A6 c.ps.length c6, .slice D6 c.qs.length e6, .int .i64 c.ag] W ∧ (loadCells ⟨b1, o1 + k * 8, none⟩ 8).run Tryd.prog W = .ok #[.int .i64 y.x.k, .int .i64 y.x.a, .int .i64 y.x.b, .int .i64 y.x.p.1, .int .i64 y.x.p.2.1, .int .i64 y.x.p.2.2, .bool y.x.yes, .slice y.L y.x.l.length y.m] W)
            (first | exact SS.out _ (Below.refl _ _).drew | exact SS.out _ hb8 | exact SS.out _ (hb7.alloc hb7.size _) | exact SS.out _ hb7 | exact SS.out _ (bal (Below.refl _ _).drew _))
            ((go_at_call 21
              refine (MV.out _ (by go_split_ands; assumption)).mono ?_
              rintro e w7 ⟨A7, D7, c7, e7, rfl, r7, b7, off7⟩
              first
                | (have kz : Blk w7 w5.heap.size 26 #[.int .i8 0, .int .i64 0, .int .i64 0, .int .i64 0, .int .i64 0, .slice none 0 0, .slice none 0 0, .int .i64 0] := (bk_new w5.drew 26 #[.int .i8 0, .int .i64 0, .int .i64 0, .int .i64 0, .int .i64 0, .slice none 0 0, .slice none 0 0, .int .i64 0] rfl).below b7 (by simp)
                   have hb7 : Below w5.heap.size w5 w7 := Below.trans (bal (Below.refl _ _).drew (.cells #[.int .i8 0, .int .i64 0, .int .i64 0, .int .i64 0, .int .i64 0, .slice none 0 0, .slice none 0 0, .int .i64 0] 26)) (b7.mono (by simp))
                   obtain ⟨W8, st8, k8, fb8, fh8, fs8⟩ := bk_store (P := Tryd.prog) (ty := 26) (cs := #[.int .i8 d3.st, .int .i64 d3.pid, .int .i64 d3.ep, .int .i64 d3.tm, .int .i64 d3.th, .slice A7 d3.ps.length c7, .slice D7 d3.qs.length e7, .int .i64 d3.ag]) 8 kz infoCo rfl rfl (by simp [Value.oneCell'])
                   have hb8 : Below w5.heap.size w5 W8 := fb8 _ _ (Nat.le_refl _) hb7
                   have hox := off7 w1.heap.size (by have := K6.out.lt; simp; omega) O6.out.1 O6.out.2.1
                   have hob := off7 w5.heap.size (by simp) (R6.out.1.offB (Nat.le_refl _)) (R6.out.2.1.offB (Nat.le_refl _))
                   have R8 := Lib.hid (show CoR W8 W8.heap.size d3 A7 D7 by rw [fs8]; exact ⟨reads_hold r7.1 (fun hn ad e => fh8 _ (hob.1 hn ad e)), reads_hold r7.2.1 (fun hn ad e => fh8 _ (hob.2 hn ad e)), r7.2.2⟩)
                   have HOX := Lib.hid hox
                   have K8 := Lib.hid k8
                   have HB8 := Lib.hid hb8
                   have NX := Lib.hid (show ¬ w5.heap.size = w1.heap.size by have := K6.out.lt; omega)
                   clear kz k8 fb8 fh8 fs8 hox hob r7 b7 off7)
                | (have hb7 : Below w5.heap.size w5 w7 := ⟨b7.os, b7.tape, b7.output, b7.size, b7.block⟩
                   obtain ⟨W8, st8, k8, b8, s8⟩ := bk_fresh (P := Tryd.prog) w7 26 #[.int .i8 0, .int .i64 0, .int .i64 0, .int .i64 0, .int .i64 0, .slice none 0 0, .slice none 0 0, .int .i64 0] #[.int .i8 d3.st, .int .i64 d3.pid, .int .i64 d3.ep, .int .i64 d3.tm, .int .i64 d3.th, .slice A7 d3.ps.length c7, .slice D7 d3.qs.length e7, .int .i64 d3.ag] 8 infoCo rfl rfl (by simp [Value.oneCell'])
                   have hb8 : Below w5.heap.size w5 W8 := hb7.trans (b8.mono hb7.size)
                   have hox := off7 w1.heap.size K6.out.lt O6.out.1 O6.out.2.1
                   have R8 := Lib.hid (show CoR W8 W8.heap.size d3 A7 D7 from r7.up b8)
                   have HOX := Lib.hid hox
                   have K8 := Lib.hid k8
                   have HB8 := Lib.hid hb8
                   have NX := Lib.hid (show ¬ w7.heap.size = w1.heap.size by have := K6.out.lt; have := hb7.size; omega)
                   clear k8 b8 s8 hox r7 b7 off7)))
          all_goals
            by_cases hz : z3 = 0
            · have ez : (z3 == 0) = true := by simpa using hz
              have F4 := Lib.hid (F3.out hz)
              have L8 := bk_load (P := Tryd.prog) 8 K8.out rfl
              obtain ⟨W9, st9, q9⟩ := coat_store (w := w) (X := w1.heap.size) A7 D7 c7 e7 (K6.out.below HB8.out K6.out.lt) rfl R8.out HOX.out.1 HOX.out.2 (BL6.out.trans (HB8.out.mono BL6.out.size)) O6.out.2.2
              have Q9 := Lib.hid q9
              obtain ⟨A9, D9, c9, e9, k9, _⟩ := q9
              have y7 := k9.cell 7
              have y0 := k9.cell 0
              have f7 : (d3.ag != (age : Int)) = false := by rw [F4.out.2.2.1, HF.out.2.2.1]; simp
              have f0 : (d3.st != 2) = false := by rw [F4.out.2.1]; rfl
              clear hz k9 hb7 hb8
              go_wp2_with fail
              go_roundg (gk - 1)
              case measure => have := HM.out; omega
              case rel => exact ⟨k + 1, age, d3, by omega, by omega, by go_num, rfl, by have := HM.out; omega, F4.out.1, F4.out.2.1, by rw [F4.out.2.2.1]; exact HF.out.2.2.1, by rw [F4.out.2.2.2]; exact HF.out.2.2.2, Q9.out⟩
            · have ez : (z3 == 0) = false := by simpa using hz
              have kx := K6.out.below HB8.out K6.out.lt
              have y7 := kx.cell 7
              have y0 := kx.cell 0
              have f7 : (c.ag != (age : Int)) = false := by rw [HF.out.2.2.1]; simp
              have f0 : (c.st != 2) = false := by rw [HF.out.2.1]; rfl
              have Q9 := Lib.hid (U5.out.below HB8.out)
              clear hz kx hb7 hb8
              go_wp2_with fail
              go_roundg (gk - 1)
              case measure => have := HM.out; omega
              case rel => exact ⟨k + 1, age, c, by omega, by omega, by go_num, rfl, by have := HM.out; omega, HF.out.1, HF.out.2.1, HF.out.2.2.1, HF.out.2.2.2, Q9.out⟩
        · have cc1 : (y.x.k == 1) = false := by rw [hk12]; rfl
          have cc2 : (y.x.k == 2) = true := by rw [hk12]; rfl
          have cc5 : (y.x.k == 5) = false := by rw [hk12]; rfl
          obtain ⟨A6, D6, c6, e6, k6, r6, of6, og6, b6, x6⟩ := U5.out
          obtain ⟨d3, hd3⟩ : ∃ d, d = setC c y.x.p := ⟨_, rfl⟩
          obtain ⟨z3, hz3⟩ : ∃ z, z = setE c y.x.p := ⟨_, rfl⟩
          have MV := Lib.hid (fun W (hb : Below w5.heap.size w5 W) => show Calls Tryd.prog 21 #[(.agg #[.int .i8 c.st, .int .i64 c.pid, .int .i64 c.ep, .int .i64 c.tm, .int .i64 c.th, .slice A6 c.ps.length c6, .slice D6 c.qs.length e6, .int .i64 c.ag]), .agg #[.int .i64 y.x.k, .int .i64 y.x.a, .int .i64 y.x.b, .int .i64 y.x.p.1, .int .i64 y.x.p.2.1, .int .i64 y.x.p.2.2, .bool y.x.yes, .slice y.L y.x.l.length y.m]] W (MvP c A6 D6 d3 z3 W) from by
            rw [hd3, hz3]
            exact moves_2 c A6 D6 c6 e6 y.x y.L y.m W (r6.up hb) (HG.out.up (BL6.out.trans (hb.mono BL6.out.size))) hk12)
          have K6 := Lib.hid k6
          have R6 := Lib.hid r6
          have O6 := Lib.hid (And.intro of6 (And.intro og6 x6))
          have F3 := Lib.hid (show z3 = 0 → mayB d3 = true ∧ d3.st = 2 ∧ d3.ag = c.ag ∧ d3.tm = c.tm from fun h => by
            rw [hz3] at h
            have hh := set_ok h
            rw [hd3]
            refine ⟨hh.1, ?_, ?_, ?_⟩ <;> rw [hh.2])
          clear k6 r6 of6 og6 b6 x6 hk12 hd3 hz3
          go_wp2_with fail
          have SS := Lib.hid (fun W (hb : Below w5.heap.size w5 W) => And.intro hb (And.intro (bk_load (P := Tryd.prog) 8 (K6.out.below hb K6.out.lt) rfl) (LE.out W (BL6.out.trans (hb.mono BL6.out.size)))))
          go_region_held3 (fun W => Below w5.heap.size w5 W ∧ (loadCells ⟨w1.heap.size, 0, none⟩ 8).run Tryd.prog W = .ok #[.int .i8 c.st, .int .i64 c.pid, .int .i64 c.ep, .int .i64 c.tm, .int .i64 c.th, .slice A6 c.ps.length c6, .slice D6 c.qs.length e6, .int .i64 c.ag] W ∧ (loadCells ⟨b1, o1 + k * 8, none⟩ 8).run Tryd.prog W = .ok #[.int .i64 y.x.k, .int .i64 y.x.a, .int .i64 y.x.b, .int .i64 y.x.p.1, .int .i64 y.x.p.2.1, .int .i64 y.x.p.2.2, .bool y.x.yes, .slice y.L y.x.l.length y.m] W)
            (first | exact SS.out _ (Below.refl _ _).drew | exact SS.out _ hb8 | exact SS.out _ (hb7.alloc hb7.size _) | exact SS.out _ hb7 | exact SS.out _ (bal (Below.refl _ _).drew _))
            ((go_at_call 21
              refine (MV.out _ (by go_split_ands; assumption)).mono ?_
              rintro e w7 ⟨A7, D7, c7, e7, rfl, r7, b7, off7⟩
              first
                | (have kz : Blk w7 w5.heap.size 26 #[.int .i8 0, .int .i64 0, .int .i64 0, .int .i64 0, .int .i64 0, .slice none 0 0, .slice none 0 0, .int .i64 0] := (bk_new w5.drew 26 #[.int .i8 0, .int .i64 0, .int .i64 0, .int .i64 0, .int .i64 0, .slice none 0 0, .slice none 0 0, .int .i64 0] rfl).below b7 (by simp)
                   have hb7 : Below w5.heap.size w5 w7 := Below.trans (bal (Below.refl _ _).drew (.cells #[.int .i8 0, .int .i64 0, .int .i64 0, .int .i64 0, .int .i64 0, .slice none 0 0, .slice none 0 0, .int .i64 0] 26)) (b7.mono (by simp))
                   obtain ⟨W8, st8, k8, fb8, fh8, fs8⟩ := bk_store (P := Tryd.prog) (ty := 26) (cs := #[.int .i8 d3.st, .int .i64 d3.pid, .int .i64 d3.ep, .int .i64 d3.tm, .int .i64 d3.th, .slice A7 d3.ps.length c7, .slice D7 d3.qs.length e7, .int .i64 d3.ag]) 8 kz infoCo rfl rfl (by simp [Value.oneCell'])
                   have hb8 : Below w5.heap.size w5 W8 := fb8 _ _ (Nat.le_refl _) hb7
                   have hox := off7 w1.heap.size (by have := K6.out.lt; simp; omega) O6.out.1 O6.out.2.1
                   have hob := off7 w5.heap.size (by simp) (R6.out.1.offB (Nat.le_refl _)) (R6.out.2.1.offB (Nat.le_refl _))
                   have R8 := Lib.hid (show CoR W8 W8.heap.size d3 A7 D7 by rw [fs8]; exact ⟨reads_hold r7.1 (fun hn ad e => fh8 _ (hob.1 hn ad e)), reads_hold r7.2.1 (fun hn ad e => fh8 _ (hob.2 hn ad e)), r7.2.2⟩)
                   have HOX := Lib.hid hox
                   have K8 := Lib.hid k8
                   have HB8 := Lib.hid hb8
                   have NX := Lib.hid (show ¬ w5.heap.size = w1.heap.size by have := K6.out.lt; omega)
                   clear kz k8 fb8 fh8 fs8 hox hob r7 b7 off7)
                | (have hb7 : Below w5.heap.size w5 w7 := ⟨b7.os, b7.tape, b7.output, b7.size, b7.block⟩
                   obtain ⟨W8, st8, k8, b8, s8⟩ := bk_fresh (P := Tryd.prog) w7 26 #[.int .i8 0, .int .i64 0, .int .i64 0, .int .i64 0, .int .i64 0, .slice none 0 0, .slice none 0 0, .int .i64 0] #[.int .i8 d3.st, .int .i64 d3.pid, .int .i64 d3.ep, .int .i64 d3.tm, .int .i64 d3.th, .slice A7 d3.ps.length c7, .slice D7 d3.qs.length e7, .int .i64 d3.ag] 8 infoCo rfl rfl (by simp [Value.oneCell'])
                   have hb8 : Below w5.heap.size w5 W8 := hb7.trans (b8.mono hb7.size)
                   have hox := off7 w1.heap.size K6.out.lt O6.out.1 O6.out.2.1
                   have R8 := Lib.hid (show CoR W8 W8.heap.size d3 A7 D7 from r7.up b8)
                   have HOX := Lib.hid hox
                   have K8 := Lib.hid k8
                   have HB8 := Lib.hid hb8
                   have NX := Lib.hid (show ¬ w7.heap.size = w1.heap.size by have := K6.out.lt; have := hb7.size; omega)
                   clear k8 b8 s8 hox r7 b7 off7)))
          all_goals
            by_cases hz : z3 = 0
            · have ez : (z3 == 0) = true := by simpa using hz
              have F4 := Lib.hid (F3.out hz)
              have L8 := bk_load (P := Tryd.prog) 8 K8.out rfl
              obtain ⟨W9, st9, q9⟩ := coat_store (w := w) (X := w1.heap.size) A7 D7 c7 e7 (K6.out.below HB8.out K6.out.lt) rfl R8.out HOX.out.1 HOX.out.2 (BL6.out.trans (HB8.out.mono BL6.out.size)) O6.out.2.2
              have Q9 := Lib.hid q9
              obtain ⟨A9, D9, c9, e9, k9, _⟩ := q9
              have y7 := k9.cell 7
              have y0 := k9.cell 0
              have f7 : (d3.ag != (age : Int)) = false := by rw [F4.out.2.2.1, HF.out.2.2.1]; simp
              have f0 : (d3.st != 2) = false := by rw [F4.out.2.1]; rfl
              clear hz k9 hb7 hb8
              go_wp2_with fail
              go_roundg (gk - 1)
              case measure => have := HM.out; omega
              case rel => exact ⟨k + 1, age, d3, by omega, by omega, by go_num, rfl, by have := HM.out; omega, F4.out.1, F4.out.2.1, by rw [F4.out.2.2.1]; exact HF.out.2.2.1, by rw [F4.out.2.2.2]; exact HF.out.2.2.2, Q9.out⟩
            · have ez : (z3 == 0) = false := by simpa using hz
              have kx := K6.out.below HB8.out K6.out.lt
              have y7 := kx.cell 7
              have y0 := kx.cell 0
              have f7 : (c.ag != (age : Int)) = false := by rw [HF.out.2.2.1]; simp
              have f0 : (c.st != 2) = false := by rw [HF.out.2.1]; rfl
              have Q9 := Lib.hid (U5.out.below HB8.out)
              clear hz kx hb7 hb8
              go_wp2_with fail
              go_roundg (gk - 1)
              case measure => have := HM.out; omega
              case rel => exact ⟨k + 1, age, c, by omega, by omega, by go_num, rfl, by have := HM.out; omega, HF.out.1, HF.out.2.1, HF.out.2.2.1, HF.out.2.2.2, Q9.out⟩
      · have cc1 : (y.x.k == 1) = false := by simp; omega
        have cc2 : (y.x.k == 2) = false := by simp; omega
        have cc5 : (y.x.k == 5) = false := by simpa using hk5
        obtain ⟨A6, D6, c6, e6, k6, _⟩ := U5.out
        have y7 := k6.cell 7
        have y0 := k6.cell 0
        have f7 : (c.ag != (age : Int)) = false := by rw [HF.out.2.2.1]; simp
        have f0 : (c.st != 2) = false := by rw [HF.out.2.1]; rfl
        clear k6 hk5 hk12
        go_wp2_with fail
        go_roundg (gk - 1)
        case measure => have := HM.out; omega
        case rel => exact ⟨k + 1, age, c, by omega, by omega, by go_num, rfl, by have := HM.out; omega, HF.out.1, HF.out.2.1, HF.out.2.2.1, HF.out.2.2.2, U5.out⟩
    · obtain rfl : k = l.length := by omega
      have d1' : decide ((l.length : Int) < (l.length : Int)) = false := by simp
      obtain ⟨_, _, _, _, _, _, _, _, bl5, _⟩ := U0.out
      have BL5 := Lib.hid bl5
      clear bl5
      go_wp2_with fail
      refine (WK.out _ BL5.out).mono ?_
      rintro e w9 ⟨rfl, b9⟩
      go_wp2_with fail
      go_ret
      exact ⟨rfl, btrans BL5.out b9⟩
end
theorem old_walk (tm : Int) (A1 : Option Addr) (l : List MvM) (c1 : Nat) (w : World) (hg : HasET w) (hr : Reads w w.heap.size 8 A1 l.length (cellsM l)) :
    Calls Tryd.prog 6 #[.int .i64 tm, .slice A1 l.length c1] w fun e w' => e = .returned (.bool true) ∧ Below w.heap.size w w' := by
  rcases Int.lt_or_le tm 1 with h | h1
  · exact old_a tm A1 l.length c1 w hg (.inl h)
  rcases Int.lt_or_le 20 tm with h | h2
  · exact old_a tm A1 l.length c1 w hg (.inr h)
  rcases Nat.lt_or_ge 60 l.length with h | hn
  · exact old_b tm A1 l.length c1 w hg h1 h2 h
  · exact old_c tm A1 l c1 w hg h1 h2 hn hr
end Go.Proofs.YtagclnmchkgpdaaDoor
