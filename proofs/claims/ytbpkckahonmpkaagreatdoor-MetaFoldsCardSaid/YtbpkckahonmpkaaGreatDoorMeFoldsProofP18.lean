/-
  Layer 18, the document's: Set.
-/
import Derived.Test.YtbpkckahonmpkaaGreatDoorMeFoldsProofP17
set_option linter.unusedVariables false
set_option linter.unusedSimpArgs false
namespace Go.Proofs.YtbpkckahonmpkaaGreatDoor
open Go.RowKit
/-- How the document puts an offset into its place. -/
def goP (p : Pd) : List Pd → Bool → List Pd
  | [], d => if d then [] else [p]
  | x :: t, d => (if d = false ∧ aheadB x p = false then [p] else []) ++ ((if aheadB x p = true ∨ aheadB p x = true then [x] else []) ++ goP p t (d || !(aheadB x p)))
theorem plI_posr (a b : Pd) : aheadP b a → 0 < plI a b := fun h => by
  have h1 := plI_neg a b
  have h2 := plI_zero a b
  have h3 : ¬ plI a b < 0 := fun k => by have := h1.1 k; have h5 : aheadP a b := this; rw [ahead_iff] at *; omega
  have h4 : ¬ plI a b = 0 := fun k => by have := h2.1 k; rw [ahead_iff] at *; omega
  omega
theorem goP_done (p : Pd) : ∀ l : List Pd, (∀ y ∈ l, aheadP p y) → goP p l true = l
  | [], _ => rfl
  | x :: t, h => by
    unfold goP
    rw [if_neg (by simp), if_pos (.inr (h x List.mem_cons_self)), Bool.true_or, goP_done p t (fun y hy => h y (List.mem_cons_of_mem _ hy))]
    rfl
theorem goP_keep (p : Pd) : ∀ l : List Pd, l.Pairwise aheadP → goP p l false = keepF (fun y => plI y p) l p
  | [], _ => rfl
  | x :: t, h => by
    have h' := List.pairwise_cons.1 h
    have c1 := plI_neg x p
    rw [keepF_cons]
    unfold goP
    cases hx : aheadB x p
    · have n1 : ¬ plI x p < 0 := fun k => by rw [c1.1 k] at hx; cases hx
      rw [if_pos ⟨rfl, rfl⟩, if_neg n1, Bool.false_or, show (!false) = true from rfl]
      by_cases hz : plI x p = 0
      · have hxp : ¬ aheadB p x = true := fun k => by have := plI_posr x p k; omega
        have := (plI_zero x p).1 hz
        rw [if_pos hz, if_neg (by simp [hxp]), goP_done p t (fun y hy => by have h1 := h'.1 y hy; rw [ahead_iff] at *; omega)]
        rfl
      · have hp : aheadP p x := plI_pos x p (by omega)
        rw [if_neg hz, if_pos (.inr hp), goP_done p t (fun y hy => ahead_tr _ _ _ hp (h'.1 y hy))]
        rfl
    · rw [if_neg (by simp), if_pos (.inl rfl), if_pos (c1.2 hx), Bool.false_or, show (!true) = false from rfl, goP_keep p t h'.2]
      rfl
/-- A round's worlds: the call's blocks, the box of what is looked at, the list that is made. -/
structure RdB (w : World) (n : Nat) (cs : List (TypeId × Array Value)) (xb : Nat) (t : TypeId) (xc : Array Value) (ou : List Pd) (A : Option Addr) (cc : Nat) (W : World) : Prop where
  ms : MkS w n cs W
  xl : w.heap.size + n ≤ xb
  bx : Blk W xb t xc
  ow : W.ownsRow (w.heap.size + n) 40 3 (.slice A ou.length cc) ou.length (cellsP ou)
  ne : ∀ y, (Value.slice A ou.length cc).ownBlock = some y → y ≠ xb
section
variable {w : World} {n : Nat} {cs : List (TypeId × Array Value)} {xb : Nat} {t : TypeId} {xc : Array Value} {ou : List Pd} {A : Option Addr} {cc : Nat} {W : World}
theorem RdB.start {W1 : World} (h : MkS w n cs W) (hl : cs.length = n) (ow : W.ownsRow (w.heap.size + n) 40 3 (.slice A ou.length cc) ou.length (cellsP ou)) (bx : Blk W1 W.heap.size t xc) (hb : Below W.heap.size W W1) : RdB w n cs W.heap.size t xc ou A cc W1 :=
  ⟨h.below hl hb, h.top, bx, own_below ow hb, fun y hy => by have := (ow.lt y hy).2; omega⟩
theorem RdB.below {W1 : World} (h : RdB w n cs xb t xc ou A cc W) (hl : cs.length = n) (hb : Below W.heap.size W W1) : RdB w n cs xb t xc ou A cc W1 :=
  ⟨h.ms.below hl hb, h.xl, h.bx.below hb h.bx.lt, own_below h.ow hb, h.ne⟩
theorem RdB.app {W3 : World} {ob : Obj} {ou' : List Pd} {A' : Option Addr} {c' : Nat} (h : RdB w n cs xb t xc ou A cc W) (hl : cs.length = n) (hg : (W.alloc ob).grownBy W3 (Value.slice A ou.length cc).ownBlock) (ow : W3.ownsRow (w.heap.size + n) 40 3 (.slice A' ou'.length c') ou'.length (cellsP ou')) (hat : (Value.slice A' ou'.length c').ownBlock = (Value.slice A ou.length cc).ownBlock ∨ (Value.slice A' ou'.length c').ownBlock = some (W.alloc ob).heap.size) : RdB w n cs xb t xc ou' A' c' W3 :=
  ⟨(h.ms.alloc hl ob).grown hl hg (fun y hy => (h.ow.lt y hy).1), h.xl, bk_grown_blk hg (h.bx.alloc ob) (fun e => h.ne _ e rfl), ow, fun y hy e => by
    rcases hat with k | k
    · rw [k] at hy; exact h.ne y hy e
    · rw [k, World.size_alloc] at hy; injection hy with hy; have := h.bx.lt; omega⟩
end
theorem pends_pw {c : Co} (h : mayB c = true) : c.qs.Pairwise aheadP := by
  by_cases h0 : c.st = 0
  · rw [may_none h h0]; exact List.Pairwise.nil
  have h1 := may_range h h0
  unfold rangeB at h1
  simp only [Bool.and_eq_true, decide_eq_true_eq] at h1
  obtain ⟨_, _, _, _, _, _, _, _, _, _, hqs⟩ := h1
  rw [adjB_iff] at hqs
  exact adj_pw ahead_tr hqs
theorem infoPd3 : (Tryz.prog.info? 40).map (·.size) = some 3 := by kernel_rfl
theorem reads_newP (w : World) (t : TypeId) (l : List Pd) : Reads (w.alloc (.cells (cellsP l).toArray t)) (w.heap.size + 1) 3 (some ⟨w.heap.size, 0, none⟩) l.length (cellsP l) := by
  refine ⟨by rw [length_cellsP], fun _ => ⟨_, rfl, Nat.lt_succ_self _, fun j u hu => ?_⟩⟩
  rw [add_none, Nat.zero_add]
  have := (Blk.new w t (cellsP l).toArray).cell j
  rw [this]
  simpa using hu
theorem load_pd {W : World} {b o : Nat} {x : Pd} (h : W.cell? ⟨b, o, none⟩ = some (.int .i64 x.1) ∧ W.cell? ⟨b, o + 1, none⟩ = some (.int .i64 x.2.1) ∧ W.cell? ⟨b, o + 2, none⟩ = some (.int .i64 x.2.2)) :
    (loadCells ⟨b, o, none⟩ 3).run Tryz.prog W = .ok #[.int .i64 x.1, .int .i64 x.2.1, .int .i64 x.2.2] W := by
  have := run_loadCells_list (P := Tryz.prog) W ⟨b, o, none⟩ [.int .i64 x.1, .int .i64 x.2.1, .int .i64 x.2.2] (fun j v hv => by
    rw [Addr.add_mid]
    match j, hv with
    | 0, hv => simp at hv; subst hv; exact h.1
    | 1, hv => simp at hv; subst hv; exact h.2.1
    | 2, hv => simp at hv; subst hv; exact h.2.2)
  simpa using this
section
attribute [-go_sem] loadCells storeVar
set_option maxRecDepth 100000 in
theorem rset_ret (x : Co) (A5 D5 : Option Addr) (c5 e5 : Nat) (n : Int) (tmps : Array Value) (b : Nat) (W : World) (h2 : tmps[4]?.getD undef = .pointer (some ⟨b, 0, none⟩)) (h3 : tmps[5]?.getD undef = .int .i64 n) (hK : Blk W b 29 #[.int .i8 x.st, .int .i64 x.pid, .int .i64 x.ep, .int .i64 x.tm, .int .i64 x.th, .slice A5 x.ps.length c5, .slice D5 x.qs.length e5, .int .i64 x.ag]) :
    (results Tryz.f94 tmps).run Tryz.prog W = .ok (.tuple #[(.agg #[.int .i8 x.st, .int .i64 x.pid, .int .i64 x.ep, .int .i64 x.tm, .int .i64 x.th, .slice A5 x.ps.length c5, .slice D5 x.qs.length e5, .int .i64 x.ag]), .int .i64 n]) W := by
  have LC := bk_load (P := Tryz.prog) 8 hK rfl
  clear hK
  simp [results, Tryz.results94, go_sem, h2, h3, LC]
set_option maxRecDepth 100000 in
set_option maxHeartbeats 2000000 in
theorem rset_a (c : Co) (A1 D1 : Option Addr) (c1 e1 : Nat) (p : Pd) (w : World) (h1 : CoR w w.heap.size c A1 D1) (h8 : -128 ≤ c.st) (h9 : c.st ≤ 127) (hmay : mayB c = false) :
    Calls Tryz.prog 94 #[(.agg #[.int .i8 c.st, .int .i64 c.pid, .int .i64 c.ep, .int .i64 c.tm, .int .i64 c.th, .slice A1 c.ps.length c1, .slice D1 c.qs.length e1, .int .i64 c.ag]), .agg #[.int .i64 p.1, .int .i64 p.2.1, .int .i64 p.2.2]] w (MvP c A1 D1 (setC c p) (setE c p) w) := by
  have HE := Lib.hid (show setE c p = 2 by unfold setE; rw [chk_no hmay])
  have HC := Lib.hid (show setC c p = Co0 by unfold setC; rw [HE.out, if_neg (by decide)])

  obtain ⟨W0, hW0⟩ : ∃ W0, W0 = ((w.alloc (.cells #[.int .i8 c.st, .int .i64 c.pid, .int .i64 c.ep, .int .i64 c.tm, .int .i64 c.th, .slice A1 c.ps.length c1, .slice D1 c.qs.length e1, .int .i64 c.ag] 29)).alloc (.cells #[.int .i64 p.1, .int .i64 p.2.1, .int .i64 p.2.2] 40)).alloc (.cells #[.int .i8 0, .int .i64 0, .int .i64 0, .int .i64 0, .int .i64 0, .slice none 0 0, .slice none 0 0, .int .i64 0] 29) := ⟨_, rfl⟩
  have s0 : W0.heap.size = w.heap.size + 1 + 1 + 1 := by rw [hW0]; simp
  have B0 : Below w.heap.size w W0 := by rw [hW0]; exact bal (bal (bal (Below.refl _ _) _) _) _
  have K1 : Blk W0 w.heap.size 29 #[.int .i8 c.st, .int .i64 c.pid, .int .i64 c.ep, .int .i64 c.tm, .int .i64 c.th, .slice A1 c.ps.length c1, .slice D1 c.qs.length e1, .int .i64 c.ag] := by rw [hW0]; exact ((Blk.new w 29 #[.int .i8 c.st, .int .i64 c.pid, .int .i64 c.ep, .int .i64 c.tm, .int .i64 c.th, .slice A1 c.ps.length c1, .slice D1 c.qs.length e1, .int .i64 c.ag]).alloc _).alloc _
  have K2 : Blk W0 (w.heap.size + 1) 40 #[.int .i64 p.1, .int .i64 p.2.1, .int .i64 p.2.2] := by rw [hW0]; exact (bk_new _ 40 #[.int .i64 p.1, .int .i64 p.2.1, .int .i64 p.2.2] (by simp)).alloc _
  have K3 : Blk W0 (w.heap.size + 1 + 1) 29 #[.int .i8 0, .int .i64 0, .int .i64 0, .int .i64 0, .int .i64 0, .slice none 0 0, .slice none 0 0, .int .i64 0] := by rw [hW0]; exact bk_new _ 29 #[.int .i8 0, .int .i64 0, .int .i64 0, .int .i64 0, .int .i64 0, .slice none 0 0, .slice none 0 0, .int .i64 0] (by simp)
  have HW := Lib.hid hW0
  have HS := Lib.hid s0
  have HB := Lib.hid B0
  have HK1 := Lib.hid K1
  have HK2 := Lib.hid K2
  have HK3 := Lib.hid K3
  have H1 := Lib.hid h1
  have MY := Lib.hid (rMay_any c A1 D1 c1 e1 w.heap.size W0 (h1.below B0) B0.size h8 h9)
  rw [hmay] at MY
  have L0 := bk_load (P := Tryz.prog) 8 K1 rfl
  clear hW0 s0 B0 K1 K2 K3 h1 h8 h9 hmay 
  go_enter Tryz.func94, Tryz.ntmps94
  go_upto_region 1 with (fail)
  rw [← HW.out]
  go_wp2_with fail
  refine MY.out.mono ?_
  rintro e w1 ⟨rfl, b1⟩
  have B1 := Lib.hid (show Below W0.heap.size W0 w1 from b1)
  clear L0 b1
  have kx := HK1.out.below B1.out (by have := HS.out; omega)
  have x0 := kx.cell 0
  have x1 := kx.cell 1
  have x2 := kx.cell 2
  have x3 := kx.cell 3
  have x4 := kx.cell 4
  have x5 := kx.cell 5
  have x6 := kx.cell 6
  have L1 := bk_load (P := Tryz.prog) 8 kx rfl
  have LP := bk_load (P := Tryz.prog) 3 (HK2.out.below B1.out (by have := HS.out; omega)) rfl
  clear kx
  obtain ⟨W9, st, kk, fb, fh, fs⟩ := bk_store (P := Tryz.prog) (ty := 29) (cs := #[.int .i8 0, .int .i64 0, .int .i64 0, .int .i64 0, .int .i64 0, .slice none 0 0, .slice none 0 0, .int .i64 0]) 8 (HK3.out.below B1.out (by have := HS.out; omega)) infoCo rfl rfl (by simp [Value.oneCell'])
  have BB := Lib.hid (fb w.heap.size w (by omega) (HB.out.trans (B1.out.mono HB.out.size)))
  have KK := Lib.hid kk
  clear kk fb fh fs
  go_wp2_with fail
  refine bodyPost_ret (v := .tuple #[.agg #[.int .i8 0, .int .i64 0, .int .i64 0, .int .i64 0, .int .i64 0, .slice none 0 0, .slice none 0 0, .int .i64 0], .int .i64 2]) (rset_ret Co0 none none 0 0 _ _ (w.heap.size + 1 + 1) _ rfl rfl KK.out) rfl ?_
  rw [HE.out, HC.out]
  exact ⟨none, none, 0, 0, rfl, ⟨Reads.none_, Reads.none_, Nat.zero_le _, Nat.zero_le _⟩, BB.out, fun b hb _ _ => ⟨offB_none', offB_none'⟩⟩
set_option maxRecDepth 100000 in
set_option maxHeartbeats 2000000 in
theorem rset_b (c : Co) (A1 D1 : Option Addr) (c1 e1 : Nat) (p : Pd) (w : World) (h1 : CoR w w.heap.size c A1 D1) (h8 : -128 ≤ c.st) (h9 : c.st ≤ 127) (hmay : mayB c = true) (kp : pendB p = false) :
    Calls Tryz.prog 94 #[(.agg #[.int .i8 c.st, .int .i64 c.pid, .int .i64 c.ep, .int .i64 c.tm, .int .i64 c.th, .slice A1 c.ps.length c1, .slice D1 c.qs.length e1, .int .i64 c.ag]), .agg #[.int .i64 p.1, .int .i64 p.2.1, .int .i64 p.2.2]] w (MvP c A1 D1 (setC c p) (setE c p) w) := by
  have HE := Lib.hid (show setE c p = 2 by unfold setE chkE; rw [if_pos (.inl kp)])
  have HC := Lib.hid (show setC c p = Co0 by unfold setC; rw [HE.out, if_neg (by decide)])
  have PW := Lib.hid (fun W => pend_any p W)
  rw [kp] at PW
  obtain ⟨W0, hW0⟩ : ∃ W0, W0 = ((w.alloc (.cells #[.int .i8 c.st, .int .i64 c.pid, .int .i64 c.ep, .int .i64 c.tm, .int .i64 c.th, .slice A1 c.ps.length c1, .slice D1 c.qs.length e1, .int .i64 c.ag] 29)).alloc (.cells #[.int .i64 p.1, .int .i64 p.2.1, .int .i64 p.2.2] 40)).alloc (.cells #[.int .i8 0, .int .i64 0, .int .i64 0, .int .i64 0, .int .i64 0, .slice none 0 0, .slice none 0 0, .int .i64 0] 29) := ⟨_, rfl⟩
  have s0 : W0.heap.size = w.heap.size + 1 + 1 + 1 := by rw [hW0]; simp
  have B0 : Below w.heap.size w W0 := by rw [hW0]; exact bal (bal (bal (Below.refl _ _) _) _) _
  have K1 : Blk W0 w.heap.size 29 #[.int .i8 c.st, .int .i64 c.pid, .int .i64 c.ep, .int .i64 c.tm, .int .i64 c.th, .slice A1 c.ps.length c1, .slice D1 c.qs.length e1, .int .i64 c.ag] := by rw [hW0]; exact ((Blk.new w 29 #[.int .i8 c.st, .int .i64 c.pid, .int .i64 c.ep, .int .i64 c.tm, .int .i64 c.th, .slice A1 c.ps.length c1, .slice D1 c.qs.length e1, .int .i64 c.ag]).alloc _).alloc _
  have K2 : Blk W0 (w.heap.size + 1) 40 #[.int .i64 p.1, .int .i64 p.2.1, .int .i64 p.2.2] := by rw [hW0]; exact (bk_new _ 40 #[.int .i64 p.1, .int .i64 p.2.1, .int .i64 p.2.2] (by simp)).alloc _
  have K3 : Blk W0 (w.heap.size + 1 + 1) 29 #[.int .i8 0, .int .i64 0, .int .i64 0, .int .i64 0, .int .i64 0, .slice none 0 0, .slice none 0 0, .int .i64 0] := by rw [hW0]; exact bk_new _ 29 #[.int .i8 0, .int .i64 0, .int .i64 0, .int .i64 0, .int .i64 0, .slice none 0 0, .slice none 0 0, .int .i64 0] (by simp)
  have HW := Lib.hid hW0
  have HS := Lib.hid s0
  have HB := Lib.hid B0
  have HK1 := Lib.hid K1
  have HK2 := Lib.hid K2
  have HK3 := Lib.hid K3
  have H1 := Lib.hid h1
  have MY := Lib.hid (rMay_any c A1 D1 c1 e1 w.heap.size W0 (h1.below B0) B0.size h8 h9)
  rw [hmay] at MY
  have L0 := bk_load (P := Tryz.prog) 8 K1 rfl
  clear hW0 s0 B0 K1 K2 K3 h1 h8 h9 hmay kp
  go_enter Tryz.func94, Tryz.ntmps94
  go_upto_region 1 with (fail)
  rw [← HW.out]
  go_wp2_with fail
  refine MY.out.mono ?_
  rintro e w1 ⟨rfl, b1⟩
  have B1 := Lib.hid (show Below W0.heap.size W0 w1 from b1)
  clear L0 b1
  have kx := HK1.out.below B1.out (by have := HS.out; omega)
  have x0 := kx.cell 0
  have x1 := kx.cell 1
  have x2 := kx.cell 2
  have x3 := kx.cell 3
  have x4 := kx.cell 4
  have x5 := kx.cell 5
  have x6 := kx.cell 6
  have L1 := bk_load (P := Tryz.prog) 8 kx rfl
  have LP := bk_load (P := Tryz.prog) 3 (HK2.out.below B1.out (by have := HS.out; omega)) rfl
  clear kx
  go_wp2_with fail
  refine (PW.out _).mono ?_
  rintro e w2 ⟨rfl, b2⟩
  have B2 := Lib.hid (B1.out.trans (b2.mono B1.out.size))
  clear b2
  clear x0 x1 x2 x3 x4 x5 x6 L1 LP
  have kx := HK1.out.below B2.out (by have := HS.out; omega)
  have x0 := kx.cell 0
  have x1 := kx.cell 1
  have x2 := kx.cell 2
  have x3 := kx.cell 3
  have x4 := kx.cell 4
  have x5 := kx.cell 5
  have x6 := kx.cell 6
  have L1 := bk_load (P := Tryz.prog) 8 kx rfl
  have LP := bk_load (P := Tryz.prog) 3 (HK2.out.below B2.out (by have := HS.out; omega)) rfl
  clear kx
  obtain ⟨W9, st, kk, fb, fh, fs⟩ := bk_store (P := Tryz.prog) (ty := 29) (cs := #[.int .i8 0, .int .i64 0, .int .i64 0, .int .i64 0, .int .i64 0, .slice none 0 0, .slice none 0 0, .int .i64 0]) 8 (HK3.out.below B2.out (by have := HS.out; omega)) infoCo rfl rfl (by simp [Value.oneCell'])
  have BB := Lib.hid (fb w.heap.size w (by omega) (HB.out.trans (B2.out.mono HB.out.size)))
  have KK := Lib.hid kk
  clear kk fb fh fs
  go_wp2_with fail
  refine bodyPost_ret (v := .tuple #[.agg #[.int .i8 0, .int .i64 0, .int .i64 0, .int .i64 0, .int .i64 0, .slice none 0 0, .slice none 0 0, .int .i64 0], .int .i64 2]) (rset_ret Co0 none none 0 0 _ _ (w.heap.size + 1 + 1) _ rfl rfl KK.out) rfl ?_
  rw [HE.out, HC.out]
  exact ⟨none, none, 0, 0, rfl, ⟨Reads.none_, Reads.none_, Nat.zero_le _, Nat.zero_le _⟩, BB.out, fun b hb _ _ => ⟨offB_none', offB_none'⟩⟩
set_option maxRecDepth 100000 in
set_option maxHeartbeats 2000000 in
theorem rset_c (c : Co) (A1 D1 : Option Addr) (c1 e1 : Nat) (p : Pd) (w : World) (h1 : CoR w w.heap.size c A1 D1) (h8 : -128 ≤ c.st) (h9 : c.st ≤ 127) (hmay : mayB c = true) (kp : pendB p = true) (ki : idlB c = false) (k2 : ¬ c.st = 2) :
    Calls Tryz.prog 94 #[(.agg #[.int .i8 c.st, .int .i64 c.pid, .int .i64 c.ep, .int .i64 c.tm, .int .i64 c.th, .slice A1 c.ps.length c1, .slice D1 c.qs.length e1, .int .i64 c.ag]), .agg #[.int .i64 p.1, .int .i64 p.2.1, .int .i64 p.2.2]] w (MvP c A1 D1 (setC c p) (setE c p) w) := by
  have HE := Lib.hid (show setE c p = 180 by unfold setE; rw [kp, chk_of hmay, begins_of hmay]; by_cases h0 : c.st = 0 <;> simp [h0, ki, k2])
  have HC := Lib.hid (show setC c p = Co0 by unfold setC; rw [HE.out, if_neg (by decide)])
  have ID := Lib.hid (fun W => idle_any c A1 D1 c1 e1 W)
  have PW := Lib.hid (fun W => pend_any p W)
  rw [kp] at PW
  rw [ki] at ID
  have z2 : (c.st != 2) = true := by simpa using k2
  obtain ⟨W0, hW0⟩ : ∃ W0, W0 = ((w.alloc (.cells #[.int .i8 c.st, .int .i64 c.pid, .int .i64 c.ep, .int .i64 c.tm, .int .i64 c.th, .slice A1 c.ps.length c1, .slice D1 c.qs.length e1, .int .i64 c.ag] 29)).alloc (.cells #[.int .i64 p.1, .int .i64 p.2.1, .int .i64 p.2.2] 40)).alloc (.cells #[.int .i8 0, .int .i64 0, .int .i64 0, .int .i64 0, .int .i64 0, .slice none 0 0, .slice none 0 0, .int .i64 0] 29) := ⟨_, rfl⟩
  have s0 : W0.heap.size = w.heap.size + 1 + 1 + 1 := by rw [hW0]; simp
  have B0 : Below w.heap.size w W0 := by rw [hW0]; exact bal (bal (bal (Below.refl _ _) _) _) _
  have K1 : Blk W0 w.heap.size 29 #[.int .i8 c.st, .int .i64 c.pid, .int .i64 c.ep, .int .i64 c.tm, .int .i64 c.th, .slice A1 c.ps.length c1, .slice D1 c.qs.length e1, .int .i64 c.ag] := by rw [hW0]; exact ((Blk.new w 29 #[.int .i8 c.st, .int .i64 c.pid, .int .i64 c.ep, .int .i64 c.tm, .int .i64 c.th, .slice A1 c.ps.length c1, .slice D1 c.qs.length e1, .int .i64 c.ag]).alloc _).alloc _
  have K2 : Blk W0 (w.heap.size + 1) 40 #[.int .i64 p.1, .int .i64 p.2.1, .int .i64 p.2.2] := by rw [hW0]; exact (bk_new _ 40 #[.int .i64 p.1, .int .i64 p.2.1, .int .i64 p.2.2] (by simp)).alloc _
  have K3 : Blk W0 (w.heap.size + 1 + 1) 29 #[.int .i8 0, .int .i64 0, .int .i64 0, .int .i64 0, .int .i64 0, .slice none 0 0, .slice none 0 0, .int .i64 0] := by rw [hW0]; exact bk_new _ 29 #[.int .i8 0, .int .i64 0, .int .i64 0, .int .i64 0, .int .i64 0, .slice none 0 0, .slice none 0 0, .int .i64 0] (by simp)
  have HW := Lib.hid hW0
  have HS := Lib.hid s0
  have HB := Lib.hid B0
  have HK1 := Lib.hid K1
  have HK2 := Lib.hid K2
  have HK3 := Lib.hid K3
  have H1 := Lib.hid h1
  have MY := Lib.hid (rMay_any c A1 D1 c1 e1 w.heap.size W0 (h1.below B0) B0.size h8 h9)
  rw [hmay] at MY
  have L0 := bk_load (P := Tryz.prog) 8 K1 rfl
  clear hW0 s0 B0 K1 K2 K3 h1 h8 h9 hmay kp ki k2
  go_enter Tryz.func94, Tryz.ntmps94
  go_upto_region 1 with (fail)
  rw [← HW.out]
  go_wp2_with fail
  refine MY.out.mono ?_
  rintro e w1 ⟨rfl, b1⟩
  have B1 := Lib.hid (show Below W0.heap.size W0 w1 from b1)
  clear L0 b1
  have kx := HK1.out.below B1.out (by have := HS.out; omega)
  have x0 := kx.cell 0
  have x1 := kx.cell 1
  have x2 := kx.cell 2
  have x3 := kx.cell 3
  have x4 := kx.cell 4
  have x5 := kx.cell 5
  have x6 := kx.cell 6
  have L1 := bk_load (P := Tryz.prog) 8 kx rfl
  have LP := bk_load (P := Tryz.prog) 3 (HK2.out.below B1.out (by have := HS.out; omega)) rfl
  clear kx
  go_wp2_with fail
  refine (PW.out _).mono ?_
  rintro e w2 ⟨rfl, b2⟩
  have B2 := Lib.hid (B1.out.trans (b2.mono B1.out.size))
  clear b2
  clear x0 x1 x2 x3 x4 x5 x6 L1 LP
  have kx := HK1.out.below B2.out (by have := HS.out; omega)
  have x0 := kx.cell 0
  have x1 := kx.cell 1
  have x2 := kx.cell 2
  have x3 := kx.cell 3
  have x4 := kx.cell 4
  have x5 := kx.cell 5
  have x6 := kx.cell 6
  have L1 := bk_load (P := Tryz.prog) 8 kx rfl
  have LP := bk_load (P := Tryz.prog) 3 (HK2.out.below B2.out (by have := HS.out; omega)) rfl
  clear kx
  go_wp2_with fail
  refine (ID.out _).mono ?_
  rintro e w3 ⟨rfl, b3⟩
  have B3 := Lib.hid (B2.out.trans (b3.mono B2.out.size))
  clear b3
  clear x0 x1 x2 x3 x4 x5 x6 L1 LP
  have kx := HK1.out.below B3.out (by have := HS.out; omega)
  have x0 := kx.cell 0
  have x1 := kx.cell 1
  have x2 := kx.cell 2
  have x3 := kx.cell 3
  have x4 := kx.cell 4
  have x5 := kx.cell 5
  have x6 := kx.cell 6
  have L1 := bk_load (P := Tryz.prog) 8 kx rfl
  have LP := bk_load (P := Tryz.prog) 3 (HK2.out.below B3.out (by have := HS.out; omega)) rfl
  clear kx
  obtain ⟨W9, st, kk, fb, fh, fs⟩ := bk_store (P := Tryz.prog) (ty := 29) (cs := #[.int .i8 0, .int .i64 0, .int .i64 0, .int .i64 0, .int .i64 0, .slice none 0 0, .slice none 0 0, .int .i64 0]) 8 (HK3.out.below B3.out (by have := HS.out; omega)) infoCo rfl rfl (by simp [Value.oneCell'])
  have BB := Lib.hid (fb w.heap.size w (by omega) (HB.out.trans (B3.out.mono HB.out.size)))
  have KK := Lib.hid kk
  clear kk fb fh fs
  go_wp2_with fail
  refine bodyPost_ret (v := .tuple #[.agg #[.int .i8 0, .int .i64 0, .int .i64 0, .int .i64 0, .int .i64 0, .slice none 0 0, .slice none 0 0, .int .i64 0], .int .i64 180]) (rset_ret Co0 none none 0 0 _ _ (w.heap.size + 1 + 1) _ rfl rfl KK.out) rfl ?_
  rw [HE.out, HC.out]
  exact ⟨none, none, 0, 0, rfl, ⟨Reads.none_, Reads.none_, Nat.zero_le _, Nat.zero_le _⟩, BB.out, fun b hb _ _ => ⟨offB_none', offB_none'⟩⟩
set_option maxRecDepth 100000 in
set_option maxHeartbeats 2000000 in
theorem rset_di (c : Co) (A1 D1 : Option Addr) (c1 e1 : Nat) (p : Pd) (w : World) (h1 : CoR w w.heap.size c A1 D1) (h8 : -128 ≤ c.st) (h9 : c.st ≤ 127) (hmay : mayB c = true) (kp : pendB p = true) (k3 : idlB c = true ∨ c.st = 2) (k4 : idlB c = true) :
    Calls Tryz.prog 94 #[(.agg #[.int .i8 c.st, .int .i64 c.pid, .int .i64 c.ep, .int .i64 c.tm, .int .i64 c.th, .slice A1 c.ps.length c1, .slice D1 c.qs.length e1, .int .i64 c.ag]), .agg #[.int .i64 p.1, .int .i64 p.2.1, .int .i64 p.2.2]] w (MvP c A1 D1 (setC c p) (setE c p) w) := by
  have HE := Lib.hid (show setE c p = 0 by unfold setE; rw [kp, chk_of hmay, begins_of hmay, if_neg (show ¬ c.st = 0 by rcases k3 with h | h; have := (idl_iff c).1 h; omega; omega)]; rcases k3 with h | h; by_cases h2 : c.st = 2; simp [h2]; simp [h2, h]; simp [h])
  have HC := Lib.hid (show setC c p = { c with st := 2, qs := keepF (fun y => plI y p) c.qs p } by unfold setC; rw [HE.out, if_pos rfl])
  have ID := Lib.hid (fun W => idle_any c A1 D1 c1 e1 W)
  have PW := Lib.hid (fun W => pend_any p W)
  rw [kp] at PW
  rw [k4] at ID
  have PWW := Lib.hid (pends_pw hmay)
  have HPS := Lib.hid (may_small hmay).2
  obtain ⟨W0, hW0⟩ : ∃ W0, W0 = ((w.alloc (.cells #[.int .i8 c.st, .int .i64 c.pid, .int .i64 c.ep, .int .i64 c.tm, .int .i64 c.th, .slice A1 c.ps.length c1, .slice D1 c.qs.length e1, .int .i64 c.ag] 29)).alloc (.cells #[.int .i64 p.1, .int .i64 p.2.1, .int .i64 p.2.2] 40)).alloc (.cells #[.int .i8 0, .int .i64 0, .int .i64 0, .int .i64 0, .int .i64 0, .slice none 0 0, .slice none 0 0, .int .i64 0] 29) := ⟨_, rfl⟩
  have s0 : W0.heap.size = w.heap.size + 1 + 1 + 1 := by rw [hW0]; simp
  have B0 : Below w.heap.size w W0 := by rw [hW0]; exact bal (bal (bal (Below.refl _ _) _) _) _
  have K1 : Blk W0 w.heap.size 29 #[.int .i8 c.st, .int .i64 c.pid, .int .i64 c.ep, .int .i64 c.tm, .int .i64 c.th, .slice A1 c.ps.length c1, .slice D1 c.qs.length e1, .int .i64 c.ag] := by rw [hW0]; exact ((Blk.new w 29 #[.int .i8 c.st, .int .i64 c.pid, .int .i64 c.ep, .int .i64 c.tm, .int .i64 c.th, .slice A1 c.ps.length c1, .slice D1 c.qs.length e1, .int .i64 c.ag]).alloc _).alloc _
  have K2 : Blk W0 (w.heap.size + 1) 40 #[.int .i64 p.1, .int .i64 p.2.1, .int .i64 p.2.2] := by rw [hW0]; exact (bk_new _ 40 #[.int .i64 p.1, .int .i64 p.2.1, .int .i64 p.2.2] (by simp)).alloc _
  have K3 : Blk W0 (w.heap.size + 1 + 1) 29 #[.int .i8 0, .int .i64 0, .int .i64 0, .int .i64 0, .int .i64 0, .slice none 0 0, .slice none 0 0, .int .i64 0] := by rw [hW0]; exact bk_new _ 29 #[.int .i8 0, .int .i64 0, .int .i64 0, .int .i64 0, .int .i64 0, .slice none 0 0, .slice none 0 0, .int .i64 0] (by simp)
  have HW := Lib.hid hW0
  have HS := Lib.hid s0
  have HB := Lib.hid B0
  have HK1 := Lib.hid K1
  have HK2 := Lib.hid K2
  have HK3 := Lib.hid K3
  have H1 := Lib.hid h1
  have MY := Lib.hid (rMay_any c A1 D1 c1 e1 w.heap.size W0 (h1.below B0) B0.size h8 h9)
  rw [hmay] at MY
  have L0 := bk_load (P := Tryz.prog) 8 K1 rfl
  clear hW0 s0 B0 K1 K2 K3 h1 h8 h9 hmay kp k3 k4
  go_enter Tryz.func94, Tryz.ntmps94
  go_upto_region 1 with (fail)
  rw [← HW.out]
  go_wp2_with fail
  refine MY.out.mono ?_
  rintro e w1 ⟨rfl, b1⟩
  have B1 := Lib.hid (show Below W0.heap.size W0 w1 from b1)
  clear L0 b1
  have kx := HK1.out.below B1.out (by have := HS.out; omega)
  have x0 := kx.cell 0
  have x1 := kx.cell 1
  have x2 := kx.cell 2
  have x3 := kx.cell 3
  have x4 := kx.cell 4
  have x5 := kx.cell 5
  have x6 := kx.cell 6
  have L1 := bk_load (P := Tryz.prog) 8 kx rfl
  have LP := bk_load (P := Tryz.prog) 3 (HK2.out.below B1.out (by have := HS.out; omega)) rfl
  clear kx
  go_wp2_with fail
  refine (PW.out _).mono ?_
  rintro e w2 ⟨rfl, b2⟩
  have B2 := Lib.hid (B1.out.trans (b2.mono B1.out.size))
  clear b2
  clear x0 x1 x2 x3 x4 x5 x6 L1 LP
  have kx := HK1.out.below B2.out (by have := HS.out; omega)
  have x0 := kx.cell 0
  have x1 := kx.cell 1
  have x2 := kx.cell 2
  have x3 := kx.cell 3
  have x4 := kx.cell 4
  have x5 := kx.cell 5
  have x6 := kx.cell 6
  have L1 := bk_load (P := Tryz.prog) 8 kx rfl
  have LP := bk_load (P := Tryz.prog) 3 (HK2.out.below B2.out (by have := HS.out; omega)) rfl
  clear kx
  go_wp2_with fail
  refine (ID.out _).mono ?_
  rintro e w3 ⟨rfl, b3⟩
  have B3 := Lib.hid (B2.out.trans (b3.mono B2.out.size))
  clear b3
  clear x0 x1 x2 x3 x4 x5 x6 L1 LP
  have kx := HK1.out.below B3.out (by have := HS.out; omega)
  have x0 := kx.cell 0
  have x1 := kx.cell 1
  have x2 := kx.cell 2
  have x3 := kx.cell 3
  have x4 := kx.cell 4
  have x5 := kx.cell 5
  have x6 := kx.cell 6
  have L1 := bk_load (P := Tryz.prog) 8 kx rfl
  have LP := bk_load (P := Tryz.prog) 3 (HK2.out.below B3.out (by have := HS.out; omega)) rfl
  clear kx
  obtain ⟨i0, hi0, hz0, hz1, hz2⟩ := info_parts infoP
  have kx := HK1.out.below B3.out (by have := HS.out; omega)
  have st5 := store_i8 2 (kx.cell 0) (kx.frozen 0)
  have k5 : Blk (w3.setCell ⟨w.heap.size, 0, none⟩ (.int .i8 2)) w.heap.size 29 #[.int .i8 2, .int .i64 c.pid, .int .i64 c.ep, .int .i64 c.tm, .int .i64 c.th, .slice A1 c.ps.length c1, .slice D1 c.qs.length e1, .int .i64 c.ag] := kx.set_ 0 (.int .i8 2)
  have k25 := (HK2.out.below B3.out (by have := HS.out; omega)).far (p := ⟨w.heap.size, 0, none⟩) (by simp) (.int .i8 2)
  have k35 := (HK3.out.below B3.out (by have := HS.out; omega)).far (p := ⟨w.heap.size, 0, none⟩) (by simp; omega) (.int .i8 2)
  have b5 := (HB.out.trans (B3.out.mono HB.out.size)).setCell (p := ⟨w.heap.size, 0, none⟩) (Nat.le_refl _) (.int .i8 2)
  have M5 := Lib.hid (show MkS w 3 [(29, #[.int .i8 2, .int .i64 c.pid, .int .i64 c.ep, .int .i64 c.tm, .int .i64 c.th, .slice A1 c.ps.length c1, .slice D1 c.qs.length e1, .int .i64 c.ag]), (40, #[.int .i64 p.1, .int .i64 p.2.1, .int .i64 p.2.2]), (29, #[.int .i8 0, .int .i64 0, .int .i64 0, .int .i64 0, .int .i64 0, .slice none 0 0, .slice none 0 0, .int .i64 0])] (w3.setCell ⟨w.heap.size, 0, none⟩ (.int .i8 2)) from ⟨fun j t a hj => by
    match j, hj with
    | 0, hj => simp at hj; obtain ⟨rfl, rfl⟩ := hj; exact k5
    | 1, hj => simp at hj; obtain ⟨rfl, rfl⟩ := hj; exact k25
    | 2, hj => simp at hj; obtain ⟨rfl, rfl⟩ := hj; exact k35, b5, by have := k35.lt; omega⟩)
  clear kx k5 k25 k35 b5
  go_upto_region 6 with (fail)
  clear st5 x0 x1 x2 x3 x4 x5 x6 L1 LP
  generalize w3.setCell ⟨w.heap.size, 0, none⟩ (.int .i8 2) = W5 at *
  go_wp2_with fail
  go_loopg [6, 7, 8, 9] c.qs.length (fun mm y1 y2 y3 y4 wr => ∃ (k : Nat) (d : Bool) (ou : List Pd) (A : Option Addr) (cc : Nat), k ≤ c.qs.length ∧ y3 = .int .i64 k ∧ y2 = .bool d ∧ y1 = .slice A ou.length cc ∧ mm = c.qs.length - k ∧ ou.length ≤ k + k ∧ ou ++ goP p (c.qs.drop k) d = keepF (fun y => plI y p) c.qs p ∧ wr.ownsRow (w.heap.size + 3) 40 3 (.slice A ou.length cc) ou.length (cellsP ou) ∧ MkS w 3 [(29, #[.int .i8 2, .int .i64 c.pid, .int .i64 c.ep, .int .i64 c.tm, .int .i64 c.th, .slice A1 c.ps.length c1, .slice D1 c.qs.length e1, .int .i64 c.ag]), (40, #[.int .i64 p.1, .int .i64 p.2.1, .int .i64 p.2.2]), (29, #[.int .i8 0, .int .i64 0, .int .i64 0, .int .i64 0, .int .i64 0, .slice none 0 0, .slice none 0 0, .int .i64 0])] wr)
  case atStart => exact ⟨0, false, [], none, 0, Nat.zero_le _, rfl, rfl, rfl, by omega, by simp, by rw [List.nil_append, List.drop_zero]; exact goP_keep p c.qs PWW.out, World.ownsRow_nil _ _ _ _, M5.out⟩
  case round =>
    obtain ⟨k, d, ou, A, cc, hk, rfl, rfl, rfl, hmm, hou, hres, hown, hms⟩ := hrel
    have HM := Lib.hid hmm
    have HRS := Lib.hid hres
    have OW := Lib.hid hown
    have MS := Lib.hid hms
    have x6 := hms.b0.cell 6
    have hl3 : c.qs.length ≤ 6 := HPS.out
    have hle : ou.length ≤ 12 := by omega
    clear hmm hres hown hms
    by_cases hlt : k < c.qs.length
    · have d1 : decide ((k : Int) < (c.qs.length : Int)) = true := by simp; omega
      obtain ⟨x, hz⟩ : ∃ z, c.qs[k]? = some z := ⟨_, List.getElem?_eq_getElem hlt⟩
      have hdz : c.qs.drop k = x :: c.qs.drop (k + 1) := by
        rw [List.drop_eq_getElem_cons hlt]
        congr 1
        rw [List.getElem?_eq_getElem hlt] at hz
        exact Option.some.inj hz
      obtain ⟨b1, o1, rfl, hb1, hc1⟩ := H1.out.2.1.plain3 (by omega)
      have LQ : (loadCells ⟨b1, o1 + k * 3, none⟩ 3).run Tryz.prog wr = .ok #[.int .i64 x.1, .int .i64 x.2.1, .int .i64 x.2.2] wr := by
        have hh := hc1 k _ hz
        exact load_pd (x := x) ⟨by rw [MS.out.bel.cell (by exact hb1)]; exact hh.1, by rw [MS.out.bel.cell (by exact hb1)]; exact hh.2.1, by rw [MS.out.bel.cell (by exact hb1)]; exact hh.2.2⟩
      obtain ⟨W7, st7, kb, bb, sb⟩ := bk_fresh (P := Tryz.prog) wr 40 #[.int .i64 0, .int .i64 0, .int .i64 0] #[.int .i64 x.1, .int .i64 x.2.1, .int .i64 x.2.2] 3 infoPd3 rfl rfl (by simp [Value.oneCell'])
      have RD0 := Lib.hid (RdB.start MS.out rfl OW.out kb bb)
      have i1' : (0 : Int) ≤ (k : Int) := by omega
      have i2' : (k : Int) < (c.qs.length : Int) := by omega
      have HDZ := Lib.hid hdz
      clear hz hdz hc1 kb bb sb
      have x6 := RD0.out.ms.b0.cell 6
      have LP := bk_load (P := Tryz.prog) 3 RD0.out.ms.b1 rfl
      have LX := bk_load (P := Tryz.prog) 3 RD0.out.bx rfl
      clear x6
      have x6 := MS.out.b0.cell 6
      cases hxp : aheadB x p
      · cases hpx : aheadB p x
        · cases d
          · go_wp2_with fail
            refine (ahead_any x p _).mono ?_
            rintro e V1 ⟨rfl, b1⟩
            have RD1 := Lib.hid (RD0.out.below rfl b1)
            clear b1 x6 LP LX
            have x6 := RD1.out.ms.b0.cell 6
            have LP := bk_load (P := Tryz.prog) 3 RD1.out.ms.b1 rfl
            have LX := bk_load (P := Tryz.prog) 3 RD1.out.bx rfl
            rw [hxp]
            go_wp2_with (at_builtin; refine wpList_append_any _ rfl (.tmp 49) (.tmp 51) 27 rfl (w.heap.size + 3) 40 i0 _ 3 24 Tryz.underlying27 hi0 hz0 hz1 hz2 rfl (by decide) (.slice A ou.length cc) ou.length (cellsP ou) (by rfl) (RD1.out.ow.alloc _) (V1.heap.size + 1) (some ⟨V1.heap.size, 0, none⟩) 1 1 (cellsP [p]) (by rfl) (reads_newP V1 40 [p]) (cellsP_one _) (by unfold maxLen; omega) (by omega) (by rw [World.size_alloc]; have := RD1.out.ms.top; omega) ?_; intro v2 V2 hown2 hg2 hat2; obtain ⟨ou2, hl2⟩ : ∃ l, l = ou ++ [p] := ⟨_, rfl⟩; have hn2 : ou.length + 1 = ou2.length := (by simp [hl2]); have hb2 : ou2.length ≤ ou.length + 1 := (by omega); rw [hn2, show cellsP ou ++ cellsP [p] = cellsP ou2 by rw [hl2, cellsP_append]] at hown2; obtain ⟨A2, c2, rfl, hc2⟩ := own_slice hown2; have RD2 := Lib.hid (RD1.out.app rfl hg2 hown2 hat2); have HL2 := Lib.hid hl2; clear hown2 hg2 hat2 hl2 hn2 hc2 x6 LP LX; have x6 := RD2.out.ms.b0.cell 6; have LP := bk_load (P := Tryz.prog) 3 RD2.out.ms.b1 rfl; have LX := bk_load (P := Tryz.prog) 3 RD2.out.bx rfl)
            refine (ahead_any x p _).mono ?_
            rintro e V3 ⟨rfl, b3⟩
            have RD3 := Lib.hid (RD2.out.below rfl b3)
            clear b3 x6 LP LX
            have x6 := RD3.out.ms.b0.cell 6
            have LP := bk_load (P := Tryz.prog) 3 RD3.out.ms.b1 rfl
            have LX := bk_load (P := Tryz.prog) 3 RD3.out.bx rfl
            rw [hxp]
            go_wp2_with fail
            refine (ahead_any p x _).mono ?_
            rintro e V4 ⟨rfl, b4⟩
            have RD4 := Lib.hid (RD3.out.below rfl b4)
            clear b4 x6 LP LX
            have x6 := RD4.out.ms.b0.cell 6
            have LP := bk_load (P := Tryz.prog) 3 RD4.out.ms.b1 rfl
            have LX := bk_load (P := Tryz.prog) 3 RD4.out.bx rfl
            rw [hpx]
            go_wp2_with fail
            go_roundg (gk - 1)
            case measure => have := HM.out; omega
            case rel =>
              have hgo : goP p (x :: c.qs.drop (k + 1)) false = [p] ++ goP p (c.qs.drop (k + 1)) true := by
                conv => lhs; unfold goP
                simp [hxp, hpx]
              refine ⟨k + 1, true, ou2, A2, c2, by omega, by go_num, rfl, rfl, by have := HM.out; omega, by omega, ?_, RD4.out.ow, RD4.out.ms⟩
              rw [← HRS.out, HDZ.out, hgo, HL2.out]
              simp
          · go_wp2_with fail
            refine (ahead_any x p _).mono ?_
            rintro e V1 ⟨rfl, b1⟩
            have RD1 := Lib.hid (RD0.out.below rfl b1)
            clear b1 x6 LP LX
            have x6 := RD1.out.ms.b0.cell 6
            have LP := bk_load (P := Tryz.prog) 3 RD1.out.ms.b1 rfl
            have LX := bk_load (P := Tryz.prog) 3 RD1.out.bx rfl
            rw [hxp]
            go_wp2_with fail
            refine (ahead_any p x _).mono ?_
            rintro e V2 ⟨rfl, b2⟩
            have RD2 := Lib.hid (RD1.out.below rfl b2)
            clear b2 x6 LP LX
            have x6 := RD2.out.ms.b0.cell 6
            have LP := bk_load (P := Tryz.prog) 3 RD2.out.ms.b1 rfl
            have LX := bk_load (P := Tryz.prog) 3 RD2.out.bx rfl
            rw [hpx]
            go_wp2_with fail
            go_roundg (gk - 1)
            case measure => have := HM.out; omega
            case rel =>
              have hgo : goP p (x :: c.qs.drop (k + 1)) true = [] ++ goP p (c.qs.drop (k + 1)) true := by
                conv => lhs; unfold goP
                simp [hxp, hpx]
              refine ⟨k + 1, true, ou, A, cc, by omega, by go_num, rfl, rfl, by have := HM.out; omega, by omega, ?_, RD2.out.ow, RD2.out.ms⟩
              rw [← HRS.out, HDZ.out, hgo]
              simp
        · cases d
          · go_wp2_with fail
            refine (ahead_any x p _).mono ?_
            rintro e V1 ⟨rfl, b1⟩
            have RD1 := Lib.hid (RD0.out.below rfl b1)
            clear b1 x6 LP LX
            have x6 := RD1.out.ms.b0.cell 6
            have LP := bk_load (P := Tryz.prog) 3 RD1.out.ms.b1 rfl
            have LX := bk_load (P := Tryz.prog) 3 RD1.out.bx rfl
            rw [hxp]
            go_wp2_with (at_builtin; refine wpList_append_any _ rfl (.tmp 49) (.tmp 51) 27 rfl (w.heap.size + 3) 40 i0 _ 3 24 Tryz.underlying27 hi0 hz0 hz1 hz2 rfl (by decide) (.slice A ou.length cc) ou.length (cellsP ou) (by rfl) (RD1.out.ow.alloc _) (V1.heap.size + 1) (some ⟨V1.heap.size, 0, none⟩) 1 1 (cellsP [p]) (by rfl) (reads_newP V1 40 [p]) (cellsP_one _) (by unfold maxLen; omega) (by omega) (by rw [World.size_alloc]; have := RD1.out.ms.top; omega) ?_; intro v2 V2 hown2 hg2 hat2; obtain ⟨ou2, hl2⟩ : ∃ l, l = ou ++ [p] := ⟨_, rfl⟩; have hn2 : ou.length + 1 = ou2.length := (by simp [hl2]); have hb2 : ou2.length ≤ ou.length + 1 := (by omega); rw [hn2, show cellsP ou ++ cellsP [p] = cellsP ou2 by rw [hl2, cellsP_append]] at hown2; obtain ⟨A2, c2, rfl, hc2⟩ := own_slice hown2; have RD2 := Lib.hid (RD1.out.app rfl hg2 hown2 hat2); have HL2 := Lib.hid hl2; clear hown2 hg2 hat2 hl2 hn2 hc2 x6 LP LX; have x6 := RD2.out.ms.b0.cell 6; have LP := bk_load (P := Tryz.prog) 3 RD2.out.ms.b1 rfl; have LX := bk_load (P := Tryz.prog) 3 RD2.out.bx rfl)
            refine (ahead_any x p _).mono ?_
            rintro e V3 ⟨rfl, b3⟩
            have RD3 := Lib.hid (RD2.out.below rfl b3)
            clear b3 x6 LP LX
            have x6 := RD3.out.ms.b0.cell 6
            have LP := bk_load (P := Tryz.prog) 3 RD3.out.ms.b1 rfl
            have LX := bk_load (P := Tryz.prog) 3 RD3.out.bx rfl
            rw [hxp]
            go_wp2_with fail
            refine (ahead_any p x _).mono ?_
            rintro e V4 ⟨rfl, b4⟩
            have RD4 := Lib.hid (RD3.out.below rfl b4)
            clear b4 x6 LP LX
            have x6 := RD4.out.ms.b0.cell 6
            have LP := bk_load (P := Tryz.prog) 3 RD4.out.ms.b1 rfl
            have LX := bk_load (P := Tryz.prog) 3 RD4.out.bx rfl
            rw [hpx]
            go_wp2_with (at_builtin; refine wpList_append_any _ rfl (.tmp 61) (.tmp 63) 27 rfl (w.heap.size + 3) 40 i0 _ 3 24 Tryz.underlying27 hi0 hz0 hz1 hz2 rfl (by decide) (.slice A2 ou2.length c2) ou2.length (cellsP ou2) (by rfl) (RD4.out.ow.alloc _) (V4.heap.size + 1) (some ⟨V4.heap.size, 0, none⟩) 1 1 (cellsP [x]) (by rfl) (reads_newP V4 40 [x]) (cellsP_one _) (by unfold maxLen; omega) (by omega) (by rw [World.size_alloc]; have := RD4.out.ms.top; omega) ?_; intro v5 V5 hown5 hg5 hat5; obtain ⟨ou5, hl5⟩ : ∃ l, l = ou2 ++ [x] := ⟨_, rfl⟩; have hn5 : ou2.length + 1 = ou5.length := (by simp [hl5]); have hb5 : ou5.length ≤ ou2.length + 1 := (by omega); rw [hn5, show cellsP ou2 ++ cellsP [x] = cellsP ou5 by rw [hl5, cellsP_append]] at hown5; obtain ⟨A5, c5, rfl, hc5⟩ := own_slice hown5; have RD5 := Lib.hid (RD4.out.app rfl hg5 hown5 hat5); have HL5 := Lib.hid hl5; clear hown5 hg5 hat5 hl5 hn5 hc5 x6 LP LX; have x6 := RD5.out.ms.b0.cell 6; have LP := bk_load (P := Tryz.prog) 3 RD5.out.ms.b1 rfl; have LX := bk_load (P := Tryz.prog) 3 RD5.out.bx rfl)
            go_roundg (gk - 1)
            case measure => have := HM.out; omega
            case rel =>
              have hgo : goP p (x :: c.qs.drop (k + 1)) false = [p, x] ++ goP p (c.qs.drop (k + 1)) true := by
                conv => lhs; unfold goP
                simp [hxp, hpx]
              refine ⟨k + 1, true, ou5, A5, c5, by omega, by go_num, rfl, rfl, by have := HM.out; omega, by omega, ?_, RD5.out.ow, RD5.out.ms⟩
              rw [← HRS.out, HDZ.out, hgo, HL5.out, HL2.out]
              simp
          · go_wp2_with fail
            refine (ahead_any x p _).mono ?_
            rintro e V1 ⟨rfl, b1⟩
            have RD1 := Lib.hid (RD0.out.below rfl b1)
            clear b1 x6 LP LX
            have x6 := RD1.out.ms.b0.cell 6
            have LP := bk_load (P := Tryz.prog) 3 RD1.out.ms.b1 rfl
            have LX := bk_load (P := Tryz.prog) 3 RD1.out.bx rfl
            rw [hxp]
            go_wp2_with fail
            refine (ahead_any p x _).mono ?_
            rintro e V2 ⟨rfl, b2⟩
            have RD2 := Lib.hid (RD1.out.below rfl b2)
            clear b2 x6 LP LX
            have x6 := RD2.out.ms.b0.cell 6
            have LP := bk_load (P := Tryz.prog) 3 RD2.out.ms.b1 rfl
            have LX := bk_load (P := Tryz.prog) 3 RD2.out.bx rfl
            rw [hpx]
            go_wp2_with (at_builtin; refine wpList_append_any _ rfl (.tmp 61) (.tmp 63) 27 rfl (w.heap.size + 3) 40 i0 _ 3 24 Tryz.underlying27 hi0 hz0 hz1 hz2 rfl (by decide) (.slice A ou.length cc) ou.length (cellsP ou) (by rfl) (RD2.out.ow.alloc _) (V2.heap.size + 1) (some ⟨V2.heap.size, 0, none⟩) 1 1 (cellsP [x]) (by rfl) (reads_newP V2 40 [x]) (cellsP_one _) (by unfold maxLen; omega) (by omega) (by rw [World.size_alloc]; have := RD2.out.ms.top; omega) ?_; intro v3 V3 hown3 hg3 hat3; obtain ⟨ou3, hl3⟩ : ∃ l, l = ou ++ [x] := ⟨_, rfl⟩; have hn3 : ou.length + 1 = ou3.length := (by simp [hl3]); have hb3 : ou3.length ≤ ou.length + 1 := (by omega); rw [hn3, show cellsP ou ++ cellsP [x] = cellsP ou3 by rw [hl3, cellsP_append]] at hown3; obtain ⟨A3, c3, rfl, hc3⟩ := own_slice hown3; have RD3 := Lib.hid (RD2.out.app rfl hg3 hown3 hat3); have HL3 := Lib.hid hl3; clear hown3 hg3 hat3 hl3 hn3 hc3 x6 LP LX; have x6 := RD3.out.ms.b0.cell 6; have LP := bk_load (P := Tryz.prog) 3 RD3.out.ms.b1 rfl; have LX := bk_load (P := Tryz.prog) 3 RD3.out.bx rfl)
            go_roundg (gk - 1)
            case measure => have := HM.out; omega
            case rel =>
              have hgo : goP p (x :: c.qs.drop (k + 1)) true = [x] ++ goP p (c.qs.drop (k + 1)) true := by
                conv => lhs; unfold goP
                simp [hxp, hpx]
              refine ⟨k + 1, true, ou3, A3, c3, by omega, by go_num, rfl, rfl, by have := HM.out; omega, by omega, ?_, RD3.out.ow, RD3.out.ms⟩
              rw [← HRS.out, HDZ.out, hgo, HL3.out]
              simp
      · have hpx : True := trivial
        cases d
        · go_wp2_with fail
          refine (ahead_any x p _).mono ?_
          rintro e V1 ⟨rfl, b1⟩
          have RD1 := Lib.hid (RD0.out.below rfl b1)
          clear b1 x6 LP LX
          have x6 := RD1.out.ms.b0.cell 6
          have LP := bk_load (P := Tryz.prog) 3 RD1.out.ms.b1 rfl
          have LX := bk_load (P := Tryz.prog) 3 RD1.out.bx rfl
          rw [hxp]
          go_wp2_with fail
          refine (ahead_any x p _).mono ?_
          rintro e V2 ⟨rfl, b2⟩
          have RD2 := Lib.hid (RD1.out.below rfl b2)
          clear b2 x6 LP LX
          have x6 := RD2.out.ms.b0.cell 6
          have LP := bk_load (P := Tryz.prog) 3 RD2.out.ms.b1 rfl
          have LX := bk_load (P := Tryz.prog) 3 RD2.out.bx rfl
          rw [hxp]
          go_wp2_with (at_builtin; refine wpList_append_any _ rfl (.tmp 61) (.tmp 63) 27 rfl (w.heap.size + 3) 40 i0 _ 3 24 Tryz.underlying27 hi0 hz0 hz1 hz2 rfl (by decide) (.slice A ou.length cc) ou.length (cellsP ou) (by rfl) (RD2.out.ow.alloc _) (V2.heap.size + 1) (some ⟨V2.heap.size, 0, none⟩) 1 1 (cellsP [x]) (by rfl) (reads_newP V2 40 [x]) (cellsP_one _) (by unfold maxLen; omega) (by omega) (by rw [World.size_alloc]; have := RD2.out.ms.top; omega) ?_; intro v3 V3 hown3 hg3 hat3; obtain ⟨ou3, hl3⟩ : ∃ l, l = ou ++ [x] := ⟨_, rfl⟩; have hn3 : ou.length + 1 = ou3.length := (by simp [hl3]); have hb3 : ou3.length ≤ ou.length + 1 := (by omega); rw [hn3, show cellsP ou ++ cellsP [x] = cellsP ou3 by rw [hl3, cellsP_append]] at hown3; obtain ⟨A3, c3, rfl, hc3⟩ := own_slice hown3; have RD3 := Lib.hid (RD2.out.app rfl hg3 hown3 hat3); have HL3 := Lib.hid hl3; clear hown3 hg3 hat3 hl3 hn3 hc3 x6 LP LX; have x6 := RD3.out.ms.b0.cell 6; have LP := bk_load (P := Tryz.prog) 3 RD3.out.ms.b1 rfl; have LX := bk_load (P := Tryz.prog) 3 RD3.out.bx rfl)
          go_roundg (gk - 1)
          case measure => have := HM.out; omega
          case rel =>
            have hgo : goP p (x :: c.qs.drop (k + 1)) false = [x] ++ goP p (c.qs.drop (k + 1)) false := by
              conv => lhs; unfold goP
              simp [hxp, hpx]
            refine ⟨k + 1, false, ou3, A3, c3, by omega, by go_num, rfl, rfl, by have := HM.out; omega, by omega, ?_, RD3.out.ow, RD3.out.ms⟩
            rw [← HRS.out, HDZ.out, hgo, HL3.out]
            simp
        · go_wp2_with fail
          refine (ahead_any x p _).mono ?_
          rintro e V1 ⟨rfl, b1⟩
          have RD1 := Lib.hid (RD0.out.below rfl b1)
          clear b1 x6 LP LX
          have x6 := RD1.out.ms.b0.cell 6
          have LP := bk_load (P := Tryz.prog) 3 RD1.out.ms.b1 rfl
          have LX := bk_load (P := Tryz.prog) 3 RD1.out.bx rfl
          rw [hxp]
          go_wp2_with (at_builtin; refine wpList_append_any _ rfl (.tmp 61) (.tmp 63) 27 rfl (w.heap.size + 3) 40 i0 _ 3 24 Tryz.underlying27 hi0 hz0 hz1 hz2 rfl (by decide) (.slice A ou.length cc) ou.length (cellsP ou) (by rfl) (RD1.out.ow.alloc _) (V1.heap.size + 1) (some ⟨V1.heap.size, 0, none⟩) 1 1 (cellsP [x]) (by rfl) (reads_newP V1 40 [x]) (cellsP_one _) (by unfold maxLen; omega) (by omega) (by rw [World.size_alloc]; have := RD1.out.ms.top; omega) ?_; intro v2 V2 hown2 hg2 hat2; obtain ⟨ou2, hl2⟩ : ∃ l, l = ou ++ [x] := ⟨_, rfl⟩; have hn2 : ou.length + 1 = ou2.length := (by simp [hl2]); have hb2 : ou2.length ≤ ou.length + 1 := (by omega); rw [hn2, show cellsP ou ++ cellsP [x] = cellsP ou2 by rw [hl2, cellsP_append]] at hown2; obtain ⟨A2, c2, rfl, hc2⟩ := own_slice hown2; have RD2 := Lib.hid (RD1.out.app rfl hg2 hown2 hat2); have HL2 := Lib.hid hl2; clear hown2 hg2 hat2 hl2 hn2 hc2 x6 LP LX; have x6 := RD2.out.ms.b0.cell 6; have LP := bk_load (P := Tryz.prog) 3 RD2.out.ms.b1 rfl; have LX := bk_load (P := Tryz.prog) 3 RD2.out.bx rfl)
          go_roundg (gk - 1)
          case measure => have := HM.out; omega
          case rel =>
            have hgo : goP p (x :: c.qs.drop (k + 1)) true = [x] ++ goP p (c.qs.drop (k + 1)) true := by
              conv => lhs; unfold goP
              simp [hxp, hpx]
            refine ⟨k + 1, true, ou2, A2, c2, by omega, by go_num, rfl, rfl, by have := HM.out; omega, by omega, ?_, RD2.out.ow, RD2.out.ms⟩
            rw [← HRS.out, HDZ.out, hgo, HL2.out]
            simp
    · obtain rfl : k = c.qs.length := by omega
      have d1 : decide ((c.qs.length : Int) < (c.qs.length : Int)) = false := by simp
      have hdr : c.qs.drop c.qs.length = [] := List.drop_of_length_le (Nat.le_refl _)
      cases d
      · have HR2 := Lib.hid (show ou ++ [p] = keepF (fun y => plI y p) c.qs p by rw [← HRS.out, hdr]; rfl)
        have HLN' := Lib.hid (show (ou ++ [p]).length ≤ 1000 by rw [HR2.out]; have := length_keepF (fun y => plI y p) c.qs p; have := HPS.out; omega)
        clear hdr
        have LP := bk_load (P := Tryz.prog) 3 MS.out.b1 rfl
        go_wp2_with (at_builtin; refine wpList_append_any _ rfl (.tmp 67) (.tmp 69) 27 rfl (w.heap.size + 3) 40 i0 _ 3 24 Tryz.underlying27 hi0 hz0 hz1 hz2 rfl (by decide) (.slice A ou.length cc) ou.length (cellsP ou) (by rfl) (OW.out.alloc _) (wr.heap.size + 1) (some ⟨wr.heap.size, 0, none⟩) 1 1 (cellsP [p]) (by rfl) (reads_newP wr 40 [p]) (cellsP_one _) (by unfold maxLen; omega) (by omega) (by rw [World.size_alloc]; have := MS.out.top; omega) ?_; intro v4 W4 hown4 hg4 hat4; have MS4 := Lib.hid ((MS.out.alloc rfl _).grown rfl hg4 (fun y hy => (OW.out.lt y hy).1)); obtain ⟨ou4, hl4⟩ : ∃ l, l = ou ++ [p] := ⟨_, rfl⟩; have hn4 : ou.length + 1 = ou4.length := (by simp [hl4]); have hb4 : ou4.length ≤ ou.length + 1 := (by omega); rw [hn4, show cellsP ou ++ cellsP [p] = cellsP ou4 by rw [hl4, cellsP_append]] at hown4; obtain ⟨A4, c4, rfl, hc4⟩ := own_slice hown4; have OW4 := Lib.hid hown4; have HL4 := Lib.hid hl4; have HN4 := Lib.hid hn4; clear hown4 hg4 hat4 hl4 hn4; have kz0 := MS4.out.b0; have st7 := store_slP A4 ou4.length c4 (kz0.cell 6) (kz0.frozen 6); have kz : Blk (W4.setCell ⟨w.heap.size, 6, none⟩ (.slice A4 ou4.length c4)) w.heap.size 29 #[.int .i8 2, .int .i64 c.pid, .int .i64 c.ep, .int .i64 c.tm, .int .i64 c.th, .slice A1 c.ps.length c1, .slice A4 ou4.length c4, .int .i64 c.ag] := kz0.set_ 6 (.slice A4 ou4.length c4); have L7 := bk_load (P := Tryz.prog) 8 kz rfl; have k37 := MS4.out.b2.far (p := ⟨w.heap.size, 6, none⟩) (by simp; omega) (.slice A4 ou4.length c4); have b7 := MS4.out.bel.setCell (p := ⟨w.heap.size, 6, none⟩) (Nat.le_refl _) (.slice A4 ou4.length c4); have o7 := bk_own (w' := W4.setCell ⟨w.heap.size, 6, none⟩ (.slice A4 ou4.length c4)) OW4.out (fun y hy => Below.heap_setCell _ _ _ _ (by have := (OW4.out.lt y hy).1; show y ≠ w.heap.size; omega)); obtain ⟨W9, st9, kk, fb, fh, fs⟩ := bk_store (P := Tryz.prog) (ty := 29) (cs := #[.int .i8 2, .int .i64 c.pid, .int .i64 c.ep, .int .i64 c.tm, .int .i64 c.th, .slice A1 c.ps.length c1, .slice A4 ou4.length c4, .int .i64 c.ag]) 8 k37 infoCo rfl rfl (by simp [Value.oneCell']); have BB := Lib.hid (fb w.heap.size w (by omega) b7); have OO := Lib.hid (bk_own o7 (fun y hy => fh y (by have := (OW4.out.lt y hy).1; omega))); have KK := Lib.hid kk; clear kz0 kz k37 b7 o7 kk fb fh fs)
        have HLN := Lib.hid (show ou4.length ≤ 1000 by rw [HL4.out]; exact HLN'.out)
        rw [← HL4.out] at HR2
        refine bodyPost_ret (v := .tuple #[.agg #[.int .i8 2, .int .i64 c.pid, .int .i64 c.ep, .int .i64 c.tm, .int .i64 c.th, .slice A1 c.ps.length c1, .slice A4 ou4.length c4, .int .i64 c.ag], .int .i64 0]) (rset_ret { c with st := 2, qs := ou4 } A1 A4 c1 c4 0 _ (w.heap.size + 1 + 1) _ rfl rfl KK.out) rfl ?_
        rw [HE.out, HC.out, ← HR2.out]
        have rr := H1.out.up BB.out
        have na := newAt_of_own OO.out
        exact ⟨A1, A4, c1, c4, rfl, ⟨rr.1, Reads.of_own OO.out, rr.2.2.1, HLN.out⟩, BB.out, fun b hb o1 o2 => ⟨o1, na.off (by omega)⟩⟩
      · have HR2 := Lib.hid (show ou = keepF (fun y => plI y p) c.qs p by rw [← HRS.out, hdr]; show ou = ou ++ []; simp)
        have HLN := Lib.hid (show ou.length ≤ 1000 by rw [HR2.out]; have := length_keepF (fun y => plI y p) c.qs p; have := HPS.out; omega)
        clear hdr
        have kz0 := MS.out.b0
        have st7 := store_slP A ou.length cc (kz0.cell 6) (kz0.frozen 6)
        have kz : Blk (wr.setCell ⟨w.heap.size, 6, none⟩ (.slice A ou.length cc)) w.heap.size 29 #[.int .i8 2, .int .i64 c.pid, .int .i64 c.ep, .int .i64 c.tm, .int .i64 c.th, .slice A1 c.ps.length c1, .slice A ou.length cc, .int .i64 c.ag] := kz0.set_ 6 (.slice A ou.length cc)
        have L7 := bk_load (P := Tryz.prog) 8 kz rfl
        have k37 := MS.out.b2.far (p := ⟨w.heap.size, 6, none⟩) (by simp; omega) (.slice A ou.length cc)
        have b7 := MS.out.bel.setCell (p := ⟨w.heap.size, 6, none⟩) (Nat.le_refl _) (.slice A ou.length cc)
        have o7 := bk_own (w' := wr.setCell ⟨w.heap.size, 6, none⟩ (.slice A ou.length cc)) OW.out (fun y hy => Below.heap_setCell _ _ _ _ (by have := (OW.out.lt y hy).1; show y ≠ w.heap.size; omega))
        obtain ⟨W9, st9, kk, fb, fh, fs⟩ := bk_store (P := Tryz.prog) (ty := 29) (cs := #[.int .i8 2, .int .i64 c.pid, .int .i64 c.ep, .int .i64 c.tm, .int .i64 c.th, .slice A1 c.ps.length c1, .slice A ou.length cc, .int .i64 c.ag]) 8 k37 infoCo rfl rfl (by simp [Value.oneCell'])
        have BB := Lib.hid (fb w.heap.size w (by omega) b7)
        have OO := Lib.hid (bk_own o7 (fun y hy => fh y (by have := (OW.out.lt y hy).1; omega)))
        have KK := Lib.hid kk
        clear kz0 kz k37 b7 o7 kk fb fh fs
        go_wp2_with fail
        refine bodyPost_ret (v := .tuple #[.agg #[.int .i8 2, .int .i64 c.pid, .int .i64 c.ep, .int .i64 c.tm, .int .i64 c.th, .slice A1 c.ps.length c1, .slice A ou.length cc, .int .i64 c.ag], .int .i64 0]) (rset_ret { c with st := 2, qs := ou } A1 A c1 cc 0 _ (w.heap.size + 1 + 1) _ rfl rfl KK.out) rfl ?_
        rw [HE.out, HC.out, ← HR2.out]
        have rr := H1.out.up BB.out
        have na := newAt_of_own OO.out
        exact ⟨A1, A, c1, cc, rfl, ⟨rr.1, Reads.of_own OO.out, rr.2.2.1, HLN.out⟩, BB.out, fun b hb o1 o2 => ⟨o1, na.off (by omega)⟩⟩
set_option maxRecDepth 100000 in
set_option maxHeartbeats 2000000 in
theorem rset_dg (c : Co) (A1 D1 : Option Addr) (c1 e1 : Nat) (p : Pd) (w : World) (h1 : CoR w w.heap.size c A1 D1) (h8 : -128 ≤ c.st) (h9 : c.st ≤ 127) (hmay : mayB c = true) (kp : pendB p = true) (k3 : idlB c = true ∨ c.st = 2) (k4 : idlB c = false) (k6 : c.st = 2) :
    Calls Tryz.prog 94 #[(.agg #[.int .i8 c.st, .int .i64 c.pid, .int .i64 c.ep, .int .i64 c.tm, .int .i64 c.th, .slice A1 c.ps.length c1, .slice D1 c.qs.length e1, .int .i64 c.ag]), .agg #[.int .i64 p.1, .int .i64 p.2.1, .int .i64 p.2.2]] w (MvP c A1 D1 (setC c p) (setE c p) w) := by
  have HE := Lib.hid (show setE c p = 0 by unfold setE; rw [kp, chk_of hmay, begins_of hmay, if_neg (show ¬ c.st = 0 by rcases k3 with h | h; have := (idl_iff c).1 h; omega; omega)]; rcases k3 with h | h; by_cases h2 : c.st = 2; simp [h2]; simp [h2, h]; simp [h])
  have HC := Lib.hid (show setC c p = { c with st := 2, qs := keepF (fun y => plI y p) c.qs p } by unfold setC; rw [HE.out, if_pos rfl])
  have ID := Lib.hid (fun W => idle_any c A1 D1 c1 e1 W)
  have PW := Lib.hid (fun W => pend_any p W)
  rw [kp] at PW
  rw [k4] at ID
  have z2 : (c.st != 2) = false := by rw [k6]; rfl
  have PWW := Lib.hid (pends_pw hmay)
  have HPS := Lib.hid (may_small hmay).2
  obtain ⟨W0, hW0⟩ : ∃ W0, W0 = ((w.alloc (.cells #[.int .i8 c.st, .int .i64 c.pid, .int .i64 c.ep, .int .i64 c.tm, .int .i64 c.th, .slice A1 c.ps.length c1, .slice D1 c.qs.length e1, .int .i64 c.ag] 29)).alloc (.cells #[.int .i64 p.1, .int .i64 p.2.1, .int .i64 p.2.2] 40)).alloc (.cells #[.int .i8 0, .int .i64 0, .int .i64 0, .int .i64 0, .int .i64 0, .slice none 0 0, .slice none 0 0, .int .i64 0] 29) := ⟨_, rfl⟩
  have s0 : W0.heap.size = w.heap.size + 1 + 1 + 1 := by rw [hW0]; simp
  have B0 : Below w.heap.size w W0 := by rw [hW0]; exact bal (bal (bal (Below.refl _ _) _) _) _
  have K1 : Blk W0 w.heap.size 29 #[.int .i8 c.st, .int .i64 c.pid, .int .i64 c.ep, .int .i64 c.tm, .int .i64 c.th, .slice A1 c.ps.length c1, .slice D1 c.qs.length e1, .int .i64 c.ag] := by rw [hW0]; exact ((Blk.new w 29 #[.int .i8 c.st, .int .i64 c.pid, .int .i64 c.ep, .int .i64 c.tm, .int .i64 c.th, .slice A1 c.ps.length c1, .slice D1 c.qs.length e1, .int .i64 c.ag]).alloc _).alloc _
  have K2 : Blk W0 (w.heap.size + 1) 40 #[.int .i64 p.1, .int .i64 p.2.1, .int .i64 p.2.2] := by rw [hW0]; exact (bk_new _ 40 #[.int .i64 p.1, .int .i64 p.2.1, .int .i64 p.2.2] (by simp)).alloc _
  have K3 : Blk W0 (w.heap.size + 1 + 1) 29 #[.int .i8 0, .int .i64 0, .int .i64 0, .int .i64 0, .int .i64 0, .slice none 0 0, .slice none 0 0, .int .i64 0] := by rw [hW0]; exact bk_new _ 29 #[.int .i8 0, .int .i64 0, .int .i64 0, .int .i64 0, .int .i64 0, .slice none 0 0, .slice none 0 0, .int .i64 0] (by simp)
  have HW := Lib.hid hW0
  have HS := Lib.hid s0
  have HB := Lib.hid B0
  have HK1 := Lib.hid K1
  have HK2 := Lib.hid K2
  have HK3 := Lib.hid K3
  have H1 := Lib.hid h1
  have MY := Lib.hid (rMay_any c A1 D1 c1 e1 w.heap.size W0 (h1.below B0) B0.size h8 h9)
  rw [hmay] at MY
  have L0 := bk_load (P := Tryz.prog) 8 K1 rfl
  clear hW0 s0 B0 K1 K2 K3 h1 h8 h9 hmay kp k3 k4 k6
  go_enter Tryz.func94, Tryz.ntmps94
  go_upto_region 1 with (fail)
  rw [← HW.out]
  go_wp2_with fail
  refine MY.out.mono ?_
  rintro e w1 ⟨rfl, b1⟩
  have B1 := Lib.hid (show Below W0.heap.size W0 w1 from b1)
  clear L0 b1
  have kx := HK1.out.below B1.out (by have := HS.out; omega)
  have x0 := kx.cell 0
  have x1 := kx.cell 1
  have x2 := kx.cell 2
  have x3 := kx.cell 3
  have x4 := kx.cell 4
  have x5 := kx.cell 5
  have x6 := kx.cell 6
  have L1 := bk_load (P := Tryz.prog) 8 kx rfl
  have LP := bk_load (P := Tryz.prog) 3 (HK2.out.below B1.out (by have := HS.out; omega)) rfl
  clear kx
  go_wp2_with fail
  refine (PW.out _).mono ?_
  rintro e w2 ⟨rfl, b2⟩
  have B2 := Lib.hid (B1.out.trans (b2.mono B1.out.size))
  clear b2
  clear x0 x1 x2 x3 x4 x5 x6 L1 LP
  have kx := HK1.out.below B2.out (by have := HS.out; omega)
  have x0 := kx.cell 0
  have x1 := kx.cell 1
  have x2 := kx.cell 2
  have x3 := kx.cell 3
  have x4 := kx.cell 4
  have x5 := kx.cell 5
  have x6 := kx.cell 6
  have L1 := bk_load (P := Tryz.prog) 8 kx rfl
  have LP := bk_load (P := Tryz.prog) 3 (HK2.out.below B2.out (by have := HS.out; omega)) rfl
  clear kx
  go_wp2_with fail
  refine (ID.out _).mono ?_
  rintro e w3 ⟨rfl, b3⟩
  have B3 := Lib.hid (B2.out.trans (b3.mono B2.out.size))
  clear b3
  clear x0 x1 x2 x3 x4 x5 x6 L1 LP
  have kx := HK1.out.below B3.out (by have := HS.out; omega)
  have x0 := kx.cell 0
  have x1 := kx.cell 1
  have x2 := kx.cell 2
  have x3 := kx.cell 3
  have x4 := kx.cell 4
  have x5 := kx.cell 5
  have x6 := kx.cell 6
  have L1 := bk_load (P := Tryz.prog) 8 kx rfl
  have LP := bk_load (P := Tryz.prog) 3 (HK2.out.below B3.out (by have := HS.out; omega)) rfl
  clear kx
  obtain ⟨i0, hi0, hz0, hz1, hz2⟩ := info_parts infoP
  have kx := HK1.out.below B3.out (by have := HS.out; omega)
  have st5 := store_i8 2 (kx.cell 0) (kx.frozen 0)
  have k5 : Blk (w3.setCell ⟨w.heap.size, 0, none⟩ (.int .i8 2)) w.heap.size 29 #[.int .i8 2, .int .i64 c.pid, .int .i64 c.ep, .int .i64 c.tm, .int .i64 c.th, .slice A1 c.ps.length c1, .slice D1 c.qs.length e1, .int .i64 c.ag] := kx.set_ 0 (.int .i8 2)
  have k25 := (HK2.out.below B3.out (by have := HS.out; omega)).far (p := ⟨w.heap.size, 0, none⟩) (by simp) (.int .i8 2)
  have k35 := (HK3.out.below B3.out (by have := HS.out; omega)).far (p := ⟨w.heap.size, 0, none⟩) (by simp; omega) (.int .i8 2)
  have b5 := (HB.out.trans (B3.out.mono HB.out.size)).setCell (p := ⟨w.heap.size, 0, none⟩) (Nat.le_refl _) (.int .i8 2)
  have M5 := Lib.hid (show MkS w 3 [(29, #[.int .i8 2, .int .i64 c.pid, .int .i64 c.ep, .int .i64 c.tm, .int .i64 c.th, .slice A1 c.ps.length c1, .slice D1 c.qs.length e1, .int .i64 c.ag]), (40, #[.int .i64 p.1, .int .i64 p.2.1, .int .i64 p.2.2]), (29, #[.int .i8 0, .int .i64 0, .int .i64 0, .int .i64 0, .int .i64 0, .slice none 0 0, .slice none 0 0, .int .i64 0])] (w3.setCell ⟨w.heap.size, 0, none⟩ (.int .i8 2)) from ⟨fun j t a hj => by
    match j, hj with
    | 0, hj => simp at hj; obtain ⟨rfl, rfl⟩ := hj; exact k5
    | 1, hj => simp at hj; obtain ⟨rfl, rfl⟩ := hj; exact k25
    | 2, hj => simp at hj; obtain ⟨rfl, rfl⟩ := hj; exact k35, b5, by have := k35.lt; omega⟩)
  clear kx k5 k25 k35 b5
  go_upto_region 6 with (fail)
  clear st5 x0 x1 x2 x3 x4 x5 x6 L1 LP
  generalize w3.setCell ⟨w.heap.size, 0, none⟩ (.int .i8 2) = W5 at *
  go_wp2_with fail
  go_loopg [6, 7, 8, 9] c.qs.length (fun mm y1 y2 y3 y4 wr => ∃ (k : Nat) (d : Bool) (ou : List Pd) (A : Option Addr) (cc : Nat), k ≤ c.qs.length ∧ y3 = .int .i64 k ∧ y2 = .bool d ∧ y1 = .slice A ou.length cc ∧ mm = c.qs.length - k ∧ ou.length ≤ k + k ∧ ou ++ goP p (c.qs.drop k) d = keepF (fun y => plI y p) c.qs p ∧ wr.ownsRow (w.heap.size + 3) 40 3 (.slice A ou.length cc) ou.length (cellsP ou) ∧ MkS w 3 [(29, #[.int .i8 2, .int .i64 c.pid, .int .i64 c.ep, .int .i64 c.tm, .int .i64 c.th, .slice A1 c.ps.length c1, .slice D1 c.qs.length e1, .int .i64 c.ag]), (40, #[.int .i64 p.1, .int .i64 p.2.1, .int .i64 p.2.2]), (29, #[.int .i8 0, .int .i64 0, .int .i64 0, .int .i64 0, .int .i64 0, .slice none 0 0, .slice none 0 0, .int .i64 0])] wr)
  case atStart => exact ⟨0, false, [], none, 0, Nat.zero_le _, rfl, rfl, rfl, by omega, by simp, by rw [List.nil_append, List.drop_zero]; exact goP_keep p c.qs PWW.out, World.ownsRow_nil _ _ _ _, M5.out⟩
  case round =>
    obtain ⟨k, d, ou, A, cc, hk, rfl, rfl, rfl, hmm, hou, hres, hown, hms⟩ := hrel
    have HM := Lib.hid hmm
    have HRS := Lib.hid hres
    have OW := Lib.hid hown
    have MS := Lib.hid hms
    have x6 := hms.b0.cell 6
    have hl3 : c.qs.length ≤ 6 := HPS.out
    have hle : ou.length ≤ 12 := by omega
    clear hmm hres hown hms
    by_cases hlt : k < c.qs.length
    · have d1 : decide ((k : Int) < (c.qs.length : Int)) = true := by simp; omega
      obtain ⟨x, hz⟩ : ∃ z, c.qs[k]? = some z := ⟨_, List.getElem?_eq_getElem hlt⟩
      have hdz : c.qs.drop k = x :: c.qs.drop (k + 1) := by
        rw [List.drop_eq_getElem_cons hlt]
        congr 1
        rw [List.getElem?_eq_getElem hlt] at hz
        exact Option.some.inj hz
      obtain ⟨b1, o1, rfl, hb1, hc1⟩ := H1.out.2.1.plain3 (by omega)
      have LQ : (loadCells ⟨b1, o1 + k * 3, none⟩ 3).run Tryz.prog wr = .ok #[.int .i64 x.1, .int .i64 x.2.1, .int .i64 x.2.2] wr := by
        have hh := hc1 k _ hz
        exact load_pd (x := x) ⟨by rw [MS.out.bel.cell (by exact hb1)]; exact hh.1, by rw [MS.out.bel.cell (by exact hb1)]; exact hh.2.1, by rw [MS.out.bel.cell (by exact hb1)]; exact hh.2.2⟩
      obtain ⟨W7, st7, kb, bb, sb⟩ := bk_fresh (P := Tryz.prog) wr 40 #[.int .i64 0, .int .i64 0, .int .i64 0] #[.int .i64 x.1, .int .i64 x.2.1, .int .i64 x.2.2] 3 infoPd3 rfl rfl (by simp [Value.oneCell'])
      have RD0 := Lib.hid (RdB.start MS.out rfl OW.out kb bb)
      have i1' : (0 : Int) ≤ (k : Int) := by omega
      have i2' : (k : Int) < (c.qs.length : Int) := by omega
      have HDZ := Lib.hid hdz
      clear hz hdz hc1 kb bb sb
      have x6 := RD0.out.ms.b0.cell 6
      have LP := bk_load (P := Tryz.prog) 3 RD0.out.ms.b1 rfl
      have LX := bk_load (P := Tryz.prog) 3 RD0.out.bx rfl
      clear x6
      have x6 := MS.out.b0.cell 6
      cases hxp : aheadB x p
      · cases hpx : aheadB p x
        · cases d
          · go_wp2_with fail
            refine (ahead_any x p _).mono ?_
            rintro e V1 ⟨rfl, b1⟩
            have RD1 := Lib.hid (RD0.out.below rfl b1)
            clear b1 x6 LP LX
            have x6 := RD1.out.ms.b0.cell 6
            have LP := bk_load (P := Tryz.prog) 3 RD1.out.ms.b1 rfl
            have LX := bk_load (P := Tryz.prog) 3 RD1.out.bx rfl
            rw [hxp]
            go_wp2_with (at_builtin; refine wpList_append_any _ rfl (.tmp 49) (.tmp 51) 27 rfl (w.heap.size + 3) 40 i0 _ 3 24 Tryz.underlying27 hi0 hz0 hz1 hz2 rfl (by decide) (.slice A ou.length cc) ou.length (cellsP ou) (by rfl) (RD1.out.ow.alloc _) (V1.heap.size + 1) (some ⟨V1.heap.size, 0, none⟩) 1 1 (cellsP [p]) (by rfl) (reads_newP V1 40 [p]) (cellsP_one _) (by unfold maxLen; omega) (by omega) (by rw [World.size_alloc]; have := RD1.out.ms.top; omega) ?_; intro v2 V2 hown2 hg2 hat2; obtain ⟨ou2, hl2⟩ : ∃ l, l = ou ++ [p] := ⟨_, rfl⟩; have hn2 : ou.length + 1 = ou2.length := (by simp [hl2]); have hb2 : ou2.length ≤ ou.length + 1 := (by omega); rw [hn2, show cellsP ou ++ cellsP [p] = cellsP ou2 by rw [hl2, cellsP_append]] at hown2; obtain ⟨A2, c2, rfl, hc2⟩ := own_slice hown2; have RD2 := Lib.hid (RD1.out.app rfl hg2 hown2 hat2); have HL2 := Lib.hid hl2; clear hown2 hg2 hat2 hl2 hn2 hc2 x6 LP LX; have x6 := RD2.out.ms.b0.cell 6; have LP := bk_load (P := Tryz.prog) 3 RD2.out.ms.b1 rfl; have LX := bk_load (P := Tryz.prog) 3 RD2.out.bx rfl)
            refine (ahead_any x p _).mono ?_
            rintro e V3 ⟨rfl, b3⟩
            have RD3 := Lib.hid (RD2.out.below rfl b3)
            clear b3 x6 LP LX
            have x6 := RD3.out.ms.b0.cell 6
            have LP := bk_load (P := Tryz.prog) 3 RD3.out.ms.b1 rfl
            have LX := bk_load (P := Tryz.prog) 3 RD3.out.bx rfl
            rw [hxp]
            go_wp2_with fail
            refine (ahead_any p x _).mono ?_
            rintro e V4 ⟨rfl, b4⟩
            have RD4 := Lib.hid (RD3.out.below rfl b4)
            clear b4 x6 LP LX
            have x6 := RD4.out.ms.b0.cell 6
            have LP := bk_load (P := Tryz.prog) 3 RD4.out.ms.b1 rfl
            have LX := bk_load (P := Tryz.prog) 3 RD4.out.bx rfl
            rw [hpx]
            go_wp2_with fail
            go_roundg (gk - 1)
            case measure => have := HM.out; omega
            case rel =>
              have hgo : goP p (x :: c.qs.drop (k + 1)) false = [p] ++ goP p (c.qs.drop (k + 1)) true := by
                conv => lhs; unfold goP
                simp [hxp, hpx]
              refine ⟨k + 1, true, ou2, A2, c2, by omega, by go_num, rfl, rfl, by have := HM.out; omega, by omega, ?_, RD4.out.ow, RD4.out.ms⟩
              rw [← HRS.out, HDZ.out, hgo, HL2.out]
              simp
          · go_wp2_with fail
            refine (ahead_any x p _).mono ?_
            rintro e V1 ⟨rfl, b1⟩
            have RD1 := Lib.hid (RD0.out.below rfl b1)
            clear b1 x6 LP LX
            have x6 := RD1.out.ms.b0.cell 6
            have LP := bk_load (P := Tryz.prog) 3 RD1.out.ms.b1 rfl
            have LX := bk_load (P := Tryz.prog) 3 RD1.out.bx rfl
            rw [hxp]
            go_wp2_with fail
            refine (ahead_any p x _).mono ?_
            rintro e V2 ⟨rfl, b2⟩
            have RD2 := Lib.hid (RD1.out.below rfl b2)
            clear b2 x6 LP LX
            have x6 := RD2.out.ms.b0.cell 6
            have LP := bk_load (P := Tryz.prog) 3 RD2.out.ms.b1 rfl
            have LX := bk_load (P := Tryz.prog) 3 RD2.out.bx rfl
            rw [hpx]
            go_wp2_with fail
            go_roundg (gk - 1)
            case measure => have := HM.out; omega
            case rel =>
              have hgo : goP p (x :: c.qs.drop (k + 1)) true = [] ++ goP p (c.qs.drop (k + 1)) true := by
                conv => lhs; unfold goP
                simp [hxp, hpx]
              refine ⟨k + 1, true, ou, A, cc, by omega, by go_num, rfl, rfl, by have := HM.out; omega, by omega, ?_, RD2.out.ow, RD2.out.ms⟩
              rw [← HRS.out, HDZ.out, hgo]
              simp
        · cases d
          · go_wp2_with fail
            refine (ahead_any x p _).mono ?_
            rintro e V1 ⟨rfl, b1⟩
            have RD1 := Lib.hid (RD0.out.below rfl b1)
            clear b1 x6 LP LX
            have x6 := RD1.out.ms.b0.cell 6
            have LP := bk_load (P := Tryz.prog) 3 RD1.out.ms.b1 rfl
            have LX := bk_load (P := Tryz.prog) 3 RD1.out.bx rfl
            rw [hxp]
            go_wp2_with (at_builtin; refine wpList_append_any _ rfl (.tmp 49) (.tmp 51) 27 rfl (w.heap.size + 3) 40 i0 _ 3 24 Tryz.underlying27 hi0 hz0 hz1 hz2 rfl (by decide) (.slice A ou.length cc) ou.length (cellsP ou) (by rfl) (RD1.out.ow.alloc _) (V1.heap.size + 1) (some ⟨V1.heap.size, 0, none⟩) 1 1 (cellsP [p]) (by rfl) (reads_newP V1 40 [p]) (cellsP_one _) (by unfold maxLen; omega) (by omega) (by rw [World.size_alloc]; have := RD1.out.ms.top; omega) ?_; intro v2 V2 hown2 hg2 hat2; obtain ⟨ou2, hl2⟩ : ∃ l, l = ou ++ [p] := ⟨_, rfl⟩; have hn2 : ou.length + 1 = ou2.length := (by simp [hl2]); have hb2 : ou2.length ≤ ou.length + 1 := (by omega); rw [hn2, show cellsP ou ++ cellsP [p] = cellsP ou2 by rw [hl2, cellsP_append]] at hown2; obtain ⟨A2, c2, rfl, hc2⟩ := own_slice hown2; have RD2 := Lib.hid (RD1.out.app rfl hg2 hown2 hat2); have HL2 := Lib.hid hl2; clear hown2 hg2 hat2 hl2 hn2 hc2 x6 LP LX; have x6 := RD2.out.ms.b0.cell 6; have LP := bk_load (P := Tryz.prog) 3 RD2.out.ms.b1 rfl; have LX := bk_load (P := Tryz.prog) 3 RD2.out.bx rfl)
            refine (ahead_any x p _).mono ?_
            rintro e V3 ⟨rfl, b3⟩
            have RD3 := Lib.hid (RD2.out.below rfl b3)
            clear b3 x6 LP LX
            have x6 := RD3.out.ms.b0.cell 6
            have LP := bk_load (P := Tryz.prog) 3 RD3.out.ms.b1 rfl
            have LX := bk_load (P := Tryz.prog) 3 RD3.out.bx rfl
            rw [hxp]
            go_wp2_with fail
            refine (ahead_any p x _).mono ?_
            rintro e V4 ⟨rfl, b4⟩
            have RD4 := Lib.hid (RD3.out.below rfl b4)
            clear b4 x6 LP LX
            have x6 := RD4.out.ms.b0.cell 6
            have LP := bk_load (P := Tryz.prog) 3 RD4.out.ms.b1 rfl
            have LX := bk_load (P := Tryz.prog) 3 RD4.out.bx rfl
            rw [hpx]
            go_wp2_with (at_builtin; refine wpList_append_any _ rfl (.tmp 61) (.tmp 63) 27 rfl (w.heap.size + 3) 40 i0 _ 3 24 Tryz.underlying27 hi0 hz0 hz1 hz2 rfl (by decide) (.slice A2 ou2.length c2) ou2.length (cellsP ou2) (by rfl) (RD4.out.ow.alloc _) (V4.heap.size + 1) (some ⟨V4.heap.size, 0, none⟩) 1 1 (cellsP [x]) (by rfl) (reads_newP V4 40 [x]) (cellsP_one _) (by unfold maxLen; omega) (by omega) (by rw [World.size_alloc]; have := RD4.out.ms.top; omega) ?_; intro v5 V5 hown5 hg5 hat5; obtain ⟨ou5, hl5⟩ : ∃ l, l = ou2 ++ [x] := ⟨_, rfl⟩; have hn5 : ou2.length + 1 = ou5.length := (by simp [hl5]); have hb5 : ou5.length ≤ ou2.length + 1 := (by omega); rw [hn5, show cellsP ou2 ++ cellsP [x] = cellsP ou5 by rw [hl5, cellsP_append]] at hown5; obtain ⟨A5, c5, rfl, hc5⟩ := own_slice hown5; have RD5 := Lib.hid (RD4.out.app rfl hg5 hown5 hat5); have HL5 := Lib.hid hl5; clear hown5 hg5 hat5 hl5 hn5 hc5 x6 LP LX; have x6 := RD5.out.ms.b0.cell 6; have LP := bk_load (P := Tryz.prog) 3 RD5.out.ms.b1 rfl; have LX := bk_load (P := Tryz.prog) 3 RD5.out.bx rfl)
            go_roundg (gk - 1)
            case measure => have := HM.out; omega
            case rel =>
              have hgo : goP p (x :: c.qs.drop (k + 1)) false = [p, x] ++ goP p (c.qs.drop (k + 1)) true := by
                conv => lhs; unfold goP
                simp [hxp, hpx]
              refine ⟨k + 1, true, ou5, A5, c5, by omega, by go_num, rfl, rfl, by have := HM.out; omega, by omega, ?_, RD5.out.ow, RD5.out.ms⟩
              rw [← HRS.out, HDZ.out, hgo, HL5.out, HL2.out]
              simp
          · go_wp2_with fail
            refine (ahead_any x p _).mono ?_
            rintro e V1 ⟨rfl, b1⟩
            have RD1 := Lib.hid (RD0.out.below rfl b1)
            clear b1 x6 LP LX
            have x6 := RD1.out.ms.b0.cell 6
            have LP := bk_load (P := Tryz.prog) 3 RD1.out.ms.b1 rfl
            have LX := bk_load (P := Tryz.prog) 3 RD1.out.bx rfl
            rw [hxp]
            go_wp2_with fail
            refine (ahead_any p x _).mono ?_
            rintro e V2 ⟨rfl, b2⟩
            have RD2 := Lib.hid (RD1.out.below rfl b2)
            clear b2 x6 LP LX
            have x6 := RD2.out.ms.b0.cell 6
            have LP := bk_load (P := Tryz.prog) 3 RD2.out.ms.b1 rfl
            have LX := bk_load (P := Tryz.prog) 3 RD2.out.bx rfl
            rw [hpx]
            go_wp2_with (at_builtin; refine wpList_append_any _ rfl (.tmp 61) (.tmp 63) 27 rfl (w.heap.size + 3) 40 i0 _ 3 24 Tryz.underlying27 hi0 hz0 hz1 hz2 rfl (by decide) (.slice A ou.length cc) ou.length (cellsP ou) (by rfl) (RD2.out.ow.alloc _) (V2.heap.size + 1) (some ⟨V2.heap.size, 0, none⟩) 1 1 (cellsP [x]) (by rfl) (reads_newP V2 40 [x]) (cellsP_one _) (by unfold maxLen; omega) (by omega) (by rw [World.size_alloc]; have := RD2.out.ms.top; omega) ?_; intro v3 V3 hown3 hg3 hat3; obtain ⟨ou3, hl3⟩ : ∃ l, l = ou ++ [x] := ⟨_, rfl⟩; have hn3 : ou.length + 1 = ou3.length := (by simp [hl3]); have hb3 : ou3.length ≤ ou.length + 1 := (by omega); rw [hn3, show cellsP ou ++ cellsP [x] = cellsP ou3 by rw [hl3, cellsP_append]] at hown3; obtain ⟨A3, c3, rfl, hc3⟩ := own_slice hown3; have RD3 := Lib.hid (RD2.out.app rfl hg3 hown3 hat3); have HL3 := Lib.hid hl3; clear hown3 hg3 hat3 hl3 hn3 hc3 x6 LP LX; have x6 := RD3.out.ms.b0.cell 6; have LP := bk_load (P := Tryz.prog) 3 RD3.out.ms.b1 rfl; have LX := bk_load (P := Tryz.prog) 3 RD3.out.bx rfl)
            go_roundg (gk - 1)
            case measure => have := HM.out; omega
            case rel =>
              have hgo : goP p (x :: c.qs.drop (k + 1)) true = [x] ++ goP p (c.qs.drop (k + 1)) true := by
                conv => lhs; unfold goP
                simp [hxp, hpx]
              refine ⟨k + 1, true, ou3, A3, c3, by omega, by go_num, rfl, rfl, by have := HM.out; omega, by omega, ?_, RD3.out.ow, RD3.out.ms⟩
              rw [← HRS.out, HDZ.out, hgo, HL3.out]
              simp
      · have hpx : True := trivial
        cases d
        · go_wp2_with fail
          refine (ahead_any x p _).mono ?_
          rintro e V1 ⟨rfl, b1⟩
          have RD1 := Lib.hid (RD0.out.below rfl b1)
          clear b1 x6 LP LX
          have x6 := RD1.out.ms.b0.cell 6
          have LP := bk_load (P := Tryz.prog) 3 RD1.out.ms.b1 rfl
          have LX := bk_load (P := Tryz.prog) 3 RD1.out.bx rfl
          rw [hxp]
          go_wp2_with fail
          refine (ahead_any x p _).mono ?_
          rintro e V2 ⟨rfl, b2⟩
          have RD2 := Lib.hid (RD1.out.below rfl b2)
          clear b2 x6 LP LX
          have x6 := RD2.out.ms.b0.cell 6
          have LP := bk_load (P := Tryz.prog) 3 RD2.out.ms.b1 rfl
          have LX := bk_load (P := Tryz.prog) 3 RD2.out.bx rfl
          rw [hxp]
          go_wp2_with (at_builtin; refine wpList_append_any _ rfl (.tmp 61) (.tmp 63) 27 rfl (w.heap.size + 3) 40 i0 _ 3 24 Tryz.underlying27 hi0 hz0 hz1 hz2 rfl (by decide) (.slice A ou.length cc) ou.length (cellsP ou) (by rfl) (RD2.out.ow.alloc _) (V2.heap.size + 1) (some ⟨V2.heap.size, 0, none⟩) 1 1 (cellsP [x]) (by rfl) (reads_newP V2 40 [x]) (cellsP_one _) (by unfold maxLen; omega) (by omega) (by rw [World.size_alloc]; have := RD2.out.ms.top; omega) ?_; intro v3 V3 hown3 hg3 hat3; obtain ⟨ou3, hl3⟩ : ∃ l, l = ou ++ [x] := ⟨_, rfl⟩; have hn3 : ou.length + 1 = ou3.length := (by simp [hl3]); have hb3 : ou3.length ≤ ou.length + 1 := (by omega); rw [hn3, show cellsP ou ++ cellsP [x] = cellsP ou3 by rw [hl3, cellsP_append]] at hown3; obtain ⟨A3, c3, rfl, hc3⟩ := own_slice hown3; have RD3 := Lib.hid (RD2.out.app rfl hg3 hown3 hat3); have HL3 := Lib.hid hl3; clear hown3 hg3 hat3 hl3 hn3 hc3 x6 LP LX; have x6 := RD3.out.ms.b0.cell 6; have LP := bk_load (P := Tryz.prog) 3 RD3.out.ms.b1 rfl; have LX := bk_load (P := Tryz.prog) 3 RD3.out.bx rfl)
          go_roundg (gk - 1)
          case measure => have := HM.out; omega
          case rel =>
            have hgo : goP p (x :: c.qs.drop (k + 1)) false = [x] ++ goP p (c.qs.drop (k + 1)) false := by
              conv => lhs; unfold goP
              simp [hxp, hpx]
            refine ⟨k + 1, false, ou3, A3, c3, by omega, by go_num, rfl, rfl, by have := HM.out; omega, by omega, ?_, RD3.out.ow, RD3.out.ms⟩
            rw [← HRS.out, HDZ.out, hgo, HL3.out]
            simp
        · go_wp2_with fail
          refine (ahead_any x p _).mono ?_
          rintro e V1 ⟨rfl, b1⟩
          have RD1 := Lib.hid (RD0.out.below rfl b1)
          clear b1 x6 LP LX
          have x6 := RD1.out.ms.b0.cell 6
          have LP := bk_load (P := Tryz.prog) 3 RD1.out.ms.b1 rfl
          have LX := bk_load (P := Tryz.prog) 3 RD1.out.bx rfl
          rw [hxp]
          go_wp2_with (at_builtin; refine wpList_append_any _ rfl (.tmp 61) (.tmp 63) 27 rfl (w.heap.size + 3) 40 i0 _ 3 24 Tryz.underlying27 hi0 hz0 hz1 hz2 rfl (by decide) (.slice A ou.length cc) ou.length (cellsP ou) (by rfl) (RD1.out.ow.alloc _) (V1.heap.size + 1) (some ⟨V1.heap.size, 0, none⟩) 1 1 (cellsP [x]) (by rfl) (reads_newP V1 40 [x]) (cellsP_one _) (by unfold maxLen; omega) (by omega) (by rw [World.size_alloc]; have := RD1.out.ms.top; omega) ?_; intro v2 V2 hown2 hg2 hat2; obtain ⟨ou2, hl2⟩ : ∃ l, l = ou ++ [x] := ⟨_, rfl⟩; have hn2 : ou.length + 1 = ou2.length := (by simp [hl2]); have hb2 : ou2.length ≤ ou.length + 1 := (by omega); rw [hn2, show cellsP ou ++ cellsP [x] = cellsP ou2 by rw [hl2, cellsP_append]] at hown2; obtain ⟨A2, c2, rfl, hc2⟩ := own_slice hown2; have RD2 := Lib.hid (RD1.out.app rfl hg2 hown2 hat2); have HL2 := Lib.hid hl2; clear hown2 hg2 hat2 hl2 hn2 hc2 x6 LP LX; have x6 := RD2.out.ms.b0.cell 6; have LP := bk_load (P := Tryz.prog) 3 RD2.out.ms.b1 rfl; have LX := bk_load (P := Tryz.prog) 3 RD2.out.bx rfl)
          go_roundg (gk - 1)
          case measure => have := HM.out; omega
          case rel =>
            have hgo : goP p (x :: c.qs.drop (k + 1)) true = [x] ++ goP p (c.qs.drop (k + 1)) true := by
              conv => lhs; unfold goP
              simp [hxp, hpx]
            refine ⟨k + 1, true, ou2, A2, c2, by omega, by go_num, rfl, rfl, by have := HM.out; omega, by omega, ?_, RD2.out.ow, RD2.out.ms⟩
            rw [← HRS.out, HDZ.out, hgo, HL2.out]
            simp
    · obtain rfl : k = c.qs.length := by omega
      have d1 : decide ((c.qs.length : Int) < (c.qs.length : Int)) = false := by simp
      have hdr : c.qs.drop c.qs.length = [] := List.drop_of_length_le (Nat.le_refl _)
      cases d
      · have HR2 := Lib.hid (show ou ++ [p] = keepF (fun y => plI y p) c.qs p by rw [← HRS.out, hdr]; rfl)
        have HLN' := Lib.hid (show (ou ++ [p]).length ≤ 1000 by rw [HR2.out]; have := length_keepF (fun y => plI y p) c.qs p; have := HPS.out; omega)
        clear hdr
        have LP := bk_load (P := Tryz.prog) 3 MS.out.b1 rfl
        go_wp2_with (at_builtin; refine wpList_append_any _ rfl (.tmp 67) (.tmp 69) 27 rfl (w.heap.size + 3) 40 i0 _ 3 24 Tryz.underlying27 hi0 hz0 hz1 hz2 rfl (by decide) (.slice A ou.length cc) ou.length (cellsP ou) (by rfl) (OW.out.alloc _) (wr.heap.size + 1) (some ⟨wr.heap.size, 0, none⟩) 1 1 (cellsP [p]) (by rfl) (reads_newP wr 40 [p]) (cellsP_one _) (by unfold maxLen; omega) (by omega) (by rw [World.size_alloc]; have := MS.out.top; omega) ?_; intro v4 W4 hown4 hg4 hat4; have MS4 := Lib.hid ((MS.out.alloc rfl _).grown rfl hg4 (fun y hy => (OW.out.lt y hy).1)); obtain ⟨ou4, hl4⟩ : ∃ l, l = ou ++ [p] := ⟨_, rfl⟩; have hn4 : ou.length + 1 = ou4.length := (by simp [hl4]); have hb4 : ou4.length ≤ ou.length + 1 := (by omega); rw [hn4, show cellsP ou ++ cellsP [p] = cellsP ou4 by rw [hl4, cellsP_append]] at hown4; obtain ⟨A4, c4, rfl, hc4⟩ := own_slice hown4; have OW4 := Lib.hid hown4; have HL4 := Lib.hid hl4; have HN4 := Lib.hid hn4; clear hown4 hg4 hat4 hl4 hn4; have kz0 := MS4.out.b0; have st7 := store_slP A4 ou4.length c4 (kz0.cell 6) (kz0.frozen 6); have kz : Blk (W4.setCell ⟨w.heap.size, 6, none⟩ (.slice A4 ou4.length c4)) w.heap.size 29 #[.int .i8 2, .int .i64 c.pid, .int .i64 c.ep, .int .i64 c.tm, .int .i64 c.th, .slice A1 c.ps.length c1, .slice A4 ou4.length c4, .int .i64 c.ag] := kz0.set_ 6 (.slice A4 ou4.length c4); have L7 := bk_load (P := Tryz.prog) 8 kz rfl; have k37 := MS4.out.b2.far (p := ⟨w.heap.size, 6, none⟩) (by simp; omega) (.slice A4 ou4.length c4); have b7 := MS4.out.bel.setCell (p := ⟨w.heap.size, 6, none⟩) (Nat.le_refl _) (.slice A4 ou4.length c4); have o7 := bk_own (w' := W4.setCell ⟨w.heap.size, 6, none⟩ (.slice A4 ou4.length c4)) OW4.out (fun y hy => Below.heap_setCell _ _ _ _ (by have := (OW4.out.lt y hy).1; show y ≠ w.heap.size; omega)); obtain ⟨W9, st9, kk, fb, fh, fs⟩ := bk_store (P := Tryz.prog) (ty := 29) (cs := #[.int .i8 2, .int .i64 c.pid, .int .i64 c.ep, .int .i64 c.tm, .int .i64 c.th, .slice A1 c.ps.length c1, .slice A4 ou4.length c4, .int .i64 c.ag]) 8 k37 infoCo rfl rfl (by simp [Value.oneCell']); have BB := Lib.hid (fb w.heap.size w (by omega) b7); have OO := Lib.hid (bk_own o7 (fun y hy => fh y (by have := (OW4.out.lt y hy).1; omega))); have KK := Lib.hid kk; clear kz0 kz k37 b7 o7 kk fb fh fs)
        have HLN := Lib.hid (show ou4.length ≤ 1000 by rw [HL4.out]; exact HLN'.out)
        rw [← HL4.out] at HR2
        refine bodyPost_ret (v := .tuple #[.agg #[.int .i8 2, .int .i64 c.pid, .int .i64 c.ep, .int .i64 c.tm, .int .i64 c.th, .slice A1 c.ps.length c1, .slice A4 ou4.length c4, .int .i64 c.ag], .int .i64 0]) (rset_ret { c with st := 2, qs := ou4 } A1 A4 c1 c4 0 _ (w.heap.size + 1 + 1) _ rfl rfl KK.out) rfl ?_
        rw [HE.out, HC.out, ← HR2.out]
        have rr := H1.out.up BB.out
        have na := newAt_of_own OO.out
        exact ⟨A1, A4, c1, c4, rfl, ⟨rr.1, Reads.of_own OO.out, rr.2.2.1, HLN.out⟩, BB.out, fun b hb o1 o2 => ⟨o1, na.off (by omega)⟩⟩
      · have HR2 := Lib.hid (show ou = keepF (fun y => plI y p) c.qs p by rw [← HRS.out, hdr]; show ou = ou ++ []; simp)
        have HLN := Lib.hid (show ou.length ≤ 1000 by rw [HR2.out]; have := length_keepF (fun y => plI y p) c.qs p; have := HPS.out; omega)
        clear hdr
        have kz0 := MS.out.b0
        have st7 := store_slP A ou.length cc (kz0.cell 6) (kz0.frozen 6)
        have kz : Blk (wr.setCell ⟨w.heap.size, 6, none⟩ (.slice A ou.length cc)) w.heap.size 29 #[.int .i8 2, .int .i64 c.pid, .int .i64 c.ep, .int .i64 c.tm, .int .i64 c.th, .slice A1 c.ps.length c1, .slice A ou.length cc, .int .i64 c.ag] := kz0.set_ 6 (.slice A ou.length cc)
        have L7 := bk_load (P := Tryz.prog) 8 kz rfl
        have k37 := MS.out.b2.far (p := ⟨w.heap.size, 6, none⟩) (by simp; omega) (.slice A ou.length cc)
        have b7 := MS.out.bel.setCell (p := ⟨w.heap.size, 6, none⟩) (Nat.le_refl _) (.slice A ou.length cc)
        have o7 := bk_own (w' := wr.setCell ⟨w.heap.size, 6, none⟩ (.slice A ou.length cc)) OW.out (fun y hy => Below.heap_setCell _ _ _ _ (by have := (OW.out.lt y hy).1; show y ≠ w.heap.size; omega))
        obtain ⟨W9, st9, kk, fb, fh, fs⟩ := bk_store (P := Tryz.prog) (ty := 29) (cs := #[.int .i8 2, .int .i64 c.pid, .int .i64 c.ep, .int .i64 c.tm, .int .i64 c.th, .slice A1 c.ps.length c1, .slice A ou.length cc, .int .i64 c.ag]) 8 k37 infoCo rfl rfl (by simp [Value.oneCell'])
        have BB := Lib.hid (fb w.heap.size w (by omega) b7)
        have OO := Lib.hid (bk_own o7 (fun y hy => fh y (by have := (OW.out.lt y hy).1; omega)))
        have KK := Lib.hid kk
        clear kz0 kz k37 b7 o7 kk fb fh fs
        go_wp2_with fail
        refine bodyPost_ret (v := .tuple #[.agg #[.int .i8 2, .int .i64 c.pid, .int .i64 c.ep, .int .i64 c.tm, .int .i64 c.th, .slice A1 c.ps.length c1, .slice A ou.length cc, .int .i64 c.ag], .int .i64 0]) (rset_ret { c with st := 2, qs := ou } A1 A c1 cc 0 _ (w.heap.size + 1 + 1) _ rfl rfl KK.out) rfl ?_
        rw [HE.out, HC.out, ← HR2.out]
        have rr := H1.out.up BB.out
        have na := newAt_of_own OO.out
        exact ⟨A1, A, c1, cc, rfl, ⟨rr.1, Reads.of_own OO.out, rr.2.2.1, HLN.out⟩, BB.out, fun b hb o1 o2 => ⟨o1, na.off (by omega)⟩⟩
theorem rSet_any (c : Co) (A1 D1 : Option Addr) (c1 e1 : Nat) (p : Pd) (w : World) (h1 : CoR w w.heap.size c A1 D1) (h8 : -128 ≤ c.st) (h9 : c.st ≤ 127) :
    Calls Tryz.prog 94 #[(.agg #[.int .i8 c.st, .int .i64 c.pid, .int .i64 c.ep, .int .i64 c.tm, .int .i64 c.th, .slice A1 c.ps.length c1, .slice D1 c.qs.length e1, .int .i64 c.ag]), .agg #[.int .i64 p.1, .int .i64 p.2.1, .int .i64 p.2.2]] w (MvP c A1 D1 (setC c p) (setE c p) w) := by
  cases hm : mayB c
  · exact rset_a c A1 D1 c1 e1 p w h1 h8 h9 hm
  cases kp : pendB p
  · exact rset_b c A1 D1 c1 e1 p w h1 h8 h9 hm kp
  cases ki : idlB c
  · by_cases k2 : c.st = 2
    · exact rset_dg c A1 D1 c1 e1 p w h1 h8 h9 hm kp (.inr k2) ki k2
    · exact rset_c c A1 D1 c1 e1 p w h1 h8 h9 hm kp ki k2
  · exact rset_di c A1 D1 c1 e1 p w h1 h8 h9 hm kp (.inl ki) ki
end
end Go.Proofs.YtbpkckahonmpkaaGreatDoor
