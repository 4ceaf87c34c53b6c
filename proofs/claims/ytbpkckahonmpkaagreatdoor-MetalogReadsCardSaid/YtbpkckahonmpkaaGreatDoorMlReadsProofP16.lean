/-
  Layer 19, the document's: Read of an entry.
-/
import Derived.Test.YtbpkckahonmpkaaGreatDoorMlReadsProofP15
set_option linter.unusedVariables false
set_option linter.unusedSimpArgs false
namespace Go.Proofs.YtbpkckahonmpkaaGreatDoor
open Go.RowKit
/-- Reading an entry, in the document's words: what is read so far; where the reader is. -/
def FrM (W0 : World) (g Y : Nat) (s : ByteArray) (i : Nat) (b : Bool) (cs : Array Value) (W : World) : Prop :=
  Blk W Y 42 cs ∧ RrOk W0.heap.size W g s i b ∧ W0.heap.size ≤ Y ∧ Goes W0.heap.size g W0 W
section
variable {g Y i j : Nat} {b b' : Bool} {s : ByteArray} {cs cs' : Array Value} {W0 W W' : World}
theorem FrM.next (h : FrM W0 g Y s i b cs W) (k : RrOk W0.heap.size W' g s j b') (o : Only (fun y => y = g) W W') : FrM W0 g Y s j b' cs W' :=
  ⟨o.blk h.1 (by have := h.2.1.2.2.2.1; have := h.2.2.1; omega), k, h.2.2.1, h.2.2.2.only o⟩
theorem FrM.set (h : FrM W0 g Y s i b cs W) (o : Nat) (v : Value) : FrM W0 g Y s i b (cs.setIfInBounds o v) (W.setCell ⟨Y, o, none⟩ v) :=
  ⟨h.1.set_ o v, h.2.1.set h.2.2.1 v, h.2.2.1, h.2.2.2.set h.2.2.1 v⟩
theorem FrM.many (h : FrM W0 g Y s i b cs W) (ty : TypeId) (o : Nat) (vs : List Value) (hi : (Tryz.prog.info? ty).map (·.size) = some vs.length) (hj : o + vs.length ≤ cs.size) (h1 : vs.toArray.all (·.oneCell') = true) (ho : bkSet cs o vs = cs') :
    ∃ W', (storeVar ty ⟨Y, o, none⟩ (.agg vs.toArray)).run Tryz.prog W = .ok () W' ∧ FrM W0 g Y s i b cs' W' ∧ (∀ y, y ≠ Y → W'.heap[y]? = W.heap[y]?) ∧ W'.heap.size = W.heap.size := by
  have hb := bk_setCells_below h.2.2.1 vs o W (Below.refl W0.heap.size W)
  refine ⟨_, run_storeVar_mid W Y o ty vs.toArray (fun j hj' => ?_) (by rw [hi]; rfl) h1, ⟨?_, h.2.1.below hb, h.2.2.1, h.2.2.2.below hb⟩, fun y hy => bk_setCells_heap Y _ _ _ y hy, bk_setCells_size ..⟩
  · exact blk_is h.1 (by simp at hj'; omega)
  · rw [← ho]; exact bk_setCells vs o _ _ h.1
end
def RdN (x : Mt) (n : Int) (w : World) (e : Ending) (w' : World) : Prop := ∃ D e', e = .returned (.tuple #[.agg (mtX x none D 0 e'), .int .i64 n]) ∧ CoR w' w'.heap.size x.c none D ∧ Below w.heap.size w w' ∧ ∀ ad, 0 < x.c.qs.length → D = some ad → w.heap.size ≤ ad.block
section
attribute [-go_sem] loadCells storeVar
theorem rmread_ret (X : Array Value) (v3 : Value) (tmps : Array Value) (b : Nat) (W : World) (h2 : tmps[2]?.getD undef = .pointer (some ⟨b, 0, none⟩)) (h3 : tmps[3]?.getD undef = v3) (hK : Blk W b 42 X) (hX : X.size = 17) :
    (results Tryz.f29 tmps).run Tryz.prog W = .ok (.tuple #[.agg X, v3]) W := by
  have LC := bk_load (P := Tryz.prog) 17 hK hX
  clear hK
  simp [results, Tryz.results29, go_sem, h2, h3, LC]
set_option maxRecDepth 100000 in
set_option maxHeartbeats 8000000 in
theorem rMtRead_0 (s : ByteArray) (w : World) (hl : s.size ≤ 100000) (j0 : Nat) (b0 : Bool) (hz0 : rdNum (lb s) 0 false 0 100 = (0, j0, b0)) :
    Calls Tryz.prog 29 #[.string s] w (RdN (readM 100 100 (lb s)).1 (readM 100 100 (lb s)).2 w) := by
  have hM : rM 100 0 (lb s) j0 b0 = (Mb0, j0, b0) := by
    rw [show rM 100 0 = rM0 from rfl]
    simp only [rM0, rdMap]
  have hR : rdMt 100 100 (lb s) 0 false = (mtOf 0 Mb0, j0, b0) := by
    have hy0 : rdNum (lb s) 0 false ((0 : Nat) : Int) ((100 : Nat) : Int) = (0, j0, b0) := hz0
    simp only [rdMt, rdMap, rdBind, rI, hy0, hM]
  have hRR : readM 100 100 (lb s) = if b0 = true ∨ j0 ≠ s.size ∨ mayM (mtOf 0 Mb0) = false then (MtNil, 70) else (mtOf 0 Mb0, 0) := by
    unfold readM
    rw [hR, length_lb]
  have hqs : (mtOf 0 Mb0).c.qs.length ≤ 6 := by have := rM_qs 100 0 (lb s) j0 b0; rw [hM] at this; exact this
  have wc8 : IntKind.i8.wrap (0) = 0 := IntWalk.i8_in _ (by omega)
  have hk8 : -128 ≤ (mtOf 0 Mb0).c.st ∧ (mtOf 0 Mb0).c.st ≤ 127 := by exact (show (-128 : Int) ≤ 0 ∧ (0 : Int) ≤ 127 by omega)
  obtain ⟨Wa, hWa⟩ : ∃ Wa, Wa = w.alloc (.cells #[.int .i8 0, .int .i64 0, .int .i64 0, .int .i64 0, .int .i64 0, .int .i64 0, .bool false, .int .i64 0, .int .i8 0, .int .i64 0, .int .i64 0, .int .i64 0, .int .i64 0, .slice none 0 0, .slice none 0 0, .int .i64 0, .int .i64 0] 42) := ⟨_, rfl⟩
  have sa : Wa.heap.size = w.heap.size + 1 := by rw [hWa]; simp
  have KXa : Blk Wa w.heap.size 42 #[.int .i8 0, .int .i64 0, .int .i64 0, .int .i64 0, .int .i64 0, .int .i64 0, .bool false, .int .i64 0, .int .i8 0, .int .i64 0, .int .i64 0, .int .i64 0, .int .i64 0, .slice none 0 0, .slice none 0 0, .int .i64 0, .int .i64 0] := by rw [hWa]; exact Blk.new w 42 #[.int .i8 0, .int .i64 0, .int .i64 0, .int .i64 0, .int .i64 0, .int .i64 0, .bool false, .int .i64 0, .int .i8 0, .int .i64 0, .int .i64 0, .int .i64 0, .int .i64 0, .slice none 0 0, .slice none 0 0, .int .i64 0, .int .i64 0]
  have NW := Lib.hid (rRNew_any s Wa)
  obtain ⟨W1, hW1⟩ : ∃ W1, W1 = Wa.alloc (.cells #[.string s, .int .i64 0, .bool false] 130) := ⟨_, rfl⟩
  have s1 : W1.heap.size = w.heap.size + 1 + 1 := by rw [hW1]; simp [sa]
  have R1 := Lib.hid (show RrOk W1.heap.size W1 (w.heap.size + 1) s 0 false from ⟨by rw [hW1]; exact bk_new _ 130 _ sa, Nat.zero_le _, hl, by omega, Nat.le_refl _⟩)
  have KX1 := Lib.hid (show Blk W1 w.heap.size 42 #[.int .i8 0, .int .i64 0, .int .i64 0, .int .i64 0, .int .i64 0, .int .i64 0, .bool false, .int .i64 0, .int .i8 0, .int .i64 0, .int .i64 0, .int .i64 0, .int .i64 0, .slice none 0 0, .slice none 0 0, .int .i64 0, .int .i64 0] by rw [hW1]; exact KXa.alloc _)
  have B1 := Lib.hid (show Below w.heap.size w W1 by rw [hW1, hWa]; exact bal (bal (Below.refl _ _) _) _)
  have HS := Lib.hid (show W1.heap.size = w.heap.size + 1 + 1 from s1)
  have HSA := Lib.hid sa
  have HWA := Lib.hid hWa
  have HW1 := Lib.hid hW1
  have HRR := Lib.hid hRR
  have HQS := Lib.hid hqs
  have HK8 := Lib.hid hk8
  have HZ0 := Lib.hid hz0
  clear hWa sa KXa hW1 s1 hRR hqs hk8 hz0 hM hR hl 
  go_enter Tryz.func29, Tryz.ntmps29
  go_upto_region 1 with (fail)
  rw [← HWA.out]
  have N0 := Lib.hid (rRNum_z HZ0.out R1.out)
  go_wp2_with (go_at_call 54; refine NW.out.mono ?_; rw [← HW1.out]; rintro e w0 ⟨rfl, rfl⟩; rw [HSA.out])
  refine N0.out.mono ?_
  rintro e w1 ⟨rfl, r, o⟩
  obtain ⟨V1, st1, k1, bl1, sl1⟩ := bk_fresh (P := Tryz.prog) w1 42 #[.int .i8 0, .int .i64 0, .int .i64 0, .int .i64 0, .int .i64 0, .int .i64 0, .bool false, .int .i64 0, .int .i8 0, .int .i64 0, .int .i64 0, .int .i64 0, .int .i64 0, .slice none 0 0, .slice none 0 0, .int .i64 0, .int .i64 0] #[.int .i8 (0), .int .i64 0, .int .i64 0, .int .i64 0, .int .i64 0, .int .i64 0, .bool false, .int .i64 0, .int .i8 0, .int .i64 0, .int .i64 0, .int .i64 0, .int .i64 0, .slice none 0 0, .slice none 0 0, .int .i64 0, .int .i64 0] 17 infoMt rfl rfl (by simp [Value.oneCell'])
  have hle := o.size
  have F1 := Lib.hid (show FrM W1 (w.heap.size + 1) w1.heap.size s j0 b0 (mtX (Mt0 0) none none 0 0) V1 from ⟨k1, r.below (bl1.mono o.size), o.size, ((Goes.refl (show w.heap.size + 1 < W1.heap.size by have := HS.out; omega)).only o).below (bl1.mono o.size)⟩)
  have HY := Lib.hid (show W1.heap.size ≤ w1.heap.size from o.size)
  have x0 : V1.cell? ⟨w1.heap.size, 0, none⟩ = some (.int .i8 (0)) := k1.cell 0
  clear r o k1 bl1 sl1 hle
  have HCR0 := Lib.hid (show CoR V1 V1.heap.size (mtOf 0 Mb0).c none none from co0_R _ _)
  have HOF := Lib.hid (show ∀ (ad : Addr), 0 < (mtOf 0 Mb0).c.qs.length → (none : Option Addr) = some ad → w1.heap.size < ad.block from fun _ _ hd => by cases hd)
  have FX := Lib.hid (show FrM W1 (w.heap.size + 1) w1.heap.size s j0 b0 (mtX (mtOf 0 Mb0) none none 0 0) V1 from F1.out)
  have E1 := Lib.hid (rREnd_any (w.heap.size + 1) s j0 b0 V1 FX.out.2.1.1)
  have KX2 := Lib.hid (FX.out.2.2.2.1.blk KX1.out (show ¬ w.heap.size = w.heap.size + 1 by omega))
  have B2 := Lib.hid (B1.out.trans (FX.out.2.2.2.1.below B1.out.size (fun x hx => by omega)))
  by_cases hE : b0 = true ∨ j0 ≠ s.size
  · have he : endOf s.size j0 b0 = 70 := if_pos hE
    rw [he] at E1
    have HR7 := Lib.hid (show readM 100 100 (lb s) = (MtNil, 70) by rw [HRR.out, if_pos (by rcases hE with h | h; exact .inl h; exact .inr (.inl h))])
    clear hE he
    go_wp2_with fail
    refine E1.out.mono ?_
    rintro e w9 ⟨rfl, nn, rfl⟩
    obtain ⟨W9, st9, k9, fb9, fh9, fs9⟩ := bk_store (P := Tryz.prog) (ty := 42) (cs := #[.int .i8 0, .int .i64 0, .int .i64 0, .int .i64 0, .int .i64 0, .int .i64 0, .bool false, .int .i64 0, .int .i8 0, .int .i64 0, .int .i64 0, .int .i64 0, .int .i64 0, .slice none 0 0, .slice none 0 0, .int .i64 0, .int .i64 0]) 17 (KX2.out.drewN nn) infoMt rfl rfl (by simp [Value.oneCell'])
    have BF := Lib.hid (fb9 _ w (Nat.le_refl _) (below_drewN B2.out nn))
    have KF := Lib.hid k9
    clear k9 fb9 fh9 fs9
    go_wp2_with fail
    refine bodyPost_ret (v := .tuple #[.agg #[.int .i8 0, .int .i64 0, .int .i64 0, .int .i64 0, .int .i64 0, .int .i64 0, .bool false, .int .i64 0, .int .i8 0, .int .i64 0, .int .i64 0, .int .i64 0, .int .i64 0, .slice none 0 0, .slice none 0 0, .int .i64 0, .int .i64 0], .int .i64 70]) (rmread_ret #[.int .i8 0, .int .i64 0, .int .i64 0, .int .i64 0, .int .i64 0, .int .i64 0, .bool false, .int .i64 0, .int .i8 0, .int .i64 0, .int .i64 0, .int .i64 0, .int .i64 0, .slice none 0 0, .slice none 0 0, .int .i64 0, .int .i64 0] _ _ w.heap.size _ rfl rfl KF.out rfl) rfl ?_
    rw [HR7.out]
    exact ⟨none, 0, rfl, co0_R _ _, BF.out, fun _ _ hd => by cases hd⟩
  · have he : endOf s.size j0 b0 = 0 := if_neg hE
    rw [he] at E1
    have HE := Lib.hid hE
    clear hE he
    go_wp2_with fail
    refine E1.out.mono ?_
    rintro e w9 ⟨rfl, nn, rfl⟩
    have bn : Below V1.heap.size V1 (V1.drewN nn) := below_drewN (Below.refl _ _) nn
    have K10 := Lib.hid (FX.out.1.drewN nn)
    have l10 := mt_load (P := Tryz.prog) K10.out
    have hcr : CoR (V1.drewN nn) (V1.drewN nn).heap.size (mtOf 0 Mb0).c none none := HCR0.out.up bn
    have HCR := Lib.hid hcr
    have MY := Lib.hid (rMayM_all (mtOf 0 Mb0) none none 0 0 (V1.drewN nn).heap.size (V1.drewN nn) hcr (Nat.le_refl _) HK8.out.1 HK8.out.2)
    have B10 := Lib.hid (below_drewN B2.out nn)
    have KX10 := Lib.hid (KX2.out.drewN nn)
    obtain ⟨W10, hW10⟩ : ∃ W10, W10 = V1.drewN nn := ⟨_, rfl⟩
    rw [← hW10] at K10 l10 HCR MY B10 KX10 ⊢
    clear hcr hW10 bn
    obtain ⟨XM, hXM⟩ : ∃ XM, (mtOf 0 Mb0) = XM := ⟨_, rfl⟩
    rw [hXM] at l10 HCR MY K10
    have HOF2 := Lib.hid (show ∀ (ad : Addr), 0 < XM.c.qs.length → none = some ad → w1.heap.size < ad.block by rw [← hXM]; exact HOF.out)
    have HRX := Lib.hid (show readM 100 100 (lb s) = if b0 = true ∨ j0 ≠ s.size ∨ mayM XM = false then (MtNil, 70) else (XM, 0) by rw [HRR.out, hXM])
    clear hXM
    cases hmy : mayM XM
    · rw [hmy] at MY
      have HR7 := Lib.hid (show readM 100 100 (lb s) = (MtNil, 70) by rw [HRX.out, if_pos (.inr (.inr hmy))])
      clear hmy
      go_wp2_with fail
      refine MY.out.mono ?_
      rintro e w11 ⟨rfl, b11⟩
      obtain ⟨W12, st12, k12, fb12, fh12, fs12⟩ := bk_store (P := Tryz.prog) (ty := 42) (cs := #[.int .i8 0, .int .i64 0, .int .i64 0, .int .i64 0, .int .i64 0, .int .i64 0, .bool false, .int .i64 0, .int .i8 0, .int .i64 0, .int .i64 0, .int .i64 0, .int .i64 0, .slice none 0 0, .slice none 0 0, .int .i64 0, .int .i64 0]) 17 (KX10.out.below b11 KX10.out.lt) infoMt rfl rfl (by simp [Value.oneCell'])
      have BF := Lib.hid (fb12 _ w (Nat.le_refl _) (B10.out.trans (b11.mono B10.out.size)))
      have KF := Lib.hid k12
      clear k12 fb12 fh12 fs12 l10 b11
      go_wp2_with fail
      refine bodyPost_ret (v := .tuple #[.agg #[.int .i8 0, .int .i64 0, .int .i64 0, .int .i64 0, .int .i64 0, .int .i64 0, .bool false, .int .i64 0, .int .i8 0, .int .i64 0, .int .i64 0, .int .i64 0, .int .i64 0, .slice none 0 0, .slice none 0 0, .int .i64 0, .int .i64 0], .int .i64 70]) (rmread_ret #[.int .i8 0, .int .i64 0, .int .i64 0, .int .i64 0, .int .i64 0, .int .i64 0, .bool false, .int .i64 0, .int .i8 0, .int .i64 0, .int .i64 0, .int .i64 0, .int .i64 0, .slice none 0 0, .slice none 0 0, .int .i64 0, .int .i64 0] _ _ w.heap.size _ rfl rfl KF.out rfl) rfl ?_
      rw [HR7.out]
      exact ⟨none, 0, rfl, co0_R _ _, BF.out, fun _ _ hd => by cases hd⟩
    · rw [hmy] at MY
      have HR7 := Lib.hid (show readM 100 100 (lb s) = (XM, 0) by
        rw [HRX.out, if_neg]
        rintro (h | h | h)
        · exact HE.out (.inl h)
        · exact HE.out (.inr h)
        · rw [hmy] at h; cases h)
      clear hmy
      go_wp2_with fail
      refine MY.out.mono ?_
      rintro e w11 ⟨rfl, b11⟩
      have l11 := mt_load (P := Tryz.prog) (K10.out.below b11 K10.out.lt)
      obtain ⟨W12, st12, k12, fb12, fh12, fs12⟩ := bk_store (P := Tryz.prog) (ty := 42) (cs := mtX XM none none 0 0) 17 (KX10.out.below b11 KX10.out.lt) infoMt rfl (mtX_size ..) (mtX_one ..)
      have BF := Lib.hid (fb12 _ w (Nat.le_refl _) (B10.out.trans (b11.mono B10.out.size)))
      have KF := Lib.hid k12
      have HC2 := Lib.hid (coR_hold (HCR.out.up b11) (fun ad h0 hd => by have := HOF2.out ad h0 hd; have := HY.out; have := HS.out; omega) fh12 fs12)
      clear k12 fb12 fh12 fs12 l10 b11
      go_wp2_with fail
      refine bodyPost_ret (v := .tuple #[.agg (mtX XM none none 0 0), .int .i64 0]) (rmread_ret (mtX XM none none 0 0) _ _ w.heap.size _ rfl rfl KF.out (mtX_size ..)) rfl ?_
      rw [HR7.out]
      exact ⟨none, 0, rfl, HC2.out, BF.out, fun ad h0 hd => by have := HOF2.out ad h0 hd; have := HY.out; have := HS.out; omega⟩
set_option maxRecDepth 100000 in
set_option maxHeartbeats 8000000 in
theorem rMtRead_1 (s : ByteArray) (w : World) (hl : s.size ≤ 100000) (j0 : Nat) (b0 : Bool) (hz0 : rdNum (lb s) 0 false 0 100 = (1, j0, b0)) :
    Calls Tryz.prog 29 #[.string s] w (RdN (readM 100 100 (lb s)).1 (readM 100 100 (lb s)).2 w) := by
  obtain ⟨v1, j1, b1, hz1⟩ : ∃ v j b, rdNum (lb s) j0 b0 0 2 = (v, j, b) := ⟨_, _, _, rfl⟩
  obtain ⟨v2, j2, b2, hz2⟩ : ∃ v j b, rdNum (lb s) j1 b1 1 20 = (v, j, b) := ⟨_, _, _, rfl⟩
  have hM : rM 100 1 (lb s) j0 b0 = ((v1, v2, Pd0, false, 0, Co0, 0), j2, b2) := by
    rw [show rM 100 1 = rM1 from rfl]
    have hy1 : rdNum (lb s) j0 b0 ((0 : Nat) : Int) ((2 : Nat) : Int) = (v1, j1, b1) := hz1
    have hy2 : rdNum (lb s) j1 b1 ((1 : Nat) : Int) ((20 : Nat) : Int) = (v2, j2, b2) := hz2
    simp only [rM1, rdMap, rdBind, rI, hy1, hy2]
  have hR : rdMt 100 100 (lb s) 0 false = (mtOf 1 (v1, v2, Pd0, false, 0, Co0, 0), j2, b2) := by
    have hy0 : rdNum (lb s) 0 false ((0 : Nat) : Int) ((100 : Nat) : Int) = (1, j0, b0) := hz0
    simp only [rdMt, rdMap, rdBind, rI, hy0, hM]
  have hRR : readM 100 100 (lb s) = if b2 = true ∨ j2 ≠ s.size ∨ mayM (mtOf 1 (v1, v2, Pd0, false, 0, Co0, 0)) = false then (MtNil, 70) else (mtOf 1 (v1, v2, Pd0, false, 0, Co0, 0), 0) := by
    unfold readM
    rw [hR, length_lb]
  have hqs : (mtOf 1 (v1, v2, Pd0, false, 0, Co0, 0)).c.qs.length ≤ 6 := by have := rM_qs 100 1 (lb s) j0 b0; rw [hM] at this; exact this
  have wc8 : IntKind.i8.wrap (1) = 1 := IntWalk.i8_in _ (by omega)
  have hk8 : -128 ≤ (mtOf 1 (v1, v2, Pd0, false, 0, Co0, 0)).c.st ∧ (mtOf 1 (v1, v2, Pd0, false, 0, Co0, 0)).c.st ≤ 127 := by exact (show (-128 : Int) ≤ 0 ∧ (0 : Int) ≤ 127 by omega)
  obtain ⟨Wa, hWa⟩ : ∃ Wa, Wa = w.alloc (.cells #[.int .i8 0, .int .i64 0, .int .i64 0, .int .i64 0, .int .i64 0, .int .i64 0, .bool false, .int .i64 0, .int .i8 0, .int .i64 0, .int .i64 0, .int .i64 0, .int .i64 0, .slice none 0 0, .slice none 0 0, .int .i64 0, .int .i64 0] 42) := ⟨_, rfl⟩
  have sa : Wa.heap.size = w.heap.size + 1 := by rw [hWa]; simp
  have KXa : Blk Wa w.heap.size 42 #[.int .i8 0, .int .i64 0, .int .i64 0, .int .i64 0, .int .i64 0, .int .i64 0, .bool false, .int .i64 0, .int .i8 0, .int .i64 0, .int .i64 0, .int .i64 0, .int .i64 0, .slice none 0 0, .slice none 0 0, .int .i64 0, .int .i64 0] := by rw [hWa]; exact Blk.new w 42 #[.int .i8 0, .int .i64 0, .int .i64 0, .int .i64 0, .int .i64 0, .int .i64 0, .bool false, .int .i64 0, .int .i8 0, .int .i64 0, .int .i64 0, .int .i64 0, .int .i64 0, .slice none 0 0, .slice none 0 0, .int .i64 0, .int .i64 0]
  have NW := Lib.hid (rRNew_any s Wa)
  obtain ⟨W1, hW1⟩ : ∃ W1, W1 = Wa.alloc (.cells #[.string s, .int .i64 0, .bool false] 130) := ⟨_, rfl⟩
  have s1 : W1.heap.size = w.heap.size + 1 + 1 := by rw [hW1]; simp [sa]
  have R1 := Lib.hid (show RrOk W1.heap.size W1 (w.heap.size + 1) s 0 false from ⟨by rw [hW1]; exact bk_new _ 130 _ sa, Nat.zero_le _, hl, by omega, Nat.le_refl _⟩)
  have KX1 := Lib.hid (show Blk W1 w.heap.size 42 #[.int .i8 0, .int .i64 0, .int .i64 0, .int .i64 0, .int .i64 0, .int .i64 0, .bool false, .int .i64 0, .int .i8 0, .int .i64 0, .int .i64 0, .int .i64 0, .int .i64 0, .slice none 0 0, .slice none 0 0, .int .i64 0, .int .i64 0] by rw [hW1]; exact KXa.alloc _)
  have B1 := Lib.hid (show Below w.heap.size w W1 by rw [hW1, hWa]; exact bal (bal (Below.refl _ _) _) _)
  have HS := Lib.hid (show W1.heap.size = w.heap.size + 1 + 1 from s1)
  have HSA := Lib.hid sa
  have HWA := Lib.hid hWa
  have HW1 := Lib.hid hW1
  have HRR := Lib.hid hRR
  have HQS := Lib.hid hqs
  have HK8 := Lib.hid hk8
  have HZ0 := Lib.hid hz0
  have HZ1 := Lib.hid hz1
  have HZ2 := Lib.hid hz2
  clear hWa sa KXa hW1 s1 hRR hqs hk8 hz0 hM hR hl hz1 hz2
  go_enter Tryz.func29, Tryz.ntmps29
  go_upto_region 1 with (fail)
  rw [← HWA.out]
  have N0 := Lib.hid (rRNum_z HZ0.out R1.out)
  go_wp2_with (go_at_call 54; refine NW.out.mono ?_; rw [← HW1.out]; rintro e w0 ⟨rfl, rfl⟩; rw [HSA.out])
  refine N0.out.mono ?_
  rintro e w1 ⟨rfl, r, o⟩
  obtain ⟨V1, st1, k1, bl1, sl1⟩ := bk_fresh (P := Tryz.prog) w1 42 #[.int .i8 0, .int .i64 0, .int .i64 0, .int .i64 0, .int .i64 0, .int .i64 0, .bool false, .int .i64 0, .int .i8 0, .int .i64 0, .int .i64 0, .int .i64 0, .int .i64 0, .slice none 0 0, .slice none 0 0, .int .i64 0, .int .i64 0] #[.int .i8 (1), .int .i64 0, .int .i64 0, .int .i64 0, .int .i64 0, .int .i64 0, .bool false, .int .i64 0, .int .i8 0, .int .i64 0, .int .i64 0, .int .i64 0, .int .i64 0, .slice none 0 0, .slice none 0 0, .int .i64 0, .int .i64 0] 17 infoMt rfl rfl (by simp [Value.oneCell'])
  have hle := o.size
  have F1 := Lib.hid (show FrM W1 (w.heap.size + 1) w1.heap.size s j0 b0 (mtX (Mt0 1) none none 0 0) V1 from ⟨k1, r.below (bl1.mono o.size), o.size, ((Goes.refl (show w.heap.size + 1 < W1.heap.size by have := HS.out; omega)).only o).below (bl1.mono o.size)⟩)
  have HY := Lib.hid (show W1.heap.size ≤ w1.heap.size from o.size)
  have x0 : V1.cell? ⟨w1.heap.size, 0, none⟩ = some (.int .i8 (1)) := k1.cell 0
  clear r o k1 bl1 sl1 hle
  have NM := Lib.hid (rRNum_z HZ1.out F1.out.2.1)
  go_wp2_with fail
  refine NM.out.mono ?_
  rintro e w2 ⟨rfl, r, o⟩
  have f := F1.out.next r o
  have st2 := store_intS v1 (f.1.cell 1) (f.1.frozen 1)
  have F2 := Lib.hid (show FrM W1 (w.heap.size + 1) w1.heap.size s j1 b1 (mtX ({ Mt0 1 with tid := v1 } : Mt) none none 0 0) (w2.setCell ⟨w1.heap.size, 1, none⟩ (.int .i64 v1)) from f.set 1 (.int .i64 v1))
  obtain ⟨V2, hV2⟩ : ∃ V, V = w2.setCell ⟨w1.heap.size, 1, none⟩ (.int .i64 v1) := ⟨_, rfl⟩
  rw [← hV2] at st2 F2
  clear r o f NM x0 st1 hV2
  have x0 : V2.cell? ⟨w1.heap.size, 0, none⟩ = some (.int .i8 (1)) := mt_cell F2.out.1 (j := 0) rfl
  have NM := Lib.hid (rRNum_z HZ2.out F2.out.2.1)
  go_wp2_with fail
  refine NM.out.mono ?_
  rintro e w3 ⟨rfl, r, o⟩
  have f := F2.out.next r o
  have st3 := store_intS v2 (f.1.cell 2) (f.1.frozen 2)
  have F3 := Lib.hid (show FrM W1 (w.heap.size + 1) w1.heap.size s j2 b2 (mtX ({ Mt0 1 with tid := v1, tm := v2 } : Mt) none none 0 0) (w3.setCell ⟨w1.heap.size, 2, none⟩ (.int .i64 v2)) from f.set 2 (.int .i64 v2))
  obtain ⟨V3, hV3⟩ : ∃ V, V = w3.setCell ⟨w1.heap.size, 2, none⟩ (.int .i64 v2) := ⟨_, rfl⟩
  rw [← hV3] at st3 F3
  clear r o f NM x0 st2 hV3
  have x0 : V3.cell? ⟨w1.heap.size, 0, none⟩ = some (.int .i8 (1)) := mt_cell F3.out.1 (j := 0) rfl
  have HCR0 := Lib.hid (show CoR V3 V3.heap.size (mtOf 1 (v1, v2, Pd0, false, 0, Co0, 0)).c none none from co0_R _ _)
  have HOF := Lib.hid (show ∀ (ad : Addr), 0 < (mtOf 1 (v1, v2, Pd0, false, 0, Co0, 0)).c.qs.length → (none : Option Addr) = some ad → w1.heap.size < ad.block from fun _ _ hd => by cases hd)
  have FX := Lib.hid (show FrM W1 (w.heap.size + 1) w1.heap.size s j2 b2 (mtX (mtOf 1 (v1, v2, Pd0, false, 0, Co0, 0)) none none 0 0) V3 from F3.out)
  have E1 := Lib.hid (rREnd_any (w.heap.size + 1) s j2 b2 V3 FX.out.2.1.1)
  have KX2 := Lib.hid (FX.out.2.2.2.1.blk KX1.out (show ¬ w.heap.size = w.heap.size + 1 by omega))
  have B2 := Lib.hid (B1.out.trans (FX.out.2.2.2.1.below B1.out.size (fun x hx => by omega)))
  by_cases hE : b2 = true ∨ j2 ≠ s.size
  · have he : endOf s.size j2 b2 = 70 := if_pos hE
    rw [he] at E1
    have HR7 := Lib.hid (show readM 100 100 (lb s) = (MtNil, 70) by rw [HRR.out, if_pos (by rcases hE with h | h; exact .inl h; exact .inr (.inl h))])
    clear hE he
    go_wp2_with fail
    refine E1.out.mono ?_
    rintro e w9 ⟨rfl, nn, rfl⟩
    obtain ⟨W9, st9, k9, fb9, fh9, fs9⟩ := bk_store (P := Tryz.prog) (ty := 42) (cs := #[.int .i8 0, .int .i64 0, .int .i64 0, .int .i64 0, .int .i64 0, .int .i64 0, .bool false, .int .i64 0, .int .i8 0, .int .i64 0, .int .i64 0, .int .i64 0, .int .i64 0, .slice none 0 0, .slice none 0 0, .int .i64 0, .int .i64 0]) 17 (KX2.out.drewN nn) infoMt rfl rfl (by simp [Value.oneCell'])
    have BF := Lib.hid (fb9 _ w (Nat.le_refl _) (below_drewN B2.out nn))
    have KF := Lib.hid k9
    clear k9 fb9 fh9 fs9
    go_wp2_with fail
    refine bodyPost_ret (v := .tuple #[.agg #[.int .i8 0, .int .i64 0, .int .i64 0, .int .i64 0, .int .i64 0, .int .i64 0, .bool false, .int .i64 0, .int .i8 0, .int .i64 0, .int .i64 0, .int .i64 0, .int .i64 0, .slice none 0 0, .slice none 0 0, .int .i64 0, .int .i64 0], .int .i64 70]) (rmread_ret #[.int .i8 0, .int .i64 0, .int .i64 0, .int .i64 0, .int .i64 0, .int .i64 0, .bool false, .int .i64 0, .int .i8 0, .int .i64 0, .int .i64 0, .int .i64 0, .int .i64 0, .slice none 0 0, .slice none 0 0, .int .i64 0, .int .i64 0] _ _ w.heap.size _ rfl rfl KF.out rfl) rfl ?_
    rw [HR7.out]
    exact ⟨none, 0, rfl, co0_R _ _, BF.out, fun _ _ hd => by cases hd⟩
  · have he : endOf s.size j2 b2 = 0 := if_neg hE
    rw [he] at E1
    have HE := Lib.hid hE
    clear hE he
    go_wp2_with fail
    refine E1.out.mono ?_
    rintro e w9 ⟨rfl, nn, rfl⟩
    have bn : Below V3.heap.size V3 (V3.drewN nn) := below_drewN (Below.refl _ _) nn
    have K10 := Lib.hid (FX.out.1.drewN nn)
    have l10 := mt_load (P := Tryz.prog) K10.out
    have hcr : CoR (V3.drewN nn) (V3.drewN nn).heap.size (mtOf 1 (v1, v2, Pd0, false, 0, Co0, 0)).c none none := HCR0.out.up bn
    have HCR := Lib.hid hcr
    have MY := Lib.hid (rMayM_all (mtOf 1 (v1, v2, Pd0, false, 0, Co0, 0)) none none 0 0 (V3.drewN nn).heap.size (V3.drewN nn) hcr (Nat.le_refl _) HK8.out.1 HK8.out.2)
    have B10 := Lib.hid (below_drewN B2.out nn)
    have KX10 := Lib.hid (KX2.out.drewN nn)
    obtain ⟨W10, hW10⟩ : ∃ W10, W10 = V3.drewN nn := ⟨_, rfl⟩
    rw [← hW10] at K10 l10 HCR MY B10 KX10 ⊢
    clear hcr hW10 bn
    obtain ⟨XM, hXM⟩ : ∃ XM, (mtOf 1 (v1, v2, Pd0, false, 0, Co0, 0)) = XM := ⟨_, rfl⟩
    rw [hXM] at l10 HCR MY K10
    have HOF2 := Lib.hid (show ∀ (ad : Addr), 0 < XM.c.qs.length → none = some ad → w1.heap.size < ad.block by rw [← hXM]; exact HOF.out)
    have HRX := Lib.hid (show readM 100 100 (lb s) = if b2 = true ∨ j2 ≠ s.size ∨ mayM XM = false then (MtNil, 70) else (XM, 0) by rw [HRR.out, hXM])
    clear hXM
    cases hmy : mayM XM
    · rw [hmy] at MY
      have HR7 := Lib.hid (show readM 100 100 (lb s) = (MtNil, 70) by rw [HRX.out, if_pos (.inr (.inr hmy))])
      clear hmy
      go_wp2_with fail
      refine MY.out.mono ?_
      rintro e w11 ⟨rfl, b11⟩
      obtain ⟨W12, st12, k12, fb12, fh12, fs12⟩ := bk_store (P := Tryz.prog) (ty := 42) (cs := #[.int .i8 0, .int .i64 0, .int .i64 0, .int .i64 0, .int .i64 0, .int .i64 0, .bool false, .int .i64 0, .int .i8 0, .int .i64 0, .int .i64 0, .int .i64 0, .int .i64 0, .slice none 0 0, .slice none 0 0, .int .i64 0, .int .i64 0]) 17 (KX10.out.below b11 KX10.out.lt) infoMt rfl rfl (by simp [Value.oneCell'])
      have BF := Lib.hid (fb12 _ w (Nat.le_refl _) (B10.out.trans (b11.mono B10.out.size)))
      have KF := Lib.hid k12
      clear k12 fb12 fh12 fs12 l10 b11
      go_wp2_with fail
      refine bodyPost_ret (v := .tuple #[.agg #[.int .i8 0, .int .i64 0, .int .i64 0, .int .i64 0, .int .i64 0, .int .i64 0, .bool false, .int .i64 0, .int .i8 0, .int .i64 0, .int .i64 0, .int .i64 0, .int .i64 0, .slice none 0 0, .slice none 0 0, .int .i64 0, .int .i64 0], .int .i64 70]) (rmread_ret #[.int .i8 0, .int .i64 0, .int .i64 0, .int .i64 0, .int .i64 0, .int .i64 0, .bool false, .int .i64 0, .int .i8 0, .int .i64 0, .int .i64 0, .int .i64 0, .int .i64 0, .slice none 0 0, .slice none 0 0, .int .i64 0, .int .i64 0] _ _ w.heap.size _ rfl rfl KF.out rfl) rfl ?_
      rw [HR7.out]
      exact ⟨none, 0, rfl, co0_R _ _, BF.out, fun _ _ hd => by cases hd⟩
    · rw [hmy] at MY
      have HR7 := Lib.hid (show readM 100 100 (lb s) = (XM, 0) by
        rw [HRX.out, if_neg]
        rintro (h | h | h)
        · exact HE.out (.inl h)
        · exact HE.out (.inr h)
        · rw [hmy] at h; cases h)
      clear hmy
      go_wp2_with fail
      refine MY.out.mono ?_
      rintro e w11 ⟨rfl, b11⟩
      have l11 := mt_load (P := Tryz.prog) (K10.out.below b11 K10.out.lt)
      obtain ⟨W12, st12, k12, fb12, fh12, fs12⟩ := bk_store (P := Tryz.prog) (ty := 42) (cs := mtX XM none none 0 0) 17 (KX10.out.below b11 KX10.out.lt) infoMt rfl (mtX_size ..) (mtX_one ..)
      have BF := Lib.hid (fb12 _ w (Nat.le_refl _) (B10.out.trans (b11.mono B10.out.size)))
      have KF := Lib.hid k12
      have HC2 := Lib.hid (coR_hold (HCR.out.up b11) (fun ad h0 hd => by have := HOF2.out ad h0 hd; have := HY.out; have := HS.out; omega) fh12 fs12)
      clear k12 fb12 fh12 fs12 l10 b11
      go_wp2_with fail
      refine bodyPost_ret (v := .tuple #[.agg (mtX XM none none 0 0), .int .i64 0]) (rmread_ret (mtX XM none none 0 0) _ _ w.heap.size _ rfl rfl KF.out (mtX_size ..)) rfl ?_
      rw [HR7.out]
      exact ⟨none, 0, rfl, HC2.out, BF.out, fun ad h0 hd => by have := HOF2.out ad h0 hd; have := HY.out; have := HS.out; omega⟩
set_option maxRecDepth 100000 in
set_option maxHeartbeats 8000000 in
theorem rMtRead_2 (s : ByteArray) (w : World) (hl : s.size ≤ 100000) (j0 : Nat) (b0 : Bool) (hz0 : rdNum (lb s) 0 false 0 100 = (2, j0, b0)) :
    Calls Tryz.prog 29 #[.string s] w (RdN (readM 100 100 (lb s)).1 (readM 100 100 (lb s)).2 w) := by
  obtain ⟨v1, j1, b1, hz1⟩ : ∃ v j b, rdNum (lb s) j0 b0 0 2 = (v, j, b) := ⟨_, _, _, rfl⟩
  obtain ⟨v2, j2, b2, hz2⟩ : ∃ v j b, rdNum (lb s) j1 b1 0 1 = (v, j, b) := ⟨_, _, _, rfl⟩
  obtain ⟨v3, j3, b3, hz3⟩ : ∃ v j b, rdNum (lb s) j2 b2 0 2 = (v, j, b) := ⟨_, _, _, rfl⟩
  obtain ⟨v4, j4, b4, hz4⟩ : ∃ v j b, rdNum (lb s) j3 b3 0 1048576 = (v, j, b) := ⟨_, _, _, rfl⟩
  have hM : rM 100 2 (lb s) j0 b0 = ((v1, 0, (v2, v3, v4), false, 0, Co0, 0), j4, b4) := by
    rw [show rM 100 2 = rM2 from rfl]
    have hy1 : rdNum (lb s) j0 b0 ((0 : Nat) : Int) ((2 : Nat) : Int) = (v1, j1, b1) := hz1
    have hy2 : rdNum (lb s) j1 b1 ((0 : Nat) : Int) ((1 : Nat) : Int) = (v2, j2, b2) := hz2
    have hy3 : rdNum (lb s) j2 b2 ((0 : Nat) : Int) ((2 : Nat) : Int) = (v3, j3, b3) := hz3
    have hy4 : rdNum (lb s) j3 b3 ((0 : Nat) : Int) ((1048576 : Nat) : Int) = (v4, j4, b4) := hz4
    simp only [rM2, rdMap, rdBind, rI, rdPn, hy1, hy2, hy3, hy4]
  have hR : rdMt 100 100 (lb s) 0 false = (mtOf 2 (v1, 0, (v2, v3, v4), false, 0, Co0, 0), j4, b4) := by
    have hy0 : rdNum (lb s) 0 false ((0 : Nat) : Int) ((100 : Nat) : Int) = (2, j0, b0) := hz0
    simp only [rdMt, rdMap, rdBind, rI, hy0, hM]
  have hRR : readM 100 100 (lb s) = if b4 = true ∨ j4 ≠ s.size ∨ mayM (mtOf 2 (v1, 0, (v2, v3, v4), false, 0, Co0, 0)) = false then (MtNil, 70) else (mtOf 2 (v1, 0, (v2, v3, v4), false, 0, Co0, 0), 0) := by
    unfold readM
    rw [hR, length_lb]
  have hqs : (mtOf 2 (v1, 0, (v2, v3, v4), false, 0, Co0, 0)).c.qs.length ≤ 6 := by have := rM_qs 100 2 (lb s) j0 b0; rw [hM] at this; exact this
  have wc8 : IntKind.i8.wrap (2) = 2 := IntWalk.i8_in _ (by omega)
  have hk8 : -128 ≤ (mtOf 2 (v1, 0, (v2, v3, v4), false, 0, Co0, 0)).c.st ∧ (mtOf 2 (v1, 0, (v2, v3, v4), false, 0, Co0, 0)).c.st ≤ 127 := by exact (show (-128 : Int) ≤ 0 ∧ (0 : Int) ≤ 127 by omega)
  obtain ⟨Wa, hWa⟩ : ∃ Wa, Wa = w.alloc (.cells #[.int .i8 0, .int .i64 0, .int .i64 0, .int .i64 0, .int .i64 0, .int .i64 0, .bool false, .int .i64 0, .int .i8 0, .int .i64 0, .int .i64 0, .int .i64 0, .int .i64 0, .slice none 0 0, .slice none 0 0, .int .i64 0, .int .i64 0] 42) := ⟨_, rfl⟩
  have sa : Wa.heap.size = w.heap.size + 1 := by rw [hWa]; simp
  have KXa : Blk Wa w.heap.size 42 #[.int .i8 0, .int .i64 0, .int .i64 0, .int .i64 0, .int .i64 0, .int .i64 0, .bool false, .int .i64 0, .int .i8 0, .int .i64 0, .int .i64 0, .int .i64 0, .int .i64 0, .slice none 0 0, .slice none 0 0, .int .i64 0, .int .i64 0] := by rw [hWa]; exact Blk.new w 42 #[.int .i8 0, .int .i64 0, .int .i64 0, .int .i64 0, .int .i64 0, .int .i64 0, .bool false, .int .i64 0, .int .i8 0, .int .i64 0, .int .i64 0, .int .i64 0, .int .i64 0, .slice none 0 0, .slice none 0 0, .int .i64 0, .int .i64 0]
  have NW := Lib.hid (rRNew_any s Wa)
  obtain ⟨W1, hW1⟩ : ∃ W1, W1 = Wa.alloc (.cells #[.string s, .int .i64 0, .bool false] 130) := ⟨_, rfl⟩
  have s1 : W1.heap.size = w.heap.size + 1 + 1 := by rw [hW1]; simp [sa]
  have R1 := Lib.hid (show RrOk W1.heap.size W1 (w.heap.size + 1) s 0 false from ⟨by rw [hW1]; exact bk_new _ 130 _ sa, Nat.zero_le _, hl, by omega, Nat.le_refl _⟩)
  have KX1 := Lib.hid (show Blk W1 w.heap.size 42 #[.int .i8 0, .int .i64 0, .int .i64 0, .int .i64 0, .int .i64 0, .int .i64 0, .bool false, .int .i64 0, .int .i8 0, .int .i64 0, .int .i64 0, .int .i64 0, .int .i64 0, .slice none 0 0, .slice none 0 0, .int .i64 0, .int .i64 0] by rw [hW1]; exact KXa.alloc _)
  have B1 := Lib.hid (show Below w.heap.size w W1 by rw [hW1, hWa]; exact bal (bal (Below.refl _ _) _) _)
  have HS := Lib.hid (show W1.heap.size = w.heap.size + 1 + 1 from s1)
  have HSA := Lib.hid sa
  have HWA := Lib.hid hWa
  have HW1 := Lib.hid hW1
  have HRR := Lib.hid hRR
  have HQS := Lib.hid hqs
  have HK8 := Lib.hid hk8
  have HZ0 := Lib.hid hz0
  have HZ1 := Lib.hid hz1
  have HZ2 := Lib.hid hz2
  have HZ3 := Lib.hid hz3
  have HZ4 := Lib.hid hz4
  clear hWa sa KXa hW1 s1 hRR hqs hk8 hz0 hM hR hl hz1 hz2 hz3 hz4
  go_enter Tryz.func29, Tryz.ntmps29
  go_upto_region 1 with (fail)
  rw [← HWA.out]
  have N0 := Lib.hid (rRNum_z HZ0.out R1.out)
  go_wp2_with (go_at_call 54; refine NW.out.mono ?_; rw [← HW1.out]; rintro e w0 ⟨rfl, rfl⟩; rw [HSA.out])
  refine N0.out.mono ?_
  rintro e w1 ⟨rfl, r, o⟩
  obtain ⟨V1, st1, k1, bl1, sl1⟩ := bk_fresh (P := Tryz.prog) w1 42 #[.int .i8 0, .int .i64 0, .int .i64 0, .int .i64 0, .int .i64 0, .int .i64 0, .bool false, .int .i64 0, .int .i8 0, .int .i64 0, .int .i64 0, .int .i64 0, .int .i64 0, .slice none 0 0, .slice none 0 0, .int .i64 0, .int .i64 0] #[.int .i8 (2), .int .i64 0, .int .i64 0, .int .i64 0, .int .i64 0, .int .i64 0, .bool false, .int .i64 0, .int .i8 0, .int .i64 0, .int .i64 0, .int .i64 0, .int .i64 0, .slice none 0 0, .slice none 0 0, .int .i64 0, .int .i64 0] 17 infoMt rfl rfl (by simp [Value.oneCell'])
  have hle := o.size
  have F1 := Lib.hid (show FrM W1 (w.heap.size + 1) w1.heap.size s j0 b0 (mtX (Mt0 2) none none 0 0) V1 from ⟨k1, r.below (bl1.mono o.size), o.size, ((Goes.refl (show w.heap.size + 1 < W1.heap.size by have := HS.out; omega)).only o).below (bl1.mono o.size)⟩)
  have HY := Lib.hid (show W1.heap.size ≤ w1.heap.size from o.size)
  have x0 : V1.cell? ⟨w1.heap.size, 0, none⟩ = some (.int .i8 (2)) := k1.cell 0
  clear r o k1 bl1 sl1 hle
  have NM := Lib.hid (rRNum_z HZ1.out F1.out.2.1)
  go_wp2_with fail
  refine NM.out.mono ?_
  rintro e w2 ⟨rfl, r, o⟩
  have f := F1.out.next r o
  have st2 := store_intS v1 (f.1.cell 1) (f.1.frozen 1)
  have F2 := Lib.hid (show FrM W1 (w.heap.size + 1) w1.heap.size s j1 b1 (mtX ({ Mt0 2 with tid := v1 } : Mt) none none 0 0) (w2.setCell ⟨w1.heap.size, 1, none⟩ (.int .i64 v1)) from f.set 1 (.int .i64 v1))
  obtain ⟨V2, hV2⟩ : ∃ V, V = w2.setCell ⟨w1.heap.size, 1, none⟩ (.int .i64 v1) := ⟨_, rfl⟩
  rw [← hV2] at st2 F2
  clear r o f NM x0 st1 hV2
  have x0 : V2.cell? ⟨w1.heap.size, 0, none⟩ = some (.int .i8 (2)) := mt_cell F2.out.1 (j := 0) rfl
  have NM := Lib.hid (rtpend W1.heap.size (w.heap.size + 1) s j1 j2 j3 j4 b1 b2 b3 b4 v2 v3 v4 V2 F2.out.2.1 HZ2.out HZ3.out HZ4.out)
  go_wp2_with fail
  refine NM.out.mono ?_
  rintro e w3 ⟨rfl, r, o⟩
  obtain ⟨V3, stx, f, _, _⟩ := (F2.out.next r o).many 40 3 [.int .i64 v2, .int .i64 v3, .int .i64 v4] infoPdM (by rw [mtX_size]; simp) (by simp [Value.oneCell']) (mt_pendS ({ Mt0 2 with tid := v1 } : Mt) none none 0 0 (v2, v3, v4))
  have st3 : (storeVar 40 ⟨w1.heap.size, 3, none⟩ (.agg #[.int .i64 v2, .int .i64 v3, .int .i64 v4])).run Tryz.prog w3 = .ok () V3 := stx
  have F3 := Lib.hid (show FrM W1 (w.heap.size + 1) w1.heap.size s j4 b4 (mtX ({ Mt0 2 with tid := v1, p := (v2, v3, v4) } : Mt) none none 0 0) V3 from f)
  clear r o f NM stx x0 st2
  have x0 : V3.cell? ⟨w1.heap.size, 0, none⟩ = some (.int .i8 (2)) := mt_cell F3.out.1 (j := 0) rfl
  have HCR0 := Lib.hid (show CoR V3 V3.heap.size (mtOf 2 (v1, 0, (v2, v3, v4), false, 0, Co0, 0)).c none none from co0_R _ _)
  have HOF := Lib.hid (show ∀ (ad : Addr), 0 < (mtOf 2 (v1, 0, (v2, v3, v4), false, 0, Co0, 0)).c.qs.length → (none : Option Addr) = some ad → w1.heap.size < ad.block from fun _ _ hd => by cases hd)
  have FX := Lib.hid (show FrM W1 (w.heap.size + 1) w1.heap.size s j4 b4 (mtX (mtOf 2 (v1, 0, (v2, v3, v4), false, 0, Co0, 0)) none none 0 0) V3 from F3.out)
  have E1 := Lib.hid (rREnd_any (w.heap.size + 1) s j4 b4 V3 FX.out.2.1.1)
  have KX2 := Lib.hid (FX.out.2.2.2.1.blk KX1.out (show ¬ w.heap.size = w.heap.size + 1 by omega))
  have B2 := Lib.hid (B1.out.trans (FX.out.2.2.2.1.below B1.out.size (fun x hx => by omega)))
  by_cases hE : b4 = true ∨ j4 ≠ s.size
  · have he : endOf s.size j4 b4 = 70 := if_pos hE
    rw [he] at E1
    have HR7 := Lib.hid (show readM 100 100 (lb s) = (MtNil, 70) by rw [HRR.out, if_pos (by rcases hE with h | h; exact .inl h; exact .inr (.inl h))])
    clear hE he
    go_wp2_with fail
    refine E1.out.mono ?_
    rintro e w9 ⟨rfl, nn, rfl⟩
    obtain ⟨W9, st9, k9, fb9, fh9, fs9⟩ := bk_store (P := Tryz.prog) (ty := 42) (cs := #[.int .i8 0, .int .i64 0, .int .i64 0, .int .i64 0, .int .i64 0, .int .i64 0, .bool false, .int .i64 0, .int .i8 0, .int .i64 0, .int .i64 0, .int .i64 0, .int .i64 0, .slice none 0 0, .slice none 0 0, .int .i64 0, .int .i64 0]) 17 (KX2.out.drewN nn) infoMt rfl rfl (by simp [Value.oneCell'])
    have BF := Lib.hid (fb9 _ w (Nat.le_refl _) (below_drewN B2.out nn))
    have KF := Lib.hid k9
    clear k9 fb9 fh9 fs9
    go_wp2_with fail
    refine bodyPost_ret (v := .tuple #[.agg #[.int .i8 0, .int .i64 0, .int .i64 0, .int .i64 0, .int .i64 0, .int .i64 0, .bool false, .int .i64 0, .int .i8 0, .int .i64 0, .int .i64 0, .int .i64 0, .int .i64 0, .slice none 0 0, .slice none 0 0, .int .i64 0, .int .i64 0], .int .i64 70]) (rmread_ret #[.int .i8 0, .int .i64 0, .int .i64 0, .int .i64 0, .int .i64 0, .int .i64 0, .bool false, .int .i64 0, .int .i8 0, .int .i64 0, .int .i64 0, .int .i64 0, .int .i64 0, .slice none 0 0, .slice none 0 0, .int .i64 0, .int .i64 0] _ _ w.heap.size _ rfl rfl KF.out rfl) rfl ?_
    rw [HR7.out]
    exact ⟨none, 0, rfl, co0_R _ _, BF.out, fun _ _ hd => by cases hd⟩
  · have he : endOf s.size j4 b4 = 0 := if_neg hE
    rw [he] at E1
    have HE := Lib.hid hE
    clear hE he
    go_wp2_with fail
    refine E1.out.mono ?_
    rintro e w9 ⟨rfl, nn, rfl⟩
    have bn : Below V3.heap.size V3 (V3.drewN nn) := below_drewN (Below.refl _ _) nn
    have K10 := Lib.hid (FX.out.1.drewN nn)
    have l10 := mt_load (P := Tryz.prog) K10.out
    have hcr : CoR (V3.drewN nn) (V3.drewN nn).heap.size (mtOf 2 (v1, 0, (v2, v3, v4), false, 0, Co0, 0)).c none none := HCR0.out.up bn
    have HCR := Lib.hid hcr
    have MY := Lib.hid (rMayM_all (mtOf 2 (v1, 0, (v2, v3, v4), false, 0, Co0, 0)) none none 0 0 (V3.drewN nn).heap.size (V3.drewN nn) hcr (Nat.le_refl _) HK8.out.1 HK8.out.2)
    have B10 := Lib.hid (below_drewN B2.out nn)
    have KX10 := Lib.hid (KX2.out.drewN nn)
    obtain ⟨W10, hW10⟩ : ∃ W10, W10 = V3.drewN nn := ⟨_, rfl⟩
    rw [← hW10] at K10 l10 HCR MY B10 KX10 ⊢
    clear hcr hW10 bn
    obtain ⟨XM, hXM⟩ : ∃ XM, (mtOf 2 (v1, 0, (v2, v3, v4), false, 0, Co0, 0)) = XM := ⟨_, rfl⟩
    rw [hXM] at l10 HCR MY K10
    have HOF2 := Lib.hid (show ∀ (ad : Addr), 0 < XM.c.qs.length → none = some ad → w1.heap.size < ad.block by rw [← hXM]; exact HOF.out)
    have HRX := Lib.hid (show readM 100 100 (lb s) = if b4 = true ∨ j4 ≠ s.size ∨ mayM XM = false then (MtNil, 70) else (XM, 0) by rw [HRR.out, hXM])
    clear hXM
    cases hmy : mayM XM
    · rw [hmy] at MY
      have HR7 := Lib.hid (show readM 100 100 (lb s) = (MtNil, 70) by rw [HRX.out, if_pos (.inr (.inr hmy))])
      clear hmy
      go_wp2_with fail
      refine MY.out.mono ?_
      rintro e w11 ⟨rfl, b11⟩
      obtain ⟨W12, st12, k12, fb12, fh12, fs12⟩ := bk_store (P := Tryz.prog) (ty := 42) (cs := #[.int .i8 0, .int .i64 0, .int .i64 0, .int .i64 0, .int .i64 0, .int .i64 0, .bool false, .int .i64 0, .int .i8 0, .int .i64 0, .int .i64 0, .int .i64 0, .int .i64 0, .slice none 0 0, .slice none 0 0, .int .i64 0, .int .i64 0]) 17 (KX10.out.below b11 KX10.out.lt) infoMt rfl rfl (by simp [Value.oneCell'])
      have BF := Lib.hid (fb12 _ w (Nat.le_refl _) (B10.out.trans (b11.mono B10.out.size)))
      have KF := Lib.hid k12
      clear k12 fb12 fh12 fs12 l10 b11
      go_wp2_with fail
      refine bodyPost_ret (v := .tuple #[.agg #[.int .i8 0, .int .i64 0, .int .i64 0, .int .i64 0, .int .i64 0, .int .i64 0, .bool false, .int .i64 0, .int .i8 0, .int .i64 0, .int .i64 0, .int .i64 0, .int .i64 0, .slice none 0 0, .slice none 0 0, .int .i64 0, .int .i64 0], .int .i64 70]) (rmread_ret #[.int .i8 0, .int .i64 0, .int .i64 0, .int .i64 0, .int .i64 0, .int .i64 0, .bool false, .int .i64 0, .int .i8 0, .int .i64 0, .int .i64 0, .int .i64 0, .int .i64 0, .slice none 0 0, .slice none 0 0, .int .i64 0, .int .i64 0] _ _ w.heap.size _ rfl rfl KF.out rfl) rfl ?_
      rw [HR7.out]
      exact ⟨none, 0, rfl, co0_R _ _, BF.out, fun _ _ hd => by cases hd⟩
    · rw [hmy] at MY
      have HR7 := Lib.hid (show readM 100 100 (lb s) = (XM, 0) by
        rw [HRX.out, if_neg]
        rintro (h | h | h)
        · exact HE.out (.inl h)
        · exact HE.out (.inr h)
        · rw [hmy] at h; cases h)
      clear hmy
      go_wp2_with fail
      refine MY.out.mono ?_
      rintro e w11 ⟨rfl, b11⟩
      have l11 := mt_load (P := Tryz.prog) (K10.out.below b11 K10.out.lt)
      obtain ⟨W12, st12, k12, fb12, fh12, fs12⟩ := bk_store (P := Tryz.prog) (ty := 42) (cs := mtX XM none none 0 0) 17 (KX10.out.below b11 KX10.out.lt) infoMt rfl (mtX_size ..) (mtX_one ..)
      have BF := Lib.hid (fb12 _ w (Nat.le_refl _) (B10.out.trans (b11.mono B10.out.size)))
      have KF := Lib.hid k12
      have HC2 := Lib.hid (coR_hold (HCR.out.up b11) (fun ad h0 hd => by have := HOF2.out ad h0 hd; have := HY.out; have := HS.out; omega) fh12 fs12)
      clear k12 fb12 fh12 fs12 l10 b11
      go_wp2_with fail
      refine bodyPost_ret (v := .tuple #[.agg (mtX XM none none 0 0), .int .i64 0]) (rmread_ret (mtX XM none none 0 0) _ _ w.heap.size _ rfl rfl KF.out (mtX_size ..)) rfl ?_
      rw [HR7.out]
      exact ⟨none, 0, rfl, HC2.out, BF.out, fun ad h0 hd => by have := HOF2.out ad h0 hd; have := HY.out; have := HS.out; omega⟩
set_option maxRecDepth 100000 in
set_option maxHeartbeats 8000000 in
theorem rMtRead_3 (s : ByteArray) (w : World) (hl : s.size ≤ 100000) (j0 : Nat) (b0 : Bool) (hz0 : rdNum (lb s) 0 false 0 100 = (3, j0, b0)) :
    Calls Tryz.prog 29 #[.string s] w (RdN (readM 100 100 (lb s)).1 (readM 100 100 (lb s)).2 w) := by
  obtain ⟨v1, j1, b1, hz1⟩ : ∃ v j b, rdNum (lb s) j0 b0 0 2 = (v, j, b) := ⟨_, _, _, rfl⟩
  obtain ⟨v2, j2, b2, hz2⟩ : ∃ v j b, rdFlag (lb s) j1 b1 = (v, j, b) := ⟨_, _, _, rfl⟩
  obtain ⟨v3, j3, b3, hz3⟩ : ∃ v j b, rdNum (lb s) j2 b2 0 20 = (v, j, b) := ⟨_, _, _, rfl⟩
  have hM : rM 100 3 (lb s) j0 b0 = ((v1, 0, Pd0, v2, v3, Co0, 0), j3, b3) := by
    rw [show rM 100 3 = rM3 from rfl]
    have hy1 : rdNum (lb s) j0 b0 ((0 : Nat) : Int) ((2 : Nat) : Int) = (v1, j1, b1) := hz1
    have hy3 : rdNum (lb s) j2 b2 ((0 : Nat) : Int) ((20 : Nat) : Int) = (v3, j3, b3) := hz3
    simp only [rM3, rdMap, rdBind, rI, hy1, hz2, hy3]
  have hR : rdMt 100 100 (lb s) 0 false = (mtOf 3 (v1, 0, Pd0, v2, v3, Co0, 0), j3, b3) := by
    have hy0 : rdNum (lb s) 0 false ((0 : Nat) : Int) ((100 : Nat) : Int) = (3, j0, b0) := hz0
    simp only [rdMt, rdMap, rdBind, rI, hy0, hM]
  have hRR : readM 100 100 (lb s) = if b3 = true ∨ j3 ≠ s.size ∨ mayM (mtOf 3 (v1, 0, Pd0, v2, v3, Co0, 0)) = false then (MtNil, 70) else (mtOf 3 (v1, 0, Pd0, v2, v3, Co0, 0), 0) := by
    unfold readM
    rw [hR, length_lb]
  have hqs : (mtOf 3 (v1, 0, Pd0, v2, v3, Co0, 0)).c.qs.length ≤ 6 := by have := rM_qs 100 3 (lb s) j0 b0; rw [hM] at this; exact this
  have wc8 : IntKind.i8.wrap (3) = 3 := IntWalk.i8_in _ (by omega)
  have hk8 : -128 ≤ (mtOf 3 (v1, 0, Pd0, v2, v3, Co0, 0)).c.st ∧ (mtOf 3 (v1, 0, Pd0, v2, v3, Co0, 0)).c.st ≤ 127 := by exact (show (-128 : Int) ≤ 0 ∧ (0 : Int) ≤ 127 by omega)
  obtain ⟨Wa, hWa⟩ : ∃ Wa, Wa = w.alloc (.cells #[.int .i8 0, .int .i64 0, .int .i64 0, .int .i64 0, .int .i64 0, .int .i64 0, .bool false, .int .i64 0, .int .i8 0, .int .i64 0, .int .i64 0, .int .i64 0, .int .i64 0, .slice none 0 0, .slice none 0 0, .int .i64 0, .int .i64 0] 42) := ⟨_, rfl⟩
  have sa : Wa.heap.size = w.heap.size + 1 := by rw [hWa]; simp
  have KXa : Blk Wa w.heap.size 42 #[.int .i8 0, .int .i64 0, .int .i64 0, .int .i64 0, .int .i64 0, .int .i64 0, .bool false, .int .i64 0, .int .i8 0, .int .i64 0, .int .i64 0, .int .i64 0, .int .i64 0, .slice none 0 0, .slice none 0 0, .int .i64 0, .int .i64 0] := by rw [hWa]; exact Blk.new w 42 #[.int .i8 0, .int .i64 0, .int .i64 0, .int .i64 0, .int .i64 0, .int .i64 0, .bool false, .int .i64 0, .int .i8 0, .int .i64 0, .int .i64 0, .int .i64 0, .int .i64 0, .slice none 0 0, .slice none 0 0, .int .i64 0, .int .i64 0]
  have NW := Lib.hid (rRNew_any s Wa)
  obtain ⟨W1, hW1⟩ : ∃ W1, W1 = Wa.alloc (.cells #[.string s, .int .i64 0, .bool false] 130) := ⟨_, rfl⟩
  have s1 : W1.heap.size = w.heap.size + 1 + 1 := by rw [hW1]; simp [sa]
  have R1 := Lib.hid (show RrOk W1.heap.size W1 (w.heap.size + 1) s 0 false from ⟨by rw [hW1]; exact bk_new _ 130 _ sa, Nat.zero_le _, hl, by omega, Nat.le_refl _⟩)
  have KX1 := Lib.hid (show Blk W1 w.heap.size 42 #[.int .i8 0, .int .i64 0, .int .i64 0, .int .i64 0, .int .i64 0, .int .i64 0, .bool false, .int .i64 0, .int .i8 0, .int .i64 0, .int .i64 0, .int .i64 0, .int .i64 0, .slice none 0 0, .slice none 0 0, .int .i64 0, .int .i64 0] by rw [hW1]; exact KXa.alloc _)
  have B1 := Lib.hid (show Below w.heap.size w W1 by rw [hW1, hWa]; exact bal (bal (Below.refl _ _) _) _)
  have HS := Lib.hid (show W1.heap.size = w.heap.size + 1 + 1 from s1)
  have HSA := Lib.hid sa
  have HWA := Lib.hid hWa
  have HW1 := Lib.hid hW1
  have HRR := Lib.hid hRR
  have HQS := Lib.hid hqs
  have HK8 := Lib.hid hk8
  have HZ0 := Lib.hid hz0
  have HZ1 := Lib.hid hz1
  have HZ2 := Lib.hid hz2
  have HZ3 := Lib.hid hz3
  clear hWa sa KXa hW1 s1 hRR hqs hk8 hz0 hM hR hl hz1 hz2 hz3
  go_enter Tryz.func29, Tryz.ntmps29
  go_upto_region 1 with (fail)
  rw [← HWA.out]
  have N0 := Lib.hid (rRNum_z HZ0.out R1.out)
  go_wp2_with (go_at_call 54; refine NW.out.mono ?_; rw [← HW1.out]; rintro e w0 ⟨rfl, rfl⟩; rw [HSA.out])
  refine N0.out.mono ?_
  rintro e w1 ⟨rfl, r, o⟩
  obtain ⟨V1, st1, k1, bl1, sl1⟩ := bk_fresh (P := Tryz.prog) w1 42 #[.int .i8 0, .int .i64 0, .int .i64 0, .int .i64 0, .int .i64 0, .int .i64 0, .bool false, .int .i64 0, .int .i8 0, .int .i64 0, .int .i64 0, .int .i64 0, .int .i64 0, .slice none 0 0, .slice none 0 0, .int .i64 0, .int .i64 0] #[.int .i8 (3), .int .i64 0, .int .i64 0, .int .i64 0, .int .i64 0, .int .i64 0, .bool false, .int .i64 0, .int .i8 0, .int .i64 0, .int .i64 0, .int .i64 0, .int .i64 0, .slice none 0 0, .slice none 0 0, .int .i64 0, .int .i64 0] 17 infoMt rfl rfl (by simp [Value.oneCell'])
  have hle := o.size
  have F1 := Lib.hid (show FrM W1 (w.heap.size + 1) w1.heap.size s j0 b0 (mtX (Mt0 3) none none 0 0) V1 from ⟨k1, r.below (bl1.mono o.size), o.size, ((Goes.refl (show w.heap.size + 1 < W1.heap.size by have := HS.out; omega)).only o).below (bl1.mono o.size)⟩)
  have HY := Lib.hid (show W1.heap.size ≤ w1.heap.size from o.size)
  have x0 : V1.cell? ⟨w1.heap.size, 0, none⟩ = some (.int .i8 (3)) := k1.cell 0
  clear r o k1 bl1 sl1 hle
  have NM := Lib.hid (rRNum_z HZ1.out F1.out.2.1)
  go_wp2_with fail
  refine NM.out.mono ?_
  rintro e w2 ⟨rfl, r, o⟩
  have f := F1.out.next r o
  have st2 := store_intS v1 (f.1.cell 1) (f.1.frozen 1)
  have F2 := Lib.hid (show FrM W1 (w.heap.size + 1) w1.heap.size s j1 b1 (mtX ({ Mt0 3 with tid := v1 } : Mt) none none 0 0) (w2.setCell ⟨w1.heap.size, 1, none⟩ (.int .i64 v1)) from f.set 1 (.int .i64 v1))
  obtain ⟨V2, hV2⟩ : ∃ V, V = w2.setCell ⟨w1.heap.size, 1, none⟩ (.int .i64 v1) := ⟨_, rfl⟩
  rw [← hV2] at st2 F2
  clear r o f NM x0 st1 hV2
  have x0 : V2.cell? ⟨w1.heap.size, 0, none⟩ = some (.int .i8 (3)) := mt_cell F2.out.1 (j := 0) rfl
  have NM := Lib.hid (rRFlag_z HZ2.out F2.out.2.1)
  go_wp2_with fail
  refine NM.out.mono ?_
  rintro e w3 ⟨rfl, r, o⟩
  have f := F2.out.next r o
  have st3 := store_boolM v2 (f.1.cell 6) (f.1.frozen 6)
  have F3 := Lib.hid (show FrM W1 (w.heap.size + 1) w1.heap.size s j2 b2 (mtX ({ Mt0 3 with tid := v1, yes := v2 } : Mt) none none 0 0) (w3.setCell ⟨w1.heap.size, 6, none⟩ (.bool v2)) from f.set 6 (.bool v2))
  obtain ⟨V3, hV3⟩ : ∃ V, V = w3.setCell ⟨w1.heap.size, 6, none⟩ (.bool v2) := ⟨_, rfl⟩
  rw [← hV3] at st3 F3
  clear r o f NM x0 st2 hV3
  have x0 : V3.cell? ⟨w1.heap.size, 0, none⟩ = some (.int .i8 (3)) := mt_cell F3.out.1 (j := 0) rfl
  have NM := Lib.hid (rRNum_z HZ3.out F3.out.2.1)
  go_wp2_with fail
  refine NM.out.mono ?_
  rintro e w4 ⟨rfl, r, o⟩
  have f := F3.out.next r o
  have st4 := store_intS v3 (f.1.cell 7) (f.1.frozen 7)
  have F4 := Lib.hid (show FrM W1 (w.heap.size + 1) w1.heap.size s j3 b3 (mtX ({ Mt0 3 with tid := v1, yes := v2, th := v3 } : Mt) none none 0 0) (w4.setCell ⟨w1.heap.size, 7, none⟩ (.int .i64 v3)) from f.set 7 (.int .i64 v3))
  obtain ⟨V4, hV4⟩ : ∃ V, V = w4.setCell ⟨w1.heap.size, 7, none⟩ (.int .i64 v3) := ⟨_, rfl⟩
  rw [← hV4] at st4 F4
  clear r o f NM x0 st3 hV4
  have x0 : V4.cell? ⟨w1.heap.size, 0, none⟩ = some (.int .i8 (3)) := mt_cell F4.out.1 (j := 0) rfl
  have HCR0 := Lib.hid (show CoR V4 V4.heap.size (mtOf 3 (v1, 0, Pd0, v2, v3, Co0, 0)).c none none from co0_R _ _)
  have HOF := Lib.hid (show ∀ (ad : Addr), 0 < (mtOf 3 (v1, 0, Pd0, v2, v3, Co0, 0)).c.qs.length → (none : Option Addr) = some ad → w1.heap.size < ad.block from fun _ _ hd => by cases hd)
  have FX := Lib.hid (show FrM W1 (w.heap.size + 1) w1.heap.size s j3 b3 (mtX (mtOf 3 (v1, 0, Pd0, v2, v3, Co0, 0)) none none 0 0) V4 from F4.out)
  have E1 := Lib.hid (rREnd_any (w.heap.size + 1) s j3 b3 V4 FX.out.2.1.1)
  have KX2 := Lib.hid (FX.out.2.2.2.1.blk KX1.out (show ¬ w.heap.size = w.heap.size + 1 by omega))
  have B2 := Lib.hid (B1.out.trans (FX.out.2.2.2.1.below B1.out.size (fun x hx => by omega)))
  by_cases hE : b3 = true ∨ j3 ≠ s.size
  · have he : endOf s.size j3 b3 = 70 := if_pos hE
    rw [he] at E1
    have HR7 := Lib.hid (show readM 100 100 (lb s) = (MtNil, 70) by rw [HRR.out, if_pos (by rcases hE with h | h; exact .inl h; exact .inr (.inl h))])
    clear hE he
    go_wp2_with fail
    refine E1.out.mono ?_
    rintro e w9 ⟨rfl, nn, rfl⟩
    obtain ⟨W9, st9, k9, fb9, fh9, fs9⟩ := bk_store (P := Tryz.prog) (ty := 42) (cs := #[.int .i8 0, .int .i64 0, .int .i64 0, .int .i64 0, .int .i64 0, .int .i64 0, .bool false, .int .i64 0, .int .i8 0, .int .i64 0, .int .i64 0, .int .i64 0, .int .i64 0, .slice none 0 0, .slice none 0 0, .int .i64 0, .int .i64 0]) 17 (KX2.out.drewN nn) infoMt rfl rfl (by simp [Value.oneCell'])
    have BF := Lib.hid (fb9 _ w (Nat.le_refl _) (below_drewN B2.out nn))
    have KF := Lib.hid k9
    clear k9 fb9 fh9 fs9
    go_wp2_with fail
    refine bodyPost_ret (v := .tuple #[.agg #[.int .i8 0, .int .i64 0, .int .i64 0, .int .i64 0, .int .i64 0, .int .i64 0, .bool false, .int .i64 0, .int .i8 0, .int .i64 0, .int .i64 0, .int .i64 0, .int .i64 0, .slice none 0 0, .slice none 0 0, .int .i64 0, .int .i64 0], .int .i64 70]) (rmread_ret #[.int .i8 0, .int .i64 0, .int .i64 0, .int .i64 0, .int .i64 0, .int .i64 0, .bool false, .int .i64 0, .int .i8 0, .int .i64 0, .int .i64 0, .int .i64 0, .int .i64 0, .slice none 0 0, .slice none 0 0, .int .i64 0, .int .i64 0] _ _ w.heap.size _ rfl rfl KF.out rfl) rfl ?_
    rw [HR7.out]
    exact ⟨none, 0, rfl, co0_R _ _, BF.out, fun _ _ hd => by cases hd⟩
  · have he : endOf s.size j3 b3 = 0 := if_neg hE
    rw [he] at E1
    have HE := Lib.hid hE
    clear hE he
    go_wp2_with fail
    refine E1.out.mono ?_
    rintro e w9 ⟨rfl, nn, rfl⟩
    have bn : Below V4.heap.size V4 (V4.drewN nn) := below_drewN (Below.refl _ _) nn
    have K10 := Lib.hid (FX.out.1.drewN nn)
    have l10 := mt_load (P := Tryz.prog) K10.out
    have hcr : CoR (V4.drewN nn) (V4.drewN nn).heap.size (mtOf 3 (v1, 0, Pd0, v2, v3, Co0, 0)).c none none := HCR0.out.up bn
    have HCR := Lib.hid hcr
    have MY := Lib.hid (rMayM_all (mtOf 3 (v1, 0, Pd0, v2, v3, Co0, 0)) none none 0 0 (V4.drewN nn).heap.size (V4.drewN nn) hcr (Nat.le_refl _) HK8.out.1 HK8.out.2)
    have B10 := Lib.hid (below_drewN B2.out nn)
    have KX10 := Lib.hid (KX2.out.drewN nn)
    obtain ⟨W10, hW10⟩ : ∃ W10, W10 = V4.drewN nn := ⟨_, rfl⟩
    rw [← hW10] at K10 l10 HCR MY B10 KX10 ⊢
    clear hcr hW10 bn
    obtain ⟨XM, hXM⟩ : ∃ XM, (mtOf 3 (v1, 0, Pd0, v2, v3, Co0, 0)) = XM := ⟨_, rfl⟩
    rw [hXM] at l10 HCR MY K10
    have HOF2 := Lib.hid (show ∀ (ad : Addr), 0 < XM.c.qs.length → none = some ad → w1.heap.size < ad.block by rw [← hXM]; exact HOF.out)
    have HRX := Lib.hid (show readM 100 100 (lb s) = if b3 = true ∨ j3 ≠ s.size ∨ mayM XM = false then (MtNil, 70) else (XM, 0) by rw [HRR.out, hXM])
    clear hXM
    cases hmy : mayM XM
    · rw [hmy] at MY
      have HR7 := Lib.hid (show readM 100 100 (lb s) = (MtNil, 70) by rw [HRX.out, if_pos (.inr (.inr hmy))])
      clear hmy
      go_wp2_with fail
      refine MY.out.mono ?_
      rintro e w11 ⟨rfl, b11⟩
      obtain ⟨W12, st12, k12, fb12, fh12, fs12⟩ := bk_store (P := Tryz.prog) (ty := 42) (cs := #[.int .i8 0, .int .i64 0, .int .i64 0, .int .i64 0, .int .i64 0, .int .i64 0, .bool false, .int .i64 0, .int .i8 0, .int .i64 0, .int .i64 0, .int .i64 0, .int .i64 0, .slice none 0 0, .slice none 0 0, .int .i64 0, .int .i64 0]) 17 (KX10.out.below b11 KX10.out.lt) infoMt rfl rfl (by simp [Value.oneCell'])
      have BF := Lib.hid (fb12 _ w (Nat.le_refl _) (B10.out.trans (b11.mono B10.out.size)))
      have KF := Lib.hid k12
      clear k12 fb12 fh12 fs12 l10 b11
      go_wp2_with fail
      refine bodyPost_ret (v := .tuple #[.agg #[.int .i8 0, .int .i64 0, .int .i64 0, .int .i64 0, .int .i64 0, .int .i64 0, .bool false, .int .i64 0, .int .i8 0, .int .i64 0, .int .i64 0, .int .i64 0, .int .i64 0, .slice none 0 0, .slice none 0 0, .int .i64 0, .int .i64 0], .int .i64 70]) (rmread_ret #[.int .i8 0, .int .i64 0, .int .i64 0, .int .i64 0, .int .i64 0, .int .i64 0, .bool false, .int .i64 0, .int .i8 0, .int .i64 0, .int .i64 0, .int .i64 0, .int .i64 0, .slice none 0 0, .slice none 0 0, .int .i64 0, .int .i64 0] _ _ w.heap.size _ rfl rfl KF.out rfl) rfl ?_
      rw [HR7.out]
      exact ⟨none, 0, rfl, co0_R _ _, BF.out, fun _ _ hd => by cases hd⟩
    · rw [hmy] at MY
      have HR7 := Lib.hid (show readM 100 100 (lb s) = (XM, 0) by
        rw [HRX.out, if_neg]
        rintro (h | h | h)
        · exact HE.out (.inl h)
        · exact HE.out (.inr h)
        · rw [hmy] at h; cases h)
      clear hmy
      go_wp2_with fail
      refine MY.out.mono ?_
      rintro e w11 ⟨rfl, b11⟩
      have l11 := mt_load (P := Tryz.prog) (K10.out.below b11 K10.out.lt)
      obtain ⟨W12, st12, k12, fb12, fh12, fs12⟩ := bk_store (P := Tryz.prog) (ty := 42) (cs := mtX XM none none 0 0) 17 (KX10.out.below b11 KX10.out.lt) infoMt rfl (mtX_size ..) (mtX_one ..)
      have BF := Lib.hid (fb12 _ w (Nat.le_refl _) (B10.out.trans (b11.mono B10.out.size)))
      have KF := Lib.hid k12
      have HC2 := Lib.hid (coR_hold (HCR.out.up b11) (fun ad h0 hd => by have := HOF2.out ad h0 hd; have := HY.out; have := HS.out; omega) fh12 fs12)
      clear k12 fb12 fh12 fs12 l10 b11
      go_wp2_with fail
      refine bodyPost_ret (v := .tuple #[.agg (mtX XM none none 0 0), .int .i64 0]) (rmread_ret (mtX XM none none 0 0) _ _ w.heap.size _ rfl rfl KF.out (mtX_size ..)) rfl ?_
      rw [HR7.out]
      exact ⟨none, 0, rfl, HC2.out, BF.out, fun ad h0 hd => by have := HOF2.out ad h0 hd; have := HY.out; have := HS.out; omega⟩
set_option maxRecDepth 100000 in
set_option maxHeartbeats 8000000 in
theorem rMtRead_4 (s : ByteArray) (w : World) (hl : s.size ≤ 100000) (j0 : Nat) (b0 : Bool) (hz0 : rdNum (lb s) 0 false 0 100 = (4, j0, b0)) :
    Calls Tryz.prog 29 #[.string s] w (RdN (readM 100 100 (lb s)).1 (readM 100 100 (lb s)).2 w) := by
  obtain ⟨v1, j1, b1, hz1⟩ : ∃ v j b, rdNum (lb s) j0 b0 0 2 = (v, j, b) := ⟨_, _, _, rfl⟩
  have hM : rM 100 4 (lb s) j0 b0 = ((v1, 0, Pd0, false, 0, Co0, 0), j1, b1) := by
    rw [show rM 100 4 = rM4 from rfl]
    have hy1 : rdNum (lb s) j0 b0 ((0 : Nat) : Int) ((2 : Nat) : Int) = (v1, j1, b1) := hz1
    simp only [rM4, rdMap, rdBind, rI, hy1]
  have hR : rdMt 100 100 (lb s) 0 false = (mtOf 4 (v1, 0, Pd0, false, 0, Co0, 0), j1, b1) := by
    have hy0 : rdNum (lb s) 0 false ((0 : Nat) : Int) ((100 : Nat) : Int) = (4, j0, b0) := hz0
    simp only [rdMt, rdMap, rdBind, rI, hy0, hM]
  have hRR : readM 100 100 (lb s) = if b1 = true ∨ j1 ≠ s.size ∨ mayM (mtOf 4 (v1, 0, Pd0, false, 0, Co0, 0)) = false then (MtNil, 70) else (mtOf 4 (v1, 0, Pd0, false, 0, Co0, 0), 0) := by
    unfold readM
    rw [hR, length_lb]
  have hqs : (mtOf 4 (v1, 0, Pd0, false, 0, Co0, 0)).c.qs.length ≤ 6 := by have := rM_qs 100 4 (lb s) j0 b0; rw [hM] at this; exact this
  have wc8 : IntKind.i8.wrap (4) = 4 := IntWalk.i8_in _ (by omega)
  have hk8 : -128 ≤ (mtOf 4 (v1, 0, Pd0, false, 0, Co0, 0)).c.st ∧ (mtOf 4 (v1, 0, Pd0, false, 0, Co0, 0)).c.st ≤ 127 := by exact (show (-128 : Int) ≤ 0 ∧ (0 : Int) ≤ 127 by omega)
  obtain ⟨Wa, hWa⟩ : ∃ Wa, Wa = w.alloc (.cells #[.int .i8 0, .int .i64 0, .int .i64 0, .int .i64 0, .int .i64 0, .int .i64 0, .bool false, .int .i64 0, .int .i8 0, .int .i64 0, .int .i64 0, .int .i64 0, .int .i64 0, .slice none 0 0, .slice none 0 0, .int .i64 0, .int .i64 0] 42) := ⟨_, rfl⟩
  have sa : Wa.heap.size = w.heap.size + 1 := by rw [hWa]; simp
  have KXa : Blk Wa w.heap.size 42 #[.int .i8 0, .int .i64 0, .int .i64 0, .int .i64 0, .int .i64 0, .int .i64 0, .bool false, .int .i64 0, .int .i8 0, .int .i64 0, .int .i64 0, .int .i64 0, .int .i64 0, .slice none 0 0, .slice none 0 0, .int .i64 0, .int .i64 0] := by rw [hWa]; exact Blk.new w 42 #[.int .i8 0, .int .i64 0, .int .i64 0, .int .i64 0, .int .i64 0, .int .i64 0, .bool false, .int .i64 0, .int .i8 0, .int .i64 0, .int .i64 0, .int .i64 0, .int .i64 0, .slice none 0 0, .slice none 0 0, .int .i64 0, .int .i64 0]
  have NW := Lib.hid (rRNew_any s Wa)
  obtain ⟨W1, hW1⟩ : ∃ W1, W1 = Wa.alloc (.cells #[.string s, .int .i64 0, .bool false] 130) := ⟨_, rfl⟩
  have s1 : W1.heap.size = w.heap.size + 1 + 1 := by rw [hW1]; simp [sa]
  have R1 := Lib.hid (show RrOk W1.heap.size W1 (w.heap.size + 1) s 0 false from ⟨by rw [hW1]; exact bk_new _ 130 _ sa, Nat.zero_le _, hl, by omega, Nat.le_refl _⟩)
  have KX1 := Lib.hid (show Blk W1 w.heap.size 42 #[.int .i8 0, .int .i64 0, .int .i64 0, .int .i64 0, .int .i64 0, .int .i64 0, .bool false, .int .i64 0, .int .i8 0, .int .i64 0, .int .i64 0, .int .i64 0, .int .i64 0, .slice none 0 0, .slice none 0 0, .int .i64 0, .int .i64 0] by rw [hW1]; exact KXa.alloc _)
  have B1 := Lib.hid (show Below w.heap.size w W1 by rw [hW1, hWa]; exact bal (bal (Below.refl _ _) _) _)
  have HS := Lib.hid (show W1.heap.size = w.heap.size + 1 + 1 from s1)
  have HSA := Lib.hid sa
  have HWA := Lib.hid hWa
  have HW1 := Lib.hid hW1
  have HRR := Lib.hid hRR
  have HQS := Lib.hid hqs
  have HK8 := Lib.hid hk8
  have HZ0 := Lib.hid hz0
  have HZ1 := Lib.hid hz1
  clear hWa sa KXa hW1 s1 hRR hqs hk8 hz0 hM hR hl hz1
  go_enter Tryz.func29, Tryz.ntmps29
  go_upto_region 1 with (fail)
  rw [← HWA.out]
  have N0 := Lib.hid (rRNum_z HZ0.out R1.out)
  go_wp2_with (go_at_call 54; refine NW.out.mono ?_; rw [← HW1.out]; rintro e w0 ⟨rfl, rfl⟩; rw [HSA.out])
  refine N0.out.mono ?_
  rintro e w1 ⟨rfl, r, o⟩
  obtain ⟨V1, st1, k1, bl1, sl1⟩ := bk_fresh (P := Tryz.prog) w1 42 #[.int .i8 0, .int .i64 0, .int .i64 0, .int .i64 0, .int .i64 0, .int .i64 0, .bool false, .int .i64 0, .int .i8 0, .int .i64 0, .int .i64 0, .int .i64 0, .int .i64 0, .slice none 0 0, .slice none 0 0, .int .i64 0, .int .i64 0] #[.int .i8 (4), .int .i64 0, .int .i64 0, .int .i64 0, .int .i64 0, .int .i64 0, .bool false, .int .i64 0, .int .i8 0, .int .i64 0, .int .i64 0, .int .i64 0, .int .i64 0, .slice none 0 0, .slice none 0 0, .int .i64 0, .int .i64 0] 17 infoMt rfl rfl (by simp [Value.oneCell'])
  have hle := o.size
  have F1 := Lib.hid (show FrM W1 (w.heap.size + 1) w1.heap.size s j0 b0 (mtX (Mt0 4) none none 0 0) V1 from ⟨k1, r.below (bl1.mono o.size), o.size, ((Goes.refl (show w.heap.size + 1 < W1.heap.size by have := HS.out; omega)).only o).below (bl1.mono o.size)⟩)
  have HY := Lib.hid (show W1.heap.size ≤ w1.heap.size from o.size)
  have x0 : V1.cell? ⟨w1.heap.size, 0, none⟩ = some (.int .i8 (4)) := k1.cell 0
  clear r o k1 bl1 sl1 hle
  have NM := Lib.hid (rRNum_z HZ1.out F1.out.2.1)
  go_wp2_with fail
  refine NM.out.mono ?_
  rintro e w2 ⟨rfl, r, o⟩
  have f := F1.out.next r o
  have st2 := store_intS v1 (f.1.cell 1) (f.1.frozen 1)
  have F2 := Lib.hid (show FrM W1 (w.heap.size + 1) w1.heap.size s j1 b1 (mtX ({ Mt0 4 with tid := v1 } : Mt) none none 0 0) (w2.setCell ⟨w1.heap.size, 1, none⟩ (.int .i64 v1)) from f.set 1 (.int .i64 v1))
  obtain ⟨V2, hV2⟩ : ∃ V, V = w2.setCell ⟨w1.heap.size, 1, none⟩ (.int .i64 v1) := ⟨_, rfl⟩
  rw [← hV2] at st2 F2
  clear r o f NM x0 st1 hV2
  have x0 : V2.cell? ⟨w1.heap.size, 0, none⟩ = some (.int .i8 (4)) := mt_cell F2.out.1 (j := 0) rfl
  have HCR0 := Lib.hid (show CoR V2 V2.heap.size (mtOf 4 (v1, 0, Pd0, false, 0, Co0, 0)).c none none from co0_R _ _)
  have HOF := Lib.hid (show ∀ (ad : Addr), 0 < (mtOf 4 (v1, 0, Pd0, false, 0, Co0, 0)).c.qs.length → (none : Option Addr) = some ad → w1.heap.size < ad.block from fun _ _ hd => by cases hd)
  have FX := Lib.hid (show FrM W1 (w.heap.size + 1) w1.heap.size s j1 b1 (mtX (mtOf 4 (v1, 0, Pd0, false, 0, Co0, 0)) none none 0 0) V2 from F2.out)
  have E1 := Lib.hid (rREnd_any (w.heap.size + 1) s j1 b1 V2 FX.out.2.1.1)
  have KX2 := Lib.hid (FX.out.2.2.2.1.blk KX1.out (show ¬ w.heap.size = w.heap.size + 1 by omega))
  have B2 := Lib.hid (B1.out.trans (FX.out.2.2.2.1.below B1.out.size (fun x hx => by omega)))
  by_cases hE : b1 = true ∨ j1 ≠ s.size
  · have he : endOf s.size j1 b1 = 70 := if_pos hE
    rw [he] at E1
    have HR7 := Lib.hid (show readM 100 100 (lb s) = (MtNil, 70) by rw [HRR.out, if_pos (by rcases hE with h | h; exact .inl h; exact .inr (.inl h))])
    clear hE he
    go_wp2_with fail
    refine E1.out.mono ?_
    rintro e w9 ⟨rfl, nn, rfl⟩
    obtain ⟨W9, st9, k9, fb9, fh9, fs9⟩ := bk_store (P := Tryz.prog) (ty := 42) (cs := #[.int .i8 0, .int .i64 0, .int .i64 0, .int .i64 0, .int .i64 0, .int .i64 0, .bool false, .int .i64 0, .int .i8 0, .int .i64 0, .int .i64 0, .int .i64 0, .int .i64 0, .slice none 0 0, .slice none 0 0, .int .i64 0, .int .i64 0]) 17 (KX2.out.drewN nn) infoMt rfl rfl (by simp [Value.oneCell'])
    have BF := Lib.hid (fb9 _ w (Nat.le_refl _) (below_drewN B2.out nn))
    have KF := Lib.hid k9
    clear k9 fb9 fh9 fs9
    go_wp2_with fail
    refine bodyPost_ret (v := .tuple #[.agg #[.int .i8 0, .int .i64 0, .int .i64 0, .int .i64 0, .int .i64 0, .int .i64 0, .bool false, .int .i64 0, .int .i8 0, .int .i64 0, .int .i64 0, .int .i64 0, .int .i64 0, .slice none 0 0, .slice none 0 0, .int .i64 0, .int .i64 0], .int .i64 70]) (rmread_ret #[.int .i8 0, .int .i64 0, .int .i64 0, .int .i64 0, .int .i64 0, .int .i64 0, .bool false, .int .i64 0, .int .i8 0, .int .i64 0, .int .i64 0, .int .i64 0, .int .i64 0, .slice none 0 0, .slice none 0 0, .int .i64 0, .int .i64 0] _ _ w.heap.size _ rfl rfl KF.out rfl) rfl ?_
    rw [HR7.out]
    exact ⟨none, 0, rfl, co0_R _ _, BF.out, fun _ _ hd => by cases hd⟩
  · have he : endOf s.size j1 b1 = 0 := if_neg hE
    rw [he] at E1
    have HE := Lib.hid hE
    clear hE he
    go_wp2_with fail
    refine E1.out.mono ?_
    rintro e w9 ⟨rfl, nn, rfl⟩
    have bn : Below V2.heap.size V2 (V2.drewN nn) := below_drewN (Below.refl _ _) nn
    have K10 := Lib.hid (FX.out.1.drewN nn)
    have l10 := mt_load (P := Tryz.prog) K10.out
    have hcr : CoR (V2.drewN nn) (V2.drewN nn).heap.size (mtOf 4 (v1, 0, Pd0, false, 0, Co0, 0)).c none none := HCR0.out.up bn
    have HCR := Lib.hid hcr
    have MY := Lib.hid (rMayM_all (mtOf 4 (v1, 0, Pd0, false, 0, Co0, 0)) none none 0 0 (V2.drewN nn).heap.size (V2.drewN nn) hcr (Nat.le_refl _) HK8.out.1 HK8.out.2)
    have B10 := Lib.hid (below_drewN B2.out nn)
    have KX10 := Lib.hid (KX2.out.drewN nn)
    obtain ⟨W10, hW10⟩ : ∃ W10, W10 = V2.drewN nn := ⟨_, rfl⟩
    rw [← hW10] at K10 l10 HCR MY B10 KX10 ⊢
    clear hcr hW10 bn
    obtain ⟨XM, hXM⟩ : ∃ XM, (mtOf 4 (v1, 0, Pd0, false, 0, Co0, 0)) = XM := ⟨_, rfl⟩
    rw [hXM] at l10 HCR MY K10
    have HOF2 := Lib.hid (show ∀ (ad : Addr), 0 < XM.c.qs.length → none = some ad → w1.heap.size < ad.block by rw [← hXM]; exact HOF.out)
    have HRX := Lib.hid (show readM 100 100 (lb s) = if b1 = true ∨ j1 ≠ s.size ∨ mayM XM = false then (MtNil, 70) else (XM, 0) by rw [HRR.out, hXM])
    clear hXM
    cases hmy : mayM XM
    · rw [hmy] at MY
      have HR7 := Lib.hid (show readM 100 100 (lb s) = (MtNil, 70) by rw [HRX.out, if_pos (.inr (.inr hmy))])
      clear hmy
      go_wp2_with fail
      refine MY.out.mono ?_
      rintro e w11 ⟨rfl, b11⟩
      obtain ⟨W12, st12, k12, fb12, fh12, fs12⟩ := bk_store (P := Tryz.prog) (ty := 42) (cs := #[.int .i8 0, .int .i64 0, .int .i64 0, .int .i64 0, .int .i64 0, .int .i64 0, .bool false, .int .i64 0, .int .i8 0, .int .i64 0, .int .i64 0, .int .i64 0, .int .i64 0, .slice none 0 0, .slice none 0 0, .int .i64 0, .int .i64 0]) 17 (KX10.out.below b11 KX10.out.lt) infoMt rfl rfl (by simp [Value.oneCell'])
      have BF := Lib.hid (fb12 _ w (Nat.le_refl _) (B10.out.trans (b11.mono B10.out.size)))
      have KF := Lib.hid k12
      clear k12 fb12 fh12 fs12 l10 b11
      go_wp2_with fail
      refine bodyPost_ret (v := .tuple #[.agg #[.int .i8 0, .int .i64 0, .int .i64 0, .int .i64 0, .int .i64 0, .int .i64 0, .bool false, .int .i64 0, .int .i8 0, .int .i64 0, .int .i64 0, .int .i64 0, .int .i64 0, .slice none 0 0, .slice none 0 0, .int .i64 0, .int .i64 0], .int .i64 70]) (rmread_ret #[.int .i8 0, .int .i64 0, .int .i64 0, .int .i64 0, .int .i64 0, .int .i64 0, .bool false, .int .i64 0, .int .i8 0, .int .i64 0, .int .i64 0, .int .i64 0, .int .i64 0, .slice none 0 0, .slice none 0 0, .int .i64 0, .int .i64 0] _ _ w.heap.size _ rfl rfl KF.out rfl) rfl ?_
      rw [HR7.out]
      exact ⟨none, 0, rfl, co0_R _ _, BF.out, fun _ _ hd => by cases hd⟩
    · rw [hmy] at MY
      have HR7 := Lib.hid (show readM 100 100 (lb s) = (XM, 0) by
        rw [HRX.out, if_neg]
        rintro (h | h | h)
        · exact HE.out (.inl h)
        · exact HE.out (.inr h)
        · rw [hmy] at h; cases h)
      clear hmy
      go_wp2_with fail
      refine MY.out.mono ?_
      rintro e w11 ⟨rfl, b11⟩
      have l11 := mt_load (P := Tryz.prog) (K10.out.below b11 K10.out.lt)
      obtain ⟨W12, st12, k12, fb12, fh12, fs12⟩ := bk_store (P := Tryz.prog) (ty := 42) (cs := mtX XM none none 0 0) 17 (KX10.out.below b11 KX10.out.lt) infoMt rfl (mtX_size ..) (mtX_one ..)
      have BF := Lib.hid (fb12 _ w (Nat.le_refl _) (B10.out.trans (b11.mono B10.out.size)))
      have KF := Lib.hid k12
      have HC2 := Lib.hid (coR_hold (HCR.out.up b11) (fun ad h0 hd => by have := HOF2.out ad h0 hd; have := HY.out; have := HS.out; omega) fh12 fs12)
      clear k12 fb12 fh12 fs12 l10 b11
      go_wp2_with fail
      refine bodyPost_ret (v := .tuple #[.agg (mtX XM none none 0 0), .int .i64 0]) (rmread_ret (mtX XM none none 0 0) _ _ w.heap.size _ rfl rfl KF.out (mtX_size ..)) rfl ?_
      rw [HR7.out]
      exact ⟨none, 0, rfl, HC2.out, BF.out, fun ad h0 hd => by have := HOF2.out ad h0 hd; have := HY.out; have := HS.out; omega⟩
set_option maxRecDepth 100000 in
set_option maxHeartbeats 8000000 in
theorem rMtRead_5 (s : ByteArray) (w : World) (hl : s.size ≤ 100000) (j0 : Nat) (b0 : Bool) (hz0 : rdNum (lb s) 0 false 0 100 = (5, j0, b0)) :
    Calls Tryz.prog 29 #[.string s] w (RdN (readM 100 100 (lb s)).1 (readM 100 100 (lb s)).2 w) := by
  obtain ⟨v1, j1, b1, hz1⟩ : ∃ v j b, rdNum (lb s) j0 b0 0 1 = (v, j, b) := ⟨_, _, _, rfl⟩
  obtain ⟨v2, j2, b2, hz2⟩ : ∃ v j b, rdNum (lb s) j1 b1 0 2 = (v, j, b) := ⟨_, _, _, rfl⟩
  obtain ⟨v3, j3, b3, hz3⟩ : ∃ v j b, rdNum (lb s) j2 b2 0 1048576 = (v, j, b) := ⟨_, _, _, rfl⟩
  have hM : rM 100 5 (lb s) j0 b0 = ((0, 0, (v1, v2, v3), false, 0, Co0, 0), j3, b3) := by
    rw [show rM 100 5 = rM5 from rfl]
    have hy1 : rdNum (lb s) j0 b0 ((0 : Nat) : Int) ((1 : Nat) : Int) = (v1, j1, b1) := hz1
    have hy2 : rdNum (lb s) j1 b1 ((0 : Nat) : Int) ((2 : Nat) : Int) = (v2, j2, b2) := hz2
    have hy3 : rdNum (lb s) j2 b2 ((0 : Nat) : Int) ((1048576 : Nat) : Int) = (v3, j3, b3) := hz3
    simp only [rM5, rdMap, rdBind, rI, rdPn, hy1, hy2, hy3]
  have hR : rdMt 100 100 (lb s) 0 false = (mtOf 5 (0, 0, (v1, v2, v3), false, 0, Co0, 0), j3, b3) := by
    have hy0 : rdNum (lb s) 0 false ((0 : Nat) : Int) ((100 : Nat) : Int) = (5, j0, b0) := hz0
    simp only [rdMt, rdMap, rdBind, rI, hy0, hM]
  have hRR : readM 100 100 (lb s) = if b3 = true ∨ j3 ≠ s.size ∨ mayM (mtOf 5 (0, 0, (v1, v2, v3), false, 0, Co0, 0)) = false then (MtNil, 70) else (mtOf 5 (0, 0, (v1, v2, v3), false, 0, Co0, 0), 0) := by
    unfold readM
    rw [hR, length_lb]
  have hqs : (mtOf 5 (0, 0, (v1, v2, v3), false, 0, Co0, 0)).c.qs.length ≤ 6 := by have := rM_qs 100 5 (lb s) j0 b0; rw [hM] at this; exact this
  have wc8 : IntKind.i8.wrap (5) = 5 := IntWalk.i8_in _ (by omega)
  have hk8 : -128 ≤ (mtOf 5 (0, 0, (v1, v2, v3), false, 0, Co0, 0)).c.st ∧ (mtOf 5 (0, 0, (v1, v2, v3), false, 0, Co0, 0)).c.st ≤ 127 := by exact (show (-128 : Int) ≤ 0 ∧ (0 : Int) ≤ 127 by omega)
  obtain ⟨Wa, hWa⟩ : ∃ Wa, Wa = w.alloc (.cells #[.int .i8 0, .int .i64 0, .int .i64 0, .int .i64 0, .int .i64 0, .int .i64 0, .bool false, .int .i64 0, .int .i8 0, .int .i64 0, .int .i64 0, .int .i64 0, .int .i64 0, .slice none 0 0, .slice none 0 0, .int .i64 0, .int .i64 0] 42) := ⟨_, rfl⟩
  have sa : Wa.heap.size = w.heap.size + 1 := by rw [hWa]; simp
  have KXa : Blk Wa w.heap.size 42 #[.int .i8 0, .int .i64 0, .int .i64 0, .int .i64 0, .int .i64 0, .int .i64 0, .bool false, .int .i64 0, .int .i8 0, .int .i64 0, .int .i64 0, .int .i64 0, .int .i64 0, .slice none 0 0, .slice none 0 0, .int .i64 0, .int .i64 0] := by rw [hWa]; exact Blk.new w 42 #[.int .i8 0, .int .i64 0, .int .i64 0, .int .i64 0, .int .i64 0, .int .i64 0, .bool false, .int .i64 0, .int .i8 0, .int .i64 0, .int .i64 0, .int .i64 0, .int .i64 0, .slice none 0 0, .slice none 0 0, .int .i64 0, .int .i64 0]
  have NW := Lib.hid (rRNew_any s Wa)
  obtain ⟨W1, hW1⟩ : ∃ W1, W1 = Wa.alloc (.cells #[.string s, .int .i64 0, .bool false] 130) := ⟨_, rfl⟩
  have s1 : W1.heap.size = w.heap.size + 1 + 1 := by rw [hW1]; simp [sa]
  have R1 := Lib.hid (show RrOk W1.heap.size W1 (w.heap.size + 1) s 0 false from ⟨by rw [hW1]; exact bk_new _ 130 _ sa, Nat.zero_le _, hl, by omega, Nat.le_refl _⟩)
  have KX1 := Lib.hid (show Blk W1 w.heap.size 42 #[.int .i8 0, .int .i64 0, .int .i64 0, .int .i64 0, .int .i64 0, .int .i64 0, .bool false, .int .i64 0, .int .i8 0, .int .i64 0, .int .i64 0, .int .i64 0, .int .i64 0, .slice none 0 0, .slice none 0 0, .int .i64 0, .int .i64 0] by rw [hW1]; exact KXa.alloc _)
  have B1 := Lib.hid (show Below w.heap.size w W1 by rw [hW1, hWa]; exact bal (bal (Below.refl _ _) _) _)
  have HS := Lib.hid (show W1.heap.size = w.heap.size + 1 + 1 from s1)
  have HSA := Lib.hid sa
  have HWA := Lib.hid hWa
  have HW1 := Lib.hid hW1
  have HRR := Lib.hid hRR
  have HQS := Lib.hid hqs
  have HK8 := Lib.hid hk8
  have HZ0 := Lib.hid hz0
  have HZ1 := Lib.hid hz1
  have HZ2 := Lib.hid hz2
  have HZ3 := Lib.hid hz3
  clear hWa sa KXa hW1 s1 hRR hqs hk8 hz0 hM hR hl hz1 hz2 hz3
  go_enter Tryz.func29, Tryz.ntmps29
  go_upto_region 1 with (fail)
  rw [← HWA.out]
  have N0 := Lib.hid (rRNum_z HZ0.out R1.out)
  go_wp2_with (go_at_call 54; refine NW.out.mono ?_; rw [← HW1.out]; rintro e w0 ⟨rfl, rfl⟩; rw [HSA.out])
  refine N0.out.mono ?_
  rintro e w1 ⟨rfl, r, o⟩
  obtain ⟨V1, st1, k1, bl1, sl1⟩ := bk_fresh (P := Tryz.prog) w1 42 #[.int .i8 0, .int .i64 0, .int .i64 0, .int .i64 0, .int .i64 0, .int .i64 0, .bool false, .int .i64 0, .int .i8 0, .int .i64 0, .int .i64 0, .int .i64 0, .int .i64 0, .slice none 0 0, .slice none 0 0, .int .i64 0, .int .i64 0] #[.int .i8 (5), .int .i64 0, .int .i64 0, .int .i64 0, .int .i64 0, .int .i64 0, .bool false, .int .i64 0, .int .i8 0, .int .i64 0, .int .i64 0, .int .i64 0, .int .i64 0, .slice none 0 0, .slice none 0 0, .int .i64 0, .int .i64 0] 17 infoMt rfl rfl (by simp [Value.oneCell'])
  have hle := o.size
  have F1 := Lib.hid (show FrM W1 (w.heap.size + 1) w1.heap.size s j0 b0 (mtX (Mt0 5) none none 0 0) V1 from ⟨k1, r.below (bl1.mono o.size), o.size, ((Goes.refl (show w.heap.size + 1 < W1.heap.size by have := HS.out; omega)).only o).below (bl1.mono o.size)⟩)
  have HY := Lib.hid (show W1.heap.size ≤ w1.heap.size from o.size)
  have x0 : V1.cell? ⟨w1.heap.size, 0, none⟩ = some (.int .i8 (5)) := k1.cell 0
  clear r o k1 bl1 sl1 hle
  have NM := Lib.hid (rtpend W1.heap.size (w.heap.size + 1) s j0 j1 j2 j3 b0 b1 b2 b3 v1 v2 v3 V1 F1.out.2.1 HZ1.out HZ2.out HZ3.out)
  go_wp2_with fail
  refine NM.out.mono ?_
  rintro e w2 ⟨rfl, r, o⟩
  obtain ⟨V2, stx, f, _, _⟩ := (F1.out.next r o).many 40 3 [.int .i64 v1, .int .i64 v2, .int .i64 v3] infoPdM (by rw [mtX_size]; simp) (by simp [Value.oneCell']) (mt_pendS (Mt0 5) none none 0 0 (v1, v2, v3))
  have st2 : (storeVar 40 ⟨w1.heap.size, 3, none⟩ (.agg #[.int .i64 v1, .int .i64 v2, .int .i64 v3])).run Tryz.prog w2 = .ok () V2 := stx
  have F2 := Lib.hid (show FrM W1 (w.heap.size + 1) w1.heap.size s j3 b3 (mtX ({ Mt0 5 with p := (v1, v2, v3) } : Mt) none none 0 0) V2 from f)
  clear r o f NM stx x0 st1
  have x0 : V2.cell? ⟨w1.heap.size, 0, none⟩ = some (.int .i8 (5)) := mt_cell F2.out.1 (j := 0) rfl
  have HCR0 := Lib.hid (show CoR V2 V2.heap.size (mtOf 5 (0, 0, (v1, v2, v3), false, 0, Co0, 0)).c none none from co0_R _ _)
  have HOF := Lib.hid (show ∀ (ad : Addr), 0 < (mtOf 5 (0, 0, (v1, v2, v3), false, 0, Co0, 0)).c.qs.length → (none : Option Addr) = some ad → w1.heap.size < ad.block from fun _ _ hd => by cases hd)
  have FX := Lib.hid (show FrM W1 (w.heap.size + 1) w1.heap.size s j3 b3 (mtX (mtOf 5 (0, 0, (v1, v2, v3), false, 0, Co0, 0)) none none 0 0) V2 from F2.out)
  have E1 := Lib.hid (rREnd_any (w.heap.size + 1) s j3 b3 V2 FX.out.2.1.1)
  have KX2 := Lib.hid (FX.out.2.2.2.1.blk KX1.out (show ¬ w.heap.size = w.heap.size + 1 by omega))
  have B2 := Lib.hid (B1.out.trans (FX.out.2.2.2.1.below B1.out.size (fun x hx => by omega)))
  by_cases hE : b3 = true ∨ j3 ≠ s.size
  · have he : endOf s.size j3 b3 = 70 := if_pos hE
    rw [he] at E1
    have HR7 := Lib.hid (show readM 100 100 (lb s) = (MtNil, 70) by rw [HRR.out, if_pos (by rcases hE with h | h; exact .inl h; exact .inr (.inl h))])
    clear hE he
    go_wp2_with fail
    refine E1.out.mono ?_
    rintro e w9 ⟨rfl, nn, rfl⟩
    obtain ⟨W9, st9, k9, fb9, fh9, fs9⟩ := bk_store (P := Tryz.prog) (ty := 42) (cs := #[.int .i8 0, .int .i64 0, .int .i64 0, .int .i64 0, .int .i64 0, .int .i64 0, .bool false, .int .i64 0, .int .i8 0, .int .i64 0, .int .i64 0, .int .i64 0, .int .i64 0, .slice none 0 0, .slice none 0 0, .int .i64 0, .int .i64 0]) 17 (KX2.out.drewN nn) infoMt rfl rfl (by simp [Value.oneCell'])
    have BF := Lib.hid (fb9 _ w (Nat.le_refl _) (below_drewN B2.out nn))
    have KF := Lib.hid k9
    clear k9 fb9 fh9 fs9
    go_wp2_with fail
    refine bodyPost_ret (v := .tuple #[.agg #[.int .i8 0, .int .i64 0, .int .i64 0, .int .i64 0, .int .i64 0, .int .i64 0, .bool false, .int .i64 0, .int .i8 0, .int .i64 0, .int .i64 0, .int .i64 0, .int .i64 0, .slice none 0 0, .slice none 0 0, .int .i64 0, .int .i64 0], .int .i64 70]) (rmread_ret #[.int .i8 0, .int .i64 0, .int .i64 0, .int .i64 0, .int .i64 0, .int .i64 0, .bool false, .int .i64 0, .int .i8 0, .int .i64 0, .int .i64 0, .int .i64 0, .int .i64 0, .slice none 0 0, .slice none 0 0, .int .i64 0, .int .i64 0] _ _ w.heap.size _ rfl rfl KF.out rfl) rfl ?_
    rw [HR7.out]
    exact ⟨none, 0, rfl, co0_R _ _, BF.out, fun _ _ hd => by cases hd⟩
  · have he : endOf s.size j3 b3 = 0 := if_neg hE
    rw [he] at E1
    have HE := Lib.hid hE
    clear hE he
    go_wp2_with fail
    refine E1.out.mono ?_
    rintro e w9 ⟨rfl, nn, rfl⟩
    have bn : Below V2.heap.size V2 (V2.drewN nn) := below_drewN (Below.refl _ _) nn
    have K10 := Lib.hid (FX.out.1.drewN nn)
    have l10 := mt_load (P := Tryz.prog) K10.out
    have hcr : CoR (V2.drewN nn) (V2.drewN nn).heap.size (mtOf 5 (0, 0, (v1, v2, v3), false, 0, Co0, 0)).c none none := HCR0.out.up bn
    have HCR := Lib.hid hcr
    have MY := Lib.hid (rMayM_all (mtOf 5 (0, 0, (v1, v2, v3), false, 0, Co0, 0)) none none 0 0 (V2.drewN nn).heap.size (V2.drewN nn) hcr (Nat.le_refl _) HK8.out.1 HK8.out.2)
    have B10 := Lib.hid (below_drewN B2.out nn)
    have KX10 := Lib.hid (KX2.out.drewN nn)
    obtain ⟨W10, hW10⟩ : ∃ W10, W10 = V2.drewN nn := ⟨_, rfl⟩
    rw [← hW10] at K10 l10 HCR MY B10 KX10 ⊢
    clear hcr hW10 bn
    obtain ⟨XM, hXM⟩ : ∃ XM, (mtOf 5 (0, 0, (v1, v2, v3), false, 0, Co0, 0)) = XM := ⟨_, rfl⟩
    rw [hXM] at l10 HCR MY K10
    have HOF2 := Lib.hid (show ∀ (ad : Addr), 0 < XM.c.qs.length → none = some ad → w1.heap.size < ad.block by rw [← hXM]; exact HOF.out)
    have HRX := Lib.hid (show readM 100 100 (lb s) = if b3 = true ∨ j3 ≠ s.size ∨ mayM XM = false then (MtNil, 70) else (XM, 0) by rw [HRR.out, hXM])
    clear hXM
    cases hmy : mayM XM
    · rw [hmy] at MY
      have HR7 := Lib.hid (show readM 100 100 (lb s) = (MtNil, 70) by rw [HRX.out, if_pos (.inr (.inr hmy))])
      clear hmy
      go_wp2_with fail
      refine MY.out.mono ?_
      rintro e w11 ⟨rfl, b11⟩
      obtain ⟨W12, st12, k12, fb12, fh12, fs12⟩ := bk_store (P := Tryz.prog) (ty := 42) (cs := #[.int .i8 0, .int .i64 0, .int .i64 0, .int .i64 0, .int .i64 0, .int .i64 0, .bool false, .int .i64 0, .int .i8 0, .int .i64 0, .int .i64 0, .int .i64 0, .int .i64 0, .slice none 0 0, .slice none 0 0, .int .i64 0, .int .i64 0]) 17 (KX10.out.below b11 KX10.out.lt) infoMt rfl rfl (by simp [Value.oneCell'])
      have BF := Lib.hid (fb12 _ w (Nat.le_refl _) (B10.out.trans (b11.mono B10.out.size)))
      have KF := Lib.hid k12
      clear k12 fb12 fh12 fs12 l10 b11
      go_wp2_with fail
      refine bodyPost_ret (v := .tuple #[.agg #[.int .i8 0, .int .i64 0, .int .i64 0, .int .i64 0, .int .i64 0, .int .i64 0, .bool false, .int .i64 0, .int .i8 0, .int .i64 0, .int .i64 0, .int .i64 0, .int .i64 0, .slice none 0 0, .slice none 0 0, .int .i64 0, .int .i64 0], .int .i64 70]) (rmread_ret #[.int .i8 0, .int .i64 0, .int .i64 0, .int .i64 0, .int .i64 0, .int .i64 0, .bool false, .int .i64 0, .int .i8 0, .int .i64 0, .int .i64 0, .int .i64 0, .int .i64 0, .slice none 0 0, .slice none 0 0, .int .i64 0, .int .i64 0] _ _ w.heap.size _ rfl rfl KF.out rfl) rfl ?_
      rw [HR7.out]
      exact ⟨none, 0, rfl, co0_R _ _, BF.out, fun _ _ hd => by cases hd⟩
    · rw [hmy] at MY
      have HR7 := Lib.hid (show readM 100 100 (lb s) = (XM, 0) by
        rw [HRX.out, if_neg]
        rintro (h | h | h)
        · exact HE.out (.inl h)
        · exact HE.out (.inr h)
        · rw [hmy] at h; cases h)
      clear hmy
      go_wp2_with fail
      refine MY.out.mono ?_
      rintro e w11 ⟨rfl, b11⟩
      have l11 := mt_load (P := Tryz.prog) (K10.out.below b11 K10.out.lt)
      obtain ⟨W12, st12, k12, fb12, fh12, fs12⟩ := bk_store (P := Tryz.prog) (ty := 42) (cs := mtX XM none none 0 0) 17 (KX10.out.below b11 KX10.out.lt) infoMt rfl (mtX_size ..) (mtX_one ..)
      have BF := Lib.hid (fb12 _ w (Nat.le_refl _) (B10.out.trans (b11.mono B10.out.size)))
      have KF := Lib.hid k12
      have HC2 := Lib.hid (coR_hold (HCR.out.up b11) (fun ad h0 hd => by have := HOF2.out ad h0 hd; have := HY.out; have := HS.out; omega) fh12 fs12)
      clear k12 fb12 fh12 fs12 l10 b11
      go_wp2_with fail
      refine bodyPost_ret (v := .tuple #[.agg (mtX XM none none 0 0), .int .i64 0]) (rmread_ret (mtX XM none none 0 0) _ _ w.heap.size _ rfl rfl KF.out (mtX_size ..)) rfl ?_
      rw [HR7.out]
      exact ⟨none, 0, rfl, HC2.out, BF.out, fun ad h0 hd => by have := HOF2.out ad h0 hd; have := HY.out; have := HS.out; omega⟩
set_option maxRecDepth 100000 in
set_option maxHeartbeats 8000000 in
theorem rMtRead_6 (s : ByteArray) (w : World) (hl : s.size ≤ 100000) (j0 : Nat) (b0 : Bool) (hz0 : rdNum (lb s) 0 false 0 100 = (6, j0, b0)) :
    Calls Tryz.prog 29 #[.string s] w (RdN (readM 100 100 (lb s)).1 (readM 100 100 (lb s)).2 w) := by
  obtain ⟨v1, j1, b1, hz1⟩ : ∃ v j b, rdNum (lb s) j0 b0 0 2 = (v, j, b) := ⟨_, _, _, rfl⟩
  obtain ⟨v2, j2, b2, hz2⟩ : ∃ v j b, rdNum (lb s) j1 b1 0 100 = (v, j, b) := ⟨_, _, _, rfl⟩
  obtain ⟨v3, j3, b3, hz3⟩ : ∃ v j b, rdNum (lb s) j2 b2 0 8 = (v, j, b) := ⟨_, _, _, rfl⟩
  obtain ⟨v4, j4, b4, hz4⟩ : ∃ v j b, rdNum (lb s) j3 b3 0 100 = (v, j, b) := ⟨_, _, _, rfl⟩
  obtain ⟨v5, j5, b5, hz5⟩ : ∃ v j b, rdNum (lb s) j4 b4 0 20 = (v, j, b) := ⟨_, _, _, rfl⟩
  obtain ⟨v6, j6, b6, hz6⟩ : ∃ v j b, rdNum (lb s) j5 b5 0 20 = (v, j, b) := ⟨_, _, _, rfl⟩
  obtain ⟨v7, j7, b7, hz7⟩ : ∃ v j b, rdNum (lb s) j6 b6 0 6 = (v, j, b) := ⟨_, _, _, rfl⟩
  obtain ⟨qs, j8, b8, hz8⟩ : ∃ v j b, rdRep rdPn v7.toNat (lb s) j7 b7 = (v, j, b) := ⟨_, _, _, rfl⟩
  obtain ⟨v9, j9, b9, hz9⟩ : ∃ v j b, rdNum (lb s) j8 b8 0 1048576 = (v, j, b) := ⟨_, _, _, rfl⟩
  have hM : rM 100 6 (lb s) j0 b0 = ((v1, 0, Pd0, false, 0, ⟨v2, v3, v4, v5, v6, [], qs, v9⟩, 0), j9, b9) := by
    rw [show rM 100 6 = (rM6 100) from rfl]
    have hy1 : rdNum (lb s) j0 b0 ((0 : Nat) : Int) ((2 : Nat) : Int) = (v1, j1, b1) := hz1
    have hy2 : rdNum (lb s) j1 b1 ((0 : Nat) : Int) ((100 : Nat) : Int) = (v2, j2, b2) := hz2
    have hy3 : rdNum (lb s) j2 b2 ((0 : Nat) : Int) ((8 : Nat) : Int) = (v3, j3, b3) := hz3
    have hy4 : rdNum (lb s) j3 b3 ((0 : Nat) : Int) ((100 : Nat) : Int) = (v4, j4, b4) := hz4
    have hy5 : rdNum (lb s) j4 b4 ((0 : Nat) : Int) ((20 : Nat) : Int) = (v5, j5, b5) := hz5
    have hy6 : rdNum (lb s) j5 b5 ((0 : Nat) : Int) ((20 : Nat) : Int) = (v6, j6, b6) := hz6
    have hy7 : rdNum (lb s) j6 b6 ((0 : Nat) : Int) ((6 : Nat) : Int) = (v7, j7, b7) := hz7
    have hy9 : rdNum (lb s) j8 b8 ((0 : Nat) : Int) ((1048576 : Nat) : Int) = (v9, j9, b9) := hz9
    simp only [rM6, rdMap, rdBind, rI, rdCo, rdCb, coOf, hy1, hy2, hy3, hy4, hy5, hy6, hy7, hz8, hy9]
  have hR : rdMt 100 100 (lb s) 0 false = (mtOf 6 (v1, 0, Pd0, false, 0, ⟨v2, v3, v4, v5, v6, [], qs, v9⟩, 0), j9, b9) := by
    have hy0 : rdNum (lb s) 0 false ((0 : Nat) : Int) ((100 : Nat) : Int) = (6, j0, b0) := hz0
    simp only [rdMt, rdMap, rdBind, rI, hy0, hM]
  have hRR : readM 100 100 (lb s) = if b9 = true ∨ j9 ≠ s.size ∨ mayM (mtOf 6 (v1, 0, Pd0, false, 0, ⟨v2, v3, v4, v5, v6, [], qs, v9⟩, 0)) = false then (MtNil, 70) else (mtOf 6 (v1, 0, Pd0, false, 0, ⟨v2, v3, v4, v5, v6, [], qs, v9⟩, 0), 0) := by
    unfold readM
    rw [hR, length_lb]
  have hqs : (mtOf 6 (v1, 0, Pd0, false, 0, ⟨v2, v3, v4, v5, v6, [], qs, v9⟩, 0)).c.qs.length ≤ 6 := by have := rM_qs 100 6 (lb s) j0 b0; rw [hM] at this; exact this
  have wc8 : IntKind.i8.wrap (6) = 6 := IntWalk.i8_in _ (by omega)
  have hk8 : -128 ≤ (mtOf 6 (v1, 0, Pd0, false, 0, ⟨v2, v3, v4, v5, v6, [], qs, v9⟩, 0)).c.st ∧ (mtOf 6 (v1, 0, Pd0, false, 0, ⟨v2, v3, v4, v5, v6, [], qs, v9⟩, 0)).c.st ≤ 127 := by rcases rdNum_rng hz2 with h | h <;> (show -128 ≤ v2 ∧ v2 ≤ 127; omega)
  obtain ⟨Wa, hWa⟩ : ∃ Wa, Wa = w.alloc (.cells #[.int .i8 0, .int .i64 0, .int .i64 0, .int .i64 0, .int .i64 0, .int .i64 0, .bool false, .int .i64 0, .int .i8 0, .int .i64 0, .int .i64 0, .int .i64 0, .int .i64 0, .slice none 0 0, .slice none 0 0, .int .i64 0, .int .i64 0] 42) := ⟨_, rfl⟩
  have sa : Wa.heap.size = w.heap.size + 1 := by rw [hWa]; simp
  have KXa : Blk Wa w.heap.size 42 #[.int .i8 0, .int .i64 0, .int .i64 0, .int .i64 0, .int .i64 0, .int .i64 0, .bool false, .int .i64 0, .int .i8 0, .int .i64 0, .int .i64 0, .int .i64 0, .int .i64 0, .slice none 0 0, .slice none 0 0, .int .i64 0, .int .i64 0] := by rw [hWa]; exact Blk.new w 42 #[.int .i8 0, .int .i64 0, .int .i64 0, .int .i64 0, .int .i64 0, .int .i64 0, .bool false, .int .i64 0, .int .i8 0, .int .i64 0, .int .i64 0, .int .i64 0, .int .i64 0, .slice none 0 0, .slice none 0 0, .int .i64 0, .int .i64 0]
  have NW := Lib.hid (rRNew_any s Wa)
  obtain ⟨W1, hW1⟩ : ∃ W1, W1 = Wa.alloc (.cells #[.string s, .int .i64 0, .bool false] 130) := ⟨_, rfl⟩
  have s1 : W1.heap.size = w.heap.size + 1 + 1 := by rw [hW1]; simp [sa]
  have R1 := Lib.hid (show RrOk W1.heap.size W1 (w.heap.size + 1) s 0 false from ⟨by rw [hW1]; exact bk_new _ 130 _ sa, Nat.zero_le _, hl, by omega, Nat.le_refl _⟩)
  have KX1 := Lib.hid (show Blk W1 w.heap.size 42 #[.int .i8 0, .int .i64 0, .int .i64 0, .int .i64 0, .int .i64 0, .int .i64 0, .bool false, .int .i64 0, .int .i8 0, .int .i64 0, .int .i64 0, .int .i64 0, .int .i64 0, .slice none 0 0, .slice none 0 0, .int .i64 0, .int .i64 0] by rw [hW1]; exact KXa.alloc _)
  have B1 := Lib.hid (show Below w.heap.size w W1 by rw [hW1, hWa]; exact bal (bal (Below.refl _ _) _) _)
  have HS := Lib.hid (show W1.heap.size = w.heap.size + 1 + 1 from s1)
  have HSA := Lib.hid sa
  have HWA := Lib.hid hWa
  have HW1 := Lib.hid hW1
  have HRR := Lib.hid hRR
  have HQS := Lib.hid hqs
  have HK8 := Lib.hid hk8
  have HZ0 := Lib.hid hz0
  have HZ1 := Lib.hid hz1
  have HZ2 := Lib.hid hz2
  have HZ3 := Lib.hid hz3
  have HZ4 := Lib.hid hz4
  have HZ5 := Lib.hid hz5
  have HZ6 := Lib.hid hz6
  have HZ7 := Lib.hid hz7
  have HZ8 := Lib.hid hz8
  have HZ9 := Lib.hid hz9
  clear hWa sa KXa hW1 s1 hRR hqs hk8 hz0 hM hR hl hz1 hz2 hz3 hz4 hz5 hz6 hz7 hz8 hz9
  go_enter Tryz.func29, Tryz.ntmps29
  go_upto_region 1 with (fail)
  rw [← HWA.out]
  have N0 := Lib.hid (rRNum_z HZ0.out R1.out)
  go_wp2_with (go_at_call 54; refine NW.out.mono ?_; rw [← HW1.out]; rintro e w0 ⟨rfl, rfl⟩; rw [HSA.out])
  refine N0.out.mono ?_
  rintro e w1 ⟨rfl, r, o⟩
  obtain ⟨V1, st1, k1, bl1, sl1⟩ := bk_fresh (P := Tryz.prog) w1 42 #[.int .i8 0, .int .i64 0, .int .i64 0, .int .i64 0, .int .i64 0, .int .i64 0, .bool false, .int .i64 0, .int .i8 0, .int .i64 0, .int .i64 0, .int .i64 0, .int .i64 0, .slice none 0 0, .slice none 0 0, .int .i64 0, .int .i64 0] #[.int .i8 (6), .int .i64 0, .int .i64 0, .int .i64 0, .int .i64 0, .int .i64 0, .bool false, .int .i64 0, .int .i8 0, .int .i64 0, .int .i64 0, .int .i64 0, .int .i64 0, .slice none 0 0, .slice none 0 0, .int .i64 0, .int .i64 0] 17 infoMt rfl rfl (by simp [Value.oneCell'])
  have hle := o.size
  have F1 := Lib.hid (show FrM W1 (w.heap.size + 1) w1.heap.size s j0 b0 (mtX (Mt0 6) none none 0 0) V1 from ⟨k1, r.below (bl1.mono o.size), o.size, ((Goes.refl (show w.heap.size + 1 < W1.heap.size by have := HS.out; omega)).only o).below (bl1.mono o.size)⟩)
  have HY := Lib.hid (show W1.heap.size ≤ w1.heap.size from o.size)
  have x0 : V1.cell? ⟨w1.heap.size, 0, none⟩ = some (.int .i8 (6)) := k1.cell 0
  clear r o k1 bl1 sl1 hle
  have NM := Lib.hid (rRNum_z HZ1.out F1.out.2.1)
  go_wp2_with fail
  refine NM.out.mono ?_
  rintro e w2 ⟨rfl, r, o⟩
  have f := F1.out.next r o
  have st2 := store_intS v1 (f.1.cell 1) (f.1.frozen 1)
  have F2 := Lib.hid (show FrM W1 (w.heap.size + 1) w1.heap.size s j1 b1 (mtX ({ Mt0 6 with tid := v1 } : Mt) none none 0 0) (w2.setCell ⟨w1.heap.size, 1, none⟩ (.int .i64 v1)) from f.set 1 (.int .i64 v1))
  obtain ⟨V2, hV2⟩ : ∃ V, V = w2.setCell ⟨w1.heap.size, 1, none⟩ (.int .i64 v1) := ⟨_, rfl⟩
  rw [← hV2] at st2 F2
  clear r o f NM x0 st1 hV2
  have x0 : V2.cell? ⟨w1.heap.size, 0, none⟩ = some (.int .i8 (6)) := mt_cell F2.out.1 (j := 0) rfl
  have NM := Lib.hid (rtcoord (w.heap.size + 1) s j1 b1 HZ2.out HZ3.out HZ4.out HZ5.out HZ6.out HZ7.out HZ8.out HZ9.out V2 (rrk_up F2.out.2.1))
  have HLV := Lib.hid (show W1.heap.size ≤ V2.heap.size ∧ w1.heap.size < V2.heap.size from ⟨F2.out.2.1.2.2.2.2, F2.out.1.lt⟩)
  go_wp2_with fail
  refine NM.out.mono ?_
  rintro e w3 ⟨D, eD, rfl, r, o, rd, off⟩
  have r' : RrOk W1.heap.size w3 (w.heap.size + 1) s j9 b9 := ⟨r.1, r.2.1, r.2.2.1, F2.out.2.1.2.2.2.1, Nat.le_trans F2.out.2.1.2.2.2.2 o.size⟩
  obtain ⟨V3, stx, f, fh, fs⟩ := (F2.out.next r' o).many 29 8 (coL ⟨v2, v3, v4, v5, v6, [], qs, v9⟩ none D 0 eD) infoCoS (by rw [mtX_size]; simp [coL]) (by simp [coL, Value.oneCell']) (mt_coS ({ Mt0 6 with tid := v1 } : Mt) none none 0 0 ⟨v2, v3, v4, v5, v6, [], qs, v9⟩ none D 0 eD)
  have st3 : (storeVar 29 ⟨w1.heap.size, 8, none⟩ (.agg #[.int .i8 v2, .int .i64 v3, .int .i64 v4, .int .i64 v5, .int .i64 v6, .slice none 0 0, .slice D qs.length eD, .int .i64 v9])).run Tryz.prog w3 = .ok () V3 := stx
  have HOF := Lib.hid (show ∀ (ad : Addr), 0 < qs.length → D = some ad → w1.heap.size < ad.block from fun ad h0 hd => by have := off ad h0 hd; have := HLV.out; omega)
  have HCR0 := Lib.hid (show CoR V3 V3.heap.size (⟨v2, v3, v4, v5, v6, [], qs, v9⟩ : Co) none D from coR_hold (X := w1.heap.size) ⟨Reads.none_, rd, Nat.zero_le _, by have := HQS.out; have : qs.length ≤ 6 := this; show qs.length ≤ 1000; omega⟩ (fun ad h0 hd => by have := HOF.out ad h0 hd; omega) fh fs)
  have F3 := Lib.hid (show FrM W1 (w.heap.size + 1) w1.heap.size s j9 b9 (mtX ({ Mt0 6 with tid := v1, c := ⟨v2, v3, v4, v5, v6, [], qs, v9⟩ } : Mt) none D 0 eD) V3 from f)
  clear r r' o rd off f fh fs NM stx x0 st2
  have x0 : V3.cell? ⟨w1.heap.size, 0, none⟩ = some (.int .i8 (6)) := mt_cell F3.out.1 (j := 0) rfl
  have FX := Lib.hid (show FrM W1 (w.heap.size + 1) w1.heap.size s j9 b9 (mtX (mtOf 6 (v1, 0, Pd0, false, 0, ⟨v2, v3, v4, v5, v6, [], qs, v9⟩, 0)) none D 0 eD) V3 from F3.out)
  have E1 := Lib.hid (rREnd_any (w.heap.size + 1) s j9 b9 V3 FX.out.2.1.1)
  have KX2 := Lib.hid (FX.out.2.2.2.1.blk KX1.out (show ¬ w.heap.size = w.heap.size + 1 by omega))
  have B2 := Lib.hid (B1.out.trans (FX.out.2.2.2.1.below B1.out.size (fun x hx => by omega)))
  by_cases hE : b9 = true ∨ j9 ≠ s.size
  · have he : endOf s.size j9 b9 = 70 := if_pos hE
    rw [he] at E1
    have HR7 := Lib.hid (show readM 100 100 (lb s) = (MtNil, 70) by rw [HRR.out, if_pos (by rcases hE with h | h; exact .inl h; exact .inr (.inl h))])
    clear hE he
    go_wp2_with fail
    refine E1.out.mono ?_
    rintro e w9 ⟨rfl, nn, rfl⟩
    obtain ⟨W9, st9, k9, fb9, fh9, fs9⟩ := bk_store (P := Tryz.prog) (ty := 42) (cs := #[.int .i8 0, .int .i64 0, .int .i64 0, .int .i64 0, .int .i64 0, .int .i64 0, .bool false, .int .i64 0, .int .i8 0, .int .i64 0, .int .i64 0, .int .i64 0, .int .i64 0, .slice none 0 0, .slice none 0 0, .int .i64 0, .int .i64 0]) 17 (KX2.out.drewN nn) infoMt rfl rfl (by simp [Value.oneCell'])
    have BF := Lib.hid (fb9 _ w (Nat.le_refl _) (below_drewN B2.out nn))
    have KF := Lib.hid k9
    clear k9 fb9 fh9 fs9
    go_wp2_with fail
    refine bodyPost_ret (v := .tuple #[.agg #[.int .i8 0, .int .i64 0, .int .i64 0, .int .i64 0, .int .i64 0, .int .i64 0, .bool false, .int .i64 0, .int .i8 0, .int .i64 0, .int .i64 0, .int .i64 0, .int .i64 0, .slice none 0 0, .slice none 0 0, .int .i64 0, .int .i64 0], .int .i64 70]) (rmread_ret #[.int .i8 0, .int .i64 0, .int .i64 0, .int .i64 0, .int .i64 0, .int .i64 0, .bool false, .int .i64 0, .int .i8 0, .int .i64 0, .int .i64 0, .int .i64 0, .int .i64 0, .slice none 0 0, .slice none 0 0, .int .i64 0, .int .i64 0] _ _ w.heap.size _ rfl rfl KF.out rfl) rfl ?_
    rw [HR7.out]
    exact ⟨none, 0, rfl, co0_R _ _, BF.out, fun _ _ hd => by cases hd⟩
  · have he : endOf s.size j9 b9 = 0 := if_neg hE
    rw [he] at E1
    have HE := Lib.hid hE
    clear hE he
    go_wp2_with fail
    refine E1.out.mono ?_
    rintro e w9 ⟨rfl, nn, rfl⟩
    have bn : Below V3.heap.size V3 (V3.drewN nn) := below_drewN (Below.refl _ _) nn
    have K10 := Lib.hid (FX.out.1.drewN nn)
    have l10 := mt_load (P := Tryz.prog) K10.out
    have hcr : CoR (V3.drewN nn) (V3.drewN nn).heap.size (mtOf 6 (v1, 0, Pd0, false, 0, ⟨v2, v3, v4, v5, v6, [], qs, v9⟩, 0)).c none D := HCR0.out.up bn
    have HCR := Lib.hid hcr
    have MY := Lib.hid (rMayM_all (mtOf 6 (v1, 0, Pd0, false, 0, ⟨v2, v3, v4, v5, v6, [], qs, v9⟩, 0)) none D 0 eD (V3.drewN nn).heap.size (V3.drewN nn) hcr (Nat.le_refl _) HK8.out.1 HK8.out.2)
    have B10 := Lib.hid (below_drewN B2.out nn)
    have KX10 := Lib.hid (KX2.out.drewN nn)
    obtain ⟨W10, hW10⟩ : ∃ W10, W10 = V3.drewN nn := ⟨_, rfl⟩
    rw [← hW10] at K10 l10 HCR MY B10 KX10 ⊢
    clear hcr hW10 bn
    obtain ⟨XM, hXM⟩ : ∃ XM, (mtOf 6 (v1, 0, Pd0, false, 0, ⟨v2, v3, v4, v5, v6, [], qs, v9⟩, 0)) = XM := ⟨_, rfl⟩
    rw [hXM] at l10 HCR MY K10
    have HOF2 := Lib.hid (show ∀ (ad : Addr), 0 < XM.c.qs.length → D = some ad → w1.heap.size < ad.block by rw [← hXM]; exact HOF.out)
    have HRX := Lib.hid (show readM 100 100 (lb s) = if b9 = true ∨ j9 ≠ s.size ∨ mayM XM = false then (MtNil, 70) else (XM, 0) by rw [HRR.out, hXM])
    clear hXM
    cases hmy : mayM XM
    · rw [hmy] at MY
      have HR7 := Lib.hid (show readM 100 100 (lb s) = (MtNil, 70) by rw [HRX.out, if_pos (.inr (.inr hmy))])
      clear hmy
      go_wp2_with fail
      refine MY.out.mono ?_
      rintro e w11 ⟨rfl, b11⟩
      obtain ⟨W12, st12, k12, fb12, fh12, fs12⟩ := bk_store (P := Tryz.prog) (ty := 42) (cs := #[.int .i8 0, .int .i64 0, .int .i64 0, .int .i64 0, .int .i64 0, .int .i64 0, .bool false, .int .i64 0, .int .i8 0, .int .i64 0, .int .i64 0, .int .i64 0, .int .i64 0, .slice none 0 0, .slice none 0 0, .int .i64 0, .int .i64 0]) 17 (KX10.out.below b11 KX10.out.lt) infoMt rfl rfl (by simp [Value.oneCell'])
      have BF := Lib.hid (fb12 _ w (Nat.le_refl _) (B10.out.trans (b11.mono B10.out.size)))
      have KF := Lib.hid k12
      clear k12 fb12 fh12 fs12 l10 b11
      go_wp2_with fail
      refine bodyPost_ret (v := .tuple #[.agg #[.int .i8 0, .int .i64 0, .int .i64 0, .int .i64 0, .int .i64 0, .int .i64 0, .bool false, .int .i64 0, .int .i8 0, .int .i64 0, .int .i64 0, .int .i64 0, .int .i64 0, .slice none 0 0, .slice none 0 0, .int .i64 0, .int .i64 0], .int .i64 70]) (rmread_ret #[.int .i8 0, .int .i64 0, .int .i64 0, .int .i64 0, .int .i64 0, .int .i64 0, .bool false, .int .i64 0, .int .i8 0, .int .i64 0, .int .i64 0, .int .i64 0, .int .i64 0, .slice none 0 0, .slice none 0 0, .int .i64 0, .int .i64 0] _ _ w.heap.size _ rfl rfl KF.out rfl) rfl ?_
      rw [HR7.out]
      exact ⟨none, 0, rfl, co0_R _ _, BF.out, fun _ _ hd => by cases hd⟩
    · rw [hmy] at MY
      have HR7 := Lib.hid (show readM 100 100 (lb s) = (XM, 0) by
        rw [HRX.out, if_neg]
        rintro (h | h | h)
        · exact HE.out (.inl h)
        · exact HE.out (.inr h)
        · rw [hmy] at h; cases h)
      clear hmy
      go_wp2_with fail
      refine MY.out.mono ?_
      rintro e w11 ⟨rfl, b11⟩
      have l11 := mt_load (P := Tryz.prog) (K10.out.below b11 K10.out.lt)
      obtain ⟨W12, st12, k12, fb12, fh12, fs12⟩ := bk_store (P := Tryz.prog) (ty := 42) (cs := mtX XM none D 0 eD) 17 (KX10.out.below b11 KX10.out.lt) infoMt rfl (mtX_size ..) (mtX_one ..)
      have BF := Lib.hid (fb12 _ w (Nat.le_refl _) (B10.out.trans (b11.mono B10.out.size)))
      have KF := Lib.hid k12
      have HC2 := Lib.hid (coR_hold (HCR.out.up b11) (fun ad h0 hd => by have := HOF2.out ad h0 hd; have := HY.out; have := HS.out; omega) fh12 fs12)
      clear k12 fb12 fh12 fs12 l10 b11
      go_wp2_with fail
      refine bodyPost_ret (v := .tuple #[.agg (mtX XM none D 0 eD), .int .i64 0]) (rmread_ret (mtX XM none D 0 eD) _ _ w.heap.size _ rfl rfl KF.out (mtX_size ..)) rfl ?_
      rw [HR7.out]
      exact ⟨D, eD, rfl, HC2.out, BF.out, fun ad h0 hd => by have := HOF2.out ad h0 hd; have := HY.out; have := HS.out; omega⟩
set_option maxRecDepth 100000 in
set_option maxHeartbeats 8000000 in
theorem rMtRead_7 (s : ByteArray) (w : World) (hl : s.size ≤ 100000) (j0 : Nat) (b0 : Bool) (hz0 : rdNum (lb s) 0 false 0 100 = (7, j0, b0)) :
    Calls Tryz.prog 29 #[.string s] w (RdN (readM 100 100 (lb s)).1 (readM 100 100 (lb s)).2 w) := by
  obtain ⟨v1, j1, b1, hz1⟩ : ∃ v j b, rdNum (lb s) j0 b0 0 8 = (v, j, b) := ⟨_, _, _, rfl⟩
  have hM : rM 100 7 (lb s) j0 b0 = ((0, 0, Pd0, false, 0, Co0, v1), j1, b1) := by
    rw [show rM 100 7 = rM7 from rfl]
    have hy1 : rdNum (lb s) j0 b0 ((0 : Nat) : Int) ((8 : Nat) : Int) = (v1, j1, b1) := hz1
    simp only [rM7, rdMap, rdBind, rI, hy1]
  have hR : rdMt 100 100 (lb s) 0 false = (mtOf 7 (0, 0, Pd0, false, 0, Co0, v1), j1, b1) := by
    have hy0 : rdNum (lb s) 0 false ((0 : Nat) : Int) ((100 : Nat) : Int) = (7, j0, b0) := hz0
    simp only [rdMt, rdMap, rdBind, rI, hy0, hM]
  have hRR : readM 100 100 (lb s) = if b1 = true ∨ j1 ≠ s.size ∨ mayM (mtOf 7 (0, 0, Pd0, false, 0, Co0, v1)) = false then (MtNil, 70) else (mtOf 7 (0, 0, Pd0, false, 0, Co0, v1), 0) := by
    unfold readM
    rw [hR, length_lb]
  have hqs : (mtOf 7 (0, 0, Pd0, false, 0, Co0, v1)).c.qs.length ≤ 6 := by have := rM_qs 100 7 (lb s) j0 b0; rw [hM] at this; exact this
  have wc8 : IntKind.i8.wrap (7) = 7 := IntWalk.i8_in _ (by omega)
  have hk8 : -128 ≤ (mtOf 7 (0, 0, Pd0, false, 0, Co0, v1)).c.st ∧ (mtOf 7 (0, 0, Pd0, false, 0, Co0, v1)).c.st ≤ 127 := by exact (show (-128 : Int) ≤ 0 ∧ (0 : Int) ≤ 127 by omega)
  obtain ⟨Wa, hWa⟩ : ∃ Wa, Wa = w.alloc (.cells #[.int .i8 0, .int .i64 0, .int .i64 0, .int .i64 0, .int .i64 0, .int .i64 0, .bool false, .int .i64 0, .int .i8 0, .int .i64 0, .int .i64 0, .int .i64 0, .int .i64 0, .slice none 0 0, .slice none 0 0, .int .i64 0, .int .i64 0] 42) := ⟨_, rfl⟩
  have sa : Wa.heap.size = w.heap.size + 1 := by rw [hWa]; simp
  have KXa : Blk Wa w.heap.size 42 #[.int .i8 0, .int .i64 0, .int .i64 0, .int .i64 0, .int .i64 0, .int .i64 0, .bool false, .int .i64 0, .int .i8 0, .int .i64 0, .int .i64 0, .int .i64 0, .int .i64 0, .slice none 0 0, .slice none 0 0, .int .i64 0, .int .i64 0] := by rw [hWa]; exact Blk.new w 42 #[.int .i8 0, .int .i64 0, .int .i64 0, .int .i64 0, .int .i64 0, .int .i64 0, .bool false, .int .i64 0, .int .i8 0, .int .i64 0, .int .i64 0, .int .i64 0, .int .i64 0, .slice none 0 0, .slice none 0 0, .int .i64 0, .int .i64 0]
  have NW := Lib.hid (rRNew_any s Wa)
  obtain ⟨W1, hW1⟩ : ∃ W1, W1 = Wa.alloc (.cells #[.string s, .int .i64 0, .bool false] 130) := ⟨_, rfl⟩
  have s1 : W1.heap.size = w.heap.size + 1 + 1 := by rw [hW1]; simp [sa]
  have R1 := Lib.hid (show RrOk W1.heap.size W1 (w.heap.size + 1) s 0 false from ⟨by rw [hW1]; exact bk_new _ 130 _ sa, Nat.zero_le _, hl, by omega, Nat.le_refl _⟩)
  have KX1 := Lib.hid (show Blk W1 w.heap.size 42 #[.int .i8 0, .int .i64 0, .int .i64 0, .int .i64 0, .int .i64 0, .int .i64 0, .bool false, .int .i64 0, .int .i8 0, .int .i64 0, .int .i64 0, .int .i64 0, .int .i64 0, .slice none 0 0, .slice none 0 0, .int .i64 0, .int .i64 0] by rw [hW1]; exact KXa.alloc _)
  have B1 := Lib.hid (show Below w.heap.size w W1 by rw [hW1, hWa]; exact bal (bal (Below.refl _ _) _) _)
  have HS := Lib.hid (show W1.heap.size = w.heap.size + 1 + 1 from s1)
  have HSA := Lib.hid sa
  have HWA := Lib.hid hWa
  have HW1 := Lib.hid hW1
  have HRR := Lib.hid hRR
  have HQS := Lib.hid hqs
  have HK8 := Lib.hid hk8
  have HZ0 := Lib.hid hz0
  have HZ1 := Lib.hid hz1
  clear hWa sa KXa hW1 s1 hRR hqs hk8 hz0 hM hR hl hz1
  go_enter Tryz.func29, Tryz.ntmps29
  go_upto_region 1 with (fail)
  rw [← HWA.out]
  have N0 := Lib.hid (rRNum_z HZ0.out R1.out)
  go_wp2_with (go_at_call 54; refine NW.out.mono ?_; rw [← HW1.out]; rintro e w0 ⟨rfl, rfl⟩; rw [HSA.out])
  refine N0.out.mono ?_
  rintro e w1 ⟨rfl, r, o⟩
  obtain ⟨V1, st1, k1, bl1, sl1⟩ := bk_fresh (P := Tryz.prog) w1 42 #[.int .i8 0, .int .i64 0, .int .i64 0, .int .i64 0, .int .i64 0, .int .i64 0, .bool false, .int .i64 0, .int .i8 0, .int .i64 0, .int .i64 0, .int .i64 0, .int .i64 0, .slice none 0 0, .slice none 0 0, .int .i64 0, .int .i64 0] #[.int .i8 (7), .int .i64 0, .int .i64 0, .int .i64 0, .int .i64 0, .int .i64 0, .bool false, .int .i64 0, .int .i8 0, .int .i64 0, .int .i64 0, .int .i64 0, .int .i64 0, .slice none 0 0, .slice none 0 0, .int .i64 0, .int .i64 0] 17 infoMt rfl rfl (by simp [Value.oneCell'])
  have hle := o.size
  have F1 := Lib.hid (show FrM W1 (w.heap.size + 1) w1.heap.size s j0 b0 (mtX (Mt0 7) none none 0 0) V1 from ⟨k1, r.below (bl1.mono o.size), o.size, ((Goes.refl (show w.heap.size + 1 < W1.heap.size by have := HS.out; omega)).only o).below (bl1.mono o.size)⟩)
  have HY := Lib.hid (show W1.heap.size ≤ w1.heap.size from o.size)
  have x0 : V1.cell? ⟨w1.heap.size, 0, none⟩ = some (.int .i8 (7)) := k1.cell 0
  clear r o k1 bl1 sl1 hle
  have NM := Lib.hid (rRNum_z HZ1.out F1.out.2.1)
  go_wp2_with fail
  refine NM.out.mono ?_
  rintro e w2 ⟨rfl, r, o⟩
  have f := F1.out.next r o
  have st2 := store_intS v1 (f.1.cell 16) (f.1.frozen 16)
  have F2 := Lib.hid (show FrM W1 (w.heap.size + 1) w1.heap.size s j1 b1 (mtX ({ Mt0 7 with nx := v1 } : Mt) none none 0 0) (w2.setCell ⟨w1.heap.size, 16, none⟩ (.int .i64 v1)) from f.set 16 (.int .i64 v1))
  obtain ⟨V2, hV2⟩ : ∃ V, V = w2.setCell ⟨w1.heap.size, 16, none⟩ (.int .i64 v1) := ⟨_, rfl⟩
  rw [← hV2] at st2 F2
  clear r o f NM x0 st1 hV2
  have x0 : V2.cell? ⟨w1.heap.size, 0, none⟩ = some (.int .i8 (7)) := mt_cell F2.out.1 (j := 0) rfl
  have HCR0 := Lib.hid (show CoR V2 V2.heap.size (mtOf 7 (0, 0, Pd0, false, 0, Co0, v1)).c none none from co0_R _ _)
  have HOF := Lib.hid (show ∀ (ad : Addr), 0 < (mtOf 7 (0, 0, Pd0, false, 0, Co0, v1)).c.qs.length → (none : Option Addr) = some ad → w1.heap.size < ad.block from fun _ _ hd => by cases hd)
  have FX := Lib.hid (show FrM W1 (w.heap.size + 1) w1.heap.size s j1 b1 (mtX (mtOf 7 (0, 0, Pd0, false, 0, Co0, v1)) none none 0 0) V2 from F2.out)
  have E1 := Lib.hid (rREnd_any (w.heap.size + 1) s j1 b1 V2 FX.out.2.1.1)
  have KX2 := Lib.hid (FX.out.2.2.2.1.blk KX1.out (show ¬ w.heap.size = w.heap.size + 1 by omega))
  have B2 := Lib.hid (B1.out.trans (FX.out.2.2.2.1.below B1.out.size (fun x hx => by omega)))
  by_cases hE : b1 = true ∨ j1 ≠ s.size
  · have he : endOf s.size j1 b1 = 70 := if_pos hE
    rw [he] at E1
    have HR7 := Lib.hid (show readM 100 100 (lb s) = (MtNil, 70) by rw [HRR.out, if_pos (by rcases hE with h | h; exact .inl h; exact .inr (.inl h))])
    clear hE he
    go_wp2_with fail
    refine E1.out.mono ?_
    rintro e w9 ⟨rfl, nn, rfl⟩
    obtain ⟨W9, st9, k9, fb9, fh9, fs9⟩ := bk_store (P := Tryz.prog) (ty := 42) (cs := #[.int .i8 0, .int .i64 0, .int .i64 0, .int .i64 0, .int .i64 0, .int .i64 0, .bool false, .int .i64 0, .int .i8 0, .int .i64 0, .int .i64 0, .int .i64 0, .int .i64 0, .slice none 0 0, .slice none 0 0, .int .i64 0, .int .i64 0]) 17 (KX2.out.drewN nn) infoMt rfl rfl (by simp [Value.oneCell'])
    have BF := Lib.hid (fb9 _ w (Nat.le_refl _) (below_drewN B2.out nn))
    have KF := Lib.hid k9
    clear k9 fb9 fh9 fs9
    go_wp2_with fail
    refine bodyPost_ret (v := .tuple #[.agg #[.int .i8 0, .int .i64 0, .int .i64 0, .int .i64 0, .int .i64 0, .int .i64 0, .bool false, .int .i64 0, .int .i8 0, .int .i64 0, .int .i64 0, .int .i64 0, .int .i64 0, .slice none 0 0, .slice none 0 0, .int .i64 0, .int .i64 0], .int .i64 70]) (rmread_ret #[.int .i8 0, .int .i64 0, .int .i64 0, .int .i64 0, .int .i64 0, .int .i64 0, .bool false, .int .i64 0, .int .i8 0, .int .i64 0, .int .i64 0, .int .i64 0, .int .i64 0, .slice none 0 0, .slice none 0 0, .int .i64 0, .int .i64 0] _ _ w.heap.size _ rfl rfl KF.out rfl) rfl ?_
    rw [HR7.out]
    exact ⟨none, 0, rfl, co0_R _ _, BF.out, fun _ _ hd => by cases hd⟩
  · have he : endOf s.size j1 b1 = 0 := if_neg hE
    rw [he] at E1
    have HE := Lib.hid hE
    clear hE he
    go_wp2_with fail
    refine E1.out.mono ?_
    rintro e w9 ⟨rfl, nn, rfl⟩
    have bn : Below V2.heap.size V2 (V2.drewN nn) := below_drewN (Below.refl _ _) nn
    have K10 := Lib.hid (FX.out.1.drewN nn)
    have l10 := mt_load (P := Tryz.prog) K10.out
    have hcr : CoR (V2.drewN nn) (V2.drewN nn).heap.size (mtOf 7 (0, 0, Pd0, false, 0, Co0, v1)).c none none := HCR0.out.up bn
    have HCR := Lib.hid hcr
    have MY := Lib.hid (rMayM_all (mtOf 7 (0, 0, Pd0, false, 0, Co0, v1)) none none 0 0 (V2.drewN nn).heap.size (V2.drewN nn) hcr (Nat.le_refl _) HK8.out.1 HK8.out.2)
    have B10 := Lib.hid (below_drewN B2.out nn)
    have KX10 := Lib.hid (KX2.out.drewN nn)
    obtain ⟨W10, hW10⟩ : ∃ W10, W10 = V2.drewN nn := ⟨_, rfl⟩
    rw [← hW10] at K10 l10 HCR MY B10 KX10 ⊢
    clear hcr hW10 bn
    obtain ⟨XM, hXM⟩ : ∃ XM, (mtOf 7 (0, 0, Pd0, false, 0, Co0, v1)) = XM := ⟨_, rfl⟩
    rw [hXM] at l10 HCR MY K10
    have HOF2 := Lib.hid (show ∀ (ad : Addr), 0 < XM.c.qs.length → none = some ad → w1.heap.size < ad.block by rw [← hXM]; exact HOF.out)
    have HRX := Lib.hid (show readM 100 100 (lb s) = if b1 = true ∨ j1 ≠ s.size ∨ mayM XM = false then (MtNil, 70) else (XM, 0) by rw [HRR.out, hXM])
    clear hXM
    cases hmy : mayM XM
    · rw [hmy] at MY
      have HR7 := Lib.hid (show readM 100 100 (lb s) = (MtNil, 70) by rw [HRX.out, if_pos (.inr (.inr hmy))])
      clear hmy
      go_wp2_with fail
      refine MY.out.mono ?_
      rintro e w11 ⟨rfl, b11⟩
      obtain ⟨W12, st12, k12, fb12, fh12, fs12⟩ := bk_store (P := Tryz.prog) (ty := 42) (cs := #[.int .i8 0, .int .i64 0, .int .i64 0, .int .i64 0, .int .i64 0, .int .i64 0, .bool false, .int .i64 0, .int .i8 0, .int .i64 0, .int .i64 0, .int .i64 0, .int .i64 0, .slice none 0 0, .slice none 0 0, .int .i64 0, .int .i64 0]) 17 (KX10.out.below b11 KX10.out.lt) infoMt rfl rfl (by simp [Value.oneCell'])
      have BF := Lib.hid (fb12 _ w (Nat.le_refl _) (B10.out.trans (b11.mono B10.out.size)))
      have KF := Lib.hid k12
      clear k12 fb12 fh12 fs12 l10 b11
      go_wp2_with fail
      refine bodyPost_ret (v := .tuple #[.agg #[.int .i8 0, .int .i64 0, .int .i64 0, .int .i64 0, .int .i64 0, .int .i64 0, .bool false, .int .i64 0, .int .i8 0, .int .i64 0, .int .i64 0, .int .i64 0, .int .i64 0, .slice none 0 0, .slice none 0 0, .int .i64 0, .int .i64 0], .int .i64 70]) (rmread_ret #[.int .i8 0, .int .i64 0, .int .i64 0, .int .i64 0, .int .i64 0, .int .i64 0, .bool false, .int .i64 0, .int .i8 0, .int .i64 0, .int .i64 0, .int .i64 0, .int .i64 0, .slice none 0 0, .slice none 0 0, .int .i64 0, .int .i64 0] _ _ w.heap.size _ rfl rfl KF.out rfl) rfl ?_
      rw [HR7.out]
      exact ⟨none, 0, rfl, co0_R _ _, BF.out, fun _ _ hd => by cases hd⟩
    · rw [hmy] at MY
      have HR7 := Lib.hid (show readM 100 100 (lb s) = (XM, 0) by
        rw [HRX.out, if_neg]
        rintro (h | h | h)
        · exact HE.out (.inl h)
        · exact HE.out (.inr h)
        · rw [hmy] at h; cases h)
      clear hmy
      go_wp2_with fail
      refine MY.out.mono ?_
      rintro e w11 ⟨rfl, b11⟩
      have l11 := mt_load (P := Tryz.prog) (K10.out.below b11 K10.out.lt)
      obtain ⟨W12, st12, k12, fb12, fh12, fs12⟩ := bk_store (P := Tryz.prog) (ty := 42) (cs := mtX XM none none 0 0) 17 (KX10.out.below b11 KX10.out.lt) infoMt rfl (mtX_size ..) (mtX_one ..)
      have BF := Lib.hid (fb12 _ w (Nat.le_refl _) (B10.out.trans (b11.mono B10.out.size)))
      have KF := Lib.hid k12
      have HC2 := Lib.hid (coR_hold (HCR.out.up b11) (fun ad h0 hd => by have := HOF2.out ad h0 hd; have := HY.out; have := HS.out; omega) fh12 fs12)
      clear k12 fb12 fh12 fs12 l10 b11
      go_wp2_with fail
      refine bodyPost_ret (v := .tuple #[.agg (mtX XM none none 0 0), .int .i64 0]) (rmread_ret (mtX XM none none 0 0) _ _ w.heap.size _ rfl rfl KF.out (mtX_size ..)) rfl ?_
      rw [HR7.out]
      exact ⟨none, 0, rfl, HC2.out, BF.out, fun ad h0 hd => by have := HOF2.out ad h0 hd; have := HY.out; have := HS.out; omega⟩
set_option maxRecDepth 100000 in
set_option maxHeartbeats 8000000 in
theorem rMtRead_n (s : ByteArray) (w : World) (hl : s.size ≤ 100000) (kd : Int) (n0 : ¬ kd = 0) (n1 : ¬ kd = 1) (n2 : ¬ kd = 2) (n3 : ¬ kd = 3) (n4 : ¬ kd = 4) (n5 : ¬ kd = 5) (n6 : ¬ kd = 6) (n7 : ¬ kd = 7) (j0 : Nat) (b0 : Bool) (hz0 : rdNum (lb s) 0 false 0 100 = (kd, j0, b0)) :
    Calls Tryz.prog 29 #[.string s] w (RdN (readM 100 100 (lb s)).1 (readM 100 100 (lb s)).2 w) := by
  obtain ⟨v1, j1, b1, hz1⟩ : ∃ v j b, rdNum (lb s) j0 b0 0 2 = (v, j, b) := ⟨_, _, _, rfl⟩
  have hM : rM 100 kd (lb s) j0 b0 = ((v1, 0, Pd0, false, 0, Co0, 0), j1, b1) := by
    rw [show rM 100 kd = rM4 from by unfold rM; rw [if_neg n0, if_neg n1, if_neg n2, if_neg n3, if_neg n5, if_neg n6, if_neg n7]]
    have hy1 : rdNum (lb s) j0 b0 ((0 : Nat) : Int) ((2 : Nat) : Int) = (v1, j1, b1) := hz1
    simp only [rM4, rdMap, rdBind, rI, hy1]
  have hR : rdMt 100 100 (lb s) 0 false = (mtOf kd (v1, 0, Pd0, false, 0, Co0, 0), j1, b1) := by
    have hy0 : rdNum (lb s) 0 false ((0 : Nat) : Int) ((100 : Nat) : Int) = (kd, j0, b0) := hz0
    simp only [rdMt, rdMap, rdBind, rI, hy0, hM]
  have hRR : readM 100 100 (lb s) = if b1 = true ∨ j1 ≠ s.size ∨ mayM (mtOf kd (v1, 0, Pd0, false, 0, Co0, 0)) = false then (MtNil, 70) else (mtOf kd (v1, 0, Pd0, false, 0, Co0, 0), 0) := by
    unfold readM
    rw [hR, length_lb]
  have hqs : (mtOf kd (v1, 0, Pd0, false, 0, Co0, 0)).c.qs.length ≤ 6 := by have := rM_qs 100 kd (lb s) j0 b0; rw [hM] at this; exact this
  have wc8 : IntKind.i8.wrap (kd) = kd := IntWalk.i8_in _ (by rcases rdNum_rng hz0 with h | h <;> omega)
  have hk8 : -128 ≤ (mtOf kd (v1, 0, Pd0, false, 0, Co0, 0)).c.st ∧ (mtOf kd (v1, 0, Pd0, false, 0, Co0, 0)).c.st ≤ 127 := by exact (show (-128 : Int) ≤ 0 ∧ (0 : Int) ≤ 127 by omega)
  obtain ⟨Wa, hWa⟩ : ∃ Wa, Wa = w.alloc (.cells #[.int .i8 0, .int .i64 0, .int .i64 0, .int .i64 0, .int .i64 0, .int .i64 0, .bool false, .int .i64 0, .int .i8 0, .int .i64 0, .int .i64 0, .int .i64 0, .int .i64 0, .slice none 0 0, .slice none 0 0, .int .i64 0, .int .i64 0] 42) := ⟨_, rfl⟩
  have sa : Wa.heap.size = w.heap.size + 1 := by rw [hWa]; simp
  have KXa : Blk Wa w.heap.size 42 #[.int .i8 0, .int .i64 0, .int .i64 0, .int .i64 0, .int .i64 0, .int .i64 0, .bool false, .int .i64 0, .int .i8 0, .int .i64 0, .int .i64 0, .int .i64 0, .int .i64 0, .slice none 0 0, .slice none 0 0, .int .i64 0, .int .i64 0] := by rw [hWa]; exact Blk.new w 42 #[.int .i8 0, .int .i64 0, .int .i64 0, .int .i64 0, .int .i64 0, .int .i64 0, .bool false, .int .i64 0, .int .i8 0, .int .i64 0, .int .i64 0, .int .i64 0, .int .i64 0, .slice none 0 0, .slice none 0 0, .int .i64 0, .int .i64 0]
  have NW := Lib.hid (rRNew_any s Wa)
  obtain ⟨W1, hW1⟩ : ∃ W1, W1 = Wa.alloc (.cells #[.string s, .int .i64 0, .bool false] 130) := ⟨_, rfl⟩
  have s1 : W1.heap.size = w.heap.size + 1 + 1 := by rw [hW1]; simp [sa]
  have R1 := Lib.hid (show RrOk W1.heap.size W1 (w.heap.size + 1) s 0 false from ⟨by rw [hW1]; exact bk_new _ 130 _ sa, Nat.zero_le _, hl, by omega, Nat.le_refl _⟩)
  have KX1 := Lib.hid (show Blk W1 w.heap.size 42 #[.int .i8 0, .int .i64 0, .int .i64 0, .int .i64 0, .int .i64 0, .int .i64 0, .bool false, .int .i64 0, .int .i8 0, .int .i64 0, .int .i64 0, .int .i64 0, .int .i64 0, .slice none 0 0, .slice none 0 0, .int .i64 0, .int .i64 0] by rw [hW1]; exact KXa.alloc _)
  have B1 := Lib.hid (show Below w.heap.size w W1 by rw [hW1, hWa]; exact bal (bal (Below.refl _ _) _) _)
  have HS := Lib.hid (show W1.heap.size = w.heap.size + 1 + 1 from s1)
  have HSA := Lib.hid sa
  have HWA := Lib.hid hWa
  have HW1 := Lib.hid hW1
  have HRR := Lib.hid hRR
  have HQS := Lib.hid hqs
  have HK8 := Lib.hid hk8
  have HZ0 := Lib.hid hz0
  have HZ1 := Lib.hid hz1
  have m0 : (kd != 0) = true := by simpa using n0
  have m5 : (kd != 5) = true := by simpa using n5
  have m7 : (kd != 7) = true := by simpa using n7
  have cc1 : (kd == 1) = false := by simpa using n1
  have cc2 : (kd == 2) = false := by simpa using n2
  have cc3 : (kd == 3) = false := by simpa using n3
  have cc5 : (kd == 5) = false := by simpa using n5
  have cc6 : (kd == 6) = false := by simpa using n6
  have cc7 : (kd == 7) = false := by simpa using n7
  clear n0 n1 n2 n3 n4 n5 n6 n7
  clear hWa sa KXa hW1 s1 hRR hqs hk8 hz0 hM hR hl hz1
  go_enter Tryz.func29, Tryz.ntmps29
  go_upto_region 1 with (fail)
  rw [← HWA.out]
  have N0 := Lib.hid (rRNum_z HZ0.out R1.out)
  go_wp2_with (go_at_call 54; refine NW.out.mono ?_; rw [← HW1.out]; rintro e w0 ⟨rfl, rfl⟩; rw [HSA.out])
  refine N0.out.mono ?_
  rintro e w1 ⟨rfl, r, o⟩
  obtain ⟨V1, st1, k1, bl1, sl1⟩ := bk_fresh (P := Tryz.prog) w1 42 #[.int .i8 0, .int .i64 0, .int .i64 0, .int .i64 0, .int .i64 0, .int .i64 0, .bool false, .int .i64 0, .int .i8 0, .int .i64 0, .int .i64 0, .int .i64 0, .int .i64 0, .slice none 0 0, .slice none 0 0, .int .i64 0, .int .i64 0] #[.int .i8 (kd), .int .i64 0, .int .i64 0, .int .i64 0, .int .i64 0, .int .i64 0, .bool false, .int .i64 0, .int .i8 0, .int .i64 0, .int .i64 0, .int .i64 0, .int .i64 0, .slice none 0 0, .slice none 0 0, .int .i64 0, .int .i64 0] 17 infoMt rfl rfl (by simp [Value.oneCell'])
  have hle := o.size
  have F1 := Lib.hid (show FrM W1 (w.heap.size + 1) w1.heap.size s j0 b0 (mtX (Mt0 kd) none none 0 0) V1 from ⟨k1, r.below (bl1.mono o.size), o.size, ((Goes.refl (show w.heap.size + 1 < W1.heap.size by have := HS.out; omega)).only o).below (bl1.mono o.size)⟩)
  have HY := Lib.hid (show W1.heap.size ≤ w1.heap.size from o.size)
  have x0 : V1.cell? ⟨w1.heap.size, 0, none⟩ = some (.int .i8 (kd)) := k1.cell 0
  clear r o k1 bl1 sl1 hle
  have NM := Lib.hid (rRNum_z HZ1.out F1.out.2.1)
  go_wp2_with fail
  refine NM.out.mono ?_
  rintro e w2 ⟨rfl, r, o⟩
  have f := F1.out.next r o
  have st2 := store_intS v1 (f.1.cell 1) (f.1.frozen 1)
  have F2 := Lib.hid (show FrM W1 (w.heap.size + 1) w1.heap.size s j1 b1 (mtX ({ Mt0 kd with tid := v1 } : Mt) none none 0 0) (w2.setCell ⟨w1.heap.size, 1, none⟩ (.int .i64 v1)) from f.set 1 (.int .i64 v1))
  obtain ⟨V2, hV2⟩ : ∃ V, V = w2.setCell ⟨w1.heap.size, 1, none⟩ (.int .i64 v1) := ⟨_, rfl⟩
  rw [← hV2] at st2 F2
  clear r o f NM x0 st1 hV2
  have x0 : V2.cell? ⟨w1.heap.size, 0, none⟩ = some (.int .i8 (kd)) := mt_cell F2.out.1 (j := 0) rfl
  have HCR0 := Lib.hid (show CoR V2 V2.heap.size (mtOf kd (v1, 0, Pd0, false, 0, Co0, 0)).c none none from co0_R _ _)
  have HOF := Lib.hid (show ∀ (ad : Addr), 0 < (mtOf kd (v1, 0, Pd0, false, 0, Co0, 0)).c.qs.length → (none : Option Addr) = some ad → w1.heap.size < ad.block from fun _ _ hd => by cases hd)
  have FX := Lib.hid (show FrM W1 (w.heap.size + 1) w1.heap.size s j1 b1 (mtX (mtOf kd (v1, 0, Pd0, false, 0, Co0, 0)) none none 0 0) V2 from F2.out)
  have E1 := Lib.hid (rREnd_any (w.heap.size + 1) s j1 b1 V2 FX.out.2.1.1)
  have KX2 := Lib.hid (FX.out.2.2.2.1.blk KX1.out (show ¬ w.heap.size = w.heap.size + 1 by omega))
  have B2 := Lib.hid (B1.out.trans (FX.out.2.2.2.1.below B1.out.size (fun x hx => by omega)))
  by_cases hE : b1 = true ∨ j1 ≠ s.size
  · have he : endOf s.size j1 b1 = 70 := if_pos hE
    rw [he] at E1
    have HR7 := Lib.hid (show readM 100 100 (lb s) = (MtNil, 70) by rw [HRR.out, if_pos (by rcases hE with h | h; exact .inl h; exact .inr (.inl h))])
    clear hE he
    go_wp2_with fail
    refine E1.out.mono ?_
    rintro e w9 ⟨rfl, nn, rfl⟩
    obtain ⟨W9, st9, k9, fb9, fh9, fs9⟩ := bk_store (P := Tryz.prog) (ty := 42) (cs := #[.int .i8 0, .int .i64 0, .int .i64 0, .int .i64 0, .int .i64 0, .int .i64 0, .bool false, .int .i64 0, .int .i8 0, .int .i64 0, .int .i64 0, .int .i64 0, .int .i64 0, .slice none 0 0, .slice none 0 0, .int .i64 0, .int .i64 0]) 17 (KX2.out.drewN nn) infoMt rfl rfl (by simp [Value.oneCell'])
    have BF := Lib.hid (fb9 _ w (Nat.le_refl _) (below_drewN B2.out nn))
    have KF := Lib.hid k9
    clear k9 fb9 fh9 fs9
    go_wp2_with fail
    refine bodyPost_ret (v := .tuple #[.agg #[.int .i8 0, .int .i64 0, .int .i64 0, .int .i64 0, .int .i64 0, .int .i64 0, .bool false, .int .i64 0, .int .i8 0, .int .i64 0, .int .i64 0, .int .i64 0, .int .i64 0, .slice none 0 0, .slice none 0 0, .int .i64 0, .int .i64 0], .int .i64 70]) (rmread_ret #[.int .i8 0, .int .i64 0, .int .i64 0, .int .i64 0, .int .i64 0, .int .i64 0, .bool false, .int .i64 0, .int .i8 0, .int .i64 0, .int .i64 0, .int .i64 0, .int .i64 0, .slice none 0 0, .slice none 0 0, .int .i64 0, .int .i64 0] _ _ w.heap.size _ rfl rfl KF.out rfl) rfl ?_
    rw [HR7.out]
    exact ⟨none, 0, rfl, co0_R _ _, BF.out, fun _ _ hd => by cases hd⟩
  · have he : endOf s.size j1 b1 = 0 := if_neg hE
    rw [he] at E1
    have HE := Lib.hid hE
    clear hE he
    go_wp2_with fail
    refine E1.out.mono ?_
    rintro e w9 ⟨rfl, nn, rfl⟩
    have bn : Below V2.heap.size V2 (V2.drewN nn) := below_drewN (Below.refl _ _) nn
    have K10 := Lib.hid (FX.out.1.drewN nn)
    have l10 := mt_load (P := Tryz.prog) K10.out
    have hcr : CoR (V2.drewN nn) (V2.drewN nn).heap.size (mtOf kd (v1, 0, Pd0, false, 0, Co0, 0)).c none none := HCR0.out.up bn
    have HCR := Lib.hid hcr
    have MY := Lib.hid (rMayM_all (mtOf kd (v1, 0, Pd0, false, 0, Co0, 0)) none none 0 0 (V2.drewN nn).heap.size (V2.drewN nn) hcr (Nat.le_refl _) HK8.out.1 HK8.out.2)
    have B10 := Lib.hid (below_drewN B2.out nn)
    have KX10 := Lib.hid (KX2.out.drewN nn)
    obtain ⟨W10, hW10⟩ : ∃ W10, W10 = V2.drewN nn := ⟨_, rfl⟩
    rw [← hW10] at K10 l10 HCR MY B10 KX10 ⊢
    clear hcr hW10 bn
    obtain ⟨XM, hXM⟩ : ∃ XM, (mtOf kd (v1, 0, Pd0, false, 0, Co0, 0)) = XM := ⟨_, rfl⟩
    rw [hXM] at l10 HCR MY K10
    have HOF2 := Lib.hid (show ∀ (ad : Addr), 0 < XM.c.qs.length → none = some ad → w1.heap.size < ad.block by rw [← hXM]; exact HOF.out)
    have HRX := Lib.hid (show readM 100 100 (lb s) = if b1 = true ∨ j1 ≠ s.size ∨ mayM XM = false then (MtNil, 70) else (XM, 0) by rw [HRR.out, hXM])
    clear hXM
    cases hmy : mayM XM
    · rw [hmy] at MY
      have HR7 := Lib.hid (show readM 100 100 (lb s) = (MtNil, 70) by rw [HRX.out, if_pos (.inr (.inr hmy))])
      clear hmy
      go_wp2_with fail
      refine MY.out.mono ?_
      rintro e w11 ⟨rfl, b11⟩
      obtain ⟨W12, st12, k12, fb12, fh12, fs12⟩ := bk_store (P := Tryz.prog) (ty := 42) (cs := #[.int .i8 0, .int .i64 0, .int .i64 0, .int .i64 0, .int .i64 0, .int .i64 0, .bool false, .int .i64 0, .int .i8 0, .int .i64 0, .int .i64 0, .int .i64 0, .int .i64 0, .slice none 0 0, .slice none 0 0, .int .i64 0, .int .i64 0]) 17 (KX10.out.below b11 KX10.out.lt) infoMt rfl rfl (by simp [Value.oneCell'])
      have BF := Lib.hid (fb12 _ w (Nat.le_refl _) (B10.out.trans (b11.mono B10.out.size)))
      have KF := Lib.hid k12
      clear k12 fb12 fh12 fs12 l10 b11
      go_wp2_with fail
      refine bodyPost_ret (v := .tuple #[.agg #[.int .i8 0, .int .i64 0, .int .i64 0, .int .i64 0, .int .i64 0, .int .i64 0, .bool false, .int .i64 0, .int .i8 0, .int .i64 0, .int .i64 0, .int .i64 0, .int .i64 0, .slice none 0 0, .slice none 0 0, .int .i64 0, .int .i64 0], .int .i64 70]) (rmread_ret #[.int .i8 0, .int .i64 0, .int .i64 0, .int .i64 0, .int .i64 0, .int .i64 0, .bool false, .int .i64 0, .int .i8 0, .int .i64 0, .int .i64 0, .int .i64 0, .int .i64 0, .slice none 0 0, .slice none 0 0, .int .i64 0, .int .i64 0] _ _ w.heap.size _ rfl rfl KF.out rfl) rfl ?_
      rw [HR7.out]
      exact ⟨none, 0, rfl, co0_R _ _, BF.out, fun _ _ hd => by cases hd⟩
    · rw [hmy] at MY
      have HR7 := Lib.hid (show readM 100 100 (lb s) = (XM, 0) by
        rw [HRX.out, if_neg]
        rintro (h | h | h)
        · exact HE.out (.inl h)
        · exact HE.out (.inr h)
        · rw [hmy] at h; cases h)
      clear hmy
      go_wp2_with fail
      refine MY.out.mono ?_
      rintro e w11 ⟨rfl, b11⟩
      have l11 := mt_load (P := Tryz.prog) (K10.out.below b11 K10.out.lt)
      obtain ⟨W12, st12, k12, fb12, fh12, fs12⟩ := bk_store (P := Tryz.prog) (ty := 42) (cs := mtX XM none none 0 0) 17 (KX10.out.below b11 KX10.out.lt) infoMt rfl (mtX_size ..) (mtX_one ..)
      have BF := Lib.hid (fb12 _ w (Nat.le_refl _) (B10.out.trans (b11.mono B10.out.size)))
      have KF := Lib.hid k12
      have HC2 := Lib.hid (coR_hold (HCR.out.up b11) (fun ad h0 hd => by have := HOF2.out ad h0 hd; have := HY.out; have := HS.out; omega) fh12 fs12)
      clear k12 fb12 fh12 fs12 l10 b11
      go_wp2_with fail
      refine bodyPost_ret (v := .tuple #[.agg (mtX XM none none 0 0), .int .i64 0]) (rmread_ret (mtX XM none none 0 0) _ _ w.heap.size _ rfl rfl KF.out (mtX_size ..)) rfl ?_
      rw [HR7.out]
      exact ⟨none, 0, rfl, HC2.out, BF.out, fun ad h0 hd => by have := HOF2.out ad h0 hd; have := HY.out; have := HS.out; omega⟩
theorem rMtRead_new (s : ByteArray) (w : World) (hl : s.size ≤ 100000) :
    Calls Tryz.prog 29 #[.string s] w (RdN (readM 100 100 (lb s)).1 (readM 100 100 (lb s)).2 w) := by
  obtain ⟨kd, j0, b0, hz0⟩ : ∃ v j b, rdNum (lb s) 0 false 0 100 = (v, j, b) := ⟨_, _, _, rfl⟩
  by_cases n0 : kd = 0
  · subst n0
    exact rMtRead_0 s w hl j0 b0 hz0
  by_cases n1 : kd = 1
  · subst n1
    exact rMtRead_1 s w hl j0 b0 hz0
  by_cases n2 : kd = 2
  · subst n2
    exact rMtRead_2 s w hl j0 b0 hz0
  by_cases n3 : kd = 3
  · subst n3
    exact rMtRead_3 s w hl j0 b0 hz0
  by_cases n4 : kd = 4
  · subst n4
    exact rMtRead_4 s w hl j0 b0 hz0
  by_cases n5 : kd = 5
  · subst n5
    exact rMtRead_5 s w hl j0 b0 hz0
  by_cases n6 : kd = 6
  · subst n6
    exact rMtRead_6 s w hl j0 b0 hz0
  by_cases n7 : kd = 7
  · subst n7
    exact rMtRead_7 s w hl j0 b0 hz0
  exact rMtRead_n s w hl kd n0 n1 n2 n3 n4 n5 n6 n7 j0 b0 hz0
theorem rMtRead_any (s : ByteArray) (w : World) (hl : s.size ≤ 100000) :
    Calls Tryz.prog 29 #[.string s] w (RdP (readM 100 100 (lb s)).1 (readM 100 100 (lb s)).2 w) :=
  (rMtRead_new s w hl).mono fun e w' ⟨D, e', h1, h2, h3, _⟩ => ⟨D, e', h1, h2, h3⟩
end
end Go.Proofs.YtbpkckahonmpkaaGreatDoor
