/-
  Layer 21: a state behind a tick, a state made young: by the program and by the document.
-/
import Derived.Test.YtagclnmchkgpdaaGrp12
import Derived.Test.YtagclnmchkgpdaaGrp13
set_option linter.unusedVariables false
set_option linter.unusedSimpArgs false
namespace Go.Proofs.Ytagclnmchkgpdaa
open Go.RowKit
noncomputable def tickS (s : Sta) : Sta := if mayS s = true then s.upto (fun k => tickC (s.tid k)) 3 else s
noncomputable def youngS (s : Sta) : Sta := if mayS s = true then s.upto (fun k => { s.tid k with ag := 0 }) 3 else s
/-- Lists that lie elsewhere than in a block. -/
def AwayB (b n : Nat) (A : Option Addr) : Prop := 0 < n → ∀ ad, A = some ad → ad.block ≠ b
theorem NewAt.awayB {lo n b : Nat} {A : Option Addr} (h : NewAt lo n A) (hb : b < lo) : AwayB b n A := fun hn ad e => by
  have := newAt_blockS h hn e; omega
theorem Reads.awayB {w : World} {B size n b : Nat} {A : Option Addr} {xs : List Value} (h : Reads w B size A n xs) (hb : B ≤ b) : AwayB b n A := fun hn ad e => by
  obtain ⟨ad', e', hb', _⟩ := h.2 hn
  rw [e] at e'; injection e' with e'; subst e'; omega
theorem CoR.keepO {w w' : World} {c : Co} {A D : Option Addr} {b : Nat} (h : CoR w w.heap.size c A D) (f : AwayB b c.ps.length A) (g : AwayB b c.qs.length D) (k : ∀ y, y ≠ b → w'.heap[y]? = w.heap[y]?) (hs : w'.heap.size = w.heap.size) : CoR w' w'.heap.size c A D := by
  rw [hs]
  exact ⟨reads_keepS h.1 (fun hn ad e => k _ (f hn ad e)), reads_keepS h.2.1 (fun hn ad e => k _ (g hn ad e)), h.2.2⟩
theorem st_age {W : World} {b : Nat} {t : TypeId} {s : Sta} {a : Sad} (h : Blk W b t (stX s a)) (k : Nat) (hk : k < 3) (n : Int) : Blk (W.setCell ⟨b, 1 + k * 8 + 7, none⟩ (.int .i64 n)) b t (stX (s.put k { s.tid k with ag := n }) a) := by
  have := h.set_ (1 + k * 8 + 7) (.int .i64 n)
  have e : (stX s a).setIfInBounds (1 + k * 8 + 7) (.int .i64 n) = stX (s.put k { s.tid k with ag := n }) a := by
    unfold stX
    rw [List.setIfInBounds_toArray]
    match k, hk with
    | 0, _ => rfl
    | 1, _ => rfl
    | 2, _ => rfl
  rw [← e]
  exact this
theorem tick_ps (c : Co) : (tickC c).ps = c.ps ∧ (tickC c).qs = c.qs := by unfold tickC; split <;> exact ⟨rfl, rfl⟩
section
attribute [-go_sem] loadCells storeVar
set_option maxRecDepth 100000 in
theorem ret_cT (X : Array Value) (tmps : Array Value) (b : Nat) (W : World) (h2 : tmps[2]?.getD undef = .pointer (some ⟨b, 0, none⟩)) (hK : Blk W b 31 X) (hX : X.size = 31) :
    (results Try.f13 tmps).run Try.prog W = .ok (.agg X) W := by
  have LC := bk_load (P := Try.prog) 31 hK hX
  clear hK
  simp [results, Try.results13, go_sem, h2, LC]
end
section
attribute [-go_sem] loadCells storeVar
set_option maxRecDepth 100000 in
theorem ret_cY (X : Array Value) (tmps : Array Value) (b : Nat) (W : World) (h2 : tmps[2]?.getD undef = .pointer (some ⟨b, 0, none⟩)) (hK : Blk W b 31 X) (hX : X.size = 31) :
    (results Try.f15 tmps).run Try.prog W = .ok (.agg X) W := by
  have LC := bk_load (P := Try.prog) 31 hK hX
  clear hK
  simp [results, Try.results15, go_sem, h2, LC]
end
section
attribute [-go_sem] loadCells storeVar
set_option maxRecDepth 100000 in
theorem ret_rT (X : Array Value) (tmps : Array Value) (b : Nat) (W : World) (h2 : tmps[2]?.getD undef = .pointer (some ⟨b, 0, none⟩)) (hK : Blk W b 31 X) (hX : X.size = 31) :
    (results Try.f14 tmps).run Try.prog W = .ok (.agg X) W := by
  have LC := bk_load (P := Try.prog) 31 hK hX
  clear hK
  simp [results, Try.results14, go_sem, h2, LC]
end
section
attribute [-go_sem] loadCells storeVar
set_option maxRecDepth 100000 in
theorem ret_rY (X : Array Value) (tmps : Array Value) (b : Nat) (W : World) (h2 : tmps[2]?.getD undef = .pointer (some ⟨b, 0, none⟩)) (hK : Blk W b 31 X) (hX : X.size = 31) :
    (results Try.f16 tmps).run Try.prog W = .ok (.agg X) W := by
  have LC := bk_load (P := Try.prog) 31 hK hX
  clear hK
  simp [results, Try.results16, go_sem, h2, LC]
end
section
attribute [-go_sem] loadCells storeVar
set_option maxRecDepth 100000 in
set_option maxHeartbeats 8000000 in
theorem cT_no (s : Sta) (a : Sad) (w : World) (h : StR w w.heap.size s a) (hm : mayS s = false) :
    Calls Try.prog 13 #[.agg (stX s a)] w (StPost s w) := by
  obtain ⟨W0, hW0⟩ : ∃ W0, W0 = (w.alloc (.cells (stX s a) 31)).alloc (.cells #[.int .i64 0, .int .i8 0, .int .i64 0, .int .i64 0, .int .i64 0, .int .i64 0, .slice none 0 0, .slice none 0 0, .int .i64 0, .int .i8 0, .int .i64 0, .int .i64 0, .int .i64 0, .int .i64 0, .slice none 0 0, .slice none 0 0, .int .i64 0, .int .i8 0, .int .i64 0, .int .i64 0, .int .i64 0, .int .i64 0, .slice none 0 0, .slice none 0 0, .int .i64 0, .int .i64 0, .int .i64 0, .int .i64 0, .int .i64 0, .int .i64 0, .int .i64 0] 31) := ⟨_, rfl⟩
  have s0 : W0.heap.size = w.heap.size + 1 + 1 := by rw [hW0]; simp
  have B0 : Below w.heap.size w W0 := by rw [hW0]; exact bal (bal (Below.refl _ _) _) _
  have K1 : Blk W0 w.heap.size 31 (stX s a) := by rw [hW0]; exact (Blk.new w 31 (stX s a)).alloc _
  have K2 : Blk W0 (w.heap.size + 1) 31 #[.int .i64 0, .int .i8 0, .int .i64 0, .int .i64 0, .int .i64 0, .int .i64 0, .slice none 0 0, .slice none 0 0, .int .i64 0, .int .i8 0, .int .i64 0, .int .i64 0, .int .i64 0, .int .i64 0, .slice none 0 0, .slice none 0 0, .int .i64 0, .int .i8 0, .int .i64 0, .int .i64 0, .int .i64 0, .int .i64 0, .slice none 0 0, .slice none 0 0, .int .i64 0, .int .i64 0, .int .i64 0, .int .i64 0, .int .i64 0, .int .i64 0, .int .i64 0] := by rw [hW0]; exact bk_new _ 31 #[.int .i64 0, .int .i8 0, .int .i64 0, .int .i64 0, .int .i64 0, .int .i64 0, .slice none 0 0, .slice none 0 0, .int .i64 0, .int .i8 0, .int .i64 0, .int .i64 0, .int .i64 0, .int .i64 0, .slice none 0 0, .slice none 0 0, .int .i64 0, .int .i8 0, .int .i64 0, .int .i64 0, .int .i64 0, .int .i64 0, .slice none 0 0, .slice none 0 0, .int .i64 0, .int .i64 0, .int .i64 0, .int .i64 0, .int .i64 0, .int .i64 0, .int .i64 0] (by simp)
  have HW := Lib.hid hW0
  have HS := Lib.hid s0
  have HB := Lib.hid B0
  have HK := Lib.hid K1
  have HK2 := Lib.hid K2
  have H := Lib.hid h
  have L31 := st_load K1
  have MY := Lib.hid (mMay_any s a w.heap.size W0 (h.below B0) B0.size)
  rw [hm] at MY
  clear hW0 s0 B0 K1 K2 h hm
  go_enter Try.func13, Try.ntmps13
  go_upto_region 1 with (fail)
  rw [← HW.out]
  go_wp2_with fail
  refine MY.out.mono ?_
  rintro e w1 ⟨rfl, b1⟩
  have k1 := HK.out.below b1 HK.out.lt
  have L2 := st_load k1
  obtain ⟨W9, st9, kk, fb, fh, fs⟩ := bk_store (P := Try.prog) (ty := 31) (cs := stX s a) 31 (HK2.out.below b1 HK2.out.lt) infoSta rfl rfl (stX_one s a)
  have BB := Lib.hid (fb w.heap.size w (by omega) (HB.out.trans (b1.mono HB.out.size)))
  have KK := Lib.hid kk
  clear L31 k1 kk fb fh fs b1
  go_wp2_with fail
  refine bodyPost_ret (v := .agg (stX s a)) (ret_cT (stX s a) _ (w.heap.size + 1) _ rfl KK.out rfl) rfl ?_
  exact ⟨a, rfl, H.out.up BB.out, BB.out⟩
end
section
attribute [-go_sem] loadCells storeVar
set_option maxRecDepth 100000 in
set_option maxHeartbeats 8000000 in
theorem cY_no (s : Sta) (a : Sad) (w : World) (h : StR w w.heap.size s a) (hm : mayS s = false) :
    Calls Try.prog 15 #[.agg (stX s a)] w (StPost s w) := by
  obtain ⟨W0, hW0⟩ : ∃ W0, W0 = (w.alloc (.cells (stX s a) 31)).alloc (.cells #[.int .i64 0, .int .i8 0, .int .i64 0, .int .i64 0, .int .i64 0, .int .i64 0, .slice none 0 0, .slice none 0 0, .int .i64 0, .int .i8 0, .int .i64 0, .int .i64 0, .int .i64 0, .int .i64 0, .slice none 0 0, .slice none 0 0, .int .i64 0, .int .i8 0, .int .i64 0, .int .i64 0, .int .i64 0, .int .i64 0, .slice none 0 0, .slice none 0 0, .int .i64 0, .int .i64 0, .int .i64 0, .int .i64 0, .int .i64 0, .int .i64 0, .int .i64 0] 31) := ⟨_, rfl⟩
  have s0 : W0.heap.size = w.heap.size + 1 + 1 := by rw [hW0]; simp
  have B0 : Below w.heap.size w W0 := by rw [hW0]; exact bal (bal (Below.refl _ _) _) _
  have K1 : Blk W0 w.heap.size 31 (stX s a) := by rw [hW0]; exact (Blk.new w 31 (stX s a)).alloc _
  have K2 : Blk W0 (w.heap.size + 1) 31 #[.int .i64 0, .int .i8 0, .int .i64 0, .int .i64 0, .int .i64 0, .int .i64 0, .slice none 0 0, .slice none 0 0, .int .i64 0, .int .i8 0, .int .i64 0, .int .i64 0, .int .i64 0, .int .i64 0, .slice none 0 0, .slice none 0 0, .int .i64 0, .int .i8 0, .int .i64 0, .int .i64 0, .int .i64 0, .int .i64 0, .slice none 0 0, .slice none 0 0, .int .i64 0, .int .i64 0, .int .i64 0, .int .i64 0, .int .i64 0, .int .i64 0, .int .i64 0] := by rw [hW0]; exact bk_new _ 31 #[.int .i64 0, .int .i8 0, .int .i64 0, .int .i64 0, .int .i64 0, .int .i64 0, .slice none 0 0, .slice none 0 0, .int .i64 0, .int .i8 0, .int .i64 0, .int .i64 0, .int .i64 0, .int .i64 0, .slice none 0 0, .slice none 0 0, .int .i64 0, .int .i8 0, .int .i64 0, .int .i64 0, .int .i64 0, .int .i64 0, .slice none 0 0, .slice none 0 0, .int .i64 0, .int .i64 0, .int .i64 0, .int .i64 0, .int .i64 0, .int .i64 0, .int .i64 0] (by simp)
  have HW := Lib.hid hW0
  have HS := Lib.hid s0
  have HB := Lib.hid B0
  have HK := Lib.hid K1
  have HK2 := Lib.hid K2
  have H := Lib.hid h
  have L31 := st_load K1
  have MY := Lib.hid (mMay_any s a w.heap.size W0 (h.below B0) B0.size)
  rw [hm] at MY
  clear hW0 s0 B0 K1 K2 h hm
  go_enter Try.func15, Try.ntmps15
  go_upto_region 1 with (fail)
  rw [← HW.out]
  go_wp2_with fail
  refine MY.out.mono ?_
  rintro e w1 ⟨rfl, b1⟩
  have k1 := HK.out.below b1 HK.out.lt
  have L2 := st_load k1
  obtain ⟨W9, st9, kk, fb, fh, fs⟩ := bk_store (P := Try.prog) (ty := 31) (cs := stX s a) 31 (HK2.out.below b1 HK2.out.lt) infoSta rfl rfl (stX_one s a)
  have BB := Lib.hid (fb w.heap.size w (by omega) (HB.out.trans (b1.mono HB.out.size)))
  have KK := Lib.hid kk
  clear L31 k1 kk fb fh fs b1
  go_wp2_with fail
  refine bodyPost_ret (v := .agg (stX s a)) (ret_cY (stX s a) _ (w.heap.size + 1) _ rfl KK.out rfl) rfl ?_
  exact ⟨a, rfl, H.out.up BB.out, BB.out⟩
end
section
attribute [-go_sem] loadCells storeVar
set_option maxRecDepth 100000 in
set_option maxHeartbeats 8000000 in
theorem rT_no (s : Sta) (a : Sad) (w : World) (h : StR w w.heap.size s a) (hb : StB s) (hm : mayS s = false) :
    Calls Try.prog 14 #[.agg (stX s a)] w (StPost s w) := by
  obtain ⟨W0, hW0⟩ : ∃ W0, W0 = (w.alloc (.cells (stX s a) 31)).alloc (.cells #[.int .i64 0, .int .i8 0, .int .i64 0, .int .i64 0, .int .i64 0, .int .i64 0, .slice none 0 0, .slice none 0 0, .int .i64 0, .int .i8 0, .int .i64 0, .int .i64 0, .int .i64 0, .int .i64 0, .slice none 0 0, .slice none 0 0, .int .i64 0, .int .i8 0, .int .i64 0, .int .i64 0, .int .i64 0, .int .i64 0, .slice none 0 0, .slice none 0 0, .int .i64 0, .int .i64 0, .int .i64 0, .int .i64 0, .int .i64 0, .int .i64 0, .int .i64 0] 31) := ⟨_, rfl⟩
  have s0 : W0.heap.size = w.heap.size + 1 + 1 := by rw [hW0]; simp
  have B0 : Below w.heap.size w W0 := by rw [hW0]; exact bal (bal (Below.refl _ _) _) _
  have K1 : Blk W0 w.heap.size 31 (stX s a) := by rw [hW0]; exact (Blk.new w 31 (stX s a)).alloc _
  have K2 : Blk W0 (w.heap.size + 1) 31 #[.int .i64 0, .int .i8 0, .int .i64 0, .int .i64 0, .int .i64 0, .int .i64 0, .slice none 0 0, .slice none 0 0, .int .i64 0, .int .i8 0, .int .i64 0, .int .i64 0, .int .i64 0, .int .i64 0, .slice none 0 0, .slice none 0 0, .int .i64 0, .int .i8 0, .int .i64 0, .int .i64 0, .int .i64 0, .int .i64 0, .slice none 0 0, .slice none 0 0, .int .i64 0, .int .i64 0, .int .i64 0, .int .i64 0, .int .i64 0, .int .i64 0, .int .i64 0] := by rw [hW0]; exact bk_new _ 31 #[.int .i64 0, .int .i8 0, .int .i64 0, .int .i64 0, .int .i64 0, .int .i64 0, .slice none 0 0, .slice none 0 0, .int .i64 0, .int .i8 0, .int .i64 0, .int .i64 0, .int .i64 0, .int .i64 0, .slice none 0 0, .slice none 0 0, .int .i64 0, .int .i8 0, .int .i64 0, .int .i64 0, .int .i64 0, .int .i64 0, .slice none 0 0, .slice none 0 0, .int .i64 0, .int .i64 0, .int .i64 0, .int .i64 0, .int .i64 0, .int .i64 0, .int .i64 0] (by simp)
  have HW := Lib.hid hW0
  have HS := Lib.hid s0
  have HB := Lib.hid B0
  have HK := Lib.hid K1
  have HK2 := Lib.hid K2
  have H := Lib.hid h
  have L31 := st_load K1
  have MY := Lib.hid (rMayS_any s a w.heap.size W0 (h.below B0) B0.size hb)
  rw [hm] at MY
  clear hW0 s0 B0 K1 K2 h hm
  go_enter Try.func14, Try.ntmps14
  go_upto_region 1 with (fail)
  rw [← HW.out]
  go_wp2_with fail
  refine MY.out.mono ?_
  rintro e w1 ⟨rfl, b1⟩
  have k1 := HK.out.below b1 HK.out.lt
  have L2 := st_load k1
  obtain ⟨W9, st9, kk, fb, fh, fs⟩ := bk_store (P := Try.prog) (ty := 31) (cs := stX s a) 31 (HK2.out.below b1 HK2.out.lt) infoSta rfl rfl (stX_one s a)
  have BB := Lib.hid (fb w.heap.size w (by omega) (HB.out.trans (b1.mono HB.out.size)))
  have KK := Lib.hid kk
  clear L31 k1 kk fb fh fs b1
  go_wp2_with fail
  refine bodyPost_ret (v := .agg (stX s a)) (ret_rT (stX s a) _ (w.heap.size + 1) _ rfl KK.out rfl) rfl ?_
  exact ⟨a, rfl, H.out.up BB.out, BB.out⟩
end
section
attribute [-go_sem] loadCells storeVar
set_option maxRecDepth 100000 in
set_option maxHeartbeats 8000000 in
theorem rY_no (s : Sta) (a : Sad) (w : World) (h : StR w w.heap.size s a) (hb : StB s) (hm : mayS s = false) :
    Calls Try.prog 16 #[.agg (stX s a)] w (StPost s w) := by
  obtain ⟨W0, hW0⟩ : ∃ W0, W0 = (w.alloc (.cells (stX s a) 31)).alloc (.cells #[.int .i64 0, .int .i8 0, .int .i64 0, .int .i64 0, .int .i64 0, .int .i64 0, .slice none 0 0, .slice none 0 0, .int .i64 0, .int .i8 0, .int .i64 0, .int .i64 0, .int .i64 0, .int .i64 0, .slice none 0 0, .slice none 0 0, .int .i64 0, .int .i8 0, .int .i64 0, .int .i64 0, .int .i64 0, .int .i64 0, .slice none 0 0, .slice none 0 0, .int .i64 0, .int .i64 0, .int .i64 0, .int .i64 0, .int .i64 0, .int .i64 0, .int .i64 0] 31) := ⟨_, rfl⟩
  have s0 : W0.heap.size = w.heap.size + 1 + 1 := by rw [hW0]; simp
  have B0 : Below w.heap.size w W0 := by rw [hW0]; exact bal (bal (Below.refl _ _) _) _
  have K1 : Blk W0 w.heap.size 31 (stX s a) := by rw [hW0]; exact (Blk.new w 31 (stX s a)).alloc _
  have K2 : Blk W0 (w.heap.size + 1) 31 #[.int .i64 0, .int .i8 0, .int .i64 0, .int .i64 0, .int .i64 0, .int .i64 0, .slice none 0 0, .slice none 0 0, .int .i64 0, .int .i8 0, .int .i64 0, .int .i64 0, .int .i64 0, .int .i64 0, .slice none 0 0, .slice none 0 0, .int .i64 0, .int .i8 0, .int .i64 0, .int .i64 0, .int .i64 0, .int .i64 0, .slice none 0 0, .slice none 0 0, .int .i64 0, .int .i64 0, .int .i64 0, .int .i64 0, .int .i64 0, .int .i64 0, .int .i64 0] := by rw [hW0]; exact bk_new _ 31 #[.int .i64 0, .int .i8 0, .int .i64 0, .int .i64 0, .int .i64 0, .int .i64 0, .slice none 0 0, .slice none 0 0, .int .i64 0, .int .i8 0, .int .i64 0, .int .i64 0, .int .i64 0, .int .i64 0, .slice none 0 0, .slice none 0 0, .int .i64 0, .int .i8 0, .int .i64 0, .int .i64 0, .int .i64 0, .int .i64 0, .slice none 0 0, .slice none 0 0, .int .i64 0, .int .i64 0, .int .i64 0, .int .i64 0, .int .i64 0, .int .i64 0, .int .i64 0] (by simp)
  have HW := Lib.hid hW0
  have HS := Lib.hid s0
  have HB := Lib.hid B0
  have HK := Lib.hid K1
  have HK2 := Lib.hid K2
  have H := Lib.hid h
  have L31 := st_load K1
  have MY := Lib.hid (rMayS_any s a w.heap.size W0 (h.below B0) B0.size hb)
  rw [hm] at MY
  clear hW0 s0 B0 K1 K2 h hm
  go_enter Try.func16, Try.ntmps16
  go_upto_region 1 with (fail)
  rw [← HW.out]
  go_wp2_with fail
  refine MY.out.mono ?_
  rintro e w1 ⟨rfl, b1⟩
  have k1 := HK.out.below b1 HK.out.lt
  have L2 := st_load k1
  obtain ⟨W9, st9, kk, fb, fh, fs⟩ := bk_store (P := Try.prog) (ty := 31) (cs := stX s a) 31 (HK2.out.below b1 HK2.out.lt) infoSta rfl rfl (stX_one s a)
  have BB := Lib.hid (fb w.heap.size w (by omega) (HB.out.trans (b1.mono HB.out.size)))
  have KK := Lib.hid kk
  clear L31 k1 kk fb fh fs b1
  go_wp2_with fail
  refine bodyPost_ret (v := .agg (stX s a)) (ret_rY (stX s a) _ (w.heap.size + 1) _ rfl KK.out rfl) rfl ?_
  exact ⟨a, rfl, H.out.up BB.out, BB.out⟩
end
section
attribute [-go_sem] loadCells storeVar Instr.build
set_option maxRecDepth 100000 in
set_option maxHeartbeats 8000000 in
theorem cT_yes (s : Sta) (a : Sad) (w : World) (h : StR w w.heap.size s a) (hm : mayS s = true) :
    Calls Try.prog 13 #[.agg (stX s a)] w (StNew (s.upto (fun k => tickC (s.tid k)) 3) w) := by
  obtain ⟨W0, hW0⟩ : ∃ W0, W0 = (w.alloc (.cells (stX s a) 31)).alloc (.cells #[.int .i64 0, .int .i8 0, .int .i64 0, .int .i64 0, .int .i64 0, .int .i64 0, .slice none 0 0, .slice none 0 0, .int .i64 0, .int .i8 0, .int .i64 0, .int .i64 0, .int .i64 0, .int .i64 0, .slice none 0 0, .slice none 0 0, .int .i64 0, .int .i8 0, .int .i64 0, .int .i64 0, .int .i64 0, .int .i64 0, .slice none 0 0, .slice none 0 0, .int .i64 0, .int .i64 0, .int .i64 0, .int .i64 0, .int .i64 0, .int .i64 0, .int .i64 0] 31) := ⟨_, rfl⟩
  have s0 : W0.heap.size = w.heap.size + 1 + 1 := by rw [hW0]; simp
  have B0 : Below w.heap.size w W0 := by rw [hW0]; exact bal (bal (Below.refl _ _) _) _
  have K1 : Blk W0 w.heap.size 31 (stX s a) := by rw [hW0]; exact (Blk.new w 31 (stX s a)).alloc _
  have K2 : Blk W0 (w.heap.size + 1) 31 #[.int .i64 0, .int .i8 0, .int .i64 0, .int .i64 0, .int .i64 0, .int .i64 0, .slice none 0 0, .slice none 0 0, .int .i64 0, .int .i8 0, .int .i64 0, .int .i64 0, .int .i64 0, .int .i64 0, .slice none 0 0, .slice none 0 0, .int .i64 0, .int .i8 0, .int .i64 0, .int .i64 0, .int .i64 0, .int .i64 0, .slice none 0 0, .slice none 0 0, .int .i64 0, .int .i64 0, .int .i64 0, .int .i64 0, .int .i64 0, .int .i64 0, .int .i64 0] := by rw [hW0]; exact bk_new _ 31 #[.int .i64 0, .int .i8 0, .int .i64 0, .int .i64 0, .int .i64 0, .int .i64 0, .slice none 0 0, .slice none 0 0, .int .i64 0, .int .i8 0, .int .i64 0, .int .i64 0, .int .i64 0, .int .i64 0, .slice none 0 0, .slice none 0 0, .int .i64 0, .int .i8 0, .int .i64 0, .int .i64 0, .int .i64 0, .int .i64 0, .slice none 0 0, .slice none 0 0, .int .i64 0, .int .i64 0, .int .i64 0, .int .i64 0, .int .i64 0, .int .i64 0, .int .i64 0] (by simp)
  have HW := Lib.hid hW0
  have HS := Lib.hid s0
  have HB := Lib.hid B0
  have HK := Lib.hid K1
  have HK2 := Lib.hid K2
  have H := Lib.hid h
  have L31 := st_load K1
  have MY := Lib.hid (mMay_any s a w.heap.size W0 (h.below B0) B0.size)
  rw [hm] at MY
  have bd : ∀ W, (Instr.build 49 #[(0, .agg (stX s a))]).run Try.prog W = .ok (.agg (stX s a)) W := fun W => run_build W 49 _ _ (by kernel_rfl)
  clear hW0 s0 B0 K1 K2 h hm
  go_enter Try.func13, Try.ntmps13
  go_upto_region 1 with (fail)
  rw [← HW.out]
  go_wp2_with fail
  refine MY.out.mono ?_
  rintro e w1 ⟨rfl, b1⟩
  have k1 := HK.out.below b1 HK.out.lt
  have L2 := st_load k1
  have BW := Lib.hid (HB.out.trans (b1.mono HB.out.size))
  have HK3 := Lib.hid (HK2.out.below b1 HK2.out.lt)
  have EA := Lib.hid (each_tick s a (fun k => tickC (s.tid k)) w1 (H.out.up BW.out) (fun k hk W hW => htick_any s a k hk W ((H.out.up BW.out).up hW)))
  clear L31 k1 b1
  go_wp2_with fail
  refine EA.out.mono ?_
  rintro e w2 ⟨c, rfl, r2, b2, nw⟩
  obtain ⟨X, hX⟩ : ∃ X, X = stX (s.upto (fun k => tickC (s.tid k)) 3) c := ⟨_, rfl⟩
  rw [← hX]
  have hXs : X.size = 31 := by rw [hX]; rfl
  have hX1 : X.all (·.oneCell') = true := by rw [hX]; exact stX_one _ _
  obtain ⟨W9, st9, kk, fb, fh, fs⟩ := bk_store (P := Try.prog) (ty := 31) (cs := X) 31 (HK3.out.below b2 HK3.out.lt) infoSta rfl hXs hX1
  have BB := Lib.hid (fb w.heap.size w (by omega) (BW.out.trans (b2.mono BW.out.size)))
  have KK := Lib.hid kk
  have hlt := HK3.out.lt
  have hsz := BW.out.size
  have RR := Lib.hid (show ∀ k, k < 3 → CoR W9 W9.heap.size ((s.upto (fun k => tickC (s.tid k)) 3).tid k) (c.A k) (c.D k) ∧ NewAt w.heap.size ((s.upto (fun k => tickC (s.tid k)) 3).tid k).ps.length (c.A k) ∧ NewAt w.heap.size ((s.upto (fun k => tickC (s.tid k)) 3).tid k).qs.length (c.D k) from fun k hk => ⟨(r2 k hk).keepN (nw k hk).1 (nw k hk).2 (by omega) fh fs, (nw k hk).1.mono hsz, (nw k hk).2.mono hsz⟩)
  have HX := Lib.hid hX
  have HXS := Lib.hid hXs
  clear kk fb fh fs hX hXs hX1 r2 b2 nw hlt hsz L2
  go_wp2_with fail
  refine bodyPost_ret (v := .agg X) (ret_cT X _ (w.heap.size + 1) _ rfl KK.out HXS.out) rfl ?_
  exact ⟨c, by rw [HX.out], fun k hk => (RR.out k hk).1, BB.out, fun k hk => (RR.out k hk).2⟩
end
section
attribute [-go_sem] loadCells storeVar Instr.build
set_option maxRecDepth 100000 in
set_option maxHeartbeats 8000000 in
theorem cY_yes (s : Sta) (a : Sad) (w : World) (h : StR w w.heap.size s a) (hm : mayS s = true) :
    Calls Try.prog 15 #[.agg (stX s a)] w (StNew (s.upto (fun k => { s.tid k with ag := 0 }) 3) w) := by
  obtain ⟨W0, hW0⟩ : ∃ W0, W0 = (w.alloc (.cells (stX s a) 31)).alloc (.cells #[.int .i64 0, .int .i8 0, .int .i64 0, .int .i64 0, .int .i64 0, .int .i64 0, .slice none 0 0, .slice none 0 0, .int .i64 0, .int .i8 0, .int .i64 0, .int .i64 0, .int .i64 0, .int .i64 0, .slice none 0 0, .slice none 0 0, .int .i64 0, .int .i8 0, .int .i64 0, .int .i64 0, .int .i64 0, .int .i64 0, .slice none 0 0, .slice none 0 0, .int .i64 0, .int .i64 0, .int .i64 0, .int .i64 0, .int .i64 0, .int .i64 0, .int .i64 0] 31) := ⟨_, rfl⟩
  have s0 : W0.heap.size = w.heap.size + 1 + 1 := by rw [hW0]; simp
  have B0 : Below w.heap.size w W0 := by rw [hW0]; exact bal (bal (Below.refl _ _) _) _
  have K1 : Blk W0 w.heap.size 31 (stX s a) := by rw [hW0]; exact (Blk.new w 31 (stX s a)).alloc _
  have K2 : Blk W0 (w.heap.size + 1) 31 #[.int .i64 0, .int .i8 0, .int .i64 0, .int .i64 0, .int .i64 0, .int .i64 0, .slice none 0 0, .slice none 0 0, .int .i64 0, .int .i8 0, .int .i64 0, .int .i64 0, .int .i64 0, .int .i64 0, .slice none 0 0, .slice none 0 0, .int .i64 0, .int .i8 0, .int .i64 0, .int .i64 0, .int .i64 0, .int .i64 0, .slice none 0 0, .slice none 0 0, .int .i64 0, .int .i64 0, .int .i64 0, .int .i64 0, .int .i64 0, .int .i64 0, .int .i64 0] := by rw [hW0]; exact bk_new _ 31 #[.int .i64 0, .int .i8 0, .int .i64 0, .int .i64 0, .int .i64 0, .int .i64 0, .slice none 0 0, .slice none 0 0, .int .i64 0, .int .i8 0, .int .i64 0, .int .i64 0, .int .i64 0, .int .i64 0, .slice none 0 0, .slice none 0 0, .int .i64 0, .int .i8 0, .int .i64 0, .int .i64 0, .int .i64 0, .int .i64 0, .slice none 0 0, .slice none 0 0, .int .i64 0, .int .i64 0, .int .i64 0, .int .i64 0, .int .i64 0, .int .i64 0, .int .i64 0] (by simp)
  have HW := Lib.hid hW0
  have HS := Lib.hid s0
  have HB := Lib.hid B0
  have HK := Lib.hid K1
  have HK2 := Lib.hid K2
  have H := Lib.hid h
  have L31 := st_load K1
  have MY := Lib.hid (mMay_any s a w.heap.size W0 (h.below B0) B0.size)
  rw [hm] at MY
  have bd : ∀ W, (Instr.build 49 #[(0, .agg (stX s a))]).run Try.prog W = .ok (.agg (stX s a)) W := fun W => run_build W 49 _ _ (by kernel_rfl)
  clear hW0 s0 B0 K1 K2 h hm
  go_enter Try.func15, Try.ntmps15
  go_upto_region 1 with (fail)
  rw [← HW.out]
  go_wp2_with fail
  refine MY.out.mono ?_
  rintro e w1 ⟨rfl, b1⟩
  have k1 := HK.out.below b1 HK.out.lt
  have L2 := st_load k1
  have BW := Lib.hid (HB.out.trans (b1.mono HB.out.size))
  have HK3 := Lib.hid (HK2.out.below b1 HK2.out.lt)
  have EA := Lib.hid (each_young s a (fun k => { s.tid k with ag := 0 }) w1 (H.out.up BW.out) (fun k hk W hW => hyoung_any s a k hk W ((H.out.up BW.out).up hW)))
  clear L31 k1 b1
  go_wp2_with fail
  refine EA.out.mono ?_
  rintro e w2 ⟨c, rfl, r2, b2, nw⟩
  obtain ⟨X, hX⟩ : ∃ X, X = stX (s.upto (fun k => { s.tid k with ag := 0 }) 3) c := ⟨_, rfl⟩
  rw [← hX]
  have hXs : X.size = 31 := by rw [hX]; rfl
  have hX1 : X.all (·.oneCell') = true := by rw [hX]; exact stX_one _ _
  obtain ⟨W9, st9, kk, fb, fh, fs⟩ := bk_store (P := Try.prog) (ty := 31) (cs := X) 31 (HK3.out.below b2 HK3.out.lt) infoSta rfl hXs hX1
  have BB := Lib.hid (fb w.heap.size w (by omega) (BW.out.trans (b2.mono BW.out.size)))
  have KK := Lib.hid kk
  have hlt := HK3.out.lt
  have hsz := BW.out.size
  have RR := Lib.hid (show ∀ k, k < 3 → CoR W9 W9.heap.size ((s.upto (fun k => { s.tid k with ag := 0 }) 3).tid k) (c.A k) (c.D k) ∧ NewAt w.heap.size ((s.upto (fun k => { s.tid k with ag := 0 }) 3).tid k).ps.length (c.A k) ∧ NewAt w.heap.size ((s.upto (fun k => { s.tid k with ag := 0 }) 3).tid k).qs.length (c.D k) from fun k hk => ⟨(r2 k hk).keepN (nw k hk).1 (nw k hk).2 (by omega) fh fs, (nw k hk).1.mono hsz, (nw k hk).2.mono hsz⟩)
  have HX := Lib.hid hX
  have HXS := Lib.hid hXs
  clear kk fb fh fs hX hXs hX1 r2 b2 nw hlt hsz L2
  go_wp2_with fail
  refine bodyPost_ret (v := .agg X) (ret_cY X _ (w.heap.size + 1) _ rfl KK.out HXS.out) rfl ?_
  exact ⟨c, by rw [HX.out], fun k hk => (RR.out k hk).1, BB.out, fun k hk => (RR.out k hk).2⟩
end
theorem StNew.post {t : Sta} {w w' : World} {e : Ending} (h : StNew t w e w') : StPost t w e w' := by
  obtain ⟨a, h1, h2, h3, _⟩ := h
  exact ⟨a, h1, h2, h3⟩
theorem cTick_any (s : Sta) (a : Sad) (w : World) (h : StR w w.heap.size s a) : Calls Try.prog 13 #[.agg (stX s a)] w (StPost (tickS s) w) := by
  unfold tickS
  cases hm : mayS s
  · rw [if_neg (by decide)]; exact cT_no s a w h hm
  · rw [if_pos rfl]; exact (cT_yes s a w h hm).mono fun _ _ h => h.post
theorem cYoung_any (s : Sta) (a : Sad) (w : World) (h : StR w w.heap.size s a) : Calls Try.prog 15 #[.agg (stX s a)] w (StPost (youngS s) w) := by
  unfold youngS
  cases hm : mayS s
  · rw [if_neg (by decide)]; exact cY_no s a w h hm
  · rw [if_pos rfl]; exact (cY_yes s a w h hm).mono fun _ _ h => h.post
section
attribute [-go_sem] loadCells storeVar
set_option maxRecDepth 100000 in
set_option maxHeartbeats 8000000 in
theorem rY_yes (s : Sta) (a : Sad) (w : World) (h : StR w w.heap.size s a) (hb : StB s) (hm : mayS s = true) :
    Calls Try.prog 16 #[.agg (stX s a)] w (StPost (s.upto (fun k => { s.tid k with ag := 0 }) 3) w) := by
  obtain ⟨W0, hW0⟩ : ∃ W0, W0 = (w.alloc (.cells (stX s a) 31)).alloc (.cells #[.int .i64 0, .int .i8 0, .int .i64 0, .int .i64 0, .int .i64 0, .int .i64 0, .slice none 0 0, .slice none 0 0, .int .i64 0, .int .i8 0, .int .i64 0, .int .i64 0, .int .i64 0, .int .i64 0, .slice none 0 0, .slice none 0 0, .int .i64 0, .int .i8 0, .int .i64 0, .int .i64 0, .int .i64 0, .int .i64 0, .slice none 0 0, .slice none 0 0, .int .i64 0, .int .i64 0, .int .i64 0, .int .i64 0, .int .i64 0, .int .i64 0, .int .i64 0] 31) := ⟨_, rfl⟩
  have s0 : W0.heap.size = w.heap.size + 1 + 1 := by rw [hW0]; simp
  have B0 : Below w.heap.size w W0 := by rw [hW0]; exact bal (bal (Below.refl _ _) _) _
  have K1 : Blk W0 w.heap.size 31 (stX s a) := by rw [hW0]; exact (Blk.new w 31 (stX s a)).alloc _
  have K2 : Blk W0 (w.heap.size + 1) 31 #[.int .i64 0, .int .i8 0, .int .i64 0, .int .i64 0, .int .i64 0, .int .i64 0, .slice none 0 0, .slice none 0 0, .int .i64 0, .int .i8 0, .int .i64 0, .int .i64 0, .int .i64 0, .int .i64 0, .slice none 0 0, .slice none 0 0, .int .i64 0, .int .i8 0, .int .i64 0, .int .i64 0, .int .i64 0, .int .i64 0, .slice none 0 0, .slice none 0 0, .int .i64 0, .int .i64 0, .int .i64 0, .int .i64 0, .int .i64 0, .int .i64 0, .int .i64 0] := by rw [hW0]; exact bk_new _ 31 #[.int .i64 0, .int .i8 0, .int .i64 0, .int .i64 0, .int .i64 0, .int .i64 0, .slice none 0 0, .slice none 0 0, .int .i64 0, .int .i8 0, .int .i64 0, .int .i64 0, .int .i64 0, .int .i64 0, .slice none 0 0, .slice none 0 0, .int .i64 0, .int .i8 0, .int .i64 0, .int .i64 0, .int .i64 0, .int .i64 0, .slice none 0 0, .slice none 0 0, .int .i64 0, .int .i64 0, .int .i64 0, .int .i64 0, .int .i64 0, .int .i64 0, .int .i64 0] (by simp)
  have HW := Lib.hid hW0
  have HS := Lib.hid s0
  have HB := Lib.hid B0
  have HK := Lib.hid K1
  have HK2 := Lib.hid K2
  have H := Lib.hid h
  have L31 := st_load K1
  have MY := Lib.hid (rMayS_any s a w.heap.size W0 (h.below B0) B0.size hb)
  rw [hm] at MY
  obtain ⟨fs, hfs⟩ : ∃ fs : Nat → Co, fs = fun k => { s.tid k with ag := 0 } := ⟨_, rfl⟩
  have HF := Lib.hid hfs
  clear hW0 s0 B0 K1 K2 h hm hfs
  go_enter Try.func16, Try.ntmps16
  go_upto_region 1 with (fail)
  rw [← HW.out]
  go_wp2_with fail
  refine MY.out.mono ?_
  rintro e w1 ⟨rfl, b1⟩
  have HK1 := Lib.hid (HK.out.below b1 HK.out.lt)
  have HK3 := Lib.hid (HK2.out.below b1 HK2.out.lt)
  have BW := Lib.hid (HB.out.trans (b1.mono HB.out.size))
  clear L31 b1
  go_wp2_with fail
  go_loopg [3] 3 (fun mm y wq => ∃ (k : Nat), k ≤ 3 ∧ y = .int .i64 k ∧ mm = 3 - k ∧ Blk wq w.heap.size 31 (stX (s.upto fs k) a) ∧ Blk wq (w.heap.size + 1) 31 #[.int .i64 0, .int .i8 0, .int .i64 0, .int .i64 0, .int .i64 0, .int .i64 0, .slice none 0 0, .slice none 0 0, .int .i64 0, .int .i8 0, .int .i64 0, .int .i64 0, .int .i64 0, .int .i64 0, .slice none 0 0, .slice none 0 0, .int .i64 0, .int .i8 0, .int .i64 0, .int .i64 0, .int .i64 0, .int .i64 0, .slice none 0 0, .slice none 0 0, .int .i64 0, .int .i64 0, .int .i64 0, .int .i64 0, .int .i64 0, .int .i64 0, .int .i64 0] ∧ Below w.heap.size w wq)
  case atStart => exact ⟨0, by omega, rfl, rfl, by rw [upto_zero]; exact HK1.out, HK3.out, BW.out⟩
  case round =>
    obtain ⟨k, hk, rfl, hmm, hk1, hk2, hbw⟩ := hrel
    have HMM := Lib.hid hmm
    have KW := Lib.hid hk1
    have KV := Lib.hid hk2
    have BW' := Lib.hid hbw
    clear hmm hk1 hk2 hbw
    by_cases hlt : k < 3
    · have d3 : decide ((k : Int) < 3) = true := decide_eq_true (by omega)
      have i1 : (0 : Int) ≤ (k : Int) := by omega
      have i2 : (k : Int) < 3 := by omega
      have y7 := st_cell KW.out k hlt (j := 7) rfl
      have st7 := store_intS 0 y7 (KW.out.frozen _)
      have K9 := Lib.hid (show Blk (wr.setCell ⟨w.heap.size, 1 + k * 8 + 7, none⟩ (.int .i64 0)) w.heap.size 31 (stX (s.upto fs (k + 1)) a) from by
        have := st_age KW.out k hlt 0
        rw [← upto_put s fs k a]
        have e : fs k = { (s.upto fs k).tid k with ag := 0 } := by
          rw [show (s.upto fs k).tid k = s.tid k from if_neg (by omega), HF.out]
        rw [e]
        exact this)
      have KV9 := Lib.hid (KV.out.far (p := ⟨w.heap.size, 1 + k * 8 + 7, none⟩) (by simp) (.int .i64 0))
      have B9 := Lib.hid (BW'.out.setCell (p := ⟨w.heap.size, 1 + k * 8 + 7, none⟩) (Nat.le_refl _) (.int .i64 0))
      clear y7
      go_wp2_with fail
      go_roundg (gk - 1)
      case measure => have := HMM.out; omega
      case rel => exact ⟨k + 1, by omega, by go_num, by have := HMM.out; omega, K9.out, KV9.out, B9.out⟩
    · obtain rfl : k = 3 := by omega
      have d3 : decide (((3 : Nat) : Int) < 3) = false := by decide
      have L31 := st_load KW.out
      obtain ⟨X, hX⟩ : ∃ X, X = stX (s.upto fs 3) a := ⟨_, rfl⟩
      rw [← hX] at L31
      have hXs : X.size = 31 := by rw [hX]; rfl
      have hX1 : X.all (·.oneCell') = true := by rw [hX]; exact stX_one _ _
      obtain ⟨W9, st9, kk, fb, fh, fsz⟩ := bk_store (P := Try.prog) (ty := 31) (cs := X) 31 KV.out infoSta rfl hXs hX1
      have BB := Lib.hid (fb w.heap.size w (by omega) BW'.out)
      have KK := Lib.hid kk
      have HX := Lib.hid hX
      have HXS := Lib.hid hXs
      clear kk fb fh fsz hX hXs hX1
      go_wp2_with fail
      refine bodyPost_ret (v := .agg X) (ret_rY X _ (w.heap.size + 1) _ rfl KK.out HXS.out) rfl ?_
      rw [← HF.out]
      refine ⟨a, by rw [HX.out], fun k hk => ?_, BB.out⟩
      rw [upto_tid s fs hk, HF.out]
      exact (H.out.up BB.out) k hk
set_option maxRecDepth 100000 in
set_option maxHeartbeats 8000000 in
theorem rT_yes (s : Sta) (a : Sad) (w : World) (h : StR w w.heap.size s a) (hb : StB s) (hm : mayS s = true) :
    Calls Try.prog 14 #[.agg (stX s a)] w (StPost (s.upto (fun k => tickC (s.tid k)) 3) w) := by
  obtain ⟨W0, hW0⟩ : ∃ W0, W0 = (w.alloc (.cells (stX s a) 31)).alloc (.cells #[.int .i64 0, .int .i8 0, .int .i64 0, .int .i64 0, .int .i64 0, .int .i64 0, .slice none 0 0, .slice none 0 0, .int .i64 0, .int .i8 0, .int .i64 0, .int .i64 0, .int .i64 0, .int .i64 0, .slice none 0 0, .slice none 0 0, .int .i64 0, .int .i8 0, .int .i64 0, .int .i64 0, .int .i64 0, .int .i64 0, .slice none 0 0, .slice none 0 0, .int .i64 0, .int .i64 0, .int .i64 0, .int .i64 0, .int .i64 0, .int .i64 0, .int .i64 0] 31) := ⟨_, rfl⟩
  have s0 : W0.heap.size = w.heap.size + 1 + 1 := by rw [hW0]; simp
  have B0 : Below w.heap.size w W0 := by rw [hW0]; exact bal (bal (Below.refl _ _) _) _
  have K1 : Blk W0 w.heap.size 31 (stX s a) := by rw [hW0]; exact (Blk.new w 31 (stX s a)).alloc _
  have K2 : Blk W0 (w.heap.size + 1) 31 #[.int .i64 0, .int .i8 0, .int .i64 0, .int .i64 0, .int .i64 0, .int .i64 0, .slice none 0 0, .slice none 0 0, .int .i64 0, .int .i8 0, .int .i64 0, .int .i64 0, .int .i64 0, .int .i64 0, .slice none 0 0, .slice none 0 0, .int .i64 0, .int .i8 0, .int .i64 0, .int .i64 0, .int .i64 0, .int .i64 0, .slice none 0 0, .slice none 0 0, .int .i64 0, .int .i64 0, .int .i64 0, .int .i64 0, .int .i64 0, .int .i64 0, .int .i64 0] := by rw [hW0]; exact bk_new _ 31 #[.int .i64 0, .int .i8 0, .int .i64 0, .int .i64 0, .int .i64 0, .int .i64 0, .slice none 0 0, .slice none 0 0, .int .i64 0, .int .i8 0, .int .i64 0, .int .i64 0, .int .i64 0, .int .i64 0, .slice none 0 0, .slice none 0 0, .int .i64 0, .int .i8 0, .int .i64 0, .int .i64 0, .int .i64 0, .int .i64 0, .slice none 0 0, .slice none 0 0, .int .i64 0, .int .i64 0, .int .i64 0, .int .i64 0, .int .i64 0, .int .i64 0, .int .i64 0] (by simp)
  have HW := Lib.hid hW0
  have HS := Lib.hid s0
  have HB := Lib.hid B0
  have HK := Lib.hid K1
  have HK2 := Lib.hid K2
  have H := Lib.hid h
  have L31 := st_load K1
  have MY := Lib.hid (rMayS_any s a w.heap.size W0 (h.below B0) B0.size hb)
  rw [hm] at MY
  have HSB := Lib.hid hb
  obtain ⟨fs, hfs⟩ : ∃ fs : Nat → Co, fs = fun k => tickC (s.tid k) := ⟨_, rfl⟩
  have HF := Lib.hid hfs
  clear hW0 s0 B0 K1 K2 h hm hfs hb
  go_enter Try.func14, Try.ntmps14
  go_upto_region 1 with (fail)
  rw [← HW.out]
  go_wp2_with fail
  refine MY.out.mono ?_
  rintro e w1 ⟨rfl, b1⟩
  have HK1 := Lib.hid (HK.out.below b1 HK.out.lt)
  have HK3 := Lib.hid (HK2.out.below b1 HK2.out.lt)
  have BW := Lib.hid (HB.out.trans (b1.mono HB.out.size))
  clear L31 b1
  go_wp2_with fail
  go_loopg [3] 3 (fun mm y wq => ∃ (k : Nat) (c : Sad), k ≤ 3 ∧ y = .int .i64 k ∧ mm = 3 - k ∧ Blk wq w.heap.size 31 (stX (s.upto fs k) c) ∧ Blk wq (w.heap.size + 1) 31 #[.int .i64 0, .int .i8 0, .int .i64 0, .int .i64 0, .int .i64 0, .int .i64 0, .slice none 0 0, .slice none 0 0, .int .i64 0, .int .i8 0, .int .i64 0, .int .i64 0, .int .i64 0, .int .i64 0, .slice none 0 0, .slice none 0 0, .int .i64 0, .int .i8 0, .int .i64 0, .int .i64 0, .int .i64 0, .int .i64 0, .slice none 0 0, .slice none 0 0, .int .i64 0, .int .i64 0, .int .i64 0, .int .i64 0, .int .i64 0, .int .i64 0, .int .i64 0] ∧ Below w.heap.size w wq ∧ (∀ j, j < k → CoR wq wq.heap.size (fs j) (c.A j) (c.D j) ∧ (AwayB w.heap.size (fs j).ps.length (c.A j) ∧ AwayB w.heap.size (fs j).qs.length (c.D j)) ∧ AwayB (w.heap.size + 1) (fs j).ps.length (c.A j) ∧ AwayB (w.heap.size + 1) (fs j).qs.length (c.D j)) ∧ ∀ j, k ≤ j → c.A j = a.A j ∧ c.D j = a.D j)
  case atStart => exact ⟨0, a, by omega, rfl, rfl, by rw [upto_zero]; exact HK1.out, HK3.out, BW.out, fun j hj => by omega, fun j _ => ⟨rfl, rfl⟩⟩
  case round =>
    obtain ⟨k, c, hk, rfl, hmm, hk1, hk2, hbw, hl, hn⟩ := hrel
    have HMM := Lib.hid hmm
    have KW := Lib.hid hk1
    have KV := Lib.hid hk2
    have BW' := Lib.hid hbw
    have HL := Lib.hid hl
    have HN := Lib.hid hn
    clear hmm hk1 hk2 hbw hl hn
    by_cases hlt : k < 3
    · have d3 : decide ((k : Int) < 3) = true := decide_eq_true (by omega)
      have i1 : (0 : Int) ≤ (k : Int) := by omega
      have i2 : (k : Int) < 3 := by omega
      have ld := st_tid KW.out k hlt
      rw [show (s.upto fs k).tid k = s.tid k from if_neg (by omega)] at ld
      have RK := Lib.hid (show CoR wr w.heap.size (s.tid k) (c.A k) (c.D k) from by
        rw [(HN.out k (Nat.le_refl _)).1, (HN.out k (Nat.le_refl _)).2]
        exact (H.out.below BW'.out) k hlt)
      have CA := Lib.hid (rTick_any (s.tid k) (c.A k) (c.D k) (c.c k) (c.e k) wr (RK.out.more BW'.out.size) (HSB.out k hlt).1 (HSB.out k hlt).2)
      go_wp2_with fail
      refine CA.out.mono ?_
      rintro e w1 ⟨A5, D5, c5, e5, rfl, r5, b5, hnew⟩
      obtain ⟨d, hd⟩ : ∃ d, d = tickC (s.tid k) := ⟨_, rfl⟩
      have hdf : d = fs k := by rw [hd, HF.out]
      have hlo : w.heap.size + 1 + 1 ≤ wr.heap.size := by have := KV.out.lt; omega
      have aw : (AwayB w.heap.size d.ps.length A5 ∧ AwayB w.heap.size d.qs.length D5) ∧ AwayB (w.heap.size + 1) d.ps.length A5 ∧ AwayB (w.heap.size + 1) d.qs.length D5 := by
        rcases hnew with ⟨rfl, rfl⟩ | ⟨na, nd⟩
        · rw [hd, (tick_ps _).1, (tick_ps _).2]
          exact ⟨⟨RK.out.1.awayB (by omega), RK.out.2.1.awayB (by omega)⟩, RK.out.1.awayB (by omega), RK.out.2.1.awayB (by omega)⟩
        · rw [hd]
          exact ⟨⟨na.awayB (by omega), nd.awayB (by omega)⟩, na.awayB (by omega), nd.awayB (by omega)⟩
      rw [← hd] at r5 ⊢
      obtain ⟨W9, st9, kk, fb, fh, fsz⟩ := st_put (KW.out.below b5 KW.out.lt) k hlt d A5 D5 c5 e5
      have K9 := Lib.hid kk
      have BB := Lib.hid (fb w.heap.size w (Nat.le_refl _) (BW'.out.trans (b5.mono BW'.out.size)))
      have KV9 := Lib.hid (show Blk W9 (w.heap.size + 1) 31 #[.int .i64 0, .int .i8 0, .int .i64 0, .int .i64 0, .int .i64 0, .int .i64 0, .slice none 0 0, .slice none 0 0, .int .i64 0, .int .i8 0, .int .i64 0, .int .i64 0, .int .i64 0, .int .i64 0, .slice none 0 0, .slice none 0 0, .int .i64 0, .int .i8 0, .int .i64 0, .int .i64 0, .int .i64 0, .int .i64 0, .slice none 0 0, .slice none 0 0, .int .i64 0, .int .i64 0, .int .i64 0, .int .i64 0, .int .i64 0, .int .i64 0, .int .i64 0] from (fh (w.heap.size + 1) (by omega)).trans (KV.out.below b5 KV.out.lt))
      have NEW := Lib.hid (And.intro (r5.keepO aw.1.1 aw.1.2 fh fsz) aw)
      have OLD := Lib.hid (fun j (hj : j < k) => And.intro (((HL.out j hj).1.up b5).keepO (HL.out j hj).2.1.1 (HL.out j hj).2.1.2 fh fsz) (HL.out j hj).2)
      have HD := Lib.hid hdf
      clear kk fb fh fsz r5 b5 hnew hd hdf hlo aw ld
      go_wp2_with fail
      go_roundg (gk - 1)
      case measure => have := HMM.out; omega
      case rel =>
        refine ⟨k + 1, c.put k A5 D5 c5 e5, by omega, by go_num, by have := HMM.out; omega, ?_, KV9.out, BB.out, fun j hj => ?_, fun j hj => ?_⟩
        · have := K9.out
          rw [HD.out, upto_put] at this
          exact this
        · by_cases hjk : j = k
          · subst hjk
            rw [show (c.put j A5 D5 c5 e5).A j = A5 from if_pos rfl, show (c.put j A5 D5 c5 e5).D j = D5 from if_pos rfl, ← HD.out]
            exact NEW.out
          · rw [show (c.put k A5 D5 c5 e5).A j = c.A j from if_neg hjk, show (c.put k A5 D5 c5 e5).D j = c.D j from if_neg hjk]
            exact OLD.out j (by omega)
        · rw [show (c.put k A5 D5 c5 e5).A j = c.A j from if_neg (by omega), show (c.put k A5 D5 c5 e5).D j = c.D j from if_neg (by omega)]
          exact HN.out j (by omega)
    · obtain rfl : k = 3 := by omega
      have d3 : decide (((3 : Nat) : Int) < 3) = false := by decide
      have L31 := st_load KW.out
      obtain ⟨X, hX⟩ : ∃ X, X = stX (s.upto fs 3) c := ⟨_, rfl⟩
      rw [← hX] at L31
      have hXs : X.size = 31 := by rw [hX]; rfl
      have hX1 : X.all (·.oneCell') = true := by rw [hX]; exact stX_one _ _
      obtain ⟨W9, st9, kk, fb, fh, fsz⟩ := bk_store (P := Try.prog) (ty := 31) (cs := X) 31 KV.out infoSta rfl hXs hX1
      have BB := Lib.hid (fb w.heap.size w (by omega) BW'.out)
      have KK := Lib.hid kk
      have LL := Lib.hid (fun j (hj : j < 3) => (HL.out j hj).1.keepO (HL.out j hj).2.2.1 (HL.out j hj).2.2.2 fh fsz)
      have HX := Lib.hid hX
      have HXS := Lib.hid hXs
      clear kk fb fh fsz hX hXs hX1
      go_wp2_with fail
      refine bodyPost_ret (v := .agg X) (ret_rT X _ (w.heap.size + 1) _ rfl KK.out HXS.out) rfl ?_
      rw [← HF.out]
      refine ⟨c, by rw [HX.out], fun k hk => ?_, BB.out⟩
      rw [upto_tid s fs hk]
      exact LL.out k hk
end
theorem rTickS_any (s : Sta) (a : Sad) (w : World) (h : StR w w.heap.size s a) (hb : StB s) : Calls Try.prog 14 #[.agg (stX s a)] w (StPost (tickS s) w) := by
  unfold tickS
  cases hm : mayS s
  · rw [if_neg (by decide)]; exact rT_no s a w h hb hm
  · rw [if_pos rfl]; exact rT_yes s a w h hb hm
theorem rYoungS_any (s : Sta) (a : Sad) (w : World) (h : StR w w.heap.size s a) (hb : StB s) : Calls Try.prog 16 #[.agg (stX s a)] w (StPost (youngS s) w) := by
  unfold youngS
  cases hm : mayS s
  · rw [if_neg (by decide)]; exact rY_no s a w h hb hm
  · rw [if_pos rfl]; exact rY_yes s a w h hb hm
end Go.Proofs.Ytagclnmchkgpdaa
