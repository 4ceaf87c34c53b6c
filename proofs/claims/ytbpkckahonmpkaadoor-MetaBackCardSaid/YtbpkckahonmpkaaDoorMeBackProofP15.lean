/-
  Layer 18, the document's: Init, Prepare, Complete, Place.
  Layer 20: the state behind an entry, by the program.
  Layer 20: rows of entries in memory; First, Great, Fold, Of, Plain of the program.
  Layer 20, plain: an entry that makes a producer, or tells an offset, leads to a state that may be; words for the document's Next.
-/
import Derived.Test.YtbpkckahonmpkaaDoorMeBackProofP14
import Derived.Deep.LoopGhost
import Derived.Deep.CutBlock
set_option linter.unusedVariables false
set_option linter.unusedSimpArgs false
namespace Go.Proofs.YtbpkckahonmpkaaDoor
open Go.RowKit
/-- .. its lists are new. -/
def NxN (t : Sta) (n : Int) (w : World) (e : Ending) (w' : World) : Prop :=
  ∃ a, e = .returned (.tuple #[.agg (stX t a), .int .i64 n]) ∧ StR w' w'.heap.size t a ∧ Below w.heap.size w w' ∧ ∀ k, k < 3 → NewAt w.heap.size (t.tid k).ps.length (a.A k) ∧ NewAt w.heap.size (t.tid k).qs.length (a.D k)
theorem sta00_N (lo : Nat) : ∀ k, k < 3 → NewAt lo (sta00.tid k).ps.length (sad0.A k) ∧ NewAt lo (sta00.tid k).qs.length (sad0.D k) := fun _ _ => ⟨fun h => absurd h (Nat.lt_irrefl 0), fun h => absurd h (Nat.lt_irrefl 0)⟩
theorem sta00_R (w : World) (B : Nat) : StR w B sta00 sad0 := fun k _ => co0_R w B
section
attribute [-go_sem] loadCells storeVar Instr.build
set_option maxRecDepth 100000 in
theorem next_ret (X : Array Value) (n : Int) (tmps : Array Value) (b : Nat) (W : World) (h2 : tmps[4]?.getD undef = .pointer (some ⟨b, 0, none⟩)) (h3 : tmps[5]?.getD undef = .int .i64 n) (hK : Blk W b 31 X) (hX : X.size = 31) :
    (results Tryd.f10 tmps).run Tryd.prog W = .ok (.tuple #[.agg X, .int .i64 n]) W := by
  have LC := bk_load (P := Tryd.prog) 31 hK hX
  clear hK
  simp [results, Tryd.results10, go_sem, h2, h3, LC]
set_option maxRecDepth 100000 in
set_option maxHeartbeats 8000000 in
theorem mNext_bad (s : Sta) (a : Sad) (m : Mt) (A1 D1 : Option Addr) (c1 e1 B : Nat) (w : World) (h : StR w w.heap.size s a) (h1 : CoR w B m.c A1 D1) (hB : B ≤ w.heap.size) (hbad : mayS s = false ∨ mayM m = false) :
    Calls Tryd.prog 10 #[.agg (stX s a), .agg (mtX m A1 D1 c1 e1)] w (NxN sta00 2 w) := by
  obtain ⟨W0, hW0⟩ : ∃ W0, W0 = ((w.alloc (.cells (stX s a) 31)).alloc (.cells (mtX m A1 D1 c1 e1) 35)).alloc (.cells #[.int .i64 0, .int .i8 0, .int .i64 0, .int .i64 0, .int .i64 0, .int .i64 0, .slice none 0 0, .slice none 0 0, .int .i64 0, .int .i8 0, .int .i64 0, .int .i64 0, .int .i64 0, .int .i64 0, .slice none 0 0, .slice none 0 0, .int .i64 0, .int .i8 0, .int .i64 0, .int .i64 0, .int .i64 0, .int .i64 0, .slice none 0 0, .slice none 0 0, .int .i64 0, .int .i64 0, .int .i64 0, .int .i64 0, .int .i64 0, .int .i64 0, .int .i64 0] 31) := ⟨_, rfl⟩
  have s0 : W0.heap.size = w.heap.size + 1 + 1 + 1 := by rw [hW0]; simp
  have B0 : Below w.heap.size w W0 := by rw [hW0]; exact bal (bal (bal (Below.refl _ _) _) _) _
  have K1 : Blk W0 w.heap.size 31 (stX s a) := by rw [hW0]; exact ((Blk.new w 31 (stX s a)).alloc _).alloc _
  have K2 : Blk W0 (w.heap.size + 1) 35 (mtX m A1 D1 c1 e1) := by rw [hW0]; exact (bk_new _ 35 _ (by simp)).alloc _
  have K3 : Blk W0 (w.heap.size + 1 + 1) 31 #[.int .i64 0, .int .i8 0, .int .i64 0, .int .i64 0, .int .i64 0, .int .i64 0, .slice none 0 0, .slice none 0 0, .int .i64 0, .int .i8 0, .int .i64 0, .int .i64 0, .int .i64 0, .int .i64 0, .slice none 0 0, .slice none 0 0, .int .i64 0, .int .i8 0, .int .i64 0, .int .i64 0, .int .i64 0, .int .i64 0, .slice none 0 0, .slice none 0 0, .int .i64 0, .int .i64 0, .int .i64 0, .int .i64 0, .int .i64 0, .int .i64 0, .int .i64 0] := by rw [hW0]; exact bk_new _ 31 _ (by simp)
  have HW := Lib.hid hW0
  have HS := Lib.hid s0
  have HB := Lib.hid B0
  have HK2 := Lib.hid K2
  have HK3 := Lib.hid K3
  have l1 := st_load K1
  have bd : ∀ W, (Instr.build 31 #[]).run Tryd.prog W = .ok (.agg (stX sta00 sad0)) W := fun W => run_build W 31 _ _ (by kernel_rfl)
  have MS := Lib.hid (mMay_any s a w.heap.size W0 (h.below B0) B0.size)
  have MM := Lib.hid (fun W (hb : Below W0.heap.size W0 W) => mMay_all m A1 D1 c1 e1 B W (h1.below ((B0.trans (hb.mono B0.size)).mono hB)) (Nat.le_trans hB (Nat.le_trans B0.size hb.size)))
  clear hW0 s0 B0 K1 K2 K3 h h1 hB
  cases hms : mayS s
  · rw [hms] at MS
    clear hms hbad
    go_enter Tryd.func10, Tryd.ntmps10
    go_upto_region 1 with (fail)
    rw [← HW.out]
    go_wp2_with fail
    refine MS.out.mono ?_
    rintro e w3 ⟨rfl, b3⟩
    obtain ⟨W9, st9, k9, fb, fh, fs⟩ := bk_store (P := Tryd.prog) (ty := 31) (cs := stX sta00 sad0) 31 (HK3.out.below b3 HK3.out.lt) infoSta rfl (stX_size ..) (stX_one ..)
    have K9 := Lib.hid k9
    have B9 := Lib.hid (fb w.heap.size w (by omega) (HB.out.trans (b3.mono HB.out.size)))
    clear k9 fb fh fs b3 l1
    go_wp2_with fail
    refine bodyPost_ret (v := .tuple #[.agg (stX sta00 sad0), .int .i64 2]) (next_ret _ _ _ (w.heap.size + 1 + 1) _ rfl rfl K9.out (stX_size ..)) rfl ?_
    exact ⟨sad0, rfl, sta00_R _ _, B9.out, sta00_N _⟩
  · have hmm : mayM m = false := by rcases hbad with h | h; rw [hms] at h; cases h; exact h
    rw [hms] at MS
    rw [hmm] at MM
    clear hms hbad hmm
    go_enter Tryd.func10, Tryd.ntmps10
    go_upto_region 1 with (fail)
    rw [← HW.out]
    go_wp2_with fail
    refine MS.out.mono ?_
    rintro e w3 ⟨rfl, b3⟩
    have l2 := mt_load (P := Tryd.prog) (HK2.out.below b3 HK2.out.lt)
    have B3 := Lib.hid b3
    clear b3 l1
    go_wp2_with fail
    refine (MM.out _ B3.out).mono ?_
    rintro e w4 ⟨rfl, b4⟩
    have B4 := Lib.hid (B3.out.trans (b4.mono B3.out.size))
    obtain ⟨W9, st9, k9, fb, fh, fs⟩ := bk_store (P := Tryd.prog) (ty := 31) (cs := stX sta00 sad0) 31 (HK3.out.below B4.out HK3.out.lt) infoSta rfl (stX_size ..) (stX_one ..)
    have K9 := Lib.hid k9
    have B9 := Lib.hid (fb w.heap.size w (by omega) (HB.out.trans (B4.out.mono HB.out.size)))
    clear k9 fb fh fs b4 l2
    go_wp2_with fail
    refine bodyPost_ret (v := .tuple #[.agg (stX sta00 sad0), .int .i64 2]) (next_ret _ _ _ (w.heap.size + 1 + 1) _ rfl rfl K9.out (stX_size ..)) rfl ?_
    exact ⟨sad0, rfl, sta00_R _ _, B9.out, sta00_N _⟩
set_option maxRecDepth 100000 in
set_option maxHeartbeats 8000000 in
theorem mNext_ok (s : Sta) (a : Sad) (m : Mt) (A1 D1 : Option Addr) (c1 e1 B : Nat) (w : World) (h : StR w w.heap.size s a) (h1 : CoR w B m.c A1 D1) (hB : B ≤ w.heap.size) (hg : HasET w) (hms : mayS s = true) (hmm : mayM m = true) :
    Calls Tryd.prog 10 #[.agg (stX s a), .agg (mtX m A1 D1 c1 e1)] w (NxN (nextS s m) (nextE s m) w) := by
  obtain ⟨W0, hW0⟩ : ∃ W0, W0 = ((w.alloc (.cells (stX s a) 31)).alloc (.cells (mtX m A1 D1 c1 e1) 35)).alloc (.cells #[.int .i64 0, .int .i8 0, .int .i64 0, .int .i64 0, .int .i64 0, .int .i64 0, .slice none 0 0, .slice none 0 0, .int .i64 0, .int .i8 0, .int .i64 0, .int .i64 0, .int .i64 0, .int .i64 0, .slice none 0 0, .slice none 0 0, .int .i64 0, .int .i8 0, .int .i64 0, .int .i64 0, .int .i64 0, .int .i64 0, .slice none 0 0, .slice none 0 0, .int .i64 0, .int .i64 0, .int .i64 0, .int .i64 0, .int .i64 0, .int .i64 0, .int .i64 0] 31) := ⟨_, rfl⟩
  have s0 : W0.heap.size = w.heap.size + 1 + 1 + 1 := by rw [hW0]; simp
  have B0 : Below w.heap.size w W0 := by rw [hW0]; exact bal (bal (bal (Below.refl _ _) _) _) _
  have K1 : Blk W0 w.heap.size 31 (stX s a) := by rw [hW0]; exact ((Blk.new w 31 (stX s a)).alloc _).alloc _
  have K2 : Blk W0 (w.heap.size + 1) 35 (mtX m A1 D1 c1 e1) := by rw [hW0]; exact (bk_new _ 35 _ (by simp)).alloc _
  have K3 : Blk W0 (w.heap.size + 1 + 1) 31 #[.int .i64 0, .int .i8 0, .int .i64 0, .int .i64 0, .int .i64 0, .int .i64 0, .slice none 0 0, .slice none 0 0, .int .i64 0, .int .i8 0, .int .i64 0, .int .i64 0, .int .i64 0, .int .i64 0, .slice none 0 0, .slice none 0 0, .int .i64 0, .int .i8 0, .int .i64 0, .int .i64 0, .int .i64 0, .int .i64 0, .slice none 0 0, .slice none 0 0, .int .i64 0, .int .i64 0, .int .i64 0, .int .i64 0, .int .i64 0, .int .i64 0, .int .i64 0] := by rw [hW0]; exact bk_new _ 31 _ (by simp)
  have HNE := Lib.hid (show nextE s m = if ¬ toE s m = 0 then toE s m else if mayS (toS s m) = true then 0 else 2 by unfold nextE; rw [if_neg (by rw [hms, hmm]; simp)])
  have HW := Lib.hid hW0
  have HS := Lib.hid s0
  have HB := Lib.hid B0
  have HK1 := Lib.hid K1
  have HK2 := Lib.hid K2
  have HK3 := Lib.hid K3
  have l1 := st_load K1
  have bd : ∀ W, (Instr.build 31 #[]).run Tryd.prog W = .ok (.agg (stX sta00 sad0)) W := fun W => run_build W 31 _ _ (by kernel_rfl)
  have MS := Lib.hid (mMay_any s a w.heap.size W0 (h.below B0) B0.size)
  have MM := Lib.hid (fun W (hb : Below W0.heap.size W0 W) => mMay_all m A1 D1 c1 e1 B W (h1.below ((B0.trans (hb.mono B0.size)).mono hB)) (Nat.le_trans hB (Nat.le_trans B0.size hb.size)))
  have OW := Lib.hid (fun W (hb : Below W0.heap.size W0 W) => mown_any s a W (StR.more (h.below (B0.trans (hb.mono B0.size))) (Nat.le_trans B0.size hb.size)))
  have H1 := Lib.hid h1
  have HBB := Lib.hid hB
  have HG := Lib.hid hg
  have HMS := Lib.hid hms
  have HMM := Lib.hid hmm
  rw [hms] at MS
  rw [hmm] at MM
  clear hW0 s0 B0 K1 K2 K3 h h1 hB hg hms hmm
  go_enter Tryd.func10, Tryd.ntmps10
  go_upto_region 1 with (fail)
  rw [← HW.out]
  go_wp2_with fail
  refine MS.out.mono ?_
  rintro e w1 ⟨rfl, b1⟩
  have l2 := mt_load (P := Tryd.prog) (HK2.out.below b1 HK2.out.lt)
  have B1 := Lib.hid b1
  clear b1 l1
  go_wp2_with fail
  refine (MM.out _ B1.out).mono ?_
  rintro e w2 ⟨rfl, b2⟩
  have B2 := Lib.hid (B1.out.trans (b2.mono B1.out.size))
  have l1 := st_load (HK1.out.below B2.out HK1.out.lt)
  clear b2 l2
  go_wp2_with fail
  refine (OW.out _ B2.out).mono ?_
  rintro e w3 ⟨a3, rfl, r3, b3, n3⟩
  obtain ⟨W4, st4, k4, b4, s4⟩ := bk_fresh (P := Tryd.prog) w3 31 #[.int .i64 0, .int .i8 0, .int .i64 0, .int .i64 0, .int .i64 0, .int .i64 0, .slice none 0 0, .slice none 0 0, .int .i64 0, .int .i8 0, .int .i64 0, .int .i64 0, .int .i64 0, .int .i64 0, .slice none 0 0, .slice none 0 0, .int .i64 0, .int .i8 0, .int .i64 0, .int .i64 0, .int .i64 0, .int .i64 0, .slice none 0 0, .slice none 0 0, .int .i64 0, .int .i64 0, .int .i64 0, .int .i64 0, .int .i64 0, .int .i64 0, .int .i64 0] (stX s a3) 31 infoSta rfl (stX_size ..) (stX_one ..)
  have B3 := Lib.hid (B2.out.trans (b3.mono B2.out.size))
  have B4 := Lib.hid (B3.out.trans (b4.mono B3.out.size))
  have BW4 := Lib.hid (HB.out.trans (B4.out.mono HB.out.size))
  have S4 := Lib.hid s4
  have l4 := mt_load (P := Tryd.prog) (HK2.out.below B4.out HK2.out.lt)
  have MV := Lib.hid (mmove_any s a3 w3.heap.size m A1 D1 c1 e1 W4 k4 (r3.below b4) w2.heap.size n3 (Nat.le_trans b3.size b4.size) ((H1.out.below (BW4.out.mono HBB.out)).more (by have := HBB.out; have := HB.out.size; have := B3.out.size; omega)) (HG.out.up BW4.out) HMS.out HMM.out)
  clear k4 b4 s4 b3 r3 n3 l1
  go_wp2_with fail
  refine MV.out.mono ?_
  rintro e w5 ⟨b5, z5, hres⟩
  have B5 := Lib.hid (BW4.out.trans (b5.mono (by have := HB.out.size; have := B3.out.size; omega)))
  have KR5 := Lib.hid ((HK3.out.below B4.out HK3.out.lt).below b5 (by have := HS.out; have := B3.out.size; omega))
  have L2 := Lib.hid (show w.heap.size + 1 + 1 < w2.heap.size by have := HS.out; have := B2.out.size; omega)
  have GT := Lib.hid (show w.heap.size + 1 + 1 < w3.heap.size by have := HS.out; have := B3.out.size; omega)
  have Z5 := Lib.hid z5
  clear b5 z5 l4
  rcases hres with ⟨he0, rfl, a5, k5, o5⟩ | ⟨hne, b, rfl, hc⟩
  · have K5 := Lib.hid k5
    have lo := st_load k5
    have O5 := Lib.hid o5
    have MS5 := Lib.hid (mMay_any (toS s m) a5 w5.heap.size w5 o5.r (Nat.le_refl _))
    have HE0 := Lib.hid he0
    clear k5 o5 he0
    cases hmt : mayS (toS s m)
    · rw [hmt] at MS5
      have HN := Lib.hid (show nextE s m = 2 by rw [HNE.out, if_neg (by rw [HE0.out]; simp), if_neg (by rw [hmt]; simp)])
      have HT := Lib.hid (show nextS s m = sta00 by unfold nextS; rw [HN.out]; rfl)
      clear hmt
      go_wp2_with fail
      refine MS5.out.mono ?_
      rintro e w6 ⟨rfl, b6⟩
      have hw : ∀ x, HasET (w6.alloc x) := fun x => HG.out.up (B5.out.trans ((b6.trans (bal (Below.refl _ _) x |>.mono b6.size)).mono B5.out.size))
      have CF := Lib.hid (mcode_fault w6.heap.size 2 (w6.alloc (.cells #[.string ⟨#[97, 32, 115, 116, 97, 116, 101, 32, 116, 104, 97, 116, 32, 105, 115, 32, 110, 111, 116, 32, 118, 97, 108, 105, 100]⟩, .int .i64 2] 67)) (hw _) ((Blk.new w6 67 _).cell 1))
      have KR6 := Lib.hid ((KR5.out.below b6 KR5.out.lt).alloc (.cells #[.string ⟨#[97, 32, 115, 116, 97, 116, 101, 32, 116, 104, 97, 116, 32, 105, 115, 32, 110, 111, 116, 32, 118, 97, 108, 105, 100]⟩, .int .i64 2] 67))
      have B6 := Lib.hid (bal (B5.out.trans (b6.mono B5.out.size)) (.cells #[.string ⟨#[97, 32, 115, 116, 97, 116, 101, 32, 116, 104, 97, 116, 32, 105, 115, 32, 110, 111, 116, 32, 118, 97, 108, 105, 100]⟩, .int .i64 2] 67))
      have bf : ∀ W, (Instr.build 67 #[(0, .string ⟨#[97, 32, 115, 116, 97, 116, 101, 32, 116, 104, 97, 116, 32, 105, 115, 32, 110, 111, 116, 32, 118, 97, 108, 105, 100]⟩), (1, .int .i64 2)]).run Tryd.prog W = .ok (.agg #[.string ⟨#[97, 32, 115, 116, 97, 116, 101, 32, 116, 104, 97, 116, 32, 105, 115, 32, 110, 111, 116, 32, 118, 97, 108, 105, 100]⟩, .int .i64 2]) W := fun W => run_build W 67 _ _ (by kernel_rfl)
      clear hw b6 lo
      go_wp2_with fail
      refine CF.out.mono ?_
      rintro e w7 ⟨rfl, b7⟩
      obtain ⟨W9, st9, k9, fb, fh, fs⟩ := bk_store (P := Tryd.prog) (ty := 31) (cs := stX sta00 sad0) 31 (KR6.out.below b7 KR6.out.lt) infoSta rfl (stX_size ..) (stX_one ..)
      have K9 := Lib.hid k9
      have B9 := Lib.hid (fb w.heap.size w (by omega) (B6.out.trans (b7.mono B6.out.size)))
      clear k9 fb fh fs b7
      go_wp2_with fail
      refine bodyPost_ret (v := .tuple #[.agg (stX sta00 sad0), .int .i64 2]) (next_ret _ _ _ (w.heap.size + 1 + 1) _ rfl rfl K9.out (stX_size ..)) rfl ?_
      rw [HT.out, HN.out]
      exact ⟨sad0, rfl, sta00_R _ _, B9.out, sta00_N _⟩
    · rw [hmt] at MS5
      have HN := Lib.hid (show nextE s m = 0 by rw [HNE.out, if_neg (by rw [HE0.out]; simp), if_pos hmt])
      have HT := Lib.hid (show nextS s m = toS s m by unfold nextS; rw [HN.out]; rfl)
      clear hmt
      go_wp2_with fail
      refine MS5.out.mono ?_
      rintro e w6 ⟨rfl, b6⟩
      have lo6 := st_load (K5.out.below b6 K5.out.lt)
      obtain ⟨W9, st9, k9, fb, fh, fs⟩ := bk_store (P := Tryd.prog) (ty := 31) (cs := stX (toS s m) a5) 31 (KR5.out.below b6 KR5.out.lt) infoSta rfl (stX_size ..) (stX_one ..)
      have K9 := Lib.hid k9
      have B9 := Lib.hid (fb w.heap.size w (by omega) (B5.out.trans (b6.mono B5.out.size)))
      have FH := Lib.hid fh
      have FS := Lib.hid fs
      have B6 := Lib.hid b6
      clear k9 fb fh fs b6 lo
      go_wp2_with fail
      refine bodyPost_ret (v := .tuple #[.agg (stX (toS s m) a5), .int .i64 0]) (next_ret _ _ _ (w.heap.size + 1 + 1) _ rfl rfl K9.out (stX_size ..)) rfl ?_
      rw [HT.out, HN.out]
      refine ⟨a5, rfl, fun k hk => ?_, B9.out, fun k hk => ⟨(O5.out k hk).2.2.1.mono (by have := L2.out; omega), (O5.out k hk).2.2.2.mono (by have := L2.out; omega)⟩⟩
      have q1 := (O5.out k hk).1.up B6.out
      exact q1.keepN (O5.out k hk).2.2.1 (O5.out k hk).2.2.2 (b := w.heap.size + 1 + 1) L2.out FH.out FS.out
  · have HNE2 := Lib.hid (show nextE s m = toE s m by rw [HNE.out, if_pos hne])
    have HT := Lib.hid (show nextS s m = sta00 by unfold nextS; rw [HNE2.out, if_neg hne])
    have CF := Lib.hid (mcode_fault b (toE s m) w5 (HG.out.up B5.out) hc)
    clear hc hne
    generalize toE s m = n at *
    go_wp2_with fail
    refine CF.out.mono ?_
    rintro e w7 ⟨rfl, b7⟩
    obtain ⟨W9, st9, k9, fb, fh, fs⟩ := bk_store (P := Tryd.prog) (ty := 31) (cs := stX sta00 sad0) 31 (KR5.out.below b7 KR5.out.lt) infoSta rfl (stX_size ..) (stX_one ..)
    have K9 := Lib.hid k9
    have B9 := Lib.hid (fb w.heap.size w (by omega) (B5.out.trans (b7.mono B5.out.size)))
    clear k9 fb fh fs b7
    go_wp2_with fail
    refine bodyPost_ret (v := .tuple #[.agg (stX sta00 sad0), .int .i64 n]) (next_ret _ _ _ (w.heap.size + 1 + 1) _ rfl rfl K9.out (stX_size ..)) rfl ?_
    rw [HT.out, HNE2.out]
    exact ⟨sad0, rfl, sta00_R _ _, B9.out, sta00_N _⟩
end
end Go.Proofs.YtbpkckahonmpkaaDoor
namespace Go.Proofs.YtbpkckahonmpkaaDoor
open Go.RowKit
structure MtM where
  x : Mt
  A : Option Addr
  D : Option Addr
  c : Nat
  e : Nat
def cE (y : MtM) : List Value := mtL y.x y.A y.D y.c y.e
def cellsE (l : List MtM) : List Value := l.flatMap cE
theorem cE_len (y : MtM) : (cE y).length = 17 := rfl
theorem cellsE_cons (y : MtM) (l : List MtM) : cellsE (y :: l) = cE y ++ cellsE l := by simp [cellsE]
theorem length_cellsE : ∀ l : List MtM, (cellsE l).length = l.length * 17
  | [] => rfl
  | m :: l => by rw [cellsE_cons, List.length_append, length_cellsE l, List.length_cons, cE_len]; omega
theorem cellsE_at : ∀ (l : List MtM) (i : Nat) (m : MtM) (j : Nat), l[i]? = some m → j < 17 → (cellsE l)[i * 17 + j]? = (cE m)[j]?
  | [], i, m, j, h, _ => by simp at h
  | x :: l, 0, m, j, h, hj => by
    simp at h
    subst h
    rw [show (0 * 17 + j) = j by omega, cellsE_cons]
    exact List.getElem?_append_left (by rw [cE_len]; exact hj)
  | x :: l, i + 1, m, j, h, hj => by
    have := cellsE_at l i m j (by simpa using h) hj
    rw [cellsE_cons, List.getElem?_append_right (by rw [cE_len]; omega), ← this, cE_len]
    congr 1
    omega
theorem Reads.plainE {w : World} {B n : Nat} {A : Option Addr} {l : List MtM} (h : Reads w B 17 A n (cellsE l)) (hn : 0 < n) :
    ∃ b off, A = some ⟨b, off, none⟩ ∧ b < B ∧ ∀ i m, l[i]? = some m → (loadCells ⟨b, off + i * 17, none⟩ 17).run Tryd.prog w = .ok (mtX m.x m.A m.D m.c m.e) w := by
  obtain ⟨ad, rfl, hb, hc⟩ := h.2 hn
  obtain ⟨b, off, spot⟩ := ad
  have hl : 0 < (cellsE l).length := by have := h.1; omega
  have h0 := hc 0 _ (List.getElem?_eq_getElem hl)
  have hs : spot = none := by simpa [Addr.add] using World.cell?_spot h0
  subst hs
  refine ⟨b, off, rfl, hb, fun i m hm => ?_⟩
  exact run_loadCells_list (P := Tryd.prog) w ⟨b, off + i * 17, none⟩ (cE m) (fun j v hv => by
    have hj : j < 17 := (List.getElem?_eq_some_iff.1 hv).1
    have k1 := hc _ _ ((cellsE_at l i m j hm hj).trans hv)
    rw [add_none] at k1
    rw [add_none, Nat.add_assoc]; exact k1)
/-- What is known of the lists of a row of entries. -/
def MtsR (w : World) (B : Nat) (l : List MtM) : Prop := ∀ y ∈ l, CoR w B y.x.c y.A y.D
theorem MtsR.below {w w' : World} {B : Nat} {l : List MtM} (h : MtsR w B l) (hb : Below B w w') : MtsR w' B l := fun y hy => CoR.below (h y hy) hb
/-- The state behind the first k entries. -/
noncomputable def stA (s : Sta) : List Mt → Sta
  | [] => s
  | x :: l => stA (nextS s x) l
theorem stA_snoc (s : Sta) : ∀ (l : List Mt) (x : Mt), stA s (l ++ [x]) = nextS (stA s l) x
  | [], _ => rfl
  | y :: l, x => stA_snoc (nextS s y) l x
/-- Entries folded: the state, how many, what is wrong. -/
noncomputable def foldM (s : Sta) : List Mt → Nat → Sta × Nat × Int
  | [], i => (s, i, 0)
  | x :: l, i => if nextE s x = 0 then foldM (nextS s x) l (i + 1) else (s, i, nextE s x)
/-- How far the entries go. -/
def GoesM (s : Sta) (l : List Mt) (k : Nat) : Prop := ∀ j x, j < k → l[j]? = some x → nextE (stA s (l.take j)) x = 0
theorem foldM_at (l : List Mt) : ∀ (s : Sta) (k i : Nat) (x : Mt), GoesM s l k → l[k]? = some x → ¬ nextE (stA s (l.take k)) x = 0 → foldM s l i = (stA s (l.take k), i + k, nextE (stA s (l.take k)) x) := by
  induction l with
  | nil => intro s k i x _ h; simp at h
  | cons y l ih =>
    intro s k i x hg hx hne
    cases k with
    | zero =>
      simp at hx
      subst hx
      show (if nextE s y = 0 then _ else _) = _
      rw [if_neg (show ¬ nextE s y = 0 from hne)]
      rfl
    | succ k =>
      have h0 : nextE s y = 0 := hg 0 y (Nat.succ_pos _) rfl
      show (if nextE s y = 0 then _ else _) = _
      rw [if_pos h0]
      have := ih (nextS s y) k (i + 1) x (fun j z hj hz => hg (j + 1) z (by omega) (by simpa using hz)) (by simpa using hx) hne
      rw [this]
      show (_, i + 1 + k, _) = (_, i + (k + 1), _)
      rw [show i + 1 + k = i + (k + 1) by omega]
      rfl
theorem foldM_all (l : List Mt) : ∀ (s : Sta) (i : Nat), GoesM s l l.length → foldM s l i = (stA s l, i + l.length, 0) := by
  induction l with
  | nil => intro s i _; rfl
  | cons y l ih =>
    intro s i hg
    have h0 : nextE s y = 0 := hg 0 y (Nat.succ_pos _) rfl
    show (if nextE s y = 0 then _ else _) = _
    rw [if_pos h0, ih (nextS s y) (i + 1) (fun j z hj hz => hg (j + 1) z (by simp; omega) (by simpa using hz))]
    show (_, i + 1 + l.length, _) = (_, i + (l.length + 1), _)
    rw [show i + 1 + l.length = i + (l.length + 1) by omega]
    rfl
def FoP (s : Sta) (l : List Mt) (w : World) (e : Ending) (w' : World) : Prop :=
  ∃ a, e = .returned (.tuple #[.agg (stX (foldM s l 0).1 a), .int .i64 (foldM s l 0).2.1, .int .i64 (foldM s l 0).2.2]) ∧ StR w' w'.heap.size (foldM s l 0).1 a ∧ Below w.heap.size w w'
section
attribute [-go_sem] loadCells storeVar
set_option maxRecDepth 100000 in
theorem mret_First (X : Array Value) (tmps : Array Value) (b : Nat) (W : World) (h2 : tmps[0]?.getD undef = .pointer (some ⟨b, 0, none⟩)) (hK : Blk W b 31 X) (hX : X.size = 31) :
    (results Tryd.f14 tmps).run Tryd.prog W = .ok (.agg X) W := by
  have LC := bk_load (P := Tryd.prog) 31 hK hX
  clear hK
  simp [results, Tryd.results14, go_sem, h2, LC]
set_option maxRecDepth 100000 in
set_option maxHeartbeats 4000000 in
theorem mFirst_any (w : World) :
    Calls Tryd.prog 14 #[] w fun e w' => e = .returned (.agg (stX sta0 sad0)) ∧ Below w.heap.size w w' := by
  obtain ⟨W0, hW0⟩ : ∃ W0, W0 = w.alloc (.cells #[.int .i64 0, .int .i8 0, .int .i64 0, .int .i64 0, .int .i64 0, .int .i64 0, .slice none 0 0, .slice none 0 0, .int .i64 0, .int .i8 0, .int .i64 0, .int .i64 0, .int .i64 0, .int .i64 0, .slice none 0 0, .slice none 0 0, .int .i64 0, .int .i8 0, .int .i64 0, .int .i64 0, .int .i64 0, .int .i64 0, .slice none 0 0, .slice none 0 0, .int .i64 0, .int .i64 0, .int .i64 0, .int .i64 0, .int .i64 0, .int .i64 0, .int .i64 0] 31) := ⟨_, rfl⟩
  have B0 : Below w.heap.size w W0 := by rw [hW0]; exact bal (Below.refl _ _) _
  have K1 : Blk W0 w.heap.size 31 #[.int .i64 0, .int .i8 0, .int .i64 0, .int .i64 0, .int .i64 0, .int .i64 0, .slice none 0 0, .slice none 0 0, .int .i64 0, .int .i8 0, .int .i64 0, .int .i64 0, .int .i64 0, .int .i64 0, .slice none 0 0, .slice none 0 0, .int .i64 0, .int .i8 0, .int .i64 0, .int .i64 0, .int .i64 0, .int .i64 0, .slice none 0 0, .slice none 0 0, .int .i64 0, .int .i64 0, .int .i64 0, .int .i64 0, .int .i64 0, .int .i64 0, .int .i64 0] := by rw [hW0]; exact Blk.new w 31 #[.int .i64 0, .int .i8 0, .int .i64 0, .int .i64 0, .int .i64 0, .int .i64 0, .slice none 0 0, .slice none 0 0, .int .i64 0, .int .i8 0, .int .i64 0, .int .i64 0, .int .i64 0, .int .i64 0, .slice none 0 0, .slice none 0 0, .int .i64 0, .int .i8 0, .int .i64 0, .int .i64 0, .int .i64 0, .int .i64 0, .slice none 0 0, .slice none 0 0, .int .i64 0, .int .i64 0, .int .i64 0, .int .i64 0, .int .i64 0, .int .i64 0, .int .i64 0]
  have s0 : W0.heap.size = w.heap.size + 1 := by rw [hW0]; simp
  have HW := Lib.hid hW0
  have HB := Lib.hid B0
  have HK := Lib.hid K1
  have HS := Lib.hid s0
  obtain ⟨W2, hW2⟩ : ∃ W2, W2 = W0.alloc (.cells #[.int .i64 0, .int .i8 0, .int .i64 0, .int .i64 0, .int .i64 0, .int .i64 0, .slice none 0 0, .slice none 0 0, .int .i64 0, .int .i8 0, .int .i64 0, .int .i64 0, .int .i64 0, .int .i64 0, .slice none 0 0, .slice none 0 0, .int .i64 0, .int .i8 0, .int .i64 0, .int .i64 0, .int .i64 0, .int .i64 0, .slice none 0 0, .slice none 0 0, .int .i64 0, .int .i64 0, .int .i64 0, .int .i64 0, .int .i64 0, .int .i64 0, .int .i64 0] 31) := ⟨_, rfl⟩
  have HW2 := Lib.hid hW2
  have b2 : Below W0.heap.size W0 W2 := by rw [hW2]; exact bal (Below.refl _ _) _
  have k2 : Blk W2 W0.heap.size 31 (stX sta00 sad0) := by rw [hW2]; exact Blk.new _ _ _
  have B2 := Lib.hid b2
  have K2 := Lib.hid k2
  clear hW0 B0 K1 b2 k2 s0 hW2
  go_enter Tryd.func14, Tryd.ntmps14
  go_upto_region 1 with (fail)
  rw [← HW.out]
  go_upto_region 2 with (fail)
  rw [← HW2.out]
  go_wp2_with fail
  go_loopg [4] 2 (fun mm y wq => ∃ (g : Nat), g ≤ 2 ∧ y = .int .i64 g ∧ mm = 2 - g ∧ Blk wq W0.heap.size 31 (stX { sta00 with gr := fun j => if j < g * 3 then -1 else 0 } sad0) ∧ Below W0.heap.size W0 wq)
  case atStart => exact ⟨0, by omega, rfl, rfl, K2.out, B2.out⟩
  case round =>
    obtain ⟨g, hg, rfl, hmg, hkb, hbg⟩ := hrel
    have HMG := Lib.hid hmg
    have KG := Lib.hid hkb
    have BG := Lib.hid hbg
    clear hmg hkb hbg
    by_cases hlg : g < 2
    · have dg : decide ((g : Int) < 2) = true := decide_eq_true (by omega)
      have g1 : (0 : Int) ≤ (g : Int) := by omega
      have g2 : (g : Int) < 2 := by omega
      go_wp2_with fail
      go_loopg [7] 3 (fun mm y wv => ∃ (q : Nat), q ≤ 3 ∧ y = .int .i64 q ∧ mm = 3 - q ∧ Blk wv W0.heap.size 31 (stX { sta00 with gr := fun j => if j < g * 3 + q then -1 else 0 } sad0) ∧ Below W0.heap.size W0 wv)
      case atStart => exact ⟨0, by omega, rfl, rfl, KG.out, BG.out⟩
      case round =>
        obtain ⟨q, hq, rfl, hmq, hkq, hbq⟩ := hrel
        have HMQ := Lib.hid hmq
        have KQ := Lib.hid hkq
        have BQ := Lib.hid hbq
        clear hmq hkq hbq
        by_cases hlq : q < 3
        · have dq : decide ((q : Int) < 3) = true := decide_eq_true (by omega)
          have q1 : (0 : Int) ≤ (q : Int) := by omega
          have q2 : (q : Int) < 3 := by omega
          have yq := st_gr KQ.out (g * 3 + q) (by omega)
          have zq := KQ.out.frozen (25 + (g * 3 + q))
          have k9 := st_setgr KQ.out (g * 3 + q) (by omega) (-1)
          have b9 := BQ.out.setCell (p := ⟨W0.heap.size, 25 + (g * 3 + q), none⟩) (Nat.le_refl _) (.int .i64 (-1))
          rw [← Nat.add_assoc] at yq zq k9 b9
          have st9 := store_intS (-1) yq zq
          have e9 : stX (({ sta00 with gr := fun j => if j < g * 3 + q then -1 else 0 } : Sta).setGr (g * 3 + q) (-1)) sad0 = stX { sta00 with gr := fun j => if j < g * 3 + (q + 1) then -1 else 0 } sad0 :=
            stX_congr rfl (fun j _ => by
              show (if j = g * 3 + q then (-1 : Int) else if j < g * 3 + q then -1 else 0) = if j < g * 3 + (q + 1) then -1 else 0
              by_cases h : j = g * 3 + q
              · rw [if_pos h, if_pos (by omega)]
              · rw [if_neg h]
                by_cases h2 : j < g * 3 + q
                · rw [if_pos h2, if_pos (by omega)]
                · rw [if_neg h2, if_neg (by omega)]) (fun _ _ => rfl) (fun _ _ => ⟨rfl, rfl, rfl, rfl⟩)
          rw [e9] at k9
          have K9 := Lib.hid k9
          have B9 := Lib.hid b9
          clear yq zq k9 b9 e9
          go_wp2_with fail
          go_roundg (gk - 1)
          case measure => have := HMQ.out; omega
          case rel => exact ⟨q + 1, by omega, by go_num, by have := HMQ.out; omega, K9.out, B9.out⟩
        · obtain rfl : q = 3 := by omega
          have dq : decide (((3 : Nat) : Int) < 3) = false := by decide
          go_wp2_with fail
          go_roundg (2 - g - 1)
          case measure => have := HMG.out; omega
          case rel => exact ⟨g + 1, by omega, by go_num, by omega, by rw [show (g + 1) * 3 = g * 3 + 3 by omega]; exact KQ.out, BQ.out⟩
    · obtain rfl : g = 2 := by omega
      have dg : decide (((2 : Nat) : Int) < 2) = false := by decide
      have KF := Lib.hid (show Blk wr W0.heap.size 31 (stX sta0 sad0) from KG.out)
      have L31 := st_load KF.out
      obtain ⟨W9, st9, kk, fb, fh, fsz⟩ := bk_store (P := Tryd.prog) (ty := 31) (cs := stX sta0 sad0) 31 (HK.out.below BG.out HK.out.lt) infoSta rfl rfl (stX_one _ _)
      have BB := Lib.hid (fb w.heap.size w (Nat.le_refl _) (HB.out.trans (BG.out.mono HB.out.size)))
      have KK := Lib.hid kk
      clear kk fb fh fsz
      go_wp2_with fail
      refine bodyPost_ret (v := .agg (stX sta0 sad0)) (mret_First (stX sta0 sad0) _ w.heap.size _ rfl KK.out rfl) rfl ?_
      exact ⟨rfl, BB.out⟩
set_option maxRecDepth 100000 in
theorem fold_ret (X : Array Value) (k n : Int) (tmps : Array Value) (b : Nat) (W : World) (h2 : tmps[2]?.getD undef = .pointer (some ⟨b, 0, none⟩)) (h3 : tmps[3]?.getD undef = .int .i64 k) (h4 : tmps[4]?.getD undef = .int .i64 n) (hK : Blk W b 31 X) (hX : X.size = 31) :
    (results Tryd.f20 tmps).run Tryd.prog W = .ok (.tuple #[.agg X, .int .i64 k, .int .i64 n]) W := by
  have LC := bk_load (P := Tryd.prog) 31 hK hX
  clear hK
  simp [results, Tryd.results20, go_sem, h2, h3, h4, LC]
/-- The next state of the program, whatever the entry. -/
theorem mNext_any (s : Sta) (a : Sad) (m : Mt) (A1 D1 : Option Addr) (c1 e1 B : Nat) (w : World) (h : StR w w.heap.size s a) (h1 : CoR w B m.c A1 D1) (hB : B ≤ w.heap.size) (hg : HasET w) :
    Calls Tryd.prog 10 #[.agg (stX s a), .agg (mtX m A1 D1 c1 e1)] w (NxN (nextS s m) (nextE s m) w) := by
  by_cases hb : mayS s = false ∨ mayM m = false
  · have he : nextE s m = 2 := by unfold nextE; rw [if_pos hb]
    have ht : nextS s m = sta00 := by unfold nextS; rw [he]; rfl
    rw [he, ht]
    exact mNext_bad s a m A1 D1 c1 e1 B w h h1 hB hb
  · exact mNext_ok s a m A1 D1 c1 e1 B w h h1 hB hg (by cases h : mayS s; exact absurd (.inl h) hb; rfl) (by cases h : mayM m; exact absurd (.inr h) hb; rfl)
set_option maxRecDepth 100000 in
set_option maxHeartbeats 8000000 in
theorem mFold_any (l : List MtM) (A : Option Addr) (c B : Nat) (w : World) (hr : Reads w B 17 A l.length (cellsE l)) (hB : B ≤ w.heap.size) (hl : MtsR w B l) (hn : l.length ≤ 1000000) (hg : HasET w) :
    Calls Tryd.prog 20 #[.slice A l.length c] w (FoP sta0 (l.map (·.x)) w) := by
  obtain ⟨W0, hW0⟩ : ∃ W0, W0 = w.alloc (.cells #[.int .i64 0, .int .i8 0, .int .i64 0, .int .i64 0, .int .i64 0, .int .i64 0, .slice none 0 0, .slice none 0 0, .int .i64 0, .int .i8 0, .int .i64 0, .int .i64 0, .int .i64 0, .int .i64 0, .slice none 0 0, .slice none 0 0, .int .i64 0, .int .i8 0, .int .i64 0, .int .i64 0, .int .i64 0, .int .i64 0, .slice none 0 0, .slice none 0 0, .int .i64 0, .int .i64 0, .int .i64 0, .int .i64 0, .int .i64 0, .int .i64 0, .int .i64 0] 31) := ⟨_, rfl⟩
  have s0 : W0.heap.size = w.heap.size + 1 := by rw [hW0]; simp
  have B0 : Below w.heap.size w W0 := by rw [hW0]; exact bal (Below.refl _ _) _
  have K0 : Blk W0 w.heap.size 31 #[.int .i64 0, .int .i8 0, .int .i64 0, .int .i64 0, .int .i64 0, .int .i64 0, .slice none 0 0, .slice none 0 0, .int .i64 0, .int .i8 0, .int .i64 0, .int .i64 0, .int .i64 0, .int .i64 0, .slice none 0 0, .slice none 0 0, .int .i64 0, .int .i8 0, .int .i64 0, .int .i64 0, .int .i64 0, .int .i64 0, .slice none 0 0, .slice none 0 0, .int .i64 0, .int .i64 0, .int .i64 0, .int .i64 0, .int .i64 0, .int .i64 0, .int .i64 0] := by rw [hW0]; exact Blk.new _ _ _
  have HW := Lib.hid hW0
  have HS := Lib.hid s0
  have HB := Lib.hid B0
  have HK := Lib.hid K0
  have HR := Lib.hid hr
  have HL := Lib.hid hl
  have HG := Lib.hid hg
  have HN := Lib.hid (And.intro hn hB)
  clear hW0 s0 B0 K0 hr hl hg hn hB
  go_enter Tryd.func20, Tryd.ntmps20
  go_upto_region 1 with (fail)
  rw [← HW.out]
  go_wp2_with fail
  refine (mFirst_any W0).mono ?_
  rintro e w1 ⟨rfl, b1⟩
  obtain ⟨W2, st2, k2, b2, s2⟩ := bk_fresh (P := Tryd.prog) w1 31 #[.int .i64 0, .int .i8 0, .int .i64 0, .int .i64 0, .int .i64 0, .int .i64 0, .slice none 0 0, .slice none 0 0, .int .i64 0, .int .i8 0, .int .i64 0, .int .i64 0, .int .i64 0, .int .i64 0, .slice none 0 0, .slice none 0 0, .int .i64 0, .int .i8 0, .int .i64 0, .int .i64 0, .int .i64 0, .int .i64 0, .slice none 0 0, .slice none 0 0, .int .i64 0, .int .i64 0, .int .i64 0, .int .i64 0, .int .i64 0, .int .i64 0, .int .i64 0] (stX sta0 sad0) 31 infoSta rfl (stX_size ..) (stX_one ..)
  have K2 := Lib.hid k2
  have KR2 := Lib.hid ((HK.out.below b1 HK.out.lt).below b2 (by have := HK.out.lt; have := b1.size; omega))
  have B2 := Lib.hid (HB.out.trans ((b1.trans (b2.mono b1.size)).mono HB.out.size))
  have Z2 := Lib.hid (show w.heap.size < w1.heap.size by have := HS.out; have := b1.size; omega)
  have S2 := Lib.hid (show w1.heap.size + 1 = W2.heap.size from s2.symm)
  clear k2 b1 b2 s2
  go_wp2_with fail
  clear st2
  go_loopg [13] l.length (fun mm y wq => ∃ (k : Nat) (a : Sad), k ≤ l.length ∧ y = .int .i64 k ∧ mm = l.length - k ∧ GoesM sta0 (l.map (·.x)) k ∧ Blk wq w1.heap.size 31 (stX (stA sta0 ((l.map (·.x)).take k)) a) ∧ (∀ j, j < 3 → CoR wq wq.heap.size ((stA sta0 ((l.map (·.x)).take k)).tid j) (a.A j) (a.D j) ∧ OffB w1.heap.size ((stA sta0 ((l.map (·.x)).take k)).tid j).ps.length (a.A j) ∧ OffB w1.heap.size ((stA sta0 ((l.map (·.x)).take k)).tid j).qs.length (a.D j) ∧ OffB w.heap.size ((stA sta0 ((l.map (·.x)).take k)).tid j).ps.length (a.A j) ∧ OffB w.heap.size ((stA sta0 ((l.map (·.x)).take k)).tid j).qs.length (a.D j)) ∧ Blk wq w.heap.size 31 #[.int .i64 0, .int .i8 0, .int .i64 0, .int .i64 0, .int .i64 0, .int .i64 0, .slice none 0 0, .slice none 0 0, .int .i64 0, .int .i8 0, .int .i64 0, .int .i64 0, .int .i64 0, .int .i64 0, .slice none 0 0, .slice none 0 0, .int .i64 0, .int .i8 0, .int .i64 0, .int .i64 0, .int .i64 0, .int .i64 0, .slice none 0 0, .slice none 0 0, .int .i64 0, .int .i64 0, .int .i64 0, .int .i64 0, .int .i64 0, .int .i64 0, .int .i64 0] ∧ Below w.heap.size w wq ∧ W2.heap.size ≤ wq.heap.size)
  case atStart => exact ⟨0, sad0, Nat.zero_le _, rfl, rfl, fun j x hj => by omega, K2.out, fun j hj => ⟨co0_R _ _, fun h => absurd h (Nat.lt_irrefl 0), fun h => absurd h (Nat.lt_irrefl 0), fun h => absurd h (Nat.lt_irrefl 0), fun h => absurd h (Nat.lt_irrefl 0)⟩, KR2.out, B2.out, Nat.le_refl _⟩
  case round =>
    obtain ⟨k, a, hk, rfl, hmm, hgo, hks, hli, hkr, hbw, hsz⟩ := hrel
    have HMM := Lib.hid hmm
    have GO := Lib.hid hgo
    have KS := Lib.hid hks
    have LI := Lib.hid hli
    have KR := Lib.hid hkr
    have BW' := Lib.hid hbw
    have SZ := Lib.hid hsz
    clear hmm hgo hks hli hkr hbw hsz
    obtain ⟨s, hs⟩ : ∃ s, stA sta0 ((l.map (·.x)).take k) = s := ⟨_, rfl⟩
    rw [hs] at KS LI
    by_cases hlt : k < l.length
    · have dlt : decide ((k : Int) < ((l.length : Nat) : Int)) = true := decide_eq_true (by omega)
      have j1 : (0 : Int) ≤ (k : Int) := by omega
      have j2 : (k : Int) < ((l.length : Nat) : Int) := by omega
      obtain ⟨y, hy⟩ : ∃ y, l[k]? = some y := ⟨_, List.getElem?_eq_getElem hlt⟩
      have hym : (l.map (·.x))[k]? = some y.x := by rw [List.getElem?_map, hy]; rfl
      obtain ⟨b1, o1, rfl, hb1, hc1⟩ := (HR.out.below (BW'.out.mono HN.out.2)).plainE (by omega)
      have lk := hc1 k y hy
      obtain ⟨W3, st3, k3, b3, s3⟩ := bk_fresh (P := Tryd.prog) wr 35 #[.int .i8 0, .int .i64 0, .int .i64 0, .int .i64 0, .int .i64 0, .int .i64 0, .bool false, .int .i64 0, .int .i8 0, .int .i64 0, .int .i64 0, .int .i64 0, .int .i64 0, .slice none 0 0, .slice none 0 0, .int .i64 0, .int .i64 0] (mtX y.x y.A y.D y.c y.e) 17 infoMt rfl (mtX_size ..) (mtX_one ..)
      have ls := st_load (KS.out.below b3 KS.out.lt)
      have lm := mt_load (P := Tryd.prog) k3
      have B3 := Lib.hid (BW'.out.trans (b3.mono BW'.out.size))
      have NX := Lib.hid (mNext_any s a y.x y.A y.D y.c y.e B W3 (fun j hj => (LI.out j hj).1.up b3) ((HL.out y (List.mem_of_getElem? hy)).below (B3.out.mono HN.out.2)) (Nat.le_trans HN.out.2 B3.out.size) (HG.out.up B3.out))
      have HY := Lib.hid hym
      have HSS := Lib.hid hs
      have hle := HN.out.1
      have KS3 := Lib.hid (KS.out.below b3 KS.out.lt)
      have KR3 := Lib.hid (KR.out.below b3 KR.out.lt)
      have BR3 := Lib.hid b3
      clear k3 b3 s3 hc1 hb1 hy hym hs
      go_wp2_with fail
      refine NX.out.mono ?_
      rintro e w4 ⟨a4, rfl, r4, b4, n4⟩
      obtain ⟨W5, st5, k5, b5, s5⟩ := bk_fresh (P := Tryd.prog) w4 31 #[.int .i64 0, .int .i8 0, .int .i64 0, .int .i64 0, .int .i64 0, .int .i64 0, .slice none 0 0, .slice none 0 0, .int .i64 0, .int .i8 0, .int .i64 0, .int .i64 0, .int .i64 0, .int .i64 0, .slice none 0 0, .slice none 0 0, .int .i64 0, .int .i8 0, .int .i64 0, .int .i64 0, .int .i64 0, .int .i64 0, .slice none 0 0, .slice none 0 0, .int .i64 0, .int .i64 0, .int .i64 0, .int .i64 0, .int .i64 0, .int .i64 0, .int .i64 0] (stX (nextS s y.x) a4) 31 infoSta rfl (stX_size ..) (stX_one ..)
      have bb : Below W3.heap.size W3 W5 := b4.trans (b5.mono b4.size)
      have KS5 := Lib.hid (KS3.out.below bb KS3.out.lt)
      have KR5 := Lib.hid (KR3.out.below bb KR3.out.lt)
      have B5 := Lib.hid (B3.out.trans (bb.mono B3.out.size))
      have NW := Lib.hid n4
      have R5 := Lib.hid (show StR W5 W5.heap.size (nextS s y.x) a4 from r4.up b5)
      have bw5 : Below wr.heap.size wr W5 := BR3.out.trans (bb.mono BR3.out.size)
      have R5o := Lib.hid (show ∀ j, j < 3 → CoR W5 W5.heap.size (s.tid j) (a.A j) (a.D j) from fun j hj => (LI.out j hj).1.up bw5)
      have ls5 := st_load KS5.out
      have ln5 := st_load k5
      have S5 := Lib.hid (show W2.heap.size ≤ W5.heap.size by have := SZ.out; have := bw5.size; omega)
      have K5 := Lib.hid k5
      have N4 := Lib.hid (show W3.heap.size ≤ w4.heap.size from b4.size)
      clear ls lm lk k5 b5 s5 bb r4 b4 n4 bw5
      obtain ⟨n, hn⟩ : ∃ n, nextE s y.x = n := ⟨_, rfl⟩
      rw [hn]
      by_cases hz : n = 0
      · subst hz
        obtain ⟨W6, st6, k6, fb6, fh6, fs6⟩ := bk_store (P := Tryd.prog) (ty := 31) (cs := stX (nextS s y.x) a4) 31 KS5.out infoSta (stX_size ..) (stX_size ..) (stX_one ..)
        have HNE := Lib.hid hn
        have HTK := Lib.hid (show stA sta0 ((l.map (·.x)).take (k + 1)) = nextS s y.x by rw [List.take_add_one, HY.out]; simp only [Option.toList_some]; rw [stA_snoc, HSS.out])
        have K6 := Lib.hid k6
        have KR6 := Lib.hid (KR5.out.but (by have := Z2.out; omega) (But.one fh6 fs6))
        have B6 := Lib.hid (fb6 w.heap.size w (by have := Z2.out; omega) B5.out)
        have S6 := Lib.hid (show W2.heap.size ≤ W6.heap.size by have := S5.out; omega)
        have FH := Lib.hid (But.one fh6 fs6)
        clear k6 fb6 fh6 fs6 hn
        go_wp2_with fail
        go_roundg (gk - 1)
        case measure => have := HMM.out; omega
        case rel =>
          refine ⟨k + 1, a4, by omega, by go_num, by have := HMM.out; omega, fun j x hj hx => ?_, ?_, fun j hj => ?_, KR6.out, B6.out, S6.out⟩
          · rcases Nat.lt_succ_iff_lt_or_eq.1 hj with h | h
            · exact GO.out j x h hx
            · subst h
              rw [HY.out] at hx
              injection hx with hx
              rw [HSS.out, ← hx]
              exact HNE.out
          · rw [HTK.out]; exact K6.out
          · rw [HTK.out]
            have z3 : w1.heap.size < W3.heap.size := by have h1 := SZ.out; have h2 := BR3.out.size; have h3 := S2.out; omega
            have z4 : w.heap.size < W3.heap.size := by have := Z2.out; omega
            have o1 := (NW.out j hj).1.off z3
            have o2 := (NW.out j hj).2.off z3
            exact ⟨(R5.out j hj).keepB o1 o2 FH.out.keep FH.out.size, o1, o2, (NW.out j hj).1.off z4, (NW.out j hj).2.off z4⟩
      · have dn : (n == 0) = false := eqb_false hz
        have dn2 : (n != 0) = true := by simp [hz]
        have HFD := Lib.hid (foldM_at (l.map (·.x)) sta0 k 0 y.x GO.out HY.out (by rw [HSS.out, hn]; exact hz))
        obtain ⟨W6, st6, k6, fb6, fh6, fs6⟩ := bk_store (P := Tryd.prog) (ty := 31) (cs := stX s a) 31 KR5.out infoSta rfl (stX_size ..) (stX_one ..)
        have K6 := Lib.hid k6
        have B6 := Lib.hid (fb6 w.heap.size w (Nat.le_refl _) B5.out)
        have L6 := Lib.hid (show StR W6 W6.heap.size s a from fun j hj => (R5o.out j hj).keepB (LI.out j hj).2.2.2.1 (LI.out j hj).2.2.2.2 (But.one fh6 fs6).keep (But.one fh6 fs6).size)
        have HNE := Lib.hid hn
        clear k6 fb6 fh6 fs6 hn hz
        go_wp2_with fail
        refine bodyPost_ret (v := .tuple #[.agg (stX s a), .int .i64 k, .int .i64 n]) (fold_ret _ _ _ _ w.heap.size _ rfl rfl rfl K6.out (stX_size ..)) rfl ?_
        unfold FoP
        rw [HFD.out, HSS.out, HNE.out]
        exact ⟨a, by simp, L6.out, B6.out⟩
    · have hkn : k = l.length := by omega
      have dlt : decide ((k : Int) < ((l.length : Nat) : Int)) = false := decide_eq_false (by omega)
      have HFD := Lib.hid (show foldM sta0 (l.map (·.x)) 0 = (s, l.length, 0) by
        have h1 : GoesM sta0 (l.map (·.x)) (l.map (·.x)).length := by rw [List.length_map, ← hkn]; exact GO.out
        rw [foldM_all _ _ _ h1, ← hs, hkn, List.take_of_length_le (by simp)]
        simp)
      have lo := st_load KS.out
      obtain ⟨W6, st6, k6, fb6, fh6, fs6⟩ := bk_store (P := Tryd.prog) (ty := 31) (cs := stX s a) 31 KR.out infoSta rfl (stX_size ..) (stX_one ..)
      have K6 := Lib.hid k6
      have B6 := Lib.hid (fb6 w.heap.size w (Nat.le_refl _) BW'.out)
      have L6 := Lib.hid (show StR W6 W6.heap.size s a from fun j hj => (LI.out j hj).1.keepB (LI.out j hj).2.2.2.1 (LI.out j hj).2.2.2.2 (But.one fh6 fs6).keep (But.one fh6 fs6).size)
      clear k6 fb6 fh6 fs6 hs hkn
      go_wp2_with fail
      refine bodyPost_ret (v := .tuple #[.agg (stX s a), .int .i64 l.length, .int .i64 0]) (fold_ret _ _ _ _ w.heap.size _ rfl rfl rfl K6.out (stX_size ..)) rfl ?_
      unfold FoP
      rw [HFD.out]
      exact ⟨a, rfl, L6.out, B6.out⟩
end
end Go.Proofs.YtbpkckahonmpkaaDoor
namespace Go.Proofs.YtbpkckahonmpkaaDoor
open Go.RowKit
theorem may_pend1 {s : Sta} {p : Pd} (h : mayS s = true) (hp : pendB p = true) : mayS (s.pend p) = true := by
  obtain ⟨h0, h1, h2, h3⟩ := (mayS_iff s).1 h
  unfold pendB partB at hp
  simp only [Bool.and_eq_true, decide_eq_true_eq] at hp
  refine (mayS_iff _).2 ⟨h0, h1, fun k hk => h2 k hk, fun g hg => ?_⟩
  unfold okG Sta.pend Sta.setGr
  show (decide (-1 ≤ if g = _ then p.2.2 else s.gr g) && decide ((if g = _ then p.2.2 else s.gr g) ≤ 1048576)) = true
  split
  · rw [decide_eq_true (by omega), decide_eq_true (by omega)]; rfl
  · exact h3 g hg
theorem may_fresh1 {s : Sta} {t : Nat} {tm : Int} (h : mayS s = true) (h8 : ¬ s.made = 8) (ht : t < 3) (htm : 1 ≤ tm ∧ tm ≤ 20) :
    mayS { s.put t ⟨1, s.made + 1, 0, tm, 0, [], [], 0⟩ with made := s.made + 1 } = true := by
  obtain ⟨h0, h1, h2, h3⟩ := (mayS_iff s).1 h
  refine (mayS_iff _).2 ⟨show 0 ≤ s.made + 1 by omega, show s.made + 1 ≤ 8 by omega, fun k hk => ?_, h3⟩
  have ho : ∀ j, j < 3 → (s.tid j).pid ≤ s.made := fun j hj => ((okT_iff s j).1 (h2 j hj)).2.1
  by_cases hkt : k = t
  · subst hkt
    have e : ({ s.put k ⟨1, s.made + 1, 0, tm, 0, [], [], 0⟩ with made := s.made + 1 } : Sta).tid k = ⟨1, s.made + 1, 0, tm, 0, [], [], 0⟩ := if_pos rfl
    refine (okT_iff _ k).2 ⟨?_, ?_, fun j hj => .inr ?_⟩
    · rw [e]; exact may_new 1 _ _ _ (.inl rfl) ⟨by omega, by omega⟩ ⟨by decide, by decide⟩ htm
    · rw [e]; exact Int.le_refl _
    · have e2 : ({ s.put k ⟨1, s.made + 1, 0, tm, 0, [], [], 0⟩ with made := s.made + 1 } : Sta).tid j = s.tid j := if_neg (by omega)
      rw [e, e2]
      have := ho j (by omega)
      show ¬ (s.tid j).pid = s.made + 1
      omega
  · have e : ({ s.put t ⟨1, s.made + 1, 0, tm, 0, [], [], 0⟩ with made := s.made + 1 } : Sta).tid k = s.tid k := if_neg hkt
    obtain ⟨k1, k2, k3⟩ := (okT_iff s k).1 (h2 k hk)
    refine (okT_iff _ k).2 ⟨by rw [e]; exact k1, ?_, fun j hj => ?_⟩
    · rw [e]; show (s.tid k).pid ≤ s.made + 1; omega
    · by_cases hjt : j = t
      · have e2 : ({ s.put t ⟨1, s.made + 1, 0, tm, 0, [], [], 0⟩ with made := s.made + 1 } : Sta).tid j = ⟨1, s.made + 1, 0, tm, 0, [], [], 0⟩ := if_pos hjt
        rw [e, e2]
        exact .inr (by show ¬ s.made + 1 = (s.tid k).pid; omega)
      · have e2 : ({ s.put t ⟨1, s.made + 1, 0, tm, 0, [], [], 0⟩ with made := s.made + 1 } : Sta).tid j = s.tid j := if_neg hjt
        rw [e, e2]
        exact k3 j hj
/-- Kind by kind: what is next. -/
theorem fit1 {m : Mt} (h : mayM m = true) (hk : m.kd = 1) : 1 ≤ m.tm ∧ m.tm ≤ 20 := by
  have hf := (mayM_fit h).2.2.2
  unfold fitM at hf
  rw [if_neg (by omega), if_pos hk] at hf
  simpa only [Bool.and_eq_true, decide_eq_true_eq] using hf
theorem fit25 {m : Mt} (h : mayM m = true) (hk : m.kd = 2 ∨ m.kd = 5) : pendB m.p = true := by
  have hf := (mayM_fit h).2.2.2
  unfold fitM at hf
  rw [if_neg (by omega), if_neg (by omega), if_pos hk] at hf
  exact hf
theorem next_5 {s : Sta} {m : Mt} (hs : mayS s = true) (hm : mayM m = true) (hk : m.kd = 5) : nextE s m = 0 ∧ nextS s m = s.pend m.p := by
  have hE : toE s m = 0 := by unfold toE; rw [if_neg (by omega), if_pos (by omega)]
  have hT : toS s m = s.pend m.p := by unfold toS; rw [if_neg (by omega), if_pos hk]
  have hn : nextE s m = 0 := by
    unfold nextE
    rw [if_neg (by rw [hs, hm]; simp), hE, hT, if_neg (by simp), if_pos (may_pend1 hs (fit25 hm (.inr hk)))]
  exact ⟨hn, by unfold nextS; rw [if_pos hn, hT]⟩
theorem next_7 {s : Sta} {m : Mt} (hs : mayS s = true) (hm : mayM m = true) (hk : m.kd = 7) :
    nextE s m = (if mayS { s with made := m.nx } = true then 0 else 2) ∧ nextS s m = if mayS { s with made := m.nx } = true then { s with made := m.nx } else sta00 := by
  have hE : toE s m = 0 := by unfold toE; rw [if_neg (by omega), if_pos (by omega)]
  have hT : toS s m = { s with made := m.nx } := by unfold toS; rw [if_neg (by omega), if_neg (by omega), if_pos hk]
  have hn : nextE s m = if mayS { s with made := m.nx } = true then 0 else 2 := by
    unfold nextE
    rw [if_neg (by rw [hs, hm]; simp), hE, hT, if_neg (by simp)]
  refine ⟨hn, ?_⟩
  unfold nextS
  rw [hn, hT]
  by_cases h : mayS { s with made := m.nx } = true
  · rw [if_pos h, if_pos h]; rfl
  · rw [if_neg h, if_neg h]; rfl
theorem next_f {s : Sta} {m : Mt} (hs : mayS s = true) (hm : mayM m = true) (hk : m.kd = 1) (h0 : (s.tid m.tid.toNat).st = 0) :
    nextE s m = (if s.made = 8 then 102 else 0) ∧ nextS s m = (if s.made = 8 then sta00 else { s.put m.tid.toNat (initC (s.tid m.tid.toNat) (s.made + 1) m.tm) with made := s.made + 1 }) := by
  have hE : toE s m = if s.made = 8 then 102 else 0 := by unfold toE; rw [if_neg (by omega), if_neg (by omega), if_pos ⟨hk, h0⟩]
  have hT : toS s m = { s.put m.tid.toNat (initC (s.tid m.tid.toNat) (s.made + 1) m.tm) with made := s.made + 1 } := by unfold toS; rw [if_neg (by omega), if_neg (by omega), if_neg (by omega), if_pos ⟨hk, h0⟩]
  have ht : m.tid.toNat < 3 := by have := (mayM_fit hm).2.1; have := (mayM_fit hm).2.2.1; omega
  have hi := (mayS_iff s).1 hs
  have hn : nextE s m = if s.made = 8 then 102 else 0 := by
    unfold nextE
    rw [if_neg (by rw [hs, hm]; simp), hE, hT]
    by_cases h8 : s.made = 8
    · rw [if_pos h8]; simp
    · rw [if_neg h8, (init_fresh ((okT_iff s _).1 (hi.2.2.1 _ ht)).1 h0 (n := s.made + 1) (tm := m.tm) (by omega) (by omega) (fit1 hm hk).1 (fit1 hm hk).2).2, if_pos (may_fresh1 hs h8 ht (fit1 hm hk))]; simp
  refine ⟨hn, ?_⟩
  unfold nextS
  rw [hn, hT]
  by_cases h8 : s.made = 8
  · rw [if_pos h8, if_pos h8]; simp
  · rw [if_neg h8, if_neg h8]; simp
theorem next_m {s : Sta} {m : Mt} (hs : mayS s = true) (hm : mayM m = true) (hk : ¬ (m.kd = 0 ∨ m.kd = 5 ∨ m.kd = 7)) (hf : ¬ (m.kd = 1 ∧ (s.tid m.tid.toNat).st = 0)) :
    nextE s m = (if ¬ moveE (s.tid m.tid.toNat) m s.made = 0 then moveE (s.tid m.tid.toNat) m s.made else if mayS (toS s m) = true then 0 else 2) ∧
    toS s m = (s.pends (if m.kd = 4 ∧ (s.tid m.tid.toNat).st = 3 then (s.tid m.tid.toNat).qs else [])).put m.tid.toNat (moveC (s.tid m.tid.toNat) m s.made) := by
  have hE : toE s m = moveE (s.tid m.tid.toNat) m s.made := by unfold toE; rw [if_neg (by omega), if_neg (by omega), if_neg hf]
  refine ⟨?_, by unfold toS; rw [if_neg (by omega), if_neg (by omega), if_neg (by omega), if_neg hf]⟩
  unfold nextE
  rw [if_neg (by rw [hs, hm]; simp), hE]
/-- A state's lists, none of them in certain blocks. -/
def StF (w : World) (p : Nat → Prop) (s : Sta) (a : Sad) : Prop := ∀ k, k < 3 → CoR w w.heap.size (s.tid k) (a.A k) (a.D k) ∧ ∀ b, p b → OffB b (s.tid k).ps.length (a.A k) ∧ OffB b (s.tid k).qs.length (a.D k)
/-- The blocks in which none of what was handed in lies. -/
def PF (x : Nat) (s : Sta) (a : Sad) (m : Mt) (A D : Option Addr) (b : Nat) : Prop :=
  b < x + 3 ∧ (∀ k, k < 3 → OffB b (s.tid k).ps.length (a.A k) ∧ OffB b (s.tid k).qs.length (a.D k)) ∧ OffB b m.c.ps.length A ∧ OffB b m.c.qs.length D
theorem PF.own {w : World} {x b : Nat} {s : Sta} {a : Sad} {m : Mt} {A D : Option Addr} (h : StR w x s a) (h1 : CoR w x m.c A D) (hb : x ≤ b) (hb2 : b < x + 3) : PF x s a m A D b :=
  ⟨hb2, fun k hk => ⟨(h k hk).1.offB hb, (h k hk).2.1.offB hb⟩, h1.1.offB hb, h1.2.1.offB hb⟩
theorem StF.r {w : World} {p : Nat → Prop} {s : Sta} {a : Sad} (h : StF w p s a) : StR w w.heap.size s a := fun k hk => (h k hk).1
theorem StF.of {w w' : World} {x : Nat} {s : Sta} {a : Sad} {m : Mt} {A D : Option Addr} (h : StR w x s a) (hb : Below x w w') (hx : x ≤ w'.heap.size) : StF w' (PF x s a m A D) s a :=
  fun k hk => ⟨((h k hk).below hb).more hx, fun b hp => hp.2.1 k hk⟩
theorem StF.but {w w' : World} {p : Nat → Prop} {b : Nat} {s : Sta} {a : Sad} (h : StF w p s a) (hp : p b) (k : But b w w') : StF w' p s a := fun j hj => ⟨(h j hj).1.keepB ((h j hj).2 b hp).1 ((h j hj).2 b hp).2 k.keep k.size, (h j hj).2⟩
theorem StF.put {w : World} {p : Nat → Prop} {t : Nat} {s : Sta} {a : Sad} (h : StF w p s a) {d : Co} {A5 D5 : Option Addr} {c5 e5 : Nat} (r : CoR w w.heap.size d A5 D5) (o : ∀ b, p b → OffB b d.ps.length A5 ∧ OffB b d.qs.length D5) :
    StF w p (s.put t d) (a.put t A5 D5 c5 e5) := by
  intro k hk
  by_cases hkt : k = t
  · subst hkt
    have e1 : (s.put k d).tid k = d := if_pos rfl
    have e2 : (a.put k A5 D5 c5 e5).A k = A5 := if_pos rfl
    have e3 : (a.put k A5 D5 c5 e5).D k = D5 := if_pos rfl
    rw [e1, e2, e3]
    exact ⟨r, o⟩
  · have e1 : (s.put t d).tid k = s.tid k := if_neg hkt
    have e2 : (a.put t A5 D5 c5 e5).A k = a.A k := if_neg hkt
    have e3 : (a.put t A5 D5 c5 e5).D k = a.D k := if_neg hkt
    rw [e1, e2, e3]
    exact h k hk
theorem StF.gr {w : World} {p : Nat → Prop} {s s' : Sta} {a : Sad} (h : StF w p s a) (e : ∀ k, k < 3 → s'.tid k = s.tid k) : StF w p s' a := fun k hk => by rw [e k hk]; exact h k hk
end Go.Proofs.YtbpkckahonmpkaaDoor
namespace Go.Proofs.YtbpkckahonmpkaaDoor
open Go.RowKit

section
attribute [-go_sem] loadCells storeVar
theorem store_i8 {W : World} {a : Addr} {u : Value} (k : Int) (h : W.cell? a = some u) (hf : W.frozen? a = false) : (storeVar 22 a (.int .i8 k)).run Tryd.prog W = .ok () (W.setCell a (.int .i8 k)) := by
  simp [go_sem, h, hf, storeVar]
theorem offB_none' {b : Nat} {A : Option Addr} : OffB b 0 A := fun h => by omega
end
end Go.Proofs.YtbpkckahonmpkaaDoor
