/-
  Layer 20: what an entry does to a state, by the program (move), kind by kind.
-/
import Derived.Test.YtbpkckahonmpkaaDoorMeBackProofP12
import Derived.Deep.LoopGhost
import Derived.Deep.CutBlock
import Derived.Deep.RegionHeld3
set_option linter.unusedVariables false
set_option linter.unusedSimpArgs false
namespace Go.Proofs.YtbpkckahonmpkaaDoor
open Go.RowKit
theorem load_pdM {W : World} {b o : Nat} {x : Pd} (h : W.cell? ⟨b, o, none⟩ = some (.int .i64 x.1) ∧ W.cell? ⟨b, o + 1, none⟩ = some (.int .i64 x.2.1) ∧ W.cell? ⟨b, o + 2, none⟩ = some (.int .i64 x.2.2)) :
    (loadCells ⟨b, o, none⟩ 3).run Tryd.prog W = .ok #[.int .i64 x.1, .int .i64 x.2.1, .int .i64 x.2.2] W := by
  have := run_loadCells_list (P := Tryd.prog) W ⟨b, o, none⟩ [.int .i64 x.1, .int .i64 x.2.1, .int .i64 x.2.2] (fun j v hv => by
    match j with
    | 0 => simp at hv; rw [← hv]; exact h.1
    | 1 => simp at hv; rw [← hv]; exact h.2.1
    | 2 => simp at hv; rw [← hv]; exact h.2.2
    | k + 3 => simp at hv)
  exact this
section
attribute [-go_sem] loadCells storeVar
set_option maxRecDepth 100000 in
set_option maxHeartbeats 8000000 in
theorem mmove_0 (s : Sta) (a : Sad) (g t : Nat) (m : Mt) (A1 D1 : Option Addr) (c1 e1 : Nat) (w : World) (hK : Blk w g 31 (stX s a)) (hR : StR w g s a) (lo : Nat) (hN : ∀ k, k < 3 → NewAt lo (s.tid k).ps.length (a.A k) ∧ NewAt lo (s.tid k).qs.length (a.D k)) (hlo : lo ≤ w.heap.size) (hm : CoR w g m.c A1 D1) (hg : HasET w) (hms : mayS s = true) (hmm : mayM m = true) (ht : t < 3) (htid : m.tid = (t : Int)) (hk : m.kd = 0) :
    Calls Tryd.prog 29 #[.pointer (some ⟨g, 0, none⟩), .agg (mtX m A1 D1 c1 e1)] w (MoP s m g lo w) := by
  have hgl : g < w.heap.size := hK.lt
  have htn : m.tid.toNat = t := by rw [htid]; rfl
  obtain ⟨W0, hW0⟩ : ∃ W0, W0 = w.alloc (.cells (mtX m A1 D1 c1 e1) 35) := ⟨_, rfl⟩
  have s0 : W0.heap.size = w.heap.size + 1 := by rw [hW0]; simp
  have B0 : Below w.heap.size w W0 := by rw [hW0]; exact bal (Below.refl _ _) _
  have K0 : Blk W0 w.heap.size 35 (mtX m A1 D1 c1 e1) := by rw [hW0]; exact Blk.new w 35 _
  have KG : Blk W0 g 31 (stX s a) := by rw [hW0]; exact hK.alloc _
  have i1 : (0 : Int) ≤ (t : Int) := by omega
  have i2 : (t : Int) < 3 := by omega
  have x1 : W0.drew.cell? ⟨w.heap.size, 1, none⟩ = some (.int .i64 (t : Int)) := by rw [← htid]; exact mt_cell K0.drew (j := 1) rfl
  have lt1 := st_tid KG.drew t ht
  have lt2 := st_tid ((KG.alloc (.cells #[.int .i8 0, .int .i64 0, .int .i64 0, .int .i64 0, .int .i64 0, .slice none 0 0, .slice none 0 0, .int .i64 0] 26)).drew) t ht
  have y1 : (W0.alloc (.cells #[.int .i8 0, .int .i64 0, .int .i64 0, .int .i64 0, .int .i64 0, .slice none 0 0, .slice none 0 0, .int .i64 0] 26)).drew.cell? ⟨w.heap.size, 1, none⟩ = some (.int .i64 (t : Int)) := by rw [← htid]; exact mt_cell ((K0.alloc _).drew) (j := 1) rfl
  obtain ⟨W1, st1, KC1, fb1, fh1, fs1⟩ := bk_store (P := Tryd.prog) (ty := 26) (cs := #[.int .i8 (s.tid t).st, .int .i64 (s.tid t).pid, .int .i64 (s.tid t).ep, .int .i64 (s.tid t).tm, .int .i64 (s.tid t).th, .slice (a.A t) (s.tid t).ps.length (a.c t), .slice (a.D t) (s.tid t).qs.length (a.e t), .int .i64 (s.tid t).ag]) 8 (Blk.new W0 26 #[.int .i8 0, .int .i64 0, .int .i64 0, .int .i64 0, .int .i64 0, .slice none 0 0, .slice none 0 0, .int .i64 0]).drew infoCoS rfl rfl (by simp [Value.oneCell'])
  have KE1 : Blk W1 w.heap.size 35 (mtX m A1 D1 c1 e1) := (fh1 _ (by omega)).trans ((K0.alloc (.cells #[.int .i8 0, .int .i64 0, .int .i64 0, .int .i64 0, .int .i64 0, .slice none 0 0, .slice none 0 0, .int .i64 0] 26)).drew)
  have KG1 : Blk W1 g 31 (stX s a) := (fh1 _ (by omega)).trans ((KG.alloc (.cells #[.int .i8 0, .int .i64 0, .int .i64 0, .int .i64 0, .int .i64 0, .slice none 0 0, .slice none 0 0, .int .i64 0] 26)).drew)
  have BG1 : Below w.heap.size w W1 := fb1 _ _ (by omega) (bal B0 (.cells #[.int .i8 0, .int .i64 0, .int .i64 0, .int .i64 0, .int .i64 0, .slice none 0 0, .slice none 0 0, .int .i64 0] 26)).drew
  have s1 : W1.heap.size = W0.heap.size + 1 := fs1.trans (show (W0.alloc (.cells #[.int .i8 0, .int .i64 0, .int .i64 0, .int .i64 0, .int .i64 0, .slice none 0 0, .slice none 0 0, .int .i64 0] 26)).heap.size = _ by simp)
  have lp := mt_pend (P := Tryd.prog) KE1
  obtain ⟨W2, hW2⟩ : ∃ W2, W2 = W1.alloc (.cells #[.int .i64 m.p.1, .int .i64 m.p.2.1, .int .i64 m.p.2.2] 33) := ⟨_, rfl⟩
  have KE2 : Blk W2 w.heap.size 35 (mtX m A1 D1 c1 e1) := by rw [hW2]; exact KE1.alloc _
  have KG2 : Blk W2 g 31 (stX s a) := by rw [hW2]; exact KG1.alloc _
  have KC2 : Blk W2 W0.heap.size 26 #[.int .i8 (s.tid t).st, .int .i64 (s.tid t).pid, .int .i64 (s.tid t).ep, .int .i64 (s.tid t).tm, .int .i64 (s.tid t).th, .slice (a.A t) (s.tid t).ps.length (a.c t), .slice (a.D t) (s.tid t).qs.length (a.e t), .int .i64 (s.tid t).ag] := by rw [hW2]; exact KC1.alloc _
  have KP2 : Blk W2 W1.heap.size 33 #[.int .i64 m.p.1, .int .i64 m.p.2.1, .int .i64 m.p.2.2] := by rw [hW2]; exact Blk.new _ _ _
  have BG2 : Below w.heap.size w W2 := by rw [hW2]; exact bal BG1 _
  have s2 : W2.heap.size = W1.heap.size + 1 := by rw [hW2]; simp
  have O2 : StO W2 g lo s a := StO.of hR hN (BG2.mono (Nat.le_of_lt hgl)) (by omega)
  have HW := Lib.hid hW0
  have HW2 := Lib.hid hW2
  have SZ := Lib.hid (show W0.heap.size = w.heap.size + 1 ∧ W1.heap.size = W0.heap.size + 1 ∧ W2.heap.size = W1.heap.size + 1 ∧ g < w.heap.size ∧ W2.drew.heap.size = W2.heap.size ∧ lo ≤ w.heap.size by have : W2.drew.heap.size = W2.heap.size := rfl; omega)
  have v0 := mt_cell KE2 (j := 0) rfl
  have cc1 : (m.kd == 1) = false := by rw [hk]; rfl
  have cc0 : (m.kd == 0) = true := by rw [hk]; rfl
  have cc2 : (m.kd == 2) = false := by rw [hk]; rfl
  have cc3 : (m.kd == 3) = false := by rw [hk]; rfl
  have cc4 : (m.kd == 4) = false := by rw [hk]; rfl
  have cc5 : (m.kd == 5) = false := by rw [hk]; rfl
  have cc6 : (m.kd == 6) = false := by rw [hk]; rfl
  have cc7 : (m.kd == 7) = false := by rw [hk]; rfl
  have xm := st_made KG2
  have hm0 := ((mayS_iff s).1 hms).1
  have hm8 := ((mayS_iff s).1 hms).2.1
  by_cases h8 : s.made = 8
  · have d8 : decide (8 ≤ s.made) = true := decide_eq_true (by omega)
    have HE := Lib.hid (show toE s m = 102 by unfold toE; rw [if_pos hk, if_pos h8])
    have BE := Lib.hid ((bal BG2 (.cells #[.string ⟨#[97, 32, 112, 114, 111, 100, 117, 99, 101, 114]⟩, .int .i64 102] 67)))
    clear KE2 KG2 KC2 KP2 BG2 O2 h8 hm0 hm8
    clear hW0 s0 B0 K0 KG KC1 fb1 fh1 fs1 KE1 KG1 BG1 s1 hW2 s2 htid hK hR hN hlo hm hg hms hmm hk htn hgl
    go_enter Tryd.func29, Tryd.ntmps29
    go_upto_region 1 with (fail)
    rw [← HW.out]
    go_region
    clear x1 y1 lt1 lt2 st1
    go_upto_region 3 with (fail)
    rw [← HW2.out]
    clear lp
    go_wp2_with fail
    go_ret
    unfold MoP
    rw [HE.out]
    exact ⟨BE.out.mono (by have := SZ.out; omega), BE.out.size, .inr ⟨by decide, _, rfl, (Blk.new W2 67 _).cell 1⟩⟩
  have d8 : decide (8 ≤ s.made) = false := decide_eq_false (by omega)
  have ew : IntKind.i64.wrap (s.made + 1) = s.made + 1 := IntWalk.i64_in _ (by omega)
  have HE := Lib.hid (show toE s m = 0 by unfold toE; rw [if_pos hk, if_neg h8])
  have HT := Lib.hid (show toS s m = { s with made := s.made + 1 } by unfold toS; rw [if_pos hk])
  obtain ⟨W3, st3, k3, fb3, fh3, fs3⟩ := st_mkmade KG2 (s.made + 1)
  have K3 := Lib.hid k3
  have B3 := Lib.hid (fb3 g w (Nat.le_refl _) (BG2.mono (Nat.le_of_lt hgl)))
  have O3 := Lib.hid (show StO W3 g lo { s with made := s.made + 1 } a from (O2.but (But.one fh3 fs3)).gr (fun _ _ => rfl))
  have S3 := Lib.hid (show w.heap.size ≤ W3.heap.size by omega)
  clear KE2 KG2 KC2 KP2 BG2 O2 h8 hm0 hm8 k3 fb3 fh3 fs3
  clear hW0 s0 B0 K0 KG KC1 fb1 fh1 fs1 KE1 KG1 BG1 s1 hW2 s2 htid hK hR hN hlo hm hg hms hmm hk htn hgl
  go_enter Tryd.func29, Tryd.ntmps29
  go_upto_region 1 with (fail)
  rw [← HW.out]
  go_region
  clear x1 y1 lt1 lt2 st1
  go_upto_region 3 with (fail)
  rw [← HW2.out]
  clear lp
  go_wp2_with fail
  go_ret
  unfold MoP
  rw [HE.out, HT.out]
  exact ⟨B3.out, by have := SZ.out; exact S3.out, .inl ⟨rfl, rfl, _, K3.out, O3.out⟩⟩
set_option maxRecDepth 100000 in
set_option maxHeartbeats 8000000 in
theorem mmove_7 (s : Sta) (a : Sad) (g t : Nat) (m : Mt) (A1 D1 : Option Addr) (c1 e1 : Nat) (w : World) (hK : Blk w g 31 (stX s a)) (hR : StR w g s a) (lo : Nat) (hN : ∀ k, k < 3 → NewAt lo (s.tid k).ps.length (a.A k) ∧ NewAt lo (s.tid k).qs.length (a.D k)) (hlo : lo ≤ w.heap.size) (hm : CoR w g m.c A1 D1) (hg : HasET w) (hms : mayS s = true) (hmm : mayM m = true) (ht : t < 3) (htid : m.tid = (t : Int)) (hk : m.kd = 7) :
    Calls Tryd.prog 29 #[.pointer (some ⟨g, 0, none⟩), .agg (mtX m A1 D1 c1 e1)] w (MoP s m g lo w) := by
  have hgl : g < w.heap.size := hK.lt
  have htn : m.tid.toNat = t := by rw [htid]; rfl
  obtain ⟨W0, hW0⟩ : ∃ W0, W0 = w.alloc (.cells (mtX m A1 D1 c1 e1) 35) := ⟨_, rfl⟩
  have s0 : W0.heap.size = w.heap.size + 1 := by rw [hW0]; simp
  have B0 : Below w.heap.size w W0 := by rw [hW0]; exact bal (Below.refl _ _) _
  have K0 : Blk W0 w.heap.size 35 (mtX m A1 D1 c1 e1) := by rw [hW0]; exact Blk.new w 35 _
  have KG : Blk W0 g 31 (stX s a) := by rw [hW0]; exact hK.alloc _
  have i1 : (0 : Int) ≤ (t : Int) := by omega
  have i2 : (t : Int) < 3 := by omega
  have x1 : W0.drew.cell? ⟨w.heap.size, 1, none⟩ = some (.int .i64 (t : Int)) := by rw [← htid]; exact mt_cell K0.drew (j := 1) rfl
  have lt1 := st_tid KG.drew t ht
  have lt2 := st_tid ((KG.alloc (.cells #[.int .i8 0, .int .i64 0, .int .i64 0, .int .i64 0, .int .i64 0, .slice none 0 0, .slice none 0 0, .int .i64 0] 26)).drew) t ht
  have y1 : (W0.alloc (.cells #[.int .i8 0, .int .i64 0, .int .i64 0, .int .i64 0, .int .i64 0, .slice none 0 0, .slice none 0 0, .int .i64 0] 26)).drew.cell? ⟨w.heap.size, 1, none⟩ = some (.int .i64 (t : Int)) := by rw [← htid]; exact mt_cell ((K0.alloc _).drew) (j := 1) rfl
  obtain ⟨W1, st1, KC1, fb1, fh1, fs1⟩ := bk_store (P := Tryd.prog) (ty := 26) (cs := #[.int .i8 (s.tid t).st, .int .i64 (s.tid t).pid, .int .i64 (s.tid t).ep, .int .i64 (s.tid t).tm, .int .i64 (s.tid t).th, .slice (a.A t) (s.tid t).ps.length (a.c t), .slice (a.D t) (s.tid t).qs.length (a.e t), .int .i64 (s.tid t).ag]) 8 (Blk.new W0 26 #[.int .i8 0, .int .i64 0, .int .i64 0, .int .i64 0, .int .i64 0, .slice none 0 0, .slice none 0 0, .int .i64 0]).drew infoCoS rfl rfl (by simp [Value.oneCell'])
  have KE1 : Blk W1 w.heap.size 35 (mtX m A1 D1 c1 e1) := (fh1 _ (by omega)).trans ((K0.alloc (.cells #[.int .i8 0, .int .i64 0, .int .i64 0, .int .i64 0, .int .i64 0, .slice none 0 0, .slice none 0 0, .int .i64 0] 26)).drew)
  have KG1 : Blk W1 g 31 (stX s a) := (fh1 _ (by omega)).trans ((KG.alloc (.cells #[.int .i8 0, .int .i64 0, .int .i64 0, .int .i64 0, .int .i64 0, .slice none 0 0, .slice none 0 0, .int .i64 0] 26)).drew)
  have BG1 : Below w.heap.size w W1 := fb1 _ _ (by omega) (bal B0 (.cells #[.int .i8 0, .int .i64 0, .int .i64 0, .int .i64 0, .int .i64 0, .slice none 0 0, .slice none 0 0, .int .i64 0] 26)).drew
  have s1 : W1.heap.size = W0.heap.size + 1 := fs1.trans (show (W0.alloc (.cells #[.int .i8 0, .int .i64 0, .int .i64 0, .int .i64 0, .int .i64 0, .slice none 0 0, .slice none 0 0, .int .i64 0] 26)).heap.size = _ by simp)
  have lp := mt_pend (P := Tryd.prog) KE1
  obtain ⟨W2, hW2⟩ : ∃ W2, W2 = W1.alloc (.cells #[.int .i64 m.p.1, .int .i64 m.p.2.1, .int .i64 m.p.2.2] 33) := ⟨_, rfl⟩
  have KE2 : Blk W2 w.heap.size 35 (mtX m A1 D1 c1 e1) := by rw [hW2]; exact KE1.alloc _
  have KG2 : Blk W2 g 31 (stX s a) := by rw [hW2]; exact KG1.alloc _
  have KC2 : Blk W2 W0.heap.size 26 #[.int .i8 (s.tid t).st, .int .i64 (s.tid t).pid, .int .i64 (s.tid t).ep, .int .i64 (s.tid t).tm, .int .i64 (s.tid t).th, .slice (a.A t) (s.tid t).ps.length (a.c t), .slice (a.D t) (s.tid t).qs.length (a.e t), .int .i64 (s.tid t).ag] := by rw [hW2]; exact KC1.alloc _
  have KP2 : Blk W2 W1.heap.size 33 #[.int .i64 m.p.1, .int .i64 m.p.2.1, .int .i64 m.p.2.2] := by rw [hW2]; exact Blk.new _ _ _
  have BG2 : Below w.heap.size w W2 := by rw [hW2]; exact bal BG1 _
  have s2 : W2.heap.size = W1.heap.size + 1 := by rw [hW2]; simp
  have O2 : StO W2 g lo s a := StO.of hR hN (BG2.mono (Nat.le_of_lt hgl)) (by omega)
  have HW := Lib.hid hW0
  have HW2 := Lib.hid hW2
  have SZ := Lib.hid (show W0.heap.size = w.heap.size + 1 ∧ W1.heap.size = W0.heap.size + 1 ∧ W2.heap.size = W1.heap.size + 1 ∧ g < w.heap.size ∧ W2.drew.heap.size = W2.heap.size ∧ lo ≤ w.heap.size by have : W2.drew.heap.size = W2.heap.size := rfl; omega)
  have v0 := mt_cell KE2 (j := 0) rfl
  have cc1 : (m.kd == 1) = false := by rw [hk]; rfl
  have cc0 : (m.kd == 0) = false := by rw [hk]; rfl
  have cc2 : (m.kd == 2) = false := by rw [hk]; rfl
  have cc3 : (m.kd == 3) = false := by rw [hk]; rfl
  have cc4 : (m.kd == 4) = false := by rw [hk]; rfl
  have cc5 : (m.kd == 5) = false := by rw [hk]; rfl
  have cc6 : (m.kd == 6) = false := by rw [hk]; rfl
  have cc7 : (m.kd == 7) = true := by rw [hk]; rfl
  have xn := mt_cell KE2 (j := 16) rfl
  have HE := Lib.hid (show toE s m = 0 by unfold toE; rw [if_neg (by omega), if_pos (by omega)])
  have HT := Lib.hid (show toS s m = { s with made := m.nx } by unfold toS; rw [if_neg (by omega), if_neg (by omega), if_pos hk])
  obtain ⟨W3, st3, k3, fb3, fh3, fs3⟩ := st_mkmade KG2 m.nx
  have K3 := Lib.hid k3
  have B3 := Lib.hid (fb3 g w (Nat.le_refl _) (BG2.mono (Nat.le_of_lt hgl)))
  have O3 := Lib.hid (show StO W3 g lo { s with made := m.nx } a from (O2.but (But.one fh3 fs3)).gr (fun _ _ => rfl))
  have S3 := Lib.hid (show w.heap.size ≤ W3.heap.size by omega)
  clear KE2 KG2 KC2 KP2 BG2 O2 k3 fb3 fh3 fs3
  clear hW0 s0 B0 K0 KG KC1 fb1 fh1 fs1 KE1 KG1 BG1 s1 hW2 s2 htid hK hR hN hlo hm hg hms hmm hk htn hgl
  go_enter Tryd.func29, Tryd.ntmps29
  go_upto_region 1 with (fail)
  rw [← HW.out]
  go_region
  clear x1 y1 lt1 lt2 st1
  go_upto_region 3 with (fail)
  rw [← HW2.out]
  clear lp
  go_wp2_with fail
  go_ret
  unfold MoP
  rw [HE.out, HT.out]
  exact ⟨B3.out, by have := SZ.out; exact S3.out, .inl ⟨rfl, rfl, _, K3.out, O3.out⟩⟩
set_option maxRecDepth 100000 in
set_option maxHeartbeats 8000000 in
theorem mmove_2 (s : Sta) (a : Sad) (g t : Nat) (m : Mt) (A1 D1 : Option Addr) (c1 e1 : Nat) (w : World) (hK : Blk w g 31 (stX s a)) (hR : StR w g s a) (lo : Nat) (hN : ∀ k, k < 3 → NewAt lo (s.tid k).ps.length (a.A k) ∧ NewAt lo (s.tid k).qs.length (a.D k)) (hlo : lo ≤ w.heap.size) (hm : CoR w g m.c A1 D1) (hg : HasET w) (hms : mayS s = true) (hmm : mayM m = true) (ht : t < 3) (htid : m.tid = (t : Int)) (hk : m.kd = 2) (hE : setE (s.tid t) m.p = 0) :
    Calls Tryd.prog 29 #[.pointer (some ⟨g, 0, none⟩), .agg (mtX m A1 D1 c1 e1)] w (MoP s m g lo w) := by
  have hgl : g < w.heap.size := hK.lt
  have htn : m.tid.toNat = t := by rw [htid]; rfl
  obtain ⟨W0, hW0⟩ : ∃ W0, W0 = w.alloc (.cells (mtX m A1 D1 c1 e1) 35) := ⟨_, rfl⟩
  have s0 : W0.heap.size = w.heap.size + 1 := by rw [hW0]; simp
  have B0 : Below w.heap.size w W0 := by rw [hW0]; exact bal (Below.refl _ _) _
  have K0 : Blk W0 w.heap.size 35 (mtX m A1 D1 c1 e1) := by rw [hW0]; exact Blk.new w 35 _
  have KG : Blk W0 g 31 (stX s a) := by rw [hW0]; exact hK.alloc _
  have i1 : (0 : Int) ≤ (t : Int) := by omega
  have i2 : (t : Int) < 3 := by omega
  have x1 : W0.drew.cell? ⟨w.heap.size, 1, none⟩ = some (.int .i64 (t : Int)) := by rw [← htid]; exact mt_cell K0.drew (j := 1) rfl
  have lt1 := st_tid KG.drew t ht
  have lt2 := st_tid ((KG.alloc (.cells #[.int .i8 0, .int .i64 0, .int .i64 0, .int .i64 0, .int .i64 0, .slice none 0 0, .slice none 0 0, .int .i64 0] 26)).drew) t ht
  have y1 : (W0.alloc (.cells #[.int .i8 0, .int .i64 0, .int .i64 0, .int .i64 0, .int .i64 0, .slice none 0 0, .slice none 0 0, .int .i64 0] 26)).drew.cell? ⟨w.heap.size, 1, none⟩ = some (.int .i64 (t : Int)) := by rw [← htid]; exact mt_cell ((K0.alloc _).drew) (j := 1) rfl
  obtain ⟨W1, st1, KC1, fb1, fh1, fs1⟩ := bk_store (P := Tryd.prog) (ty := 26) (cs := #[.int .i8 (s.tid t).st, .int .i64 (s.tid t).pid, .int .i64 (s.tid t).ep, .int .i64 (s.tid t).tm, .int .i64 (s.tid t).th, .slice (a.A t) (s.tid t).ps.length (a.c t), .slice (a.D t) (s.tid t).qs.length (a.e t), .int .i64 (s.tid t).ag]) 8 (Blk.new W0 26 #[.int .i8 0, .int .i64 0, .int .i64 0, .int .i64 0, .int .i64 0, .slice none 0 0, .slice none 0 0, .int .i64 0]).drew infoCoS rfl rfl (by simp [Value.oneCell'])
  have KE1 : Blk W1 w.heap.size 35 (mtX m A1 D1 c1 e1) := (fh1 _ (by omega)).trans ((K0.alloc (.cells #[.int .i8 0, .int .i64 0, .int .i64 0, .int .i64 0, .int .i64 0, .slice none 0 0, .slice none 0 0, .int .i64 0] 26)).drew)
  have KG1 : Blk W1 g 31 (stX s a) := (fh1 _ (by omega)).trans ((KG.alloc (.cells #[.int .i8 0, .int .i64 0, .int .i64 0, .int .i64 0, .int .i64 0, .slice none 0 0, .slice none 0 0, .int .i64 0] 26)).drew)
  have BG1 : Below w.heap.size w W1 := fb1 _ _ (by omega) (bal B0 (.cells #[.int .i8 0, .int .i64 0, .int .i64 0, .int .i64 0, .int .i64 0, .slice none 0 0, .slice none 0 0, .int .i64 0] 26)).drew
  have s1 : W1.heap.size = W0.heap.size + 1 := fs1.trans (show (W0.alloc (.cells #[.int .i8 0, .int .i64 0, .int .i64 0, .int .i64 0, .int .i64 0, .slice none 0 0, .slice none 0 0, .int .i64 0] 26)).heap.size = _ by simp)
  have lp := mt_pend (P := Tryd.prog) KE1
  obtain ⟨W2, hW2⟩ : ∃ W2, W2 = W1.alloc (.cells #[.int .i64 m.p.1, .int .i64 m.p.2.1, .int .i64 m.p.2.2] 33) := ⟨_, rfl⟩
  have KE2 : Blk W2 w.heap.size 35 (mtX m A1 D1 c1 e1) := by rw [hW2]; exact KE1.alloc _
  have KG2 : Blk W2 g 31 (stX s a) := by rw [hW2]; exact KG1.alloc _
  have KC2 : Blk W2 W0.heap.size 26 #[.int .i8 (s.tid t).st, .int .i64 (s.tid t).pid, .int .i64 (s.tid t).ep, .int .i64 (s.tid t).tm, .int .i64 (s.tid t).th, .slice (a.A t) (s.tid t).ps.length (a.c t), .slice (a.D t) (s.tid t).qs.length (a.e t), .int .i64 (s.tid t).ag] := by rw [hW2]; exact KC1.alloc _
  have KP2 : Blk W2 W1.heap.size 33 #[.int .i64 m.p.1, .int .i64 m.p.2.1, .int .i64 m.p.2.2] := by rw [hW2]; exact Blk.new _ _ _
  have BG2 : Below w.heap.size w W2 := by rw [hW2]; exact bal BG1 _
  have s2 : W2.heap.size = W1.heap.size + 1 := by rw [hW2]; simp
  have O2 : StO W2 g lo s a := StO.of hR hN (BG2.mono (Nat.le_of_lt hgl)) (by omega)
  have HW := Lib.hid hW0
  have HW2 := Lib.hid hW2
  have SZ := Lib.hid (show W0.heap.size = w.heap.size + 1 ∧ W1.heap.size = W0.heap.size + 1 ∧ W2.heap.size = W1.heap.size + 1 ∧ g < w.heap.size ∧ W2.drew.heap.size = W2.heap.size ∧ lo ≤ w.heap.size by have : W2.drew.heap.size = W2.heap.size := rfl; omega)
  have v0 := mt_cell KE2 (j := 0) rfl
  have cc1 : (m.kd == 1) = false := by rw [hk]; rfl
  have cc0 : (m.kd == 0) = false := by rw [hk]; rfl
  have cc2 : (m.kd == 2) = true := by rw [hk]; rfl
  have cc3 : (m.kd == 3) = false := by rw [hk]; rfl
  have cc4 : (m.kd == 4) = false := by rw [hk]; rfl
  have cc5 : (m.kd == 5) = false := by rw [hk]; rfl
  have cc6 : (m.kd == 6) = false := by rw [hk]; rfl
  have cc7 : (m.kd == 7) = false := by rw [hk]; rfl
  have vp := mt_pend (P := Tryd.prog) KE2
  have HTI := Lib.hid htid
  have HR := Lib.hid hR
  obtain ⟨n, hn⟩ : ∃ n, setE (s.tid t) m.p = n := ⟨_, rfl⟩
  obtain ⟨d, hd⟩ : ∃ d, setC (s.tid t) m.p = d := ⟨_, rfl⟩
  have ca := Set_any (s.tid t) (a.A t) (a.D t) (a.c t) (a.e t) m.p W2 (O2 t ht).1 (hg.up BG2)
  rw [hn, hd] at ca
  rw [hn] at hE
  have lc := bk_load (P := Tryd.prog) 8 KC2 rfl
  have HE := Lib.hid (show toE s m = n by unfold toE moveE; rw [htn, ← hn]; simp [hk])
  have HT := Lib.hid (show toS s m = s.put t d by unfold toS moveC; rw [htn, ← hd]; simp [hk, Sta.pends])
  subst hE
  have CA := Lib.hid ca
  have KE2 := Lib.hid KE2
  have KG2 := Lib.hid KG2
  have KC2 := Lib.hid KC2
  have BG2 := Lib.hid BG2
  have O2 := Lib.hid O2
  clear ca hn hd KP2
  clear hW0 s0 B0 K0 KG KC1 fb1 fh1 fs1 KE1 KG1 BG1 s1 hW2 s2 htid hK hR hN hlo hm hg hms hmm hk htn hgl
  go_enter Tryd.func29, Tryd.ntmps29
  go_upto_region 1 with (fail)
  rw [← HW.out]
  go_region
  clear x1 y1 lt1 lt2 st1
  go_upto_region 3 with (fail)
  rw [← HW2.out]
  clear lp
  go_wp2_with fail
  refine CA.out.mono ?_
  rintro e w3 ⟨A5, D5, c5, e5, rfl, r5, b5, na, nd⟩
  obtain ⟨W4, st4, k4, fb4, fh4, fs4⟩ := bk_store (P := Tryd.prog) (ty := 26) (cs := #[.int .i8 d.st, .int .i64 d.pid, .int .i64 d.ep, .int .i64 d.tm, .int .i64 d.th, .slice A5 d.ps.length c5, .slice D5 d.qs.length e5, .int .i64 d.ag]) 8 (KC2.out.below b5 (by have := SZ.out; omega)) infoCoS rfl rfl (by simp [Value.oneCell'])
  have ke4 : Blk W4 w.heap.size 35 (mtX m A1 D1 c1 e1) := (fh4 _ (by have := SZ.out; omega)).trans (KE2.out.below b5 (by have := SZ.out; omega))
  have kg4 : Blk W4 g 31 (stX s a) := (fh4 _ (by have := SZ.out; omega)).trans (KG2.out.below b5 (by have := SZ.out; omega))
  have x4 : W4.drew.cell? ⟨w.heap.size, 1, none⟩ = some (.int .i64 (t : Int)) := by rw [← HTI.out]; exact mt_cell ke4.drew (j := 1) rfl
  have l4 := bk_load (P := Tryd.prog) 8 k4.drew rfl
  obtain ⟨W5, st5, k5, fb5, fh5, fs5⟩ := st_mkput kg4.drew t ht d A5 D5 c5 e5
  have K5 := Lib.hid k5
  have bg3 : Below w.heap.size w w3 := BG2.out.trans (b5.mono BG2.out.size)
  have B5 := Lib.hid (fb5 g w (Nat.le_refl _) (fb4 g w (by have := SZ.out; omega) (bg3.mono (by have := SZ.out; omega))).drew)
  have S5 := Lib.hid (show w.heap.size ≤ W5.heap.size by have h1 := bg3.size; have h2 : W4.drew.heap.size = W4.heap.size := rfl; omega)
  have bt3 : But g _ w3 := But.below b5
  have bt4 : But W0.heap.size w3 W4 := But.one fh4 fs4
  have bt5 : But g W4 W5 := (But.drew g W4).trans (But.one fh5 fs5)
  have O5 := Lib.hid (show StO W5 g lo (s.put t d) (a.put t A5 D5 c5 e5) from by
    have hlt := SZ.out
    have o3 : StO w3 g lo s a := O2.out.but bt3
    have o4 : StO W4 g lo s a := fun j hj => ⟨((HR.out j hj).below (fb4 g w (by omega) (bg3.mono (by omega)))).more (by have := bg3.size; omega), (o3 j hj).2⟩
    have r4 : CoR W4 W4.heap.size d A5 D5 := r5.keepN na nd (b := W0.heap.size) (by omega) fh4 fs4
    have r6 : CoR W5 W5.heap.size d A5 D5 := r4.keepB (na.off (by omega)) (nd.off (by omega)) bt5.keep bt5.size
    exact (o4.but bt5).put r6 na nd (by omega) (by omega))
  clear k4 ke4 kg4 k5 fb4 fh4 fs4 fb5 fh5 fs5 bg3 bt3 bt4 bt5 r5 b5 na nd
  clear lc v0 vp
  go_wp2_with fail
  refine wp_region_qtail 7 (by kernel_rfl) (by kernel_rfl) ?_
  simp only [List.take_succ_cons, List.take_zero, List.drop_succ_cons, List.drop_zero]
  repeat (go_big_quiet_step (fail))
  refine wpQuiet_nil ?_
  go_wp2_with fail
  go_ret
  unfold MoP
  rw [HE.out, HT.out]
  exact ⟨B5.out, by have := SZ.out; exact S5.out, .inl ⟨rfl, rfl, _, K5.out, O5.out⟩⟩
set_option maxRecDepth 100000 in
set_option maxHeartbeats 8000000 in
theorem mmove_2e (s : Sta) (a : Sad) (g t : Nat) (m : Mt) (A1 D1 : Option Addr) (c1 e1 : Nat) (w : World) (hK : Blk w g 31 (stX s a)) (hR : StR w g s a) (lo : Nat) (hN : ∀ k, k < 3 → NewAt lo (s.tid k).ps.length (a.A k) ∧ NewAt lo (s.tid k).qs.length (a.D k)) (hlo : lo ≤ w.heap.size) (hm : CoR w g m.c A1 D1) (hg : HasET w) (hms : mayS s = true) (hmm : mayM m = true) (ht : t < 3) (htid : m.tid = (t : Int)) (hk : m.kd = 2) (hE : ¬ setE (s.tid t) m.p = 0) :
    Calls Tryd.prog 29 #[.pointer (some ⟨g, 0, none⟩), .agg (mtX m A1 D1 c1 e1)] w (MoP s m g lo w) := by
  have hgl : g < w.heap.size := hK.lt
  have htn : m.tid.toNat = t := by rw [htid]; rfl
  obtain ⟨W0, hW0⟩ : ∃ W0, W0 = w.alloc (.cells (mtX m A1 D1 c1 e1) 35) := ⟨_, rfl⟩
  have s0 : W0.heap.size = w.heap.size + 1 := by rw [hW0]; simp
  have B0 : Below w.heap.size w W0 := by rw [hW0]; exact bal (Below.refl _ _) _
  have K0 : Blk W0 w.heap.size 35 (mtX m A1 D1 c1 e1) := by rw [hW0]; exact Blk.new w 35 _
  have KG : Blk W0 g 31 (stX s a) := by rw [hW0]; exact hK.alloc _
  have i1 : (0 : Int) ≤ (t : Int) := by omega
  have i2 : (t : Int) < 3 := by omega
  have x1 : W0.drew.cell? ⟨w.heap.size, 1, none⟩ = some (.int .i64 (t : Int)) := by rw [← htid]; exact mt_cell K0.drew (j := 1) rfl
  have lt1 := st_tid KG.drew t ht
  have lt2 := st_tid ((KG.alloc (.cells #[.int .i8 0, .int .i64 0, .int .i64 0, .int .i64 0, .int .i64 0, .slice none 0 0, .slice none 0 0, .int .i64 0] 26)).drew) t ht
  have y1 : (W0.alloc (.cells #[.int .i8 0, .int .i64 0, .int .i64 0, .int .i64 0, .int .i64 0, .slice none 0 0, .slice none 0 0, .int .i64 0] 26)).drew.cell? ⟨w.heap.size, 1, none⟩ = some (.int .i64 (t : Int)) := by rw [← htid]; exact mt_cell ((K0.alloc _).drew) (j := 1) rfl
  obtain ⟨W1, st1, KC1, fb1, fh1, fs1⟩ := bk_store (P := Tryd.prog) (ty := 26) (cs := #[.int .i8 (s.tid t).st, .int .i64 (s.tid t).pid, .int .i64 (s.tid t).ep, .int .i64 (s.tid t).tm, .int .i64 (s.tid t).th, .slice (a.A t) (s.tid t).ps.length (a.c t), .slice (a.D t) (s.tid t).qs.length (a.e t), .int .i64 (s.tid t).ag]) 8 (Blk.new W0 26 #[.int .i8 0, .int .i64 0, .int .i64 0, .int .i64 0, .int .i64 0, .slice none 0 0, .slice none 0 0, .int .i64 0]).drew infoCoS rfl rfl (by simp [Value.oneCell'])
  have KE1 : Blk W1 w.heap.size 35 (mtX m A1 D1 c1 e1) := (fh1 _ (by omega)).trans ((K0.alloc (.cells #[.int .i8 0, .int .i64 0, .int .i64 0, .int .i64 0, .int .i64 0, .slice none 0 0, .slice none 0 0, .int .i64 0] 26)).drew)
  have KG1 : Blk W1 g 31 (stX s a) := (fh1 _ (by omega)).trans ((KG.alloc (.cells #[.int .i8 0, .int .i64 0, .int .i64 0, .int .i64 0, .int .i64 0, .slice none 0 0, .slice none 0 0, .int .i64 0] 26)).drew)
  have BG1 : Below w.heap.size w W1 := fb1 _ _ (by omega) (bal B0 (.cells #[.int .i8 0, .int .i64 0, .int .i64 0, .int .i64 0, .int .i64 0, .slice none 0 0, .slice none 0 0, .int .i64 0] 26)).drew
  have s1 : W1.heap.size = W0.heap.size + 1 := fs1.trans (show (W0.alloc (.cells #[.int .i8 0, .int .i64 0, .int .i64 0, .int .i64 0, .int .i64 0, .slice none 0 0, .slice none 0 0, .int .i64 0] 26)).heap.size = _ by simp)
  have lp := mt_pend (P := Tryd.prog) KE1
  obtain ⟨W2, hW2⟩ : ∃ W2, W2 = W1.alloc (.cells #[.int .i64 m.p.1, .int .i64 m.p.2.1, .int .i64 m.p.2.2] 33) := ⟨_, rfl⟩
  have KE2 : Blk W2 w.heap.size 35 (mtX m A1 D1 c1 e1) := by rw [hW2]; exact KE1.alloc _
  have KG2 : Blk W2 g 31 (stX s a) := by rw [hW2]; exact KG1.alloc _
  have KC2 : Blk W2 W0.heap.size 26 #[.int .i8 (s.tid t).st, .int .i64 (s.tid t).pid, .int .i64 (s.tid t).ep, .int .i64 (s.tid t).tm, .int .i64 (s.tid t).th, .slice (a.A t) (s.tid t).ps.length (a.c t), .slice (a.D t) (s.tid t).qs.length (a.e t), .int .i64 (s.tid t).ag] := by rw [hW2]; exact KC1.alloc _
  have KP2 : Blk W2 W1.heap.size 33 #[.int .i64 m.p.1, .int .i64 m.p.2.1, .int .i64 m.p.2.2] := by rw [hW2]; exact Blk.new _ _ _
  have BG2 : Below w.heap.size w W2 := by rw [hW2]; exact bal BG1 _
  have s2 : W2.heap.size = W1.heap.size + 1 := by rw [hW2]; simp
  have O2 : StO W2 g lo s a := StO.of hR hN (BG2.mono (Nat.le_of_lt hgl)) (by omega)
  have HW := Lib.hid hW0
  have HW2 := Lib.hid hW2
  have SZ := Lib.hid (show W0.heap.size = w.heap.size + 1 ∧ W1.heap.size = W0.heap.size + 1 ∧ W2.heap.size = W1.heap.size + 1 ∧ g < w.heap.size ∧ W2.drew.heap.size = W2.heap.size ∧ lo ≤ w.heap.size by have : W2.drew.heap.size = W2.heap.size := rfl; omega)
  have v0 := mt_cell KE2 (j := 0) rfl
  have cc1 : (m.kd == 1) = false := by rw [hk]; rfl
  have cc0 : (m.kd == 0) = false := by rw [hk]; rfl
  have cc2 : (m.kd == 2) = true := by rw [hk]; rfl
  have cc3 : (m.kd == 3) = false := by rw [hk]; rfl
  have cc4 : (m.kd == 4) = false := by rw [hk]; rfl
  have cc5 : (m.kd == 5) = false := by rw [hk]; rfl
  have cc6 : (m.kd == 6) = false := by rw [hk]; rfl
  have cc7 : (m.kd == 7) = false := by rw [hk]; rfl
  have vp := mt_pend (P := Tryd.prog) KE2
  have HTI := Lib.hid htid
  have HR := Lib.hid hR
  obtain ⟨n, hn⟩ : ∃ n, setE (s.tid t) m.p = n := ⟨_, rfl⟩
  obtain ⟨d, hd⟩ : ∃ d, setC (s.tid t) m.p = d := ⟨_, rfl⟩
  have ca := Set_any (s.tid t) (a.A t) (a.D t) (a.c t) (a.e t) m.p W2 (O2 t ht).1 (hg.up BG2)
  rw [hn, hd] at ca
  rw [hn] at hE
  have lc := bk_load (P := Tryd.prog) 8 KC2 rfl
  have HE := Lib.hid (show toE s m = n by unfold toE moveE; rw [htn, ← hn]; simp [hk])
  have HT := Lib.hid (show toS s m = s.put t d by unfold toS moveC; rw [htn, ← hd]; simp [hk, Sta.pends])
  have dn : (n == 0) = false := eqb_false hE
  have dn2 : (n != 0) = true := by simp [hE]
  have HNE := Lib.hid hE
  have CA := Lib.hid ca
  have KE2 := Lib.hid KE2
  have KG2 := Lib.hid KG2
  have KC2 := Lib.hid KC2
  have BG2 := Lib.hid BG2
  have O2 := Lib.hid O2
  clear ca hn hd KP2 hE
  clear hW0 s0 B0 K0 KG KC1 fb1 fh1 fs1 KE1 KG1 BG1 s1 hW2 s2 htid hK hR hN hlo hm hg hms hmm hk htn hgl
  go_enter Tryd.func29, Tryd.ntmps29
  go_upto_region 1 with (fail)
  rw [← HW.out]
  go_region
  clear x1 y1 lt1 lt2 st1
  go_upto_region 3 with (fail)
  rw [← HW2.out]
  clear lp
  go_wp2_with fail
  refine CA.out.mono ?_
  rintro e w3 ⟨A5, D5, c5, e5, rfl, r5, b5, na, nd⟩
  obtain ⟨W4, st4, k4, fb4, fh4, fs4⟩ := bk_store (P := Tryd.prog) (ty := 26) (cs := #[.int .i8 d.st, .int .i64 d.pid, .int .i64 d.ep, .int .i64 d.tm, .int .i64 d.th, .slice A5 d.ps.length c5, .slice D5 d.qs.length e5, .int .i64 d.ag]) 8 (KC2.out.below b5 (by have := SZ.out; omega)) infoCoS rfl rfl (by simp [Value.oneCell'])
  have ke4 : Blk W4 w.heap.size 35 (mtX m A1 D1 c1 e1) := (fh4 _ (by have := SZ.out; omega)).trans (KE2.out.below b5 (by have := SZ.out; omega))
  have kg4 : Blk W4 g 31 (stX s a) := (fh4 _ (by have := SZ.out; omega)).trans (KG2.out.below b5 (by have := SZ.out; omega))
  have x4 : W4.drew.cell? ⟨w.heap.size, 1, none⟩ = some (.int .i64 (t : Int)) := by rw [← HTI.out]; exact mt_cell ke4.drew (j := 1) rfl
  have l4 := bk_load (P := Tryd.prog) 8 k4.drew rfl
  obtain ⟨W5, st5, k5, fb5, fh5, fs5⟩ := st_mkput kg4.drew t ht d A5 D5 c5 e5
  have K5 := Lib.hid k5
  have bg3 : Below w.heap.size w w3 := BG2.out.trans (b5.mono BG2.out.size)
  have B5 := Lib.hid (fb5 g w (Nat.le_refl _) (fb4 g w (by have := SZ.out; omega) (bg3.mono (by have := SZ.out; omega))).drew)
  have S5 := Lib.hid (show w.heap.size ≤ W5.heap.size by have h1 := bg3.size; have h2 : W4.drew.heap.size = W4.heap.size := rfl; omega)
  have bt3 : But g _ w3 := But.below b5
  have bt4 : But W0.heap.size w3 W4 := But.one fh4 fs4
  have bt5 : But g W4 W5 := (But.drew g W4).trans (But.one fh5 fs5)
  have O5 := Lib.hid (show StO W5 g lo (s.put t d) (a.put t A5 D5 c5 e5) from by
    have hlt := SZ.out
    have o3 : StO w3 g lo s a := O2.out.but bt3
    have o4 : StO W4 g lo s a := fun j hj => ⟨((HR.out j hj).below (fb4 g w (by omega) (bg3.mono (by omega)))).more (by have := bg3.size; omega), (o3 j hj).2⟩
    have r4 : CoR W4 W4.heap.size d A5 D5 := r5.keepN na nd (b := W0.heap.size) (by omega) fh4 fs4
    have r6 : CoR W5 W5.heap.size d A5 D5 := r4.keepB (na.off (by omega)) (nd.off (by omega)) bt5.keep bt5.size
    exact (o4.but bt5).put r6 na nd (by omega) (by omega))
  clear k4 ke4 kg4 k5 fb4 fh4 fs4 fb5 fh5 fs5 bg3 bt3 bt4 bt5 r5 b5 na nd
  clear lc v0 vp
  go_wp2_with fail
  refine wp_region_qtail 7 (by kernel_rfl) (by kernel_rfl) ?_
  simp only [List.take_succ_cons, List.take_zero, List.drop_succ_cons, List.drop_zero]
  repeat (go_big_quiet_step (fail))
  refine wpQuiet_nil ?_
  go_wp2_with fail
  go_ret
  unfold MoP
  rw [HE.out]
  exact ⟨(B5.out.alloc (by have := S5.out; have := SZ.out; omega) _), by have := S5.out; simp; omega, .inr ⟨HNE.out, _, rfl, (Blk.new W5 67 _).cell 1⟩⟩
theorem mmove_2_all (s : Sta) (a : Sad) (g t : Nat) (m : Mt) (A1 D1 : Option Addr) (c1 e1 : Nat) (w : World) (hK : Blk w g 31 (stX s a)) (hR : StR w g s a) (lo : Nat) (hN : ∀ k, k < 3 → NewAt lo (s.tid k).ps.length (a.A k) ∧ NewAt lo (s.tid k).qs.length (a.D k)) (hlo : lo ≤ w.heap.size) (hm : CoR w g m.c A1 D1) (hg : HasET w) (hms : mayS s = true) (hmm : mayM m = true) (ht : t < 3) (htid : m.tid = (t : Int)) (hk : m.kd = 2) :
    Calls Tryd.prog 29 #[.pointer (some ⟨g, 0, none⟩), .agg (mtX m A1 D1 c1 e1)] w (MoP s m g lo w) := by
  by_cases hE : setE (s.tid t) m.p = 0
  · exact mmove_2 s a g t m A1 D1 c1 e1 w hK hR lo hN hlo hm hg hms hmm ht htid hk hE
  · exact mmove_2e s a g t m A1 D1 c1 e1 w hK hR lo hN hlo hm hg hms hmm ht htid hk hE
set_option maxRecDepth 100000 in
set_option maxHeartbeats 8000000 in
theorem mmove_3 (s : Sta) (a : Sad) (g t : Nat) (m : Mt) (A1 D1 : Option Addr) (c1 e1 : Nat) (w : World) (hK : Blk w g 31 (stX s a)) (hR : StR w g s a) (lo : Nat) (hN : ∀ k, k < 3 → NewAt lo (s.tid k).ps.length (a.A k) ∧ NewAt lo (s.tid k).qs.length (a.D k)) (hlo : lo ≤ w.heap.size) (hm : CoR w g m.c A1 D1) (hg : HasET w) (hms : mayS s = true) (hmm : mayM m = true) (ht : t < 3) (htid : m.tid = (t : Int)) (hk : m.kd = 3) (hE : prepE (s.tid t) m.yes m.th = 0) :
    Calls Tryd.prog 29 #[.pointer (some ⟨g, 0, none⟩), .agg (mtX m A1 D1 c1 e1)] w (MoP s m g lo w) := by
  have hgl : g < w.heap.size := hK.lt
  have htn : m.tid.toNat = t := by rw [htid]; rfl
  obtain ⟨W0, hW0⟩ : ∃ W0, W0 = w.alloc (.cells (mtX m A1 D1 c1 e1) 35) := ⟨_, rfl⟩
  have s0 : W0.heap.size = w.heap.size + 1 := by rw [hW0]; simp
  have B0 : Below w.heap.size w W0 := by rw [hW0]; exact bal (Below.refl _ _) _
  have K0 : Blk W0 w.heap.size 35 (mtX m A1 D1 c1 e1) := by rw [hW0]; exact Blk.new w 35 _
  have KG : Blk W0 g 31 (stX s a) := by rw [hW0]; exact hK.alloc _
  have i1 : (0 : Int) ≤ (t : Int) := by omega
  have i2 : (t : Int) < 3 := by omega
  have x1 : W0.drew.cell? ⟨w.heap.size, 1, none⟩ = some (.int .i64 (t : Int)) := by rw [← htid]; exact mt_cell K0.drew (j := 1) rfl
  have lt1 := st_tid KG.drew t ht
  have lt2 := st_tid ((KG.alloc (.cells #[.int .i8 0, .int .i64 0, .int .i64 0, .int .i64 0, .int .i64 0, .slice none 0 0, .slice none 0 0, .int .i64 0] 26)).drew) t ht
  have y1 : (W0.alloc (.cells #[.int .i8 0, .int .i64 0, .int .i64 0, .int .i64 0, .int .i64 0, .slice none 0 0, .slice none 0 0, .int .i64 0] 26)).drew.cell? ⟨w.heap.size, 1, none⟩ = some (.int .i64 (t : Int)) := by rw [← htid]; exact mt_cell ((K0.alloc _).drew) (j := 1) rfl
  obtain ⟨W1, st1, KC1, fb1, fh1, fs1⟩ := bk_store (P := Tryd.prog) (ty := 26) (cs := #[.int .i8 (s.tid t).st, .int .i64 (s.tid t).pid, .int .i64 (s.tid t).ep, .int .i64 (s.tid t).tm, .int .i64 (s.tid t).th, .slice (a.A t) (s.tid t).ps.length (a.c t), .slice (a.D t) (s.tid t).qs.length (a.e t), .int .i64 (s.tid t).ag]) 8 (Blk.new W0 26 #[.int .i8 0, .int .i64 0, .int .i64 0, .int .i64 0, .int .i64 0, .slice none 0 0, .slice none 0 0, .int .i64 0]).drew infoCoS rfl rfl (by simp [Value.oneCell'])
  have KE1 : Blk W1 w.heap.size 35 (mtX m A1 D1 c1 e1) := (fh1 _ (by omega)).trans ((K0.alloc (.cells #[.int .i8 0, .int .i64 0, .int .i64 0, .int .i64 0, .int .i64 0, .slice none 0 0, .slice none 0 0, .int .i64 0] 26)).drew)
  have KG1 : Blk W1 g 31 (stX s a) := (fh1 _ (by omega)).trans ((KG.alloc (.cells #[.int .i8 0, .int .i64 0, .int .i64 0, .int .i64 0, .int .i64 0, .slice none 0 0, .slice none 0 0, .int .i64 0] 26)).drew)
  have BG1 : Below w.heap.size w W1 := fb1 _ _ (by omega) (bal B0 (.cells #[.int .i8 0, .int .i64 0, .int .i64 0, .int .i64 0, .int .i64 0, .slice none 0 0, .slice none 0 0, .int .i64 0] 26)).drew
  have s1 : W1.heap.size = W0.heap.size + 1 := fs1.trans (show (W0.alloc (.cells #[.int .i8 0, .int .i64 0, .int .i64 0, .int .i64 0, .int .i64 0, .slice none 0 0, .slice none 0 0, .int .i64 0] 26)).heap.size = _ by simp)
  have lp := mt_pend (P := Tryd.prog) KE1
  obtain ⟨W2, hW2⟩ : ∃ W2, W2 = W1.alloc (.cells #[.int .i64 m.p.1, .int .i64 m.p.2.1, .int .i64 m.p.2.2] 33) := ⟨_, rfl⟩
  have KE2 : Blk W2 w.heap.size 35 (mtX m A1 D1 c1 e1) := by rw [hW2]; exact KE1.alloc _
  have KG2 : Blk W2 g 31 (stX s a) := by rw [hW2]; exact KG1.alloc _
  have KC2 : Blk W2 W0.heap.size 26 #[.int .i8 (s.tid t).st, .int .i64 (s.tid t).pid, .int .i64 (s.tid t).ep, .int .i64 (s.tid t).tm, .int .i64 (s.tid t).th, .slice (a.A t) (s.tid t).ps.length (a.c t), .slice (a.D t) (s.tid t).qs.length (a.e t), .int .i64 (s.tid t).ag] := by rw [hW2]; exact KC1.alloc _
  have KP2 : Blk W2 W1.heap.size 33 #[.int .i64 m.p.1, .int .i64 m.p.2.1, .int .i64 m.p.2.2] := by rw [hW2]; exact Blk.new _ _ _
  have BG2 : Below w.heap.size w W2 := by rw [hW2]; exact bal BG1 _
  have s2 : W2.heap.size = W1.heap.size + 1 := by rw [hW2]; simp
  have O2 : StO W2 g lo s a := StO.of hR hN (BG2.mono (Nat.le_of_lt hgl)) (by omega)
  have HW := Lib.hid hW0
  have HW2 := Lib.hid hW2
  have SZ := Lib.hid (show W0.heap.size = w.heap.size + 1 ∧ W1.heap.size = W0.heap.size + 1 ∧ W2.heap.size = W1.heap.size + 1 ∧ g < w.heap.size ∧ W2.drew.heap.size = W2.heap.size ∧ lo ≤ w.heap.size by have : W2.drew.heap.size = W2.heap.size := rfl; omega)
  have v0 := mt_cell KE2 (j := 0) rfl
  have cc1 : (m.kd == 1) = false := by rw [hk]; rfl
  have cc0 : (m.kd == 0) = false := by rw [hk]; rfl
  have cc2 : (m.kd == 2) = false := by rw [hk]; rfl
  have cc3 : (m.kd == 3) = true := by rw [hk]; rfl
  have cc4 : (m.kd == 4) = false := by rw [hk]; rfl
  have cc5 : (m.kd == 5) = false := by rw [hk]; rfl
  have cc6 : (m.kd == 6) = false := by rw [hk]; rfl
  have cc7 : (m.kd == 7) = false := by rw [hk]; rfl
  have vy := mt_cell KE2 (j := 6) rfl
  have vh := mt_cell KE2 (j := 7) rfl
  have HTI := Lib.hid htid
  have HR := Lib.hid hR
  obtain ⟨n, hn⟩ : ∃ n, prepE (s.tid t) m.yes m.th = n := ⟨_, rfl⟩
  obtain ⟨d, hd⟩ : ∃ d, prepC (s.tid t) m.yes m.th = d := ⟨_, rfl⟩
  have ca := Prepare_any (s.tid t) (a.A t) (a.D t) (a.c t) (a.e t) m.yes m.th W2 (O2 t ht).1 (hg.up BG2)
  rw [hn, hd] at ca
  rw [hn] at hE
  have lc := bk_load (P := Tryd.prog) 8 KC2 rfl
  have HE := Lib.hid (show toE s m = n by unfold toE moveE; rw [htn, ← hn]; simp [hk])
  have HT := Lib.hid (show toS s m = s.put t d by unfold toS moveC; rw [htn, ← hd]; simp [hk, Sta.pends])
  subst hE
  have CA := Lib.hid ca
  have KE2 := Lib.hid KE2
  have KG2 := Lib.hid KG2
  have KC2 := Lib.hid KC2
  have BG2 := Lib.hid BG2
  have O2 := Lib.hid O2
  clear ca hn hd KP2
  clear hW0 s0 B0 K0 KG KC1 fb1 fh1 fs1 KE1 KG1 BG1 s1 hW2 s2 htid hK hR hN hlo hm hg hms hmm hk htn hgl
  go_enter Tryd.func29, Tryd.ntmps29
  go_upto_region 1 with (fail)
  rw [← HW.out]
  go_region
  clear x1 y1 lt1 lt2 st1
  go_upto_region 3 with (fail)
  rw [← HW2.out]
  clear lp
  go_wp2_with fail
  refine CA.out.mono ?_
  rintro e w3 ⟨A5, D5, c5, e5, rfl, r5, b5, na, nd⟩
  obtain ⟨W4, st4, k4, fb4, fh4, fs4⟩ := bk_store (P := Tryd.prog) (ty := 26) (cs := #[.int .i8 d.st, .int .i64 d.pid, .int .i64 d.ep, .int .i64 d.tm, .int .i64 d.th, .slice A5 d.ps.length c5, .slice D5 d.qs.length e5, .int .i64 d.ag]) 8 (KC2.out.below b5 (by have := SZ.out; omega)) infoCoS rfl rfl (by simp [Value.oneCell'])
  have ke4 : Blk W4 w.heap.size 35 (mtX m A1 D1 c1 e1) := (fh4 _ (by have := SZ.out; omega)).trans (KE2.out.below b5 (by have := SZ.out; omega))
  have kg4 : Blk W4 g 31 (stX s a) := (fh4 _ (by have := SZ.out; omega)).trans (KG2.out.below b5 (by have := SZ.out; omega))
  have x4 : W4.drew.cell? ⟨w.heap.size, 1, none⟩ = some (.int .i64 (t : Int)) := by rw [← HTI.out]; exact mt_cell ke4.drew (j := 1) rfl
  have l4 := bk_load (P := Tryd.prog) 8 k4.drew rfl
  obtain ⟨W5, st5, k5, fb5, fh5, fs5⟩ := st_mkput kg4.drew t ht d A5 D5 c5 e5
  have K5 := Lib.hid k5
  have bg3 : Below w.heap.size w w3 := BG2.out.trans (b5.mono BG2.out.size)
  have B5 := Lib.hid (fb5 g w (Nat.le_refl _) (fb4 g w (by have := SZ.out; omega) (bg3.mono (by have := SZ.out; omega))).drew)
  have S5 := Lib.hid (show w.heap.size ≤ W5.heap.size by have h1 := bg3.size; have h2 : W4.drew.heap.size = W4.heap.size := rfl; omega)
  have bt3 : But g _ w3 := But.below b5
  have bt4 : But W0.heap.size w3 W4 := But.one fh4 fs4
  have bt5 : But g W4 W5 := (But.drew g W4).trans (But.one fh5 fs5)
  have O5 := Lib.hid (show StO W5 g lo (s.put t d) (a.put t A5 D5 c5 e5) from by
    have hlt := SZ.out
    have o3 : StO w3 g lo s a := O2.out.but bt3
    have o4 : StO W4 g lo s a := fun j hj => ⟨((HR.out j hj).below (fb4 g w (by omega) (bg3.mono (by omega)))).more (by have := bg3.size; omega), (o3 j hj).2⟩
    have r4 : CoR W4 W4.heap.size d A5 D5 := r5.keepN na nd (b := W0.heap.size) (by omega) fh4 fs4
    have r6 : CoR W5 W5.heap.size d A5 D5 := r4.keepB (na.off (by omega)) (nd.off (by omega)) bt5.keep bt5.size
    exact (o4.but bt5).put r6 na nd (by omega) (by omega))
  clear k4 ke4 kg4 k5 fb4 fh4 fs4 fb5 fh5 fs5 bg3 bt3 bt4 bt5 r5 b5 na nd
  clear lc v0 vy vh
  go_wp2_with fail
  refine wp_region_qtail 7 (by kernel_rfl) (by kernel_rfl) ?_
  simp only [List.take_succ_cons, List.take_zero, List.drop_succ_cons, List.drop_zero]
  repeat (go_big_quiet_step (fail))
  refine wpQuiet_nil ?_
  go_wp2_with fail
  go_ret
  unfold MoP
  rw [HE.out, HT.out]
  exact ⟨B5.out, by have := SZ.out; exact S5.out, .inl ⟨rfl, rfl, _, K5.out, O5.out⟩⟩
set_option maxRecDepth 100000 in
set_option maxHeartbeats 8000000 in
theorem mmove_3e (s : Sta) (a : Sad) (g t : Nat) (m : Mt) (A1 D1 : Option Addr) (c1 e1 : Nat) (w : World) (hK : Blk w g 31 (stX s a)) (hR : StR w g s a) (lo : Nat) (hN : ∀ k, k < 3 → NewAt lo (s.tid k).ps.length (a.A k) ∧ NewAt lo (s.tid k).qs.length (a.D k)) (hlo : lo ≤ w.heap.size) (hm : CoR w g m.c A1 D1) (hg : HasET w) (hms : mayS s = true) (hmm : mayM m = true) (ht : t < 3) (htid : m.tid = (t : Int)) (hk : m.kd = 3) (hE : ¬ prepE (s.tid t) m.yes m.th = 0) :
    Calls Tryd.prog 29 #[.pointer (some ⟨g, 0, none⟩), .agg (mtX m A1 D1 c1 e1)] w (MoP s m g lo w) := by
  have hgl : g < w.heap.size := hK.lt
  have htn : m.tid.toNat = t := by rw [htid]; rfl
  obtain ⟨W0, hW0⟩ : ∃ W0, W0 = w.alloc (.cells (mtX m A1 D1 c1 e1) 35) := ⟨_, rfl⟩
  have s0 : W0.heap.size = w.heap.size + 1 := by rw [hW0]; simp
  have B0 : Below w.heap.size w W0 := by rw [hW0]; exact bal (Below.refl _ _) _
  have K0 : Blk W0 w.heap.size 35 (mtX m A1 D1 c1 e1) := by rw [hW0]; exact Blk.new w 35 _
  have KG : Blk W0 g 31 (stX s a) := by rw [hW0]; exact hK.alloc _
  have i1 : (0 : Int) ≤ (t : Int) := by omega
  have i2 : (t : Int) < 3 := by omega
  have x1 : W0.drew.cell? ⟨w.heap.size, 1, none⟩ = some (.int .i64 (t : Int)) := by rw [← htid]; exact mt_cell K0.drew (j := 1) rfl
  have lt1 := st_tid KG.drew t ht
  have lt2 := st_tid ((KG.alloc (.cells #[.int .i8 0, .int .i64 0, .int .i64 0, .int .i64 0, .int .i64 0, .slice none 0 0, .slice none 0 0, .int .i64 0] 26)).drew) t ht
  have y1 : (W0.alloc (.cells #[.int .i8 0, .int .i64 0, .int .i64 0, .int .i64 0, .int .i64 0, .slice none 0 0, .slice none 0 0, .int .i64 0] 26)).drew.cell? ⟨w.heap.size, 1, none⟩ = some (.int .i64 (t : Int)) := by rw [← htid]; exact mt_cell ((K0.alloc _).drew) (j := 1) rfl
  obtain ⟨W1, st1, KC1, fb1, fh1, fs1⟩ := bk_store (P := Tryd.prog) (ty := 26) (cs := #[.int .i8 (s.tid t).st, .int .i64 (s.tid t).pid, .int .i64 (s.tid t).ep, .int .i64 (s.tid t).tm, .int .i64 (s.tid t).th, .slice (a.A t) (s.tid t).ps.length (a.c t), .slice (a.D t) (s.tid t).qs.length (a.e t), .int .i64 (s.tid t).ag]) 8 (Blk.new W0 26 #[.int .i8 0, .int .i64 0, .int .i64 0, .int .i64 0, .int .i64 0, .slice none 0 0, .slice none 0 0, .int .i64 0]).drew infoCoS rfl rfl (by simp [Value.oneCell'])
  have KE1 : Blk W1 w.heap.size 35 (mtX m A1 D1 c1 e1) := (fh1 _ (by omega)).trans ((K0.alloc (.cells #[.int .i8 0, .int .i64 0, .int .i64 0, .int .i64 0, .int .i64 0, .slice none 0 0, .slice none 0 0, .int .i64 0] 26)).drew)
  have KG1 : Blk W1 g 31 (stX s a) := (fh1 _ (by omega)).trans ((KG.alloc (.cells #[.int .i8 0, .int .i64 0, .int .i64 0, .int .i64 0, .int .i64 0, .slice none 0 0, .slice none 0 0, .int .i64 0] 26)).drew)
  have BG1 : Below w.heap.size w W1 := fb1 _ _ (by omega) (bal B0 (.cells #[.int .i8 0, .int .i64 0, .int .i64 0, .int .i64 0, .int .i64 0, .slice none 0 0, .slice none 0 0, .int .i64 0] 26)).drew
  have s1 : W1.heap.size = W0.heap.size + 1 := fs1.trans (show (W0.alloc (.cells #[.int .i8 0, .int .i64 0, .int .i64 0, .int .i64 0, .int .i64 0, .slice none 0 0, .slice none 0 0, .int .i64 0] 26)).heap.size = _ by simp)
  have lp := mt_pend (P := Tryd.prog) KE1
  obtain ⟨W2, hW2⟩ : ∃ W2, W2 = W1.alloc (.cells #[.int .i64 m.p.1, .int .i64 m.p.2.1, .int .i64 m.p.2.2] 33) := ⟨_, rfl⟩
  have KE2 : Blk W2 w.heap.size 35 (mtX m A1 D1 c1 e1) := by rw [hW2]; exact KE1.alloc _
  have KG2 : Blk W2 g 31 (stX s a) := by rw [hW2]; exact KG1.alloc _
  have KC2 : Blk W2 W0.heap.size 26 #[.int .i8 (s.tid t).st, .int .i64 (s.tid t).pid, .int .i64 (s.tid t).ep, .int .i64 (s.tid t).tm, .int .i64 (s.tid t).th, .slice (a.A t) (s.tid t).ps.length (a.c t), .slice (a.D t) (s.tid t).qs.length (a.e t), .int .i64 (s.tid t).ag] := by rw [hW2]; exact KC1.alloc _
  have KP2 : Blk W2 W1.heap.size 33 #[.int .i64 m.p.1, .int .i64 m.p.2.1, .int .i64 m.p.2.2] := by rw [hW2]; exact Blk.new _ _ _
  have BG2 : Below w.heap.size w W2 := by rw [hW2]; exact bal BG1 _
  have s2 : W2.heap.size = W1.heap.size + 1 := by rw [hW2]; simp
  have O2 : StO W2 g lo s a := StO.of hR hN (BG2.mono (Nat.le_of_lt hgl)) (by omega)
  have HW := Lib.hid hW0
  have HW2 := Lib.hid hW2
  have SZ := Lib.hid (show W0.heap.size = w.heap.size + 1 ∧ W1.heap.size = W0.heap.size + 1 ∧ W2.heap.size = W1.heap.size + 1 ∧ g < w.heap.size ∧ W2.drew.heap.size = W2.heap.size ∧ lo ≤ w.heap.size by have : W2.drew.heap.size = W2.heap.size := rfl; omega)
  have v0 := mt_cell KE2 (j := 0) rfl
  have cc1 : (m.kd == 1) = false := by rw [hk]; rfl
  have cc0 : (m.kd == 0) = false := by rw [hk]; rfl
  have cc2 : (m.kd == 2) = false := by rw [hk]; rfl
  have cc3 : (m.kd == 3) = true := by rw [hk]; rfl
  have cc4 : (m.kd == 4) = false := by rw [hk]; rfl
  have cc5 : (m.kd == 5) = false := by rw [hk]; rfl
  have cc6 : (m.kd == 6) = false := by rw [hk]; rfl
  have cc7 : (m.kd == 7) = false := by rw [hk]; rfl
  have vy := mt_cell KE2 (j := 6) rfl
  have vh := mt_cell KE2 (j := 7) rfl
  have HTI := Lib.hid htid
  have HR := Lib.hid hR
  obtain ⟨n, hn⟩ : ∃ n, prepE (s.tid t) m.yes m.th = n := ⟨_, rfl⟩
  obtain ⟨d, hd⟩ : ∃ d, prepC (s.tid t) m.yes m.th = d := ⟨_, rfl⟩
  have ca := Prepare_any (s.tid t) (a.A t) (a.D t) (a.c t) (a.e t) m.yes m.th W2 (O2 t ht).1 (hg.up BG2)
  rw [hn, hd] at ca
  rw [hn] at hE
  have lc := bk_load (P := Tryd.prog) 8 KC2 rfl
  have HE := Lib.hid (show toE s m = n by unfold toE moveE; rw [htn, ← hn]; simp [hk])
  have HT := Lib.hid (show toS s m = s.put t d by unfold toS moveC; rw [htn, ← hd]; simp [hk, Sta.pends])
  have dn : (n == 0) = false := eqb_false hE
  have dn2 : (n != 0) = true := by simp [hE]
  have HNE := Lib.hid hE
  have CA := Lib.hid ca
  have KE2 := Lib.hid KE2
  have KG2 := Lib.hid KG2
  have KC2 := Lib.hid KC2
  have BG2 := Lib.hid BG2
  have O2 := Lib.hid O2
  clear ca hn hd KP2 hE
  clear hW0 s0 B0 K0 KG KC1 fb1 fh1 fs1 KE1 KG1 BG1 s1 hW2 s2 htid hK hR hN hlo hm hg hms hmm hk htn hgl
  go_enter Tryd.func29, Tryd.ntmps29
  go_upto_region 1 with (fail)
  rw [← HW.out]
  go_region
  clear x1 y1 lt1 lt2 st1
  go_upto_region 3 with (fail)
  rw [← HW2.out]
  clear lp
  go_wp2_with fail
  refine CA.out.mono ?_
  rintro e w3 ⟨A5, D5, c5, e5, rfl, r5, b5, na, nd⟩
  obtain ⟨W4, st4, k4, fb4, fh4, fs4⟩ := bk_store (P := Tryd.prog) (ty := 26) (cs := #[.int .i8 d.st, .int .i64 d.pid, .int .i64 d.ep, .int .i64 d.tm, .int .i64 d.th, .slice A5 d.ps.length c5, .slice D5 d.qs.length e5, .int .i64 d.ag]) 8 (KC2.out.below b5 (by have := SZ.out; omega)) infoCoS rfl rfl (by simp [Value.oneCell'])
  have ke4 : Blk W4 w.heap.size 35 (mtX m A1 D1 c1 e1) := (fh4 _ (by have := SZ.out; omega)).trans (KE2.out.below b5 (by have := SZ.out; omega))
  have kg4 : Blk W4 g 31 (stX s a) := (fh4 _ (by have := SZ.out; omega)).trans (KG2.out.below b5 (by have := SZ.out; omega))
  have x4 : W4.drew.cell? ⟨w.heap.size, 1, none⟩ = some (.int .i64 (t : Int)) := by rw [← HTI.out]; exact mt_cell ke4.drew (j := 1) rfl
  have l4 := bk_load (P := Tryd.prog) 8 k4.drew rfl
  obtain ⟨W5, st5, k5, fb5, fh5, fs5⟩ := st_mkput kg4.drew t ht d A5 D5 c5 e5
  have K5 := Lib.hid k5
  have bg3 : Below w.heap.size w w3 := BG2.out.trans (b5.mono BG2.out.size)
  have B5 := Lib.hid (fb5 g w (Nat.le_refl _) (fb4 g w (by have := SZ.out; omega) (bg3.mono (by have := SZ.out; omega))).drew)
  have S5 := Lib.hid (show w.heap.size ≤ W5.heap.size by have h1 := bg3.size; have h2 : W4.drew.heap.size = W4.heap.size := rfl; omega)
  have bt3 : But g _ w3 := But.below b5
  have bt4 : But W0.heap.size w3 W4 := But.one fh4 fs4
  have bt5 : But g W4 W5 := (But.drew g W4).trans (But.one fh5 fs5)
  have O5 := Lib.hid (show StO W5 g lo (s.put t d) (a.put t A5 D5 c5 e5) from by
    have hlt := SZ.out
    have o3 : StO w3 g lo s a := O2.out.but bt3
    have o4 : StO W4 g lo s a := fun j hj => ⟨((HR.out j hj).below (fb4 g w (by omega) (bg3.mono (by omega)))).more (by have := bg3.size; omega), (o3 j hj).2⟩
    have r4 : CoR W4 W4.heap.size d A5 D5 := r5.keepN na nd (b := W0.heap.size) (by omega) fh4 fs4
    have r6 : CoR W5 W5.heap.size d A5 D5 := r4.keepB (na.off (by omega)) (nd.off (by omega)) bt5.keep bt5.size
    exact (o4.but bt5).put r6 na nd (by omega) (by omega))
  clear k4 ke4 kg4 k5 fb4 fh4 fs4 fb5 fh5 fs5 bg3 bt3 bt4 bt5 r5 b5 na nd
  clear lc v0 vy vh
  go_wp2_with fail
  refine wp_region_qtail 7 (by kernel_rfl) (by kernel_rfl) ?_
  simp only [List.take_succ_cons, List.take_zero, List.drop_succ_cons, List.drop_zero]
  repeat (go_big_quiet_step (fail))
  refine wpQuiet_nil ?_
  go_wp2_with fail
  go_ret
  unfold MoP
  rw [HE.out]
  exact ⟨(B5.out.alloc (by have := S5.out; have := SZ.out; omega) _), by have := S5.out; simp; omega, .inr ⟨HNE.out, _, rfl, (Blk.new W5 67 _).cell 1⟩⟩
theorem mmove_3_all (s : Sta) (a : Sad) (g t : Nat) (m : Mt) (A1 D1 : Option Addr) (c1 e1 : Nat) (w : World) (hK : Blk w g 31 (stX s a)) (hR : StR w g s a) (lo : Nat) (hN : ∀ k, k < 3 → NewAt lo (s.tid k).ps.length (a.A k) ∧ NewAt lo (s.tid k).qs.length (a.D k)) (hlo : lo ≤ w.heap.size) (hm : CoR w g m.c A1 D1) (hg : HasET w) (hms : mayS s = true) (hmm : mayM m = true) (ht : t < 3) (htid : m.tid = (t : Int)) (hk : m.kd = 3) :
    Calls Tryd.prog 29 #[.pointer (some ⟨g, 0, none⟩), .agg (mtX m A1 D1 c1 e1)] w (MoP s m g lo w) := by
  by_cases hE : prepE (s.tid t) m.yes m.th = 0
  · exact mmove_3 s a g t m A1 D1 c1 e1 w hK hR lo hN hlo hm hg hms hmm ht htid hk hE
  · exact mmove_3e s a g t m A1 D1 c1 e1 w hK hR lo hN hlo hm hg hms hmm ht htid hk hE
set_option maxRecDepth 100000 in
set_option maxHeartbeats 8000000 in
theorem mmove_5 (s : Sta) (a : Sad) (g t : Nat) (m : Mt) (A1 D1 : Option Addr) (c1 e1 : Nat) (w : World) (hK : Blk w g 31 (stX s a)) (hR : StR w g s a) (lo : Nat) (hN : ∀ k, k < 3 → NewAt lo (s.tid k).ps.length (a.A k) ∧ NewAt lo (s.tid k).qs.length (a.D k)) (hlo : lo ≤ w.heap.size) (hm : CoR w g m.c A1 D1) (hg : HasET w) (hms : mayS s = true) (hmm : mayM m = true) (ht : t < 3) (htid : m.tid = (t : Int)) (hk : m.kd = 5) :
    Calls Tryd.prog 29 #[.pointer (some ⟨g, 0, none⟩), .agg (mtX m A1 D1 c1 e1)] w (MoP s m g lo w) := by
  have hgl : g < w.heap.size := hK.lt
  have htn : m.tid.toNat = t := by rw [htid]; rfl
  obtain ⟨W0, hW0⟩ : ∃ W0, W0 = w.alloc (.cells (mtX m A1 D1 c1 e1) 35) := ⟨_, rfl⟩
  have s0 : W0.heap.size = w.heap.size + 1 := by rw [hW0]; simp
  have B0 : Below w.heap.size w W0 := by rw [hW0]; exact bal (Below.refl _ _) _
  have K0 : Blk W0 w.heap.size 35 (mtX m A1 D1 c1 e1) := by rw [hW0]; exact Blk.new w 35 _
  have KG : Blk W0 g 31 (stX s a) := by rw [hW0]; exact hK.alloc _
  have i1 : (0 : Int) ≤ (t : Int) := by omega
  have i2 : (t : Int) < 3 := by omega
  have x1 : W0.drew.cell? ⟨w.heap.size, 1, none⟩ = some (.int .i64 (t : Int)) := by rw [← htid]; exact mt_cell K0.drew (j := 1) rfl
  have lt1 := st_tid KG.drew t ht
  have lt2 := st_tid ((KG.alloc (.cells #[.int .i8 0, .int .i64 0, .int .i64 0, .int .i64 0, .int .i64 0, .slice none 0 0, .slice none 0 0, .int .i64 0] 26)).drew) t ht
  have y1 : (W0.alloc (.cells #[.int .i8 0, .int .i64 0, .int .i64 0, .int .i64 0, .int .i64 0, .slice none 0 0, .slice none 0 0, .int .i64 0] 26)).drew.cell? ⟨w.heap.size, 1, none⟩ = some (.int .i64 (t : Int)) := by rw [← htid]; exact mt_cell ((K0.alloc _).drew) (j := 1) rfl
  obtain ⟨W1, st1, KC1, fb1, fh1, fs1⟩ := bk_store (P := Tryd.prog) (ty := 26) (cs := #[.int .i8 (s.tid t).st, .int .i64 (s.tid t).pid, .int .i64 (s.tid t).ep, .int .i64 (s.tid t).tm, .int .i64 (s.tid t).th, .slice (a.A t) (s.tid t).ps.length (a.c t), .slice (a.D t) (s.tid t).qs.length (a.e t), .int .i64 (s.tid t).ag]) 8 (Blk.new W0 26 #[.int .i8 0, .int .i64 0, .int .i64 0, .int .i64 0, .int .i64 0, .slice none 0 0, .slice none 0 0, .int .i64 0]).drew infoCoS rfl rfl (by simp [Value.oneCell'])
  have KE1 : Blk W1 w.heap.size 35 (mtX m A1 D1 c1 e1) := (fh1 _ (by omega)).trans ((K0.alloc (.cells #[.int .i8 0, .int .i64 0, .int .i64 0, .int .i64 0, .int .i64 0, .slice none 0 0, .slice none 0 0, .int .i64 0] 26)).drew)
  have KG1 : Blk W1 g 31 (stX s a) := (fh1 _ (by omega)).trans ((KG.alloc (.cells #[.int .i8 0, .int .i64 0, .int .i64 0, .int .i64 0, .int .i64 0, .slice none 0 0, .slice none 0 0, .int .i64 0] 26)).drew)
  have BG1 : Below w.heap.size w W1 := fb1 _ _ (by omega) (bal B0 (.cells #[.int .i8 0, .int .i64 0, .int .i64 0, .int .i64 0, .int .i64 0, .slice none 0 0, .slice none 0 0, .int .i64 0] 26)).drew
  have s1 : W1.heap.size = W0.heap.size + 1 := fs1.trans (show (W0.alloc (.cells #[.int .i8 0, .int .i64 0, .int .i64 0, .int .i64 0, .int .i64 0, .slice none 0 0, .slice none 0 0, .int .i64 0] 26)).heap.size = _ by simp)
  have lp := mt_pend (P := Tryd.prog) KE1
  obtain ⟨W2, hW2⟩ : ∃ W2, W2 = W1.alloc (.cells #[.int .i64 m.p.1, .int .i64 m.p.2.1, .int .i64 m.p.2.2] 33) := ⟨_, rfl⟩
  have KE2 : Blk W2 w.heap.size 35 (mtX m A1 D1 c1 e1) := by rw [hW2]; exact KE1.alloc _
  have KG2 : Blk W2 g 31 (stX s a) := by rw [hW2]; exact KG1.alloc _
  have KC2 : Blk W2 W0.heap.size 26 #[.int .i8 (s.tid t).st, .int .i64 (s.tid t).pid, .int .i64 (s.tid t).ep, .int .i64 (s.tid t).tm, .int .i64 (s.tid t).th, .slice (a.A t) (s.tid t).ps.length (a.c t), .slice (a.D t) (s.tid t).qs.length (a.e t), .int .i64 (s.tid t).ag] := by rw [hW2]; exact KC1.alloc _
  have KP2 : Blk W2 W1.heap.size 33 #[.int .i64 m.p.1, .int .i64 m.p.2.1, .int .i64 m.p.2.2] := by rw [hW2]; exact Blk.new _ _ _
  have BG2 : Below w.heap.size w W2 := by rw [hW2]; exact bal BG1 _
  have s2 : W2.heap.size = W1.heap.size + 1 := by rw [hW2]; simp
  have O2 : StO W2 g lo s a := StO.of hR hN (BG2.mono (Nat.le_of_lt hgl)) (by omega)
  have HW := Lib.hid hW0
  have HW2 := Lib.hid hW2
  have SZ := Lib.hid (show W0.heap.size = w.heap.size + 1 ∧ W1.heap.size = W0.heap.size + 1 ∧ W2.heap.size = W1.heap.size + 1 ∧ g < w.heap.size ∧ W2.drew.heap.size = W2.heap.size ∧ lo ≤ w.heap.size by have : W2.drew.heap.size = W2.heap.size := rfl; omega)
  have v0 := mt_cell KE2 (j := 0) rfl
  have cc1 : (m.kd == 1) = false := by rw [hk]; rfl
  have cc0 : (m.kd == 0) = false := by rw [hk]; rfl
  have cc2 : (m.kd == 2) = false := by rw [hk]; rfl
  have cc3 : (m.kd == 3) = false := by rw [hk]; rfl
  have cc4 : (m.kd == 4) = false := by rw [hk]; rfl
  have cc5 : (m.kd == 5) = true := by rw [hk]; rfl
  have cc6 : (m.kd == 6) = false := by rw [hk]; rfl
  have cc7 : (m.kd == 7) = false := by rw [hk]; rfl
  have HE := Lib.hid (show toE s m = 0 by unfold toE; rw [if_neg (by omega), if_pos (by omega)])
  have HT := Lib.hid (show toS s m = s.pends [m.p] by unfold toS; rw [if_neg (by omega), if_pos hk]; rfl)
  have HPB := Lib.hid (show ∀ p, p ∈ [m.p] → pendB p = true by
    intro p hp
    rw [List.mem_singleton.1 hp]
    have := (mayM_fit hmm).2.2.2
    unfold fitM at this
    rw [if_neg (by omega), if_neg (by omega), if_pos (by omega)] at this
    exact this)
  have KP := Lib.hid KP2
  have KS := Lib.hid KG2
  have OS := Lib.hid O2
  have BS := Lib.hid (BG2.mono (Nat.le_of_lt hgl))
  have S2 := Lib.hid BG2.size
  clear KE2 KG2 KC2 KP2 BG2 O2
  clear hW0 s0 B0 K0 KG KC1 fb1 fh1 fs1 KE1 KG1 BG1 s1 hW2 s2 htid hK hR hN hlo hm hg hms hmm hk htn hgl
  go_enter Tryd.func29, Tryd.ntmps29
  go_upto_region 1 with (fail)
  rw [← HW.out]
  go_region
  clear x1 y1 lt1 lt2 st1
  go_upto_region 3 with (fail)
  rw [← HW2.out]
  clear lp
  go_wp2_with fail
  clear v0
  go_loopg [144] 1 (fun mm y wq => ∃ (k : Nat), k ≤ 1 ∧ y = .int .i64 k ∧ mm = 1 - k ∧ Blk wq g 31 (stX (s.pends ([m.p].take k)) a) ∧ But g W2 wq ∧ Below g w wq)
  case atStart => exact ⟨0, Nat.zero_le _, rfl, rfl, KS.out, But.refl _ _, BS.out⟩
  case round =>
    obtain ⟨k, hk, rfl, hmm, hkg, hbt, hbg⟩ := hrel
    have HMM := Lib.hid hmm
    have KR := Lib.hid hkg
    have BT := Lib.hid hbt
    have BR := Lib.hid hbg
    clear hmm hkg hbt hbg
    by_cases hlt : k < 1
    · have dlt : decide ((k : Int) < 1) = true := decide_eq_true (by omega)
      have j1 : (0 : Int) ≤ (k : Int) := by omega
      have j2 : (k : Int) < 1 := by omega
      obtain ⟨p, hp⟩ : ∃ p, [m.p][k]? = some p := ⟨_, List.getElem?_eq_getElem hlt⟩
      have hpb := HPB.out p (List.mem_of_getElem? hp)
      unfold pendB partB at hpb
      simp only [Bool.and_eq_true, decide_eq_true_eq] at hpb
      obtain ⟨gn, hgn⟩ : ∃ gn : Nat, p.1 = (gn : Int) := ⟨p.1.toNat, by omega⟩
      obtain ⟨qn, hqn⟩ : ∃ qn : Nat, p.2.1 = (qn : Int) := ⟨p.2.1.toNat, by omega⟩
      have g1 : gn < 2 := by omega
      have q1 : qn < 3 := by omega
      have g2 : (0 : Int) ≤ (gn : Int) := by omega
      have g3 : (gn : Int) < 2 := by omega
      have q2 : (0 : Int) ≤ (qn : Int) := by omega
      have q3 : (qn : Int) < 3 := by omega
      have hp0 : p = m.p := by
        obtain rfl : k = 0 := by omega
        simpa using hp.symm
      obtain hk0 : k = 0 := by omega
      have kp := KP.out.but (b := W1.heap.size) (g := g) (by have := SZ.out; omega) BT.out
      have hcell : wr.cell? ⟨W1.heap.size, 0 + k * 3, none⟩ = some (.int .i64 p.1) ∧ wr.cell? ⟨W1.heap.size, 0 + k * 3 + 1, none⟩ = some (.int .i64 p.2.1) ∧ wr.cell? ⟨W1.heap.size, 0 + k * 3 + 2, none⟩ = some (.int .i64 p.2.2) := by
        rw [hp0, hk0]
        exact ⟨kp.cell 0, kp.cell 1, kp.cell 2⟩
      simp only [Nat.zero_add] at hcell
      clear kp hp0 hk0
      have lpd := load_pdM hcell
      obtain ⟨W6, st6, k6, b6, s6⟩ := bk_fresh (P := Tryd.prog) wr 33 #[.int .i64 0, .int .i64 0, .int .i64 0] #[.int .i64 p.1, .int .i64 p.2.1, .int .i64 p.2.2] 3 infoPdM rfl rfl (by simp [Value.oneCell'])
      have kg6 := KR.out.below b6 KR.out.lt
      have c0 : W6.drew.cell? ⟨wr.heap.size, 0, none⟩ = some (.int .i64 (gn : Int)) := by rw [← hgn]; exact k6.drew.cell 0
      have c1 : W6.drew.cell? ⟨wr.heap.size, 1, none⟩ = some (.int .i64 (qn : Int)) := by rw [← hqn]; exact k6.drew.cell 1
      have c2 := k6.drew.cell 2
      obtain ⟨W7, st7, k7, fb7, fh7, fs7⟩ := st_mkgr kg6.drew gn qn g1 q1 p hgn hqn
      have K7 := Lib.hid (show Blk W7 g 31 (stX (s.pends ([m.p].take (k + 1))) a) by rw [List.take_add_one, hp]; simp only [Option.toList_some]; rw [pends_snoc]; exact k7)
      have BT7 := Lib.hid (BT.out.trans ((But.below b6).trans ((But.drew g W6).trans (But.one fh7 fs7))))
      have BR7 := Lib.hid (fb7 g w (Nat.le_refl _) ((BR.out.trans (b6.mono (Nat.le_of_lt KR.out.lt))).drew))
      clear hp hpb hgn hqn k6 b6 s6 kg6 k7 fb7 fh7 fs7 hcell
      go_wp2_with fail
      refine wp_region_qtail 11 (by kernel_rfl) (by kernel_rfl) ?_
      simp only [List.take_succ_cons, List.take_zero, List.drop_succ_cons, List.drop_zero]
      repeat (go_big_quiet_step (fail))
      refine wpQuiet_nil ?_
      go_wp2_with fail
      go_roundg (gk - 1)
      case measure => have := HMM.out; omega
      case rel => exact ⟨k + 1, by omega, by go_num, by have := HMM.out; omega, K7.out, BT7.out, BR7.out⟩
    · have hkn : k = 1 := by omega
      have dlt : decide ((k : Int) < 1) = false := decide_eq_false (by omega)
      have KF := Lib.hid (show Blk wr g 31 (stX (toS s m) a) by
        have := KR.out
        rw [hkn, show [m.p].take 1 = [m.p] from List.take_of_length_le (Nat.le_refl _)] at this
        rw [HT.out]; exact this)
      have OF := Lib.hid (show StO wr g lo (toS s m) a by
        rw [HT.out]
        exact (OS.out.but BT.out).gr (fun j _ => pends_tid _ _ j))
      clear hkn
      go_wp2_with fail
      go_ret
      exact ⟨BR.out, by have := BT.out.size; have := SZ.out; have := S2.out; omega, .inl ⟨HE.out, rfl, _, KF.out, OF.out⟩⟩
set_option maxRecDepth 100000 in
set_option maxHeartbeats 8000000 in
theorem mmove_4e (s : Sta) (a : Sad) (g t : Nat) (m : Mt) (A1 D1 : Option Addr) (c1 e1 : Nat) (w : World) (hK : Blk w g 31 (stX s a)) (hR : StR w g s a) (lo : Nat) (hN : ∀ k, k < 3 → NewAt lo (s.tid k).ps.length (a.A k) ∧ NewAt lo (s.tid k).qs.length (a.D k)) (hlo : lo ≤ w.heap.size) (hm : CoR w g m.c A1 D1) (hg : HasET w) (hms : mayS s = true) (hmm : mayM m = true) (ht : t < 3) (htid : m.tid = (t : Int)) (hk : m.kd = 4) (hE : ¬ chkE (s.tid t) 3 true = 0) :
    Calls Tryd.prog 29 #[.pointer (some ⟨g, 0, none⟩), .agg (mtX m A1 D1 c1 e1)] w (MoP s m g lo w) := by
  have hgl : g < w.heap.size := hK.lt
  have htn : m.tid.toNat = t := by rw [htid]; rfl
  obtain ⟨W0, hW0⟩ : ∃ W0, W0 = w.alloc (.cells (mtX m A1 D1 c1 e1) 35) := ⟨_, rfl⟩
  have s0 : W0.heap.size = w.heap.size + 1 := by rw [hW0]; simp
  have B0 : Below w.heap.size w W0 := by rw [hW0]; exact bal (Below.refl _ _) _
  have K0 : Blk W0 w.heap.size 35 (mtX m A1 D1 c1 e1) := by rw [hW0]; exact Blk.new w 35 _
  have KG : Blk W0 g 31 (stX s a) := by rw [hW0]; exact hK.alloc _
  have i1 : (0 : Int) ≤ (t : Int) := by omega
  have i2 : (t : Int) < 3 := by omega
  have x1 : W0.drew.cell? ⟨w.heap.size, 1, none⟩ = some (.int .i64 (t : Int)) := by rw [← htid]; exact mt_cell K0.drew (j := 1) rfl
  have lt1 := st_tid KG.drew t ht
  have lt2 := st_tid ((KG.alloc (.cells #[.int .i8 0, .int .i64 0, .int .i64 0, .int .i64 0, .int .i64 0, .slice none 0 0, .slice none 0 0, .int .i64 0] 26)).drew) t ht
  have y1 : (W0.alloc (.cells #[.int .i8 0, .int .i64 0, .int .i64 0, .int .i64 0, .int .i64 0, .slice none 0 0, .slice none 0 0, .int .i64 0] 26)).drew.cell? ⟨w.heap.size, 1, none⟩ = some (.int .i64 (t : Int)) := by rw [← htid]; exact mt_cell ((K0.alloc _).drew) (j := 1) rfl
  obtain ⟨W1, st1, KC1, fb1, fh1, fs1⟩ := bk_store (P := Tryd.prog) (ty := 26) (cs := #[.int .i8 (s.tid t).st, .int .i64 (s.tid t).pid, .int .i64 (s.tid t).ep, .int .i64 (s.tid t).tm, .int .i64 (s.tid t).th, .slice (a.A t) (s.tid t).ps.length (a.c t), .slice (a.D t) (s.tid t).qs.length (a.e t), .int .i64 (s.tid t).ag]) 8 (Blk.new W0 26 #[.int .i8 0, .int .i64 0, .int .i64 0, .int .i64 0, .int .i64 0, .slice none 0 0, .slice none 0 0, .int .i64 0]).drew infoCoS rfl rfl (by simp [Value.oneCell'])
  have KE1 : Blk W1 w.heap.size 35 (mtX m A1 D1 c1 e1) := (fh1 _ (by omega)).trans ((K0.alloc (.cells #[.int .i8 0, .int .i64 0, .int .i64 0, .int .i64 0, .int .i64 0, .slice none 0 0, .slice none 0 0, .int .i64 0] 26)).drew)
  have KG1 : Blk W1 g 31 (stX s a) := (fh1 _ (by omega)).trans ((KG.alloc (.cells #[.int .i8 0, .int .i64 0, .int .i64 0, .int .i64 0, .int .i64 0, .slice none 0 0, .slice none 0 0, .int .i64 0] 26)).drew)
  have BG1 : Below w.heap.size w W1 := fb1 _ _ (by omega) (bal B0 (.cells #[.int .i8 0, .int .i64 0, .int .i64 0, .int .i64 0, .int .i64 0, .slice none 0 0, .slice none 0 0, .int .i64 0] 26)).drew
  have s1 : W1.heap.size = W0.heap.size + 1 := fs1.trans (show (W0.alloc (.cells #[.int .i8 0, .int .i64 0, .int .i64 0, .int .i64 0, .int .i64 0, .slice none 0 0, .slice none 0 0, .int .i64 0] 26)).heap.size = _ by simp)
  have lp := mt_pend (P := Tryd.prog) KE1
  obtain ⟨W2, hW2⟩ : ∃ W2, W2 = W1.alloc (.cells #[.int .i64 m.p.1, .int .i64 m.p.2.1, .int .i64 m.p.2.2] 33) := ⟨_, rfl⟩
  have KE2 : Blk W2 w.heap.size 35 (mtX m A1 D1 c1 e1) := by rw [hW2]; exact KE1.alloc _
  have KG2 : Blk W2 g 31 (stX s a) := by rw [hW2]; exact KG1.alloc _
  have KC2 : Blk W2 W0.heap.size 26 #[.int .i8 (s.tid t).st, .int .i64 (s.tid t).pid, .int .i64 (s.tid t).ep, .int .i64 (s.tid t).tm, .int .i64 (s.tid t).th, .slice (a.A t) (s.tid t).ps.length (a.c t), .slice (a.D t) (s.tid t).qs.length (a.e t), .int .i64 (s.tid t).ag] := by rw [hW2]; exact KC1.alloc _
  have KP2 : Blk W2 W1.heap.size 33 #[.int .i64 m.p.1, .int .i64 m.p.2.1, .int .i64 m.p.2.2] := by rw [hW2]; exact Blk.new _ _ _
  have BG2 : Below w.heap.size w W2 := by rw [hW2]; exact bal BG1 _
  have s2 : W2.heap.size = W1.heap.size + 1 := by rw [hW2]; simp
  have O2 : StO W2 g lo s a := StO.of hR hN (BG2.mono (Nat.le_of_lt hgl)) (by omega)
  have HW := Lib.hid hW0
  have HW2 := Lib.hid hW2
  have SZ := Lib.hid (show W0.heap.size = w.heap.size + 1 ∧ W1.heap.size = W0.heap.size + 1 ∧ W2.heap.size = W1.heap.size + 1 ∧ g < w.heap.size ∧ W2.drew.heap.size = W2.heap.size ∧ lo ≤ w.heap.size by have : W2.drew.heap.size = W2.heap.size := rfl; omega)
  have v0 := mt_cell KE2 (j := 0) rfl
  have cc1 : (m.kd == 1) = false := by rw [hk]; rfl
  have cc0 : (m.kd == 0) = false := by rw [hk]; rfl
  have cc2 : (m.kd == 2) = false := by rw [hk]; rfl
  have cc3 : (m.kd == 3) = false := by rw [hk]; rfl
  have cc4 : (m.kd == 4) = true := by rw [hk]; rfl
  have cc5 : (m.kd == 5) = false := by rw [hk]; rfl
  have cc6 : (m.kd == 6) = false := by rw [hk]; rfl
  have cc7 : (m.kd == 7) = false := by rw [hk]; rfl
  have HTI := Lib.hid htid
  have HR := Lib.hid hR
  have HQ := Lib.hid (hR t ht).2.1
  obtain ⟨n, hn⟩ : ∃ n, chkE (s.tid t) 3 true = n := ⟨_, rfl⟩
  obtain ⟨d, hd⟩ : ∃ d, compC (s.tid t) = d := ⟨_, rfl⟩
  have ca := Complete_all (s.tid t) (a.A t) (a.D t) (a.c t) (a.e t) W2 (O2 t ht).1 (hg.up BG2)
  rw [hn, hd] at ca
  rw [hn] at hE
  have lc := bk_load (P := Tryd.prog) 8 KC2 rfl
  have z0 := KC2.cell 0
  have z6 := KC2.cell 6
  have HE := Lib.hid (show toE s m = n by unfold toE moveE; rw [htn, ← hn]; simp [hk])
  have dn : (n == 0) = false := eqb_false hE
  have dn2 : (n != 0) = true := by simp [hE]
  have HNE := Lib.hid hE
  obtain ⟨u, hu⟩ : ∃ u, ((s.tid t).st == 3) = u := ⟨_, rfl⟩
  have CA := Lib.hid ca
  have KE2 := Lib.hid KE2
  have KG2 := Lib.hid KG2
  have KC2 := Lib.hid KC2
  have BG2 := Lib.hid BG2
  have O2 := Lib.hid O2
  clear ca hn hd KP2 hE
  clear hW0 s0 B0 K0 KG KC1 fb1 fh1 fs1 KE1 KG1 BG1 s1 hW2 s2 htid hK hR hN hlo hm hg hms hmm hk htn hgl
  go_enter Tryd.func29, Tryd.ntmps29
  go_upto_region 1 with (fail)
  rw [← HW.out]
  go_region
  clear x1 y1 lt1 lt2 st1
  go_upto_region 3 with (fail)
  rw [← HW2.out]
  clear lp
  go_wp2_with fail
  refine CA.out.mono ?_
  rintro e w3 ⟨A5, D5, c5, e5, rfl, r5, b5, na, nd⟩
  obtain ⟨W4, st4, k4, fb4, fh4, fs4⟩ := bk_store (P := Tryd.prog) (ty := 26) (cs := #[.int .i8 d.st, .int .i64 d.pid, .int .i64 d.ep, .int .i64 d.tm, .int .i64 d.th, .slice A5 d.ps.length c5, .slice D5 d.qs.length e5, .int .i64 d.ag]) 8 (KC2.out.below b5 (by have := SZ.out; omega)) infoCoS rfl rfl (by simp [Value.oneCell'])
  have bg3 : Below w.heap.size w w3 := BG2.out.trans (b5.mono BG2.out.size)
  have B4 := Lib.hid (fb4 w.heap.size w (by have := SZ.out; omega) bg3)
  clear k4 fb4 fh4 fs4 bg3 r5 b5 na nd lc v0 z0 z6 hu
  go_wp2_with fail
  go_ret
  unfold MoP
  rw [HE.out]
  exact ⟨((bal B4.out _).mono (by have := SZ.out; omega)), (bal B4.out _).size, .inr ⟨HNE.out, _, rfl, (Blk.new W4 67 _).cell 1⟩⟩
set_option maxRecDepth 100000 in
set_option maxHeartbeats 8000000 in
theorem mmove_4a (s : Sta) (a : Sad) (g t : Nat) (m : Mt) (A1 D1 : Option Addr) (c1 e1 : Nat) (w : World) (hK : Blk w g 31 (stX s a)) (hR : StR w g s a) (lo : Nat) (hN : ∀ k, k < 3 → NewAt lo (s.tid k).ps.length (a.A k) ∧ NewAt lo (s.tid k).qs.length (a.D k)) (hlo : lo ≤ w.heap.size) (hm : CoR w g m.c A1 D1) (hg : HasET w) (hms : mayS s = true) (hmm : mayM m = true) (ht : t < 3) (htid : m.tid = (t : Int)) (hk : m.kd = 4) (hE : chkE (s.tid t) 3 true = 0) (h3 : ¬ (s.tid t).st = 3) :
    Calls Tryd.prog 29 #[.pointer (some ⟨g, 0, none⟩), .agg (mtX m A1 D1 c1 e1)] w (MoP s m g lo w) := by
  have hgl : g < w.heap.size := hK.lt
  have htn : m.tid.toNat = t := by rw [htid]; rfl
  obtain ⟨W0, hW0⟩ : ∃ W0, W0 = w.alloc (.cells (mtX m A1 D1 c1 e1) 35) := ⟨_, rfl⟩
  have s0 : W0.heap.size = w.heap.size + 1 := by rw [hW0]; simp
  have B0 : Below w.heap.size w W0 := by rw [hW0]; exact bal (Below.refl _ _) _
  have K0 : Blk W0 w.heap.size 35 (mtX m A1 D1 c1 e1) := by rw [hW0]; exact Blk.new w 35 _
  have KG : Blk W0 g 31 (stX s a) := by rw [hW0]; exact hK.alloc _
  have i1 : (0 : Int) ≤ (t : Int) := by omega
  have i2 : (t : Int) < 3 := by omega
  have x1 : W0.drew.cell? ⟨w.heap.size, 1, none⟩ = some (.int .i64 (t : Int)) := by rw [← htid]; exact mt_cell K0.drew (j := 1) rfl
  have lt1 := st_tid KG.drew t ht
  have lt2 := st_tid ((KG.alloc (.cells #[.int .i8 0, .int .i64 0, .int .i64 0, .int .i64 0, .int .i64 0, .slice none 0 0, .slice none 0 0, .int .i64 0] 26)).drew) t ht
  have y1 : (W0.alloc (.cells #[.int .i8 0, .int .i64 0, .int .i64 0, .int .i64 0, .int .i64 0, .slice none 0 0, .slice none 0 0, .int .i64 0] 26)).drew.cell? ⟨w.heap.size, 1, none⟩ = some (.int .i64 (t : Int)) := by rw [← htid]; exact mt_cell ((K0.alloc _).drew) (j := 1) rfl
  obtain ⟨W1, st1, KC1, fb1, fh1, fs1⟩ := bk_store (P := Tryd.prog) (ty := 26) (cs := #[.int .i8 (s.tid t).st, .int .i64 (s.tid t).pid, .int .i64 (s.tid t).ep, .int .i64 (s.tid t).tm, .int .i64 (s.tid t).th, .slice (a.A t) (s.tid t).ps.length (a.c t), .slice (a.D t) (s.tid t).qs.length (a.e t), .int .i64 (s.tid t).ag]) 8 (Blk.new W0 26 #[.int .i8 0, .int .i64 0, .int .i64 0, .int .i64 0, .int .i64 0, .slice none 0 0, .slice none 0 0, .int .i64 0]).drew infoCoS rfl rfl (by simp [Value.oneCell'])
  have KE1 : Blk W1 w.heap.size 35 (mtX m A1 D1 c1 e1) := (fh1 _ (by omega)).trans ((K0.alloc (.cells #[.int .i8 0, .int .i64 0, .int .i64 0, .int .i64 0, .int .i64 0, .slice none 0 0, .slice none 0 0, .int .i64 0] 26)).drew)
  have KG1 : Blk W1 g 31 (stX s a) := (fh1 _ (by omega)).trans ((KG.alloc (.cells #[.int .i8 0, .int .i64 0, .int .i64 0, .int .i64 0, .int .i64 0, .slice none 0 0, .slice none 0 0, .int .i64 0] 26)).drew)
  have BG1 : Below w.heap.size w W1 := fb1 _ _ (by omega) (bal B0 (.cells #[.int .i8 0, .int .i64 0, .int .i64 0, .int .i64 0, .int .i64 0, .slice none 0 0, .slice none 0 0, .int .i64 0] 26)).drew
  have s1 : W1.heap.size = W0.heap.size + 1 := fs1.trans (show (W0.alloc (.cells #[.int .i8 0, .int .i64 0, .int .i64 0, .int .i64 0, .int .i64 0, .slice none 0 0, .slice none 0 0, .int .i64 0] 26)).heap.size = _ by simp)
  have lp := mt_pend (P := Tryd.prog) KE1
  obtain ⟨W2, hW2⟩ : ∃ W2, W2 = W1.alloc (.cells #[.int .i64 m.p.1, .int .i64 m.p.2.1, .int .i64 m.p.2.2] 33) := ⟨_, rfl⟩
  have KE2 : Blk W2 w.heap.size 35 (mtX m A1 D1 c1 e1) := by rw [hW2]; exact KE1.alloc _
  have KG2 : Blk W2 g 31 (stX s a) := by rw [hW2]; exact KG1.alloc _
  have KC2 : Blk W2 W0.heap.size 26 #[.int .i8 (s.tid t).st, .int .i64 (s.tid t).pid, .int .i64 (s.tid t).ep, .int .i64 (s.tid t).tm, .int .i64 (s.tid t).th, .slice (a.A t) (s.tid t).ps.length (a.c t), .slice (a.D t) (s.tid t).qs.length (a.e t), .int .i64 (s.tid t).ag] := by rw [hW2]; exact KC1.alloc _
  have KP2 : Blk W2 W1.heap.size 33 #[.int .i64 m.p.1, .int .i64 m.p.2.1, .int .i64 m.p.2.2] := by rw [hW2]; exact Blk.new _ _ _
  have BG2 : Below w.heap.size w W2 := by rw [hW2]; exact bal BG1 _
  have s2 : W2.heap.size = W1.heap.size + 1 := by rw [hW2]; simp
  have O2 : StO W2 g lo s a := StO.of hR hN (BG2.mono (Nat.le_of_lt hgl)) (by omega)
  have HW := Lib.hid hW0
  have HW2 := Lib.hid hW2
  have SZ := Lib.hid (show W0.heap.size = w.heap.size + 1 ∧ W1.heap.size = W0.heap.size + 1 ∧ W2.heap.size = W1.heap.size + 1 ∧ g < w.heap.size ∧ W2.drew.heap.size = W2.heap.size ∧ lo ≤ w.heap.size by have : W2.drew.heap.size = W2.heap.size := rfl; omega)
  have v0 := mt_cell KE2 (j := 0) rfl
  have cc1 : (m.kd == 1) = false := by rw [hk]; rfl
  have cc0 : (m.kd == 0) = false := by rw [hk]; rfl
  have cc2 : (m.kd == 2) = false := by rw [hk]; rfl
  have cc3 : (m.kd == 3) = false := by rw [hk]; rfl
  have cc4 : (m.kd == 4) = true := by rw [hk]; rfl
  have cc5 : (m.kd == 5) = false := by rw [hk]; rfl
  have cc6 : (m.kd == 6) = false := by rw [hk]; rfl
  have cc7 : (m.kd == 7) = false := by rw [hk]; rfl
  have HTI := Lib.hid htid
  have HR := Lib.hid hR
  have HQ := Lib.hid (hR t ht).2.1
  obtain ⟨n, hn⟩ : ∃ n, chkE (s.tid t) 3 true = n := ⟨_, rfl⟩
  obtain ⟨d, hd⟩ : ∃ d, compC (s.tid t) = d := ⟨_, rfl⟩
  have ca := Complete_all (s.tid t) (a.A t) (a.D t) (a.c t) (a.e t) W2 (O2 t ht).1 (hg.up BG2)
  rw [hn, hd] at ca
  rw [hn] at hE
  have lc := bk_load (P := Tryd.prog) 8 KC2 rfl
  have z0 := KC2.cell 0
  have z6 := KC2.cell 6
  have HE := Lib.hid (show toE s m = n by unfold toE moveE; rw [htn, ← hn]; simp [hk])
  have HT := Lib.hid (show toS s m = s.put t d by unfold toS moveC; rw [htn, ← hd]; simp [hk, h3, Sta.pends])
  subst hE
  have c3 : ((s.tid t).st == 3) = false := by simpa using h3
  have CA := Lib.hid ca
  have KE2 := Lib.hid KE2
  have KG2 := Lib.hid KG2
  have KC2 := Lib.hid KC2
  have BG2 := Lib.hid BG2
  have O2 := Lib.hid O2
  clear ca hn hd KP2 h3
  clear hW0 s0 B0 K0 KG KC1 fb1 fh1 fs1 KE1 KG1 BG1 s1 hW2 s2 htid hK hR hN hlo hm hg hms hmm hk htn hgl
  go_enter Tryd.func29, Tryd.ntmps29
  go_upto_region 1 with (fail)
  rw [← HW.out]
  go_region
  clear x1 y1 lt1 lt2 st1
  go_upto_region 3 with (fail)
  rw [← HW2.out]
  clear lp
  go_wp2_with fail
  refine CA.out.mono ?_
  rintro e w3 ⟨A5, D5, c5, e5, rfl, r5, b5, na, nd⟩
  obtain ⟨W4, st4, k4, fb4, fh4, fs4⟩ := bk_store (P := Tryd.prog) (ty := 26) (cs := #[.int .i8 d.st, .int .i64 d.pid, .int .i64 d.ep, .int .i64 d.tm, .int .i64 d.th, .slice A5 d.ps.length c5, .slice D5 d.qs.length e5, .int .i64 d.ag]) 8 (KC2.out.below b5 (by have := SZ.out; omega)) infoCoS rfl rfl (by simp [Value.oneCell'])
  have ke4 : Blk W4 w.heap.size 35 (mtX m A1 D1 c1 e1) := (fh4 _ (by have := SZ.out; omega)).trans (KE2.out.below b5 (by have := SZ.out; omega))
  have kg4 : Blk W4 g 31 (stX s a) := (fh4 _ (by have := SZ.out; omega)).trans (KG2.out.below b5 (by have := SZ.out; omega))
  have x4 : W4.drew.cell? ⟨w.heap.size, 1, none⟩ = some (.int .i64 (t : Int)) := by rw [← HTI.out]; exact mt_cell ke4.drew (j := 1) rfl
  have l4 := bk_load (P := Tryd.prog) 8 k4.drew rfl
  obtain ⟨W5, st5, k5, fb5, fh5, fs5⟩ := st_mkput kg4.drew t ht d A5 D5 c5 e5
  have K5 := Lib.hid k5
  have bg3 : Below w.heap.size w w3 := BG2.out.trans (b5.mono BG2.out.size)
  have B5 := Lib.hid (fb5 g w (Nat.le_refl _) (fb4 g w (by have := SZ.out; omega) (bg3.mono (by have := SZ.out; omega))).drew)
  have S5 := Lib.hid (show w.heap.size ≤ W5.heap.size by have h1 := bg3.size; have h2 : W4.drew.heap.size = W4.heap.size := rfl; omega)
  have bt3 : But g _ w3 := But.below b5
  have bt4 : But W0.heap.size w3 W4 := But.one fh4 fs4
  have bt5 : But g W4 W5 := (But.drew g W4).trans (But.one fh5 fs5)
  have O5 := Lib.hid (show StO W5 g lo (s.put t d) (a.put t A5 D5 c5 e5) from by
    have hlt := SZ.out
    have o3 : StO w3 g lo s a := O2.out.but bt3
    have o4 : StO W4 g lo s a := fun j hj => ⟨((HR.out j hj).below (fb4 g w (by omega) (bg3.mono (by omega)))).more (by have := bg3.size; omega), (o3 j hj).2⟩
    have r4 : CoR W4 W4.heap.size d A5 D5 := r5.keepN na nd (b := W0.heap.size) (by omega) fh4 fs4
    have r6 : CoR W5 W5.heap.size d A5 D5 := r4.keepB (na.off (by omega)) (nd.off (by omega)) bt5.keep bt5.size
    exact (o4.but bt5).put r6 na nd (by omega) (by omega))
  clear k4 ke4 kg4 k5 fb4 fh4 fs4 fb5 fh5 fs5 bg3 bt3 bt4 bt5 r5 b5 na nd
  clear lc v0 z0 z6
  go_wp2_with fail
  refine wp_region_qtail 7 (by kernel_rfl) (by kernel_rfl) ?_
  simp only [List.take_succ_cons, List.take_zero, List.drop_succ_cons, List.drop_zero]
  repeat (go_big_quiet_step (fail))
  refine wpQuiet_nil ?_
  go_wp2_with fail
  go_ret
  unfold MoP
  rw [HE.out, HT.out]
  exact ⟨B5.out, by have := SZ.out; exact S5.out, .inl ⟨rfl, rfl, _, K5.out, O5.out⟩⟩
set_option maxRecDepth 100000 in
set_option maxHeartbeats 8000000 in
theorem mmove_4c (s : Sta) (a : Sad) (g t : Nat) (m : Mt) (A1 D1 : Option Addr) (c1 e1 : Nat) (w : World) (hK : Blk w g 31 (stX s a)) (hR : StR w g s a) (lo : Nat) (hN : ∀ k, k < 3 → NewAt lo (s.tid k).ps.length (a.A k) ∧ NewAt lo (s.tid k).qs.length (a.D k)) (hlo : lo ≤ w.heap.size) (hm : CoR w g m.c A1 D1) (hg : HasET w) (hms : mayS s = true) (hmm : mayM m = true) (ht : t < 3) (htid : m.tid = (t : Int)) (hk : m.kd = 4) (hE : chkE (s.tid t) 3 true = 0) (h3 : (s.tid t).st = 3) :
    Calls Tryd.prog 29 #[.pointer (some ⟨g, 0, none⟩), .agg (mtX m A1 D1 c1 e1)] w (MoP s m g lo w) := by
  have hgl : g < w.heap.size := hK.lt
  have htn : m.tid.toNat = t := by rw [htid]; rfl
  obtain ⟨W0, hW0⟩ : ∃ W0, W0 = w.alloc (.cells (mtX m A1 D1 c1 e1) 35) := ⟨_, rfl⟩
  have s0 : W0.heap.size = w.heap.size + 1 := by rw [hW0]; simp
  have B0 : Below w.heap.size w W0 := by rw [hW0]; exact bal (Below.refl _ _) _
  have K0 : Blk W0 w.heap.size 35 (mtX m A1 D1 c1 e1) := by rw [hW0]; exact Blk.new w 35 _
  have KG : Blk W0 g 31 (stX s a) := by rw [hW0]; exact hK.alloc _
  have i1 : (0 : Int) ≤ (t : Int) := by omega
  have i2 : (t : Int) < 3 := by omega
  have x1 : W0.drew.cell? ⟨w.heap.size, 1, none⟩ = some (.int .i64 (t : Int)) := by rw [← htid]; exact mt_cell K0.drew (j := 1) rfl
  have lt1 := st_tid KG.drew t ht
  have lt2 := st_tid ((KG.alloc (.cells #[.int .i8 0, .int .i64 0, .int .i64 0, .int .i64 0, .int .i64 0, .slice none 0 0, .slice none 0 0, .int .i64 0] 26)).drew) t ht
  have y1 : (W0.alloc (.cells #[.int .i8 0, .int .i64 0, .int .i64 0, .int .i64 0, .int .i64 0, .slice none 0 0, .slice none 0 0, .int .i64 0] 26)).drew.cell? ⟨w.heap.size, 1, none⟩ = some (.int .i64 (t : Int)) := by rw [← htid]; exact mt_cell ((K0.alloc _).drew) (j := 1) rfl
  obtain ⟨W1, st1, KC1, fb1, fh1, fs1⟩ := bk_store (P := Tryd.prog) (ty := 26) (cs := #[.int .i8 (s.tid t).st, .int .i64 (s.tid t).pid, .int .i64 (s.tid t).ep, .int .i64 (s.tid t).tm, .int .i64 (s.tid t).th, .slice (a.A t) (s.tid t).ps.length (a.c t), .slice (a.D t) (s.tid t).qs.length (a.e t), .int .i64 (s.tid t).ag]) 8 (Blk.new W0 26 #[.int .i8 0, .int .i64 0, .int .i64 0, .int .i64 0, .int .i64 0, .slice none 0 0, .slice none 0 0, .int .i64 0]).drew infoCoS rfl rfl (by simp [Value.oneCell'])
  have KE1 : Blk W1 w.heap.size 35 (mtX m A1 D1 c1 e1) := (fh1 _ (by omega)).trans ((K0.alloc (.cells #[.int .i8 0, .int .i64 0, .int .i64 0, .int .i64 0, .int .i64 0, .slice none 0 0, .slice none 0 0, .int .i64 0] 26)).drew)
  have KG1 : Blk W1 g 31 (stX s a) := (fh1 _ (by omega)).trans ((KG.alloc (.cells #[.int .i8 0, .int .i64 0, .int .i64 0, .int .i64 0, .int .i64 0, .slice none 0 0, .slice none 0 0, .int .i64 0] 26)).drew)
  have BG1 : Below w.heap.size w W1 := fb1 _ _ (by omega) (bal B0 (.cells #[.int .i8 0, .int .i64 0, .int .i64 0, .int .i64 0, .int .i64 0, .slice none 0 0, .slice none 0 0, .int .i64 0] 26)).drew
  have s1 : W1.heap.size = W0.heap.size + 1 := fs1.trans (show (W0.alloc (.cells #[.int .i8 0, .int .i64 0, .int .i64 0, .int .i64 0, .int .i64 0, .slice none 0 0, .slice none 0 0, .int .i64 0] 26)).heap.size = _ by simp)
  have lp := mt_pend (P := Tryd.prog) KE1
  obtain ⟨W2, hW2⟩ : ∃ W2, W2 = W1.alloc (.cells #[.int .i64 m.p.1, .int .i64 m.p.2.1, .int .i64 m.p.2.2] 33) := ⟨_, rfl⟩
  have KE2 : Blk W2 w.heap.size 35 (mtX m A1 D1 c1 e1) := by rw [hW2]; exact KE1.alloc _
  have KG2 : Blk W2 g 31 (stX s a) := by rw [hW2]; exact KG1.alloc _
  have KC2 : Blk W2 W0.heap.size 26 #[.int .i8 (s.tid t).st, .int .i64 (s.tid t).pid, .int .i64 (s.tid t).ep, .int .i64 (s.tid t).tm, .int .i64 (s.tid t).th, .slice (a.A t) (s.tid t).ps.length (a.c t), .slice (a.D t) (s.tid t).qs.length (a.e t), .int .i64 (s.tid t).ag] := by rw [hW2]; exact KC1.alloc _
  have KP2 : Blk W2 W1.heap.size 33 #[.int .i64 m.p.1, .int .i64 m.p.2.1, .int .i64 m.p.2.2] := by rw [hW2]; exact Blk.new _ _ _
  have BG2 : Below w.heap.size w W2 := by rw [hW2]; exact bal BG1 _
  have s2 : W2.heap.size = W1.heap.size + 1 := by rw [hW2]; simp
  have O2 : StO W2 g lo s a := StO.of hR hN (BG2.mono (Nat.le_of_lt hgl)) (by omega)
  have HW := Lib.hid hW0
  have HW2 := Lib.hid hW2
  have SZ := Lib.hid (show W0.heap.size = w.heap.size + 1 ∧ W1.heap.size = W0.heap.size + 1 ∧ W2.heap.size = W1.heap.size + 1 ∧ g < w.heap.size ∧ W2.drew.heap.size = W2.heap.size ∧ lo ≤ w.heap.size by have : W2.drew.heap.size = W2.heap.size := rfl; omega)
  have v0 := mt_cell KE2 (j := 0) rfl
  have cc1 : (m.kd == 1) = false := by rw [hk]; rfl
  have cc0 : (m.kd == 0) = false := by rw [hk]; rfl
  have cc2 : (m.kd == 2) = false := by rw [hk]; rfl
  have cc3 : (m.kd == 3) = false := by rw [hk]; rfl
  have cc4 : (m.kd == 4) = true := by rw [hk]; rfl
  have cc5 : (m.kd == 5) = false := by rw [hk]; rfl
  have cc6 : (m.kd == 6) = false := by rw [hk]; rfl
  have cc7 : (m.kd == 7) = false := by rw [hk]; rfl
  have HTI := Lib.hid htid
  have HR := Lib.hid hR
  have HQ := Lib.hid (hR t ht).2.1
  obtain ⟨n, hn⟩ : ∃ n, chkE (s.tid t) 3 true = n := ⟨_, rfl⟩
  obtain ⟨d, hd⟩ : ∃ d, compC (s.tid t) = d := ⟨_, rfl⟩
  have ca := Complete_all (s.tid t) (a.A t) (a.D t) (a.c t) (a.e t) W2 (O2 t ht).1 (hg.up BG2)
  rw [hn, hd] at ca
  rw [hn] at hE
  have lc := bk_load (P := Tryd.prog) 8 KC2 rfl
  have z0 := KC2.cell 0
  have z6 := KC2.cell 6
  have HE := Lib.hid (show toE s m = n by unfold toE moveE; rw [htn, ← hn]; simp [hk])
  have HT := Lib.hid (show toS s m = (s.put t d).pends (s.tid t).qs by rw [← pends_put]; unfold toS moveC; rw [htn, ← hd]; simp [hk, h3])
  have hrg : rangeB (s.tid t) = true := may_range ((okT_iff s t).1 (((mayS_iff s).1 hms).2.2.1 t ht)).1 (by omega)
  have HPB := Lib.hid (show ∀ p, p ∈ (s.tid t).qs → pendB p = true from List.all_eq_true.1 ((range_iff _).1 hrg).1)
  subst hE
  have c3 : ((s.tid t).st == 3) = true := by rw [h3]; rfl
  have CA := Lib.hid ca
  have KE2 := Lib.hid KE2
  have KG2 := Lib.hid KG2
  have KC2 := Lib.hid KC2
  have BG2 := Lib.hid BG2
  have O2 := Lib.hid O2
  clear ca hn hd KP2 h3 hrg
  clear hW0 s0 B0 K0 KG KC1 fb1 fh1 fs1 KE1 KG1 BG1 s1 hW2 s2 htid hK hR hN hlo hm hg hms hmm hk htn hgl
  go_enter Tryd.func29, Tryd.ntmps29
  go_upto_region 1 with (fail)
  rw [← HW.out]
  go_region
  clear x1 y1 lt1 lt2 st1
  go_upto_region 3 with (fail)
  rw [← HW2.out]
  clear lp
  go_wp2_with fail
  refine CA.out.mono ?_
  rintro e w3 ⟨A5, D5, c5, e5, rfl, r5, b5, na, nd⟩
  obtain ⟨W4, st4, k4, fb4, fh4, fs4⟩ := bk_store (P := Tryd.prog) (ty := 26) (cs := #[.int .i8 d.st, .int .i64 d.pid, .int .i64 d.ep, .int .i64 d.tm, .int .i64 d.th, .slice A5 d.ps.length c5, .slice D5 d.qs.length e5, .int .i64 d.ag]) 8 (KC2.out.below b5 (by have := SZ.out; omega)) infoCoS rfl rfl (by simp [Value.oneCell'])
  have ke4 : Blk W4 w.heap.size 35 (mtX m A1 D1 c1 e1) := (fh4 _ (by have := SZ.out; omega)).trans (KE2.out.below b5 (by have := SZ.out; omega))
  have kg4 : Blk W4 g 31 (stX s a) := (fh4 _ (by have := SZ.out; omega)).trans (KG2.out.below b5 (by have := SZ.out; omega))
  have x4 : W4.drew.cell? ⟨w.heap.size, 1, none⟩ = some (.int .i64 (t : Int)) := by rw [← HTI.out]; exact mt_cell ke4.drew (j := 1) rfl
  have l4 := bk_load (P := Tryd.prog) 8 k4.drew rfl
  obtain ⟨W5, st5, k5, fb5, fh5, fs5⟩ := st_mkput kg4.drew t ht d A5 D5 c5 e5
  have K5 := Lib.hid k5
  have bg3 : Below w.heap.size w w3 := BG2.out.trans (b5.mono BG2.out.size)
  have B5 := Lib.hid (fb5 g w (Nat.le_refl _) (fb4 g w (by have := SZ.out; omega) (bg3.mono (by have := SZ.out; omega))).drew)
  have S5 := Lib.hid (show w.heap.size ≤ W5.heap.size by have h1 := bg3.size; have h2 : W4.drew.heap.size = W4.heap.size := rfl; omega)
  have bt3 : But g _ w3 := But.below b5
  have bt4 : But W0.heap.size w3 W4 := But.one fh4 fs4
  have bt5 : But g W4 W5 := (But.drew g W4).trans (But.one fh5 fs5)
  have O5 := Lib.hid (show StO W5 g lo (s.put t d) (a.put t A5 D5 c5 e5) from by
    have hlt := SZ.out
    have o3 : StO w3 g lo s a := O2.out.but bt3
    have o4 : StO W4 g lo s a := fun j hj => ⟨((HR.out j hj).below (fb4 g w (by omega) (bg3.mono (by omega)))).more (by have := bg3.size; omega), (o3 j hj).2⟩
    have r4 : CoR W4 W4.heap.size d A5 D5 := r5.keepN na nd (b := W0.heap.size) (by omega) fh4 fs4
    have r6 : CoR W5 W5.heap.size d A5 D5 := r4.keepB (na.off (by omega)) (nd.off (by omega)) bt5.keep bt5.size
    exact (o4.but bt5).put r6 na nd (by omega) (by omega))
  clear k4 ke4 kg4 k5 fb4 fh4 fs4 fb5 fh5 fs5 bg3 bt3 bt4 bt5 r5 b5 na nd
  clear lc v0 z0 z6
  go_wp2_with fail
  refine wp_region_qtail 7 (by kernel_rfl) (by kernel_rfl) ?_
  simp only [List.take_succ_cons, List.take_zero, List.drop_succ_cons, List.drop_zero]
  repeat (go_big_quiet_step (fail))
  refine wpQuiet_nil ?_
  go_wp2_with fail
  clear st4 st5 x4 l4
  go_loopg [144] (s.tid t).qs.length (fun mm y wq => ∃ (k : Nat), k ≤ (s.tid t).qs.length ∧ y = .int .i64 k ∧ mm = (s.tid t).qs.length - k ∧ Blk wq g 31 (stX ((s.put t d).pends ((s.tid t).qs.take k)) (a.put t A5 D5 c5 e5)) ∧ But g W5 wq ∧ Below g w wq)
  case atStart => exact ⟨0, Nat.zero_le _, rfl, rfl, K5.out, But.refl _ _, B5.out⟩
  case round =>
    obtain ⟨k, hk, rfl, hmm, hkg, hbt, hbg⟩ := hrel
    have HMM := Lib.hid hmm
    have KR := Lib.hid hkg
    have BT := Lib.hid hbt
    have BR := Lib.hid hbg
    clear hmm hkg hbt hbg
    by_cases hlt : k < (s.tid t).qs.length
    · have dlt : decide ((k : Int) < (((s.tid t).qs.length : Nat) : Int)) = true := decide_eq_true (by omega)
      have j1 : (0 : Int) ≤ (k : Int) := by omega
      have j2 : (k : Int) < (((s.tid t).qs.length : Nat) : Int) := by omega
      obtain ⟨p, hp⟩ : ∃ p, (s.tid t).qs[k]? = some p := ⟨_, List.getElem?_eq_getElem hlt⟩
      have hpb := HPB.out p (List.mem_of_getElem? hp)
      unfold pendB partB at hpb
      simp only [Bool.and_eq_true, decide_eq_true_eq] at hpb
      obtain ⟨gn, hgn⟩ : ∃ gn : Nat, p.1 = (gn : Int) := ⟨p.1.toNat, by omega⟩
      obtain ⟨qn, hqn⟩ : ∃ qn : Nat, p.2.1 = (qn : Int) := ⟨p.2.1.toNat, by omega⟩
      have g1 : gn < 2 := by omega
      have q1 : qn < 3 := by omega
      have g2 : (0 : Int) ≤ (gn : Int) := by omega
      have g3 : (gn : Int) < 2 := by omega
      have q2 : (0 : Int) ≤ (qn : Int) := by omega
      have q3 : (qn : Int) < 3 := by omega
      have hln := (HR.out t ht).2.2.2
      obtain ⟨b1, o1, hA, hb1, hc1⟩ := (HQ.out.below BR.out).plain3 (by omega)
      have hcell := hc1 k p hp
      clear hc1 hb1
      have lpd := load_pdM hcell
      obtain ⟨W6, st6, k6, b6, s6⟩ := bk_fresh (P := Tryd.prog) wr 33 #[.int .i64 0, .int .i64 0, .int .i64 0] #[.int .i64 p.1, .int .i64 p.2.1, .int .i64 p.2.2] 3 infoPdM rfl rfl (by simp [Value.oneCell'])
      have kg6 := KR.out.below b6 KR.out.lt
      have c0 : W6.drew.cell? ⟨wr.heap.size, 0, none⟩ = some (.int .i64 (gn : Int)) := by rw [← hgn]; exact k6.drew.cell 0
      have c1 : W6.drew.cell? ⟨wr.heap.size, 1, none⟩ = some (.int .i64 (qn : Int)) := by rw [← hqn]; exact k6.drew.cell 1
      have c2 := k6.drew.cell 2
      obtain ⟨W7, st7, k7, fb7, fh7, fs7⟩ := st_mkgr kg6.drew gn qn g1 q1 p hgn hqn
      have K7 := Lib.hid (show Blk W7 g 31 (stX ((s.put t d).pends ((s.tid t).qs.take (k + 1))) (a.put t A5 D5 c5 e5)) by rw [List.take_add_one, hp]; simp only [Option.toList_some]; rw [pends_snoc]; exact k7)
      have BT7 := Lib.hid (BT.out.trans ((But.below b6).trans ((But.drew g W6).trans (But.one fh7 fs7))))
      have BR7 := Lib.hid (fb7 g w (Nat.le_refl _) ((BR.out.trans (b6.mono (Nat.le_of_lt KR.out.lt))).drew))
      clear hp hpb hgn hqn k6 b6 s6 kg6 k7 fb7 fh7 fs7 hcell
      go_wp2_with fail
      refine wp_region_qtail 11 (by kernel_rfl) (by kernel_rfl) ?_
      simp only [List.take_succ_cons, List.take_zero, List.drop_succ_cons, List.drop_zero]
      repeat (go_big_quiet_step (fail))
      refine wpQuiet_nil ?_
      go_wp2_with fail
      go_roundg (gk - 1)
      case measure => have := HMM.out; omega
      case rel => exact ⟨k + 1, by omega, by go_num, by have := HMM.out; omega, K7.out, BT7.out, BR7.out⟩
    · have hkn : k = (s.tid t).qs.length := by omega
      have dlt : decide ((k : Int) < (((s.tid t).qs.length : Nat) : Int)) = false := decide_eq_false (by omega)
      have KF := Lib.hid (show Blk wr g 31 (stX (toS s m) (a.put t A5 D5 c5 e5)) by
        have := KR.out
        rw [hkn, show (s.tid t).qs.take (s.tid t).qs.length = (s.tid t).qs from List.take_of_length_le (Nat.le_refl _)] at this
        rw [HT.out]; exact this)
      have OF := Lib.hid (show StO wr g lo (toS s m) (a.put t A5 D5 c5 e5) by
        rw [HT.out]
        exact (O5.out.but BT.out).gr (fun j _ => pends_tid _ _ j))
      clear hkn
      go_wp2_with fail
      go_ret
      exact ⟨BR.out, by have := BT.out.size; have := SZ.out; have := S5.out; omega, .inl ⟨HE.out, rfl, _, KF.out, OF.out⟩⟩
theorem mmove_4_all (s : Sta) (a : Sad) (g t : Nat) (m : Mt) (A1 D1 : Option Addr) (c1 e1 : Nat) (w : World) (hK : Blk w g 31 (stX s a)) (hR : StR w g s a) (lo : Nat) (hN : ∀ k, k < 3 → NewAt lo (s.tid k).ps.length (a.A k) ∧ NewAt lo (s.tid k).qs.length (a.D k)) (hlo : lo ≤ w.heap.size) (hm : CoR w g m.c A1 D1) (hg : HasET w) (hms : mayS s = true) (hmm : mayM m = true) (ht : t < 3) (htid : m.tid = (t : Int)) (hk : m.kd = 4) :
    Calls Tryd.prog 29 #[.pointer (some ⟨g, 0, none⟩), .agg (mtX m A1 D1 c1 e1)] w (MoP s m g lo w) := by
  by_cases hE : chkE (s.tid t) 3 true = 0
  · by_cases h3 : (s.tid t).st = 3
    · exact mmove_4c s a g t m A1 D1 c1 e1 w hK hR lo hN hlo hm hg hms hmm ht htid hk hE h3
    · exact mmove_4a s a g t m A1 D1 c1 e1 w hK hR lo hN hlo hm hg hms hmm ht htid hk hE h3
  · exact mmove_4e s a g t m A1 D1 c1 e1 w hK hR lo hN hlo hm hg hms hmm ht htid hk hE
set_option maxRecDepth 100000 in
set_option maxHeartbeats 8000000 in
theorem mmove_1f (s : Sta) (a : Sad) (g t : Nat) (m : Mt) (A1 D1 : Option Addr) (c1 e1 : Nat) (w : World) (hK : Blk w g 31 (stX s a)) (hR : StR w g s a) (lo : Nat) (hN : ∀ k, k < 3 → NewAt lo (s.tid k).ps.length (a.A k) ∧ NewAt lo (s.tid k).qs.length (a.D k)) (hlo : lo ≤ w.heap.size) (hm : CoR w g m.c A1 D1) (hg : HasET w) (hms : mayS s = true) (hmm : mayM m = true) (ht : t < 3) (htid : m.tid = (t : Int)) (hk : m.kd = 1) (h0 : (s.tid t).st = 0) (h8 : s.made = 8) :
    Calls Tryd.prog 29 #[.pointer (some ⟨g, 0, none⟩), .agg (mtX m A1 D1 c1 e1)] w (MoP s m g lo w) := by
  have hgl : g < w.heap.size := hK.lt
  have htn : m.tid.toNat = t := by rw [htid]; rfl
  obtain ⟨W0, hW0⟩ : ∃ W0, W0 = w.alloc (.cells (mtX m A1 D1 c1 e1) 35) := ⟨_, rfl⟩
  have s0 : W0.heap.size = w.heap.size + 1 := by rw [hW0]; simp
  have B0 : Below w.heap.size w W0 := by rw [hW0]; exact bal (Below.refl _ _) _
  have K0 : Blk W0 w.heap.size 35 (mtX m A1 D1 c1 e1) := by rw [hW0]; exact Blk.new w 35 _
  have KG : Blk W0 g 31 (stX s a) := by rw [hW0]; exact hK.alloc _
  have i1 : (0 : Int) ≤ (t : Int) := by omega
  have i2 : (t : Int) < 3 := by omega
  have x1 : W0.drew.cell? ⟨w.heap.size, 1, none⟩ = some (.int .i64 (t : Int)) := by rw [← htid]; exact mt_cell K0.drew (j := 1) rfl
  have lt1 := st_tid KG.drew t ht
  have lt2 := st_tid ((KG.alloc (.cells #[.int .i8 0, .int .i64 0, .int .i64 0, .int .i64 0, .int .i64 0, .slice none 0 0, .slice none 0 0, .int .i64 0] 26)).drew) t ht
  have y1 : (W0.alloc (.cells #[.int .i8 0, .int .i64 0, .int .i64 0, .int .i64 0, .int .i64 0, .slice none 0 0, .slice none 0 0, .int .i64 0] 26)).drew.cell? ⟨w.heap.size, 1, none⟩ = some (.int .i64 (t : Int)) := by rw [← htid]; exact mt_cell ((K0.alloc _).drew) (j := 1) rfl
  obtain ⟨W1, st1, KC1, fb1, fh1, fs1⟩ := bk_store (P := Tryd.prog) (ty := 26) (cs := #[.int .i8 (s.tid t).st, .int .i64 (s.tid t).pid, .int .i64 (s.tid t).ep, .int .i64 (s.tid t).tm, .int .i64 (s.tid t).th, .slice (a.A t) (s.tid t).ps.length (a.c t), .slice (a.D t) (s.tid t).qs.length (a.e t), .int .i64 (s.tid t).ag]) 8 (Blk.new W0 26 #[.int .i8 0, .int .i64 0, .int .i64 0, .int .i64 0, .int .i64 0, .slice none 0 0, .slice none 0 0, .int .i64 0]).drew infoCoS rfl rfl (by simp [Value.oneCell'])
  have KE1 : Blk W1 w.heap.size 35 (mtX m A1 D1 c1 e1) := (fh1 _ (by omega)).trans ((K0.alloc (.cells #[.int .i8 0, .int .i64 0, .int .i64 0, .int .i64 0, .int .i64 0, .slice none 0 0, .slice none 0 0, .int .i64 0] 26)).drew)
  have KG1 : Blk W1 g 31 (stX s a) := (fh1 _ (by omega)).trans ((KG.alloc (.cells #[.int .i8 0, .int .i64 0, .int .i64 0, .int .i64 0, .int .i64 0, .slice none 0 0, .slice none 0 0, .int .i64 0] 26)).drew)
  have BG1 : Below w.heap.size w W1 := fb1 _ _ (by omega) (bal B0 (.cells #[.int .i8 0, .int .i64 0, .int .i64 0, .int .i64 0, .int .i64 0, .slice none 0 0, .slice none 0 0, .int .i64 0] 26)).drew
  have s1 : W1.heap.size = W0.heap.size + 1 := fs1.trans (show (W0.alloc (.cells #[.int .i8 0, .int .i64 0, .int .i64 0, .int .i64 0, .int .i64 0, .slice none 0 0, .slice none 0 0, .int .i64 0] 26)).heap.size = _ by simp)
  have lp := mt_pend (P := Tryd.prog) KE1
  obtain ⟨W2, hW2⟩ : ∃ W2, W2 = W1.alloc (.cells #[.int .i64 m.p.1, .int .i64 m.p.2.1, .int .i64 m.p.2.2] 33) := ⟨_, rfl⟩
  have KE2 : Blk W2 w.heap.size 35 (mtX m A1 D1 c1 e1) := by rw [hW2]; exact KE1.alloc _
  have KG2 : Blk W2 g 31 (stX s a) := by rw [hW2]; exact KG1.alloc _
  have KC2 : Blk W2 W0.heap.size 26 #[.int .i8 (s.tid t).st, .int .i64 (s.tid t).pid, .int .i64 (s.tid t).ep, .int .i64 (s.tid t).tm, .int .i64 (s.tid t).th, .slice (a.A t) (s.tid t).ps.length (a.c t), .slice (a.D t) (s.tid t).qs.length (a.e t), .int .i64 (s.tid t).ag] := by rw [hW2]; exact KC1.alloc _
  have KP2 : Blk W2 W1.heap.size 33 #[.int .i64 m.p.1, .int .i64 m.p.2.1, .int .i64 m.p.2.2] := by rw [hW2]; exact Blk.new _ _ _
  have BG2 : Below w.heap.size w W2 := by rw [hW2]; exact bal BG1 _
  have s2 : W2.heap.size = W1.heap.size + 1 := by rw [hW2]; simp
  have O2 : StO W2 g lo s a := StO.of hR hN (BG2.mono (Nat.le_of_lt hgl)) (by omega)
  have HW := Lib.hid hW0
  have HW2 := Lib.hid hW2
  have SZ := Lib.hid (show W0.heap.size = w.heap.size + 1 ∧ W1.heap.size = W0.heap.size + 1 ∧ W2.heap.size = W1.heap.size + 1 ∧ g < w.heap.size ∧ W2.drew.heap.size = W2.heap.size ∧ lo ≤ w.heap.size by have : W2.drew.heap.size = W2.heap.size := rfl; omega)
  have v0 := mt_cell KE2 (j := 0) rfl
  have cc1 : (m.kd == 1) = true := by rw [hk]; rfl
  have cc0 : (m.kd == 0) = false := by rw [hk]; rfl
  have cc2 : (m.kd == 2) = false := by rw [hk]; rfl
  have cc3 : (m.kd == 3) = false := by rw [hk]; rfl
  have cc4 : (m.kd == 4) = false := by rw [hk]; rfl
  have cc5 : (m.kd == 5) = false := by rw [hk]; rfl
  have cc6 : (m.kd == 6) = false := by rw [hk]; rfl
  have cc7 : (m.kd == 7) = false := by rw [hk]; rfl
  have hmay := ((okT_iff s t).1 (((mayS_iff s).1 hms).2.2.1 t ht))
  have hm0 := ((mayS_iff s).1 hms).1
  have hm8 := ((mayS_iff s).1 hms).2.1
  have hfit := (mayM_fit hmm).2.2.2
  have htm : 1 ≤ m.tm ∧ m.tm ≤ 20 := by
    unfold fitM at hfit
    rw [if_neg (by omega), if_pos hk] at hfit
    simpa only [Bool.and_eq_true, decide_eq_true_eq] using hfit
  have p0 := KC2.drew.cell 0
  have p1 := KC2.drew.cell 1
  have xm := st_made KG2.drew
  have vt := mt_cell KE2.drew (j := 2) rfl
  have lc := bk_load (P := Tryd.prog) 8 KC2.drew rfl
  have c0 : ((s.tid t).st == 0) = true := by rw [h0]; rfl
  have ew : IntKind.i64.wrap (s.made + 1) = s.made + 1 := IntWalk.i64_in _ (by omega)
  have d9 : decide (8 < s.made + 1) = true := decide_eq_true (by omega)
  have HE := Lib.hid (show toE s m = 102 by unfold toE; rw [htn, if_neg (by omega), if_neg (by omega), if_pos ⟨hk, h0⟩, if_pos h8])
  have BE := Lib.hid ((bal BG2 (.cells #[.string ⟨#[97, 32, 112, 114, 111, 100, 117, 99, 101, 114]⟩, .int .i64 102] 67)).drew)
  clear KE2 KG2 KC2 KP2 BG2 O2 h8 h0 hm0 hm8 hfit htm hmay
  clear hW0 s0 B0 K0 KG KC1 fb1 fh1 fs1 KE1 KG1 BG1 s1 hW2 s2 htid hK hR hN hlo hm hg hms hmm hk htn hgl
  go_enter Tryd.func29, Tryd.ntmps29
  go_upto_region 1 with (fail)
  rw [← HW.out]
  go_region
  clear x1 y1 lt1 lt2 st1
  go_upto_region 3 with (fail)
  rw [← HW2.out]
  clear lp
  go_wp2_with fail
  go_region
  clear p0 p1
  go_wp2_with fail
  go_ret
  unfold MoP
  rw [HE.out]
  exact ⟨BE.out.mono (by have := SZ.out; omega), BE.out.size, .inr ⟨by decide, _, rfl, (Blk.new W2 67 _).drew.cell 1⟩⟩
set_option maxRecDepth 100000 in
set_option maxHeartbeats 8000000 in
theorem mmove_1n (s : Sta) (a : Sad) (g t : Nat) (m : Mt) (A1 D1 : Option Addr) (c1 e1 : Nat) (w : World) (hK : Blk w g 31 (stX s a)) (hR : StR w g s a) (lo : Nat) (hN : ∀ k, k < 3 → NewAt lo (s.tid k).ps.length (a.A k) ∧ NewAt lo (s.tid k).qs.length (a.D k)) (hlo : lo ≤ w.heap.size) (hm : CoR w g m.c A1 D1) (hg : HasET w) (hms : mayS s = true) (hmm : mayM m = true) (ht : t < 3) (htid : m.tid = (t : Int)) (hk : m.kd = 1) (h0 : (s.tid t).st = 0) (h8 : ¬ s.made = 8) :
    Calls Tryd.prog 29 #[.pointer (some ⟨g, 0, none⟩), .agg (mtX m A1 D1 c1 e1)] w (MoP s m g lo w) := by
  have hgl : g < w.heap.size := hK.lt
  have htn : m.tid.toNat = t := by rw [htid]; rfl
  obtain ⟨W0, hW0⟩ : ∃ W0, W0 = w.alloc (.cells (mtX m A1 D1 c1 e1) 35) := ⟨_, rfl⟩
  have s0 : W0.heap.size = w.heap.size + 1 := by rw [hW0]; simp
  have B0 : Below w.heap.size w W0 := by rw [hW0]; exact bal (Below.refl _ _) _
  have K0 : Blk W0 w.heap.size 35 (mtX m A1 D1 c1 e1) := by rw [hW0]; exact Blk.new w 35 _
  have KG : Blk W0 g 31 (stX s a) := by rw [hW0]; exact hK.alloc _
  have i1 : (0 : Int) ≤ (t : Int) := by omega
  have i2 : (t : Int) < 3 := by omega
  have x1 : W0.drew.cell? ⟨w.heap.size, 1, none⟩ = some (.int .i64 (t : Int)) := by rw [← htid]; exact mt_cell K0.drew (j := 1) rfl
  have lt1 := st_tid KG.drew t ht
  have lt2 := st_tid ((KG.alloc (.cells #[.int .i8 0, .int .i64 0, .int .i64 0, .int .i64 0, .int .i64 0, .slice none 0 0, .slice none 0 0, .int .i64 0] 26)).drew) t ht
  have y1 : (W0.alloc (.cells #[.int .i8 0, .int .i64 0, .int .i64 0, .int .i64 0, .int .i64 0, .slice none 0 0, .slice none 0 0, .int .i64 0] 26)).drew.cell? ⟨w.heap.size, 1, none⟩ = some (.int .i64 (t : Int)) := by rw [← htid]; exact mt_cell ((K0.alloc _).drew) (j := 1) rfl
  obtain ⟨W1, st1, KC1, fb1, fh1, fs1⟩ := bk_store (P := Tryd.prog) (ty := 26) (cs := #[.int .i8 (s.tid t).st, .int .i64 (s.tid t).pid, .int .i64 (s.tid t).ep, .int .i64 (s.tid t).tm, .int .i64 (s.tid t).th, .slice (a.A t) (s.tid t).ps.length (a.c t), .slice (a.D t) (s.tid t).qs.length (a.e t), .int .i64 (s.tid t).ag]) 8 (Blk.new W0 26 #[.int .i8 0, .int .i64 0, .int .i64 0, .int .i64 0, .int .i64 0, .slice none 0 0, .slice none 0 0, .int .i64 0]).drew infoCoS rfl rfl (by simp [Value.oneCell'])
  have KE1 : Blk W1 w.heap.size 35 (mtX m A1 D1 c1 e1) := (fh1 _ (by omega)).trans ((K0.alloc (.cells #[.int .i8 0, .int .i64 0, .int .i64 0, .int .i64 0, .int .i64 0, .slice none 0 0, .slice none 0 0, .int .i64 0] 26)).drew)
  have KG1 : Blk W1 g 31 (stX s a) := (fh1 _ (by omega)).trans ((KG.alloc (.cells #[.int .i8 0, .int .i64 0, .int .i64 0, .int .i64 0, .int .i64 0, .slice none 0 0, .slice none 0 0, .int .i64 0] 26)).drew)
  have BG1 : Below w.heap.size w W1 := fb1 _ _ (by omega) (bal B0 (.cells #[.int .i8 0, .int .i64 0, .int .i64 0, .int .i64 0, .int .i64 0, .slice none 0 0, .slice none 0 0, .int .i64 0] 26)).drew
  have s1 : W1.heap.size = W0.heap.size + 1 := fs1.trans (show (W0.alloc (.cells #[.int .i8 0, .int .i64 0, .int .i64 0, .int .i64 0, .int .i64 0, .slice none 0 0, .slice none 0 0, .int .i64 0] 26)).heap.size = _ by simp)
  have lp := mt_pend (P := Tryd.prog) KE1
  obtain ⟨W2, hW2⟩ : ∃ W2, W2 = W1.alloc (.cells #[.int .i64 m.p.1, .int .i64 m.p.2.1, .int .i64 m.p.2.2] 33) := ⟨_, rfl⟩
  have KE2 : Blk W2 w.heap.size 35 (mtX m A1 D1 c1 e1) := by rw [hW2]; exact KE1.alloc _
  have KG2 : Blk W2 g 31 (stX s a) := by rw [hW2]; exact KG1.alloc _
  have KC2 : Blk W2 W0.heap.size 26 #[.int .i8 (s.tid t).st, .int .i64 (s.tid t).pid, .int .i64 (s.tid t).ep, .int .i64 (s.tid t).tm, .int .i64 (s.tid t).th, .slice (a.A t) (s.tid t).ps.length (a.c t), .slice (a.D t) (s.tid t).qs.length (a.e t), .int .i64 (s.tid t).ag] := by rw [hW2]; exact KC1.alloc _
  have KP2 : Blk W2 W1.heap.size 33 #[.int .i64 m.p.1, .int .i64 m.p.2.1, .int .i64 m.p.2.2] := by rw [hW2]; exact Blk.new _ _ _
  have BG2 : Below w.heap.size w W2 := by rw [hW2]; exact bal BG1 _
  have s2 : W2.heap.size = W1.heap.size + 1 := by rw [hW2]; simp
  have O2 : StO W2 g lo s a := StO.of hR hN (BG2.mono (Nat.le_of_lt hgl)) (by omega)
  have HW := Lib.hid hW0
  have HW2 := Lib.hid hW2
  have SZ := Lib.hid (show W0.heap.size = w.heap.size + 1 ∧ W1.heap.size = W0.heap.size + 1 ∧ W2.heap.size = W1.heap.size + 1 ∧ g < w.heap.size ∧ W2.drew.heap.size = W2.heap.size ∧ lo ≤ w.heap.size by have : W2.drew.heap.size = W2.heap.size := rfl; omega)
  have v0 := mt_cell KE2 (j := 0) rfl
  have cc1 : (m.kd == 1) = true := by rw [hk]; rfl
  have cc0 : (m.kd == 0) = false := by rw [hk]; rfl
  have cc2 : (m.kd == 2) = false := by rw [hk]; rfl
  have cc3 : (m.kd == 3) = false := by rw [hk]; rfl
  have cc4 : (m.kd == 4) = false := by rw [hk]; rfl
  have cc5 : (m.kd == 5) = false := by rw [hk]; rfl
  have cc6 : (m.kd == 6) = false := by rw [hk]; rfl
  have cc7 : (m.kd == 7) = false := by rw [hk]; rfl
  have hmay := ((okT_iff s t).1 (((mayS_iff s).1 hms).2.2.1 t ht))
  have hm0 := ((mayS_iff s).1 hms).1
  have hm8 := ((mayS_iff s).1 hms).2.1
  have hfit := (mayM_fit hmm).2.2.2
  have htm : 1 ≤ m.tm ∧ m.tm ≤ 20 := by
    unfold fitM at hfit
    rw [if_neg (by omega), if_pos hk] at hfit
    simpa only [Bool.and_eq_true, decide_eq_true_eq] using hfit
  have p0 := KC2.drew.cell 0
  have p1 := KC2.drew.cell 1
  have xm := st_made KG2.drew
  have vt := mt_cell KE2.drew (j := 2) rfl
  have lc := bk_load (P := Tryd.prog) 8 KC2.drew rfl
  have HTI := Lib.hid htid
  have HR := Lib.hid hR
  have c0 : ((s.tid t).st == 0) = true := by rw [h0]; rfl
  have ew : IntKind.i64.wrap (s.made + 1) = s.made + 1 := IntWalk.i64_in _ (by omega)
  have d9 : decide (8 < s.made + 1) = false := decide_eq_false (by omega)
  have d8 : decide (8 ≤ s.made) = false := decide_eq_false (by omega)
  have hin := init_fresh hmay.1 h0 (n := s.made + 1) (tm := m.tm) (by omega) (by omega) htm.1 htm.2
  have ca := Init_all (s.tid t) (a.A t) (a.D t) (a.c t) (a.e t) (s.made + 1) m.tm W2.drew (O2.but (But.drew g W2) t ht).1 (hg.up BG2.drew)
  obtain ⟨d, hd⟩ : ∃ d, initC (s.tid t) (s.made + 1) m.tm = d := ⟨_, rfl⟩
  rw [hin.1, hd] at ca
  have HE := Lib.hid (show toE s m = 0 by unfold toE; rw [htn, if_neg (by omega), if_neg (by omega), if_pos ⟨hk, h0⟩, if_neg h8])
  have HT := Lib.hid (show toS s m = { s.put t d with made := s.made + 1 } by unfold toS; rw [htn, if_neg (by omega), if_neg (by omega), if_neg (by omega), if_pos ⟨hk, h0⟩, hd])
  have CA := Lib.hid ca
  have KE2 := Lib.hid KE2.drew
  have KG2 := Lib.hid KG2.drew
  have KC2 := Lib.hid KC2.drew
  have BG2 := Lib.hid BG2.drew
  have O2 := Lib.hid (O2.but (But.drew g W2))
  clear ca hd hin KP2 h8 h0 hm0 hm8 hfit htm hmay
  clear hW0 s0 B0 K0 KG KC1 fb1 fh1 fs1 KE1 KG1 BG1 s1 hW2 s2 htid hK hR hN hlo hm hg hms hmm hk htn hgl
  go_enter Tryd.func29, Tryd.ntmps29
  go_upto_region 1 with (fail)
  rw [← HW.out]
  go_region
  clear x1 y1 lt1 lt2 st1
  go_upto_region 3 with (fail)
  rw [← HW2.out]
  clear lp
  go_wp2_with fail
  go_region
  clear p0 p1
  go_wp2_with fail
  refine CA.out.mono ?_
  rintro e w3 ⟨A5, D5, c5, e5, rfl, r5, b5, na, nd⟩
  obtain ⟨W4, st4, k4, fb4, fh4, fs4⟩ := bk_store (P := Tryd.prog) (ty := 26) (cs := #[.int .i8 d.st, .int .i64 d.pid, .int .i64 d.ep, .int .i64 d.tm, .int .i64 d.th, .slice A5 d.ps.length c5, .slice D5 d.qs.length e5, .int .i64 d.ag]) 8 (KC2.out.below b5 (by have := SZ.out; omega)) infoCoS rfl rfl (by simp [Value.oneCell'])
  have ke4 : Blk W4 w.heap.size 35 (mtX m A1 D1 c1 e1) := (fh4 _ (by have := SZ.out; omega)).trans (KE2.out.below b5 (by have := SZ.out; omega))
  have kg4 : Blk W4 g 31 (stX s a) := (fh4 _ (by have := SZ.out; omega)).trans (KG2.out.below b5 (by have := SZ.out; omega))
  have x4 : W4.drew.cell? ⟨w.heap.size, 1, none⟩ = some (.int .i64 (t : Int)) := by rw [← HTI.out]; exact mt_cell ke4.drew (j := 1) rfl
  have l4 := bk_load (P := Tryd.prog) 8 k4.drew rfl
  obtain ⟨W5, st5, k5, fb5, fh5, fs5⟩ := st_mkput kg4.drew t ht d A5 D5 c5 e5
  have K5 := Lib.hid k5
  have bg3 : Below w.heap.size w w3 := BG2.out.trans (b5.mono BG2.out.size)
  have B5 := Lib.hid (fb5 g w (Nat.le_refl _) (fb4 g w (by have := SZ.out; omega) (bg3.mono (by have := SZ.out; omega))).drew)
  have S5 := Lib.hid (show w.heap.size ≤ W5.heap.size by have h1 := bg3.size; have h2 : W4.drew.heap.size = W4.heap.size := rfl; omega)
  have bt3 : But g _ w3 := But.below b5
  have bt4 : But W0.heap.size w3 W4 := But.one fh4 fs4
  have bt5 : But g W4 W5 := (But.drew g W4).trans (But.one fh5 fs5)
  have O5 := Lib.hid (show StO W5 g lo (s.put t d) (a.put t A5 D5 c5 e5) from by
    have hlt := SZ.out
    have o3 : StO w3 g lo s a := O2.out.but bt3
    have o4 : StO W4 g lo s a := fun j hj => ⟨((HR.out j hj).below (fb4 g w (by omega) (bg3.mono (by omega)))).more (by have := bg3.size; omega), (o3 j hj).2⟩
    have r4 : CoR W4 W4.heap.size d A5 D5 := r5.keepN na nd (b := W0.heap.size) (by omega) fh4 fs4
    have r6 : CoR W5 W5.heap.size d A5 D5 := r4.keepB (na.off (by omega)) (nd.off (by omega)) bt5.keep bt5.size
    exact (o4.but bt5).put r6 na nd (by omega) (by omega))
  clear k4 ke4 kg4 k5 fb4 fh4 fs4 fb5 fh5 fs5 bg3 bt3 bt4 bt5 r5 b5 na nd
  have ym := st_made K5.out
  obtain ⟨W6, st6, k6, fb6, fh6, fs6⟩ := st_mkmade K5.out (s.made + 1)
  have K6 := Lib.hid k6
  have B6 := Lib.hid (fb6 g w (Nat.le_refl _) B5.out)
  have O6 := Lib.hid (show StO W6 g lo { s.put t d with made := s.made + 1 } (a.put t A5 D5 c5 e5) from (O5.out.but (But.one fh6 fs6)).gr (fun _ _ => rfl))
  have S6 := Lib.hid (show w.heap.size ≤ W6.heap.size by have := S5.out; omega)
  have em : (s.put t d).made = s.made := rfl
  rw [em] at ym
  clear lc v0 vt xm k6 fb6 fh6 fs6 em
  go_wp2_with fail
  refine wp_region_qtail 7 (by kernel_rfl) (by kernel_rfl) ?_
  simp only [List.take_succ_cons, List.take_zero, List.drop_succ_cons, List.drop_zero]
  repeat (go_big_quiet_step (fail))
  refine wpQuiet_nil ?_
  go_wp2_with fail
  go_ret
  unfold MoP
  rw [HE.out, HT.out]
  exact ⟨B6.out, by have := SZ.out; exact S6.out, .inl ⟨rfl, rfl, _, K6.out, O6.out⟩⟩
set_option maxRecDepth 100000 in
set_option maxHeartbeats 8000000 in
theorem mmove_1o (s : Sta) (a : Sad) (g t : Nat) (m : Mt) (A1 D1 : Option Addr) (c1 e1 : Nat) (w : World) (hK : Blk w g 31 (stX s a)) (hR : StR w g s a) (lo : Nat) (hN : ∀ k, k < 3 → NewAt lo (s.tid k).ps.length (a.A k) ∧ NewAt lo (s.tid k).qs.length (a.D k)) (hlo : lo ≤ w.heap.size) (hm : CoR w g m.c A1 D1) (hg : HasET w) (hms : mayS s = true) (hmm : mayM m = true) (ht : t < 3) (htid : m.tid = (t : Int)) (hk : m.kd = 1) (h0 : ¬ (s.tid t).st = 0) (hE : initE (s.tid t) (s.tid t).pid m.tm = 0) :
    Calls Tryd.prog 29 #[.pointer (some ⟨g, 0, none⟩), .agg (mtX m A1 D1 c1 e1)] w (MoP s m g lo w) := by
  have hgl : g < w.heap.size := hK.lt
  have htn : m.tid.toNat = t := by rw [htid]; rfl
  obtain ⟨W0, hW0⟩ : ∃ W0, W0 = w.alloc (.cells (mtX m A1 D1 c1 e1) 35) := ⟨_, rfl⟩
  have s0 : W0.heap.size = w.heap.size + 1 := by rw [hW0]; simp
  have B0 : Below w.heap.size w W0 := by rw [hW0]; exact bal (Below.refl _ _) _
  have K0 : Blk W0 w.heap.size 35 (mtX m A1 D1 c1 e1) := by rw [hW0]; exact Blk.new w 35 _
  have KG : Blk W0 g 31 (stX s a) := by rw [hW0]; exact hK.alloc _
  have i1 : (0 : Int) ≤ (t : Int) := by omega
  have i2 : (t : Int) < 3 := by omega
  have x1 : W0.drew.cell? ⟨w.heap.size, 1, none⟩ = some (.int .i64 (t : Int)) := by rw [← htid]; exact mt_cell K0.drew (j := 1) rfl
  have lt1 := st_tid KG.drew t ht
  have lt2 := st_tid ((KG.alloc (.cells #[.int .i8 0, .int .i64 0, .int .i64 0, .int .i64 0, .int .i64 0, .slice none 0 0, .slice none 0 0, .int .i64 0] 26)).drew) t ht
  have y1 : (W0.alloc (.cells #[.int .i8 0, .int .i64 0, .int .i64 0, .int .i64 0, .int .i64 0, .slice none 0 0, .slice none 0 0, .int .i64 0] 26)).drew.cell? ⟨w.heap.size, 1, none⟩ = some (.int .i64 (t : Int)) := by rw [← htid]; exact mt_cell ((K0.alloc _).drew) (j := 1) rfl
  obtain ⟨W1, st1, KC1, fb1, fh1, fs1⟩ := bk_store (P := Tryd.prog) (ty := 26) (cs := #[.int .i8 (s.tid t).st, .int .i64 (s.tid t).pid, .int .i64 (s.tid t).ep, .int .i64 (s.tid t).tm, .int .i64 (s.tid t).th, .slice (a.A t) (s.tid t).ps.length (a.c t), .slice (a.D t) (s.tid t).qs.length (a.e t), .int .i64 (s.tid t).ag]) 8 (Blk.new W0 26 #[.int .i8 0, .int .i64 0, .int .i64 0, .int .i64 0, .int .i64 0, .slice none 0 0, .slice none 0 0, .int .i64 0]).drew infoCoS rfl rfl (by simp [Value.oneCell'])
  have KE1 : Blk W1 w.heap.size 35 (mtX m A1 D1 c1 e1) := (fh1 _ (by omega)).trans ((K0.alloc (.cells #[.int .i8 0, .int .i64 0, .int .i64 0, .int .i64 0, .int .i64 0, .slice none 0 0, .slice none 0 0, .int .i64 0] 26)).drew)
  have KG1 : Blk W1 g 31 (stX s a) := (fh1 _ (by omega)).trans ((KG.alloc (.cells #[.int .i8 0, .int .i64 0, .int .i64 0, .int .i64 0, .int .i64 0, .slice none 0 0, .slice none 0 0, .int .i64 0] 26)).drew)
  have BG1 : Below w.heap.size w W1 := fb1 _ _ (by omega) (bal B0 (.cells #[.int .i8 0, .int .i64 0, .int .i64 0, .int .i64 0, .int .i64 0, .slice none 0 0, .slice none 0 0, .int .i64 0] 26)).drew
  have s1 : W1.heap.size = W0.heap.size + 1 := fs1.trans (show (W0.alloc (.cells #[.int .i8 0, .int .i64 0, .int .i64 0, .int .i64 0, .int .i64 0, .slice none 0 0, .slice none 0 0, .int .i64 0] 26)).heap.size = _ by simp)
  have lp := mt_pend (P := Tryd.prog) KE1
  obtain ⟨W2, hW2⟩ : ∃ W2, W2 = W1.alloc (.cells #[.int .i64 m.p.1, .int .i64 m.p.2.1, .int .i64 m.p.2.2] 33) := ⟨_, rfl⟩
  have KE2 : Blk W2 w.heap.size 35 (mtX m A1 D1 c1 e1) := by rw [hW2]; exact KE1.alloc _
  have KG2 : Blk W2 g 31 (stX s a) := by rw [hW2]; exact KG1.alloc _
  have KC2 : Blk W2 W0.heap.size 26 #[.int .i8 (s.tid t).st, .int .i64 (s.tid t).pid, .int .i64 (s.tid t).ep, .int .i64 (s.tid t).tm, .int .i64 (s.tid t).th, .slice (a.A t) (s.tid t).ps.length (a.c t), .slice (a.D t) (s.tid t).qs.length (a.e t), .int .i64 (s.tid t).ag] := by rw [hW2]; exact KC1.alloc _
  have KP2 : Blk W2 W1.heap.size 33 #[.int .i64 m.p.1, .int .i64 m.p.2.1, .int .i64 m.p.2.2] := by rw [hW2]; exact Blk.new _ _ _
  have BG2 : Below w.heap.size w W2 := by rw [hW2]; exact bal BG1 _
  have s2 : W2.heap.size = W1.heap.size + 1 := by rw [hW2]; simp
  have O2 : StO W2 g lo s a := StO.of hR hN (BG2.mono (Nat.le_of_lt hgl)) (by omega)
  have HW := Lib.hid hW0
  have HW2 := Lib.hid hW2
  have SZ := Lib.hid (show W0.heap.size = w.heap.size + 1 ∧ W1.heap.size = W0.heap.size + 1 ∧ W2.heap.size = W1.heap.size + 1 ∧ g < w.heap.size ∧ W2.drew.heap.size = W2.heap.size ∧ lo ≤ w.heap.size by have : W2.drew.heap.size = W2.heap.size := rfl; omega)
  have v0 := mt_cell KE2 (j := 0) rfl
  have cc1 : (m.kd == 1) = true := by rw [hk]; rfl
  have cc0 : (m.kd == 0) = false := by rw [hk]; rfl
  have cc2 : (m.kd == 2) = false := by rw [hk]; rfl
  have cc3 : (m.kd == 3) = false := by rw [hk]; rfl
  have cc4 : (m.kd == 4) = false := by rw [hk]; rfl
  have cc5 : (m.kd == 5) = false := by rw [hk]; rfl
  have cc6 : (m.kd == 6) = false := by rw [hk]; rfl
  have cc7 : (m.kd == 7) = false := by rw [hk]; rfl
  have hmay := ((okT_iff s t).1 (((mayS_iff s).1 hms).2.2.1 t ht))
  have hm0 := ((mayS_iff s).1 hms).1
  have hm8 := ((mayS_iff s).1 hms).2.1
  have hfit := (mayM_fit hmm).2.2.2
  have htm : 1 ≤ m.tm ∧ m.tm ≤ 20 := by
    unfold fitM at hfit
    rw [if_neg (by omega), if_pos hk] at hfit
    simpa only [Bool.and_eq_true, decide_eq_true_eq] using hfit
  have p0 := KC2.drew.cell 0
  have p1 := KC2.drew.cell 1
  have xm := st_made KG2.drew
  have vt := mt_cell KE2.drew (j := 2) rfl
  have lc := bk_load (P := Tryd.prog) 8 KC2.drew rfl
  have HTI := Lib.hid htid
  have HR := Lib.hid hR
  have c0 : ((s.tid t).st == 0) = false := by simpa using h0
  have hrg := (range_iff _).1 (may_range hmay.1 h0)
  have d9 : decide (8 < (s.tid t).pid) = false := decide_eq_false (by omega)
  have hio := init_old (c := s.tid t) (n := (s.tid t).pid) (k := min (s.made + 1) 8) (tm := m.tm) h0 ⟨hrg.2.1, hrg.2.2.1⟩ ⟨by omega, by omega⟩
  have ca := Init_all (s.tid t) (a.A t) (a.D t) (a.c t) (a.e t) (s.tid t).pid m.tm W2.drew (O2.but (But.drew g W2) t ht).1 (hg.up BG2.drew)
  obtain ⟨n, hn⟩ : ∃ n, initE (s.tid t) (s.tid t).pid m.tm = n := ⟨_, rfl⟩
  obtain ⟨d, hd⟩ : ∃ d, initC (s.tid t) (s.tid t).pid m.tm = d := ⟨_, rfl⟩
  have HE := Lib.hid (show toE s m = n by unfold toE moveE; rw [htn, if_neg (by omega), if_neg (by omega), if_neg (fun h => h0 h.2), if_pos hk, ← hio.1, hn])
  have HT := Lib.hid (show toS s m = s.put t d by unfold toS moveC; rw [htn, if_neg (by omega), if_neg (by omega), if_neg (by omega), if_neg (fun h => h0 h.2), if_neg (by omega), if_pos hk, ← hio.2, hd]; rfl)
  rw [hn, hd] at ca
  rw [hn] at hE
  subst hE
  have CA := Lib.hid ca
  have KE2 := Lib.hid KE2.drew
  have KG2 := Lib.hid KG2.drew
  have KC2 := Lib.hid KC2.drew
  have BG2 := Lib.hid BG2.drew
  have O2 := Lib.hid (O2.but (But.drew g W2))
  clear ca hd hn hio hrg KP2 h0 hm0 hm8 hfit htm hmay
  clear hW0 s0 B0 K0 KG KC1 fb1 fh1 fs1 KE1 KG1 BG1 s1 hW2 s2 htid hK hR hN hlo hm hg hms hmm hk htn hgl
  go_enter Tryd.func29, Tryd.ntmps29
  go_upto_region 1 with (fail)
  rw [← HW.out]
  go_region
  clear x1 y1 lt1 lt2 st1
  go_upto_region 3 with (fail)
  rw [← HW2.out]
  clear lp
  go_wp2_with fail
  go_region
  clear p0 p1
  go_wp2_with fail
  refine CA.out.mono ?_
  rintro e w3 ⟨A5, D5, c5, e5, rfl, r5, b5, na, nd⟩
  obtain ⟨W4, st4, k4, fb4, fh4, fs4⟩ := bk_store (P := Tryd.prog) (ty := 26) (cs := #[.int .i8 d.st, .int .i64 d.pid, .int .i64 d.ep, .int .i64 d.tm, .int .i64 d.th, .slice A5 d.ps.length c5, .slice D5 d.qs.length e5, .int .i64 d.ag]) 8 (KC2.out.below b5 (by have := SZ.out; omega)) infoCoS rfl rfl (by simp [Value.oneCell'])
  have ke4 : Blk W4 w.heap.size 35 (mtX m A1 D1 c1 e1) := (fh4 _ (by have := SZ.out; omega)).trans (KE2.out.below b5 (by have := SZ.out; omega))
  have kg4 : Blk W4 g 31 (stX s a) := (fh4 _ (by have := SZ.out; omega)).trans (KG2.out.below b5 (by have := SZ.out; omega))
  have x4 : W4.drew.cell? ⟨w.heap.size, 1, none⟩ = some (.int .i64 (t : Int)) := by rw [← HTI.out]; exact mt_cell ke4.drew (j := 1) rfl
  have l4 := bk_load (P := Tryd.prog) 8 k4.drew rfl
  obtain ⟨W5, st5, k5, fb5, fh5, fs5⟩ := st_mkput kg4.drew t ht d A5 D5 c5 e5
  have K5 := Lib.hid k5
  have bg3 : Below w.heap.size w w3 := BG2.out.trans (b5.mono BG2.out.size)
  have B5 := Lib.hid (fb5 g w (Nat.le_refl _) (fb4 g w (by have := SZ.out; omega) (bg3.mono (by have := SZ.out; omega))).drew)
  have S5 := Lib.hid (show w.heap.size ≤ W5.heap.size by have h1 := bg3.size; have h2 : W4.drew.heap.size = W4.heap.size := rfl; omega)
  have bt3 : But g _ w3 := But.below b5
  have bt4 : But W0.heap.size w3 W4 := But.one fh4 fs4
  have bt5 : But g W4 W5 := (But.drew g W4).trans (But.one fh5 fs5)
  have O5 := Lib.hid (show StO W5 g lo (s.put t d) (a.put t A5 D5 c5 e5) from by
    have hlt := SZ.out
    have o3 : StO w3 g lo s a := O2.out.but bt3
    have o4 : StO W4 g lo s a := fun j hj => ⟨((HR.out j hj).below (fb4 g w (by omega) (bg3.mono (by omega)))).more (by have := bg3.size; omega), (o3 j hj).2⟩
    have r4 : CoR W4 W4.heap.size d A5 D5 := r5.keepN na nd (b := W0.heap.size) (by omega) fh4 fs4
    have r6 : CoR W5 W5.heap.size d A5 D5 := r4.keepB (na.off (by omega)) (nd.off (by omega)) bt5.keep bt5.size
    exact (o4.but bt5).put r6 na nd (by omega) (by omega))
  clear k4 ke4 kg4 k5 fb4 fh4 fs4 fb5 fh5 fs5 bg3 bt3 bt4 bt5 r5 b5 na nd
  clear lc v0 vt xm
  go_wp2_with fail
  refine wp_region_qtail 7 (by kernel_rfl) (by kernel_rfl) ?_
  simp only [List.take_succ_cons, List.take_zero, List.drop_succ_cons, List.drop_zero]
  repeat (go_big_quiet_step (fail))
  refine wpQuiet_nil ?_
  go_wp2_with fail
  go_ret
  unfold MoP
  rw [HE.out, HT.out]
  exact ⟨B5.out, by have := SZ.out; exact S5.out, .inl ⟨rfl, rfl, _, K5.out, O5.out⟩⟩
set_option maxRecDepth 100000 in
set_option maxHeartbeats 8000000 in
theorem mmove_1e (s : Sta) (a : Sad) (g t : Nat) (m : Mt) (A1 D1 : Option Addr) (c1 e1 : Nat) (w : World) (hK : Blk w g 31 (stX s a)) (hR : StR w g s a) (lo : Nat) (hN : ∀ k, k < 3 → NewAt lo (s.tid k).ps.length (a.A k) ∧ NewAt lo (s.tid k).qs.length (a.D k)) (hlo : lo ≤ w.heap.size) (hm : CoR w g m.c A1 D1) (hg : HasET w) (hms : mayS s = true) (hmm : mayM m = true) (ht : t < 3) (htid : m.tid = (t : Int)) (hk : m.kd = 1) (h0 : ¬ (s.tid t).st = 0) (hE : ¬ initE (s.tid t) (s.tid t).pid m.tm = 0) :
    Calls Tryd.prog 29 #[.pointer (some ⟨g, 0, none⟩), .agg (mtX m A1 D1 c1 e1)] w (MoP s m g lo w) := by
  have hgl : g < w.heap.size := hK.lt
  have htn : m.tid.toNat = t := by rw [htid]; rfl
  obtain ⟨W0, hW0⟩ : ∃ W0, W0 = w.alloc (.cells (mtX m A1 D1 c1 e1) 35) := ⟨_, rfl⟩
  have s0 : W0.heap.size = w.heap.size + 1 := by rw [hW0]; simp
  have B0 : Below w.heap.size w W0 := by rw [hW0]; exact bal (Below.refl _ _) _
  have K0 : Blk W0 w.heap.size 35 (mtX m A1 D1 c1 e1) := by rw [hW0]; exact Blk.new w 35 _
  have KG : Blk W0 g 31 (stX s a) := by rw [hW0]; exact hK.alloc _
  have i1 : (0 : Int) ≤ (t : Int) := by omega
  have i2 : (t : Int) < 3 := by omega
  have x1 : W0.drew.cell? ⟨w.heap.size, 1, none⟩ = some (.int .i64 (t : Int)) := by rw [← htid]; exact mt_cell K0.drew (j := 1) rfl
  have lt1 := st_tid KG.drew t ht
  have lt2 := st_tid ((KG.alloc (.cells #[.int .i8 0, .int .i64 0, .int .i64 0, .int .i64 0, .int .i64 0, .slice none 0 0, .slice none 0 0, .int .i64 0] 26)).drew) t ht
  have y1 : (W0.alloc (.cells #[.int .i8 0, .int .i64 0, .int .i64 0, .int .i64 0, .int .i64 0, .slice none 0 0, .slice none 0 0, .int .i64 0] 26)).drew.cell? ⟨w.heap.size, 1, none⟩ = some (.int .i64 (t : Int)) := by rw [← htid]; exact mt_cell ((K0.alloc _).drew) (j := 1) rfl
  obtain ⟨W1, st1, KC1, fb1, fh1, fs1⟩ := bk_store (P := Tryd.prog) (ty := 26) (cs := #[.int .i8 (s.tid t).st, .int .i64 (s.tid t).pid, .int .i64 (s.tid t).ep, .int .i64 (s.tid t).tm, .int .i64 (s.tid t).th, .slice (a.A t) (s.tid t).ps.length (a.c t), .slice (a.D t) (s.tid t).qs.length (a.e t), .int .i64 (s.tid t).ag]) 8 (Blk.new W0 26 #[.int .i8 0, .int .i64 0, .int .i64 0, .int .i64 0, .int .i64 0, .slice none 0 0, .slice none 0 0, .int .i64 0]).drew infoCoS rfl rfl (by simp [Value.oneCell'])
  have KE1 : Blk W1 w.heap.size 35 (mtX m A1 D1 c1 e1) := (fh1 _ (by omega)).trans ((K0.alloc (.cells #[.int .i8 0, .int .i64 0, .int .i64 0, .int .i64 0, .int .i64 0, .slice none 0 0, .slice none 0 0, .int .i64 0] 26)).drew)
  have KG1 : Blk W1 g 31 (stX s a) := (fh1 _ (by omega)).trans ((KG.alloc (.cells #[.int .i8 0, .int .i64 0, .int .i64 0, .int .i64 0, .int .i64 0, .slice none 0 0, .slice none 0 0, .int .i64 0] 26)).drew)
  have BG1 : Below w.heap.size w W1 := fb1 _ _ (by omega) (bal B0 (.cells #[.int .i8 0, .int .i64 0, .int .i64 0, .int .i64 0, .int .i64 0, .slice none 0 0, .slice none 0 0, .int .i64 0] 26)).drew
  have s1 : W1.heap.size = W0.heap.size + 1 := fs1.trans (show (W0.alloc (.cells #[.int .i8 0, .int .i64 0, .int .i64 0, .int .i64 0, .int .i64 0, .slice none 0 0, .slice none 0 0, .int .i64 0] 26)).heap.size = _ by simp)
  have lp := mt_pend (P := Tryd.prog) KE1
  obtain ⟨W2, hW2⟩ : ∃ W2, W2 = W1.alloc (.cells #[.int .i64 m.p.1, .int .i64 m.p.2.1, .int .i64 m.p.2.2] 33) := ⟨_, rfl⟩
  have KE2 : Blk W2 w.heap.size 35 (mtX m A1 D1 c1 e1) := by rw [hW2]; exact KE1.alloc _
  have KG2 : Blk W2 g 31 (stX s a) := by rw [hW2]; exact KG1.alloc _
  have KC2 : Blk W2 W0.heap.size 26 #[.int .i8 (s.tid t).st, .int .i64 (s.tid t).pid, .int .i64 (s.tid t).ep, .int .i64 (s.tid t).tm, .int .i64 (s.tid t).th, .slice (a.A t) (s.tid t).ps.length (a.c t), .slice (a.D t) (s.tid t).qs.length (a.e t), .int .i64 (s.tid t).ag] := by rw [hW2]; exact KC1.alloc _
  have KP2 : Blk W2 W1.heap.size 33 #[.int .i64 m.p.1, .int .i64 m.p.2.1, .int .i64 m.p.2.2] := by rw [hW2]; exact Blk.new _ _ _
  have BG2 : Below w.heap.size w W2 := by rw [hW2]; exact bal BG1 _
  have s2 : W2.heap.size = W1.heap.size + 1 := by rw [hW2]; simp
  have O2 : StO W2 g lo s a := StO.of hR hN (BG2.mono (Nat.le_of_lt hgl)) (by omega)
  have HW := Lib.hid hW0
  have HW2 := Lib.hid hW2
  have SZ := Lib.hid (show W0.heap.size = w.heap.size + 1 ∧ W1.heap.size = W0.heap.size + 1 ∧ W2.heap.size = W1.heap.size + 1 ∧ g < w.heap.size ∧ W2.drew.heap.size = W2.heap.size ∧ lo ≤ w.heap.size by have : W2.drew.heap.size = W2.heap.size := rfl; omega)
  have v0 := mt_cell KE2 (j := 0) rfl
  have cc1 : (m.kd == 1) = true := by rw [hk]; rfl
  have cc0 : (m.kd == 0) = false := by rw [hk]; rfl
  have cc2 : (m.kd == 2) = false := by rw [hk]; rfl
  have cc3 : (m.kd == 3) = false := by rw [hk]; rfl
  have cc4 : (m.kd == 4) = false := by rw [hk]; rfl
  have cc5 : (m.kd == 5) = false := by rw [hk]; rfl
  have cc6 : (m.kd == 6) = false := by rw [hk]; rfl
  have cc7 : (m.kd == 7) = false := by rw [hk]; rfl
  have hmay := ((okT_iff s t).1 (((mayS_iff s).1 hms).2.2.1 t ht))
  have hm0 := ((mayS_iff s).1 hms).1
  have hm8 := ((mayS_iff s).1 hms).2.1
  have hfit := (mayM_fit hmm).2.2.2
  have htm : 1 ≤ m.tm ∧ m.tm ≤ 20 := by
    unfold fitM at hfit
    rw [if_neg (by omega), if_pos hk] at hfit
    simpa only [Bool.and_eq_true, decide_eq_true_eq] using hfit
  have p0 := KC2.drew.cell 0
  have p1 := KC2.drew.cell 1
  have xm := st_made KG2.drew
  have vt := mt_cell KE2.drew (j := 2) rfl
  have lc := bk_load (P := Tryd.prog) 8 KC2.drew rfl
  have HTI := Lib.hid htid
  have HR := Lib.hid hR
  have c0 : ((s.tid t).st == 0) = false := by simpa using h0
  have hrg := (range_iff _).1 (may_range hmay.1 h0)
  have d9 : decide (8 < (s.tid t).pid) = false := decide_eq_false (by omega)
  have hio := init_old (c := s.tid t) (n := (s.tid t).pid) (k := min (s.made + 1) 8) (tm := m.tm) h0 ⟨hrg.2.1, hrg.2.2.1⟩ ⟨by omega, by omega⟩
  have ca := Init_all (s.tid t) (a.A t) (a.D t) (a.c t) (a.e t) (s.tid t).pid m.tm W2.drew (O2.but (But.drew g W2) t ht).1 (hg.up BG2.drew)
  obtain ⟨n, hn⟩ : ∃ n, initE (s.tid t) (s.tid t).pid m.tm = n := ⟨_, rfl⟩
  obtain ⟨d, hd⟩ : ∃ d, initC (s.tid t) (s.tid t).pid m.tm = d := ⟨_, rfl⟩
  have HE := Lib.hid (show toE s m = n by unfold toE moveE; rw [htn, if_neg (by omega), if_neg (by omega), if_neg (fun h => h0 h.2), if_pos hk, ← hio.1, hn])
  have HT := Lib.hid (show toS s m = s.put t d by unfold toS moveC; rw [htn, if_neg (by omega), if_neg (by omega), if_neg (by omega), if_neg (fun h => h0 h.2), if_neg (by omega), if_pos hk, ← hio.2, hd]; rfl)
  rw [hn, hd] at ca
  rw [hn] at hE
  have dn : (n == 0) = false := eqb_false hE
  have dn2 : (n != 0) = true := by simp [hE]
  have HNE := Lib.hid hE
  have CA := Lib.hid ca
  have KE2 := Lib.hid KE2.drew
  have KG2 := Lib.hid KG2.drew
  have KC2 := Lib.hid KC2.drew
  have BG2 := Lib.hid BG2.drew
  have O2 := Lib.hid (O2.but (But.drew g W2))
  clear ca hd hn hio hrg KP2 h0 hm0 hm8 hfit htm hmay hE
  clear hW0 s0 B0 K0 KG KC1 fb1 fh1 fs1 KE1 KG1 BG1 s1 hW2 s2 htid hK hR hN hlo hm hg hms hmm hk htn hgl
  go_enter Tryd.func29, Tryd.ntmps29
  go_upto_region 1 with (fail)
  rw [← HW.out]
  go_region
  clear x1 y1 lt1 lt2 st1
  go_upto_region 3 with (fail)
  rw [← HW2.out]
  clear lp
  go_wp2_with fail
  go_region
  clear p0 p1
  go_wp2_with fail
  refine CA.out.mono ?_
  rintro e w3 ⟨A5, D5, c5, e5, rfl, r5, b5, na, nd⟩
  obtain ⟨W4, st4, k4, fb4, fh4, fs4⟩ := bk_store (P := Tryd.prog) (ty := 26) (cs := #[.int .i8 d.st, .int .i64 d.pid, .int .i64 d.ep, .int .i64 d.tm, .int .i64 d.th, .slice A5 d.ps.length c5, .slice D5 d.qs.length e5, .int .i64 d.ag]) 8 (KC2.out.below b5 (by have := SZ.out; omega)) infoCoS rfl rfl (by simp [Value.oneCell'])
  have bg3 : Below w.heap.size w w3 := BG2.out.trans (b5.mono BG2.out.size)
  have B4 := Lib.hid (fb4 w.heap.size w (by have := SZ.out; omega) bg3)
  clear k4 fb4 fh4 fs4 bg3 r5 b5 na nd lc v0 vt xm
  go_wp2_with fail
  go_ret
  unfold MoP
  rw [HE.out]
  exact ⟨((bal B4.out _).mono (by have := SZ.out; omega)), (bal B4.out _).size, .inr ⟨HNE.out, _, rfl, (Blk.new W4 67 _).cell 1⟩⟩
theorem mmove_1_all (s : Sta) (a : Sad) (g t : Nat) (m : Mt) (A1 D1 : Option Addr) (c1 e1 : Nat) (w : World) (hK : Blk w g 31 (stX s a)) (hR : StR w g s a) (lo : Nat) (hN : ∀ k, k < 3 → NewAt lo (s.tid k).ps.length (a.A k) ∧ NewAt lo (s.tid k).qs.length (a.D k)) (hlo : lo ≤ w.heap.size) (hm : CoR w g m.c A1 D1) (hg : HasET w) (hms : mayS s = true) (hmm : mayM m = true) (ht : t < 3) (htid : m.tid = (t : Int)) (hk : m.kd = 1) :
    Calls Tryd.prog 29 #[.pointer (some ⟨g, 0, none⟩), .agg (mtX m A1 D1 c1 e1)] w (MoP s m g lo w) := by
  by_cases h0 : (s.tid t).st = 0
  · by_cases h8 : s.made = 8
    · exact mmove_1f s a g t m A1 D1 c1 e1 w hK hR lo hN hlo hm hg hms hmm ht htid hk h0 h8
    · exact mmove_1n s a g t m A1 D1 c1 e1 w hK hR lo hN hlo hm hg hms hmm ht htid hk h0 h8
  · by_cases hE : initE (s.tid t) (s.tid t).pid m.tm = 0
    · exact mmove_1o s a g t m A1 D1 c1 e1 w hK hR lo hN hlo hm hg hms hmm ht htid hk h0 hE
    · exact mmove_1e s a g t m A1 D1 c1 e1 w hK hR lo hN hlo hm hg hms hmm ht htid hk h0 hE
end
def staOne (c : Co) : Sta := ⟨0, fun k => if k = 0 then c else Co0, fun _ => 0⟩
def sadOne (A D : Option Addr) (c e : Nat) : Sad := ⟨fun k => if k = 0 then A else none, fun k => if k = 0 then D else none, fun k => if k = 0 then c else 0, fun k => if k = 0 then e else 0⟩
theorem staOne_R {w : World} {c : Co} {A D : Option Addr} {n e : Nat} (h : CoR w w.heap.size c A D) : StR w w.heap.size (staOne c) (sadOne A D n e) := by
  intro k hk
  match k, hk with
  | 0, _ => exact h
  | 1, _ => exact co0_R w _
  | 2, _ => exact co0_R w _
section
attribute [-go_sem] loadCells storeVar Instr.build
set_option maxRecDepth 100000 in
set_option maxHeartbeats 8000000 in
theorem mmove_6 (s : Sta) (a : Sad) (g t : Nat) (m : Mt) (A1 D1 : Option Addr) (c1 e1 : Nat) (w : World) (hK : Blk w g 31 (stX s a)) (hR : StR w g s a) (lo : Nat) (hN : ∀ k, k < 3 → NewAt lo (s.tid k).ps.length (a.A k) ∧ NewAt lo (s.tid k).qs.length (a.D k)) (hlo : lo ≤ w.heap.size) (hm : CoR w g m.c A1 D1) (hg : HasET w) (hms : mayS s = true) (hmm : mayM m = true) (ht : t < 3) (htid : m.tid = (t : Int)) (hk : m.kd = 6) :
    Calls Tryd.prog 29 #[.pointer (some ⟨g, 0, none⟩), .agg (mtX m A1 D1 c1 e1)] w (MoP s m g lo w) := by
  have hgl : g < w.heap.size := hK.lt
  have htn : m.tid.toNat = t := by rw [htid]; rfl
  obtain ⟨W0, hW0⟩ : ∃ W0, W0 = w.alloc (.cells (mtX m A1 D1 c1 e1) 35) := ⟨_, rfl⟩
  have s0 : W0.heap.size = w.heap.size + 1 := by rw [hW0]; simp
  have B0 : Below w.heap.size w W0 := by rw [hW0]; exact bal (Below.refl _ _) _
  have K0 : Blk W0 w.heap.size 35 (mtX m A1 D1 c1 e1) := by rw [hW0]; exact Blk.new w 35 _
  have KG : Blk W0 g 31 (stX s a) := by rw [hW0]; exact hK.alloc _
  have i1 : (0 : Int) ≤ (t : Int) := by omega
  have i2 : (t : Int) < 3 := by omega
  have x1 : W0.drew.cell? ⟨w.heap.size, 1, none⟩ = some (.int .i64 (t : Int)) := by rw [← htid]; exact mt_cell K0.drew (j := 1) rfl
  have lt1 := st_tid KG.drew t ht
  have lt2 := st_tid ((KG.alloc (.cells #[.int .i8 0, .int .i64 0, .int .i64 0, .int .i64 0, .int .i64 0, .slice none 0 0, .slice none 0 0, .int .i64 0] 26)).drew) t ht
  have y1 : (W0.alloc (.cells #[.int .i8 0, .int .i64 0, .int .i64 0, .int .i64 0, .int .i64 0, .slice none 0 0, .slice none 0 0, .int .i64 0] 26)).drew.cell? ⟨w.heap.size, 1, none⟩ = some (.int .i64 (t : Int)) := by rw [← htid]; exact mt_cell ((K0.alloc _).drew) (j := 1) rfl
  obtain ⟨W1, st1, KC1, fb1, fh1, fs1⟩ := bk_store (P := Tryd.prog) (ty := 26) (cs := #[.int .i8 (s.tid t).st, .int .i64 (s.tid t).pid, .int .i64 (s.tid t).ep, .int .i64 (s.tid t).tm, .int .i64 (s.tid t).th, .slice (a.A t) (s.tid t).ps.length (a.c t), .slice (a.D t) (s.tid t).qs.length (a.e t), .int .i64 (s.tid t).ag]) 8 (Blk.new W0 26 #[.int .i8 0, .int .i64 0, .int .i64 0, .int .i64 0, .int .i64 0, .slice none 0 0, .slice none 0 0, .int .i64 0]).drew infoCoS rfl rfl (by simp [Value.oneCell'])
  have KE1 : Blk W1 w.heap.size 35 (mtX m A1 D1 c1 e1) := (fh1 _ (by omega)).trans ((K0.alloc (.cells #[.int .i8 0, .int .i64 0, .int .i64 0, .int .i64 0, .int .i64 0, .slice none 0 0, .slice none 0 0, .int .i64 0] 26)).drew)
  have KG1 : Blk W1 g 31 (stX s a) := (fh1 _ (by omega)).trans ((KG.alloc (.cells #[.int .i8 0, .int .i64 0, .int .i64 0, .int .i64 0, .int .i64 0, .slice none 0 0, .slice none 0 0, .int .i64 0] 26)).drew)
  have BG1 : Below w.heap.size w W1 := fb1 _ _ (by omega) (bal B0 (.cells #[.int .i8 0, .int .i64 0, .int .i64 0, .int .i64 0, .int .i64 0, .slice none 0 0, .slice none 0 0, .int .i64 0] 26)).drew
  have s1 : W1.heap.size = W0.heap.size + 1 := fs1.trans (show (W0.alloc (.cells #[.int .i8 0, .int .i64 0, .int .i64 0, .int .i64 0, .int .i64 0, .slice none 0 0, .slice none 0 0, .int .i64 0] 26)).heap.size = _ by simp)
  have lp := mt_pend (P := Tryd.prog) KE1
  obtain ⟨W2, hW2⟩ : ∃ W2, W2 = W1.alloc (.cells #[.int .i64 m.p.1, .int .i64 m.p.2.1, .int .i64 m.p.2.2] 33) := ⟨_, rfl⟩
  have KE2 : Blk W2 w.heap.size 35 (mtX m A1 D1 c1 e1) := by rw [hW2]; exact KE1.alloc _
  have KG2 : Blk W2 g 31 (stX s a) := by rw [hW2]; exact KG1.alloc _
  have KC2 : Blk W2 W0.heap.size 26 #[.int .i8 (s.tid t).st, .int .i64 (s.tid t).pid, .int .i64 (s.tid t).ep, .int .i64 (s.tid t).tm, .int .i64 (s.tid t).th, .slice (a.A t) (s.tid t).ps.length (a.c t), .slice (a.D t) (s.tid t).qs.length (a.e t), .int .i64 (s.tid t).ag] := by rw [hW2]; exact KC1.alloc _
  have KP2 : Blk W2 W1.heap.size 33 #[.int .i64 m.p.1, .int .i64 m.p.2.1, .int .i64 m.p.2.2] := by rw [hW2]; exact Blk.new _ _ _
  have BG2 : Below w.heap.size w W2 := by rw [hW2]; exact bal BG1 _
  have s2 : W2.heap.size = W1.heap.size + 1 := by rw [hW2]; simp
  have O2 : StO W2 g lo s a := StO.of hR hN (BG2.mono (Nat.le_of_lt hgl)) (by omega)
  have HW := Lib.hid hW0
  have HW2 := Lib.hid hW2
  have SZ := Lib.hid (show W0.heap.size = w.heap.size + 1 ∧ W1.heap.size = W0.heap.size + 1 ∧ W2.heap.size = W1.heap.size + 1 ∧ g < w.heap.size ∧ W2.drew.heap.size = W2.heap.size ∧ lo ≤ w.heap.size by have : W2.drew.heap.size = W2.heap.size := rfl; omega)
  have v0 := mt_cell KE2 (j := 0) rfl
  have cc1 : (m.kd == 1) = false := by rw [hk]; rfl
  have cc0 : (m.kd == 0) = false := by rw [hk]; rfl
  have cc2 : (m.kd == 2) = false := by rw [hk]; rfl
  have cc3 : (m.kd == 3) = false := by rw [hk]; rfl
  have cc4 : (m.kd == 4) = false := by rw [hk]; rfl
  have cc5 : (m.kd == 5) = false := by rw [hk]; rfl
  have cc6 : (m.kd == 6) = true := by rw [hk]; rfl
  have cc7 : (m.kd == 7) = false := by rw [hk]; rfl
  have HTI := Lib.hid htid
  have HE := Lib.hid (show toE s m = 0 by unfold toE moveE; rw [htn]; simp [hk])
  have HT := Lib.hid (show toS s m = s.put t m.c by unfold toS moveC; rw [htn]; simp [hk, Sta.pends])
  have hmB := (hm.below (BG2.mono (Nat.le_of_lt hgl))).more (show g ≤ W2.heap.size by omega)
  have OW := Lib.hid (fun W (hb : But g W2 W) => mown_any (staOne m.c) (sadOne A1 D1 c1 e1) W (staOne_R (hmB.keepB (hm.1.offB (Nat.le_refl _)) (hm.2.1.offB (Nat.le_refl _)) hb.keep hb.size)))
  have SS := Lib.hid (fun W (hb : But g W2 W) => And.intro hb (And.intro (show W.cell? ⟨w.heap.size, 1, none⟩ = some (.int .i64 (t : Int)) by rw [← htid]; exact mt_cell (KE2.but (by omega) hb) (j := 1) rfl) (mt_co (P := Tryd.prog) (KE2.but (by omega) hb))))
  have bd1 : ∀ W, (Instr.build 27 #[(0, .agg #[.int .i8 m.c.st, .int .i64 m.c.pid, .int .i64 m.c.ep, .int .i64 m.c.tm, .int .i64 m.c.th, .slice A1 m.c.ps.length c1, .slice D1 m.c.qs.length e1, .int .i64 m.c.ag])]).run Tryd.prog W = .ok (.agg (tidX (staOne m.c) (sadOne A1 D1 c1 e1))) W := fun W => run_build W 27 _ _ (by kernel_rfl)
  have bd2 : ∀ W, (Instr.build 31 #[(1, .agg (tidX (staOne m.c) (sadOne A1 D1 c1 e1)))]).run Tryd.prog W = .ok (.agg (stX (staOne m.c) (sadOne A1 D1 c1 e1))) W := fun W => run_build W 31 _ _ (by kernel_rfl)
  have KG2 := Lib.hid KG2
  have BG2 := Lib.hid BG2
  have O2 := Lib.hid O2
  clear KE2 KC2 KP2 hmB
  clear hW0 s0 B0 K0 KG KC1 fb1 fh1 fs1 KE1 KG1 BG1 s1 hW2 s2 htid hK hR hN hlo hm hg hms hmm hk htn hgl
  go_enter Tryd.func29, Tryd.ntmps29
  go_upto_region 1 with (fail)
  rw [← HW.out]
  go_region
  clear x1 y1 lt1 lt2 st1
  go_upto_region 3 with (fail)
  rw [← HW2.out]
  clear lp
  go_wp2_with fail
  go_region_held3 (fun W => But g W2 W ∧ W.cell? ⟨w.heap.size, 1, none⟩ = some (.int .i64 (t : Int)) ∧ (loadCells ⟨w.heap.size, 8, none⟩ 8).run Tryd.prog W = .ok #[.int .i8 m.c.st, .int .i64 m.c.pid, .int .i64 m.c.ep, .int .i64 m.c.tm, .int .i64 m.c.th, .slice A1 m.c.ps.length c1, .slice D1 m.c.qs.length e1, .int .i64 m.c.ag] W)
    (first | exact SS.out _ (But.drew g W2) | exact SS.out _ hb8 | exact SS.out _ hb7)
    ((go_at_call 28
      refine (OW.out _ (by go_split_ands; assumption)).mono ?_
      rintro e w7 ⟨a7, rfl, r7, b7, n7⟩
      have hb7 : But g W2 w7 := (But.drew g W2).trans (But.below b7)
      obtain ⟨W8, st8, k8, fb8, fh8, fs8⟩ := st_mkput ((KG2.out.drew).below b7 (by have := SZ.out; have h : W2.drew.heap.size = W2.heap.size := rfl; omega)) t ht ((staOne m.c).tid 0) (a7.A 0) (a7.D 0) (a7.c 0) (a7.e 0)
      have hb8 : But g W2 W8 := hb7.trans (But.one fh8 fs8)
      have K8 := Lib.hid k8
      have hg2 : Below g w W2.drew := (BG2.out.mono (by have := SZ.out; omega)).drew
      have B8 := Lib.hid (fb8 g w (Nat.le_refl _) (hg2.trans (b7.mono (by have := SZ.out; omega))))
      have S8 := Lib.hid (show w.heap.size ≤ W8.heap.size by have h1 := b7.size; have h2 : W2.drew.heap.size = W2.heap.size := rfl; have h3 := BG2.out.size; omega)
      have O8 := Lib.hid (show StO W8 g lo (s.put t m.c) (a.put t (a7.A 0) (a7.D 0) (a7.c 0) (a7.e 0)) from by
        have hlt := SZ.out
        have n1 := (n7 0 (by decide)).1
        have n2 := (n7 0 (by decide)).2
        have h2 : W2.drew.heap.size = W2.heap.size := rfl
        have r8 : CoR W8 W8.heap.size m.c (a7.A 0) (a7.D 0) := CoR.keepB (c := m.c) (r7 0 (by decide)) (NewAt.off n1 (by omega)) (NewAt.off n2 (by omega)) (But.one fh8 fs8).keep (But.one fh8 fs8).size
        exact (O2.out.but hb8).put r8 n1 n2 (by omega) (by omega))
      have fl : ∀ W, (Instr.field 31 (.agg (stX (staOne m.c) a7)) 1).run Tryd.prog W = .ok (.agg (tidX (staOne m.c) a7)) W := fun W => by kernel_rfl
      have ix := fun W => st_index0 (staOne m.c) a7 W
      clear k8 fb8 fh8 fs8 r7 b7 n7 hg2))
  go_wp2_with fail
  go_ret
  unfold MoP
  rw [HE.out, HT.out]
  exact ⟨B8.out, by have := SZ.out; exact S8.out, .inl ⟨rfl, rfl, _, K8.out, O8.out⟩⟩
theorem mmove_any (s : Sta) (a : Sad) (g : Nat) (m : Mt) (A1 D1 : Option Addr) (c1 e1 : Nat) (w : World) (hK : Blk w g 31 (stX s a)) (hR : StR w g s a) (lo : Nat) (hN : ∀ k, k < 3 → NewAt lo (s.tid k).ps.length (a.A k) ∧ NewAt lo (s.tid k).qs.length (a.D k)) (hlo : lo ≤ w.heap.size) (hm : CoR w g m.c A1 D1) (hg : HasET w) (hms : mayS s = true) (hmm : mayM m = true) :
    Calls Tryd.prog 29 #[.pointer (some ⟨g, 0, none⟩), .agg (mtX m A1 D1 c1 e1)] w (MoP s m g lo w) := by
  have hf := mayM_fit hmm
  have hk := fit_kd hf.2.2.2
  have ht : m.tid.toNat < 3 := by omega
  have htid : m.tid = ((m.tid.toNat : Nat) : Int) := by omega
  rcases (show m.kd = 0 ∨ m.kd = 1 ∨ m.kd = 2 ∨ m.kd = 3 ∨ m.kd = 4 ∨ m.kd = 5 ∨ m.kd = 6 ∨ m.kd = 7 by omega) with q | q | q | q | q | q | q | q
  · exact mmove_0 s a g _ m A1 D1 c1 e1 w hK hR lo hN hlo hm hg hms hmm ht htid q
  · exact mmove_1_all s a g _ m A1 D1 c1 e1 w hK hR lo hN hlo hm hg hms hmm ht htid q
  · exact mmove_2_all s a g _ m A1 D1 c1 e1 w hK hR lo hN hlo hm hg hms hmm ht htid q
  · exact mmove_3_all s a g _ m A1 D1 c1 e1 w hK hR lo hN hlo hm hg hms hmm ht htid q
  · exact mmove_4_all s a g _ m A1 D1 c1 e1 w hK hR lo hN hlo hm hg hms hmm ht htid q
  · exact mmove_5 s a g _ m A1 D1 c1 e1 w hK hR lo hN hlo hm hg hms hmm ht htid q
  · exact mmove_6 s a g _ m A1 D1 c1 e1 w hK hR lo hN hlo hm hg hms hmm ht htid q
  · exact mmove_7 s a g _ m A1 D1 c1 e1 w hK hR lo hN hlo hm hg hms hmm ht htid q
end
end Go.Proofs.YtbpkckahonmpkaaDoor
