/-
  What the rows' list gives (the library's variable errors.errorType), a world for the witness, and bytes out of an argument.
  The statement MetaBack: its walk.
  Arguments with lists of numbers and of offsets, opened: how their lists lie in memory. (After the guide's page on structs.)
  Arguments that are whole states, opened.
-/
import Derived.Test.YtbpkckahonmpkaaDoorMeBackProofP18
import Derived.Deep.Slices
import Derived.Deep.Fields
import Derived.ChangeSame
import Derived.OpenShut
import Derived.Lib.SmallJoins
import Derived.Test.YtbpkckahonmpkaaDoorCards
import Derived.Test.YtbpkckahonmpkaaDoorTie
import Derived.LaidHandle
import Derived.LaidLaws
import Derived.Stop.Joined
import Derived.JoinedOf
import Derived.Deep.DeepHandedRow
import Derived.SevenTiedAt
set_option linter.unusedVariables false
set_option linter.unusedSimpArgs false
namespace Go.Proofs.YtbpkckahonmpkaaDoor
open Go.RowKit
theorem rows_few (s : Sta) : (rowsG s 6).length ≤ 10 := by
  have h0 : ∀ k, (rowsT s k).length ≤ k + 1 := fun k => by
    induction k with
    | zero => exact Nat.le_refl _
    | succ k ih =>
      show (rowsT s k ++ _).length ≤ _
      rw [List.length_append]
      split
      · rw [List.length_nil]; omega
      · rw [List.length_singleton]; omega
  have h1 : ∀ g, (rowsG s g).length ≤ g + 4 := fun g => by
    induction g with
    | zero => exact h0 3
    | succ g ih =>
      show (rowsG s g ++ _).length ≤ _
      rw [List.length_append]
      split
      · rw [List.length_nil]; omega
      · rw [List.length_singleton]; omega
  exact h1 6
theorem bare_grs (s : Sta) : grsB (bareS s 3 6) s = true := by
  unfold grsB bareS
  simp
theorem bal0 {wd w5 : World} {o : Obj} (b5 : Below (wd.alloc o).heap.size (wd.alloc o) w5) : Below wd.heap.size wd w5 := (bal (Below.refl _ _) o).trans (b5.mono (by simp))
/-- A block that was made ahead of the call, filled behind it. -/
theorem mb_late {wd w5 : World} {n : Nat} (hn : wd.heap.size = n) {c d : Co} {A D A5 D5 : Option Addr} (hc : CoR wd wd.heap.size c A D) (hp : c.ps.length = 0) (hi : (Tryd.prog.info? 26).map (·.size) = some 8) (co5 : CoR w5 w5.heap.size d A5 D5) (b5 : Below (wd.alloc (.cells #[.int .i8 0, .int .i64 0, .int .i64 0, .int .i64 0, .int .i64 0, .slice none 0 0, .slice none 0 0, .int .i64 0] 26)).heap.size (wd.alloc (.cells #[.int .i8 0, .int .i64 0, .int .i64 0, .int .i64 0, .int .i64 0, .slice none 0 0, .slice none 0 0, .int .i64 0] 26)) w5)
    (off5 : ∀ b, b < (wd.alloc (.cells #[.int .i8 0, .int .i64 0, .int .i64 0, .int .i64 0, .int .i64 0, .slice none 0 0, .slice none 0 0, .int .i64 0] 26)).heap.size → OffB b c.ps.length A → OffB b c.qs.length D → OffB b d.ps.length A5 ∧ OffB b d.qs.length D5) (c5 e5 : Nat) :
    ∃ W6, (storeVar 26 ⟨n, 0, none⟩ (.agg #[.int .i8 d.st, .int .i64 d.pid, .int .i64 d.ep, .int .i64 d.tm, .int .i64 d.th, .slice A5 d.ps.length c5, .slice D5 d.qs.length e5, .int .i64 d.ag])).run Tryd.prog w5 = .ok () W6 ∧ Blk W6 n 26 #[.int .i8 d.st, .int .i64 d.pid, .int .i64 d.ep, .int .i64 d.tm, .int .i64 d.th, .slice A5 d.ps.length c5, .slice D5 d.qs.length e5, .int .i64 d.ag] ∧ Below wd.heap.size wd W6 ∧ W6.heap.size = w5.heap.size ∧ CoR W6 W6.heap.size d A5 D5 := by
  subst hn
  have kz : Blk w5 wd.heap.size 26 #[.int .i8 0, .int .i64 0, .int .i64 0, .int .i64 0, .int .i64 0, .slice none 0 0, .slice none 0 0, .int .i64 0] := (Blk.new wd 26 #[.int .i8 0, .int .i64 0, .int .i64 0, .int .i64 0, .int .i64 0, .slice none 0 0, .slice none 0 0, .int .i64 0]).below b5 (by simp)
  obtain ⟨W6, st6, k6, fb6, fh6, fs6⟩ := bk_store (P := Tryd.prog) (ty := 26) (cs := #[.int .i8 d.st, .int .i64 d.pid, .int .i64 d.ep, .int .i64 d.tm, .int .i64 d.th, .slice A5 d.ps.length c5, .slice D5 d.qs.length e5, .int .i64 d.ag]) 8 kz hi rfl rfl (by simp [Value.oneCell'])
  obtain ⟨o1, o2⟩ := off5 wd.heap.size (by simp) (fun h => absurd h (by omega)) (hc.2.1.offB (Nat.le_refl _))
  refine ⟨W6, st6, k6, fb6 _ _ (Nat.le_refl _) (bal0 b5), fs6, ?_⟩
  rw [fs6]
  exact ⟨reads_hold co5.1 (fun hn ad e => fh6 _ (o1 hn ad e)), reads_hold co5.2.1 (fun hn ad e => fh6 _ (o2 hn ad e)), co5.2.2⟩
attribute [-go_sem] loadCells storeVar
set_option maxRecDepth 100000 in
set_option maxHeartbeats 8000000 in
theorem mback_walk (s : Sta) (a : Sad) (w : World) (hg : HasET w) (h : StRaw w s a) :
    Calls Tryd.prog 6 #[.agg (stX s a)] w fun e w' => e = .returned (.bool true) ∧ Below w.heap.size w w' := by
  obtain ⟨W0, hW0⟩ : ∃ W0, W0 = w.alloc (.cells (stX s a) 31) := ⟨_, rfl⟩
  have B0 : Below w.heap.size w W0 := by rw [hW0]; exact bal (Below.refl _ _) _
  have K1 : Blk W0 w.heap.size 31 (stX s a) := by rw [hW0]; exact Blk.new w 31 (stX s a)
  have HW := Lib.hid hW0
  have HB := Lib.hid B0
  have HK := Lib.hid K1
  have HG := Lib.hid hg
  have H := Lib.hid h
  have l1 := st_load K1
  have G1 := Lib.hid (rGreat20_any s a W0)
  clear hW0 B0 K1 hg h
  cases hb1 : bigS s
  · rw [hb1] at G1
    have HS := Lib.hid hb1
    clear hb1
    cases hmy : mayS s
    · have HMY := Lib.hid hmy
      go_enter Tryd.func6, Tryd.ntmps6
      go_upto_region 1 with (fail)
      rw [← HW.out]
      go_wp2_with fail
      refine G1.out.mono ?_
      rintro e w1 ⟨rfl, b1⟩
      have B1 := Lib.hid (HB.out.trans (b1.mono HB.out.size))
      have KS1 := Lib.hid (HK.out.below b1 HK.out.lt)
      have l2 := st_load KS1.out
      have S0 := Lib.hid (H.out.st HS.out)
      have M1 := Lib.hid (rMayS_any s a w1.heap.size w1 (S0.out.up B1.out) (Nat.le_refl _) H.out.num)
      rw [HMY.out] at M1
      clear b1 l1 hmy
      go_wp2_with fail
      refine M1.out.mono ?_
      rintro e w2 ⟨rfl, b2⟩
      have B2 := Lib.hid (B1.out.trans (b2.mono B1.out.size))
      clear b2 l2
      have WK := Lib.hid (wakes20 w2 (HG.out.up B2.out))
      go_wp2_with fail
      refine WK.out.mono ?_
      rintro e w99 ⟨rfl, b99⟩
      have B99 := Lib.hid ((B2.out).trans (b99.mono (B2.out).size))
      clear b99
      go_wp2_with fail
      go_ret
      exact ⟨rfl, B99.out⟩
    · have HMY := Lib.hid hmy
      go_enter Tryd.func6, Tryd.ntmps6
      go_upto_region 1 with (fail)
      rw [← HW.out]
      go_wp2_with fail
      refine G1.out.mono ?_
      rintro e w1 ⟨rfl, b1⟩
      have B1 := Lib.hid (HB.out.trans (b1.mono HB.out.size))
      have KS1 := Lib.hid (HK.out.below b1 HK.out.lt)
      have l2 := st_load KS1.out
      have S0 := Lib.hid (H.out.st HS.out)
      have M1 := Lib.hid (rMayS_any s a w1.heap.size w1 (S0.out.up B1.out) (Nat.le_refl _) H.out.num)
      rw [HMY.out] at M1
      clear b1 l1 hmy
      go_wp2_with fail
      refine M1.out.mono ?_
      rintro e w2 ⟨rfl, b2⟩
      have B2 := Lib.hid (B1.out.trans (b2.mono B1.out.size))
      have KS2 := Lib.hid (KS1.out.below b2 KS1.out.lt)
      have l3 := st_load KS2.out
      have R1 := Lib.hid (Rows_any s a w2 (S0.out.up B2.out) HMY.out)
      clear b2 l2
      go_wp2_with fail
      refine R1.out.mono ?_
      rintro e w3 ⟨xs, A3, c3, rfl, hxs, hr3, hm3, b3⟩
      have B3 := Lib.hid (B2.out.trans (b3.mono B2.out.size))
      have KS3 := Lib.hid (KS2.out.below b3 KS2.out.lt)
      have hlen : xs.length = (rowsG s 6).length := by rw [← hxs, List.length_map]
      have F1 := mFold_any xs A3 c3 w3.heap.size w3 hr3 (Nat.le_refl _) hm3 (by have := rows_few s; omega) (HG.out.up B3.out)
      rw [hxs] at F1
      have F1 := Lib.hid F1
      have HXS := Lib.hid hxs
      have RF := Lib.hid (show foldM sta0 (rowsG s 6) 0 = (bareS s 3 6, xs.length, 0) by rw [rows_fold HMY.out, hlen])
      have dz : ((xs.length : Int) == 0) = false := by
        have := rows_pos s
        rw [beq_eq_false_iff_ne]
        omega
      clear b3 l3 hr3 hm3 hlen hxs
      go_wp2_with fail
      refine F1.out.mono ?_
      rintro e w4 ⟨a4, rfl, r4, b4⟩
      rw [RF.out] at r4 ⊢
      have dt := fun j hj => bare_tid HMY.out (k := j) hj
      have hTm : (bareS s 3 6).made = s.made := rfl
      have hTg := bare_grs s
      obtain ⟨T, hT⟩ : ∃ T, bareS s 3 6 = T := ⟨_, rfl⟩
      simp only [hT] at r4 dt hTm hTg ⊢
      obtain ⟨W5, st5, k5, b5, s5⟩ := bk_fresh (P := Tryd.prog) w4 31 #[.int .i64 0, .int .i8 0, .int .i64 0, .int .i64 0, .int .i64 0, .int .i64 0, .slice none 0 0, .slice none 0 0, .int .i64 0, .int .i8 0, .int .i64 0, .int .i64 0, .int .i64 0, .int .i64 0, .slice none 0 0, .slice none 0 0, .int .i64 0, .int .i8 0, .int .i64 0, .int .i64 0, .int .i64 0, .int .i64 0, .slice none 0 0, .slice none 0 0, .int .i64 0, .int .i64 0, .int .i64 0, .int .i64 0, .int .i64 0, .int .i64 0, .int .i64 0] (stX T a4) 31 infoSta rfl (stX_size ..) (stX_one ..)
      have bb := b4.trans (b5.mono b4.size)
      have BS := Lib.hid (B3.out.trans (bb.mono B3.out.size))
      have KS := Lib.hid (KS3.out.below bb KS3.out.lt)
      have KT0 := Lib.hid k5
      have RT := Lib.hid (r4.up b5)
      have DT := Lib.hid dt
      have x0 := st_made k5
      rw [hTm] at x0
      have x1 := st_made KS.out
      have x2 := st_grs k5
      have x3 := st_grs KS.out
      have eg := fun W => eqGr T s W
      rw [hTg] at eg
      have dm : (s.made == s.made) = true := by simp
      have dn : ((xs.length : Int) == (xs.length : Int)) = true := by simp
      clear r4 b4 k5 b5 s5 bb dt hTm hTg hT
      go_wp2_with fail
      clear x0 x1 x2 x3 eg dm dn dz st5
      go_loopg [7] 3 (fun mm y wq => ∃ (k : Nat), k ≤ 3 ∧ y = .int .i64 k ∧ mm = 3 - k ∧ Below W5.heap.size W5 wq)
      case atStart => exact ⟨0, by omega, rfl, rfl, Below.refl _ _⟩
      case round =>
        obtain ⟨k, hk, rfl, hmm, hbw⟩ := hrel
        have HMM := Lib.hid hmm
        have BW := Lib.hid hbw
        clear hmm hbw
        by_cases hlt : k < 3
        · have d3 : decide ((k : Int) < 3) = true := decide_eq_true (by omega)
          have i1 : (0 : Int) ≤ (k : Int) := by omega
          have i2 : (k : Int) < 3 := by omega
          have KTr := (KT0.out.below BW.out KT0.out.lt).drew
          have KSr := (KS.out.below BW.out KS.out.lt).drew
          have lt1 := st_tid KTr k hlt
          have y5 := st_cell KSr k hlt (j := 5) rfl
          have hcb0 := DT.out k hlt
          have cr := (RT.out.up BW.out.drew) k hlt
          obtain ⟨cb, hcb⟩ : ∃ cb, T.tid k = cb := ⟨_, rfl⟩
          rw [hcb] at lt1 hcb0 cr
          have hcm : mayB (s.tid k) = true := ((okT_iff s k).1 (((mayS_iff s).1 HMY.out).2.2.1 k hlt)).1
          have hbs := may_st (bareC_may hcm)
          have hps : cb.ps.length = 0 := by rw [hcb0, bareC_ps]; rfl
          obtain ⟨hpe, hsm⟩ := place_bare hcm
          rw [← hcb0] at hbs hpe hsm
          have sr := (S0.out.up (BS.out.trans (BW.out.drew.mono BS.out.size))) k hlt
          obtain ⟨d, hd⟩ : ∃ d, placeC cb (s.tid k).ps = d := ⟨_, rfl⟩
          rw [hd] at hsm
          have PLF := Lib.hid (show ∀ W, Below wr.drew.heap.size wr.drew W → Calls Tryd.prog 21 #[.agg #[.int .i8 cb.st, .int .i64 cb.pid, .int .i64 cb.ep, .int .i64 cb.tm, .int .i64 cb.th, .slice (a4.A k) cb.ps.length (a4.c k), .slice (a4.D k) cb.qs.length (a4.e k), .int .i64 cb.ag], .slice (a.A k) (s.tid k).ps.length (a.c k)] W (MvP cb (a4.A k) (a4.D k) d 0 W) from by
            intro W hW
            have := rPlace_any cb (a4.A k) (a4.D k) (a4.c k) (a4.e k) (s.tid k).ps (a.A k) (a.c k) W (cr.up hW) (by omega) (by omega) (sr.up hW).1 sr.2.2.1
            rw [hpe, hd] at this
            exact this)
          have LT := Lib.hid (show ∀ W, Below wr.drew.heap.size wr.drew W → (loadCells ⟨w4.heap.size, 1 + k * 8, none⟩ 8).run Tryd.prog W = .ok #[.int .i8 cb.st, .int .i64 cb.pid, .int .i64 cb.ep, .int .i64 cb.tm, .int .i64 cb.th, .slice (a4.A k) cb.ps.length (a4.c k), .slice (a4.D k) cb.qs.length (a4.e k), .int .i64 cb.ag] W ∧ W.cell? ⟨w.heap.size, 1 + k * 8 + 5, none⟩ = some (.slice (a.A k) (s.tid k).ps.length (a.c k)) from by
            intro W hW
            have h1 := st_tid (KTr.below hW KTr.lt) k hlt
            rw [hcb] at h1
            exact ⟨h1, st_cell (KSr.below hW KSr.lt) k hlt (j := 5) rfl⟩)
          have CR := Lib.hid cr
          have HSM := Lib.hid hsm
          have HCT := Lib.hid hcb
          have HPS := Lib.hid hps
          clear hcb0 hcb cr sr hbs hpe hsm hcm hps KTr KSr hd
          go_wp2_with fail
          go_region_held3 (fun W => (loadCells ⟨w4.heap.size, 1 + k * 8, none⟩ 8).run Tryd.prog W = .ok #[.int .i8 cb.st, .int .i64 cb.pid, .int .i64 cb.ep, .int .i64 cb.tm, .int .i64 cb.th, .slice (a4.A k) cb.ps.length (a4.c k), .slice (a4.D k) cb.qs.length (a4.e k), .int .i64 cb.ag] W ∧ W.cell? ⟨w.heap.size, 1 + k * 8 + 5, none⟩ = some (.slice (a.A k) (s.tid k).ps.length (a.c k)))
            (first | exact LT.out _ (Below.refl _ _) | exact LT.out _ (bal (Below.refl _ _) _) | exact LT.out _ BQ6.out | exact LT.out _ BQ5.out | exact LT.out _ (bal BQ5.out _))
            (first
              | (go_at_call 21; refine (PLF.out _ (Below.refl _ _)).mono ?_; rintro e w5 ⟨A5, D5, c5, e5, rfl, co5, b5, _⟩; have BQ5 := Lib.hid b5; obtain ⟨W6, st6, k6, b6, s6⟩ := bk_fresh (P := Tryd.prog) w5 26 #[.int .i8 0, .int .i64 0, .int .i64 0, .int .i64 0, .int .i64 0, .slice none 0 0, .slice none 0 0, .int .i64 0] #[.int .i8 d.st, .int .i64 d.pid, .int .i64 d.ep, .int .i64 d.tm, .int .i64 d.th, .slice A5 d.ps.length c5, .slice D5 d.qs.length e5, .int .i64 d.ag] 8 infoCoS rfl rfl (by simp [Value.oneCell']); have BQ6 := Lib.hid (b5.trans (b6.mono b5.size)); have co6 := co5.up b6; clear co5 b5 b6 s6)
              | (go_at_call 21; refine (PLF.out _ (bal (Below.refl _ _) _)).mono ?_; rintro e w5 ⟨A5, D5, c5, e5, rfl, co5, b5, off5⟩; obtain ⟨W6, st6, k6, b6, s6, co6⟩ := mb_late (wd := wr.drew) (n := wr.heap.size) rfl CR.out HPS.out infoCoS co5 b5 off5 c5 e5; have BQ5 := Lib.hid (bal0 b5); have BQ6 := Lib.hid b6; clear co5 b5 off5 b6 s6))
          all_goals
           have hsm := HSM.out
           have hcb := HCT.out
           have hps := HPS.out
           have BW6 := Lib.hid (BW.out.drew.trans (BQ6.out.mono BW.out.drew.size))
           have KT := KT0
           have lt6 := st_tid (KS.out.below BW6.out KS.out.lt) k hlt
           obtain ⟨W7, st7, k7, b7, s7⟩ := bk_fresh (P := Tryd.prog) W6 26 #[.int .i8 0, .int .i64 0, .int .i64 0, .int .i64 0, .int .i64 0, .slice none 0 0, .slice none 0 0, .int .i64 0] #[.int .i8 (s.tid k).st, .int .i64 (s.tid k).pid, .int .i64 (s.tid k).ep, .int .i64 (s.tid k).tm, .int .i64 (s.tid k).th, .slice (a.A k) (s.tid k).ps.length (a.c k), .slice (a.D k) (s.tid k).qs.length (a.e k), .int .i64 (s.tid k).ag] 8 infoCoS rfl rfl (by simp [Value.oneCell'])
           clear lt1 y5 s7
           by_cases hd2 : d.st = 2
           · by_cases hdq : d.qs.length = 0
             · have ds : (d.st == 2) = true := by simpa using hd2
               have dq : ((d.qs.length : Int) == 0) = true := by simpa using hdq
               have hif : d.st = 2 ∧ d.qs.length = 0 := ⟨hd2, hdq⟩
               clear hd2 hdq
               rw [if_pos hif] at hsm
               have st8 := store_intS 0 (k7.cell 7) (k7.frozen 7)
               have k8 : Blk (W7.setCell ⟨W6.heap.size, 7, none⟩ (.int .i64 0)) W6.heap.size 26 #[.int .i8 ({ s.tid k with ag := 0 } : Co).st, .int .i64 ({ s.tid k with ag := 0 } : Co).pid, .int .i64 ({ s.tid k with ag := 0 } : Co).ep, .int .i64 ({ s.tid k with ag := 0 } : Co).tm, .int .i64 ({ s.tid k with ag := 0 } : Co).th, .slice (a.A k) ({ s.tid k with ag := 0 } : Co).ps.length (a.c k), .slice (a.D k) ({ s.tid k with ag := 0 } : Co).qs.length (a.e k), .int .i64 ({ s.tid k with ag := 0 } : Co).ag] := k7.set_ 7 (.int .i64 0)
               have bb8 : Below W6.heap.size W6 (W7.setCell ⟨W6.heap.size, 7, none⟩ (.int .i64 0)) := b7.setCell (p := ⟨W6.heap.size, 7, none⟩) (Nat.le_refl _) _
               obtain ⟨W8, hW8⟩ : ∃ W8, W8 = W7.setCell ⟨W6.heap.size, 7, none⟩ (.int .i64 0) := ⟨_, rfl⟩
               rw [← hW8] at st8 k8 bb8
               clear hW8
               have BB := Lib.hid (BW6.out.trans (bb8.mono BW6.out.size))
               have KT8 := KT.out.below BB.out KT.out.lt
               have y9 := st_cell KT8 k hlt (j := 5) rfl
               rw [hcb, hps] at y9
               have y0 := (k6.below b7 k6.lt).cell 0
               have y6 := (k6.below b7 k6.lt).cell 6
               have l8 := bk_load (P := Tryd.prog) 8 (k6.below bb8 k6.lt) rfl
               have l9 := bk_load (P := Tryd.prog) 8 k8 rfl
               have SM := Lib.hid (rSame_any d ({ s.tid k with ag := 0 } : Co) A5 D5 c5 e5 (a.A k) (a.D k) (a.c k) (a.e k) W8.heap.size W8.heap.size W8 (co6.up bb8) ((S0.out.up (BS.out.trans (BB.out.mono BS.out.size))) k hlt) (Nat.le_refl _) (Nat.le_refl _))
               rw [hsm] at SM
               clear hif hsm b7 bb8 k8 k6 k7 co6 KT8
               go_wp2_with fail
               refine SM.out.mono ?_
               rintro e w9 ⟨rfl, b9⟩
               have B9 := Lib.hid (BB.out.trans (b9.mono BB.out.size))
               clear b9 l8 l9 y9
               go_wp2_with fail
               go_roundg (3 - k - 1)
               case measure => have := HMM.out; omega
               case rel => exact ⟨k + 1, by omega, by go_num, by omega, B9.out⟩
             · have ds : (d.st == 2) = true := by simpa using hd2
               have dq : ((d.qs.length : Int) == 0) = false := by simpa using hdq
               have hif : ¬ (d.st = 2 ∧ d.qs.length = 0) := fun x => hdq x.2
               clear hd2 hdq
               rw [if_neg hif] at hsm
               have bb8 : Below W6.heap.size W6 W7 := b7
               have k8 := k7
               have BB := Lib.hid (BW6.out.trans (bb8.mono BW6.out.size))
               have KT8 := KT.out.below BB.out KT.out.lt
               have y9 := st_cell KT8 k hlt (j := 5) rfl
               rw [hcb, hps] at y9
               have y0 := (k6.below b7 k6.lt).cell 0
               have y6 := (k6.below b7 k6.lt).cell 6
               have l8 := bk_load (P := Tryd.prog) 8 (k6.below bb8 k6.lt) rfl
               have l9 := bk_load (P := Tryd.prog) 8 k8 rfl
               have SM := Lib.hid (rSame_any d (s.tid k) A5 D5 c5 e5 (a.A k) (a.D k) (a.c k) (a.e k) W7.heap.size W7.heap.size W7 (co6.up bb8) ((S0.out.up (BS.out.trans (BB.out.mono BS.out.size))) k hlt) (Nat.le_refl _) (Nat.le_refl _))
               rw [hsm] at SM
               clear hif hsm b7 bb8 k8 k6 k7 co6 KT8
               go_wp2_with fail
               refine SM.out.mono ?_
               rintro e w9 ⟨rfl, b9⟩
               have B9 := Lib.hid (BB.out.trans (b9.mono BB.out.size))
               clear b9 l8 l9 y9
               go_wp2_with fail
               go_roundg (3 - k - 1)
               case measure => have := HMM.out; omega
               case rel => exact ⟨k + 1, by omega, by go_num, by omega, B9.out⟩
           · have ds : (d.st == 2) = false := by simpa using hd2
             have hif : ¬ (d.st = 2 ∧ d.qs.length = 0) := fun x => hd2 x.1
             clear hd2
             rw [if_neg hif] at hsm
             have bb8 : Below W6.heap.size W6 W7 := b7
             have k8 := k7
             have BB := Lib.hid (BW6.out.trans (bb8.mono BW6.out.size))
             have KT8 := KT.out.below BB.out KT.out.lt
             have y9 := st_cell KT8 k hlt (j := 5) rfl
             rw [hcb, hps] at y9
             have y0 := (k6.below b7 k6.lt).cell 0
             have l8 := bk_load (P := Tryd.prog) 8 (k6.below bb8 k6.lt) rfl
             have l9 := bk_load (P := Tryd.prog) 8 k8 rfl
             have SM := Lib.hid (rSame_any d (s.tid k) A5 D5 c5 e5 (a.A k) (a.D k) (a.c k) (a.e k) W7.heap.size W7.heap.size W7 (co6.up bb8) ((S0.out.up (BS.out.trans (BB.out.mono BS.out.size))) k hlt) (Nat.le_refl _) (Nat.le_refl _))
             rw [hsm] at SM
             clear hif hsm b7 bb8 k8 k6 k7 co6 KT8
             go_wp2_with fail
             refine SM.out.mono ?_
             rintro e w9 ⟨rfl, b9⟩
             have B9 := Lib.hid (BB.out.trans (b9.mono BB.out.size))
             clear b9 l8 l9 y9
             go_wp2_with fail
             go_roundg (3 - k - 1)
             case measure => have := HMM.out; omega
             case rel => exact ⟨k + 1, by omega, by go_num, by omega, B9.out⟩
        · obtain rfl : k = 3 := by omega
          have d3 : decide (((3 : Nat) : Int) < 3) = false := by decide
          have BE := Lib.hid (BS.out.trans (BW.out.mono BS.out.size))
          have WK := Lib.hid (wakes20 wr (HG.out.up BE.out))
          go_wp2_with fail
          refine WK.out.mono ?_
          rintro e w99 ⟨rfl, b99⟩
          have B99 := Lib.hid ((BE.out).trans (b99.mono (BE.out).size))
          clear b99
          go_wp2_with fail
          go_ret
          exact ⟨rfl, B99.out⟩
  · rw [hb1] at G1
    clear hb1
    go_enter Tryd.func6, Tryd.ntmps6
    go_upto_region 1 with (fail)
    rw [← HW.out]
    go_wp2_with fail
    refine G1.out.mono ?_
    rintro e w1 ⟨rfl, b1⟩
    have B1 := Lib.hid (HB.out.trans (b1.mono HB.out.size))
    clear b1 l1
    have WK := Lib.hid (wakes20 w1 (HG.out.up B1.out))
    go_wp2_with fail
    refine WK.out.mono ?_
    rintro e w99 ⟨rfl, b99⟩
    have B99 := Lib.hid ((B1.out).trans (b99.mono (B1.out).size))
    clear b99
    go_wp2_with fail
    go_ret
    exact ⟨rfl, B99.out⟩
end Go.Proofs.YtbpkckahonmpkaaDoor
namespace Go.Proofs.YtbpkckahonmpkaaDoor
open Go.Joins Go.ChangeShapes Go.WideShapes Go.RowKit Go.Deep

section
variable {H : Type} {enc : TypeId × Value → H} {P : Program} {w : World} {base : Nat} {spare : Nat → Bool} {held : Bool}
theorem open_slice_fields {t e : TypeId} {fs : Array Field} {fuel : Nat} {cs : List Value} {x : DataW H × List MemPlace} (ht : P.underlying t = some (.slice e)) (he : P.underlying e = some (.struct fs))
    (hone : oneCellFields P fs = true) (hC : P.cellsOf e = fs.size) (h : DataW.trod enc P w base spare held fuel t cs = some x) :
    (cs = [.slice none 0 0] ∧ x = (.nil, [])) ∨
    ∃ (a : Addr) (len cap m : Nat) (D : Nat → DataW H) (Pl : Nat → List MemPlace), cs = [.slice (some a) len cap] ∧ base ≤ a.block ∧ len ≤ cap ∧ cap ≤ maxLen ∧ m = (if spare a.block then cap else len) ∧
      x = (.slice ((List.range len).map D) ((List.range (m - len)).map fun j => D (len + j)), MemPlace.row a (m * fs.size) ++ (List.range m).flatMap Pl) ∧
      ∀ i, i < m → ∃ (ys : List (DataW H × List MemPlace)) (n : Nat), D i = .agg (ys.map (·.1)) ∧ Pl i = ys.flatMap (·.2) ∧ ys.length = fs.size ∧
        ∀ (j : Nat) (f : Field), fs[j]? = some f → ∃ (v : Value) (y : DataW H × List MemPlace), w.cell? (a.add (i * fs.size + j)) = some v ∧ ys[j]? = some y ∧ DataW.trod enc P w base spare held n f.type [v] = some y := by
  rcases open_slice ht h with h0 | ⟨a, len, cap, m, n, D, Pl, hcs, hb, hl, hm, hmm, hx, hi⟩
  · exact .inl h0
  · refine .inr ⟨a, len, cap, m, D, Pl, hcs, hb, hl, hm, hmm, by rw [hC] at hx; exact hx, fun i him => ?_⟩
    obtain ⟨cs', hc, ht'⟩ := hi i him
    rw [hC] at hc
    obtain ⟨ys, n', hn', hy, hlen, hyl, hf⟩ := DataW.trod_struct he ht'
    obtain ⟨_, hcl, hat⟩ := World.cells?_some hc
    simp only [Prod.mk.injEq] at hy
    refine ⟨ys, n', hy.1, hy.2, hyl, fun j f hj => ?_⟩
    obtain ⟨ho, hk⟩ := hone_of hone j f hj
    have hjl : j < fs.size := (Array.getElem?_eq_some_iff.1 hj).1
    have hcell := hat j hjl
    have hv : cs'[j]? = some (cs'[j]'(by omega)) := List.getElem?_eq_getElem (by omega)
    have h1 := hf j f hj
    rw [ho, hk] at h1
    have hone' : (cs'.drop j).take 1 = [cs'[j]'(by omega)] := by
      rw [List.drop_eq_getElem_cons (by omega)]
      rfl
    rw [hone'] at h1
    have hys : ys[j]? = some (ys[j]'(by omega)) := List.getElem?_eq_getElem (by omega)
    refine ⟨_, _, ?_, hys, h1.trans hys⟩
    rw [← Go.Deep.add_add, hcell, hv]
end

section
variable {H : Type} {enc : TypeId × Value → H} {W : World}
theorem cell_block {a : Addr} {k : Nat} {v : Value} (h : W.cell? (a.add k) = some v) : a.block < W.heap.size := by
  have := block_lt_of_cell h
  rwa [block_of_add] at this
theorem field_ints {fuel : Nat} {v : Value} {x : DataW H × List MemPlace} (h : DataW.trod enc Tryd.prog W 0 (fun _ => true) true fuel 23 [v] = some x) :
    ∃ (A : Option Addr) (c : Nat) (l : List Int), v = .slice A l.length c ∧ l.length ≤ c ∧ Reads W W.heap.size 1 A l.length (cellsI .i64 l) := by
  rcases open_ints Tryd.underlying23 Tryd.underlying3 (by kernel_rfl) h with ⟨hcs, _⟩ | ⟨a, len, cap, zs, hcs, _, hl, hm, hz, hx, hcell, hwz⟩
  · simp at hcs
    subst hcs
    exact ⟨none, 0, [], rfl, Nat.le_refl _, Reads.none_⟩
  · simp at hcs
    subst hcs
    simp only [if_true] at hz
    have hlen : (zs.take len).length = len := by rw [List.length_take]; omega
    refine ⟨some a, cap, zs.take len, by rw [hlen], by omega, by rw [length_cellsI]; omega, fun hn => ⟨a, rfl, cell_block (hcell 0 (by omega)), fun j u hu => ?_⟩⟩
    rw [getElem?_cellsI, Option.map_eq_some_iff] at hu
    obtain ⟨s, hs, rfl⟩ := hu
    have hj : j < len := by
      have := (List.getElem?_eq_some_iff.1 hs).1
      omega
    rw [List.getElem?_take_of_lt hj] at hs
    rw [hcell j (by omega)]
    simp [hs]
theorem cellsP_get : ∀ (l : List Pd) (j : Nat) (u : Value), (cellsP l)[j]? = some u → ∃ i k p, j = i * 3 + k ∧ k < 3 ∧ l[i]? = some p ∧ u = (if k = 0 then .int .i64 p.1 else if k = 1 then .int .i64 p.2.1 else .int .i64 p.2.2) := by
  intro l j u hu
  have hj : j < l.length * 3 := by
    have := (List.getElem?_eq_some_iff.1 hu).1
    rwa [length_cellsP] at this
  have hi : j / 3 < l.length := by omega
  obtain ⟨p, hp⟩ : ∃ p, l[j / 3]? = some p := ⟨_, List.getElem?_eq_getElem hi⟩
  obtain ⟨h0, h1, h2⟩ := cellsP_at l (j / 3) p hp
  refine ⟨j / 3, j % 3, p, by omega, by omega, hp, ?_⟩
  have hk : j % 3 = 0 ∨ j % 3 = 1 ∨ j % 3 = 2 := by omega
  rcases hk with hk | hk | hk
  · rw [show j = j / 3 * 3 by omega, h0] at hu
    rw [if_pos hk]
    exact (Option.some.inj hu).symm
  · rw [show j = j / 3 * 3 + 1 by omega, h1] at hu
    rw [if_neg (by omega), if_pos hk]
    exact (Option.some.inj hu).symm
  · rw [show j = j / 3 * 3 + 2 by omega, h2] at hu
    rw [if_neg (by omega), if_neg (by omega)]
    exact (Option.some.inj hu).symm
theorem field_pends {fuel : Nat} {v : Value} {x : DataW H × List MemPlace} (h : DataW.trod enc Tryd.prog W 0 (fun _ => true) true fuel 24 [v] = some x) :
    ∃ (A : Option Addr) (c : Nat) (l : List Pd), v = .slice A l.length c ∧ l.length ≤ c ∧ Reads W W.heap.size 3 A l.length (cellsP l) := by
  rcases open_slice_fields Tryd.underlying24 Tryd.underlying33 (by kernel_rfl) (by kernel_rfl) h with ⟨hcs, _⟩ | ⟨a, len, cap, m, D, Pl, hcs, _, hl, hm, hmm, hx, hi⟩
  · simp at hcs
    subst hcs
    exact ⟨none, 0, [], rfl, Nat.le_refl _, Reads.none_⟩
  · simp at hcs
    subst hcs
    simp only [if_true] at hmm
    subst hmm
    have hp : ∀ i, ∃ p : Pd, i < len → W.cell? (a.add (i * 3 + 0)) = some (.int .i64 p.1) ∧ W.cell? (a.add (i * 3 + 1)) = some (.int .i64 p.2.1) ∧ W.cell? (a.add (i * 3 + 2)) = some (.int .i64 p.2.2) := by
      intro i
      by_cases hlt : i < len
      · obtain ⟨ys, n, _, _, _, hf⟩ := hi i (by omega)
        obtain ⟨v0, y0, hc0, _, t0⟩ := hf 0 _ rfl
        obtain ⟨v1, y1, hc1, _, t1⟩ := hf 1 _ rfl
        obtain ⟨v2, y2, hc2, _, t2⟩ := hf 2 _ rfl
        obtain ⟨z0, e0, _, _⟩ := DataW.trod_int Tryd.underlying3 t0
        obtain ⟨z1, e1, _, _⟩ := DataW.trod_int Tryd.underlying3 t1
        obtain ⟨z2, e2, _, _⟩ := DataW.trod_int Tryd.underlying3 t2
        simp at e0 e1 e2
        subst e0; subst e1; subst e2
        exact ⟨(z0, z1, z2), fun _ => ⟨hc0, hc1, hc2⟩⟩
      · exact ⟨(0, 0, 0), fun h => absurd h hlt⟩
    refine ⟨some a, m, (List.range len).map fun i => Classical.choose (hp i), by simp, by simpa using hl, by rw [length_cellsP], fun hn => ⟨a, rfl, ?_, fun j u hu => ?_⟩⟩
    · simp at hn
      exact cell_block (Classical.choose_spec (hp 0) hn).1
    · obtain ⟨i, k, p, rfl, hk, hpi, rfl⟩ := cellsP_get _ j u hu
      rw [List.getElem?_map, Option.map_eq_some_iff] at hpi
      obtain ⟨i', hi', rfl⟩ := hpi
      have hlt : i < len := by
        have := (List.getElem?_eq_some_iff.1 hi').1
        simpa using this
      rw [List.getElem?_range hlt] at hi'
      obtain rfl : i = i' := by simpa using hi'
      obtain ⟨q0, q1, q2⟩ := Classical.choose_spec (hp i) hlt
      have hk3 : k = 0 ∨ k = 1 ∨ k = 2 := by omega
      rcases hk3 with rfl | rfl | rfl
      · exact q0
      · exact q1
      · exact q2

end
end Go.Proofs.YtbpkckahonmpkaaDoor
namespace Go.Proofs.YtbpkckahonmpkaaDoor
open Go.Joins Go.ChangeShapes Go.WideShapes Go.RowKit Go.Deep
section
variable {H : Type} {enc : TypeId × Value → H} {W : World}
set_option maxRecDepth 100000 in
theorem trod_coS {fuel : Nat} {cs : List Value} {x : DataW H × List MemPlace} (h : DataW.trod enc Tryd.prog W 0 (fun _ => true) true fuel 26 cs = some x) :
    ∃ (c : Co) (A D : Option Addr) (n m : Nat), cs = coL c A D n m ∧ Reads W W.heap.size 1 A c.ps.length (cellsI .i64 c.ps) ∧ Reads W W.heap.size 3 D c.qs.length (cellsP c.qs) ∧ -128 ≤ c.st ∧ c.st ≤ 127 := by
  obtain ⟨xs, n, _, _, hl, hlen, hg⟩ := DataW.trod_struct Tryd.underlying26 h
  have hC : Tryd.prog.cellsOf 26 = 8 := by kernel_rfl
  have ki : Tryd.prog.cellsOf 3 = 1 := by kernel_rfl
  have kb : Tryd.prog.cellsOf 22 = 1 := by kernel_rfl
  have kl : Tryd.prog.cellsOf 23 = 1 := by kernel_rfl
  have kp : Tryd.prog.cellsOf 24 = 1 := by kernel_rfl
  rw [hC] at hl
  match cs, hl with
  | [c0, c1, c2, c3, c4, c5, c6, c7], _ =>
    match xs, hlen with
    | [y0, y1, y2, y3, y4, y5, y6, y7], _ =>
      have t0 := hg 0 _ rfl
      have t1 := hg 1 _ rfl
      have t2 := hg 2 _ rfl
      have t3 := hg 3 _ rfl
      have t4 := hg 4 _ rfl
      have t5 := hg 5 _ rfl
      have t6 := hg 6 _ rfl
      have t7 := hg 7 _ rfl
      clear hg
      simp [kb] at t0
      simp [ki] at t1 t2 t3 t4 t7
      simp [kl] at t5
      simp [kp] at t6
      obtain ⟨z0, e0, _, w0⟩ := DataW.trod_int Tryd.underlying22 t0
      obtain ⟨z1, e1, _, _⟩ := DataW.trod_int Tryd.underlying3 t1
      obtain ⟨z2, e2, _, _⟩ := DataW.trod_int Tryd.underlying3 t2
      obtain ⟨z3, e3, _, _⟩ := DataW.trod_int Tryd.underlying3 t3
      obtain ⟨z4, e4, _, _⟩ := DataW.trod_int Tryd.underlying3 t4
      obtain ⟨A1, c1, l1, rfl, k1, r1⟩ := field_ints t5
      obtain ⟨D1, ee1, l2, rfl, k2, r2⟩ := field_pends t6
      obtain ⟨z7, e7, _, _⟩ := DataW.trod_int Tryd.underlying3 t7
      simp at e0 e1 e2 e3 e4 e7
      subst e0; subst e1; subst e2; subst e3; subst e4; subst e7
      have hw : -128 ≤ z0 ∧ z0 ≤ 127 := by
        simp only [Lit.wf, Bool.and_eq_true, decide_eq_true_eq] at w0
        exact ⟨w0.1, w0.2⟩
      exact ⟨⟨z0, z1, z2, z3, z4, l1, l2, z7⟩, A1, D1, c1, ee1, rfl, r1, r2, hw.1, hw.2⟩
set_option maxRecDepth 100000 in
theorem trod_row {fuel : Nat} {cs : List Value} {x : DataW H × List MemPlace} (h : DataW.trod enc Tryd.prog W 0 (fun _ => true) true fuel 28 cs = some x) :
    ∃ g0 g1 g2 : Int, cs = [.int .i64 g0, .int .i64 g1, .int .i64 g2] := by
  obtain ⟨xs, n, _, _, hl, hlen, hg⟩ := DataW.trod_array Tryd.underlying28 h
  have hC : Tryd.prog.cellsOf 28 = 3 := by kernel_rfl
  have ki : Tryd.prog.cellsOf 3 = 1 := by kernel_rfl
  rw [hC] at hl
  match cs, hl with
  | [c0, c1, c2], _ =>
    match xs, hlen with
    | [y0, y1, y2], _ =>
      have t0 := hg 0 (by decide)
      have t1 := hg 1 (by decide)
      have t2 := hg 2 (by decide)
      simp [ki] at t0 t1 t2
      obtain ⟨z0, e0, _, _⟩ := DataW.trod_int Tryd.underlying3 t0
      obtain ⟨z1, e1, _, _⟩ := DataW.trod_int Tryd.underlying3 t1
      obtain ⟨z2, e2, _, _⟩ := DataW.trod_int Tryd.underlying3 t2
      simp at e0 e1 e2
      subst e0; subst e1; subst e2
      exact ⟨z0, z1, z2, rfl⟩
set_option maxRecDepth 100000 in
theorem open_st {r : Reach} {base : Nat} {v : Value} {d : DataW H} {p : List MemPlace} (hv : Value.okWide Tryd.prog W r base 31 v) (h : DataW.Trod enc Tryd.prog W 0 (fun _ => true) true 31 v d p) :
    ∃ (s : Sta) (a : Sad), v = .agg (stX s a) ∧ StRaw W s a := by
  obtain ⟨cs, rfl, _⟩ := okWide_struct Tryd.underlying31 hv
  obtain ⟨fuel, hf⟩ := h
  obtain ⟨xs, n, _, _, hl, hlen, hg⟩ := DataW.trod_struct Tryd.underlying31 hf
  have hC : Tryd.prog.cellsOf 31 = 31 := by kernel_rfl
  have ki : Tryd.prog.cellsOf 3 = 1 := by kernel_rfl
  have kt : Tryd.prog.cellsOf 27 = 24 := by kernel_rfl
  have kg : Tryd.prog.cellsOf 29 = 6 := by kernel_rfl
  have kc : Tryd.prog.cellsOf 26 = 8 := by kernel_rfl
  have kr : Tryd.prog.cellsOf 28 = 3 := by kernel_rfl
  rw [hC] at hl
  have hl' : cs.toList.length = 31 := hl
  obtain ⟨L, hL⟩ : ∃ L, L = cs.toList := ⟨_, rfl⟩
  have hcs : cs = L.toArray := by rw [hL]
  change ∀ (j : Nat) (f : Field), _ → DataW.trod enc Tryd.prog W 0 (fun _ => true) true n f.type ((cs.toList.drop f.offset).take (Tryd.prog.cellsOf f.type)) = xs[j]? at hg
  rw [← hL] at hg hl'
  match xs, hlen with
  | [y0, y1, y2], _ =>
    have t0 : DataW.trod enc Tryd.prog W 0 (fun _ => true) true n 3 ((L.drop 0).take (Tryd.prog.cellsOf 3)) = some y0 := hg 0 _ rfl
    have t1 : DataW.trod enc Tryd.prog W 0 (fun _ => true) true n 27 ((L.drop 1).take (Tryd.prog.cellsOf 27)) = some y1 := hg 1 _ rfl
    have t2 : DataW.trod enc Tryd.prog W 0 (fun _ => true) true n 29 ((L.drop 25).take (Tryd.prog.cellsOf 29)) = some y2 := hg 2 _ rfl
    clear hg
    rw [ki] at t0
    rw [kt] at t1
    rw [kg] at t2
    obtain ⟨m, e0, _, _⟩ := DataW.trod_int Tryd.underlying3 t0
    obtain ⟨xs1, n1, _, _, hl1, hlen1, hg1⟩ := DataW.trod_array Tryd.underlying27 t1
    obtain ⟨xs2, n2, _, _, hl2, hlen2, hg2⟩ := DataW.trod_array Tryd.underlying29 t2
    match xs1, hlen1 with
    | [u0, u1, u2], _ =>
      match xs2, hlen2 with
      | [q0, q1], _ =>
        have a0 := hg1 0 (by decide)
        have a1 := hg1 1 (by decide)
        have a2 := hg1 2 (by decide)
        have b0 := hg2 0 (by decide)
        have b1 := hg2 1 (by decide)
        rw [kc] at a0 a1 a2
        rw [kr] at b0 b1
        simp only [List.getElem?_cons_zero, List.getElem?_cons_succ] at a0 a1 a2 b0 b1
        obtain ⟨x0, A0, D0, n0, m0, f0, r0, s0, h0⟩ := trod_coS a0
        obtain ⟨x1, A1, D1, n1', m1, f1, r1, s1, h1⟩ := trod_coS a1
        obtain ⟨x2, A2, D2, n2', m2, f2, r2, s2, h2⟩ := trod_coS a2
        obtain ⟨g0, g1, g2, e3⟩ := trod_row b0
        obtain ⟨g3, g4, g5, e4⟩ := trod_row b1
        refine ⟨⟨m, fun k => if k = 0 then x0 else if k = 1 then x1 else x2, fun g => if g = 0 then g0 else if g = 1 then g1 else if g = 2 then g2 else if g = 3 then g3 else if g = 4 then g4 else g5⟩,
          ⟨fun k => if k = 0 then A0 else if k = 1 then A1 else A2, fun k => if k = 0 then D0 else if k = 1 then D1 else D2, fun k => if k = 0 then n0 else if k = 1 then n1' else n2', fun k => if k = 0 then m0 else if k = 1 then m1 else m2⟩, ?_, fun k hk => ?_⟩
        · rw [hcs]
          refine congrArg Value.agg (congrArg List.toArray ?_)
          show L = .int .i64 m :: ((coL x0 A0 D0 n0 m0 ++ (coL x1 A1 D1 n1' m1 ++ coL x2 A2 D2 n2' m2)) ++ [.int .i64 g0, .int .i64 g1, .int .i64 g2, .int .i64 g3, .int .i64 g4, .int .i64 g5])
          rw [← f0, ← f1, ← f2]
          rw [show ([.int .i64 g0, .int .i64 g1, .int .i64 g2, .int .i64 g3, .int .i64 g4, .int .i64 g5] : List Value) = [.int .i64 g0, .int .i64 g1, .int .i64 g2] ++ [.int .i64 g3, .int .i64 g4, .int .i64 g5] from rfl, ← e3, ← e4]
          match L, hl' with
          | [l0, l1, l2, l3, l4, l5, l6, l7, l8, l9, l10, l11, l12, l13, l14, l15, l16, l17, l18, l19, l20, l21, l22, l23, l24, l25, l26, l27, l28, l29, l30], _ =>
            have : l0 = .int .i64 m := by
              have : [l0] = [.int .i64 m] := e0
              injection this
            rw [this]
            rfl
        · match k, hk with
          | 0, _ => exact ⟨r0, s0, h0⟩
          | 1, _ => exact ⟨r1, s1, h1⟩
          | 2, _ => exact ⟨r2, s2, h2⟩
end
end Go.Proofs.YtbpkckahonmpkaaDoor
namespace Go.Proofs.YtbpkckahonmpkaaDoor
open Go.ChangeShapes Go.WideShapes Go.ChangeAt Go.RowKit

theorem own : ownKnob Tryd.prog.godebug = none := by kernel_rfl
theorem laidOut : laidOutB Tryd.prog = true := by kernel_rfl
theorem lay_et : Tryd.prog.globalNamed "errors.errorType" = some 0 := by kernel_rfl
theorem lay_rt : (Tryd.prog.cutTypes.find? (·.1 == "internal/reflectlite.rtype")).map (·.2) = some 120 := by kernel_rfl
theorem lay_row : ((List.range 168).filter fun t => Tryd.prog.rowNamed t [101, 114, 114, 111, 114]) = [62] := by kernel_rfl
theorem lay_size : Tryd.prog.types.size = 168 := by kernel_rfl

def theLaid {H : Type} : List (String × DataW H) := [("errors.errorType", Rows.laid_errors_errorType)]

theorem hasErr_of_laid {W : World} (h : laidMetH Tryd.prog theLaid W) : HasET W := by
  have h' : laidMet Tryd.prog [] W ∧ handlesMet Tryd.prog theLaid W := h
  obtain ⟨name, u, ty, e1, e2, e3, e4, e5⟩ := h'.2 _ (List.mem_singleton.2 rfl)
  have en : name = [101, 114, 114, 111, 114] := (Option.some.inj e1).symm
  subst en
  obtain rfl := Option.some.inj (lay_rt.symm.trans e2)
  have hm : ty ∈ (List.range 168).filter fun t => Tryd.prog.rowNamed t [101, 114, 114, 111, 114] := List.mem_filter.2 ⟨List.mem_range.2 (by rw [← lay_size]; exact e3), e4⟩
  rw [lay_row] at hm
  obtain rfl := List.mem_singleton.1 hm
  have hh : typeHandle Tryd.prog 62 = .pointer (some ⟨1, 62, none⟩) := by kernel_rfl
  rw [hh] at e5
  unfold HasET
  simpa using World.var?_cell lay_et e5 0

/-- A world that meets the condition: the settled one, the variable's cell laid. -/
noncomputable def laidWorld (os : Os) : World :=
  { World.holding Tryd.prog os ⟨#[], #[], []⟩ with heap := (World.holding Tryd.prog os ⟨#[], #[], []⟩).heap.modify 0 fun
      | .cells _ t frozen => .cells #[.iface 120 (.agg #[.pointer (some ⟨1, 62, none⟩)])] t frozen
      | o => o }

end Go.Proofs.YtbpkckahonmpkaaDoor
