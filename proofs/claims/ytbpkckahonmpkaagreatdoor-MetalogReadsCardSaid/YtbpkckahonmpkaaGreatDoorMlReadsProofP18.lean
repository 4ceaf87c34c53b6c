/-
  What the rows' list gives (the library's variable errors.errorType), a world for the witness, and bytes out of an argument.
  The statement MetalogReads: its walk.
-/
import Derived.Test.YtbpkckahonmpkaaGreatDoorMlReadsProofP17
import Derived.Test.YtbpkckahonmpkaaGreatDoorCards
import Derived.Test.YtbpkckahonmpkaaGreatDoorTie
import Derived.LaidHandle
import Derived.LaidLaws
import Derived.Stop.Joined
import Derived.JoinedOf
import Derived.Deep.DeepHandedRow
import Derived.SevenTiedAt
set_option linter.unusedVariables false
set_option linter.unusedSimpArgs false
namespace Go.Proofs.YtbpkckahonmpkaaGreatDoor
open Go.RowKit
theorem sameM_selfR (m : Mt) : sameM m m = true := by unfold sameM sameB; simp
theorem map_at {l m : List MtM} (h : l.map (·.x) = m.map (·.x)) (k : Nat) (y : MtM) (hy : l[k]? = some y) : ∃ z, m[k]? = some z ∧ z.x = y.x := by
  have h1 := congrArg (·[k]?) h
  simp only [List.getElem?_map, hy, Option.map_some] at h1
  cases hz : m[k]? with
  | none => rw [hz] at h1; simp at h1
  | some z => rw [hz] at h1; simp only [Option.map_some, Option.some.injEq] at h1; exact ⟨z, rfl, h1.symm⟩
theorem Reads.loadE {w : World} {B n b o : Nat} {l : List MtM} (h : Reads w B 17 (some ⟨b, o, none⟩) n (cellsE l)) (hn : 0 < n) (i : Nat) (m : MtM) (hm : l[i]? = some m) :
    (loadCells ⟨b, o + i * 17, none⟩ 17).run Tryz.prog w = .ok (mtX m.x m.A m.D m.c m.e) w := by
  obtain ⟨b', o', he, _, hc⟩ := h.plainE hn
  injection he with he
  injection he with h1 h2
  subst h1
  subst h2
  exact hc i m hm
section
attribute [-go_sem] loadCells storeVar
set_option maxRecDepth 100000 in
set_option maxHeartbeats 8000000 in
theorem mlreads_walk (s : ByteArray) (ss : List ByteArray) (A : Option Addr) (c : Nat) (w : World) (hg : HasET w) (hr : Reads w w.heap.size 1 A ss.length (cellsS ss)) :
    Calls Tryz.prog 8 #[.string s, .slice A ss.length c] w fun e w' => e = .returned (.bool true) ∧ Below w.heap.size w w' := by
  have HG := Lib.hid hg
  have HR := Lib.hid hr
  have WK0 := Lib.hid (wakes19 w hg)
  clear hg hr
  by_cases hsz : 2000 < s.size
  · have ds : decide ((2000 : Int) < (s.size : Int)) = true := decide_eq_true (by omega)
    clear hsz
    go_enter Tryz.func8, Tryz.ntmps8
    go_wp2_with fail
    refine WK0.out.mono ?_
    rintro e w99 ⟨rfl, b99⟩
    have B99 := Lib.hid b99
    clear b99
    go_wp2_with fail
    go_ret
    exact ⟨rfl, B99.out⟩
  have ds : decide ((2000 : Int) < (s.size : Int)) = false := decide_eq_false (by omega)
  have HS := Lib.hid (show s.size ≤ 100000 by omega)
  clear hsz
  by_cases hnn : 200 < ss.length
  · have dn : decide ((200 : Int) < (ss.length : Int)) = true := decide_eq_true (by omega)
    clear hnn
    go_enter Tryz.func8, Tryz.ntmps8
    go_wp2_with fail
    refine WK0.out.mono ?_
    rintro e w99 ⟨rfl, b99⟩
    have B99 := Lib.hid b99
    clear b99
    go_wp2_with fail
    go_ret
    exact ⟨rfl, B99.out⟩
  have dn : decide ((200 : Int) < (ss.length : Int)) = false := decide_eq_false (by omega)
  have HN := Lib.hid (show ss.length ≤ 200 by omega)
  clear hnn
  go_enter Tryz.func8, Tryz.ntmps8
  go_wp2_with fail
  go_loopg [27] ss.length (fun mm y wq => ∃ k : Nat, k ≤ ss.length ∧ y = .int .i64 k ∧ mm = ss.length - k ∧ (∀ z ∈ ss.take k, z.size ≤ 2000) ∧ Below w.heap.size w wq)
  case atStart => exact ⟨0, Nat.zero_le _, rfl, rfl, fun y hy => by simp at hy, Below.refl _ _⟩
  case round =>
    obtain ⟨k, hk, rfl, hmm, hno, hbw⟩ := hrel
    have HMM := Lib.hid hmm
    have HNO := Lib.hid hno
    have BW' := Lib.hid hbw
    clear hmm hno hbw
    by_cases hlt : k < ss.length
    · have d1 : decide ((k : Int) < (ss.length : Int)) = true := decide_eq_true (by omega)
      have i1 : (0 : Int) ≤ (k : Int) := by omega
      have i2 : (k : Int) < (ss.length : Int) := by omega
      obtain ⟨u, hu⟩ : ∃ u, ss[k]? = some u := ⟨_, List.getElem?_eq_getElem hlt⟩
      obtain ⟨b, off, hA, hbB, hcells⟩ := (HR.out.below BW'.out).plain (by omega)
      subst hA
      have ld : wr.cell? ⟨b, off + k, none⟩ = some (.string u) := hcells k _ (by rw [getElem?_cellsS, hu]; rfl)
      have HU := Lib.hid hu
      clear hcells hu
      by_cases hz : 2000 < u.size
      · have dz : decide ((2000 : Int) < (u.size : Int)) = true := decide_eq_true (by omega)
        have WK := Lib.hid (wakes19 wr (HG.out.up BW'.out))
        clear hz
        go_wp2_with fail
        refine WK.out.mono ?_
        rintro e w99 ⟨rfl, b99⟩
        have B99 := Lib.hid ((BW'.out).trans (b99.mono (BW'.out).size))
        clear b99
        go_wp2_with fail
        go_ret
        exact ⟨rfl, B99.out⟩
      · have dz : decide ((2000 : Int) < (u.size : Int)) = false := decide_eq_false (by omega)
        have HZ := Lib.hid (show u.size ≤ 2000 by omega)
        clear hz
        go_wp2_with fail
        go_roundg (ss.length - k - 1)
        case measure => have := HMM.out; omega
        case rel =>
          have := HN.out
          refine ⟨k + 1, by omega, by (first | rfl | (rw [IntWalk.wrap64_in _ (by omega)]; rfl) | (rw [IntWalk.i64_in _ (by omega)]; rfl)), by omega, fun z hz => ?_, BW'.out⟩
          rw [List.take_add_one, HU.out] at hz
          simp only [Option.toList_some, List.mem_append, List.mem_cons, List.not_mem_nil, or_false] at hz
          rcases hz with h | h
          · exact HNO.out z h
          · rw [h]; exact HZ.out
    · have hkn : k = ss.length := by omega
      have d1 : decide ((k : Int) < (ss.length : Int)) = false := decide_eq_false (by omega)
      have HALL := Lib.hid (show ∀ z ∈ ss, z.size ≤ 100000 by
        have h := HNO.out
        rw [hkn, List.take_length] at h
        exact fun z hz => by have := h z hz; omega)
      clear hkn
      obtain ⟨x, n, hrd⟩ : ∃ x n, readM 7 6 (lb s) = (x, n) := ⟨_, _, rfl⟩
      have RD1 := mlRead_any s wr (HG.out.up BW'.out) HS.out
      rw [hrd] at RD1
      have RD1 := Lib.hid RD1
      have HRD := Lib.hid hrd
      clear hrd
      go_wp2_with fail
      refine RD1.out.mono ?_
      rintro e v1 ⟨D1, e1, rfl, hc1, bv1⟩
      obtain ⟨V2, st2, k2, bv2, s2⟩ := bk_fresh (P := Tryz.prog) v1 42 #[.int .i8 0, .int .i64 0, .int .i64 0, .int .i64 0, .int .i64 0, .int .i64 0, .bool false, .int .i64 0, .int .i8 0, .int .i64 0, .int .i64 0, .int .i64 0, .int .i64 0, .slice none 0 0, .slice none 0 0, .int .i64 0, .int .i64 0] (mtX x none D1 0 e1) 17 infoMt rfl (mtX_size ..) (mtX_one ..)
      have B2 := Lib.hid ((BW'.out).trans ((bv1.trans (bv2.mono bv1.size)).mono (BW'.out).size))
      have K2 := Lib.hid k2
      have C2 := Lib.hid (hc1.up bv2)
      have RD2 := rMtRead_any s V2 HS.out
      rw [← readM_same, HRD.out] at RD2
      have RD2 := Lib.hid RD2
      clear hc1 bv1 k2 bv2 s2
      go_wp2_with fail
      refine RD2.out.mono ?_
      rintro e v3 ⟨D3, e3, rfl, hc3, bv3⟩
      obtain ⟨V4, st4, k4, bv4, s4⟩ := bk_fresh (P := Tryz.prog) v3 42 #[.int .i8 0, .int .i64 0, .int .i64 0, .int .i64 0, .int .i64 0, .int .i64 0, .bool false, .int .i64 0, .int .i8 0, .int .i64 0, .int .i64 0, .int .i64 0, .int .i64 0, .slice none 0 0, .slice none 0 0, .int .i64 0, .int .i64 0] (mtX x none D3 0 e3) 17 infoMt rfl (mtX_size ..) (mtX_one ..)
      have b24 := bv3.trans (bv4.mono bv3.size)
      have B4 := Lib.hid (B2.out.trans (b24.mono B2.out.size))
      have K24 := Lib.hid (K2.out.below b24 K2.out.lt)
      have C24 := Lib.hid (C2.out.up b24)
      have K4 := Lib.hid k4
      have C4 := Lib.hid (hc3.up bv4)
      have AL := Lib.hid (mlAll_any ss A c V4 (HG.out.up B4.out) ((HR.out.below B4.out).more B4.out.size) HALL.out (by have := HN.out; omega))
      clear hc3 bv3 k4 bv4 s4 b24 st2
      go_wp2_with fail
      refine AL.out.mono ?_
      rintro e V5 ⟨l1, A1, c1, hm1, he1, hr1, hs1, b5⟩
      obtain ⟨N, hN1⟩ : ∃ N, l1.length = N := ⟨_, rfl⟩
      rw [hN1] at he1 hr1
      subst he1
      have B5 := Lib.hid (B4.out.trans (b5.mono B4.out.size))
      have K25 := Lib.hid (K24.out.below b5 K24.out.lt)
      have C25 := Lib.hid (C24.out.up b5)
      have K45 := Lib.hid (K4.out.below b5 K4.out.lt)
      have C45 := Lib.hid (C4.out.up b5)
      have HM1 := Lib.hid hm1
      have HN1 := Lib.hid hN1
      have HR1 := Lib.hid hr1
      have HS1 := Lib.hid hs1
      have RL := Lib.hid (rAll19_any ss A c V5 ((HR.out.below B5.out).more B5.out.size) HALL.out (by have := HN.out; omega))
      clear hm1 hN1 hr1 hs1 b5 st4
      obtain ⟨q, hq⟩ : ∃ q, (allM ss).2 = q := ⟨_, rfl⟩
      rw [hq] at RL ⊢
      clear hq
      go_wp2_with fail
      refine RL.out.mono ?_
      rintro e V6 ⟨l2, A2, c2, hm2, he2, hr2, hs2, b6⟩
      have hN2 : l2.length = N := by
        have h := congrArg List.length (hm2.trans HM1.out.symm)
        rw [List.length_map, List.length_map] at h
        rw [h]; exact HN1.out
      rw [hN2] at he2 hr2
      subst he2
      have B6 := Lib.hid (B5.out.trans (b6.mono B5.out.size))
      have K26 := Lib.hid (K25.out.below b6 K25.out.lt)
      have C26 := Lib.hid (C25.out.up b6)
      have K46 := Lib.hid (K45.out.below b6 K45.out.lt)
      have C46 := Lib.hid (C45.out.up b6)
      have HM2 := Lib.hid (show l1.map (·.x) = l2.map (·.x) by rw [hm2, HM1.out])
      have HR16 := Lib.hid ((HR1.out.below b6).more b6.size)
      have HS16 := Lib.hid (show MtsR V6 V6.heap.size l1 from fun y hy => (HS1.out y hy).up b6)
      have HR2 := Lib.hid hr2
      have HS2 := Lib.hid hs2
      have HN2 := Lib.hid hN2
      have l7 := mt_load (P := Tryz.prog) K26.out
      have l9 := mt_load (P := Tryz.prog) K46.out
      have SM := rSameM_any x x none D1 none D3 0 e1 0 e3 V6.heap.size V6.heap.size V6 C26.out C46.out (Nat.le_refl _) (Nat.le_refl _)
      rw [sameM_selfR] at SM
      have SM := Lib.hid SM
      have hNle := Lib.hid (show N ≤ 200 by
        have h := congrArg List.length HM1.out
        rw [List.length_map, HN1.out] at h
        rw [h]
        have := HN.out
        unfold allM
        split
        · rw [List.length_map]; exact this
        · exact Nat.zero_le _)
      clear hm2 hN2 hr2 hs2 b6
      go_wp2_with fail
      refine SM.out.mono ?_
      rintro e V7 ⟨rfl, b7⟩
      have B7 := Lib.hid (B6.out.trans (b7.mono B6.out.size))
      have HR17 := Lib.hid ((HR16.out.below b7).more b7.size)
      have HS17 := Lib.hid (show MtsR V7 V7.heap.size l1 from fun y hy => (HS16.out y hy).up b7)
      have HR27 := Lib.hid ((HR2.out.below b7).more b7.size)
      have HS27 := Lib.hid (show MtsR V7 V7.heap.size l2 from fun y hy => (HS2.out y hy).up b7)
      clear b7 l7 l9 ds dn d1
      go_wp2_with fail
      go_loopg [79] N (fun mm y wq => ∃ k : Nat, k ≤ N ∧ y = .int .i64 k ∧ mm = N - k ∧ Below V7.heap.size V7 wq)
      case atStart => exact ⟨0, Nat.zero_le _, rfl, rfl, Below.refl _ _⟩
      case round =>
        obtain ⟨k, hk, rfl, hmm, hbw⟩ := hrel
        have HMM := Lib.hid hmm
        have BX := Lib.hid hbw
        clear hmm hbw
        by_cases hlt : k < N
        · have d1 : decide ((k : Int) < (N : Int)) = true := decide_eq_true (by omega)
          have i1 : (0 : Int) ≤ (k : Int) := by omega
          have i2 : (k : Int) < (N : Int) := by omega
          obtain ⟨y, hy⟩ : ∃ y, l1[k]? = some y := ⟨_, List.getElem?_eq_getElem (by rw [HN1.out]; exact hlt)⟩
          obtain ⟨z, hz, hzx⟩ := map_at HM2.out k y hy
          obtain ⟨b1, o1, hA1, hb1, hq1⟩ := (HR17.out.below BX.out).plainE (by omega)
          obtain ⟨b2, o2, hA2, hb2, hq2⟩ := (HR27.out.below BX.out).plainE (by omega)
          subst hA1
          subst hA2
          have RX1 := Lib.hid ((HR17.out.below BX.out).more BX.out.size)
          have RX2 := Lib.hid ((HR27.out.below BX.out).more BX.out.size)
          have lx := fun q : BW wr.heap.size wr => (RX1.out.below q.2).loadE (by omega) k y hy
          have ly := fun q : BW wr.heap.size wr => (RX2.out.below q.2).loadE (by omega) k z hz
          have SA := fun W (h : Below wr.heap.size wr W) => rSameM_any y.x z.x y.A y.D z.A z.D y.c y.e z.c z.e W.heap.size W.heap.size W (((HS17.out y (List.mem_of_getElem? hy)).up BX.out).up h) (((HS27.out z (List.mem_of_getElem? hz)).up BX.out).up h) (Nat.le_refl _) (Nat.le_refl _)
          have hsame : sameM y.x z.x = true := by rw [hzx]; exact sameM_selfR _
          simp only [hsame] at SA
          have SA := Lib.hid SA
          clear hq1 hq2 hy hz hzx hsame hb1 hb2
          go_wp2_with fail
          refine wp_region_bq wr.heap.size (by kernel_rfl) (by kernel_rfl) ?_
          repeat (go_big_quiet_step (fail))
          go_big_quiet_want
          go_big_quiet_op
          refine ⟨_, fun m => bw_call (Nat.le_refl _) (SA.out m.1 m.2), ?_⟩
          go_big_quiet_on
          repeat (go_big_quiet_step (fail))
          refine wpQuiet_nil ?_
          rintro _ ⟨q, rfl⟩
          have BN := Lib.hid (BX.out.trans (q.2.mono BX.out.size))
          clear lx ly
          go_wp2_with fail
          go_roundg (N - k - 1)
          case measure => have := HMM.out; omega
          case rel =>
            have := hNle.out
            refine ⟨k + 1, by omega, by (first | rfl | (rw [IntWalk.wrap64_in _ (by omega)]; rfl) | (rw [IntWalk.i64_in _ (by omega)]; rfl)), by omega, BN.out⟩
        · have d1 : decide ((k : Int) < (N : Int)) = false := decide_eq_false (by omega)
          have BZ := Lib.hid (B7.out.trans (BX.out.mono B7.out.size))
          have WK := Lib.hid (wakes19 wr (HG.out.up BZ.out))
          go_wp2_with fail
          refine WK.out.mono ?_
          rintro e w99 ⟨rfl, b99⟩
          have B99 := Lib.hid ((BZ.out).trans (b99.mono (BZ.out).size))
          clear b99
          go_wp2_with fail
          go_ret
          exact ⟨rfl, B99.out⟩
end
end Go.Proofs.YtbpkckahonmpkaaGreatDoor
namespace Go.Proofs.YtbpkckahonmpkaaGreatDoor
open Go.ChangeShapes Go.WideShapes Go.ChangeAt Go.RowKit

theorem own : ownKnob Tryz.prog.godebug = none := by kernel_rfl
theorem laidOut : laidOutB Tryz.prog = true := by kernel_rfl
theorem lay_et : Tryz.prog.globalNamed "errors.errorType" = some 0 := by kernel_rfl
theorem lay_rt : (Tryz.prog.cutTypes.find? (·.1 == "internal/reflectlite.rtype")).map (·.2) = some 178 := by kernel_rfl
theorem lay_row : ((List.range 248).filter fun t => Tryz.prog.rowNamed t [101, 114, 114, 111, 114]) = [71] := by kernel_rfl
theorem lay_size : Tryz.prog.types.size = 248 := by kernel_rfl

def theLaid {H : Type} : List (String × DataW H) := [("errors.errorType", Rows.laid_errors_errorType)]

theorem hasErr_of_laid {W : World} (h : laidMetH Tryz.prog theLaid W) : HasET W := by
  have h' : laidMet Tryz.prog [] W ∧ handlesMet Tryz.prog theLaid W := h
  obtain ⟨name, u, ty, e1, e2, e3, e4, e5⟩ := h'.2 _ (List.mem_singleton.2 rfl)
  have en : name = [101, 114, 114, 111, 114] := (Option.some.inj e1).symm
  subst en
  obtain rfl := Option.some.inj (lay_rt.symm.trans e2)
  have hm : ty ∈ (List.range 248).filter fun t => Tryz.prog.rowNamed t [101, 114, 114, 111, 114] := List.mem_filter.2 ⟨List.mem_range.2 (by rw [← lay_size]; exact e3), e4⟩
  rw [lay_row] at hm
  obtain rfl := List.mem_singleton.1 hm
  have hh : typeHandle Tryz.prog 71 = .pointer (some ⟨1, 71, none⟩) := by kernel_rfl
  rw [hh] at e5
  unfold HasET
  simpa using World.var?_cell lay_et e5 0

/-- A world that meets the condition: the settled one, the variable's cell laid. -/
noncomputable def laidWorld (os : Os) : World :=
  { World.holding Tryz.prog os ⟨#[], #[], []⟩ with heap := (World.holding Tryz.prog os ⟨#[], #[], []⟩).heap.modify 0 fun
      | .cells _ t frozen => .cells #[.iface 178 (.agg #[.pointer (some ⟨1, 71, none⟩)])] t frozen
      | o => o }

end Go.Proofs.YtbpkckahonmpkaaGreatDoor
