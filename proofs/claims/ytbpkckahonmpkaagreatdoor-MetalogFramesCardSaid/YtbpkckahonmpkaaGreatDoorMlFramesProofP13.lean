/-
  Rows of texts compared by the document (layer 5).
  Layer 19: wakes.
  The statement MetalogPuts: its walk; rows of operations compared; which rows are too great.
-/
import Derived.Test.YtbpkckahonmpkaaGreatDoorMlFramesProofP12
import Derived.Deep.LoopGhost
set_option linter.unusedVariables false
set_option linter.unusedSimpArgs false
namespace Go.Proofs.YtbpkckahonmpkaaGreatDoor
open Go.RowKit
def wk1 : Mt := ⟨1, 2, 5, Pd0, false, 0, Co0, 0⟩
theorem wk1_may : mayM wk1 = true := by
  unfold mayM fitM bareM sameM wk1
  simp [sameB, Co0, Pd0]
theorem wk1_enc : encM wk1 = [1, 2, 5] := by decide +kernel
theorem wk0_may : mayM MtNil = true := by
  unfold mayM fitM bareM sameM MtNil
  simp [sameB, Co0, Pd0]
theorem wk0_enc : encM MtNil = [0] := by decide +kernel
theorem wk_read : readM 7 6 (lb ⟨#[0]⟩) = (MtNil, 0) := by
  have : lb ⟨#[0]⟩ = encM MtNil := by rw [wk0_enc]; rfl
  rw [this]
  exact readM_ok (by decide) (by decide) (by decide) (by decide) wk0_may
section
attribute [-go_sem] loadCells storeVar
set_option maxRecDepth 100000 in
set_option maxHeartbeats 8000000 in
theorem wakes19 (w : World) (hg : HasET w) : Calls Tryz.prog 15 #[] w fun e w' => e = .returned (.bool true) ∧ Below w.heap.size w w' := by
  have MB := mlBytes_any wk1 none none 0 0 w hg (co0_R _ _)
  unfold bytesM at MB
  rw [if_pos wk1_may, wk1_enc] at MB
  have MB := Lib.hid (show Calls Tryz.prog 16 #[.agg #[.int .i8 1, .int .i64 2, .int .i64 5, .int .i64 0, .int .i64 0, .int .i64 0, .bool false, .int .i64 0, .int .i8 0, .int .i64 0, .int .i64 0, .int .i64 0, .int .i64 0, .slice none 0 0, .slice none 0 0, .int .i64 0, .int .i64 0]] w (MbPost ⟨#[1, 2, 5]⟩ 0 w) from MB)
  have HG := Lib.hid hg
  clear hg
  go_enter Tryz.func15, Tryz.ntmps15
  go_wp2_with fail
  refine MB.out.mono ?_
  rintro e w1 ⟨rfl, b1⟩
  have B1 := Lib.hid b1
  have RD := mlRead_any ⟨#[0]⟩ w1 (HG.out.up b1) (by decide)
  rw [wk_read] at RD
  have RD := Lib.hid RD
  clear b1
  go_wp2_with fail
  refine RD.out.mono ?_
  rintro e w2 ⟨D, e', rfl, hc, b2⟩
  obtain ⟨W3, st3, k3, b3, s3⟩ := bk_fresh (P := Tryz.prog) w2 42 #[.int .i8 0, .int .i64 0, .int .i64 0, .int .i64 0, .int .i64 0, .int .i64 0, .bool false, .int .i64 0, .int .i8 0, .int .i64 0, .int .i64 0, .int .i64 0, .int .i64 0, .slice none 0 0, .slice none 0 0, .int .i64 0, .int .i64 0] (mtX MtNil none D 0 e') 17 infoMt rfl (mtX_size ..) (mtX_one ..)
  have B3 := Lib.hid (B1.out.trans ((b2.trans (b3.mono b2.size)).mono B1.out.size))
  have K3 := Lib.hid k3
  obtain ⟨W4, hW4⟩ : ∃ W4, W4 = W3.alloc (.cells #[.int .i8 0, .int .i64 0, .int .i64 0, .int .i64 0, .int .i64 0, .int .i64 0, .bool false, .int .i64 0, .int .i8 0, .int .i64 0, .int .i64 0, .int .i64 0, .int .i64 0, .slice none 0 0, .slice none 0 0, .int .i64 0, .int .i64 0] 42) := ⟨_, rfl⟩
  have k4 : Blk W4 W3.heap.size 42 #[.int .i8 0, .int .i64 0, .int .i64 0, .int .i64 0, .int .i64 0, .int .i64 0, .bool false, .int .i64 0, .int .i8 0, .int .i64 0, .int .i64 0, .int .i64 0, .int .i64 0, .slice none 0 0, .slice none 0 0, .int .i64 0, .int .i64 0] := by rw [hW4]; exact Blk.new _ _ _
  have B4 := Lib.hid (show Below w.heap.size w W4 by rw [hW4]; exact bal B3.out _)
  have K34 := Lib.hid (show Blk W4 w2.heap.size 42 (mtX MtNil none D 0 e') by rw [hW4]; exact K3.out.alloc _)
  have hr : Reads W4 W4.heap.size 17 (some ⟨W3.heap.size, 0, none⟩) [(⟨MtNil, none, none, 0, 0⟩ : MtM)].length (cellsE [⟨MtNil, none, none, 0, 0⟩]) := ⟨rfl, fun _ => ⟨_, rfl, k4.lt, fun j u hu => by
    rw [add_none, Nat.zero_add, k4.cell]
    have : (cellsE [(⟨MtNil, none, none, 0, 0⟩ : MtM)]) = #[.int .i8 0, .int .i64 0, .int .i64 0, .int .i64 0, .int .i64 0, .int .i64 0, .bool false, .int .i64 0, .int .i8 0, .int .i64 0, .int .i64 0, .int .i64 0, .int .i64 0, .slice none 0 0, .slice none 0 0, .int .i64 0, .int .i64 0].toList := rfl
    rw [this] at hu
    simpa using hu⟩⟩
  have PU := mlPut_any 1 [⟨MtNil, none, none, 0, 0⟩] (some ⟨W3.heap.size, 0, none⟩) 1 W4 (HG.out.up B4.out) hr (fun y hy => by simp only [List.mem_cons, List.not_mem_nil, or_false] at hy; subst hy; exact co0_R _ _) (by decide)
  have hp : putM 1 ([(⟨MtNil, none, none, 0, 0⟩ : MtM)].map (·.x)) = ([(0, ⟨#[98, 109]⟩, frOf (bs (encM MtNil))), (1, ⟨#[98, 109]⟩, ⟨#[]⟩)], 0) := by
    have hn : metaName 1 = ⟨#[98, 109]⟩ := rfl
    unfold putM
    rw [hn, if_neg (by rintro (h | h); exact absurd (congrArg ByteArray.data h) (by simp); cases h), if_pos (by simp [wk0_may])]
    rfl
  rw [hp] at PU
  have PU := Lib.hid PU
  have HW4 := Lib.hid hW4
  clear hr hp k4 hc b2 k3 b3 s3 hW4
  go_wp2_with fail
  rw [← HW4.out]
  refine PU.out.mono ?_
  rintro e w5 ⟨A5, c5, rfl, r5, b5⟩
  have B5 := Lib.hid (B4.out.trans (b5.mono B4.out.size))
  obtain ⟨b, off, rfl, hb, hcells⟩ := r5.plainQ (by decide)
  have q0 := (hcells 0 _ rfl).2.1
  have q1 := (hcells 1 _ rfl).1
  have x0 : w5.cell? ⟨w2.heap.size, 0, none⟩ = some (.int .i8 0) := mt_cell (K34.out.below b5 K34.out.lt) (j := 0) rfl
  clear r5 b5 hcells st3
  go_wp2_with fail
  go_ret
  exact ⟨rfl, B5.out⟩
end
end Go.Proofs.YtbpkckahonmpkaaGreatDoor
namespace Go.Proofs.YtbpkckahonmpkaaGreatDoor
open Go.RowKit
def bigLM (l : List MtM) : Bool := decide (200 < l.length) || l.any fun y => bigT y.x.c
theorem bigLM_no {l : List MtM} (h : bigLM l = false) : l.length ≤ 200 ∧ ∀ y ∈ l, bigT y.x.c = false := by
  unfold bigLM at h
  simp only [Bool.or_eq_false_iff, decide_eq_false_iff_not, Nat.not_lt, List.any_eq_false] at h
  exact ⟨h.1, fun y hy => by have := h.2 y hy; simpa using this⟩
section
attribute [-go_sem] loadCells storeVar
set_option maxRecDepth 100000 in
set_option maxHeartbeats 4000000 in
theorem great19_any (l : List MtM) (A : Option Addr) (c : Nat) (w : World) (hr : Reads w w.heap.size 17 A l.length (cellsE l)):
    Calls Tryz.prog 22 #[.slice A l.length c] w fun e w' => e = .returned (.bool (bigLM l)) ∧ Below w.heap.size w w' := by
  have HR := Lib.hid hr
  clear hr
  by_cases h2 : 200 < l.length
  · have d2 : decide ((200 : Int) < (l.length : Int)) = true := decide_eq_true (by omega)
    have hb : bigLM l = true := by unfold bigLM; rw [decide_eq_true h2, Bool.true_or]
    rw [hb]
    clear h2 hb
    go_enter Tryz.func22, Tryz.ntmps22
    go_wp2_with fail
    go_ret
    exact ⟨rfl, Below.refl _ _⟩
  · have d2 : decide ((200 : Int) < (l.length : Int)) = false := decide_eq_false (by omega)
    have HL := Lib.hid (show l.length ≤ 200 by omega)
    clear h2
    go_enter Tryz.func22, Tryz.ntmps22
    go_wp2_with fail
    go_loopg [10] l.length (fun mm y wq => ∃ k : Nat, k ≤ l.length ∧ y = .int .i64 k ∧ mm = l.length - k ∧ (∀ y ∈ l.take k, bigT y.x.c = false) ∧ Below w.heap.size w wq)
    case atStart => exact ⟨0, Nat.zero_le _, rfl, rfl, fun y hy => by simp at hy, Below.refl _ _⟩
    case round =>
      obtain ⟨k, hk, rfl, hmm, hno, hbw⟩ := hrel
      have HMM := Lib.hid hmm
      have HNO := Lib.hid hno
      have BW' := Lib.hid hbw
      clear hmm hno hbw
      by_cases hlt : k < l.length
      · have d1 : decide ((k : Int) < (l.length : Int)) = true := decide_eq_true (by omega)
        have i1 : (0 : Int) ≤ (k : Int) := by omega
        have i2 : (k : Int) < (l.length : Int) := by omega
        obtain ⟨y, hy⟩ : ∃ y, l[k]? = some y := ⟨_, List.getElem?_eq_getElem hlt⟩
        obtain ⟨b, off, hA, hbB, hcells⟩ := (HR.out.below BW'.out).plainE (by omega)
        subst hA
        have ld := hcells k y hy
        obtain ⟨W1, st1, k1, b1, s1⟩ := bk_fresh (P := Tryz.prog) wr 42 #[.int .i8 0, .int .i64 0, .int .i64 0, .int .i64 0, .int .i64 0, .int .i64 0, .bool false, .int .i64 0, .int .i8 0, .int .i64 0, .int .i64 0, .int .i64 0, .int .i64 0, .slice none 0 0, .slice none 0 0, .int .i64 0, .int .i64 0] (mtX y.x y.A y.D y.c y.e) 17 infoMt rfl (mtX_size ..) (mtX_one ..)
        have l1 := mt_load (P := Tryz.prog) k1
        have B1 := Lib.hid (BW'.out.trans (b1.mono BW'.out.size))
        have HY := Lib.hid hy
        cases hu : bigT y.x.c
        · have GR := rGreat19_any y.x y.A y.D y.c y.e W1
          rw [hu] at GR
          have GR := Lib.hid GR
          have HU := Lib.hid hu
          clear hcells k1 b1 s1 hy hu
          go_wp2_with fail
          refine GR.out.mono ?_
          rintro e w3 ⟨rfl, b3⟩
          have B3 := Lib.hid (B1.out.trans (b3.mono B1.out.size))
          clear b3 l1 ld st1
          go_wp2_with fail
          go_roundg (l.length - k - 1)
          case measure => have := HMM.out; omega
          case rel =>
            have := HL.out
            refine ⟨k + 1, by omega, by (first | rfl | (rw [IntWalk.wrap64_in _ (by omega)]; rfl) | (rw [IntWalk.i64_in _ (by omega)]; rfl)), by omega, fun z hz => ?_, B3.out⟩
            rw [List.take_add_one, HY.out] at hz
            simp only [Option.toList_some, List.mem_append, List.mem_cons, List.not_mem_nil, or_false] at hz
            rcases hz with h | h
            · exact HNO.out z h
            · rw [h]; exact HU.out
        · have GR := rGreat19_any y.x y.A y.D y.c y.e W1
          rw [hu] at GR
          have GR := Lib.hid GR
          have HT := Lib.hid (show bigLM l = true by
            unfold bigLM
            rw [Bool.or_eq_true, List.any_eq_true]
            exact .inr ⟨y, List.mem_of_getElem? hy, hu⟩)
          clear hcells k1 b1 s1 hy hu
          go_wp2_with fail
          refine GR.out.mono ?_
          rintro e w3 ⟨rfl, b3⟩
          have B3 := Lib.hid (B1.out.trans (b3.mono B1.out.size))
          clear b3 l1 ld st1
          go_wp2_with fail
          go_ret
          rw [HT.out]
          exact ⟨rfl, B3.out⟩
      · have hkn : k = l.length := by omega
        have d1 : decide ((k : Int) < (l.length : Int)) = false := decide_eq_false (by omega)
        have HF := Lib.hid (show bigLM l = false by
          have h := HNO.out
          rw [hkn, List.take_length] at h
          unfold bigLM
          rw [Bool.or_eq_false_iff, List.any_eq_false]
          exact ⟨decide_eq_false (by have := HL.out; omega), fun y hy => by rw [h y hy]; decide⟩)
        go_wp2_with fail
        go_ret
        rw [HF.out]
        exact ⟨rfl, BW'.out⟩
end
theorem load_wr {W : World} {b o : Nat} {p : Wr} (h1 : W.cell? ⟨b, o, none⟩ = some (.int .i8 p.1)) (h2 : W.cell? ⟨b, o + 1, none⟩ = some (.string p.2.1)) (h3 : W.cell? ⟨b, o + 2, none⟩ = some (.string p.2.2)) (h4 : W.cell? ⟨b, o + 3, none⟩ = some (.int .i64 0)) : (loadCells ⟨b, o, none⟩ 4).run Tryz.prog W = .ok #[.int .i8 p.1, .string p.2.1, .string p.2.2, .int .i64 0] W :=
  run_loadCells_list (P := Tryz.prog) W ⟨b, o, none⟩ [.int .i8 p.1, .string p.2.1, .string p.2.2, .int .i64 0] (fun j v hv => by
    rw [Addr.add_mid]
    match j, hv with
    | 0, hv => injection hv with hv; subst hv; exact h1
    | 1, hv => injection hv with hv; subst hv; exact h2
    | 2, hv => injection hv with hv; subst hv; exact h3
    | 3, hv => injection hv with hv; subst hv; exact h4
    | j + 4, hv => simp at hv)
section
attribute [-go_sem] loadCells storeVar
end
section
attribute [-go_sem] loadCells storeVar
end
end Go.Proofs.YtbpkckahonmpkaaGreatDoor
namespace Go.Proofs.YtbpkckahonmpkaaGreatDoor
open Go.RowKit
theorem btM {w w1 w2 : World} (h : Below w.heap.size w w1) (k : Below w1.heap.size w1 w2) : Below w.heap.size w w2 := h.trans (k.mono h.size)
section
set_option maxRecDepth 100000 in
set_option maxHeartbeats 4000000 in
/-- A row of texts beside itself. -/
theorem texts_self (r : List ByteArray) (A C : Option Addr) (c d : Nat) (w : World) (h1 : Reads w w.heap.size 1 A r.length (cellsS r)) (h2 : Reads w w.heap.size 1 C r.length (cellsS r)) (hn : r.length ≤ 10000) :
    Calls Tryz.prog 28 #[.slice A r.length c, .slice C r.length d] w fun e w' => e = .returned (.bool true) ∧ Below w.heap.size w w' := by
  have H1 := Lib.hid h1
  have H2 := Lib.hid h2
  have HN := Lib.hid hn
  clear h1 h2 hn
  go_enter Tryz.func28, Tryz.ntmps28
  go_wp2_with fail
  go_loopg [5] r.length (fun mm y wq => ∃ k : Nat, k ≤ r.length ∧ y = .int .i64 k ∧ mm = r.length - k ∧ Below w.heap.size w wq)
  case atStart => exact ⟨0, Nat.zero_le _, rfl, rfl, Below.refl _ _⟩
  case round =>
    obtain ⟨k, hk, rfl, hmm, hbw⟩ := hrel
    have HMM := Lib.hid hmm
    have BW' := Lib.hid hbw
    clear hmm hbw
    by_cases hlt : k < r.length
    · have d1 : decide ((k : Int) < (r.length : Int)) = true := decide_eq_true (by omega)
      have i1 : (0 : Int) ≤ (k : Int) := by omega
      have i2 : (k : Int) < (r.length : Int) := by omega
      obtain ⟨p, hp⟩ : ∃ p, r[k]? = some p := ⟨_, List.getElem?_eq_getElem hlt⟩
      obtain ⟨b1, o1, hA1, _, hc1⟩ := (H1.out.below (BW'.out.drew)).plain (by omega)
      obtain ⟨b2, o2, hA2, _, hc2⟩ := (H2.out.below (BW'.out.drew)).plain (by omega)
      subst hA1; subst hA2
      have x1 := hc1 k (.string p) (by rw [getElem?_cellsS, hp]; rfl)
      have y1 := hc2 k (.string p) (by rw [getElem?_cellsS, hp]; rfl)
      clear hc1 hc2 hp
      go_wp2_with fail
      refine wp_region_qtail 8 (by kernel_rfl) (by kernel_rfl) ?_
      simp only [List.take_succ_cons, List.take_zero, List.drop_succ_cons, List.drop_zero]
      repeat (go_big_quiet_step (fail))
      refine wpQuiet_nil ?_
      go_wp2_with fail
      go_roundg (r.length - k - 1)
      case measure => have := HMM.out; omega
      case rel => have := HN.out; exact ⟨k + 1, by omega, by (first | rfl | (rw [IntWalk.wrap64_in _ (by omega)]; rfl) | (rw [IntWalk.i64_in _ (by omega)]; rfl)), by omega, BW'.out.drew⟩
    · have d1 : decide ((k : Int) < (r.length : Int)) = false := decide_eq_false (by omega)
      go_wp2_with fail
      go_ret
      exact ⟨rfl, BW'.out⟩
end
theorem reads_at1 {w : World} {g : Nat} {s : ByteArray} (hg : w.cell? ⟨g, 0, none⟩ = some (.string s)) : Reads w w.heap.size 1 (some ⟨g, 0, none⟩) 1 (cellsS [s]) := by
  refine ⟨rfl, fun _ => ⟨_, rfl, cell_lt hg, fun j u hu => ?_⟩⟩
  match j, hu with
  | 0, hu =>
    injection hu with hu
    subst hu
    exact hg
  | j + 1, hu => simp [cellsS] at hu
theorem texts_one (s : ByteArray) (g h : Nat) (w : World) (hg : w.cell? ⟨g, 0, none⟩ = some (.string s)) (hh : w.cell? ⟨h, 0, none⟩ = some (.string s)) :
    Calls Tryz.prog 28 #[.slice (some ⟨g, 0, none⟩) 1 1, .slice (some ⟨h, 0, none⟩) 1 1] w fun e w' => e = .returned (.bool true) ∧ Below w.heap.size w w' :=
  texts_self [s] _ _ 1 1 w (reads_at1 hg) (reads_at1 hh) (by simp)
end Go.Proofs.YtbpkckahonmpkaaGreatDoor
