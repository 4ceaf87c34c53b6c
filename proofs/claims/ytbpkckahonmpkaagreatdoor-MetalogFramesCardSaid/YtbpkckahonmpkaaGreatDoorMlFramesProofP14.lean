/-
  The statement MetalogFrames: its walk; rows of texts compared.
-/
import Derived.Test.YtbpkckahonmpkaaGreatDoorMlFramesProofP13
import Derived.Lib.MinMax
import Derived.Deep.RegionHeldLaw
set_option linter.unusedVariables false
set_option linter.unusedSimpArgs false
namespace Go.Proofs.YtbpkckahonmpkaaGreatDoor
open Go.RowKit
theorem putM_cases (t : Int) (l : List MtM) : putM t (l.map (·.x)) = ([], 2) ∨ (0 < l.length ∧ (∀ y ∈ l, mayM y.x = true) ∧ ¬ metaName t = ⟨#[]⟩ ∧ putM t (l.map (·.x)) = (rowsQ (metaName t) (l.map (·.x)) ++ [(1, metaName t, ⟨#[]⟩)], 0)) := by
  unfold putM
  split
  · exact .inl rfl
  · rename_i h
    split
    · rename_i h2
      refine .inr ⟨?_, fun y hy => List.all_eq_true.1 h2 y.x (List.mem_map_of_mem hy), fun e => h (.inl e), rfl⟩
      rcases Nat.eq_zero_or_pos l.length with h3 | h3
      · exact absurd (.inr (by rw [List.length_map]; exact h3)) h
      · exact h3
    · exact .inl rfl
theorem rowsQ_at {nm : ByteArray} {l : List MtM} {k : Nat} {y : MtM} (hy : l[k]? = some y) (z : Wr) : (rowsQ nm (l.map (·.x)) ++ [z])[k]? = some (0, nm, frOf (bs (encM y.x))) := by
  have hk : k < l.length := (List.getElem?_eq_some_iff.1 hy).1
  rw [List.getElem?_append_left (by rw [rowsQ_len, List.length_map]; exact hk)]
  simp [rowsQ, hy]
theorem rowsQ_end (nm : ByteArray) (l : List MtM) (z : Wr) : (rowsQ nm (l.map (·.x)) ++ [z])[l.length]? = some z := by
  rw [List.getElem?_append_right (by rw [rowsQ_len, List.length_map]; exact Nat.le_refl _), rowsQ_len, List.length_map, Nat.sub_self]
  rfl
theorem Reads.atQ {w : World} {B n b o : Nat} {l : List Wr} (h : Reads w B 4 (some ⟨b, o, none⟩) n (cellsQ l)) (hn : 0 < n) (i : Nat) (p : Wr) (hp : l[i]? = some p) :
    w.cell? ⟨b, o + i * 4, none⟩ = some (.int .i8 p.1) ∧ w.cell? ⟨b, o + i * 4 + 1, none⟩ = some (.string p.2.1) ∧ w.cell? ⟨b, o + i * 4 + 2, none⟩ = some (.string p.2.2) ∧ w.cell? ⟨b, o + i * 4 + 3, none⟩ = some (.int .i64 0) := by
  obtain ⟨b', o', he, _, hc⟩ := h.plainQ hn
  injection he with he
  injection he with h1 h2
  subst h1
  subst h2
  exact hc i p hp
theorem Reads.loadQ {w : World} {B n b o : Nat} {l : List Wr} (h : Reads w B 4 (some ⟨b, o, none⟩) n (cellsQ l)) (hn : 0 < n) (i : Nat) (p : Wr) (hp : l[i]? = some p) :
    (loadCells ⟨b, o + i * 4, none⟩ 4).run Tryz.prog w = .ok #[.int .i8 p.1, .string p.2.1, .string p.2.2, .int .i64 0] w := by
  obtain ⟨h1, h2, h3, h4⟩ := h.atQ hn i p hp
  exact load_wr h1 h2 h3 h4
theorem Reads.fileQ {w : World} {B n b o : Nat} {l : List Wr} (h : Reads w B 4 (some ⟨b, o, none⟩) n (cellsQ l)) (hn : 0 < n) (p : Wr) (hp : l[0]? = some p) : w.cell? ⟨b, o + 1, none⟩ = some (.string p.2.1) := by
  have h2 := (h.atQ hn 0 p hp).2.1
  rwa [Nat.zero_mul, Nat.add_zero] at h2
theorem wpAnyH_mono {P : Program} {md : Region.Mode} {ops : Array Oper} {Q : Exit → Act → World → Prop} {S S' : World → Prop} (hS : ∀ w, S' w → S w) : ∀ (fuel : Nat) (listed : Array Bool) (a : Act) (w : World), wpAnyH P md ops Q S' fuel listed a w → wpAnyH P md ops Q S fuel listed a w
  | 0, _, _, _, h => h
  | fuel + 1, _, _, _, h => ⟨h.1, fun i hi => wpOp_mono (fun a' w' h' => ⟨hS _ h'.1, wpAnyH_mono hS fuel _ a' w' h'.2⟩) (h.2 i hi)⟩
theorem wpAnyH_and {P : Program} {md : Region.Mode} {ops : Array Oper} {Q : Exit → Act → World → Prop} {S : World → Prop} (T : World → Prop) {fuel : Nat} {listed : Array Bool} {a : Act} {w : World} (hS : S w) (hT : T w)
    (h : S w ∧ T w → wpAnyH P md ops Q (fun W => S W ∧ T W) fuel listed a w) : wpAnyH P md ops Q S fuel listed a w := wpAnyH_mono (fun _ h => h.1) _ _ _ _ (h ⟨hS, hT⟩)
theorem tkH {P : Program} {md : Region.Mode} {L : List Oper} {Q : Exit → Act → World → Prop} {S : World → Prop} {i : Nat} {oi : Oper} {v : Value} {fuel : Nat} {listed : Array Bool} {a : Act} {w : World} (hi : L[i]? = some oi)
    (hs : Region.noSelect L.toArray = true) (hf : Region.free md L.toArray listed i = true) (hr : (Region.ready md L.toArray listed).contains i = true)
    (hQ : ∀ c a w, Q (.panic c) (a.put oi.dst v) w → Q (.panic c) a w) (hy : YieldsIf P L.toArray S oi v a) (hS : S w)
    (h : wpAnyH P md L.toArray Q S fuel (listed.setIfInBounds i true) (a.put oi.dst v) w) : wpAnyH P md L.toArray Q S (fuel + 1) listed a w :=
  wpAnyH_take (by rw [List.getElem?_toArray]; exact hi) hs hf hr hQ hy hS h
theorem csH {P : Program} {md : Region.Mode} {L : List Oper} {Q : Exit → Act → World → Prop} {S : World → Prop} {fuel : Nat} {listed : Array Bool} {a : Act} {w : World} {i : Nat} {o : Oper} {rs : List Nat} (ho : L[i]? = some o)
    (h : ∀ K' : Act → World → Prop, Shut (∀ a w, S w → (S w → wpAnyH P md L.toArray Q S fuel (listed.setIfInBounds i true) a w) → K' a w) → if Region.wanted o (yielded L.toArray a.tmps) = true then Oper.wp P o a w K' Q else K' (a.put o.dst undef) w)
    (hs : AllReadyH P md L.toArray Q S fuel listed a w rs) : AllReadyH P md L.toArray Q S fuel listed a w (i :: rs) :=
  AllReadyH.cons (by rw [List.getElem?_toArray]; exact ho) h hs
section
attribute [-go_sem] loadCells storeVar
set_option maxRecDepth 100000 in
set_option maxHeartbeats 8000000 in
theorem mframes_walk (t : Int) (l : List MtM) (A : Option Addr) (c : Nat) (w : World) (hg : HasET w) (hr : Reads w w.heap.size 17 A l.length (cellsE l)) (hm : ∀ m ∈ l, MtRaw w m.x m.A m.D) :
    Calls Tryz.prog 7 #[.int .i8 t, .slice A l.length c] w fun e w' => e = .returned (.bool true) ∧ Below w.heap.size w w' := by
  have HG := Lib.hid hg
  have HR := Lib.hid hr
  have HM := Lib.hid hm
  have GR := great19_any l A c w hr
  clear hg hr hm
  cases hb : bigLM l
  case true =>
    rw [hb] at GR
    have GR := Lib.hid GR
    clear hb
    go_enter Tryz.func7, Tryz.ntmps7
    go_wp2_with fail
    refine GR.out.mono ?_
    rintro e w1 ⟨rfl, b1⟩
    have B1 := Lib.hid b1
    clear b1
    have WK := Lib.hid (wakes19 w1 (HG.out.up B1.out))
    go_wp2_with fail
    refine WK.out.mono ?_
    rintro e w99 ⟨rfl, b99⟩
    have B99 := Lib.hid ((B1.out).trans (b99.mono (B1.out).size))
    clear b99
    go_wp2_with fail
    go_ret
    exact ⟨rfl, B99.out⟩
  rw [hb] at GR
  have GR := Lib.hid GR
  obtain ⟨hl, hbig⟩ := bigLM_no hb
  have HL := Lib.hid hl
  have HC := Lib.hid (show MtsR w w.heap.size l from fun y hy => (HM.out y hy).co (hbig y hy))
  clear hb hl hbig
  rcases putM_cases t l with hpm | ⟨hl0, hmay, hne, hpm⟩
  · go_enter Tryz.func7, Tryz.ntmps7
    go_wp2_with fail
    refine GR.out.mono ?_
    rintro e w1 ⟨rfl, b1⟩
    have B1 := Lib.hid b1
    have r1 := (HR.out.below b1).more b1.size
    have c1 : MtsR w1 w1.heap.size l := fun y hy => CoR.up (HC.out y hy) b1
    have PU := mlPut_any t l A c w1 (HG.out.up b1) r1 c1 (by have := HL.out; omega)
    rw [hpm] at PU
    have PU := Lib.hid PU
    clear b1 r1 c1 hpm
    go_wp2_with fail
    refine PU.out.mono ?_
    rintro e w2 ⟨A2, c2, rfl, r2, b2⟩
    have B2 := Lib.hid (B1.out.trans (b2.mono B1.out.size))
    clear b2 r2
    have WK := Lib.hid (wakes19 w2 (HG.out.up B2.out))
    go_wp2_with fail
    refine WK.out.mono ?_
    rintro e w99 ⟨rfl, b99⟩
    have B99 := Lib.hid ((B2.out).trans (b99.mono (B2.out).size))
    clear b99
    go_wp2_with fail
    go_ret
    exact ⟨rfl, B99.out⟩
  have HMAY := Lib.hid hmay
  have HNE := Lib.hid hne
  have HPM := Lib.hid hpm
  have HL0 := Lib.hid hl0
  clear hmay hne hpm hl0
  obtain ⟨M, hM⟩ : ∃ M, M = l.length + 1 := ⟨_, rfl⟩
  have HMM := Lib.hid hM
  have wM : IntKind.i64.wrap ((l.length : Int) + 1) = (M : Int) := by have := HL.out; rw [IntWalk.i64_in _ (by omega)]; omega
  clear hM
  go_enter Tryz.func7, Tryz.ntmps7
  go_wp2_with fail
  refine GR.out.mono ?_
  rintro e w1 ⟨rfl, b1⟩
  have B1 := Lib.hid b1
  have r1 := (HR.out.below b1).more b1.size
  have c1 : MtsR w1 w1.heap.size l := fun y hy => CoR.up (HC.out y hy) b1
  have PU := mlPut_any t l A c w1 (HG.out.up b1) r1 c1 (by have := HL.out; omega)
  rw [HPM.out] at PU
  have PU := Lib.hid PU
  clear b1 r1 c1
  go_wp2_with fail
  refine PU.out.mono ?_
  rintro e w2 ⟨A2, c2, he, r2, b2⟩
  have hlen : (rowsQ (metaName t) (l.map fun m : MtM => m.x) ++ [((1, metaName t, ⟨#[]⟩) : Wr)]).length = M := by rw [List.length_append, rowsQ_len, List.length_map, HMM.out]; rfl
  rw [hlen] at he r2
  subst he
  have B2 := Lib.hid (B1.out.trans (b2.mono B1.out.size))
  obtain ⟨b9, o9, hA9, _, _⟩ := r2.plainQ (by have := HMM.out; omega)
  subst hA9
  have R2 := Lib.hid r2
  clear b2 r2 hlen
  go_wp2_with fail
  go_loopg [37] l.length (fun mm y wq => ∃ k : Nat, k ≤ l.length ∧ y = .int .i64 k ∧ mm = l.length - k ∧ Below w2.heap.size w2 wq)
  case atStart => exact ⟨0, Nat.zero_le _, rfl, rfl, Below.refl _ _⟩
  case round =>
    obtain ⟨k, hk, rfl, hmm, hbw⟩ := hrel
    have HK := Lib.hid hmm
    have BX := Lib.hid hbw
    clear hmm hbw
    by_cases hlt : k < l.length
    · have d1 : decide ((k : Int) < (l.length : Int)) = true := decide_eq_true (by omega)
      have i1 : (0 : Int) ≤ (k : Int) := by omega
      have i2 : (k : Int) < (l.length : Int) := by omega
      have i3 : (k : Int) < (M : Int) := by have := HMM.out; omega
      have i4 : (0 : Int) < (M : Int) := by have := HMM.out; omega
      obtain ⟨y, hy⟩ : ∃ y, l[k]? = some y := ⟨_, List.getElem?_eq_getElem hlt⟩
      have BT := Lib.hid (B2.out.trans (BX.out.mono B2.out.size))
      obtain ⟨b, off, hA, hbB, hcells⟩ := (HR.out.below BT.out).plainE (by omega)
      subst hA
      have ld := hcells k y hy
      have HY := Lib.hid hy
      have MB := mlBytes_any y.x y.A y.D y.c y.e wr (HG.out.up BT.out) ((HC.out y (List.mem_of_getElem? hy)).up BT.out)
      have hmy := HMAY.out y (List.mem_of_getElem? hy)
      have hby : bytesM y.x = (bs (encM y.x), 0) := by unfold bytesM; rw [if_pos hmy]
      rw [hby] at MB
      have MB := Lib.hid MB
      have HSZ := Lib.hid (bs_enc_size hmy)
      have HRK := Lib.hid (rowsQ_at (nm := metaName t) hy (1, metaName t, ⟨#[]⟩))
      obtain ⟨y0, hy0⟩ : ∃ y0, l[0]? = some y0 := ⟨_, List.getElem?_eq_getElem (by omega)⟩
      have HR0 := Lib.hid (rowsQ_at (nm := metaName t) hy0 (1, metaName t, ⟨#[]⟩))
      clear hcells hy hmy hby hy0 hbB
      go_wp2_with fail
      refine MB.out.mono ?_
      rintro e w3 ⟨rfl, b3⟩
      have B3 := Lib.hid (BX.out.trans (b3.mono BX.out.size))
      have FB := Lib.hid (rfBytes_ok (bs (encM y.x)) w3 HSZ.out)
      clear b3 ld
      go_wp2_with fail
      refine FB.out.mono ?_
      rintro e w4 ⟨rfl, b4⟩
      have B4 := Lib.hid (B3.out.trans (b4.mono B3.out.size))
      clear b4
      have RX := Lib.hid ((R2.out.below B4.out).more B4.out.size)
      obtain ⟨F, hF⟩ : ∃ F, frOf (bs (encM y.x)) = F := ⟨_, rfl⟩
      have lx := (RX.out.drew).loadQ (by have := HMM.out; omega) k _ HRK.out
      have ly := (RX.out.drew).fileQ (by have := HMM.out; omega) _ HR0.out
      rw [show bs (headOf (bs (encM y.x)).size ++ lb (bs (encM y.x))) = F from hF]
      rw [hF] at lx
      obtain ⟨nm, hnm⟩ : ∃ nm, metaName t = nm := ⟨_, rfl⟩
      rw [hnm] at lx ly
      clear hF hnm
      go_wp2_with fail
      refine wp_region_qtail 17 (by kernel_rfl) (by kernel_rfl) ?_
      simp only [List.take_succ_cons, List.take_zero, List.drop_succ_cons, List.drop_zero]
      repeat (go_big_quiet_step (fail))
      refine wpQuiet_nil ?_
      clear lx ly
      go_wp2_with fail
      go_roundg (l.length - k - 1)
      case measure => have := HK.out; omega
      case rel => have := HL.out; exact ⟨k + 1, by omega, by (first | rfl | (rw [IntWalk.wrap64_in _ (by omega)]; rfl) | (rw [IntWalk.i64_in _ (by omega)]; rfl)), by omega, B4.out.drew⟩
    · have hkn : k = l.length := by omega
      have d1 : decide ((k : Int) < (l.length : Int)) = false := decide_eq_false (by omega)
      have i2 : (l.length : Int) < (M : Int) := by have := HMM.out; omega
      have i4 : (0 : Int) < (M : Int) := by have := HMM.out; omega
      have i1 : (0 : Int) ≤ (l.length : Int) := by omega
      have j0 : 0 < M := by have := HMM.out; omega
      have j1 : l.length < M := by have := HMM.out; omega
      obtain ⟨y0, hy0⟩ : ∃ y0, l[0]? = some y0 := ⟨_, List.getElem?_eq_getElem (by have := HL0.out; omega)⟩
      have HR0 := Lib.hid (rowsQ_at (nm := metaName t) hy0 (1, metaName t, ⟨#[]⟩))
      have RX := Lib.hid ((R2.out.below BX.out).more BX.out.size)
      obtain ⟨nm, hnm⟩ : ∃ nm, metaName t = nm := ⟨_, rfl⟩
      have KP := Lib.hid (show ∀ W, Below wr.heap.size wr W → (loadCells ⟨b9, o9 + l.length * 4, none⟩ 4).run Tryz.prog W = .ok #[.int .i8 1, .string nm, .string ⟨#[]⟩, .int .i64 0] W ∧ W.cell? ⟨b9, o9 + 1, none⟩ = some (.string nm) from fun W h => by
        rw [← hnm]
        exact ⟨(RX.out.below h).loadQ (by have := HMM.out; omega) l.length _ (rowsQ_end ..), (RX.out.below h).fileQ (by have := HMM.out; omega) _ HR0.out⟩)
      have BT := Lib.hid (B2.out.trans (BX.out.mono B2.out.size))
      have ht : (t = 0 ∧ nm = ⟨#[105, 109]⟩) ∨ (t = 1 ∧ nm = ⟨#[98, 109]⟩) := by
        have h := HNE.out
        rw [← hnm]
        unfold metaName at h ⊢
        split at h
        · exact .inl ⟨by assumption, by rw [if_pos (by assumption)]⟩
        · split at h
          · rename_i h1 h2
            exact .inr ⟨h2, by rw [if_neg h1, if_pos h2]⟩
          · exact absurd rfl h
      clear hkn hy0 hnm
      have w0 : IntKind.i64.wrap 0 = 0 := by decide
      have w1' : IntKind.i64.wrap 1 = 1 := by decide
      have m1 : min (0 : Int) 1 = 0 := by decide
      have m2 : max (0 : Int) 1 = 1 := by decide
      rcases ht with ⟨rfl, rfl⟩ | ⟨rfl, rfl⟩
      · go_upto_region 16 with (fail)
        refine wp_region_held_drew (S := fun W => (loadCells ⟨b9, o9 + l.length * 4, none⟩ 4).run Tryz.prog W = .ok #[.int .i8 1, .string ⟨#[105, 109]⟩, .string ⟨#[]⟩, .int .i64 0] W ∧ W.cell? ⟨b9, o9 + 1, none⟩ = some (.string ⟨#[105, 109]⟩)) (by kernel_rfl) (KP.out _ (by repeat' (first | exact Below.refl _ _ | exact BT3.out | exact BT2.out | refine Below.drew ?_ | refine bal ?_ _))) (fun hHeld => ?_)
        refine tkH (i := 0) (v := ?_) rfl (by kernel_rfl) (by kernel_rfl) (by kernel_rfl) (fun _ _ _ h => h) (Or.inl ⟨by rfl, ?_⟩) (by assumption) ?_
        rotate_left 1
        · (intro w hSw; (try dsimp only at hSw); go_simp; try with_reducible rfl)
        (try simp only [Act.put, List.setIfInBounds_toArray, List.set_cons_zero, List.set_cons_succ])
        refine tkH (i := 1) (v := ?_) rfl (by kernel_rfl) (by kernel_rfl) (by kernel_rfl) (fun _ _ _ h => h) (Or.inl ⟨by rfl, ?_⟩) (by assumption) ?_
        rotate_left 1
        · (intro w hSw; (try dsimp only at hSw); go_simp; try with_reducible rfl)
        (try simp only [Act.put, List.setIfInBounds_toArray, List.set_cons_zero, List.set_cons_succ])
        refine tkH (i := 2) (v := ?_) rfl (by kernel_rfl) (by kernel_rfl) (by kernel_rfl) (fun _ _ _ h => h) (Or.inl ⟨by rfl, ?_⟩) (by assumption) ?_
        rotate_left 1
        · (intro w hSw; (try dsimp only at hSw); go_simp; try with_reducible rfl)
        (try simp only [Act.put, List.setIfInBounds_toArray, List.set_cons_zero, List.set_cons_succ])
        refine tkH (i := 3) (v := ?_) rfl (by kernel_rfl) (by kernel_rfl) (by kernel_rfl) (fun _ _ _ h => h) (Or.inl ⟨by rfl, ?_⟩) (by assumption) ?_
        rotate_left 1
        · (intro w hSw; (try dsimp only at hSw); go_simp; try with_reducible rfl)
        (try simp only [Act.put, List.setIfInBounds_toArray, List.set_cons_zero, List.set_cons_succ])
        refine tkH (i := 4) (v := ?_) rfl (by kernel_rfl) (by kernel_rfl) (by kernel_rfl) (fun _ _ _ h => h) (Or.inl ⟨by rfl, ?_⟩) (by assumption) ?_
        rotate_left 1
        · (intro w hSw; (try dsimp only at hSw); go_simp; try with_reducible rfl)
        (try simp only [Act.put, List.setIfInBounds_toArray, List.set_cons_zero, List.set_cons_succ])
        refine tkH (i := 5) (v := ?_) rfl (by kernel_rfl) (by kernel_rfl) (by kernel_rfl) (fun _ _ _ h => h) (Or.inl ⟨by rfl, ?_⟩) (by assumption) ?_
        rotate_left 1
        · (intro w hSw; (try dsimp only at hSw); go_simp; try with_reducible rfl)
        (try simp only [Act.put, List.setIfInBounds_toArray, List.set_cons_zero, List.set_cons_succ])
        refine tkH (i := 6) (v := ?_) rfl (by kernel_rfl) (by kernel_rfl) (by kernel_rfl) (fun _ _ _ h => h) (Or.inl ⟨by rfl, ?_⟩) (by assumption) ?_
        rotate_left 1
        · (intro w hSw; (try dsimp only at hSw); go_simp; try with_reducible rfl)
        (try simp only [Act.put, List.setIfInBounds_toArray, List.set_cons_zero, List.set_cons_succ])
        refine tkH (i := 7) (v := ?_) rfl (by kernel_rfl) (by kernel_rfl) (by kernel_rfl) (fun _ _ _ h => h) (Or.inl ⟨by rfl, ?_⟩) (by assumption) ?_
        rotate_left 1
        · (intro w hSw; (try dsimp only at hSw); go_simp; try with_reducible rfl)
        (try simp only [Act.put, List.setIfInBounds_toArray, List.set_cons_zero, List.set_cons_succ])
        refine tkH (i := 8) (v := ?_) rfl (by kernel_rfl) (by kernel_rfl) (by kernel_rfl) (fun _ _ _ h => h) (Or.inl ⟨by rfl, ?_⟩) (by assumption) ?_
        rotate_left 1
        · (intro w hSw; (try dsimp only at hSw); go_simp; try with_reducible rfl)
        (try simp only [Act.put, List.setIfInBounds_toArray, List.set_cons_zero, List.set_cons_succ])
        refine tkH (i := 9) (v := ?_) rfl (by kernel_rfl) (by kernel_rfl) (by kernel_rfl) (fun _ _ _ h => h) (Or.inl ⟨by rfl, ?_⟩) (by assumption) ?_
        rotate_left 1
        · (intro w hSw; (try dsimp only at hSw); go_simp; try with_reducible rfl)
        (try simp only [Act.put, List.setIfInBounds_toArray, List.set_cons_zero, List.set_cons_succ])
        refine tkH (i := 10) (v := ?_) rfl (by kernel_rfl) (by kernel_rfl) (by kernel_rfl) (fun _ _ _ h => h) (Or.inl ⟨by rfl, ?_⟩) (by assumption) ?_
        rotate_left 1
        · (intro w hSw; (try dsimp only at hSw); go_simp; try with_reducible rfl)
        (try simp only [Act.put, List.setIfInBounds_toArray, List.set_cons_zero, List.set_cons_succ])
        refine tkH (i := 11) (v := ?_) rfl (by kernel_rfl) (by kernel_rfl) (by kernel_rfl) (fun _ _ _ h => h) (Or.inl ⟨by rfl, ?_⟩) (by assumption) ?_
        rotate_left 1
        · (intro w hSw; (try dsimp only at hSw); go_simp; try with_reducible rfl)
        (try simp only [Act.put, List.setIfInBounds_toArray, List.set_cons_zero, List.set_cons_succ])
        refine tkH (i := 12) (v := ?_) rfl (by kernel_rfl) (by kernel_rfl) (by kernel_rfl) (fun _ _ _ h => h) (Or.inl ⟨by rfl, ?_⟩) (by assumption) ?_
        rotate_left 1
        · (intro w hSw; (try dsimp only at hSw); go_simp; try with_reducible rfl)
        (try simp only [Act.put, List.setIfInBounds_toArray, List.set_cons_zero, List.set_cons_succ])
        refine tkH (i := 13) (v := ?_) rfl (by kernel_rfl) (by kernel_rfl) (by kernel_rfl) (fun _ _ _ h => h) (Or.inl ⟨by rfl, ?_⟩) (by assumption) ?_
        rotate_left 1
        · (intro w hSw; (try dsimp only at hSw); go_simp; try with_reducible rfl)
        (try simp only [Act.put, List.setIfInBounds_toArray, List.set_cons_zero, List.set_cons_succ])
        refine tkH (i := 14) (v := ?_) rfl (by kernel_rfl) (by kernel_rfl) (by kernel_rfl) (fun _ _ _ h => h) (Or.inl ⟨by rfl, ?_⟩) (by assumption) ?_
        rotate_left 1
        · (intro w hSw; (try dsimp only at hSw); go_simp; try with_reducible rfl)
        (try simp only [Act.put, List.setIfInBounds_toArray, List.set_cons_zero, List.set_cons_succ])
        refine tkH (i := 15) (v := ?_) rfl (by kernel_rfl) (by kernel_rfl) (by kernel_rfl) (fun _ _ _ h => h) (Or.inl ⟨by rfl, ?_⟩) (by assumption) ?_
        rotate_left 1
        · (intro w hSw; (try dsimp only at hSw); go_simp; try with_reducible rfl)
        (try simp only [Act.put, List.setIfInBounds_toArray, List.set_cons_zero, List.set_cons_succ])
        refine tkH (i := 18) (v := ?_) rfl (by kernel_rfl) (by kernel_rfl) (by kernel_rfl) (fun _ _ _ h => h) (Or.inl ⟨by rfl, ?_⟩) (by assumption) ?_
        rotate_left 1
        · (intro w hSw; (try dsimp only at hSw); go_simp; try with_reducible rfl)
        (try simp only [Act.put, List.setIfInBounds_toArray, List.set_cons_zero, List.set_cons_succ])
        refine tkH (i := 19) (v := ?_) rfl (by kernel_rfl) (by kernel_rfl) (by kernel_rfl) (fun _ _ _ h => h) (Or.inl ⟨by rfl, ?_⟩) (by assumption) ?_
        rotate_left 1
        · (intro w hSw; (try dsimp only at hSw); go_simp; try with_reducible rfl)
        (try simp only [Act.put, List.setIfInBounds_toArray, List.set_cons_zero, List.set_cons_succ])
        refine tkH (i := 20) (v := ?_) rfl (by kernel_rfl) (by kernel_rfl) (by kernel_rfl) (fun _ _ _ h => h) (Or.inl ⟨by rfl, ?_⟩) (by assumption) ?_
        rotate_left 1
        · (intro w hSw; (try dsimp only at hSw); go_simp; try with_reducible rfl)
        (try simp only [Act.put, List.setIfInBounds_toArray, List.set_cons_zero, List.set_cons_succ])
        refine tkH (i := 21) (v := ?_) rfl (by kernel_rfl) (by kernel_rfl) (by kernel_rfl) (fun _ _ _ h => h) (Or.inl ⟨by rfl, ?_⟩) (by assumption) ?_
        rotate_left 1
        · (intro w hSw; (try dsimp only at hSw); go_simp; try with_reducible rfl)
        (try simp only [Act.put, List.setIfInBounds_toArray, List.set_cons_zero, List.set_cons_succ])
        refine wpAnyH_ready (rs := [16, 17]) (by kernel_rfl) (by simp) ?_
        refine csH rfl (fun K hK => ?_) (csH rfl (fun K hK => ?_) AllReadyH.nil)
        · go_simp
          refine hK.out _ _ (KP.out _ (by repeat' (first | exact Below.refl _ _ | exact BT3.out | exact BT2.out | refine Below.drew ?_ | refine bal ?_ _))) (fun hHeld => ?_)
          clear hK K
          (try simp only [Act.put, List.setIfInBounds_toArray, List.set_cons_zero, List.set_cons_succ])
          refine wpAnyH_ready (rs := [17]) (by kernel_rfl) (by simp) ?_
          refine csH rfl (fun K hK => ?_) AllReadyH.nil
          go_simp
          refine hK.out _ _ (KP.out _ (by repeat' (first | exact Below.refl _ _ | exact BT3.out | exact BT2.out | refine Below.drew ?_ | refine bal ?_ _))) (fun hHeld => ?_)
          clear hK K
          (try simp only [Act.put, List.setIfInBounds_toArray, List.set_cons_zero, List.set_cons_succ])
          refine wpAnyH_and (fun W => W.cell? ⟨wr.heap.size + 1, 0, none⟩ = some (.string ⟨#[105, 109]⟩)) hHeld (by go_simp) (fun hHeld2 => ?_)
          clear hHeld
          refine tkH (i := 22) (v := ?_) rfl (by kernel_rfl) (by kernel_rfl) (by kernel_rfl) (fun _ _ _ h => h) (Or.inl ⟨by rfl, ?_⟩) (by assumption) ?_
          rotate_left 1
          · (intro w hSw; (try dsimp only at hSw); go_simp; try with_reducible rfl)
          (try simp only [Act.put, List.setIfInBounds_toArray, List.set_cons_zero, List.set_cons_succ])
          refine tkH (i := 23) (v := ?_) rfl (by kernel_rfl) (by kernel_rfl) (by kernel_rfl) (fun _ _ _ h => h) (Or.inl ⟨by rfl, ?_⟩) (by assumption) ?_
          rotate_left 1
          · (intro w hSw; (try dsimp only at hSw); go_simp; try with_reducible rfl)
          (try simp only [Act.put, List.setIfInBounds_toArray, List.set_cons_zero, List.set_cons_succ])
          refine wpAnyH_ready (rs := [24]) (by kernel_rfl) (by simp) ?_
          refine csH rfl (fun K hK => ?_) AllReadyH.nil
          go_simp
          refine hK.out _ _ ⟨KP.out _ (by repeat' (first | exact Below.refl _ _ | exact BT3.out | exact BT2.out | refine Below.drew ?_ | refine bal ?_ _)), by go_simp⟩ (fun hHeld => ?_)
          clear hK K
          (try simp only [Act.put, List.setIfInBounds_toArray, List.set_cons_zero, List.set_cons_succ])
          refine wpAnyH_ready (rs := [25]) (by kernel_rfl) (by simp) ?_
          refine csH rfl (fun K hK => ?_) AllReadyH.nil
          have c90 := hHeld.2
          clear hHeld
          go_simp
          refine (texts_one ⟨#[105, 109]⟩ _ _ _ (by go_simp) (by go_simp)).mono ?_
          rintro e w8 ⟨rfl, b8⟩
          have d90 := (b8.cell (p := ⟨wr.heap.size + 1, 0, none⟩) (by simp <;> omega)).trans c90
          have BT2 := Lib.hid (btM (w := wr) (by repeat' (first | exact Below.refl _ _ | refine Below.drew ?_ | refine bal ?_ _)) b8)
          have l90 := cell_lt d90
          clear b8 c90
          refine hK.out _ _ ⟨KP.out _ BT2.out, d90⟩ (fun hHeld => ?_)
          clear hK K
          (try simp only [Act.put, List.setIfInBounds_toArray, List.set_cons_zero, List.set_cons_succ])
          refine tkH (i := 26) (v := ?_) rfl (by kernel_rfl) (by kernel_rfl) (by kernel_rfl) (fun _ _ _ h => h) (Or.inl ⟨by rfl, ?_⟩) (by assumption) ?_
          rotate_left 1
          · (intro w hSw; (try dsimp only at hSw); go_simp; try with_reducible rfl)
          (try simp only [Act.put, List.setIfInBounds_toArray, List.set_cons_zero, List.set_cons_succ])
          refine tkH (i := 27) (v := ?_) rfl (by kernel_rfl) (by kernel_rfl) (by kernel_rfl) (fun _ _ _ h => h) (Or.inl ⟨by rfl, ?_⟩) (by assumption) ?_
          rotate_left 1
          · (intro w hSw; (try dsimp only at hSw); go_simp; try with_reducible rfl)
          (try simp only [Act.put, List.setIfInBounds_toArray, List.set_cons_zero, List.set_cons_succ])
          refine wpAnyH_ready (rs := [28]) (by kernel_rfl) (by simp) ?_
          refine csH rfl (fun K hK => ?_) AllReadyH.nil
          clear hHeld
          go_simp
          refine (wakes19 _ (HG.out.up (BT.out.trans (BT2.out.mono BT.out.size)))).mono ?_
          rintro e w99 ⟨rfl, b99⟩
          have B99 := Lib.hid (btM (BT.out.trans (BT2.out.mono BT.out.size)) b99)
          have e90 := (b99.cell (p := ⟨wr.heap.size + 1, 0, none⟩) l90).trans d90
          refine hK.out _ _ ⟨KP.out _ (btM BT2.out b99), e90⟩ (fun hHeld => ?_)
          clear hK K
          (try simp only [Act.put, List.setIfInBounds_toArray, List.set_cons_zero, List.set_cons_succ])
          refine tkH (i := 29) (v := ?_) rfl (by kernel_rfl) (by kernel_rfl) (by kernel_rfl) (fun _ _ _ h => h) (Or.inl ⟨by rfl, ?_⟩) (by assumption) ?_
          rotate_left 1
          · (intro w hSw; (try dsimp only at hSw); go_simp; try with_reducible rfl)
          (try simp only [Act.put, List.setIfInBounds_toArray, List.set_cons_zero, List.set_cons_succ])
          refine tkH (i := 30) (v := ?_) rfl (by kernel_rfl) (by kernel_rfl) (by kernel_rfl) (fun _ _ _ h => h) (Or.inl ⟨by rfl, ?_⟩) (by assumption) ?_
          rotate_left 1
          · (intro w hSw; (try dsimp only at hSw); go_simp; try with_reducible rfl)
          (try simp only [Act.put, List.setIfInBounds_toArray, List.set_cons_zero, List.set_cons_succ])
          refine wpAnyH_done (by kernel_rfl) ?_ _
          clear hHeld d90 e90 l90 b99
          go_wp2_with fail
          go_ret
          exact ⟨rfl, B99.out⟩
        · go_simp
          refine hK.out _ _ (KP.out _ (by repeat' (first | exact Below.refl _ _ | exact BT3.out | exact BT2.out | refine Below.drew ?_ | refine bal ?_ _))) (fun hHeld => ?_)
          clear hK K
          (try simp only [Act.put, List.setIfInBounds_toArray, List.set_cons_zero, List.set_cons_succ])
          refine wpAnyH_and (fun W => W.cell? ⟨wr.heap.size, 0, none⟩ = some (.string ⟨#[105, 109]⟩)) hHeld (by go_simp) (fun hHeld2 => ?_)
          clear hHeld
          refine tkH (i := 22) (v := ?_) rfl (by kernel_rfl) (by kernel_rfl) (by kernel_rfl) (fun _ _ _ h => h) (Or.inl ⟨by rfl, ?_⟩) (by assumption) ?_
          rotate_left 1
          · (intro w hSw; (try dsimp only at hSw); go_simp; try with_reducible rfl)
          (try simp only [Act.put, List.setIfInBounds_toArray, List.set_cons_zero, List.set_cons_succ])
          refine tkH (i := 23) (v := ?_) rfl (by kernel_rfl) (by kernel_rfl) (by kernel_rfl) (fun _ _ _ h => h) (Or.inl ⟨by rfl, ?_⟩) (by assumption) ?_
          rotate_left 1
          · (intro w hSw; (try dsimp only at hSw); go_simp; try with_reducible rfl)
          (try simp only [Act.put, List.setIfInBounds_toArray, List.set_cons_zero, List.set_cons_succ])
          refine wpAnyH_ready (rs := [16, 24]) (by kernel_rfl) (by simp) ?_
          refine csH rfl (fun K hK => ?_) (csH rfl (fun K hK => ?_) AllReadyH.nil)
          · go_simp
            refine hK.out _ _ ⟨KP.out _ (by repeat' (first | exact Below.refl _ _ | exact BT3.out | exact BT2.out | refine Below.drew ?_ | refine bal ?_ _)), by go_simp⟩ (fun hHeld => ?_)
            clear hK K
            (try simp only [Act.put, List.setIfInBounds_toArray, List.set_cons_zero, List.set_cons_succ])
            refine wpAnyH_ready (rs := [24]) (by kernel_rfl) (by simp) ?_
            refine csH rfl (fun K hK => ?_) AllReadyH.nil
            go_simp
            refine hK.out _ _ ⟨KP.out _ (by repeat' (first | exact Below.refl _ _ | exact BT3.out | exact BT2.out | refine Below.drew ?_ | refine bal ?_ _)), by go_simp⟩ (fun hHeld => ?_)
            clear hK K
            (try simp only [Act.put, List.setIfInBounds_toArray, List.set_cons_zero, List.set_cons_succ])
            refine wpAnyH_ready (rs := [25]) (by kernel_rfl) (by simp) ?_
            refine csH rfl (fun K hK => ?_) AllReadyH.nil
            have c90 := hHeld.2
            clear hHeld
            go_simp
            refine (texts_one ⟨#[105, 109]⟩ _ _ _ (by go_simp) (by go_simp)).mono ?_
            rintro e w8 ⟨rfl, b8⟩
            have d90 := (b8.cell (p := ⟨wr.heap.size, 0, none⟩) (by simp <;> omega)).trans c90
            have BT2 := Lib.hid (btM (w := wr) (by repeat' (first | exact Below.refl _ _ | refine Below.drew ?_ | refine bal ?_ _)) b8)
            have l90 := cell_lt d90
            clear b8 c90
            refine hK.out _ _ ⟨KP.out _ BT2.out, d90⟩ (fun hHeld => ?_)
            clear hK K
            (try simp only [Act.put, List.setIfInBounds_toArray, List.set_cons_zero, List.set_cons_succ])
            refine tkH (i := 26) (v := ?_) rfl (by kernel_rfl) (by kernel_rfl) (by kernel_rfl) (fun _ _ _ h => h) (Or.inl ⟨by rfl, ?_⟩) (by assumption) ?_
            rotate_left 1
            · (intro w hSw; (try dsimp only at hSw); go_simp; try with_reducible rfl)
            (try simp only [Act.put, List.setIfInBounds_toArray, List.set_cons_zero, List.set_cons_succ])
            refine tkH (i := 27) (v := ?_) rfl (by kernel_rfl) (by kernel_rfl) (by kernel_rfl) (fun _ _ _ h => h) (Or.inl ⟨by rfl, ?_⟩) (by assumption) ?_
            rotate_left 1
            · (intro w hSw; (try dsimp only at hSw); go_simp; try with_reducible rfl)
            (try simp only [Act.put, List.setIfInBounds_toArray, List.set_cons_zero, List.set_cons_succ])
            refine wpAnyH_ready (rs := [28]) (by kernel_rfl) (by simp) ?_
            refine csH rfl (fun K hK => ?_) AllReadyH.nil
            clear hHeld
            go_simp
            refine (wakes19 _ (HG.out.up (BT.out.trans (BT2.out.mono BT.out.size)))).mono ?_
            rintro e w99 ⟨rfl, b99⟩
            have B99 := Lib.hid (btM (BT.out.trans (BT2.out.mono BT.out.size)) b99)
            have e90 := (b99.cell (p := ⟨wr.heap.size, 0, none⟩) l90).trans d90
            refine hK.out _ _ ⟨KP.out _ (btM BT2.out b99), e90⟩ (fun hHeld => ?_)
            clear hK K
            (try simp only [Act.put, List.setIfInBounds_toArray, List.set_cons_zero, List.set_cons_succ])
            refine tkH (i := 29) (v := ?_) rfl (by kernel_rfl) (by kernel_rfl) (by kernel_rfl) (fun _ _ _ h => h) (Or.inl ⟨by rfl, ?_⟩) (by assumption) ?_
            rotate_left 1
            · (intro w hSw; (try dsimp only at hSw); go_simp; try with_reducible rfl)
            (try simp only [Act.put, List.setIfInBounds_toArray, List.set_cons_zero, List.set_cons_succ])
            refine tkH (i := 30) (v := ?_) rfl (by kernel_rfl) (by kernel_rfl) (by kernel_rfl) (fun _ _ _ h => h) (Or.inl ⟨by rfl, ?_⟩) (by assumption) ?_
            rotate_left 1
            · (intro w hSw; (try dsimp only at hSw); go_simp; try with_reducible rfl)
            (try simp only [Act.put, List.setIfInBounds_toArray, List.set_cons_zero, List.set_cons_succ])
            refine wpAnyH_done (by kernel_rfl) ?_ _
            clear hHeld d90 e90 l90 b99
            go_wp2_with fail
            go_ret
            exact ⟨rfl, B99.out⟩
          · go_simp
            refine hK.out _ _ ⟨KP.out _ (by repeat' (first | exact Below.refl _ _ | exact BT3.out | exact BT2.out | refine Below.drew ?_ | refine bal ?_ _)), by go_simp⟩ (fun hHeld => ?_)
            clear hK K
            (try simp only [Act.put, List.setIfInBounds_toArray, List.set_cons_zero, List.set_cons_succ])
            refine wpAnyH_ready (rs := [16]) (by kernel_rfl) (by simp) ?_
            refine csH rfl (fun K hK => ?_) AllReadyH.nil
            go_simp
            refine hK.out _ _ ⟨KP.out _ (by repeat' (first | exact Below.refl _ _ | exact BT3.out | exact BT2.out | refine Below.drew ?_ | refine bal ?_ _)), by go_simp⟩ (fun hHeld => ?_)
            clear hK K
            (try simp only [Act.put, List.setIfInBounds_toArray, List.set_cons_zero, List.set_cons_succ])
            refine wpAnyH_ready (rs := [25]) (by kernel_rfl) (by simp) ?_
            refine csH rfl (fun K hK => ?_) AllReadyH.nil
            have c90 := hHeld.2
            clear hHeld
            go_simp
            refine (texts_one ⟨#[105, 109]⟩ _ _ _ (by go_simp) (by go_simp)).mono ?_
            rintro e w8 ⟨rfl, b8⟩
            have d90 := (b8.cell (p := ⟨wr.heap.size, 0, none⟩) (by simp <;> omega)).trans c90
            have BT2 := Lib.hid (btM (w := wr) (by repeat' (first | exact Below.refl _ _ | refine Below.drew ?_ | refine bal ?_ _)) b8)
            have l90 := cell_lt d90
            clear b8 c90
            refine hK.out _ _ ⟨KP.out _ BT2.out, d90⟩ (fun hHeld => ?_)
            clear hK K
            (try simp only [Act.put, List.setIfInBounds_toArray, List.set_cons_zero, List.set_cons_succ])
            refine tkH (i := 26) (v := ?_) rfl (by kernel_rfl) (by kernel_rfl) (by kernel_rfl) (fun _ _ _ h => h) (Or.inl ⟨by rfl, ?_⟩) (by assumption) ?_
            rotate_left 1
            · (intro w hSw; (try dsimp only at hSw); go_simp; try with_reducible rfl)
            (try simp only [Act.put, List.setIfInBounds_toArray, List.set_cons_zero, List.set_cons_succ])
            refine tkH (i := 27) (v := ?_) rfl (by kernel_rfl) (by kernel_rfl) (by kernel_rfl) (fun _ _ _ h => h) (Or.inl ⟨by rfl, ?_⟩) (by assumption) ?_
            rotate_left 1
            · (intro w hSw; (try dsimp only at hSw); go_simp; try with_reducible rfl)
            (try simp only [Act.put, List.setIfInBounds_toArray, List.set_cons_zero, List.set_cons_succ])
            refine wpAnyH_ready (rs := [28]) (by kernel_rfl) (by simp) ?_
            refine csH rfl (fun K hK => ?_) AllReadyH.nil
            clear hHeld
            go_simp
            refine (wakes19 _ (HG.out.up (BT.out.trans (BT2.out.mono BT.out.size)))).mono ?_
            rintro e w99 ⟨rfl, b99⟩
            have B99 := Lib.hid (btM (BT.out.trans (BT2.out.mono BT.out.size)) b99)
            have e90 := (b99.cell (p := ⟨wr.heap.size, 0, none⟩) l90).trans d90
            refine hK.out _ _ ⟨KP.out _ (btM BT2.out b99), e90⟩ (fun hHeld => ?_)
            clear hK K
            (try simp only [Act.put, List.setIfInBounds_toArray, List.set_cons_zero, List.set_cons_succ])
            refine tkH (i := 29) (v := ?_) rfl (by kernel_rfl) (by kernel_rfl) (by kernel_rfl) (fun _ _ _ h => h) (Or.inl ⟨by rfl, ?_⟩) (by assumption) ?_
            rotate_left 1
            · (intro w hSw; (try dsimp only at hSw); go_simp; try with_reducible rfl)
            (try simp only [Act.put, List.setIfInBounds_toArray, List.set_cons_zero, List.set_cons_succ])
            refine tkH (i := 30) (v := ?_) rfl (by kernel_rfl) (by kernel_rfl) (by kernel_rfl) (fun _ _ _ h => h) (Or.inl ⟨by rfl, ?_⟩) (by assumption) ?_
            rotate_left 1
            · (intro w hSw; (try dsimp only at hSw); go_simp; try with_reducible rfl)
            (try simp only [Act.put, List.setIfInBounds_toArray, List.set_cons_zero, List.set_cons_succ])
            refine wpAnyH_done (by kernel_rfl) ?_ _
            clear hHeld d90 e90 l90 b99
            go_wp2_with fail
            go_ret
            exact ⟨rfl, B99.out⟩
      · go_upto_region 16 with (fail)
        refine wp_region_held_drew (S := fun W => (loadCells ⟨b9, o9 + l.length * 4, none⟩ 4).run Tryz.prog W = .ok #[.int .i8 1, .string ⟨#[98, 109]⟩, .string ⟨#[]⟩, .int .i64 0] W ∧ W.cell? ⟨b9, o9 + 1, none⟩ = some (.string ⟨#[98, 109]⟩)) (by kernel_rfl) (KP.out _ (by repeat' (first | exact Below.refl _ _ | exact BT3.out | exact BT2.out | refine Below.drew ?_ | refine bal ?_ _))) (fun hHeld => ?_)
        refine tkH (i := 0) (v := ?_) rfl (by kernel_rfl) (by kernel_rfl) (by kernel_rfl) (fun _ _ _ h => h) (Or.inl ⟨by rfl, ?_⟩) (by assumption) ?_
        rotate_left 1
        · (intro w hSw; (try dsimp only at hSw); go_simp; try with_reducible rfl)
        (try simp only [Act.put, List.setIfInBounds_toArray, List.set_cons_zero, List.set_cons_succ])
        refine tkH (i := 1) (v := ?_) rfl (by kernel_rfl) (by kernel_rfl) (by kernel_rfl) (fun _ _ _ h => h) (Or.inl ⟨by rfl, ?_⟩) (by assumption) ?_
        rotate_left 1
        · (intro w hSw; (try dsimp only at hSw); go_simp; try with_reducible rfl)
        (try simp only [Act.put, List.setIfInBounds_toArray, List.set_cons_zero, List.set_cons_succ])
        refine tkH (i := 2) (v := ?_) rfl (by kernel_rfl) (by kernel_rfl) (by kernel_rfl) (fun _ _ _ h => h) (Or.inl ⟨by rfl, ?_⟩) (by assumption) ?_
        rotate_left 1
        · (intro w hSw; (try dsimp only at hSw); go_simp; try with_reducible rfl)
        (try simp only [Act.put, List.setIfInBounds_toArray, List.set_cons_zero, List.set_cons_succ])
        refine tkH (i := 3) (v := ?_) rfl (by kernel_rfl) (by kernel_rfl) (by kernel_rfl) (fun _ _ _ h => h) (Or.inl ⟨by rfl, ?_⟩) (by assumption) ?_
        rotate_left 1
        · (intro w hSw; (try dsimp only at hSw); go_simp; try with_reducible rfl)
        (try simp only [Act.put, List.setIfInBounds_toArray, List.set_cons_zero, List.set_cons_succ])
        refine tkH (i := 4) (v := ?_) rfl (by kernel_rfl) (by kernel_rfl) (by kernel_rfl) (fun _ _ _ h => h) (Or.inl ⟨by rfl, ?_⟩) (by assumption) ?_
        rotate_left 1
        · (intro w hSw; (try dsimp only at hSw); go_simp; try with_reducible rfl)
        (try simp only [Act.put, List.setIfInBounds_toArray, List.set_cons_zero, List.set_cons_succ])
        refine tkH (i := 5) (v := ?_) rfl (by kernel_rfl) (by kernel_rfl) (by kernel_rfl) (fun _ _ _ h => h) (Or.inl ⟨by rfl, ?_⟩) (by assumption) ?_
        rotate_left 1
        · (intro w hSw; (try dsimp only at hSw); go_simp; try with_reducible rfl)
        (try simp only [Act.put, List.setIfInBounds_toArray, List.set_cons_zero, List.set_cons_succ])
        refine tkH (i := 6) (v := ?_) rfl (by kernel_rfl) (by kernel_rfl) (by kernel_rfl) (fun _ _ _ h => h) (Or.inl ⟨by rfl, ?_⟩) (by assumption) ?_
        rotate_left 1
        · (intro w hSw; (try dsimp only at hSw); go_simp; try with_reducible rfl)
        (try simp only [Act.put, List.setIfInBounds_toArray, List.set_cons_zero, List.set_cons_succ])
        refine tkH (i := 7) (v := ?_) rfl (by kernel_rfl) (by kernel_rfl) (by kernel_rfl) (fun _ _ _ h => h) (Or.inl ⟨by rfl, ?_⟩) (by assumption) ?_
        rotate_left 1
        · (intro w hSw; (try dsimp only at hSw); go_simp; try with_reducible rfl)
        (try simp only [Act.put, List.setIfInBounds_toArray, List.set_cons_zero, List.set_cons_succ])
        refine tkH (i := 8) (v := ?_) rfl (by kernel_rfl) (by kernel_rfl) (by kernel_rfl) (fun _ _ _ h => h) (Or.inl ⟨by rfl, ?_⟩) (by assumption) ?_
        rotate_left 1
        · (intro w hSw; (try dsimp only at hSw); go_simp; try with_reducible rfl)
        (try simp only [Act.put, List.setIfInBounds_toArray, List.set_cons_zero, List.set_cons_succ])
        refine tkH (i := 9) (v := ?_) rfl (by kernel_rfl) (by kernel_rfl) (by kernel_rfl) (fun _ _ _ h => h) (Or.inl ⟨by rfl, ?_⟩) (by assumption) ?_
        rotate_left 1
        · (intro w hSw; (try dsimp only at hSw); go_simp; try with_reducible rfl)
        (try simp only [Act.put, List.setIfInBounds_toArray, List.set_cons_zero, List.set_cons_succ])
        refine tkH (i := 10) (v := ?_) rfl (by kernel_rfl) (by kernel_rfl) (by kernel_rfl) (fun _ _ _ h => h) (Or.inl ⟨by rfl, ?_⟩) (by assumption) ?_
        rotate_left 1
        · (intro w hSw; (try dsimp only at hSw); go_simp; try with_reducible rfl)
        (try simp only [Act.put, List.setIfInBounds_toArray, List.set_cons_zero, List.set_cons_succ])
        refine tkH (i := 11) (v := ?_) rfl (by kernel_rfl) (by kernel_rfl) (by kernel_rfl) (fun _ _ _ h => h) (Or.inl ⟨by rfl, ?_⟩) (by assumption) ?_
        rotate_left 1
        · (intro w hSw; (try dsimp only at hSw); go_simp; try with_reducible rfl)
        (try simp only [Act.put, List.setIfInBounds_toArray, List.set_cons_zero, List.set_cons_succ])
        refine tkH (i := 12) (v := ?_) rfl (by kernel_rfl) (by kernel_rfl) (by kernel_rfl) (fun _ _ _ h => h) (Or.inl ⟨by rfl, ?_⟩) (by assumption) ?_
        rotate_left 1
        · (intro w hSw; (try dsimp only at hSw); go_simp; try with_reducible rfl)
        (try simp only [Act.put, List.setIfInBounds_toArray, List.set_cons_zero, List.set_cons_succ])
        refine tkH (i := 13) (v := ?_) rfl (by kernel_rfl) (by kernel_rfl) (by kernel_rfl) (fun _ _ _ h => h) (Or.inl ⟨by rfl, ?_⟩) (by assumption) ?_
        rotate_left 1
        · (intro w hSw; (try dsimp only at hSw); go_simp; try with_reducible rfl)
        (try simp only [Act.put, List.setIfInBounds_toArray, List.set_cons_zero, List.set_cons_succ])
        refine tkH (i := 14) (v := ?_) rfl (by kernel_rfl) (by kernel_rfl) (by kernel_rfl) (fun _ _ _ h => h) (Or.inl ⟨by rfl, ?_⟩) (by assumption) ?_
        rotate_left 1
        · (intro w hSw; (try dsimp only at hSw); go_simp; try with_reducible rfl)
        (try simp only [Act.put, List.setIfInBounds_toArray, List.set_cons_zero, List.set_cons_succ])
        refine tkH (i := 15) (v := ?_) rfl (by kernel_rfl) (by kernel_rfl) (by kernel_rfl) (fun _ _ _ h => h) (Or.inl ⟨by rfl, ?_⟩) (by assumption) ?_
        rotate_left 1
        · (intro w hSw; (try dsimp only at hSw); go_simp; try with_reducible rfl)
        (try simp only [Act.put, List.setIfInBounds_toArray, List.set_cons_zero, List.set_cons_succ])
        refine tkH (i := 18) (v := ?_) rfl (by kernel_rfl) (by kernel_rfl) (by kernel_rfl) (fun _ _ _ h => h) (Or.inl ⟨by rfl, ?_⟩) (by assumption) ?_
        rotate_left 1
        · (intro w hSw; (try dsimp only at hSw); go_simp; try with_reducible rfl)
        (try simp only [Act.put, List.setIfInBounds_toArray, List.set_cons_zero, List.set_cons_succ])
        refine tkH (i := 19) (v := ?_) rfl (by kernel_rfl) (by kernel_rfl) (by kernel_rfl) (fun _ _ _ h => h) (Or.inl ⟨by rfl, ?_⟩) (by assumption) ?_
        rotate_left 1
        · (intro w hSw; (try dsimp only at hSw); go_simp; try with_reducible rfl)
        (try simp only [Act.put, List.setIfInBounds_toArray, List.set_cons_zero, List.set_cons_succ])
        refine tkH (i := 20) (v := ?_) rfl (by kernel_rfl) (by kernel_rfl) (by kernel_rfl) (fun _ _ _ h => h) (Or.inl ⟨by rfl, ?_⟩) (by assumption) ?_
        rotate_left 1
        · (intro w hSw; (try dsimp only at hSw); go_simp; try with_reducible rfl)
        (try simp only [Act.put, List.setIfInBounds_toArray, List.set_cons_zero, List.set_cons_succ])
        refine tkH (i := 21) (v := ?_) rfl (by kernel_rfl) (by kernel_rfl) (by kernel_rfl) (fun _ _ _ h => h) (Or.inl ⟨by rfl, ?_⟩) (by assumption) ?_
        rotate_left 1
        · (intro w hSw; (try dsimp only at hSw); go_simp; try with_reducible rfl)
        (try simp only [Act.put, List.setIfInBounds_toArray, List.set_cons_zero, List.set_cons_succ])
        refine wpAnyH_ready (rs := [16, 17]) (by kernel_rfl) (by simp) ?_
        refine csH rfl (fun K hK => ?_) (csH rfl (fun K hK => ?_) AllReadyH.nil)
        · go_simp
          refine hK.out _ _ (KP.out _ (by repeat' (first | exact Below.refl _ _ | exact BT3.out | exact BT2.out | refine Below.drew ?_ | refine bal ?_ _))) (fun hHeld => ?_)
          clear hK K
          (try simp only [Act.put, List.setIfInBounds_toArray, List.set_cons_zero, List.set_cons_succ])
          refine wpAnyH_ready (rs := [17]) (by kernel_rfl) (by simp) ?_
          refine csH rfl (fun K hK => ?_) AllReadyH.nil
          go_simp
          refine hK.out _ _ (KP.out _ (by repeat' (first | exact Below.refl _ _ | exact BT3.out | exact BT2.out | refine Below.drew ?_ | refine bal ?_ _))) (fun hHeld => ?_)
          clear hK K
          (try simp only [Act.put, List.setIfInBounds_toArray, List.set_cons_zero, List.set_cons_succ])
          refine wpAnyH_and (fun W => W.cell? ⟨wr.heap.size + 1, 1, none⟩ = some (.string ⟨#[98, 109]⟩)) hHeld (by go_simp) (fun hHeld2 => ?_)
          clear hHeld
          refine tkH (i := 22) (v := ?_) rfl (by kernel_rfl) (by kernel_rfl) (by kernel_rfl) (fun _ _ _ h => h) (Or.inl ⟨by rfl, ?_⟩) (by assumption) ?_
          rotate_left 1
          · (intro w hSw; (try dsimp only at hSw); go_simp; try with_reducible rfl)
          (try simp only [Act.put, List.setIfInBounds_toArray, List.set_cons_zero, List.set_cons_succ])
          refine tkH (i := 23) (v := ?_) rfl (by kernel_rfl) (by kernel_rfl) (by kernel_rfl) (fun _ _ _ h => h) (Or.inl ⟨by rfl, ?_⟩) (by assumption) ?_
          rotate_left 1
          · (intro w hSw; (try dsimp only at hSw); go_simp; try with_reducible rfl)
          (try simp only [Act.put, List.setIfInBounds_toArray, List.set_cons_zero, List.set_cons_succ])
          refine wpAnyH_ready (rs := [24]) (by kernel_rfl) (by simp) ?_
          refine csH rfl (fun K hK => ?_) AllReadyH.nil
          go_simp
          refine hK.out _ _ ⟨KP.out _ (by repeat' (first | exact Below.refl _ _ | exact BT3.out | exact BT2.out | refine Below.drew ?_ | refine bal ?_ _)), by go_simp⟩ (fun hHeld => ?_)
          clear hK K
          (try simp only [Act.put, List.setIfInBounds_toArray, List.set_cons_zero, List.set_cons_succ])
          refine wpAnyH_ready (rs := [25]) (by kernel_rfl) (by simp) ?_
          refine csH rfl (fun K hK => ?_) AllReadyH.nil
          have c90 := hHeld.2
          clear hHeld
          go_simp
          refine (texts_one ⟨#[98, 109]⟩ _ _ _ (by go_simp) (by go_simp)).mono ?_
          rintro e w8 ⟨rfl, b8⟩
          have d90 := (b8.cell (p := ⟨wr.heap.size + 1, 1, none⟩) (by simp <;> omega)).trans c90
          have BT2 := Lib.hid (btM (w := wr) (by repeat' (first | exact Below.refl _ _ | refine Below.drew ?_ | refine bal ?_ _)) b8)
          have l90 := cell_lt d90
          clear b8 c90
          refine hK.out _ _ ⟨KP.out _ BT2.out, d90⟩ (fun hHeld => ?_)
          clear hK K
          (try simp only [Act.put, List.setIfInBounds_toArray, List.set_cons_zero, List.set_cons_succ])
          refine tkH (i := 26) (v := ?_) rfl (by kernel_rfl) (by kernel_rfl) (by kernel_rfl) (fun _ _ _ h => h) (Or.inl ⟨by rfl, ?_⟩) (by assumption) ?_
          rotate_left 1
          · (intro w hSw; (try dsimp only at hSw); go_simp; try with_reducible rfl)
          (try simp only [Act.put, List.setIfInBounds_toArray, List.set_cons_zero, List.set_cons_succ])
          refine tkH (i := 27) (v := ?_) rfl (by kernel_rfl) (by kernel_rfl) (by kernel_rfl) (fun _ _ _ h => h) (Or.inl ⟨by rfl, ?_⟩) (by assumption) ?_
          rotate_left 1
          · (intro w hSw; (try dsimp only at hSw); go_simp; try with_reducible rfl)
          (try simp only [Act.put, List.setIfInBounds_toArray, List.set_cons_zero, List.set_cons_succ])
          refine wpAnyH_ready (rs := [28]) (by kernel_rfl) (by simp) ?_
          refine csH rfl (fun K hK => ?_) AllReadyH.nil
          clear hHeld
          go_simp
          refine (wakes19 _ (HG.out.up (BT.out.trans (BT2.out.mono BT.out.size)))).mono ?_
          rintro e w99 ⟨rfl, b99⟩
          have B99 := Lib.hid (btM (BT.out.trans (BT2.out.mono BT.out.size)) b99)
          have e90 := (b99.cell (p := ⟨wr.heap.size + 1, 1, none⟩) l90).trans d90
          refine hK.out _ _ ⟨KP.out _ (btM BT2.out b99), e90⟩ (fun hHeld => ?_)
          clear hK K
          (try simp only [Act.put, List.setIfInBounds_toArray, List.set_cons_zero, List.set_cons_succ])
          refine tkH (i := 29) (v := ?_) rfl (by kernel_rfl) (by kernel_rfl) (by kernel_rfl) (fun _ _ _ h => h) (Or.inl ⟨by rfl, ?_⟩) (by assumption) ?_
          rotate_left 1
          · (intro w hSw; (try dsimp only at hSw); go_simp; try with_reducible rfl)
          (try simp only [Act.put, List.setIfInBounds_toArray, List.set_cons_zero, List.set_cons_succ])
          refine tkH (i := 30) (v := ?_) rfl (by kernel_rfl) (by kernel_rfl) (by kernel_rfl) (fun _ _ _ h => h) (Or.inl ⟨by rfl, ?_⟩) (by assumption) ?_
          rotate_left 1
          · (intro w hSw; (try dsimp only at hSw); go_simp; try with_reducible rfl)
          (try simp only [Act.put, List.setIfInBounds_toArray, List.set_cons_zero, List.set_cons_succ])
          refine wpAnyH_done (by kernel_rfl) ?_ _
          clear hHeld d90 e90 l90 b99
          go_wp2_with fail
          go_ret
          exact ⟨rfl, B99.out⟩
        · go_simp
          refine hK.out _ _ (KP.out _ (by repeat' (first | exact Below.refl _ _ | exact BT3.out | exact BT2.out | refine Below.drew ?_ | refine bal ?_ _))) (fun hHeld => ?_)
          clear hK K
          (try simp only [Act.put, List.setIfInBounds_toArray, List.set_cons_zero, List.set_cons_succ])
          refine wpAnyH_and (fun W => W.cell? ⟨wr.heap.size, 1, none⟩ = some (.string ⟨#[98, 109]⟩)) hHeld (by go_simp) (fun hHeld2 => ?_)
          clear hHeld
          refine tkH (i := 22) (v := ?_) rfl (by kernel_rfl) (by kernel_rfl) (by kernel_rfl) (fun _ _ _ h => h) (Or.inl ⟨by rfl, ?_⟩) (by assumption) ?_
          rotate_left 1
          · (intro w hSw; (try dsimp only at hSw); go_simp; try with_reducible rfl)
          (try simp only [Act.put, List.setIfInBounds_toArray, List.set_cons_zero, List.set_cons_succ])
          refine tkH (i := 23) (v := ?_) rfl (by kernel_rfl) (by kernel_rfl) (by kernel_rfl) (fun _ _ _ h => h) (Or.inl ⟨by rfl, ?_⟩) (by assumption) ?_
          rotate_left 1
          · (intro w hSw; (try dsimp only at hSw); go_simp; try with_reducible rfl)
          (try simp only [Act.put, List.setIfInBounds_toArray, List.set_cons_zero, List.set_cons_succ])
          refine wpAnyH_ready (rs := [16, 24]) (by kernel_rfl) (by simp) ?_
          refine csH rfl (fun K hK => ?_) (csH rfl (fun K hK => ?_) AllReadyH.nil)
          · go_simp
            refine hK.out _ _ ⟨KP.out _ (by repeat' (first | exact Below.refl _ _ | exact BT3.out | exact BT2.out | refine Below.drew ?_ | refine bal ?_ _)), by go_simp⟩ (fun hHeld => ?_)
            clear hK K
            (try simp only [Act.put, List.setIfInBounds_toArray, List.set_cons_zero, List.set_cons_succ])
            refine wpAnyH_ready (rs := [24]) (by kernel_rfl) (by simp) ?_
            refine csH rfl (fun K hK => ?_) AllReadyH.nil
            go_simp
            refine hK.out _ _ ⟨KP.out _ (by repeat' (first | exact Below.refl _ _ | exact BT3.out | exact BT2.out | refine Below.drew ?_ | refine bal ?_ _)), by go_simp⟩ (fun hHeld => ?_)
            clear hK K
            (try simp only [Act.put, List.setIfInBounds_toArray, List.set_cons_zero, List.set_cons_succ])
            refine wpAnyH_ready (rs := [25]) (by kernel_rfl) (by simp) ?_
            refine csH rfl (fun K hK => ?_) AllReadyH.nil
            have c90 := hHeld.2
            clear hHeld
            go_simp
            refine (texts_one ⟨#[98, 109]⟩ _ _ _ (by go_simp) (by go_simp)).mono ?_
            rintro e w8 ⟨rfl, b8⟩
            have d90 := (b8.cell (p := ⟨wr.heap.size, 1, none⟩) (by simp <;> omega)).trans c90
            have BT2 := Lib.hid (btM (w := wr) (by repeat' (first | exact Below.refl _ _ | refine Below.drew ?_ | refine bal ?_ _)) b8)
            have l90 := cell_lt d90
            clear b8 c90
            refine hK.out _ _ ⟨KP.out _ BT2.out, d90⟩ (fun hHeld => ?_)
            clear hK K
            (try simp only [Act.put, List.setIfInBounds_toArray, List.set_cons_zero, List.set_cons_succ])
            refine tkH (i := 26) (v := ?_) rfl (by kernel_rfl) (by kernel_rfl) (by kernel_rfl) (fun _ _ _ h => h) (Or.inl ⟨by rfl, ?_⟩) (by assumption) ?_
            rotate_left 1
            · (intro w hSw; (try dsimp only at hSw); go_simp; try with_reducible rfl)
            (try simp only [Act.put, List.setIfInBounds_toArray, List.set_cons_zero, List.set_cons_succ])
            refine tkH (i := 27) (v := ?_) rfl (by kernel_rfl) (by kernel_rfl) (by kernel_rfl) (fun _ _ _ h => h) (Or.inl ⟨by rfl, ?_⟩) (by assumption) ?_
            rotate_left 1
            · (intro w hSw; (try dsimp only at hSw); go_simp; try with_reducible rfl)
            (try simp only [Act.put, List.setIfInBounds_toArray, List.set_cons_zero, List.set_cons_succ])
            refine wpAnyH_ready (rs := [28]) (by kernel_rfl) (by simp) ?_
            refine csH rfl (fun K hK => ?_) AllReadyH.nil
            clear hHeld
            go_simp
            refine (wakes19 _ (HG.out.up (BT.out.trans (BT2.out.mono BT.out.size)))).mono ?_
            rintro e w99 ⟨rfl, b99⟩
            have B99 := Lib.hid (btM (BT.out.trans (BT2.out.mono BT.out.size)) b99)
            have e90 := (b99.cell (p := ⟨wr.heap.size, 1, none⟩) l90).trans d90
            refine hK.out _ _ ⟨KP.out _ (btM BT2.out b99), e90⟩ (fun hHeld => ?_)
            clear hK K
            (try simp only [Act.put, List.setIfInBounds_toArray, List.set_cons_zero, List.set_cons_succ])
            refine tkH (i := 29) (v := ?_) rfl (by kernel_rfl) (by kernel_rfl) (by kernel_rfl) (fun _ _ _ h => h) (Or.inl ⟨by rfl, ?_⟩) (by assumption) ?_
            rotate_left 1
            · (intro w hSw; (try dsimp only at hSw); go_simp; try with_reducible rfl)
            (try simp only [Act.put, List.setIfInBounds_toArray, List.set_cons_zero, List.set_cons_succ])
            refine tkH (i := 30) (v := ?_) rfl (by kernel_rfl) (by kernel_rfl) (by kernel_rfl) (fun _ _ _ h => h) (Or.inl ⟨by rfl, ?_⟩) (by assumption) ?_
            rotate_left 1
            · (intro w hSw; (try dsimp only at hSw); go_simp; try with_reducible rfl)
            (try simp only [Act.put, List.setIfInBounds_toArray, List.set_cons_zero, List.set_cons_succ])
            refine wpAnyH_done (by kernel_rfl) ?_ _
            clear hHeld d90 e90 l90 b99
            go_wp2_with fail
            go_ret
            exact ⟨rfl, B99.out⟩
          · go_simp
            refine hK.out _ _ ⟨KP.out _ (by repeat' (first | exact Below.refl _ _ | exact BT3.out | exact BT2.out | refine Below.drew ?_ | refine bal ?_ _)), by go_simp⟩ (fun hHeld => ?_)
            clear hK K
            (try simp only [Act.put, List.setIfInBounds_toArray, List.set_cons_zero, List.set_cons_succ])
            refine wpAnyH_ready (rs := [16]) (by kernel_rfl) (by simp) ?_
            refine csH rfl (fun K hK => ?_) AllReadyH.nil
            go_simp
            refine hK.out _ _ ⟨KP.out _ (by repeat' (first | exact Below.refl _ _ | exact BT3.out | exact BT2.out | refine Below.drew ?_ | refine bal ?_ _)), by go_simp⟩ (fun hHeld => ?_)
            clear hK K
            (try simp only [Act.put, List.setIfInBounds_toArray, List.set_cons_zero, List.set_cons_succ])
            refine wpAnyH_ready (rs := [25]) (by kernel_rfl) (by simp) ?_
            refine csH rfl (fun K hK => ?_) AllReadyH.nil
            have c90 := hHeld.2
            clear hHeld
            go_simp
            refine (texts_one ⟨#[98, 109]⟩ _ _ _ (by go_simp) (by go_simp)).mono ?_
            rintro e w8 ⟨rfl, b8⟩
            have d90 := (b8.cell (p := ⟨wr.heap.size, 1, none⟩) (by simp <;> omega)).trans c90
            have BT2 := Lib.hid (btM (w := wr) (by repeat' (first | exact Below.refl _ _ | refine Below.drew ?_ | refine bal ?_ _)) b8)
            have l90 := cell_lt d90
            clear b8 c90
            refine hK.out _ _ ⟨KP.out _ BT2.out, d90⟩ (fun hHeld => ?_)
            clear hK K
            (try simp only [Act.put, List.setIfInBounds_toArray, List.set_cons_zero, List.set_cons_succ])
            refine tkH (i := 26) (v := ?_) rfl (by kernel_rfl) (by kernel_rfl) (by kernel_rfl) (fun _ _ _ h => h) (Or.inl ⟨by rfl, ?_⟩) (by assumption) ?_
            rotate_left 1
            · (intro w hSw; (try dsimp only at hSw); go_simp; try with_reducible rfl)
            (try simp only [Act.put, List.setIfInBounds_toArray, List.set_cons_zero, List.set_cons_succ])
            refine tkH (i := 27) (v := ?_) rfl (by kernel_rfl) (by kernel_rfl) (by kernel_rfl) (fun _ _ _ h => h) (Or.inl ⟨by rfl, ?_⟩) (by assumption) ?_
            rotate_left 1
            · (intro w hSw; (try dsimp only at hSw); go_simp; try with_reducible rfl)
            (try simp only [Act.put, List.setIfInBounds_toArray, List.set_cons_zero, List.set_cons_succ])
            refine wpAnyH_ready (rs := [28]) (by kernel_rfl) (by simp) ?_
            refine csH rfl (fun K hK => ?_) AllReadyH.nil
            clear hHeld
            go_simp
            refine (wakes19 _ (HG.out.up (BT.out.trans (BT2.out.mono BT.out.size)))).mono ?_
            rintro e w99 ⟨rfl, b99⟩
            have B99 := Lib.hid (btM (BT.out.trans (BT2.out.mono BT.out.size)) b99)
            have e90 := (b99.cell (p := ⟨wr.heap.size, 1, none⟩) l90).trans d90
            refine hK.out _ _ ⟨KP.out _ (btM BT2.out b99), e90⟩ (fun hHeld => ?_)
            clear hK K
            (try simp only [Act.put, List.setIfInBounds_toArray, List.set_cons_zero, List.set_cons_succ])
            refine tkH (i := 29) (v := ?_) rfl (by kernel_rfl) (by kernel_rfl) (by kernel_rfl) (fun _ _ _ h => h) (Or.inl ⟨by rfl, ?_⟩) (by assumption) ?_
            rotate_left 1
            · (intro w hSw; (try dsimp only at hSw); go_simp; try with_reducible rfl)
            (try simp only [Act.put, List.setIfInBounds_toArray, List.set_cons_zero, List.set_cons_succ])
            refine tkH (i := 30) (v := ?_) rfl (by kernel_rfl) (by kernel_rfl) (by kernel_rfl) (fun _ _ _ h => h) (Or.inl ⟨by rfl, ?_⟩) (by assumption) ?_
            rotate_left 1
            · (intro w hSw; (try dsimp only at hSw); go_simp; try with_reducible rfl)
            (try simp only [Act.put, List.setIfInBounds_toArray, List.set_cons_zero, List.set_cons_succ])
            refine wpAnyH_done (by kernel_rfl) ?_ _
            clear hHeld d90 e90 l90 b99
            go_wp2_with fail
            go_ret
            exact ⟨rfl, B99.out⟩
end
end Go.Proofs.YtbpkckahonmpkaaGreatDoor
