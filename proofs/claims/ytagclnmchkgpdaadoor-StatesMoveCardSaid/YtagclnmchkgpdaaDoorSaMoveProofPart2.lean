/-
  Layer 18, plain: what a move that is done leads to.
  Layer 18: states.Add, states.Set.
  Layer 18: states.Complete.
  Layer 18: states.Prepare.
  Layer 18: a move, made by the program.
-/
import Derived.Test.YtagclnmchkgpdaaDoorSaMoveProofPart1
import Derived.Deep.Cut
import Derived.Deep.CutRange
import Derived.Deep.DeepCutAuto
import Derived.Test.YtagclnmchkgpdaaDoorGrp11
import Derived.Test.YtagclnmchkgpdaaDoorGrp09
set_option linter.unusedVariables false
set_option linter.unusedSimpArgs false
namespace Go.Proofs.YtagclnmchkgpdaaDoor
open Go.RowKit

theorem adj_long {α : Type} {R : α → α → Prop} (f : α → Int) (hR : ∀ a b, R a b → f a < f b) {l : List α} (h : Adj R l l.length) {a : α} (ha : l[0]? = some a) : ∀ (j : Nat) (b : α), l[j]? = some b → f a + j ≤ f b := by
  intro j
  induction j with
  | zero => intro b hb; rw [ha] at hb; injection hb with hb; subst hb; simp
  | succ j ih =>
    intro b hb
    have hlt := (List.getElem?_eq_some_iff.1 hb).1
    obtain ⟨c, hc⟩ : ∃ c, l[j]? = some c := ⟨_, List.getElem?_eq_getElem (by omega)⟩
    have h1 := ih c hc
    have h2 := hR _ _ (h j c b (by omega) hc hb)
    omega
theorem adj_short {α : Type} {R : α → α → Prop} (f : α → Int) (N : Nat) (hR : ∀ a b, R a b → f a < f b) {l : List α} (h : Adj R l l.length) (h0 : ∀ a, l[0]? = some a → 0 ≤ f a) (h1 : ∀ a, l[l.length - 1]? = some a → f a < N) : l.length ≤ N := by
  rcases Nat.eq_zero_or_pos l.length with hz | hz
  · omega
  obtain ⟨a, ha⟩ : ∃ c, l[0]? = some c := ⟨_, List.getElem?_eq_getElem hz⟩
  obtain ⟨b, hb⟩ : ∃ c, l[l.length - 1]? = some c := ⟨_, List.getElem?_eq_getElem (by omega)⟩
  have := adj_long f hR h ha _ b hb
  have := h0 a ha
  have := h1 b hb
  omega
theorem adjB_iff {α : Type} {R : α → α → Prop} {l : List α} : adjB R l = true ↔ Adj R l l.length := by unfold adjB; simp
theorem parts_short {l : List Int} (h : partsB l = true) : l.length ≤ 3 := by
  unfold partsB at h
  rw [Bool.and_eq_true, adjB_iff] at h
  obtain ⟨h1, h2⟩ := h
  rcases Nat.eq_zero_or_pos l.length with hz | hz
  · omega
  simp only [Bool.or_eq_true, decide_eq_true_eq, Bool.and_eq_true] at h2
  rcases h2 with h2 | ⟨h2, h3⟩
  · omega
  unfold partB at h2 h3
  simp only [Bool.and_eq_true, decide_eq_true_eq] at h2 h3
  refine adj_short id 3 (fun a b h => h) h1 (fun a ha => ?_) (fun a ha => ?_)
  · rw [List.getD_eq_getElem?_getD, ha] at h2; exact h2.1
  · rw [List.getD_eq_getElem?_getD, ha] at h3; exact h3.2
theorem pends_short {l : List Pd} (h : adjB aheadP l = true) (ha : l.all pendB = true) : l.length ≤ 6 := by
  rw [adjB_iff] at h
  have hp : ∀ (j : Nat) (p : Pd), l[j]? = some p → 0 ≤ p.1 ∧ p.1 < 2 ∧ 0 ≤ p.2.1 ∧ p.2.1 < 3 := fun j p hj => by
    have := List.all_eq_true.1 ha p (List.mem_of_getElem? hj)
    unfold pendB partB at this
    simp only [Bool.and_eq_true, decide_eq_true_eq] at this
    omega
  -- an order in the range: group * 3 + partition, where it is one
  let f : Pd → Int := fun p => if 0 ≤ p.2.1 ∧ p.2.1 < 3 then p.1 * 3 + p.2.1 else 0
  have hadj : Adj (fun a b => f a < f b) l l.length := fun j a b hj h1 h2 => by
    have := h j a b hj h1 h2
    have ra := hp j a h1
    have rb := hp (j + 1) b h2
    unfold aheadP aheadB at this
    simp only [Bool.or_eq_true, Bool.and_eq_true, decide_eq_true_eq] at this
    show f a < f b
    simp only [f]
    rw [if_pos ⟨ra.2.2.1, ra.2.2.2⟩, if_pos ⟨rb.2.2.1, rb.2.2.2⟩]
    omega
  refine adj_short f 6 (fun a b h => h) hadj (fun a h1 => ?_) (fun a h1 => ?_)
  · have := hp _ a h1; simp only [f]; rw [if_pos ⟨this.2.2.1, this.2.2.2⟩]; omega
  · have := hp _ a h1; simp only [f]; rw [if_pos ⟨this.2.2.1, this.2.2.2⟩]; omega
theorem may_small {c : Co} (h : mayB c = true) : c.ps.length ≤ 3 ∧ c.qs.length ≤ 6 := by
  by_cases h0 : c.st = 0
  · rw [may_none h h0]; exact ⟨by decide, by decide⟩
  have h1 := may_range h h0
  unfold rangeB at h1
  simp only [Bool.and_eq_true, decide_eq_true_eq] at h1
  obtain ⟨ha, _, _, _, _, _, _, _, _, hps, hqs⟩ := h1
  exact ⟨parts_short hps, pends_short hqs ha⟩
theorem chk_may {c : Co} {mv : Int} {fit : Bool} (h : chkE c mv fit = 0) : mayB c = true ∧ fit = true := by
  unfold chkE at h
  split at h
  · cases h
  · rename_i hn
    cases hm : mayB c <;> cases fit <;> simp_all
theorem infoCo : (Tryd.prog.info? 26).map (·.size) = some 8 := by kernel_rfl
theorem store_slI {W : World} {a : Addr} {u : Value} (A : Option Addr) (n c : Nat) (h : W.cell? a = some u) (hf : W.frozen? a = false) : (storeVar 23 a (.slice A n c)).run Tryd.prog W = .ok () (W.setCell a (.slice A n c)) := by
  simp [go_sem, h, hf]
theorem store_slP {W : World} {a : Addr} {u : Value} (A : Option Addr) (n c : Nat) (h : W.cell? a = some u) (hf : W.frozen? a = false) : (storeVar 24 a (.slice A n c)).run Tryd.prog W = .ok () (W.setCell a (.slice A n c)) := by
  simp [go_sem, h, hf]

noncomputable def addE (c : Co) (q : Int) : Int := chkE c 1 (partB q)
noncomputable def addC (c : Co) (q : Int) : Co := if addE c q = 0 then { c with st := 2, ps := keepF (fun y => cmpI y q) c.ps q } else Co0
section
attribute [-go_sem] loadCells storeVar
set_option maxRecDepth 100000 in
theorem add_ret (x : Co) (A5 D5 : Option Addr) (c5 e5 : Nat) (n : Int) (tmps : Array Value) (b : Nat) (W : World) (h2 : tmps[4]?.getD undef = .pointer (some ⟨b, 0, none⟩)) (h3 : tmps[5]?.getD undef = .int .i64 n) (hK : Blk W b 26 #[.int .i8 x.st, .int .i64 x.pid, .int .i64 x.ep, .int .i64 x.tm, .int .i64 x.th, .slice A5 x.ps.length c5, .slice D5 x.qs.length e5, .int .i64 x.ag]) :
    (results Tryd.f24 tmps).run Tryd.prog W = .ok (.tuple #[(.agg #[.int .i8 x.st, .int .i64 x.pid, .int .i64 x.ep, .int .i64 x.tm, .int .i64 x.th, .slice A5 x.ps.length c5, .slice D5 x.qs.length e5, .int .i64 x.ag]), .int .i64 n]) W := by
  have LC := bk_load (P := Tryd.prog) 8 hK rfl
  clear hK
  simp [results, Tryd.results24, go_sem, h2, h3, LC]
set_option maxRecDepth 100000 in
set_option maxHeartbeats 2000000 in
theorem Add_any (c : Co) (A1 D1 : Option Addr) (c1 e1 : Nat) (q : Int) (w : World) (h1 : CoR w w.heap.size c A1 D1) (hg : HasET w) :
    Calls Tryd.prog 24 #[(.agg #[.int .i8 c.st, .int .i64 c.pid, .int .i64 c.ep, .int .i64 c.tm, .int .i64 c.th, .slice A1 c.ps.length c1, .slice D1 c.qs.length e1, .int .i64 c.ag]), .int .i64 q] w (MvPost (addC c q) (addE c q) w) := by
  obtain ⟨W0, hW0⟩ : ∃ W0, W0 = ((w.alloc (.cells #[.int .i8 c.st, .int .i64 c.pid, .int .i64 c.ep, .int .i64 c.tm, .int .i64 c.th, .slice A1 c.ps.length c1, .slice D1 c.qs.length e1, .int .i64 c.ag] 26)).alloc (.cells #[.int .i64 q] 3)).alloc (.cells #[.int .i8 0, .int .i64 0, .int .i64 0, .int .i64 0, .int .i64 0, .slice none 0 0, .slice none 0 0, .int .i64 0] 26) := ⟨_, rfl⟩
  have s0 : W0.heap.size = w.heap.size + 1 + 1 + 1 := by rw [hW0]; simp
  have B0 : Below w.heap.size w W0 := by rw [hW0]; exact bal (bal (bal (Below.refl _ _) _) _) _
  have K1 : Blk W0 w.heap.size 26 #[.int .i8 c.st, .int .i64 c.pid, .int .i64 c.ep, .int .i64 c.tm, .int .i64 c.th, .slice A1 c.ps.length c1, .slice D1 c.qs.length e1, .int .i64 c.ag] := by rw [hW0]; exact ((Blk.new w 26 #[.int .i8 c.st, .int .i64 c.pid, .int .i64 c.ep, .int .i64 c.tm, .int .i64 c.th, .slice A1 c.ps.length c1, .slice D1 c.qs.length e1, .int .i64 c.ag]).alloc _).alloc _
  have K2 : Blk W0 (w.heap.size + 1) 3 #[.int .i64 q] := by rw [hW0]; exact (bk_new _ 3 #[.int .i64 q] (by simp)).alloc _
  have K3 : Blk W0 (w.heap.size + 1 + 1) 26 #[.int .i8 0, .int .i64 0, .int .i64 0, .int .i64 0, .int .i64 0, .slice none 0 0, .slice none 0 0, .int .i64 0] := by rw [hW0]; exact bk_new _ 26 #[.int .i8 0, .int .i64 0, .int .i64 0, .int .i64 0, .int .i64 0, .slice none 0 0, .slice none 0 0, .int .i64 0] (by simp)
  have HW := Lib.hid hW0
  have HS := Lib.hid s0
  have HB := Lib.hid B0
  have HK1 := Lib.hid K1
  have HK2 := Lib.hid K2
  have HK3 := Lib.hid K3
  have H1 := Lib.hid h1
  have HG := Lib.hid hg
  have CH := Lib.hid (fun W (hb : Below W0.heap.size W0 W) => check_any c A1 D1 c1 e1 1 (partB q) w.heap.size W ((h1.below B0).below (hb.mono B0.size)) (Nat.le_trans B0.size hb.size))
  have L0 := bk_load (P := Tryd.prog) 8 K1.drew rfl
  have L0b := K2.drew.cell 0
  clear hW0 s0 B0 K1 K2 K3 h1 hg
  go_enter Tryd.func24, Tryd.ntmps24
  go_upto_region 1 with (fail)
  rw [← HW.out]
  apply wp_region_join [[0, 1, 2], [1, 0, 2], [1, 2, 0]] [3, 4] (fun W3 => Below W0.heap.size W0.drew W3)
  · kernel_rfl
  · kernel_rfl
  · intro o ho
    simp only [List.mem_cons, List.not_mem_nil, or_false] at ho
    rcases ho with rfl | rfl | rfl
    all_goals simp only [List.filterMap_cons, List.filterMap_nil, List.getElem?_cons_succ, List.getElem?_cons_zero]
    · go_wp2_with fail
      refine (isPart_any q _).mono ?_
      rintro e w3 ⟨rfl, k3⟩
      have hbk : Below W0.heap.size W0.drew w3 := by rw [← k3]; exact Below.refl _ _
      go_wp2_with fail
      exact ⟨rfl, hbk⟩
    · go_wp2_with fail
      refine (isPart_any q _).mono ?_
      rintro e w3 ⟨rfl, k3⟩
      have hbk : Below W0.heap.size W0.drew w3 := by rw [← k3]; exact Below.refl _ _
      go_wp2_with fail
      exact ⟨rfl, hbk⟩
    · go_wp2_with fail
      refine (isPart_any q _).mono ?_
      rintro e w3 ⟨rfl, k3⟩
      have hbk : Below W0.heap.size W0.drew w3 := by rw [← k3]; exact Below.refl _ _
      have L1 := bk_load (P := Tryd.prog) 8 (HK1.out.below (w := W0) (w' := w3) ⟨hbk.os, hbk.tape, hbk.output, hbk.size, hbk.block⟩ (by have := HS.out; omega)) rfl
      go_wp2_with fail
      exact ⟨rfl, hbk⟩
  rintro w3 k3
  have k3' : Below W0.heap.size W0 w3 := ⟨k3.os, k3.tape, k3.output, k3.size, k3.block⟩
  have B3 := Lib.hid k3'
  have C3 := Lib.hid (CH.out w3 k3')
  clear k3 k3'
  simp only [List.filterMap_cons, List.filterMap_nil, List.getElem?_cons_succ, List.getElem?_cons_zero]
  go_wp2_with fail
  refine C3.out.mono ?_
  rintro e w4 ⟨b4, hres⟩
  have B4 := Lib.hid (B3.out.trans (b4.mono B3.out.size))
  have K4 := Lib.hid (HK3.out.below B4.out (by have := HS.out; omega))
  clear b4 C3 CH
  by_cases hz : addE c q = 0
  · obtain rfl : e = .returned .nilIface := by
      rcases hres with ⟨_, h⟩ | ⟨h, _⟩
      · exact h
      · exact absurd hz h
    have hco : addC c q = { c with st := 2, ps := keepF (fun y => cmpI y q) c.ps q } := by unfold addC; rw [if_pos hz]
    have hmay := may_small (chk_may hz).1
    have HM := Lib.hid hmay
    have HCO := Lib.hid hco
    have HZ := Lib.hid hz
    have L4 := bk_load (P := Tryd.prog) 8 (HK1.out.below B4.out (by have := HS.out; omega)) rfl
    have ON := Lib.hid (ongoing_any c A1 D1 c1 e1 w4 ((H1.out.below HB.out).below (B4.out.mono HB.out.size) |>.more (Nat.le_trans HB.out.size B4.out.size)))
    clear hz hres hmay hco L0 L0b
    go_wp2_with fail
    refine ON.out.mono ?_
    rintro e w5 ⟨A5, D5, c5, e5, rfl, r5, q5, sp5, b5⟩
    obtain ⟨W6, st, k6, b6, s6⟩ := bk_fresh (P := Tryd.prog) w5 26 #[.int .i8 0, .int .i64 0, .int .i64 0, .int .i64 0, .int .i64 0, .slice none 0 0, .slice none 0 0, .int .i64 0] #[.int .i8 2, .int .i64 c.pid, .int .i64 c.ep, .int .i64 c.tm, .int .i64 c.th, .slice A5 c.ps.length c5, .slice D5 c.qs.length e5, .int .i64 c.ag] 8 infoCo rfl rfl (by simp [Value.oneCell'])
    have st' : (storeVar 26 ⟨w5.heap.size, 0, none⟩ (.agg #[.int .i8 2, .int .i64 c.pid, .int .i64 c.ep, .int .i64 c.tm, .int .i64 c.th, .slice A5 c.ps.length c5, .slice D5 c.qs.length e5, .int .i64 c.ag])).run Tryd.prog _ = .ok () W6 := st
    have R6 := Lib.hid (own_below r5 b6)
    have Q6 := Lib.hid (own_below q5 b6)
    have SP := Lib.hid sp5
    have NE6 := Lib.hid (show (Value.slice A5 c.ps.length c5).ownBlock ≠ some w5.heap.size from fun e => by have := (r5.lt _ e).2; omega)
    have B6 := Lib.hid (show Below W0.heap.size W0 W6 from (B4.out.trans (b5.mono B4.out.size)).trans (b6.mono (Nat.le_trans B4.out.size b5.size)))
    have HW4 := Lib.hid (show W0.heap.size ≤ w4.heap.size from B4.out.size)
    have HW5 := Lib.hid (show w4.heap.size ≤ w5.heap.size from b5.size)
    have K6 := Lib.hid k6
    have K36 := Lib.hid ((K4.out.below b5 K4.out.lt).below b6 (Nat.lt_of_lt_of_le K4.out.lt b5.size))
    have p6 := HK2.out.below B6.out (by have := HS.out; omega)
    have P6 := Lib.hid p6
    have f6 := k6.cell 5
    have x0 := p6.cell 0
    have KP := Lib.hid (keepI_any w4.heap.size A5 c5 (w.heap.size + 1) c.ps q W6 R6.out (by have := B6.out.size; have := HW4.out; have := HW5.out; omega) (by have := HM.out.1; omega) (p6.cell 0))
    clear r5 q5 sp5 b5 st k6 b6 s6 p6 L4
    go_wp2_with fail
    refine KP.out.mono ?_
    rintro e w7 ⟨A7, c7, rfl, o7, g7⟩

    have k7 := bk_grown_blk g7 K6.out NE6.out
    have k8 := bk_grown_blk g7 K36.out (fun e => by have := (R6.out.lt _ e).1; have := HS.out; have := HW4.out; omega)
    have b7 : Below W0.heap.size W0 w7 := B6.out.grown g7 B6.out.size (fun y hy => by have := (R6.out.lt y hy).1; have := HW4.out; omega)
    have oth := bk_grown_own g7 Q6.out (fun y hy e => SP.out y e hy)
    have n1 := own_blk_ne o7 k7 (by decide)
    have n2 := own_blk_ne oth k7 (by decide)
    have n3 := own_blk_ne o7 k8 (by decide)
    have n4 := own_blk_ne oth k8 (by decide)
    have st := store_slI A7 (keepF (fun y => cmpI y q) c.ps q).length c7 (k7.cell 5) (k7.frozen 5)
    have k9 : Blk (w7.setCell ⟨w5.heap.size, 5, none⟩ (.slice A7 (keepF (fun y => cmpI y q) c.ps q).length c7)) w5.heap.size 26 #[.int .i8 2, .int .i64 c.pid, .int .i64 c.ep, .int .i64 c.tm, .int .i64 c.th, .slice A7 (keepF (fun y => cmpI y q) c.ps q).length c7, .slice D5 c.qs.length e5, .int .i64 c.ag] := k7.set_ 5 (.slice A7 (keepF (fun y => cmpI y q) c.ps q).length c7)
    have k10 := k8.far (p := ⟨w5.heap.size, 5, none⟩) (by have := HS.out; have := HW4.out; have := HW5.out; show ¬ _ = w5.heap.size; omega) (.slice A7 (keepF (fun y => cmpI y q) c.ps q).length c7)
    have b9 := b7.setCell (p := ⟨w5.heap.size, 5, none⟩) (by show _ ≤ w5.heap.size; have := HW4.out; have := HW5.out; omega) (.slice A7 (keepF (fun y => cmpI y q) c.ps q).length c7)
    have hs9 : ∀ y, y ≠ w5.heap.size → (w7.setCell ⟨w5.heap.size, 5, none⟩ (.slice A7 (keepF (fun y => cmpI y q) c.ps q).length c7)).heap[y]? = w7.heap[y]? := fun y hy => Below.heap_setCell _ _ _ _ hy
    have o9 := bk_own o7 (fun y hy => hs9 y (fun e => n1 (by rw [hy, e])))
    have t9 := bk_own oth (fun y hy => hs9 y (fun e => n2 (by rw [hy, e])))
    have hlen := length_keepF (fun y => cmpI y q) c.ps q
    have LL := Lib.hid hlen
    have B9 := Lib.hid b9
    have O9 := Lib.hid o9
    have T9 := Lib.hid t9
    have K9 := Lib.hid k9
    have K10 := Lib.hid k10
    have N3 := Lib.hid n3
    have N4 := Lib.hid n4
    clear k7 k8 b7 oth n1 n2 n3 n4 k9 k10 b9 hs9 o9 t9 g7 o7 hlen x0 f6 st'
    go_upto_region 6 with (fail)
    clear st
    generalize w7.setCell ⟨w5.heap.size, 5, none⟩ (.slice A7 (keepF (fun y => cmpI y q) c.ps q).length c7) = W9 at *
    have L9 := bk_load (P := Tryd.prog) 8 K9.out rfl
    obtain ⟨W10, st10, kk, fb, fh, _⟩ := bk_store (P := Tryd.prog) (ty := 26) (cs := #[.int .i8 2, .int .i64 c.pid, .int .i64 c.ep, .int .i64 c.tm, .int .i64 c.th, .slice A7 (keepF (fun y => cmpI y q) c.ps q).length c7, .slice D5 c.qs.length e5, .int .i64 c.ag]) 8 K10.out infoCo rfl rfl (by simp [Value.oneCell'])
    have BB := Lib.hid (fb w.heap.size w (by omega) (HB.out.trans (B9.out.mono HB.out.size)))
    have OA := Lib.hid (bk_own O9.out (fun y hy => fh y (fun e => N3.out (by rw [hy, e]))))
    have OB := Lib.hid (bk_own T9.out (fun y hy => fh y (fun e => N4.out (by rw [hy, e]))))
    have KK := Lib.hid kk
    clear kk fb fh
    go_wp2_with fail
    refine bodyPost_ret (v := .tuple #[.agg #[.int .i8 2, .int .i64 c.pid, .int .i64 c.ep, .int .i64 c.tm, .int .i64 c.th, .slice A7 (keepF (fun y => cmpI y q) c.ps q).length c7, .slice D5 c.qs.length e5, .int .i64 c.ag], .int .i64 0]) (add_ret { c with st := 2, ps := keepF (fun y => cmpI y q) c.ps q } A7 D5 c7 e5 0 _ (w.heap.size + 1 + 1) _ rfl rfl KK.out) rfl ?_
    rw [HCO.out, HZ.out]
    have hm := HM.out
    have hl := LL.out
    have h4 := HW4.out
    have h0 := HS.out
    exact ⟨A7, D5, c7, e5, rfl, ⟨Reads.of_own OA.out, Reads.of_own OB.out, by show (keepF (fun y => cmpI y q) c.ps q).length ≤ 1000; omega, by show c.qs.length ≤ 1000; omega⟩, BB.out, (newAt_of_own OA.out).mono (by omega), (newAt_of_own OB.out).mono (by omega)⟩
  · obtain ⟨b, rfl, hc2, _⟩ : FaultAt (chkE c 1 (partB q)) _ e w4 := by
      rcases hres with ⟨h, _⟩ | ⟨_, h⟩
      · exact absurd h hz
      · exact h
    have hco : addC c q = Co0 := by unfold addC; rw [if_neg hz]
    have HCO := Lib.hid hco
    have CF := Lib.hid (code_fault b (addE c q) w4 (HG.out.up (HB.out.trans (B4.out.mono HB.out.size))) hc2)
    clear hz hres hco hc2 L0 L0b
    go_wp2_with fail
    refine CF.out.mono ?_
    rintro e w5 ⟨rfl, b5⟩
    obtain ⟨W10, st10, kk, fb, fh, _⟩ := bk_store (P := Tryd.prog) (ty := 26) (cs := #[.int .i8 0, .int .i64 0, .int .i64 0, .int .i64 0, .int .i64 0, .slice none 0 0, .slice none 0 0, .int .i64 0]) 8 (K4.out.below b5 K4.out.lt) infoCo rfl rfl (by simp [Value.oneCell'])
    have BB := Lib.hid (fb w.heap.size w (by omega) ((HB.out.trans (B4.out.mono HB.out.size)).trans (b5.mono (Nat.le_trans HB.out.size B4.out.size))))
    have KK := Lib.hid kk
    clear kk fb fh b5
    go_wp2_with fail
    refine bodyPost_ret (v := .tuple #[.agg #[.int .i8 0, .int .i64 0, .int .i64 0, .int .i64 0, .int .i64 0, .slice none 0 0, .slice none 0 0, .int .i64 0], .int .i64 (addE c q)]) (add_ret Co0 none none 0 0 _ _ (w.heap.size + 1 + 1) _ rfl rfl KK.out) rfl ?_
    rw [HCO.out]
    exact ⟨none, none, 0, 0, rfl, CoR.zero _ _ _ _, BB.out, NewAt.none_, NewAt.none_⟩
end

noncomputable def setE (c : Co) (p : Pd) : Int := chkE c 1 (pendB p)
noncomputable def setC (c : Co) (p : Pd) : Co := if setE c p = 0 then { c with st := 2, qs := keepF (fun y => plI y p) c.qs p } else Co0
section
attribute [-go_sem] loadCells storeVar
set_option maxRecDepth 100000 in
theorem set_ret (x : Co) (A5 D5 : Option Addr) (c5 e5 : Nat) (n : Int) (tmps : Array Value) (b : Nat) (W : World) (h2 : tmps[4]?.getD undef = .pointer (some ⟨b, 0, none⟩)) (h3 : tmps[5]?.getD undef = .int .i64 n) (hK : Blk W b 26 #[.int .i8 x.st, .int .i64 x.pid, .int .i64 x.ep, .int .i64 x.tm, .int .i64 x.th, .slice A5 x.ps.length c5, .slice D5 x.qs.length e5, .int .i64 x.ag]) :
    (results Tryd.f37 tmps).run Tryd.prog W = .ok (.tuple #[(.agg #[.int .i8 x.st, .int .i64 x.pid, .int .i64 x.ep, .int .i64 x.tm, .int .i64 x.th, .slice A5 x.ps.length c5, .slice D5 x.qs.length e5, .int .i64 x.ag]), .int .i64 n]) W := by
  have LC := bk_load (P := Tryd.prog) 8 hK rfl
  clear hK
  simp [results, Tryd.results37, go_sem, h2, h3, LC]
set_option maxRecDepth 100000 in
set_option maxHeartbeats 2000000 in
theorem Set_any (c : Co) (A1 D1 : Option Addr) (c1 e1 : Nat) (p : Pd) (w : World) (h1 : CoR w w.heap.size c A1 D1) (hg : HasET w) :
    Calls Tryd.prog 37 #[(.agg #[.int .i8 c.st, .int .i64 c.pid, .int .i64 c.ep, .int .i64 c.tm, .int .i64 c.th, .slice A1 c.ps.length c1, .slice D1 c.qs.length e1, .int .i64 c.ag]), .agg #[.int .i64 p.1, .int .i64 p.2.1, .int .i64 p.2.2]] w (MvPost (setC c p) (setE c p) w) := by
  obtain ⟨W0, hW0⟩ : ∃ W0, W0 = ((w.alloc (.cells #[.int .i8 c.st, .int .i64 c.pid, .int .i64 c.ep, .int .i64 c.tm, .int .i64 c.th, .slice A1 c.ps.length c1, .slice D1 c.qs.length e1, .int .i64 c.ag] 26)).alloc (.cells #[.int .i64 p.1, .int .i64 p.2.1, .int .i64 p.2.2] 38)).alloc (.cells #[.int .i8 0, .int .i64 0, .int .i64 0, .int .i64 0, .int .i64 0, .slice none 0 0, .slice none 0 0, .int .i64 0] 26) := ⟨_, rfl⟩
  have s0 : W0.heap.size = w.heap.size + 1 + 1 + 1 := by rw [hW0]; simp
  have B0 : Below w.heap.size w W0 := by rw [hW0]; exact bal (bal (bal (Below.refl _ _) _) _) _
  have K1 : Blk W0 w.heap.size 26 #[.int .i8 c.st, .int .i64 c.pid, .int .i64 c.ep, .int .i64 c.tm, .int .i64 c.th, .slice A1 c.ps.length c1, .slice D1 c.qs.length e1, .int .i64 c.ag] := by rw [hW0]; exact ((Blk.new w 26 #[.int .i8 c.st, .int .i64 c.pid, .int .i64 c.ep, .int .i64 c.tm, .int .i64 c.th, .slice A1 c.ps.length c1, .slice D1 c.qs.length e1, .int .i64 c.ag]).alloc _).alloc _
  have K2 : Blk W0 (w.heap.size + 1) 38 #[.int .i64 p.1, .int .i64 p.2.1, .int .i64 p.2.2] := by rw [hW0]; exact (bk_new _ 38 #[.int .i64 p.1, .int .i64 p.2.1, .int .i64 p.2.2] (by simp)).alloc _
  have K3 : Blk W0 (w.heap.size + 1 + 1) 26 #[.int .i8 0, .int .i64 0, .int .i64 0, .int .i64 0, .int .i64 0, .slice none 0 0, .slice none 0 0, .int .i64 0] := by rw [hW0]; exact bk_new _ 26 #[.int .i8 0, .int .i64 0, .int .i64 0, .int .i64 0, .int .i64 0, .slice none 0 0, .slice none 0 0, .int .i64 0] (by simp)
  have HW := Lib.hid hW0
  have HS := Lib.hid s0
  have HB := Lib.hid B0
  have HK1 := Lib.hid K1
  have HK2 := Lib.hid K2
  have HK3 := Lib.hid K3
  have H1 := Lib.hid h1
  have HG := Lib.hid hg
  have CH := Lib.hid (fun W (hb : Below W0.heap.size W0 W) => check_any c A1 D1 c1 e1 1 (pendB p) w.heap.size W ((h1.below B0).below (hb.mono B0.size)) (Nat.le_trans B0.size hb.size))
  have L0 := bk_load (P := Tryd.prog) 8 K1.drew rfl
  have L0b := bk_load (P := Tryd.prog) 3 K2.drew rfl
  clear hW0 s0 B0 K1 K2 K3 h1 hg
  go_enter Tryd.func37, Tryd.ntmps37
  go_upto_region 1 with (fail)
  rw [← HW.out]
  apply wp_region_join [[0, 1, 2], [1, 0, 2], [1, 2, 0]] [3, 4] (fun W3 => Below W0.heap.size W0.drew W3)
  · kernel_rfl
  · kernel_rfl
  · intro o ho
    simp only [List.mem_cons, List.not_mem_nil, or_false] at ho
    rcases ho with rfl | rfl | rfl
    all_goals simp only [List.filterMap_cons, List.filterMap_nil, List.getElem?_cons_succ, List.getElem?_cons_zero]
    · go_wp2_with fail
      refine (isPend_any p _).mono ?_
      rintro e w3 ⟨rfl, k3⟩
      have hbk : Below W0.heap.size W0.drew w3 := k3
      go_wp2_with fail
      exact ⟨rfl, hbk⟩
    · go_wp2_with fail
      refine (isPend_any p _).mono ?_
      rintro e w3 ⟨rfl, k3⟩
      have hbk : Below W0.heap.size W0.drew w3 := k3
      go_wp2_with fail
      exact ⟨rfl, hbk⟩
    · go_wp2_with fail
      refine (isPend_any p _).mono ?_
      rintro e w3 ⟨rfl, k3⟩
      have hbk : Below W0.heap.size W0.drew w3 := k3
      have L1 := bk_load (P := Tryd.prog) 8 (HK1.out.below (w := W0) (w' := w3) ⟨hbk.os, hbk.tape, hbk.output, hbk.size, hbk.block⟩ (by have := HS.out; omega)) rfl
      go_wp2_with fail
      exact ⟨rfl, hbk⟩
  rintro w3 k3
  have k3' : Below W0.heap.size W0 w3 := ⟨k3.os, k3.tape, k3.output, k3.size, k3.block⟩
  have B3 := Lib.hid k3'
  have C3 := Lib.hid (CH.out w3 k3')
  clear k3 k3'
  simp only [List.filterMap_cons, List.filterMap_nil, List.getElem?_cons_succ, List.getElem?_cons_zero]
  go_wp2_with fail
  refine C3.out.mono ?_
  rintro e w4 ⟨b4, hres⟩
  have B4 := Lib.hid (B3.out.trans (b4.mono B3.out.size))
  have K4 := Lib.hid (HK3.out.below B4.out (by have := HS.out; omega))
  clear b4 C3 CH
  by_cases hz : setE c p = 0
  · obtain rfl : e = .returned .nilIface := by
      rcases hres with ⟨_, h⟩ | ⟨h, _⟩
      · exact h
      · exact absurd hz h
    have hco : setC c p = { c with st := 2, qs := keepF (fun y => plI y p) c.qs p } := by unfold setC; rw [if_pos hz]
    have hmay := may_small (chk_may hz).1
    have HM := Lib.hid hmay
    have HCO := Lib.hid hco
    have HZ := Lib.hid hz
    have L4 := bk_load (P := Tryd.prog) 8 (HK1.out.below B4.out (by have := HS.out; omega)) rfl
    have ON := Lib.hid (ongoing_any c A1 D1 c1 e1 w4 ((H1.out.below HB.out).below (B4.out.mono HB.out.size) |>.more (Nat.le_trans HB.out.size B4.out.size)))
    clear hz hres hmay hco L0 L0b
    go_wp2_with fail
    refine ON.out.mono ?_
    rintro e w5 ⟨A5, D5, c5, e5, rfl, r5, q5, sp5, b5⟩
    obtain ⟨W6, st, k6, b6, s6⟩ := bk_fresh (P := Tryd.prog) w5 26 #[.int .i8 0, .int .i64 0, .int .i64 0, .int .i64 0, .int .i64 0, .slice none 0 0, .slice none 0 0, .int .i64 0] #[.int .i8 2, .int .i64 c.pid, .int .i64 c.ep, .int .i64 c.tm, .int .i64 c.th, .slice A5 c.ps.length c5, .slice D5 c.qs.length e5, .int .i64 c.ag] 8 infoCo rfl rfl (by simp [Value.oneCell'])
    have st' : (storeVar 26 ⟨w5.heap.size, 0, none⟩ (.agg #[.int .i8 2, .int .i64 c.pid, .int .i64 c.ep, .int .i64 c.tm, .int .i64 c.th, .slice A5 c.ps.length c5, .slice D5 c.qs.length e5, .int .i64 c.ag])).run Tryd.prog _ = .ok () W6 := st
    have R6 := Lib.hid (own_below r5 b6)
    have Q6 := Lib.hid (own_below q5 b6)
    have SP := Lib.hid sp5
    have NE6 := Lib.hid (show (Value.slice D5 c.qs.length e5).ownBlock ≠ some w5.heap.size from fun e => by have := (q5.lt _ e).2; omega)
    have B6 := Lib.hid (show Below W0.heap.size W0 W6 from (B4.out.trans (b5.mono B4.out.size)).trans (b6.mono (Nat.le_trans B4.out.size b5.size)))
    have HW4 := Lib.hid (show W0.heap.size ≤ w4.heap.size from B4.out.size)
    have HW5 := Lib.hid (show w4.heap.size ≤ w5.heap.size from b5.size)
    have K6 := Lib.hid k6
    have K36 := Lib.hid ((K4.out.below b5 K4.out.lt).below b6 (Nat.lt_of_lt_of_le K4.out.lt b5.size))
    have p6 := HK2.out.below B6.out (by have := HS.out; omega)
    have P6 := Lib.hid p6
    have f6 := k6.cell 6
    have LP := bk_load (P := Tryd.prog) 3 p6 rfl
    have x0 := p6.cell 0
    have x1 := p6.cell 1
    have x2 := p6.cell 2
    have KP := Lib.hid (keepP_any w4.heap.size D5 e5 (w.heap.size + 1) c.qs p W6 Q6.out (by have := B6.out.size; have := HW4.out; have := HW5.out; omega) (by have := HM.out.2; omega) (p6.cell 0) (p6.cell 1) (p6.cell 2))
    clear r5 q5 sp5 b5 st k6 b6 s6 p6 L4
    go_wp2_with fail
    refine KP.out.mono ?_
    rintro e w7 ⟨A7, c7, rfl, o7, g7⟩

    have k7 := bk_grown_blk g7 K6.out NE6.out
    have k8 := bk_grown_blk g7 K36.out (fun e => by have := (Q6.out.lt _ e).1; have := HS.out; have := HW4.out; omega)
    have b7 : Below W0.heap.size W0 w7 := B6.out.grown g7 B6.out.size (fun y hy => by have := (Q6.out.lt y hy).1; have := HW4.out; omega)
    have oth := bk_grown_own g7 R6.out (fun y hy e => SP.out y hy e)
    have n1 := own_blk_ne o7 k7 (by decide)
    have n2 := own_blk_ne oth k7 (by decide)
    have n3 := own_blk_ne o7 k8 (by decide)
    have n4 := own_blk_ne oth k8 (by decide)
    have st := store_slP A7 (keepF (fun y => plI y p) c.qs p).length c7 (k7.cell 6) (k7.frozen 6)
    have k9 : Blk (w7.setCell ⟨w5.heap.size, 6, none⟩ (.slice A7 (keepF (fun y => plI y p) c.qs p).length c7)) w5.heap.size 26 #[.int .i8 2, .int .i64 c.pid, .int .i64 c.ep, .int .i64 c.tm, .int .i64 c.th, .slice A5 c.ps.length c5, .slice A7 (keepF (fun y => plI y p) c.qs p).length c7, .int .i64 c.ag] := k7.set_ 6 (.slice A7 (keepF (fun y => plI y p) c.qs p).length c7)
    have k10 := k8.far (p := ⟨w5.heap.size, 6, none⟩) (by have := HS.out; have := HW4.out; have := HW5.out; show ¬ _ = w5.heap.size; omega) (.slice A7 (keepF (fun y => plI y p) c.qs p).length c7)
    have b9 := b7.setCell (p := ⟨w5.heap.size, 6, none⟩) (by show _ ≤ w5.heap.size; have := HW4.out; have := HW5.out; omega) (.slice A7 (keepF (fun y => plI y p) c.qs p).length c7)
    have hs9 : ∀ y, y ≠ w5.heap.size → (w7.setCell ⟨w5.heap.size, 6, none⟩ (.slice A7 (keepF (fun y => plI y p) c.qs p).length c7)).heap[y]? = w7.heap[y]? := fun y hy => Below.heap_setCell _ _ _ _ hy
    have o9 := bk_own o7 (fun y hy => hs9 y (fun e => n1 (by rw [hy, e])))
    have t9 := bk_own oth (fun y hy => hs9 y (fun e => n2 (by rw [hy, e])))
    have hlen := length_keepF (fun y => plI y p) c.qs p
    have LL := Lib.hid hlen
    have B9 := Lib.hid b9
    have O9 := Lib.hid o9
    have T9 := Lib.hid t9
    have K9 := Lib.hid k9
    have K10 := Lib.hid k10
    have N3 := Lib.hid n3
    have N4 := Lib.hid n4
    clear k7 k8 b7 oth n1 n2 n3 n4 k9 k10 b9 hs9 o9 t9 g7 o7 hlen x0 x1 x2 LP f6 st'
    go_upto_region 6 with (fail)
    clear st
    generalize w7.setCell ⟨w5.heap.size, 6, none⟩ (.slice A7 (keepF (fun y => plI y p) c.qs p).length c7) = W9 at *
    have L9 := bk_load (P := Tryd.prog) 8 K9.out rfl
    obtain ⟨W10, st10, kk, fb, fh, _⟩ := bk_store (P := Tryd.prog) (ty := 26) (cs := #[.int .i8 2, .int .i64 c.pid, .int .i64 c.ep, .int .i64 c.tm, .int .i64 c.th, .slice A5 c.ps.length c5, .slice A7 (keepF (fun y => plI y p) c.qs p).length c7, .int .i64 c.ag]) 8 K10.out infoCo rfl rfl (by simp [Value.oneCell'])
    have BB := Lib.hid (fb w.heap.size w (by omega) (HB.out.trans (B9.out.mono HB.out.size)))
    have OA := Lib.hid (bk_own O9.out (fun y hy => fh y (fun e => N3.out (by rw [hy, e]))))
    have OB := Lib.hid (bk_own T9.out (fun y hy => fh y (fun e => N4.out (by rw [hy, e]))))
    have KK := Lib.hid kk
    clear kk fb fh
    go_wp2_with fail
    refine bodyPost_ret (v := .tuple #[.agg #[.int .i8 2, .int .i64 c.pid, .int .i64 c.ep, .int .i64 c.tm, .int .i64 c.th, .slice A5 c.ps.length c5, .slice A7 (keepF (fun y => plI y p) c.qs p).length c7, .int .i64 c.ag], .int .i64 0]) (set_ret { c with st := 2, qs := keepF (fun y => plI y p) c.qs p } A5 A7 c5 c7 0 _ (w.heap.size + 1 + 1) _ rfl rfl KK.out) rfl ?_
    rw [HCO.out, HZ.out]
    have hm := HM.out
    have hl := LL.out
    have h4 := HW4.out
    have h0 := HS.out
    exact ⟨A5, A7, c5, c7, rfl, ⟨Reads.of_own OB.out, Reads.of_own OA.out, by show c.ps.length ≤ 1000; omega, by show (keepF (fun y => plI y p) c.qs p).length ≤ 1000; omega⟩, BB.out, (newAt_of_own OB.out).mono (by omega), (newAt_of_own OA.out).mono (by omega)⟩
  · obtain ⟨b, rfl, hc2, _⟩ : FaultAt (chkE c 1 (pendB p)) _ e w4 := by
      rcases hres with ⟨h, _⟩ | ⟨_, h⟩
      · exact absurd h hz
      · exact h
    have hco : setC c p = Co0 := by unfold setC; rw [if_neg hz]
    have HCO := Lib.hid hco
    have CF := Lib.hid (code_fault b (setE c p) w4 (HG.out.up (HB.out.trans (B4.out.mono HB.out.size))) hc2)
    clear hz hres hco hc2 L0 L0b
    go_wp2_with fail
    refine CF.out.mono ?_
    rintro e w5 ⟨rfl, b5⟩
    obtain ⟨W10, st10, kk, fb, fh, _⟩ := bk_store (P := Tryd.prog) (ty := 26) (cs := #[.int .i8 0, .int .i64 0, .int .i64 0, .int .i64 0, .int .i64 0, .slice none 0 0, .slice none 0 0, .int .i64 0]) 8 (K4.out.below b5 K4.out.lt) infoCo rfl rfl (by simp [Value.oneCell'])
    have BB := Lib.hid (fb w.heap.size w (by omega) ((HB.out.trans (B4.out.mono HB.out.size)).trans (b5.mono (Nat.le_trans HB.out.size B4.out.size))))
    have KK := Lib.hid kk
    clear kk fb fh b5
    go_wp2_with fail
    refine bodyPost_ret (v := .tuple #[.agg #[.int .i8 0, .int .i64 0, .int .i64 0, .int .i64 0, .int .i64 0, .slice none 0 0, .slice none 0 0, .int .i64 0], .int .i64 (setE c p)]) (set_ret Co0 none none 0 0 _ _ (w.heap.size + 1 + 1) _ rfl rfl KK.out) rfl ?_
    rw [HCO.out]
    exact ⟨none, none, 0, 0, rfl, CoR.zero _ _ _ _, BB.out, NewAt.none_, NewAt.none_⟩
end
end Go.Proofs.YtagclnmchkgpdaaDoor
namespace Go.Proofs.YtagclnmchkgpdaaDoor
open Go.RowKit

noncomputable def compC (c : Co) : Co :=
  if ¬ chkE c 3 true = 0 then Co0
  else if 0 < c.th then ⟨1, c.pid, c.ep + 1, c.th, 0, [], [], 0⟩
  else if c.st = 4 then ⟨6, c.pid, c.ep, c.tm, 0, [], [], 0⟩ else ⟨5, c.pid, c.ep, c.tm, 0, [], [], 0⟩

set_option maxRecDepth 100000 in
set_option maxHeartbeats 1000000 in
theorem Complete_a (c : Co) (A1 D1 : Option Addr) (c1 e1 : Nat) (w : World) (h1 : CoR w w.heap.size c A1 D1) (hg : HasET w) (k2 : ¬ chkE c 3 true = 0) :
    Calls Tryd.prog 39 #[(.agg #[.int .i8 c.st, .int .i64 c.pid, .int .i64 c.ep, .int .i64 c.tm, .int .i64 c.th, .slice A1 c.ps.length c1, .slice D1 c.qs.length e1, .int .i64 c.ag])] w (MvPost (compC c) (chkE c 3 true) w) := by
  obtain ⟨n, hn⟩ : ∃ n, chkE c 3 true = n := ⟨_, rfl⟩
  have hco : compC c = Co0 := by unfold compC; rw [if_pos k2]
  have HCO := Lib.hid hco
  have HCK := Lib.hid hn
  have HK2 := Lib.hid k2
  have h2 := (h1.al (.cells #[.int .i8 c.st, .int .i64 c.pid, .int .i64 c.ep, .int .i64 c.tm, .int .i64 c.th, .slice A1 c.ps.length c1, .slice D1 c.qs.length e1, .int .i64 c.ag] 26)).al (.cells #[.int .i8 0, .int .i64 0, .int .i64 0, .int .i64 0, .int .i64 0, .slice none 0 0, .slice none 0 0, .int .i64 0] 26)
  have hc := check_any c A1 D1 c1 e1 3 true _ _ h2 (Nat.le_refl _)
  have HC := Lib.hid hc
  have HB := Lib.hid (bal (bal (Below.refl w.heap.size w) (.cells #[.int .i8 c.st, .int .i64 c.pid, .int .i64 c.ep, .int .i64 c.tm, .int .i64 c.th, .slice A1 c.ps.length c1, .slice D1 c.qs.length e1, .int .i64 c.ag] 26)) (.cells #[.int .i8 0, .int .i64 0, .int .i64 0, .int .i64 0, .int .i64 0, .slice none 0 0, .slice none 0 0, .int .i64 0] 26))
  have K1 := Lib.hid ((Blk.new w 26 #[.int .i8 c.st, .int .i64 c.pid, .int .i64 c.ep, .int .i64 c.tm, .int .i64 c.th, .slice A1 c.ps.length c1, .slice D1 c.qs.length e1, .int .i64 c.ag]).alloc (.cells #[.int .i8 0, .int .i64 0, .int .i64 0, .int .i64 0, .int .i64 0, .slice none 0 0, .slice none 0 0, .int .i64 0] 26))
  have kk := Blk.new (w.alloc (.cells #[.int .i8 c.st, .int .i64 c.pid, .int .i64 c.ep, .int .i64 c.tm, .int .i64 c.th, .slice A1 c.ps.length c1, .slice D1 c.qs.length e1, .int .i64 c.ag] 26)) 26 #[.int .i8 0, .int .i64 0, .int .i64 0, .int .i64 0, .int .i64 0, .slice none 0 0, .slice none 0 0, .int .i64 0]
  rw [World.size_alloc] at kk
  have K2 := Lib.hid kk
  have HG := Lib.hid hg
  clear h2 hc kk h1 hg k2 hco hn
  go_enter Tryd.func39, Tryd.ntmps39
  go_wp2_with fail
  refine HC.out.mono ?_
  rintro e w2 ⟨b2, hres⟩
  have hz2 := b2.size
  simp only [World.size_alloc] at hz2
  have bf := btrans HB.out b2
  obtain ⟨b, rfl, hc2, hbge, hblt⟩ : FaultAt n _ e w2 := by
    rcases hres with ⟨hz, _⟩ | ⟨_, hf⟩
    · exact absurd hz HK2.out
    · rw [HCK.out] at hf; exact hf
  clear hres
  have hcode := code_fault b n w2 (HG.out.up bf) hc2
  have HCODE := Lib.hid hcode
  clear hcode hc2
  go_wp2_with fail
  refine HCODE.out.mono ?_
  rintro e w3 ⟨rfl, b3⟩
  have k6 := (K2.out.below b2 (by simp only [World.size_alloc]; omega)).below b3 (by omega)
  have y0 := k6.cell 0
  have z0 := k6.frozen 0
  have y1 := k6.cell 1
  have z1 := k6.frozen 1
  have y2 := k6.cell 2
  have z2 := k6.frozen 2
  have y3 := k6.cell 3
  have z3 := k6.frozen 3
  have y4 := k6.cell 4
  have z4 := k6.frozen 4
  have y5 := k6.cell 5
  have z5 := k6.frozen 5
  have y6 := k6.cell 6
  have z6 := k6.frozen 6
  have y7 := k6.cell 7
  have z7 := k6.frozen 7
  have bg := btrans bf b3
  have hz3 := b3.size
  go_wp2_with fail
  refine bodyPost_ret (v := .tuple #[.agg #[.int .i8 0, .int .i64 0, .int .i64 0, .int .i64 0, .int .i64 0, .slice none 0 0, .slice none 0 0, .int .i64 0], .int .i64 n]) (by simp [results, Tryd.results39, go_sem, y0, y1, y2, y3, y4, y5, y6, y7]) rfl ?_
  rw [HCK.out, HCO.out]
  exact ⟨none, none, 0, 0, rfl, CoR.zero _ _ _ _, (bset (bset (bset (bset (bset (bset (bset (bset bg (by omega) _) (by omega) _) (by omega) _) (by omega) _) (by omega) _) (by omega) _) (by omega) _) (by omega) _), NewAt.none_, NewAt.none_⟩

set_option maxRecDepth 100000 in
set_option maxHeartbeats 2000000 in
theorem Complete_b (c : Co) (A1 D1 : Option Addr) (c1 e1 : Nat) (w : World) (h1 : CoR w w.heap.size c A1 D1) (hg : HasET w) (k2 : chkE c 3 true = 0) (k3 : ¬ 0 < c.th) (k4 : ¬ c.st = 4) :
    Calls Tryd.prog 39 #[(.agg #[.int .i8 c.st, .int .i64 c.pid, .int .i64 c.ep, .int .i64 c.tm, .int .i64 c.th, .slice A1 c.ps.length c1, .slice D1 c.qs.length e1, .int .i64 c.ag])] w (MvPost (compC c) (chkE c 3 true) w) := by
  have hco : compC c = ⟨5, c.pid, c.ep, c.tm, 0, [], [], 0⟩ := by unfold compC; rw [if_neg (by rw [k2]; simp), if_neg k3, if_neg k4]
  have HCO := Lib.hid hco
  have HK2 := Lib.hid k2
  have d1 : (c.st == 4) = false := eqb_false k4
  have d2 : decide (0 < c.th) = false := decide_eq_false k3
  have h2 := (h1.al (.cells #[.int .i8 c.st, .int .i64 c.pid, .int .i64 c.ep, .int .i64 c.tm, .int .i64 c.th, .slice A1 c.ps.length c1, .slice D1 c.qs.length e1, .int .i64 c.ag] 26)).al (.cells #[.int .i8 0, .int .i64 0, .int .i64 0, .int .i64 0, .int .i64 0, .slice none 0 0, .slice none 0 0, .int .i64 0] 26)
  have hc := check_any c A1 D1 c1 e1 3 true _ _ h2 (Nat.le_refl _)
  have HC := Lib.hid hc
  have HB := Lib.hid (bal (bal (Below.refl w.heap.size w) (.cells #[.int .i8 c.st, .int .i64 c.pid, .int .i64 c.ep, .int .i64 c.tm, .int .i64 c.th, .slice A1 c.ps.length c1, .slice D1 c.qs.length e1, .int .i64 c.ag] 26)) (.cells #[.int .i8 0, .int .i64 0, .int .i64 0, .int .i64 0, .int .i64 0, .slice none 0 0, .slice none 0 0, .int .i64 0] 26))
  have K1 := Lib.hid ((Blk.new w 26 #[.int .i8 c.st, .int .i64 c.pid, .int .i64 c.ep, .int .i64 c.tm, .int .i64 c.th, .slice A1 c.ps.length c1, .slice D1 c.qs.length e1, .int .i64 c.ag]).alloc (.cells #[.int .i8 0, .int .i64 0, .int .i64 0, .int .i64 0, .int .i64 0, .slice none 0 0, .slice none 0 0, .int .i64 0] 26))
  have kk := Blk.new (w.alloc (.cells #[.int .i8 c.st, .int .i64 c.pid, .int .i64 c.ep, .int .i64 c.tm, .int .i64 c.th, .slice A1 c.ps.length c1, .slice D1 c.qs.length e1, .int .i64 c.ag] 26)) 26 #[.int .i8 0, .int .i64 0, .int .i64 0, .int .i64 0, .int .i64 0, .slice none 0 0, .slice none 0 0, .int .i64 0]
  rw [World.size_alloc] at kk
  have K2 := Lib.hid kk
  have HG := Lib.hid hg
  clear h2 hc kk h1 hg k2 k4 hco
  go_enter Tryd.func39, Tryd.ntmps39
  go_wp2_with fail
  refine HC.out.mono ?_
  rintro e w2 ⟨b2, hres⟩
  have hz2 := b2.size
  simp only [World.size_alloc] at hz2
  have bf := btrans HB.out b2
  obtain rfl : e = .returned .nilIface := by
    rcases hres with ⟨_, h⟩ | ⟨hz, _⟩
    · exact h
    · exact absurd HK2.out hz
  clear hres
  have k5 := K1.out.below b2 (by simp only [World.size_alloc]; omega)
  have k6 := K2.out.below b2 (by simp only [World.size_alloc]; omega)
  have hlt3 : w.heap.size + 1 < w2.heap.size := by omega
  have hne3 : ¬ w.heap.size + 1 = w2.heap.size := by omega
  have hlt4 : w.heap.size < w2.heap.size := by omega
  have hne4 : ¬ w.heap.size = w2.heap.size := by omega
  have x0 := k5.cell 0
  have x1 := k5.cell 1
  have x2 := k5.cell 2
  have x3 := k5.cell 3
  have x4 := k5.cell 4
  have x5 := k5.cell 5
  have x6 := k5.cell 6
  have x7 := k5.cell 7
  have y0 := k6.cell 0
  have z0 := k6.frozen 0
  have y1 := k6.cell 1
  have z1 := k6.frozen 1
  have y2 := k6.cell 2
  have z2 := k6.frozen 2
  have y3 := k6.cell 3
  have z3 := k6.frozen 3
  have y4 := k6.cell 4
  have z4 := k6.frozen 4
  have y5 := k6.cell 5
  have z5 := k6.frozen 5
  have y6 := k6.cell 6
  have z6 := k6.frozen 6
  have y7 := k6.cell 7
  have z7 := k6.frozen 7
  go_wp2_with fail
  refine bodyPost_ret (v := .tuple #[.agg #[.int .i8 5, .int .i64 c.pid, .int .i64 c.ep, .int .i64 c.tm, .int .i64 0, .slice none 0 0, .slice none 0 0, .int .i64 0], .int .i64 0]) (by simp [results, Tryd.results39, go_sem, y0, y1, y2, y3, y4, y5, y6, y7, hlt3, hne3]) rfl ?_
  rw [HK2.out, HCO.out]
  refine ⟨none, none, 0, 0, rfl, ⟨Reads.none_, Reads.none_, by simp, by simp⟩, ?_, NewAt.none_, NewAt.none_⟩
  exact bal (bset (bset (bset (bset (bset (bset (bset (bset bf (by omega) _) (by omega) _) (by omega) _) (by omega) _) (by omega) _) (by omega) _) (by omega) _) (by omega) _) _

set_option maxRecDepth 100000 in
set_option maxHeartbeats 2000000 in
theorem Complete_c (c : Co) (A1 D1 : Option Addr) (c1 e1 : Nat) (w : World) (h1 : CoR w w.heap.size c A1 D1) (hg : HasET w) (k2 : chkE c 3 true = 0) (k3 : ¬ 0 < c.th) (k4 : c.st = 4) :
    Calls Tryd.prog 39 #[(.agg #[.int .i8 c.st, .int .i64 c.pid, .int .i64 c.ep, .int .i64 c.tm, .int .i64 c.th, .slice A1 c.ps.length c1, .slice D1 c.qs.length e1, .int .i64 c.ag])] w (MvPost (compC c) (chkE c 3 true) w) := by
  have hco : compC c = ⟨6, c.pid, c.ep, c.tm, 0, [], [], 0⟩ := by unfold compC; rw [if_neg (by rw [k2]; simp), if_neg k3, if_pos k4]
  have HCO := Lib.hid hco
  have HK2 := Lib.hid k2
  have d1 : (c.st == 4) = true := eqb_true k4
  have d2 : decide (0 < c.th) = false := decide_eq_false k3
  have h2 := (h1.al (.cells #[.int .i8 c.st, .int .i64 c.pid, .int .i64 c.ep, .int .i64 c.tm, .int .i64 c.th, .slice A1 c.ps.length c1, .slice D1 c.qs.length e1, .int .i64 c.ag] 26)).al (.cells #[.int .i8 0, .int .i64 0, .int .i64 0, .int .i64 0, .int .i64 0, .slice none 0 0, .slice none 0 0, .int .i64 0] 26)
  have hc := check_any c A1 D1 c1 e1 3 true _ _ h2 (Nat.le_refl _)
  have HC := Lib.hid hc
  have HB := Lib.hid (bal (bal (Below.refl w.heap.size w) (.cells #[.int .i8 c.st, .int .i64 c.pid, .int .i64 c.ep, .int .i64 c.tm, .int .i64 c.th, .slice A1 c.ps.length c1, .slice D1 c.qs.length e1, .int .i64 c.ag] 26)) (.cells #[.int .i8 0, .int .i64 0, .int .i64 0, .int .i64 0, .int .i64 0, .slice none 0 0, .slice none 0 0, .int .i64 0] 26))
  have K1 := Lib.hid ((Blk.new w 26 #[.int .i8 c.st, .int .i64 c.pid, .int .i64 c.ep, .int .i64 c.tm, .int .i64 c.th, .slice A1 c.ps.length c1, .slice D1 c.qs.length e1, .int .i64 c.ag]).alloc (.cells #[.int .i8 0, .int .i64 0, .int .i64 0, .int .i64 0, .int .i64 0, .slice none 0 0, .slice none 0 0, .int .i64 0] 26))
  have kk := Blk.new (w.alloc (.cells #[.int .i8 c.st, .int .i64 c.pid, .int .i64 c.ep, .int .i64 c.tm, .int .i64 c.th, .slice A1 c.ps.length c1, .slice D1 c.qs.length e1, .int .i64 c.ag] 26)) 26 #[.int .i8 0, .int .i64 0, .int .i64 0, .int .i64 0, .int .i64 0, .slice none 0 0, .slice none 0 0, .int .i64 0]
  rw [World.size_alloc] at kk
  have K2 := Lib.hid kk
  have HG := Lib.hid hg
  clear h2 hc kk h1 hg k2 k4 hco
  go_enter Tryd.func39, Tryd.ntmps39
  go_wp2_with fail
  refine HC.out.mono ?_
  rintro e w2 ⟨b2, hres⟩
  have hz2 := b2.size
  simp only [World.size_alloc] at hz2
  have bf := btrans HB.out b2
  obtain rfl : e = .returned .nilIface := by
    rcases hres with ⟨_, h⟩ | ⟨hz, _⟩
    · exact h
    · exact absurd HK2.out hz
  clear hres
  have k5 := K1.out.below b2 (by simp only [World.size_alloc]; omega)
  have k6 := K2.out.below b2 (by simp only [World.size_alloc]; omega)
  have hlt3 : w.heap.size + 1 < w2.heap.size := by omega
  have hne3 : ¬ w.heap.size + 1 = w2.heap.size := by omega
  have hlt4 : w.heap.size < w2.heap.size := by omega
  have hne4 : ¬ w.heap.size = w2.heap.size := by omega
  have x0 := k5.cell 0
  have x1 := k5.cell 1
  have x2 := k5.cell 2
  have x3 := k5.cell 3
  have x4 := k5.cell 4
  have x5 := k5.cell 5
  have x6 := k5.cell 6
  have x7 := k5.cell 7
  have y0 := k6.cell 0
  have z0 := k6.frozen 0
  have y1 := k6.cell 1
  have z1 := k6.frozen 1
  have y2 := k6.cell 2
  have z2 := k6.frozen 2
  have y3 := k6.cell 3
  have z3 := k6.frozen 3
  have y4 := k6.cell 4
  have z4 := k6.frozen 4
  have y5 := k6.cell 5
  have z5 := k6.frozen 5
  have y6 := k6.cell 6
  have z6 := k6.frozen 6
  have y7 := k6.cell 7
  have z7 := k6.frozen 7
  go_wp2_with fail
  refine bodyPost_ret (v := .tuple #[.agg #[.int .i8 6, .int .i64 c.pid, .int .i64 c.ep, .int .i64 c.tm, .int .i64 0, .slice none 0 0, .slice none 0 0, .int .i64 0], .int .i64 0]) (by simp [results, Tryd.results39, go_sem, y0, y1, y2, y3, y4, y5, y6, y7, hlt3, hne3]) rfl ?_
  rw [HK2.out, HCO.out]
  refine ⟨none, none, 0, 0, rfl, ⟨Reads.none_, Reads.none_, by simp, by simp⟩, ?_, NewAt.none_, NewAt.none_⟩
  exact bal (bset (bset (bset (bset (bset (bset (bset (bset bf (by omega) _) (by omega) _) (by omega) _) (by omega) _) (by omega) _) (by omega) _) (by omega) _) (by omega) _) _

set_option maxRecDepth 100000 in
set_option maxHeartbeats 2000000 in
theorem Complete_d (c : Co) (A1 D1 : Option Addr) (c1 e1 : Nat) (w : World) (h1 : CoR w w.heap.size c A1 D1) (hg : HasET w) (k2 : chkE c 3 true = 0) (k3 : 0 < c.th) (k4 : ¬ c.st = 4) (k5 : -1000000 ≤ c.ep) (k6 : c.ep ≤ 1000000) :
    Calls Tryd.prog 39 #[(.agg #[.int .i8 c.st, .int .i64 c.pid, .int .i64 c.ep, .int .i64 c.tm, .int .i64 c.th, .slice A1 c.ps.length c1, .slice D1 c.qs.length e1, .int .i64 c.ag])] w (MvPost (compC c) (chkE c 3 true) w) := by
  have hco : compC c = ⟨1, c.pid, c.ep + 1, c.th, 0, [], [], 0⟩ := by unfold compC; rw [if_neg (by rw [k2]; simp), if_pos k3]
  have HCO := Lib.hid hco
  have HK2 := Lib.hid k2
  have d1 : (c.st == 4) = false := eqb_false k4
  have d2 : decide (0 < c.th) = true := decide_eq_true k3
  have h2 := (h1.al (.cells #[.int .i8 c.st, .int .i64 c.pid, .int .i64 c.ep, .int .i64 c.tm, .int .i64 c.th, .slice A1 c.ps.length c1, .slice D1 c.qs.length e1, .int .i64 c.ag] 26)).al (.cells #[.int .i8 0, .int .i64 0, .int .i64 0, .int .i64 0, .int .i64 0, .slice none 0 0, .slice none 0 0, .int .i64 0] 26)
  have hc := check_any c A1 D1 c1 e1 3 true _ _ h2 (Nat.le_refl _)
  have HC := Lib.hid hc
  have HB := Lib.hid (bal (bal (Below.refl w.heap.size w) (.cells #[.int .i8 c.st, .int .i64 c.pid, .int .i64 c.ep, .int .i64 c.tm, .int .i64 c.th, .slice A1 c.ps.length c1, .slice D1 c.qs.length e1, .int .i64 c.ag] 26)) (.cells #[.int .i8 0, .int .i64 0, .int .i64 0, .int .i64 0, .int .i64 0, .slice none 0 0, .slice none 0 0, .int .i64 0] 26))
  have K1 := Lib.hid ((Blk.new w 26 #[.int .i8 c.st, .int .i64 c.pid, .int .i64 c.ep, .int .i64 c.tm, .int .i64 c.th, .slice A1 c.ps.length c1, .slice D1 c.qs.length e1, .int .i64 c.ag]).alloc (.cells #[.int .i8 0, .int .i64 0, .int .i64 0, .int .i64 0, .int .i64 0, .slice none 0 0, .slice none 0 0, .int .i64 0] 26))
  have kk := Blk.new (w.alloc (.cells #[.int .i8 c.st, .int .i64 c.pid, .int .i64 c.ep, .int .i64 c.tm, .int .i64 c.th, .slice A1 c.ps.length c1, .slice D1 c.qs.length e1, .int .i64 c.ag] 26)) 26 #[.int .i8 0, .int .i64 0, .int .i64 0, .int .i64 0, .int .i64 0, .slice none 0 0, .slice none 0 0, .int .i64 0]
  rw [World.size_alloc] at kk
  have K2 := Lib.hid kk
  have HG := Lib.hid hg
  clear h2 hc kk h1 hg k2 k4 hco
  go_enter Tryd.func39, Tryd.ntmps39
  go_wp2_with fail
  refine HC.out.mono ?_
  rintro e w2 ⟨b2, hres⟩
  have hz2 := b2.size
  simp only [World.size_alloc] at hz2
  have bf := btrans HB.out b2
  obtain rfl : e = .returned .nilIface := by
    rcases hres with ⟨_, h⟩ | ⟨hz, _⟩
    · exact h
    · exact absurd HK2.out hz
  clear hres
  have k5 := K1.out.below b2 (by simp only [World.size_alloc]; omega)
  have k6 := K2.out.below b2 (by simp only [World.size_alloc]; omega)
  have hlt3 : w.heap.size + 1 < w2.heap.size := by omega
  have hne3 : ¬ w.heap.size + 1 = w2.heap.size := by omega
  have hlt4 : w.heap.size < w2.heap.size := by omega
  have hne4 : ¬ w.heap.size = w2.heap.size := by omega
  have x0 := k5.cell 0
  have x1 := k5.cell 1
  have x2 := k5.cell 2
  have x3 := k5.cell 3
  have x4 := k5.cell 4
  have x5 := k5.cell 5
  have x6 := k5.cell 6
  have x7 := k5.cell 7
  have y0 := k6.cell 0
  have z0 := k6.frozen 0
  have y1 := k6.cell 1
  have z1 := k6.frozen 1
  have y2 := k6.cell 2
  have z2 := k6.frozen 2
  have y3 := k6.cell 3
  have z3 := k6.frozen 3
  have y4 := k6.cell 4
  have z4 := k6.frozen 4
  have y5 := k6.cell 5
  have z5 := k6.frozen 5
  have y6 := k6.cell 6
  have z6 := k6.frozen 6
  have y7 := k6.cell 7
  have z7 := k6.frozen 7
  go_wp2_with fail
  have ko := Blk.new w2 26 #[.int .i8 5, .int .i64 c.pid, .int .i64 c.ep, .int .i64 c.tm, .int .i64 0, .slice none 0 0, .slice none 0 0, .int .i64 0]
  have k5' := k5.alloc (.cells #[.int .i8 5, .int .i64 c.pid, .int .i64 c.ep, .int .i64 c.tm, .int .i64 0, .slice none 0 0, .slice none 0 0, .int .i64 0] 26)
  have k6' := k6.alloc (.cells #[.int .i8 5, .int .i64 c.pid, .int .i64 c.ep, .int .i64 c.tm, .int .i64 0, .slice none 0 0, .slice none 0 0, .int .i64 0] 26)
  have bf' := bal bf (.cells #[.int .i8 5, .int .i64 c.pid, .int .i64 c.ep, .int .i64 c.tm, .int .i64 0, .slice none 0 0, .slice none 0 0, .int .i64 0] 26)
  clear x0 x1 x2 x3 x4 x5 x6 x7 y0 y1 y2 y3 y4 y5 y6 y7 z0 z1 z2 z3 z4 z5 z6 z7
  generalize w2.alloc (.cells #[.int .i8 5, .int .i64 c.pid, .int .i64 c.ep, .int .i64 c.tm, .int .i64 0, .slice none 0 0, .slice none 0 0, .int .i64 0] 26) = W at *
  have x2 := k5'.cell 2
  have x4 := k5'.cell 4
  have u0 := ko.cell 0
  have u2 := ko.cell 2
  have u3 := ko.cell 3
  have v0 := ko.frozen 0
  have v2 := ko.frozen 2
  have v3 := ko.frozen 3
  go_region
  have u1 := ko.cell 1
  have u4 := ko.cell 4
  have u5 := ko.cell 5
  have u6 := ko.cell 6
  have u7 := ko.cell 7
  have y0 := k6'.cell 0
  have z0 := k6'.frozen 0
  have y1 := k6'.cell 1
  have z1 := k6'.frozen 1
  have y2 := k6'.cell 2
  have z2 := k6'.frozen 2
  have y3 := k6'.cell 3
  have z3 := k6'.frozen 3
  have y4 := k6'.cell 4
  have z4 := k6'.frozen 4
  have y5 := k6'.cell 5
  have z5 := k6'.frozen 5
  have y6 := k6'.cell 6
  have z6 := k6'.frozen 6
  have y7 := k6'.cell 7
  have z7 := k6'.frozen 7
  go_wp2_with fail
  refine bodyPost_ret (v := .tuple #[.agg #[.int .i8 1, .int .i64 c.pid, .int .i64 (c.ep + 1), .int .i64 c.th, .int .i64 0, .slice none 0 0, .slice none 0 0, .int .i64 0], .int .i64 0]) (by simp [results, Tryd.results39, go_sem, y0, y1, y2, y3, y4, y5, y6, y7]) rfl ?_
  rw [HK2.out, HCO.out]
  refine ⟨none, none, 0, 0, rfl, ⟨Reads.none_, Reads.none_, by simp, by simp⟩, ?_, NewAt.none_, NewAt.none_⟩
  exact (bset (bset (bset (bset (bset (bset (bset (bset (bset (bset (bset bf' (by omega) _) (by omega) _) (by omega) _) (by omega) _) (by omega) _) (by omega) _) (by omega) _) (by omega) _) (by omega) _) (by omega) _) (by omega) _).drew

set_option maxRecDepth 100000 in
set_option maxHeartbeats 2000000 in
theorem Complete_e (c : Co) (A1 D1 : Option Addr) (c1 e1 : Nat) (w : World) (h1 : CoR w w.heap.size c A1 D1) (hg : HasET w) (k2 : chkE c 3 true = 0) (k3 : 0 < c.th) (k4 : c.st = 4) (k5 : -1000000 ≤ c.ep) (k6 : c.ep ≤ 1000000) :
    Calls Tryd.prog 39 #[(.agg #[.int .i8 c.st, .int .i64 c.pid, .int .i64 c.ep, .int .i64 c.tm, .int .i64 c.th, .slice A1 c.ps.length c1, .slice D1 c.qs.length e1, .int .i64 c.ag])] w (MvPost (compC c) (chkE c 3 true) w) := by
  have hco : compC c = ⟨1, c.pid, c.ep + 1, c.th, 0, [], [], 0⟩ := by unfold compC; rw [if_neg (by rw [k2]; simp), if_pos k3]
  have HCO := Lib.hid hco
  have HK2 := Lib.hid k2
  have d1 : (c.st == 4) = true := eqb_true k4
  have d2 : decide (0 < c.th) = true := decide_eq_true k3
  have h2 := (h1.al (.cells #[.int .i8 c.st, .int .i64 c.pid, .int .i64 c.ep, .int .i64 c.tm, .int .i64 c.th, .slice A1 c.ps.length c1, .slice D1 c.qs.length e1, .int .i64 c.ag] 26)).al (.cells #[.int .i8 0, .int .i64 0, .int .i64 0, .int .i64 0, .int .i64 0, .slice none 0 0, .slice none 0 0, .int .i64 0] 26)
  have hc := check_any c A1 D1 c1 e1 3 true _ _ h2 (Nat.le_refl _)
  have HC := Lib.hid hc
  have HB := Lib.hid (bal (bal (Below.refl w.heap.size w) (.cells #[.int .i8 c.st, .int .i64 c.pid, .int .i64 c.ep, .int .i64 c.tm, .int .i64 c.th, .slice A1 c.ps.length c1, .slice D1 c.qs.length e1, .int .i64 c.ag] 26)) (.cells #[.int .i8 0, .int .i64 0, .int .i64 0, .int .i64 0, .int .i64 0, .slice none 0 0, .slice none 0 0, .int .i64 0] 26))
  have K1 := Lib.hid ((Blk.new w 26 #[.int .i8 c.st, .int .i64 c.pid, .int .i64 c.ep, .int .i64 c.tm, .int .i64 c.th, .slice A1 c.ps.length c1, .slice D1 c.qs.length e1, .int .i64 c.ag]).alloc (.cells #[.int .i8 0, .int .i64 0, .int .i64 0, .int .i64 0, .int .i64 0, .slice none 0 0, .slice none 0 0, .int .i64 0] 26))
  have kk := Blk.new (w.alloc (.cells #[.int .i8 c.st, .int .i64 c.pid, .int .i64 c.ep, .int .i64 c.tm, .int .i64 c.th, .slice A1 c.ps.length c1, .slice D1 c.qs.length e1, .int .i64 c.ag] 26)) 26 #[.int .i8 0, .int .i64 0, .int .i64 0, .int .i64 0, .int .i64 0, .slice none 0 0, .slice none 0 0, .int .i64 0]
  rw [World.size_alloc] at kk
  have K2 := Lib.hid kk
  have HG := Lib.hid hg
  clear h2 hc kk h1 hg k2 k4 hco
  go_enter Tryd.func39, Tryd.ntmps39
  go_wp2_with fail
  refine HC.out.mono ?_
  rintro e w2 ⟨b2, hres⟩
  have hz2 := b2.size
  simp only [World.size_alloc] at hz2
  have bf := btrans HB.out b2
  obtain rfl : e = .returned .nilIface := by
    rcases hres with ⟨_, h⟩ | ⟨hz, _⟩
    · exact h
    · exact absurd HK2.out hz
  clear hres
  have k5 := K1.out.below b2 (by simp only [World.size_alloc]; omega)
  have k6 := K2.out.below b2 (by simp only [World.size_alloc]; omega)
  have hlt3 : w.heap.size + 1 < w2.heap.size := by omega
  have hne3 : ¬ w.heap.size + 1 = w2.heap.size := by omega
  have hlt4 : w.heap.size < w2.heap.size := by omega
  have hne4 : ¬ w.heap.size = w2.heap.size := by omega
  have x0 := k5.cell 0
  have x1 := k5.cell 1
  have x2 := k5.cell 2
  have x3 := k5.cell 3
  have x4 := k5.cell 4
  have x5 := k5.cell 5
  have x6 := k5.cell 6
  have x7 := k5.cell 7
  have y0 := k6.cell 0
  have z0 := k6.frozen 0
  have y1 := k6.cell 1
  have z1 := k6.frozen 1
  have y2 := k6.cell 2
  have z2 := k6.frozen 2
  have y3 := k6.cell 3
  have z3 := k6.frozen 3
  have y4 := k6.cell 4
  have z4 := k6.frozen 4
  have y5 := k6.cell 5
  have z5 := k6.frozen 5
  have y6 := k6.cell 6
  have z6 := k6.frozen 6
  have y7 := k6.cell 7
  have z7 := k6.frozen 7
  go_wp2_with fail
  have ko := Blk.new w2 26 #[.int .i8 6, .int .i64 c.pid, .int .i64 c.ep, .int .i64 c.tm, .int .i64 0, .slice none 0 0, .slice none 0 0, .int .i64 0]
  have k5' := k5.alloc (.cells #[.int .i8 6, .int .i64 c.pid, .int .i64 c.ep, .int .i64 c.tm, .int .i64 0, .slice none 0 0, .slice none 0 0, .int .i64 0] 26)
  have k6' := k6.alloc (.cells #[.int .i8 6, .int .i64 c.pid, .int .i64 c.ep, .int .i64 c.tm, .int .i64 0, .slice none 0 0, .slice none 0 0, .int .i64 0] 26)
  have bf' := bal bf (.cells #[.int .i8 6, .int .i64 c.pid, .int .i64 c.ep, .int .i64 c.tm, .int .i64 0, .slice none 0 0, .slice none 0 0, .int .i64 0] 26)
  clear x0 x1 x2 x3 x4 x5 x6 x7 y0 y1 y2 y3 y4 y5 y6 y7 z0 z1 z2 z3 z4 z5 z6 z7
  generalize w2.alloc (.cells #[.int .i8 6, .int .i64 c.pid, .int .i64 c.ep, .int .i64 c.tm, .int .i64 0, .slice none 0 0, .slice none 0 0, .int .i64 0] 26) = W at *
  have x2 := k5'.cell 2
  have x4 := k5'.cell 4
  have u0 := ko.cell 0
  have u2 := ko.cell 2
  have u3 := ko.cell 3
  have v0 := ko.frozen 0
  have v2 := ko.frozen 2
  have v3 := ko.frozen 3
  go_region
  have u1 := ko.cell 1
  have u4 := ko.cell 4
  have u5 := ko.cell 5
  have u6 := ko.cell 6
  have u7 := ko.cell 7
  have y0 := k6'.cell 0
  have z0 := k6'.frozen 0
  have y1 := k6'.cell 1
  have z1 := k6'.frozen 1
  have y2 := k6'.cell 2
  have z2 := k6'.frozen 2
  have y3 := k6'.cell 3
  have z3 := k6'.frozen 3
  have y4 := k6'.cell 4
  have z4 := k6'.frozen 4
  have y5 := k6'.cell 5
  have z5 := k6'.frozen 5
  have y6 := k6'.cell 6
  have z6 := k6'.frozen 6
  have y7 := k6'.cell 7
  have z7 := k6'.frozen 7
  go_wp2_with fail
  refine bodyPost_ret (v := .tuple #[.agg #[.int .i8 1, .int .i64 c.pid, .int .i64 (c.ep + 1), .int .i64 c.th, .int .i64 0, .slice none 0 0, .slice none 0 0, .int .i64 0], .int .i64 0]) (by simp [results, Tryd.results39, go_sem, y0, y1, y2, y3, y4, y5, y6, y7]) rfl ?_
  rw [HK2.out, HCO.out]
  refine ⟨none, none, 0, 0, rfl, ⟨Reads.none_, Reads.none_, by simp, by simp⟩, ?_, NewAt.none_, NewAt.none_⟩
  exact (bset (bset (bset (bset (bset (bset (bset (bset (bset (bset (bset bf' (by omega) _) (by omega) _) (by omega) _) (by omega) _) (by omega) _) (by omega) _) (by omega) _) (by omega) _) (by omega) _) (by omega) _) (by omega) _).drew

theorem Complete_any (c : Co) (A1 D1 : Option Addr) (c1 e1 : Nat) (w : World) (h1 : CoR w w.heap.size c A1 D1) (hg : HasET w) (k5 : -1000000 ≤ c.ep) (k6 : c.ep ≤ 1000000) :
    Calls Tryd.prog 39 #[(.agg #[.int .i8 c.st, .int .i64 c.pid, .int .i64 c.ep, .int .i64 c.tm, .int .i64 c.th, .slice A1 c.ps.length c1, .slice D1 c.qs.length e1, .int .i64 c.ag])] w (MvPost (compC c) (chkE c 3 true) w) := by
  by_cases k2 : chkE c 3 true = 0
  · by_cases k3 : 0 < c.th
    · by_cases k4 : c.st = 4
      · exact Complete_e c A1 D1 c1 e1 w h1 hg k2 k3 k4 k5 k6
      · exact Complete_d c A1 D1 c1 e1 w h1 hg k2 k3 k4 k5 k6
    · by_cases k4 : c.st = 4
      · exact Complete_c c A1 D1 c1 e1 w h1 hg k2 k3 k4
      · exact Complete_b c A1 D1 c1 e1 w h1 hg k2 k3 k4
  · exact Complete_a c A1 D1 c1 e1 w h1 hg k2
end Go.Proofs.YtagclnmchkgpdaaDoor
namespace Go.Proofs.YtagclnmchkgpdaaDoor
open Go.RowKit

noncomputable def prepE (c : Co) (yes : Bool) (th : Int) : Int :=
  if ¬ (0 ≤ th ∧ th ≤ 20 ∧ (yes = false ∨ th = 0)) then 2 else if ¬ chkE c 2 true = 0 then chkE c 2 true else if 0 < th ∧ 100 ≤ c.ep then 102 else 0
noncomputable def prepC (c : Co) (yes : Bool) (th : Int) : Co :=
  if prepE c yes th = 0 then { c with st := if yes then 3 else 4, th := th } else Co0

set_option maxRecDepth 100000 in
set_option maxHeartbeats 2000000 in
theorem Prepare_a (c : Co) (A1 D1 : Option Addr) (c1 e1 : Nat) (yes : Bool) (th : Int) (w : World) (h1 : CoR w w.heap.size c A1 D1) (hg : HasET w) (k1 : th < 0) :
    Calls Tryd.prog 38 #[(.agg #[.int .i8 c.st, .int .i64 c.pid, .int .i64 c.ep, .int .i64 c.tm, .int .i64 c.th, .slice A1 c.ps.length c1, .slice D1 c.qs.length e1, .int .i64 c.ag]), .bool yes, .int .i64 th] w (MvPost (prepC c yes th) (prepE c yes th) w) := by
  have he : prepE c yes th = 2 := by unfold prepE; rw [if_pos (by omega)]
  have hco : prepC c yes th = Co0 := by unfold prepC; rw [he, if_neg (by decide)]
  have HE := Lib.hid he
  have HCO := Lib.hid hco
  have hck : chkE c 2 false = 2 := by unfold chkE; simp
  have HCK := Lib.hid hck
  have d0 : decide (0 ≤ th) = false := decide_eq_false (by omega)
  have h2 := (h1.al (.cells #[.int .i8 c.st, .int .i64 c.pid, .int .i64 c.ep, .int .i64 c.tm, .int .i64 c.th, .slice A1 c.ps.length c1, .slice D1 c.qs.length e1, .int .i64 c.ag] 26)).al (.cells #[.int .i8 0, .int .i64 0, .int .i64 0, .int .i64 0, .int .i64 0, .slice none 0 0, .slice none 0 0, .int .i64 0] 26)
  have hc := check_any c A1 D1 c1 e1 2 false _ _ h2 (Nat.le_refl _)
  have HC := Lib.hid hc
  have HB := Lib.hid (bal (bal (Below.refl w.heap.size w) (.cells #[.int .i8 c.st, .int .i64 c.pid, .int .i64 c.ep, .int .i64 c.tm, .int .i64 c.th, .slice A1 c.ps.length c1, .slice D1 c.qs.length e1, .int .i64 c.ag] 26)) (.cells #[.int .i8 0, .int .i64 0, .int .i64 0, .int .i64 0, .int .i64 0, .slice none 0 0, .slice none 0 0, .int .i64 0] 26))
  have K1 := Lib.hid ((Blk.new w 26 #[.int .i8 c.st, .int .i64 c.pid, .int .i64 c.ep, .int .i64 c.tm, .int .i64 c.th, .slice A1 c.ps.length c1, .slice D1 c.qs.length e1, .int .i64 c.ag]).alloc (.cells #[.int .i8 0, .int .i64 0, .int .i64 0, .int .i64 0, .int .i64 0, .slice none 0 0, .slice none 0 0, .int .i64 0] 26))
  have kk := Blk.new (w.alloc (.cells #[.int .i8 c.st, .int .i64 c.pid, .int .i64 c.ep, .int .i64 c.tm, .int .i64 c.th, .slice A1 c.ps.length c1, .slice D1 c.qs.length e1, .int .i64 c.ag] 26)) 26 #[.int .i8 0, .int .i64 0, .int .i64 0, .int .i64 0, .int .i64 0, .slice none 0 0, .slice none 0 0, .int .i64 0]
  rw [World.size_alloc] at kk
  have K2 := Lib.hid kk
  have HG := Lib.hid hg
  have H1 := Lib.hid h1
  have hps := h1.2.2.1
  have hqs := h1.2.2.2
  clear h2 hc kk h1 hg k1 he hco hck
  go_enter Tryd.func38, Tryd.ntmps38
  go_wp2_with fail
  refine HC.out.mono ?_
  rintro e w2 ⟨b2, hres⟩
  have hz2 := b2.size
  simp only [World.size_alloc] at hz2
  have bf := btrans HB.out b2
  obtain ⟨b, rfl, hc2, hbge, hblt⟩ : FaultAt 2 _ e w2 := by
    rcases hres with ⟨hz, _⟩ | ⟨_, hf⟩
    · rw [HCK.out] at hz; cases hz
    · rw [HCK.out] at hf; exact hf
  clear hres
  have hcode := code_fault b 2 w2 (HG.out.up bf) hc2
  have H2E := Lib.hid hcode
  clear hcode hc2
  go_wp2_with fail
  refine H2E.out.mono ?_
  rintro e w3 ⟨rfl, b3⟩
  have k6 := (K2.out.below b2 (by simp only [World.size_alloc]; omega)).below b3 (by omega)
  have y0 := k6.cell 0
  have z0 := k6.frozen 0
  have y1 := k6.cell 1
  have z1 := k6.frozen 1
  have y2 := k6.cell 2
  have z2 := k6.frozen 2
  have y3 := k6.cell 3
  have z3 := k6.frozen 3
  have y4 := k6.cell 4
  have z4 := k6.frozen 4
  have y5 := k6.cell 5
  have z5 := k6.frozen 5
  have y6 := k6.cell 6
  have z6 := k6.frozen 6
  have y7 := k6.cell 7
  have z7 := k6.frozen 7
  have bg := btrans bf b3
  have hz3 := b3.size
  go_wp2_with fail
  refine bodyPost_ret (v := .tuple #[.agg #[.int .i8 0, .int .i64 0, .int .i64 0, .int .i64 0, .int .i64 0, .slice none 0 0, .slice none 0 0, .int .i64 0], .int .i64 2]) (by simp [results, Tryd.results38, go_sem, y0, y1, y2, y3, y4, y5, y6, y7]) rfl ?_
  rw [HE.out, HCO.out]
  exact ⟨none, none, 0, 0, rfl, CoR.zero _ _ _ _, (bset (bset (bset (bset (bset (bset (bset (bset bg (by omega) _) (by omega) _) (by omega) _) (by omega) _) (by omega) _) (by omega) _) (by omega) _) (by omega) _), NewAt.none_, NewAt.none_⟩

set_option maxRecDepth 100000 in
set_option maxHeartbeats 2000000 in
theorem Prepare_b (c : Co) (A1 D1 : Option Addr) (c1 e1 : Nat) (yes : Bool) (th : Int) (w : World) (h1 : CoR w w.heap.size c A1 D1) (hg : HasET w) (k1 : 20 < th) :
    Calls Tryd.prog 38 #[(.agg #[.int .i8 c.st, .int .i64 c.pid, .int .i64 c.ep, .int .i64 c.tm, .int .i64 c.th, .slice A1 c.ps.length c1, .slice D1 c.qs.length e1, .int .i64 c.ag]), .bool yes, .int .i64 th] w (MvPost (prepC c yes th) (prepE c yes th) w) := by
  have he : prepE c yes th = 2 := by unfold prepE; rw [if_pos (by omega)]
  have hco : prepC c yes th = Co0 := by unfold prepC; rw [he, if_neg (by decide)]
  have HE := Lib.hid he
  have HCO := Lib.hid hco
  have hck : chkE c 2 false = 2 := by unfold chkE; simp
  have HCK := Lib.hid hck
  have d0 : decide (0 ≤ th) = true := decide_eq_true (by omega)
  have d1 : decide (th ≤ 20) = false := decide_eq_false (by omega)
  have h2 := (h1.al (.cells #[.int .i8 c.st, .int .i64 c.pid, .int .i64 c.ep, .int .i64 c.tm, .int .i64 c.th, .slice A1 c.ps.length c1, .slice D1 c.qs.length e1, .int .i64 c.ag] 26)).al (.cells #[.int .i8 0, .int .i64 0, .int .i64 0, .int .i64 0, .int .i64 0, .slice none 0 0, .slice none 0 0, .int .i64 0] 26)
  have hc := check_any c A1 D1 c1 e1 2 false _ _ h2 (Nat.le_refl _)
  have HC := Lib.hid hc
  have HB := Lib.hid (bal (bal (Below.refl w.heap.size w) (.cells #[.int .i8 c.st, .int .i64 c.pid, .int .i64 c.ep, .int .i64 c.tm, .int .i64 c.th, .slice A1 c.ps.length c1, .slice D1 c.qs.length e1, .int .i64 c.ag] 26)) (.cells #[.int .i8 0, .int .i64 0, .int .i64 0, .int .i64 0, .int .i64 0, .slice none 0 0, .slice none 0 0, .int .i64 0] 26))
  have K1 := Lib.hid ((Blk.new w 26 #[.int .i8 c.st, .int .i64 c.pid, .int .i64 c.ep, .int .i64 c.tm, .int .i64 c.th, .slice A1 c.ps.length c1, .slice D1 c.qs.length e1, .int .i64 c.ag]).alloc (.cells #[.int .i8 0, .int .i64 0, .int .i64 0, .int .i64 0, .int .i64 0, .slice none 0 0, .slice none 0 0, .int .i64 0] 26))
  have kk := Blk.new (w.alloc (.cells #[.int .i8 c.st, .int .i64 c.pid, .int .i64 c.ep, .int .i64 c.tm, .int .i64 c.th, .slice A1 c.ps.length c1, .slice D1 c.qs.length e1, .int .i64 c.ag] 26)) 26 #[.int .i8 0, .int .i64 0, .int .i64 0, .int .i64 0, .int .i64 0, .slice none 0 0, .slice none 0 0, .int .i64 0]
  rw [World.size_alloc] at kk
  have K2 := Lib.hid kk
  have HG := Lib.hid hg
  have H1 := Lib.hid h1
  have hps := h1.2.2.1
  have hqs := h1.2.2.2
  clear h2 hc kk h1 hg k1 he hco hck
  go_enter Tryd.func38, Tryd.ntmps38
  go_wp2_with fail
  refine HC.out.mono ?_
  rintro e w2 ⟨b2, hres⟩
  have hz2 := b2.size
  simp only [World.size_alloc] at hz2
  have bf := btrans HB.out b2
  obtain ⟨b, rfl, hc2, hbge, hblt⟩ : FaultAt 2 _ e w2 := by
    rcases hres with ⟨hz, _⟩ | ⟨_, hf⟩
    · rw [HCK.out] at hz; cases hz
    · rw [HCK.out] at hf; exact hf
  clear hres
  have hcode := code_fault b 2 w2 (HG.out.up bf) hc2
  have H2E := Lib.hid hcode
  clear hcode hc2
  go_wp2_with fail
  refine H2E.out.mono ?_
  rintro e w3 ⟨rfl, b3⟩
  have k6 := (K2.out.below b2 (by simp only [World.size_alloc]; omega)).below b3 (by omega)
  have y0 := k6.cell 0
  have z0 := k6.frozen 0
  have y1 := k6.cell 1
  have z1 := k6.frozen 1
  have y2 := k6.cell 2
  have z2 := k6.frozen 2
  have y3 := k6.cell 3
  have z3 := k6.frozen 3
  have y4 := k6.cell 4
  have z4 := k6.frozen 4
  have y5 := k6.cell 5
  have z5 := k6.frozen 5
  have y6 := k6.cell 6
  have z6 := k6.frozen 6
  have y7 := k6.cell 7
  have z7 := k6.frozen 7
  have bg := btrans bf b3
  have hz3 := b3.size
  go_wp2_with fail
  refine bodyPost_ret (v := .tuple #[.agg #[.int .i8 0, .int .i64 0, .int .i64 0, .int .i64 0, .int .i64 0, .slice none 0 0, .slice none 0 0, .int .i64 0], .int .i64 2]) (by simp [results, Tryd.results38, go_sem, y0, y1, y2, y3, y4, y5, y6, y7]) rfl ?_
  rw [HE.out, HCO.out]
  exact ⟨none, none, 0, 0, rfl, CoR.zero _ _ _ _, (bset (bset (bset (bset (bset (bset (bset (bset bg (by omega) _) (by omega) _) (by omega) _) (by omega) _) (by omega) _) (by omega) _) (by omega) _) (by omega) _), NewAt.none_, NewAt.none_⟩

set_option maxRecDepth 100000 in
set_option maxHeartbeats 2000000 in
theorem Prepare_c (c : Co) (A1 D1 : Option Addr) (c1 e1 : Nat) (th : Int) (w : World) (h1 : CoR w w.heap.size c A1 D1) (hg : HasET w) (k1 : 0 < th ∧ th ≤ 20) :
    Calls Tryd.prog 38 #[(.agg #[.int .i8 c.st, .int .i64 c.pid, .int .i64 c.ep, .int .i64 c.tm, .int .i64 c.th, .slice A1 c.ps.length c1, .slice D1 c.qs.length e1, .int .i64 c.ag]), .bool true, .int .i64 th] w (MvPost (prepC c true th) (prepE c true th) w) := by
  have he : prepE c true th = 2 := by unfold prepE; rw [if_pos (by simp; omega)]
  have hco : prepC c true th = Co0 := by unfold prepC; rw [he, if_neg (by decide)]
  have HE := Lib.hid he
  have HCO := Lib.hid hco
  have hck : chkE c 2 false = 2 := by unfold chkE; simp
  have HCK := Lib.hid hck
  have d0 : decide (0 ≤ th) = true := decide_eq_true (by omega)
  have d1 : decide (th ≤ 20) = true := decide_eq_true (by omega)
  have d2 : (th == 0) = false := eqb_false (by omega)
  have h2 := (h1.al (.cells #[.int .i8 c.st, .int .i64 c.pid, .int .i64 c.ep, .int .i64 c.tm, .int .i64 c.th, .slice A1 c.ps.length c1, .slice D1 c.qs.length e1, .int .i64 c.ag] 26)).al (.cells #[.int .i8 0, .int .i64 0, .int .i64 0, .int .i64 0, .int .i64 0, .slice none 0 0, .slice none 0 0, .int .i64 0] 26)
  have hc := check_any c A1 D1 c1 e1 2 false _ _ h2 (Nat.le_refl _)
  have HC := Lib.hid hc
  have HB := Lib.hid (bal (bal (Below.refl w.heap.size w) (.cells #[.int .i8 c.st, .int .i64 c.pid, .int .i64 c.ep, .int .i64 c.tm, .int .i64 c.th, .slice A1 c.ps.length c1, .slice D1 c.qs.length e1, .int .i64 c.ag] 26)) (.cells #[.int .i8 0, .int .i64 0, .int .i64 0, .int .i64 0, .int .i64 0, .slice none 0 0, .slice none 0 0, .int .i64 0] 26))
  have K1 := Lib.hid ((Blk.new w 26 #[.int .i8 c.st, .int .i64 c.pid, .int .i64 c.ep, .int .i64 c.tm, .int .i64 c.th, .slice A1 c.ps.length c1, .slice D1 c.qs.length e1, .int .i64 c.ag]).alloc (.cells #[.int .i8 0, .int .i64 0, .int .i64 0, .int .i64 0, .int .i64 0, .slice none 0 0, .slice none 0 0, .int .i64 0] 26))
  have kk := Blk.new (w.alloc (.cells #[.int .i8 c.st, .int .i64 c.pid, .int .i64 c.ep, .int .i64 c.tm, .int .i64 c.th, .slice A1 c.ps.length c1, .slice D1 c.qs.length e1, .int .i64 c.ag] 26)) 26 #[.int .i8 0, .int .i64 0, .int .i64 0, .int .i64 0, .int .i64 0, .slice none 0 0, .slice none 0 0, .int .i64 0]
  rw [World.size_alloc] at kk
  have K2 := Lib.hid kk
  have HG := Lib.hid hg
  have H1 := Lib.hid h1
  have hps := h1.2.2.1
  have hqs := h1.2.2.2
  clear h2 hc kk h1 hg k1 he hco hck
  go_enter Tryd.func38, Tryd.ntmps38
  go_wp2_with fail
  refine HC.out.mono ?_
  rintro e w2 ⟨b2, hres⟩
  have hz2 := b2.size
  simp only [World.size_alloc] at hz2
  have bf := btrans HB.out b2
  obtain ⟨b, rfl, hc2, hbge, hblt⟩ : FaultAt 2 _ e w2 := by
    rcases hres with ⟨hz, _⟩ | ⟨_, hf⟩
    · rw [HCK.out] at hz; cases hz
    · rw [HCK.out] at hf; exact hf
  clear hres
  have hcode := code_fault b 2 w2 (HG.out.up bf) hc2
  have H2E := Lib.hid hcode
  clear hcode hc2
  go_wp2_with fail
  refine H2E.out.mono ?_
  rintro e w3 ⟨rfl, b3⟩
  have k6 := (K2.out.below b2 (by simp only [World.size_alloc]; omega)).below b3 (by omega)
  have y0 := k6.cell 0
  have z0 := k6.frozen 0
  have y1 := k6.cell 1
  have z1 := k6.frozen 1
  have y2 := k6.cell 2
  have z2 := k6.frozen 2
  have y3 := k6.cell 3
  have z3 := k6.frozen 3
  have y4 := k6.cell 4
  have z4 := k6.frozen 4
  have y5 := k6.cell 5
  have z5 := k6.frozen 5
  have y6 := k6.cell 6
  have z6 := k6.frozen 6
  have y7 := k6.cell 7
  have z7 := k6.frozen 7
  have bg := btrans bf b3
  have hz3 := b3.size
  go_wp2_with fail
  refine bodyPost_ret (v := .tuple #[.agg #[.int .i8 0, .int .i64 0, .int .i64 0, .int .i64 0, .int .i64 0, .slice none 0 0, .slice none 0 0, .int .i64 0], .int .i64 2]) (by simp [results, Tryd.results38, go_sem, y0, y1, y2, y3, y4, y5, y6, y7]) rfl ?_
  rw [HE.out, HCO.out]
  exact ⟨none, none, 0, 0, rfl, CoR.zero _ _ _ _, (bset (bset (bset (bset (bset (bset (bset (bset bg (by omega) _) (by omega) _) (by omega) _) (by omega) _) (by omega) _) (by omega) _) (by omega) _) (by omega) _), NewAt.none_, NewAt.none_⟩

set_option maxRecDepth 100000 in
set_option maxHeartbeats 2000000 in
theorem Prepare_d (c : Co) (A1 D1 : Option Addr) (c1 e1 : Nat) (th : Int) (w : World) (h1 : CoR w w.heap.size c A1 D1) (hg : HasET w) (k1 : 0 ≤ th ∧ th ≤ 20) (k2 : ¬ chkE c 2 true = 0) :
    Calls Tryd.prog 38 #[(.agg #[.int .i8 c.st, .int .i64 c.pid, .int .i64 c.ep, .int .i64 c.tm, .int .i64 c.th, .slice A1 c.ps.length c1, .slice D1 c.qs.length e1, .int .i64 c.ag]), .bool false, .int .i64 th] w (MvPost (prepC c false th) (prepE c false th) w) := by
  obtain ⟨n, hn⟩ : ∃ n, chkE c 2 true = n := ⟨_, rfl⟩
  have he : prepE c false th = n := by unfold prepE; rw [if_neg (by simp; omega), if_pos k2, hn]
  have hco : prepC c false th = Co0 := by unfold prepC; rw [he, if_neg (by rw [← hn]; exact k2)]
  have HE := Lib.hid he
  have HCO := Lib.hid hco
  have HCK := Lib.hid hn
  have HK2 := Lib.hid k2
  have d0 : decide (0 ≤ th) = true := decide_eq_true (by omega)
  have d1 : decide (th ≤ 20) = true := decide_eq_true (by omega)
  have h2 := (h1.al (.cells #[.int .i8 c.st, .int .i64 c.pid, .int .i64 c.ep, .int .i64 c.tm, .int .i64 c.th, .slice A1 c.ps.length c1, .slice D1 c.qs.length e1, .int .i64 c.ag] 26)).al (.cells #[.int .i8 0, .int .i64 0, .int .i64 0, .int .i64 0, .int .i64 0, .slice none 0 0, .slice none 0 0, .int .i64 0] 26)
  have hc := check_any c A1 D1 c1 e1 2 true _ _ h2 (Nat.le_refl _)
  have HC := Lib.hid hc
  have HB := Lib.hid (bal (bal (Below.refl w.heap.size w) (.cells #[.int .i8 c.st, .int .i64 c.pid, .int .i64 c.ep, .int .i64 c.tm, .int .i64 c.th, .slice A1 c.ps.length c1, .slice D1 c.qs.length e1, .int .i64 c.ag] 26)) (.cells #[.int .i8 0, .int .i64 0, .int .i64 0, .int .i64 0, .int .i64 0, .slice none 0 0, .slice none 0 0, .int .i64 0] 26))
  have K1 := Lib.hid ((Blk.new w 26 #[.int .i8 c.st, .int .i64 c.pid, .int .i64 c.ep, .int .i64 c.tm, .int .i64 c.th, .slice A1 c.ps.length c1, .slice D1 c.qs.length e1, .int .i64 c.ag]).alloc (.cells #[.int .i8 0, .int .i64 0, .int .i64 0, .int .i64 0, .int .i64 0, .slice none 0 0, .slice none 0 0, .int .i64 0] 26))
  have kk := Blk.new (w.alloc (.cells #[.int .i8 c.st, .int .i64 c.pid, .int .i64 c.ep, .int .i64 c.tm, .int .i64 c.th, .slice A1 c.ps.length c1, .slice D1 c.qs.length e1, .int .i64 c.ag] 26)) 26 #[.int .i8 0, .int .i64 0, .int .i64 0, .int .i64 0, .int .i64 0, .slice none 0 0, .slice none 0 0, .int .i64 0]
  rw [World.size_alloc] at kk
  have K2 := Lib.hid kk
  have HG := Lib.hid hg
  have H1 := Lib.hid h1
  have hps := h1.2.2.1
  have hqs := h1.2.2.2
  clear h2 hc kk h1 hg k1 k2 he hco hn
  go_enter Tryd.func38, Tryd.ntmps38
  go_wp2_with fail
  refine HC.out.mono ?_
  rintro e w2 ⟨b2, hres⟩
  have hz2 := b2.size
  simp only [World.size_alloc] at hz2
  have bf := btrans HB.out b2
  obtain ⟨b, rfl, hc2, hbge, hblt⟩ : FaultAt n _ e w2 := by
    rcases hres with ⟨hz, _⟩ | ⟨_, hf⟩
    · exact absurd hz HK2.out
    · rw [HCK.out] at hf; exact hf
  clear hres
  have hcode := code_fault b n w2 (HG.out.up bf) hc2
  have HnE := Lib.hid hcode
  clear hcode hc2
  go_wp2_with fail
  refine HnE.out.mono ?_
  rintro e w3 ⟨rfl, b3⟩
  have k6 := (K2.out.below b2 (by simp only [World.size_alloc]; omega)).below b3 (by omega)
  have y0 := k6.cell 0
  have z0 := k6.frozen 0
  have y1 := k6.cell 1
  have z1 := k6.frozen 1
  have y2 := k6.cell 2
  have z2 := k6.frozen 2
  have y3 := k6.cell 3
  have z3 := k6.frozen 3
  have y4 := k6.cell 4
  have z4 := k6.frozen 4
  have y5 := k6.cell 5
  have z5 := k6.frozen 5
  have y6 := k6.cell 6
  have z6 := k6.frozen 6
  have y7 := k6.cell 7
  have z7 := k6.frozen 7
  have bg := btrans bf b3
  have hz3 := b3.size
  go_wp2_with fail
  refine bodyPost_ret (v := .tuple #[.agg #[.int .i8 0, .int .i64 0, .int .i64 0, .int .i64 0, .int .i64 0, .slice none 0 0, .slice none 0 0, .int .i64 0], .int .i64 n]) (by simp [results, Tryd.results38, go_sem, y0, y1, y2, y3, y4, y5, y6, y7]) rfl ?_
  rw [HE.out, HCO.out]
  exact ⟨none, none, 0, 0, rfl, CoR.zero _ _ _ _, (bset (bset (bset (bset (bset (bset (bset (bset bg (by omega) _) (by omega) _) (by omega) _) (by omega) _) (by omega) _) (by omega) _) (by omega) _) (by omega) _), NewAt.none_, NewAt.none_⟩

set_option maxRecDepth 100000 in
set_option maxHeartbeats 2000000 in
theorem Prepare_e (c : Co) (A1 D1 : Option Addr) (c1 e1 : Nat) (w : World) (h1 : CoR w w.heap.size c A1 D1) (hg : HasET w)  (k2 : ¬ chkE c 2 true = 0) :
    Calls Tryd.prog 38 #[(.agg #[.int .i8 c.st, .int .i64 c.pid, .int .i64 c.ep, .int .i64 c.tm, .int .i64 c.th, .slice A1 c.ps.length c1, .slice D1 c.qs.length e1, .int .i64 c.ag]), .bool true, .int .i64 0] w (MvPost (prepC c true 0) (prepE c true 0) w) := by
  obtain ⟨n, hn⟩ : ∃ n, chkE c 2 true = n := ⟨_, rfl⟩
  have he : prepE c true 0 = n := by unfold prepE; rw [if_neg (by simp), if_pos k2, hn]
  have hco : prepC c true 0 = Co0 := by unfold prepC; rw [he, if_neg (by rw [← hn]; exact k2)]
  have HE := Lib.hid he
  have HCO := Lib.hid hco
  have HCK := Lib.hid hn
  have HK2 := Lib.hid k2
  have h2 := (h1.al (.cells #[.int .i8 c.st, .int .i64 c.pid, .int .i64 c.ep, .int .i64 c.tm, .int .i64 c.th, .slice A1 c.ps.length c1, .slice D1 c.qs.length e1, .int .i64 c.ag] 26)).al (.cells #[.int .i8 0, .int .i64 0, .int .i64 0, .int .i64 0, .int .i64 0, .slice none 0 0, .slice none 0 0, .int .i64 0] 26)
  have hc := check_any c A1 D1 c1 e1 2 true _ _ h2 (Nat.le_refl _)
  have HC := Lib.hid hc
  have HB := Lib.hid (bal (bal (Below.refl w.heap.size w) (.cells #[.int .i8 c.st, .int .i64 c.pid, .int .i64 c.ep, .int .i64 c.tm, .int .i64 c.th, .slice A1 c.ps.length c1, .slice D1 c.qs.length e1, .int .i64 c.ag] 26)) (.cells #[.int .i8 0, .int .i64 0, .int .i64 0, .int .i64 0, .int .i64 0, .slice none 0 0, .slice none 0 0, .int .i64 0] 26))
  have K1 := Lib.hid ((Blk.new w 26 #[.int .i8 c.st, .int .i64 c.pid, .int .i64 c.ep, .int .i64 c.tm, .int .i64 c.th, .slice A1 c.ps.length c1, .slice D1 c.qs.length e1, .int .i64 c.ag]).alloc (.cells #[.int .i8 0, .int .i64 0, .int .i64 0, .int .i64 0, .int .i64 0, .slice none 0 0, .slice none 0 0, .int .i64 0] 26))
  have kk := Blk.new (w.alloc (.cells #[.int .i8 c.st, .int .i64 c.pid, .int .i64 c.ep, .int .i64 c.tm, .int .i64 c.th, .slice A1 c.ps.length c1, .slice D1 c.qs.length e1, .int .i64 c.ag] 26)) 26 #[.int .i8 0, .int .i64 0, .int .i64 0, .int .i64 0, .int .i64 0, .slice none 0 0, .slice none 0 0, .int .i64 0]
  rw [World.size_alloc] at kk
  have K2 := Lib.hid kk
  have HG := Lib.hid hg
  have H1 := Lib.hid h1
  have hps := h1.2.2.1
  have hqs := h1.2.2.2
  clear h2 hc kk h1 hg k2 he hco hn
  go_enter Tryd.func38, Tryd.ntmps38
  go_wp2_with fail
  refine HC.out.mono ?_
  rintro e w2 ⟨b2, hres⟩
  have hz2 := b2.size
  simp only [World.size_alloc] at hz2
  have bf := btrans HB.out b2
  obtain ⟨b, rfl, hc2, hbge, hblt⟩ : FaultAt n _ e w2 := by
    rcases hres with ⟨hz, _⟩ | ⟨_, hf⟩
    · exact absurd hz HK2.out
    · rw [HCK.out] at hf; exact hf
  clear hres
  have hcode := code_fault b n w2 (HG.out.up bf) hc2
  have HnE := Lib.hid hcode
  clear hcode hc2
  go_wp2_with fail
  refine HnE.out.mono ?_
  rintro e w3 ⟨rfl, b3⟩
  have k6 := (K2.out.below b2 (by simp only [World.size_alloc]; omega)).below b3 (by omega)
  have y0 := k6.cell 0
  have z0 := k6.frozen 0
  have y1 := k6.cell 1
  have z1 := k6.frozen 1
  have y2 := k6.cell 2
  have z2 := k6.frozen 2
  have y3 := k6.cell 3
  have z3 := k6.frozen 3
  have y4 := k6.cell 4
  have z4 := k6.frozen 4
  have y5 := k6.cell 5
  have z5 := k6.frozen 5
  have y6 := k6.cell 6
  have z6 := k6.frozen 6
  have y7 := k6.cell 7
  have z7 := k6.frozen 7
  have bg := btrans bf b3
  have hz3 := b3.size
  go_wp2_with fail
  refine bodyPost_ret (v := .tuple #[.agg #[.int .i8 0, .int .i64 0, .int .i64 0, .int .i64 0, .int .i64 0, .slice none 0 0, .slice none 0 0, .int .i64 0], .int .i64 n]) (by simp [results, Tryd.results38, go_sem, y0, y1, y2, y3, y4, y5, y6, y7]) rfl ?_
  rw [HE.out, HCO.out]
  exact ⟨none, none, 0, 0, rfl, CoR.zero _ _ _ _, (bset (bset (bset (bset (bset (bset (bset (bset bg (by omega) _) (by omega) _) (by omega) _) (by omega) _) (by omega) _) (by omega) _) (by omega) _) (by omega) _), NewAt.none_, NewAt.none_⟩

set_option maxRecDepth 100000 in
set_option maxHeartbeats 2000000 in
theorem Prepare_f (c : Co) (A1 D1 : Option Addr) (c1 e1 : Nat) (th : Int) (w : World) (h1 : CoR w w.heap.size c A1 D1) (hg : HasET w) (k1 : 0 < th ∧ th ≤ 20) (k2 : chkE c 2 true = 0) (k3 : 100 ≤ c.ep) :
    Calls Tryd.prog 38 #[(.agg #[.int .i8 c.st, .int .i64 c.pid, .int .i64 c.ep, .int .i64 c.tm, .int .i64 c.th, .slice A1 c.ps.length c1, .slice D1 c.qs.length e1, .int .i64 c.ag]), .bool false, .int .i64 th] w (MvPost (prepC c false th) (prepE c false th) w) := by
  have he : prepE c false th = 102 := by unfold prepE; rw [if_neg (by simp; omega), if_neg (by rw [k2]; simp), if_pos ⟨k1.1, k3⟩]
  have hco : prepC c false th = Co0 := by unfold prepC; rw [he, if_neg (by decide)]
  have HE := Lib.hid he
  have HCO := Lib.hid hco
  have HK2 := Lib.hid k2
  have d0 : decide (0 ≤ th) = true := decide_eq_true (by omega)
  have d1 : decide (th ≤ 20) = true := decide_eq_true (by omega)
  have d2 : decide (0 < th) = true := decide_eq_true (by omega)
  have d3 : decide (100 ≤ c.ep) = true := decide_eq_true (by omega)
  have h2 := (h1.al (.cells #[.int .i8 c.st, .int .i64 c.pid, .int .i64 c.ep, .int .i64 c.tm, .int .i64 c.th, .slice A1 c.ps.length c1, .slice D1 c.qs.length e1, .int .i64 c.ag] 26)).al (.cells #[.int .i8 0, .int .i64 0, .int .i64 0, .int .i64 0, .int .i64 0, .slice none 0 0, .slice none 0 0, .int .i64 0] 26)
  have hc := check_any c A1 D1 c1 e1 2 true _ _ h2 (Nat.le_refl _)
  have HC := Lib.hid hc
  have HB := Lib.hid (bal (bal (Below.refl w.heap.size w) (.cells #[.int .i8 c.st, .int .i64 c.pid, .int .i64 c.ep, .int .i64 c.tm, .int .i64 c.th, .slice A1 c.ps.length c1, .slice D1 c.qs.length e1, .int .i64 c.ag] 26)) (.cells #[.int .i8 0, .int .i64 0, .int .i64 0, .int .i64 0, .int .i64 0, .slice none 0 0, .slice none 0 0, .int .i64 0] 26))
  have K1 := Lib.hid ((Blk.new w 26 #[.int .i8 c.st, .int .i64 c.pid, .int .i64 c.ep, .int .i64 c.tm, .int .i64 c.th, .slice A1 c.ps.length c1, .slice D1 c.qs.length e1, .int .i64 c.ag]).alloc (.cells #[.int .i8 0, .int .i64 0, .int .i64 0, .int .i64 0, .int .i64 0, .slice none 0 0, .slice none 0 0, .int .i64 0] 26))
  have kk := Blk.new (w.alloc (.cells #[.int .i8 c.st, .int .i64 c.pid, .int .i64 c.ep, .int .i64 c.tm, .int .i64 c.th, .slice A1 c.ps.length c1, .slice D1 c.qs.length e1, .int .i64 c.ag] 26)) 26 #[.int .i8 0, .int .i64 0, .int .i64 0, .int .i64 0, .int .i64 0, .slice none 0 0, .slice none 0 0, .int .i64 0]
  rw [World.size_alloc] at kk
  have K2 := Lib.hid kk
  have HG := Lib.hid hg
  have H1 := Lib.hid h1
  have hps := h1.2.2.1
  have hqs := h1.2.2.2
  clear h2 hc kk h1 hg k1 k2 he hco
  go_enter Tryd.func38, Tryd.ntmps38
  go_wp2_with fail
  refine HC.out.mono ?_
  rintro e w2 ⟨b2, hres⟩
  have hz2 := b2.size
  simp only [World.size_alloc] at hz2
  have bf := btrans HB.out b2
  obtain rfl : e = .returned .nilIface := by
    rcases hres with ⟨_, h⟩ | ⟨hz, _⟩
    · exact h
    · exact absurd HK2.out hz
  clear hres
  have k5 := K1.out.below b2 (by simp only [World.size_alloc]; omega)
  have x0 := k5.cell 0
  have x1 := k5.cell 1
  have x2 := k5.cell 2
  have x3 := k5.cell 3
  have x4 := k5.cell 4
  have x5 := k5.cell 5
  have x6 := k5.cell 6
  have x7 := k5.cell 7
  have hcode := code_fault w2.heap.size 102 (w2.alloc (.cells #[.string ⟨#[97, 110, 32, 101, 112, 111, 99, 104]⟩, .int .i64 102] 64)) (HG.out.up (bal bf _)) ((Blk.new w2 64 #[.string ⟨#[97, 110, 32, 101, 112, 111, 99, 104]⟩, .int .i64 102]).cell 1)
  have HCODE := Lib.hid hcode
  clear hcode
  go_wp2_with fail
  refine HCODE.out.mono ?_
  rintro e w3 ⟨rfl, b3⟩
  have hz3 := b3.size
  simp only [World.size_alloc] at hz3
  have k6 := ((K2.out.below b2 (by simp only [World.size_alloc]; omega)).alloc (.cells #[.string ⟨#[97, 110, 32, 101, 112, 111, 99, 104]⟩, .int .i64 102] 64)).below b3 (by simp only [World.size_alloc]; omega)
  have y0 := k6.cell 0
  have z0 := k6.frozen 0
  have y1 := k6.cell 1
  have z1 := k6.frozen 1
  have y2 := k6.cell 2
  have z2 := k6.frozen 2
  have y3 := k6.cell 3
  have z3 := k6.frozen 3
  have y4 := k6.cell 4
  have z4 := k6.frozen 4
  have y5 := k6.cell 5
  have z5 := k6.frozen 5
  have y6 := k6.cell 6
  have z6 := k6.frozen 6
  have y7 := k6.cell 7
  have z7 := k6.frozen 7
  have bg := btrans (bal bf _) b3
  go_wp2_with fail
  refine bodyPost_ret (v := .tuple #[.agg #[.int .i8 0, .int .i64 0, .int .i64 0, .int .i64 0, .int .i64 0, .slice none 0 0, .slice none 0 0, .int .i64 0], .int .i64 102]) (by simp [results, Tryd.results38, go_sem, y0, y1, y2, y3, y4, y5, y6, y7]) rfl ?_
  rw [HE.out, HCO.out]
  exact ⟨none, none, 0, 0, rfl, CoR.zero _ _ _ _, (bset (bset (bset (bset (bset (bset (bset (bset bg (by omega) _) (by omega) _) (by omega) _) (by omega) _) (by omega) _) (by omega) _) (by omega) _) (by omega) _), NewAt.none_, NewAt.none_⟩

set_option maxRecDepth 100000 in
set_option maxHeartbeats 2000000 in
theorem Prepare_g (c : Co) (A1 D1 : Option Addr) (c1 e1 : Nat) (th : Int) (w : World) (h1 : CoR w w.heap.size c A1 D1) (hg : HasET w) (k1 : 0 < th ∧ th ≤ 20) (k3 : c.ep < 100) (k2 : chkE c 2 true = 0) :
    Calls Tryd.prog 38 #[(.agg #[.int .i8 c.st, .int .i64 c.pid, .int .i64 c.ep, .int .i64 c.tm, .int .i64 c.th, .slice A1 c.ps.length c1, .slice D1 c.qs.length e1, .int .i64 c.ag]), .bool false, .int .i64 th] w (MvPost (prepC c false th) (prepE c false th) w) := by
  have he : prepE c false th = 0 := by unfold prepE; rw [if_neg (by simp; omega), if_neg (by rw [k2]; simp), if_neg (by omega)]
  have hco : prepC c false th = { c with st := 4, th := th } := by unfold prepC; rw [he, if_pos rfl]; rfl
  have HE := Lib.hid he
  have HCO := Lib.hid hco
  have HK2 := Lib.hid k2
  have d0 : decide (0 ≤ th) = true := decide_eq_true (by omega)
  have d1 : decide (th ≤ 20) = true := decide_eq_true (by omega)
  have d2 : decide (0 < th) = true := decide_eq_true (by omega)
  have d3 : decide (100 ≤ c.ep) = false := decide_eq_false (by omega)
  have h2 := (h1.al (.cells #[.int .i8 c.st, .int .i64 c.pid, .int .i64 c.ep, .int .i64 c.tm, .int .i64 c.th, .slice A1 c.ps.length c1, .slice D1 c.qs.length e1, .int .i64 c.ag] 26)).al (.cells #[.int .i8 0, .int .i64 0, .int .i64 0, .int .i64 0, .int .i64 0, .slice none 0 0, .slice none 0 0, .int .i64 0] 26)
  have hc := check_any c A1 D1 c1 e1 2 true _ _ h2 (Nat.le_refl _)
  have HC := Lib.hid hc
  have HB := Lib.hid (bal (bal (Below.refl w.heap.size w) (.cells #[.int .i8 c.st, .int .i64 c.pid, .int .i64 c.ep, .int .i64 c.tm, .int .i64 c.th, .slice A1 c.ps.length c1, .slice D1 c.qs.length e1, .int .i64 c.ag] 26)) (.cells #[.int .i8 0, .int .i64 0, .int .i64 0, .int .i64 0, .int .i64 0, .slice none 0 0, .slice none 0 0, .int .i64 0] 26))
  have K1 := Lib.hid ((Blk.new w 26 #[.int .i8 c.st, .int .i64 c.pid, .int .i64 c.ep, .int .i64 c.tm, .int .i64 c.th, .slice A1 c.ps.length c1, .slice D1 c.qs.length e1, .int .i64 c.ag]).alloc (.cells #[.int .i8 0, .int .i64 0, .int .i64 0, .int .i64 0, .int .i64 0, .slice none 0 0, .slice none 0 0, .int .i64 0] 26))
  have kk := Blk.new (w.alloc (.cells #[.int .i8 c.st, .int .i64 c.pid, .int .i64 c.ep, .int .i64 c.tm, .int .i64 c.th, .slice A1 c.ps.length c1, .slice D1 c.qs.length e1, .int .i64 c.ag] 26)) 26 #[.int .i8 0, .int .i64 0, .int .i64 0, .int .i64 0, .int .i64 0, .slice none 0 0, .slice none 0 0, .int .i64 0]
  rw [World.size_alloc] at kk
  have K2 := Lib.hid kk
  have HG := Lib.hid hg
  have H1 := Lib.hid h1
  have hps := h1.2.2.1
  have hqs := h1.2.2.2
  clear h2 hc kk h1 hg k1 k3 k2 he hco
  go_enter Tryd.func38, Tryd.ntmps38
  go_wp2_with fail
  refine HC.out.mono ?_
  rintro e w2 ⟨b2, hres⟩
  have hz2 := b2.size
  simp only [World.size_alloc] at hz2
  have bf := btrans HB.out b2
  obtain rfl : e = .returned .nilIface := by
    rcases hres with ⟨_, h⟩ | ⟨hz, _⟩
    · exact h
    · exact absurd HK2.out hz
  clear hres
  have k5 := K1.out.below b2 (by simp only [World.size_alloc]; omega)
  have k6 := K2.out.below b2 (by simp only [World.size_alloc]; omega)
  have x0 := k5.cell 0
  have x1 := k5.cell 1
  have x2 := k5.cell 2
  have x3 := k5.cell 3
  have x4 := k5.cell 4
  have x5 := k5.cell 5
  have x6 := k5.cell 6
  have x7 := k5.cell 7
  have HOWN := Lib.hid (own_any c A1 D1 c1 e1 w2 (H1.out.up bf))
  go_wp2_with fail
  refine HOWN.out.mono ?_
  rintro e w3 ⟨A3, D3, c3, e3, rfl, r3, b3, f3, g3⟩
  have k7 := k6.below b3 (by omega)
  have hz3 := b3.size
  have hlt3 : w.heap.size + 1 < w3.heap.size := by omega
  have hne3 : ¬ w.heap.size + 1 = w3.heap.size := by omega
  have y0 := k7.cell 0
  have z0 := k7.frozen 0
  have y1 := k7.cell 1
  have z1 := k7.frozen 1
  have y2 := k7.cell 2
  have z2 := k7.frozen 2
  have y3 := k7.cell 3
  have z3 := k7.frozen 3
  have y4 := k7.cell 4
  have z4 := k7.frozen 4
  have y5 := k7.cell 5
  have z5 := k7.frozen 5
  have y6 := k7.cell 6
  have z6 := k7.frozen 6
  have y7 := k7.cell 7
  have z7 := k7.frozen 7
  have bg := btrans bf b3
  clear x0 x1 x2 x3 x4 x5 x6 x7
  go_wp2_with fail
  refine bodyPost_ret (v := .tuple #[.agg #[.int .i8 4, .int .i64 c.pid, .int .i64 c.ep, .int .i64 c.tm, .int .i64 th, .slice A3 c.ps.length c3, .slice D3 c.qs.length e3, .int .i64 c.ag], .int .i64 0]) (by simp [results, Tryd.results38, go_sem, y0, y1, y2, y3, y4, y5, y6, y7, hlt3, hne3]) rfl ?_
  rw [HE.out, HCO.out]
  refine ⟨A3, D3, c3, e3, rfl, ?_, ?_, f3.mono (by have := bf.size; omega), g3.mono (by have := bf.size; omega)⟩
  · exact CoR.al (CoR.sets (CoR.sets (CoR.sets (CoR.sets (CoR.sets (CoR.sets (CoR.sets (CoR.sets r3 f3 g3 (by omega) _) f3 g3 (by omega) _) f3 g3 (by omega) _) f3 g3 (by omega) _) f3 g3 (by omega) _) f3 g3 (by omega) _) f3 g3 (by omega) _) f3 g3 (by omega) _) _
  · exact bal (bset (bset (bset (bset (bset (bset (bset (bset bg (by omega) _) (by omega) _) (by omega) _) (by omega) _) (by omega) _) (by omega) _) (by omega) _) (by omega) _) _

set_option maxRecDepth 100000 in
set_option maxHeartbeats 2000000 in
theorem Prepare_h (c : Co) (A1 D1 : Option Addr) (c1 e1 : Nat) (w : World) (h1 : CoR w w.heap.size c A1 D1) (hg : HasET w)  (k2 : chkE c 2 true = 0) :
    Calls Tryd.prog 38 #[(.agg #[.int .i8 c.st, .int .i64 c.pid, .int .i64 c.ep, .int .i64 c.tm, .int .i64 c.th, .slice A1 c.ps.length c1, .slice D1 c.qs.length e1, .int .i64 c.ag]), .bool false, .int .i64 0] w (MvPost (prepC c false 0) (prepE c false 0) w) := by
  have he : prepE c false 0 = 0 := by unfold prepE; rw [if_neg (by simp), if_neg (by rw [k2]; simp), if_neg (by omega)]
  have hco : prepC c false 0 = { c with st := 4, th := 0 } := by unfold prepC; rw [he, if_pos rfl]; rfl
  have HE := Lib.hid he
  have HCO := Lib.hid hco
  have HK2 := Lib.hid k2
  have h2 := (h1.al (.cells #[.int .i8 c.st, .int .i64 c.pid, .int .i64 c.ep, .int .i64 c.tm, .int .i64 c.th, .slice A1 c.ps.length c1, .slice D1 c.qs.length e1, .int .i64 c.ag] 26)).al (.cells #[.int .i8 0, .int .i64 0, .int .i64 0, .int .i64 0, .int .i64 0, .slice none 0 0, .slice none 0 0, .int .i64 0] 26)
  have hc := check_any c A1 D1 c1 e1 2 true _ _ h2 (Nat.le_refl _)
  have HC := Lib.hid hc
  have HB := Lib.hid (bal (bal (Below.refl w.heap.size w) (.cells #[.int .i8 c.st, .int .i64 c.pid, .int .i64 c.ep, .int .i64 c.tm, .int .i64 c.th, .slice A1 c.ps.length c1, .slice D1 c.qs.length e1, .int .i64 c.ag] 26)) (.cells #[.int .i8 0, .int .i64 0, .int .i64 0, .int .i64 0, .int .i64 0, .slice none 0 0, .slice none 0 0, .int .i64 0] 26))
  have K1 := Lib.hid ((Blk.new w 26 #[.int .i8 c.st, .int .i64 c.pid, .int .i64 c.ep, .int .i64 c.tm, .int .i64 c.th, .slice A1 c.ps.length c1, .slice D1 c.qs.length e1, .int .i64 c.ag]).alloc (.cells #[.int .i8 0, .int .i64 0, .int .i64 0, .int .i64 0, .int .i64 0, .slice none 0 0, .slice none 0 0, .int .i64 0] 26))
  have kk := Blk.new (w.alloc (.cells #[.int .i8 c.st, .int .i64 c.pid, .int .i64 c.ep, .int .i64 c.tm, .int .i64 c.th, .slice A1 c.ps.length c1, .slice D1 c.qs.length e1, .int .i64 c.ag] 26)) 26 #[.int .i8 0, .int .i64 0, .int .i64 0, .int .i64 0, .int .i64 0, .slice none 0 0, .slice none 0 0, .int .i64 0]
  rw [World.size_alloc] at kk
  have K2 := Lib.hid kk
  have HG := Lib.hid hg
  have H1 := Lib.hid h1
  have hps := h1.2.2.1
  have hqs := h1.2.2.2
  clear h2 hc kk h1 hg k2 he hco
  go_enter Tryd.func38, Tryd.ntmps38
  go_wp2_with fail
  refine HC.out.mono ?_
  rintro e w2 ⟨b2, hres⟩
  have hz2 := b2.size
  simp only [World.size_alloc] at hz2
  have bf := btrans HB.out b2
  obtain rfl : e = .returned .nilIface := by
    rcases hres with ⟨_, h⟩ | ⟨hz, _⟩
    · exact h
    · exact absurd HK2.out hz
  clear hres
  have k5 := K1.out.below b2 (by simp only [World.size_alloc]; omega)
  have k6 := K2.out.below b2 (by simp only [World.size_alloc]; omega)
  have x0 := k5.cell 0
  have x1 := k5.cell 1
  have x2 := k5.cell 2
  have x3 := k5.cell 3
  have x4 := k5.cell 4
  have x5 := k5.cell 5
  have x6 := k5.cell 6
  have x7 := k5.cell 7
  have HOWN := Lib.hid (own_any c A1 D1 c1 e1 w2 (H1.out.up bf))
  go_wp2_with fail
  refine HOWN.out.mono ?_
  rintro e w3 ⟨A3, D3, c3, e3, rfl, r3, b3, f3, g3⟩
  have k7 := k6.below b3 (by omega)
  have hz3 := b3.size
  have hlt3 : w.heap.size + 1 < w3.heap.size := by omega
  have hne3 : ¬ w.heap.size + 1 = w3.heap.size := by omega
  have y0 := k7.cell 0
  have z0 := k7.frozen 0
  have y1 := k7.cell 1
  have z1 := k7.frozen 1
  have y2 := k7.cell 2
  have z2 := k7.frozen 2
  have y3 := k7.cell 3
  have z3 := k7.frozen 3
  have y4 := k7.cell 4
  have z4 := k7.frozen 4
  have y5 := k7.cell 5
  have z5 := k7.frozen 5
  have y6 := k7.cell 6
  have z6 := k7.frozen 6
  have y7 := k7.cell 7
  have z7 := k7.frozen 7
  have bg := btrans bf b3
  clear x0 x1 x2 x3 x4 x5 x6 x7
  go_wp2_with fail
  refine bodyPost_ret (v := .tuple #[.agg #[.int .i8 4, .int .i64 c.pid, .int .i64 c.ep, .int .i64 c.tm, .int .i64 0, .slice A3 c.ps.length c3, .slice D3 c.qs.length e3, .int .i64 c.ag], .int .i64 0]) (by simp [results, Tryd.results38, go_sem, y0, y1, y2, y3, y4, y5, y6, y7, hlt3, hne3]) rfl ?_
  rw [HE.out, HCO.out]
  refine ⟨A3, D3, c3, e3, rfl, ?_, ?_, f3.mono (by have := bf.size; omega), g3.mono (by have := bf.size; omega)⟩
  · exact CoR.al (CoR.sets (CoR.sets (CoR.sets (CoR.sets (CoR.sets (CoR.sets (CoR.sets (CoR.sets r3 f3 g3 (by omega) _) f3 g3 (by omega) _) f3 g3 (by omega) _) f3 g3 (by omega) _) f3 g3 (by omega) _) f3 g3 (by omega) _) f3 g3 (by omega) _) f3 g3 (by omega) _) _
  · exact bal (bset (bset (bset (bset (bset (bset (bset (bset bg (by omega) _) (by omega) _) (by omega) _) (by omega) _) (by omega) _) (by omega) _) (by omega) _) (by omega) _) _

set_option maxRecDepth 100000 in
set_option maxHeartbeats 2000000 in
theorem Prepare_i (c : Co) (A1 D1 : Option Addr) (c1 e1 : Nat) (w : World) (h1 : CoR w w.heap.size c A1 D1) (hg : HasET w)  (k2 : chkE c 2 true = 0) :
    Calls Tryd.prog 38 #[(.agg #[.int .i8 c.st, .int .i64 c.pid, .int .i64 c.ep, .int .i64 c.tm, .int .i64 c.th, .slice A1 c.ps.length c1, .slice D1 c.qs.length e1, .int .i64 c.ag]), .bool true, .int .i64 0] w (MvPost (prepC c true 0) (prepE c true 0) w) := by
  have he : prepE c true 0 = 0 := by unfold prepE; rw [if_neg (by simp), if_neg (by rw [k2]; simp), if_neg (by omega)]
  have hco : prepC c true 0 = { c with st := 3, th := 0 } := by unfold prepC; rw [he, if_pos rfl]; rfl
  have HE := Lib.hid he
  have HCO := Lib.hid hco
  have HK2 := Lib.hid k2
  have h2 := (h1.al (.cells #[.int .i8 c.st, .int .i64 c.pid, .int .i64 c.ep, .int .i64 c.tm, .int .i64 c.th, .slice A1 c.ps.length c1, .slice D1 c.qs.length e1, .int .i64 c.ag] 26)).al (.cells #[.int .i8 0, .int .i64 0, .int .i64 0, .int .i64 0, .int .i64 0, .slice none 0 0, .slice none 0 0, .int .i64 0] 26)
  have hc := check_any c A1 D1 c1 e1 2 true _ _ h2 (Nat.le_refl _)
  have HC := Lib.hid hc
  have HB := Lib.hid (bal (bal (Below.refl w.heap.size w) (.cells #[.int .i8 c.st, .int .i64 c.pid, .int .i64 c.ep, .int .i64 c.tm, .int .i64 c.th, .slice A1 c.ps.length c1, .slice D1 c.qs.length e1, .int .i64 c.ag] 26)) (.cells #[.int .i8 0, .int .i64 0, .int .i64 0, .int .i64 0, .int .i64 0, .slice none 0 0, .slice none 0 0, .int .i64 0] 26))
  have K1 := Lib.hid ((Blk.new w 26 #[.int .i8 c.st, .int .i64 c.pid, .int .i64 c.ep, .int .i64 c.tm, .int .i64 c.th, .slice A1 c.ps.length c1, .slice D1 c.qs.length e1, .int .i64 c.ag]).alloc (.cells #[.int .i8 0, .int .i64 0, .int .i64 0, .int .i64 0, .int .i64 0, .slice none 0 0, .slice none 0 0, .int .i64 0] 26))
  have kk := Blk.new (w.alloc (.cells #[.int .i8 c.st, .int .i64 c.pid, .int .i64 c.ep, .int .i64 c.tm, .int .i64 c.th, .slice A1 c.ps.length c1, .slice D1 c.qs.length e1, .int .i64 c.ag] 26)) 26 #[.int .i8 0, .int .i64 0, .int .i64 0, .int .i64 0, .int .i64 0, .slice none 0 0, .slice none 0 0, .int .i64 0]
  rw [World.size_alloc] at kk
  have K2 := Lib.hid kk
  have HG := Lib.hid hg
  have H1 := Lib.hid h1
  have hps := h1.2.2.1
  have hqs := h1.2.2.2
  clear h2 hc kk h1 hg k2 he hco
  go_enter Tryd.func38, Tryd.ntmps38
  go_wp2_with fail
  refine HC.out.mono ?_
  rintro e w2 ⟨b2, hres⟩
  have hz2 := b2.size
  simp only [World.size_alloc] at hz2
  have bf := btrans HB.out b2
  obtain rfl : e = .returned .nilIface := by
    rcases hres with ⟨_, h⟩ | ⟨hz, _⟩
    · exact h
    · exact absurd HK2.out hz
  clear hres
  have k5 := K1.out.below b2 (by simp only [World.size_alloc]; omega)
  have k6 := K2.out.below b2 (by simp only [World.size_alloc]; omega)
  have x0 := k5.cell 0
  have x1 := k5.cell 1
  have x2 := k5.cell 2
  have x3 := k5.cell 3
  have x4 := k5.cell 4
  have x5 := k5.cell 5
  have x6 := k5.cell 6
  have x7 := k5.cell 7
  have HOWN := Lib.hid (own_any c A1 D1 c1 e1 w2 (H1.out.up bf))
  go_wp2_with fail
  refine HOWN.out.mono ?_
  rintro e w3 ⟨A3, D3, c3, e3, rfl, r3, b3, f3, g3⟩
  have k7 := k6.below b3 (by omega)
  have hz3 := b3.size
  have hlt3 : w.heap.size + 1 < w3.heap.size := by omega
  have hne3 : ¬ w.heap.size + 1 = w3.heap.size := by omega
  have y0 := k7.cell 0
  have z0 := k7.frozen 0
  have y1 := k7.cell 1
  have z1 := k7.frozen 1
  have y2 := k7.cell 2
  have z2 := k7.frozen 2
  have y3 := k7.cell 3
  have z3 := k7.frozen 3
  have y4 := k7.cell 4
  have z4 := k7.frozen 4
  have y5 := k7.cell 5
  have z5 := k7.frozen 5
  have y6 := k7.cell 6
  have z6 := k7.frozen 6
  have y7 := k7.cell 7
  have z7 := k7.frozen 7
  have bg := btrans bf b3
  clear x0 x1 x2 x3 x4 x5 x6 x7
  go_wp2_with fail
  refine bodyPost_ret (v := .tuple #[.agg #[.int .i8 3, .int .i64 c.pid, .int .i64 c.ep, .int .i64 c.tm, .int .i64 0, .slice A3 c.ps.length c3, .slice D3 c.qs.length e3, .int .i64 c.ag], .int .i64 0]) (by simp [results, Tryd.results38, go_sem, y0, y1, y2, y3, y4, y5, y6, y7, hlt3, hne3]) rfl ?_
  rw [HE.out, HCO.out]
  refine ⟨A3, D3, c3, e3, rfl, ?_, ?_, f3.mono (by have := bf.size; omega), g3.mono (by have := bf.size; omega)⟩
  · exact CoR.al (CoR.sets (CoR.sets (CoR.sets (CoR.sets (CoR.sets (CoR.sets (CoR.sets (CoR.sets r3 f3 g3 (by omega) _) f3 g3 (by omega) _) f3 g3 (by omega) _) f3 g3 (by omega) _) f3 g3 (by omega) _) f3 g3 (by omega) _) f3 g3 (by omega) _) f3 g3 (by omega) _) _
  · exact bal (bset (bset (bset (bset (bset (bset (bset (bset bg (by omega) _) (by omega) _) (by omega) _) (by omega) _) (by omega) _) (by omega) _) (by omega) _) (by omega) _) _

theorem Prepare_any (c : Co) (A1 D1 : Option Addr) (c1 e1 : Nat) (yes : Bool) (th : Int) (w : World) (h1 : CoR w w.heap.size c A1 D1) (hg : HasET w) :
    Calls Tryd.prog 38 #[(.agg #[.int .i8 c.st, .int .i64 c.pid, .int .i64 c.ep, .int .i64 c.tm, .int .i64 c.th, .slice A1 c.ps.length c1, .slice D1 c.qs.length e1, .int .i64 c.ag]), .bool yes, .int .i64 th] w (MvPost (prepC c yes th) (prepE c yes th) w) := by
  rcases Int.lt_or_le th 0 with j1 | j1
  · exact Prepare_a c A1 D1 c1 e1 yes th w h1 hg j1
  rcases Int.lt_or_le 20 th with j2 | j2
  · exact Prepare_b c A1 D1 c1 e1 yes th w h1 hg j2
  by_cases j3 : th = 0
  · subst j3
    by_cases k2 : chkE c 2 true = 0
    · cases yes
      · exact Prepare_h c A1 D1 c1 e1 w h1 hg k2
      · exact Prepare_i c A1 D1 c1 e1 w h1 hg k2
    · cases yes
      · exact Prepare_d c A1 D1 c1 e1 0 w h1 hg ⟨j1, j2⟩ k2
      · exact Prepare_e c A1 D1 c1 e1 w h1 hg k2
  · cases yes
    · by_cases k2 : chkE c 2 true = 0
      · rcases Int.lt_or_le c.ep 100 with k3 | k3
        · exact Prepare_g c A1 D1 c1 e1 th w h1 hg ⟨by omega, j2⟩ k3 k2
        · exact Prepare_f c A1 D1 c1 e1 th w h1 hg ⟨by omega, j2⟩ k2 k3
      · exact Prepare_d c A1 D1 c1 e1 th w h1 hg ⟨j1, j2⟩ k2
    · exact Prepare_c c A1 D1 c1 e1 th w h1 hg ⟨by omega, j2⟩
end Go.Proofs.YtagclnmchkgpdaaDoor
namespace Go.Proofs.YtagclnmchkgpdaaDoor
open Go.RowKit

/-- A move. -/
structure Mv where
  k : Int
  a : Int
  b : Int
  p : Pd
  yes : Bool
  l : List Int
noncomputable def mvE (c : Co) (x : Mv) : Int :=
  if x.k = 0 then initE c x.a x.b else if x.k = 1 then addE c x.a else if x.k = 2 then setE c x.p else if x.k = 3 then prepE c x.yes x.a else if x.k = 4 then chkE c 3 true else if x.k = 5 then 0 else placeE c x.l
noncomputable def mvC (c : Co) (x : Mv) : Co :=
  if x.k = 0 then initC c x.a x.b else if x.k = 1 then addC c x.a else if x.k = 2 then setC c x.p else if x.k = 3 then prepC c x.yes x.a else if x.k = 4 then compC c else if x.k = 5 then tickC c else placeC c x.l
/-- What a move leaves: a transactional id, a code; nothing that was there is changed. -/
def MvP (c : Co) (A D : Option Addr) (d : Co) (code : Int) (w : World) (e : Ending) (w' : World) : Prop :=
  ∃ (A1 D1 : Option Addr) (c1 e1 : Nat), e = .returned (.tuple #[(.agg #[.int .i8 d.st, .int .i64 d.pid, .int .i64 d.ep, .int .i64 d.tm, .int .i64 d.th, .slice A1 d.ps.length c1, .slice D1 d.qs.length e1, .int .i64 d.ag]), .int .i64 code]) ∧ CoR w' w'.heap.size d A1 D1 ∧ Below w.heap.size w w' ∧ ∀ b, b < w.heap.size → OffB b c.ps.length A → OffB b c.qs.length D → OffB b d.ps.length A1 ∧ OffB b d.qs.length D1
theorem reads_hold {w w' : World} {B size n : Nat} {A : Option Addr} {xs : List Value} (h : Reads w B size A n xs) (hA : 0 < n → ∀ ad, A = some ad → w'.heap[ad.block]? = w.heap[ad.block]?) : Reads w' B size A n xs :=
  ⟨h.1, fun hn => by
    obtain ⟨ad, rfl, hb, hc⟩ := h.2 hn
    refine ⟨ad, rfl, hb, fun j u hu => ?_⟩
    rw [← hc j u hu]
    exact World.cell?_of_block (by rw [block_of_add]; exact hA hn ad rfl)⟩
theorem newAt_block {lo n : Nat} {A : Option Addr} (h : NewAt lo n A) (hn : 0 < n) {ad : Addr} (e : A = some ad) : lo ≤ ad.block := by
  obtain ⟨x, hx, hb⟩ := h hn
  rw [e] at hx
  injection hx with hx
  subst hx
  exact hb
/-- The lists of a transactional id keep, where one block below them is filled anew. -/
theorem CoR.hold {w w' : World} {c : Co} {A D : Option Addr} {lo b : Nat} (h : CoR w w.heap.size c A D) (f : NewAt lo c.ps.length A) (g : NewAt lo c.qs.length D) (hb : b < lo) (k : ∀ y, y ≠ b → w'.heap[y]? = w.heap[y]?) (hs : w'.heap.size = w.heap.size) : CoR w' w'.heap.size c A D := by
  rw [hs]
  exact ⟨reads_hold h.1 (fun hn ad e => k _ (by have := newAt_block f hn e; omega)), reads_hold h.2.1 (fun hn ad e => k _ (by have := newAt_block g hn e; omega)), h.2.2⟩
theorem may_ep {c : Co} (h : mayB c = true) : 0 ≤ c.ep ∧ c.ep ≤ 100 := by
  by_cases h0 : c.st = 0
  · rw [may_none h h0]; exact ⟨by decide, by decide⟩
  have h1 := may_range h h0
  unfold rangeB at h1
  simp only [Bool.and_eq_true, decide_eq_true_eq] at h1
  omega
theorem Init_all (c : Co) (A1 D1 : Option Addr) (c1 e1 : Nat) (pid tm : Int) (w : World) (h1 : CoR w w.heap.size c A1 D1) (hg : HasET w) :
    Calls Tryd.prog 23 #[(.agg #[.int .i8 c.st, .int .i64 c.pid, .int .i64 c.ep, .int .i64 c.tm, .int .i64 c.th, .slice A1 c.ps.length c1, .slice D1 c.qs.length e1, .int .i64 c.ag]), .int .i64 pid, .int .i64 tm] w (MvPost (initC c pid tm) (initE c pid tm) w) := by
  by_cases k2 : chkE c 0 true = 0
  · exact Init_any c A1 D1 c1 e1 pid tm w h1 hg (by have := may_ep (chk_may k2).1; omega)
  · by_cases k1 : 1 ≤ pid ∧ pid ≤ 8 ∧ 1 ≤ tm ∧ tm ≤ 20
    · exact Init_e c A1 D1 c1 e1 pid tm w h1 hg k1 k2
    · have h : pid < 1 ∨ 8 < pid ∨ (1 ≤ pid ∧ pid ≤ 8 ∧ tm < 1) ∨ (1 ≤ pid ∧ pid ≤ 8 ∧ 20 < tm) := by omega
      rcases h with h | h | h | h
      · exact Init_a c A1 D1 c1 e1 pid tm w h1 hg h
      · exact Init_b c A1 D1 c1 e1 pid tm w h1 hg h
      · exact Init_c c A1 D1 c1 e1 pid tm w h1 hg h
      · exact Init_d c A1 D1 c1 e1 pid tm w h1 hg h
theorem Complete_all (c : Co) (A1 D1 : Option Addr) (c1 e1 : Nat) (w : World) (h1 : CoR w w.heap.size c A1 D1) (hg : HasET w) :
    Calls Tryd.prog 39 #[(.agg #[.int .i8 c.st, .int .i64 c.pid, .int .i64 c.ep, .int .i64 c.tm, .int .i64 c.th, .slice A1 c.ps.length c1, .slice D1 c.qs.length e1, .int .i64 c.ag])] w (MvPost (compC c) (chkE c 3 true) w) := by
  by_cases k2 : chkE c 3 true = 0
  · have := may_ep (chk_may k2).1
    exact Complete_any c A1 D1 c1 e1 w h1 hg (by omega) (by omega)
  · exact Complete_a c A1 D1 c1 e1 w h1 hg k2
section
attribute [-go_sem] loadCells storeVar
set_option maxRecDepth 100000 in
theorem moves_ret (x : Co) (A5 D5 : Option Addr) (c5 e5 : Nat) (n : Int) (tmps : Array Value) (b : Nat) (W : World) (h2 : tmps[4]?.getD undef = .pointer (some ⟨b, 0, none⟩)) (h3 : tmps[5]?.getD undef = .int .i64 n) (hK : Blk W b 26 #[.int .i8 x.st, .int .i64 x.pid, .int .i64 x.ep, .int .i64 x.tm, .int .i64 x.th, .slice A5 x.ps.length c5, .slice D5 x.qs.length e5, .int .i64 x.ag]) :
    (results Tryd.f21 tmps).run Tryd.prog W = .ok (.tuple #[(.agg #[.int .i8 x.st, .int .i64 x.pid, .int .i64 x.ep, .int .i64 x.tm, .int .i64 x.th, .slice A5 x.ps.length c5, .slice D5 x.qs.length e5, .int .i64 x.ag]), .int .i64 n]) W := by
  have LC := bk_load (P := Tryd.prog) 8 hK rfl
  clear hK
  simp [results, Tryd.results21, go_sem, h2, h3, LC]

set_option maxRecDepth 100000 in
set_option maxHeartbeats 2000000 in
theorem moves_0 (c : Co) (A1 D1 : Option Addr) (c1 e1 : Nat) (x : Mv) (L1 : Option Addr) (m1 : Nat) (w : World) (h1 : CoR w w.heap.size c A1 D1) (hg : HasET w) (hk : x.k = 0) :
    Calls Tryd.prog 21 #[(.agg #[.int .i8 c.st, .int .i64 c.pid, .int .i64 c.ep, .int .i64 c.tm, .int .i64 c.th, .slice A1 c.ps.length c1, .slice D1 c.qs.length e1, .int .i64 c.ag]), (.agg #[.int .i64 x.k, .int .i64 x.a, .int .i64 x.b, .int .i64 x.p.1, .int .i64 x.p.2.1, .int .i64 x.p.2.2, .bool x.yes, .slice L1 x.l.length m1])] w (MvP c A1 D1 (initC c x.a x.b) (initE c x.a x.b) w) := by
  obtain ⟨W0, hW0⟩ : ∃ W0, W0 = ((w.alloc (.cells #[.int .i8 c.st, .int .i64 c.pid, .int .i64 c.ep, .int .i64 c.tm, .int .i64 c.th, .slice A1 c.ps.length c1, .slice D1 c.qs.length e1, .int .i64 c.ag] 26)).alloc (.cells #[.int .i64 x.k, .int .i64 x.a, .int .i64 x.b, .int .i64 x.p.1, .int .i64 x.p.2.1, .int .i64 x.p.2.2, .bool x.yes, .slice L1 x.l.length m1] 40)).alloc (.cells #[.int .i8 0, .int .i64 0, .int .i64 0, .int .i64 0, .int .i64 0, .slice none 0 0, .slice none 0 0, .int .i64 0] 26) := ⟨_, rfl⟩
  have s0 : W0.heap.size = w.heap.size + 1 + 1 + 1 := by rw [hW0]; simp
  have B0 : Below w.heap.size w W0 := by rw [hW0]; exact bal (bal (bal (Below.refl _ _) _) _) _
  have K1 : Blk W0 w.heap.size 26 #[.int .i8 c.st, .int .i64 c.pid, .int .i64 c.ep, .int .i64 c.tm, .int .i64 c.th, .slice A1 c.ps.length c1, .slice D1 c.qs.length e1, .int .i64 c.ag] := by rw [hW0]; exact ((Blk.new w 26 #[.int .i8 c.st, .int .i64 c.pid, .int .i64 c.ep, .int .i64 c.tm, .int .i64 c.th, .slice A1 c.ps.length c1, .slice D1 c.qs.length e1, .int .i64 c.ag]).alloc _).alloc _
  have K2 : Blk W0 (w.heap.size + 1) 40 #[.int .i64 x.k, .int .i64 x.a, .int .i64 x.b, .int .i64 x.p.1, .int .i64 x.p.2.1, .int .i64 x.p.2.2, .bool x.yes, .slice L1 x.l.length m1] := by rw [hW0]; exact (bk_new _ 40 #[.int .i64 x.k, .int .i64 x.a, .int .i64 x.b, .int .i64 x.p.1, .int .i64 x.p.2.1, .int .i64 x.p.2.2, .bool x.yes, .slice L1 x.l.length m1] (by simp)).alloc _
  have K3 : Blk W0 (w.heap.size + 1 + 1) 26 #[.int .i8 0, .int .i64 0, .int .i64 0, .int .i64 0, .int .i64 0, .slice none 0 0, .slice none 0 0, .int .i64 0] := by rw [hW0]; exact bk_new _ 26 #[.int .i8 0, .int .i64 0, .int .i64 0, .int .i64 0, .int .i64 0, .slice none 0 0, .slice none 0 0, .int .i64 0] (by simp)
  have HW := Lib.hid hW0
  have HS := Lib.hid s0
  have HB := Lib.hid B0
  have HK3 := Lib.hid K3
  have H1 := Lib.hid h1
  have L0 := bk_load (P := Tryd.prog) 8 K1 rfl

  have cc0 : (x.k == 0) = true := by rw [hk]; rfl

  have x0 := K2.cell 0

  have x1 := K2.cell 1

  have x2 := K2.cell 2

  have CA := Lib.hid (Init_all c A1 D1 c1 e1 x.a x.b W0 (h1.up B0) (hg.up B0))

  clear hW0 s0 B0 K1 K2 K3 h1 hg hk
  go_enter Tryd.func21, Tryd.ntmps21
  go_upto_region 1 with (fail)
  rw [← HW.out]
  go_wp2_with fail
  refine CA.out.mono ?_

  rintro e w1 ⟨A5, D5, c5, e5, rfl, r5, b5, na, nd⟩

  obtain ⟨W2, st, kk, fb, fh, fs⟩ := bk_store (P := Tryd.prog) (ty := 26) (cs := #[.int .i8 (initC c x.a x.b).st, .int .i64 (initC c x.a x.b).pid, .int .i64 (initC c x.a x.b).ep, .int .i64 (initC c x.a x.b).tm, .int .i64 (initC c x.a x.b).th, .slice A5 (initC c x.a x.b).ps.length c5, .slice D5 (initC c x.a x.b).qs.length e5, .int .i64 (initC c x.a x.b).ag]) 8 (HK3.out.below b5 (by have := HS.out; omega)) infoCo rfl rfl (by simp [Value.oneCell'])
  have BB := Lib.hid (fb w.heap.size w (by omega) (HB.out.trans (b5.mono HB.out.size)))
  have KK := Lib.hid kk

  have RR := Lib.hid (r5.hold na nd (b := w.heap.size + 1 + 1) (by have := HS.out; omega) fh fs)
  have OFF := Lib.hid (fun (b : Nat) (hb : b < w.heap.size) (_ : OffB b c.ps.length A1) (_ : OffB b c.qs.length D1) => And.intro (na.off (show b < W0.heap.size by have := HS.out; omega)) (nd.off (show b < W0.heap.size by have := HS.out; omega)))

  clear kk fb fh fs r5 b5 na nd
  go_wp2_with fail
  refine bodyPost_ret (v := .tuple #[(.agg #[.int .i8 (initC c x.a x.b).st, .int .i64 (initC c x.a x.b).pid, .int .i64 (initC c x.a x.b).ep, .int .i64 (initC c x.a x.b).tm, .int .i64 (initC c x.a x.b).th, .slice A5 (initC c x.a x.b).ps.length c5, .slice D5 (initC c x.a x.b).qs.length e5, .int .i64 (initC c x.a x.b).ag]), .int .i64 (initE c x.a x.b)]) (moves_ret (initC c x.a x.b) A5 D5 c5 e5 _ _ (w.heap.size + 1 + 1) _ rfl rfl KK.out) rfl ?_
  exact ⟨A5, D5, c5, e5, rfl, RR.out, BB.out, OFF.out⟩

set_option maxRecDepth 100000 in
set_option maxHeartbeats 2000000 in
theorem moves_1 (c : Co) (A1 D1 : Option Addr) (c1 e1 : Nat) (x : Mv) (L1 : Option Addr) (m1 : Nat) (w : World) (h1 : CoR w w.heap.size c A1 D1) (hg : HasET w) (hk : x.k = 1) :
    Calls Tryd.prog 21 #[(.agg #[.int .i8 c.st, .int .i64 c.pid, .int .i64 c.ep, .int .i64 c.tm, .int .i64 c.th, .slice A1 c.ps.length c1, .slice D1 c.qs.length e1, .int .i64 c.ag]), (.agg #[.int .i64 x.k, .int .i64 x.a, .int .i64 x.b, .int .i64 x.p.1, .int .i64 x.p.2.1, .int .i64 x.p.2.2, .bool x.yes, .slice L1 x.l.length m1])] w (MvP c A1 D1 (addC c x.a) (addE c x.a) w) := by
  obtain ⟨W0, hW0⟩ : ∃ W0, W0 = ((w.alloc (.cells #[.int .i8 c.st, .int .i64 c.pid, .int .i64 c.ep, .int .i64 c.tm, .int .i64 c.th, .slice A1 c.ps.length c1, .slice D1 c.qs.length e1, .int .i64 c.ag] 26)).alloc (.cells #[.int .i64 x.k, .int .i64 x.a, .int .i64 x.b, .int .i64 x.p.1, .int .i64 x.p.2.1, .int .i64 x.p.2.2, .bool x.yes, .slice L1 x.l.length m1] 40)).alloc (.cells #[.int .i8 0, .int .i64 0, .int .i64 0, .int .i64 0, .int .i64 0, .slice none 0 0, .slice none 0 0, .int .i64 0] 26) := ⟨_, rfl⟩
  have s0 : W0.heap.size = w.heap.size + 1 + 1 + 1 := by rw [hW0]; simp
  have B0 : Below w.heap.size w W0 := by rw [hW0]; exact bal (bal (bal (Below.refl _ _) _) _) _
  have K1 : Blk W0 w.heap.size 26 #[.int .i8 c.st, .int .i64 c.pid, .int .i64 c.ep, .int .i64 c.tm, .int .i64 c.th, .slice A1 c.ps.length c1, .slice D1 c.qs.length e1, .int .i64 c.ag] := by rw [hW0]; exact ((Blk.new w 26 #[.int .i8 c.st, .int .i64 c.pid, .int .i64 c.ep, .int .i64 c.tm, .int .i64 c.th, .slice A1 c.ps.length c1, .slice D1 c.qs.length e1, .int .i64 c.ag]).alloc _).alloc _
  have K2 : Blk W0 (w.heap.size + 1) 40 #[.int .i64 x.k, .int .i64 x.a, .int .i64 x.b, .int .i64 x.p.1, .int .i64 x.p.2.1, .int .i64 x.p.2.2, .bool x.yes, .slice L1 x.l.length m1] := by rw [hW0]; exact (bk_new _ 40 #[.int .i64 x.k, .int .i64 x.a, .int .i64 x.b, .int .i64 x.p.1, .int .i64 x.p.2.1, .int .i64 x.p.2.2, .bool x.yes, .slice L1 x.l.length m1] (by simp)).alloc _
  have K3 : Blk W0 (w.heap.size + 1 + 1) 26 #[.int .i8 0, .int .i64 0, .int .i64 0, .int .i64 0, .int .i64 0, .slice none 0 0, .slice none 0 0, .int .i64 0] := by rw [hW0]; exact bk_new _ 26 #[.int .i8 0, .int .i64 0, .int .i64 0, .int .i64 0, .int .i64 0, .slice none 0 0, .slice none 0 0, .int .i64 0] (by simp)
  have HW := Lib.hid hW0
  have HS := Lib.hid s0
  have HB := Lib.hid B0
  have HK3 := Lib.hid K3
  have H1 := Lib.hid h1
  have L0 := bk_load (P := Tryd.prog) 8 K1 rfl

  have cc0 : (x.k == 0) = false := by rw [hk]; rfl

  have cc1 : (x.k == 1) = true := by rw [hk]; rfl

  have x0 := K2.cell 0

  have x1 := K2.cell 1

  have CA := Lib.hid (Add_any c A1 D1 c1 e1 x.a W0 (h1.up B0) (hg.up B0))

  clear hW0 s0 B0 K1 K2 K3 h1 hg hk
  go_enter Tryd.func21, Tryd.ntmps21
  go_upto_region 1 with (fail)
  rw [← HW.out]
  go_wp2_with fail
  refine CA.out.mono ?_

  rintro e w1 ⟨A5, D5, c5, e5, rfl, r5, b5, na, nd⟩

  obtain ⟨W2, st, kk, fb, fh, fs⟩ := bk_store (P := Tryd.prog) (ty := 26) (cs := #[.int .i8 (addC c x.a).st, .int .i64 (addC c x.a).pid, .int .i64 (addC c x.a).ep, .int .i64 (addC c x.a).tm, .int .i64 (addC c x.a).th, .slice A5 (addC c x.a).ps.length c5, .slice D5 (addC c x.a).qs.length e5, .int .i64 (addC c x.a).ag]) 8 (HK3.out.below b5 (by have := HS.out; omega)) infoCo rfl rfl (by simp [Value.oneCell'])
  have BB := Lib.hid (fb w.heap.size w (by omega) (HB.out.trans (b5.mono HB.out.size)))
  have KK := Lib.hid kk

  have RR := Lib.hid (r5.hold na nd (b := w.heap.size + 1 + 1) (by have := HS.out; omega) fh fs)
  have OFF := Lib.hid (fun (b : Nat) (hb : b < w.heap.size) (_ : OffB b c.ps.length A1) (_ : OffB b c.qs.length D1) => And.intro (na.off (show b < W0.heap.size by have := HS.out; omega)) (nd.off (show b < W0.heap.size by have := HS.out; omega)))

  clear kk fb fh fs r5 b5 na nd
  go_wp2_with fail
  refine bodyPost_ret (v := .tuple #[(.agg #[.int .i8 (addC c x.a).st, .int .i64 (addC c x.a).pid, .int .i64 (addC c x.a).ep, .int .i64 (addC c x.a).tm, .int .i64 (addC c x.a).th, .slice A5 (addC c x.a).ps.length c5, .slice D5 (addC c x.a).qs.length e5, .int .i64 (addC c x.a).ag]), .int .i64 (addE c x.a)]) (moves_ret (addC c x.a) A5 D5 c5 e5 _ _ (w.heap.size + 1 + 1) _ rfl rfl KK.out) rfl ?_
  exact ⟨A5, D5, c5, e5, rfl, RR.out, BB.out, OFF.out⟩

set_option maxRecDepth 100000 in
set_option maxHeartbeats 2000000 in
theorem moves_2 (c : Co) (A1 D1 : Option Addr) (c1 e1 : Nat) (x : Mv) (L1 : Option Addr) (m1 : Nat) (w : World) (h1 : CoR w w.heap.size c A1 D1) (hg : HasET w) (hk : x.k = 2) :
    Calls Tryd.prog 21 #[(.agg #[.int .i8 c.st, .int .i64 c.pid, .int .i64 c.ep, .int .i64 c.tm, .int .i64 c.th, .slice A1 c.ps.length c1, .slice D1 c.qs.length e1, .int .i64 c.ag]), (.agg #[.int .i64 x.k, .int .i64 x.a, .int .i64 x.b, .int .i64 x.p.1, .int .i64 x.p.2.1, .int .i64 x.p.2.2, .bool x.yes, .slice L1 x.l.length m1])] w (MvP c A1 D1 (setC c x.p) (setE c x.p) w) := by
  obtain ⟨W0, hW0⟩ : ∃ W0, W0 = ((w.alloc (.cells #[.int .i8 c.st, .int .i64 c.pid, .int .i64 c.ep, .int .i64 c.tm, .int .i64 c.th, .slice A1 c.ps.length c1, .slice D1 c.qs.length e1, .int .i64 c.ag] 26)).alloc (.cells #[.int .i64 x.k, .int .i64 x.a, .int .i64 x.b, .int .i64 x.p.1, .int .i64 x.p.2.1, .int .i64 x.p.2.2, .bool x.yes, .slice L1 x.l.length m1] 40)).alloc (.cells #[.int .i8 0, .int .i64 0, .int .i64 0, .int .i64 0, .int .i64 0, .slice none 0 0, .slice none 0 0, .int .i64 0] 26) := ⟨_, rfl⟩
  have s0 : W0.heap.size = w.heap.size + 1 + 1 + 1 := by rw [hW0]; simp
  have B0 : Below w.heap.size w W0 := by rw [hW0]; exact bal (bal (bal (Below.refl _ _) _) _) _
  have K1 : Blk W0 w.heap.size 26 #[.int .i8 c.st, .int .i64 c.pid, .int .i64 c.ep, .int .i64 c.tm, .int .i64 c.th, .slice A1 c.ps.length c1, .slice D1 c.qs.length e1, .int .i64 c.ag] := by rw [hW0]; exact ((Blk.new w 26 #[.int .i8 c.st, .int .i64 c.pid, .int .i64 c.ep, .int .i64 c.tm, .int .i64 c.th, .slice A1 c.ps.length c1, .slice D1 c.qs.length e1, .int .i64 c.ag]).alloc _).alloc _
  have K2 : Blk W0 (w.heap.size + 1) 40 #[.int .i64 x.k, .int .i64 x.a, .int .i64 x.b, .int .i64 x.p.1, .int .i64 x.p.2.1, .int .i64 x.p.2.2, .bool x.yes, .slice L1 x.l.length m1] := by rw [hW0]; exact (bk_new _ 40 #[.int .i64 x.k, .int .i64 x.a, .int .i64 x.b, .int .i64 x.p.1, .int .i64 x.p.2.1, .int .i64 x.p.2.2, .bool x.yes, .slice L1 x.l.length m1] (by simp)).alloc _
  have K3 : Blk W0 (w.heap.size + 1 + 1) 26 #[.int .i8 0, .int .i64 0, .int .i64 0, .int .i64 0, .int .i64 0, .slice none 0 0, .slice none 0 0, .int .i64 0] := by rw [hW0]; exact bk_new _ 26 #[.int .i8 0, .int .i64 0, .int .i64 0, .int .i64 0, .int .i64 0, .slice none 0 0, .slice none 0 0, .int .i64 0] (by simp)
  have HW := Lib.hid hW0
  have HS := Lib.hid s0
  have HB := Lib.hid B0
  have HK3 := Lib.hid K3
  have H1 := Lib.hid h1
  have L0 := bk_load (P := Tryd.prog) 8 K1 rfl

  have cc0 : (x.k == 0) = false := by rw [hk]; rfl

  have cc1 : (x.k == 1) = false := by rw [hk]; rfl

  have cc2 : (x.k == 2) = true := by rw [hk]; rfl

  have x0 := K2.cell 0

  have LP : (loadCells ⟨w.heap.size + 1, 3, none⟩ 3).run Tryd.prog W0 = .ok #[.int .i64 x.p.1, .int .i64 x.p.2.1, .int .i64 x.p.2.2] W0 := bk_load_off 3 3 K2 (by rfl) (by rfl)

  have CA := Lib.hid (Set_any c A1 D1 c1 e1 x.p W0 (h1.up B0) (hg.up B0))

  clear hW0 s0 B0 K1 K2 K3 h1 hg hk
  go_enter Tryd.func21, Tryd.ntmps21
  go_upto_region 1 with (fail)
  rw [← HW.out]
  go_wp2_with fail
  refine CA.out.mono ?_

  rintro e w1 ⟨A5, D5, c5, e5, rfl, r5, b5, na, nd⟩

  obtain ⟨W2, st, kk, fb, fh, fs⟩ := bk_store (P := Tryd.prog) (ty := 26) (cs := #[.int .i8 (setC c x.p).st, .int .i64 (setC c x.p).pid, .int .i64 (setC c x.p).ep, .int .i64 (setC c x.p).tm, .int .i64 (setC c x.p).th, .slice A5 (setC c x.p).ps.length c5, .slice D5 (setC c x.p).qs.length e5, .int .i64 (setC c x.p).ag]) 8 (HK3.out.below b5 (by have := HS.out; omega)) infoCo rfl rfl (by simp [Value.oneCell'])
  have BB := Lib.hid (fb w.heap.size w (by omega) (HB.out.trans (b5.mono HB.out.size)))
  have KK := Lib.hid kk

  have RR := Lib.hid (r5.hold na nd (b := w.heap.size + 1 + 1) (by have := HS.out; omega) fh fs)
  have OFF := Lib.hid (fun (b : Nat) (hb : b < w.heap.size) (_ : OffB b c.ps.length A1) (_ : OffB b c.qs.length D1) => And.intro (na.off (show b < W0.heap.size by have := HS.out; omega)) (nd.off (show b < W0.heap.size by have := HS.out; omega)))

  clear kk fb fh fs r5 b5 na nd
  go_wp2_with fail
  refine bodyPost_ret (v := .tuple #[(.agg #[.int .i8 (setC c x.p).st, .int .i64 (setC c x.p).pid, .int .i64 (setC c x.p).ep, .int .i64 (setC c x.p).tm, .int .i64 (setC c x.p).th, .slice A5 (setC c x.p).ps.length c5, .slice D5 (setC c x.p).qs.length e5, .int .i64 (setC c x.p).ag]), .int .i64 (setE c x.p)]) (moves_ret (setC c x.p) A5 D5 c5 e5 _ _ (w.heap.size + 1 + 1) _ rfl rfl KK.out) rfl ?_
  exact ⟨A5, D5, c5, e5, rfl, RR.out, BB.out, OFF.out⟩

set_option maxRecDepth 100000 in
set_option maxHeartbeats 2000000 in
theorem moves_3 (c : Co) (A1 D1 : Option Addr) (c1 e1 : Nat) (x : Mv) (L1 : Option Addr) (m1 : Nat) (w : World) (h1 : CoR w w.heap.size c A1 D1) (hg : HasET w) (hk : x.k = 3) :
    Calls Tryd.prog 21 #[(.agg #[.int .i8 c.st, .int .i64 c.pid, .int .i64 c.ep, .int .i64 c.tm, .int .i64 c.th, .slice A1 c.ps.length c1, .slice D1 c.qs.length e1, .int .i64 c.ag]), (.agg #[.int .i64 x.k, .int .i64 x.a, .int .i64 x.b, .int .i64 x.p.1, .int .i64 x.p.2.1, .int .i64 x.p.2.2, .bool x.yes, .slice L1 x.l.length m1])] w (MvP c A1 D1 (prepC c x.yes x.a) (prepE c x.yes x.a) w) := by
  obtain ⟨W0, hW0⟩ : ∃ W0, W0 = ((w.alloc (.cells #[.int .i8 c.st, .int .i64 c.pid, .int .i64 c.ep, .int .i64 c.tm, .int .i64 c.th, .slice A1 c.ps.length c1, .slice D1 c.qs.length e1, .int .i64 c.ag] 26)).alloc (.cells #[.int .i64 x.k, .int .i64 x.a, .int .i64 x.b, .int .i64 x.p.1, .int .i64 x.p.2.1, .int .i64 x.p.2.2, .bool x.yes, .slice L1 x.l.length m1] 40)).alloc (.cells #[.int .i8 0, .int .i64 0, .int .i64 0, .int .i64 0, .int .i64 0, .slice none 0 0, .slice none 0 0, .int .i64 0] 26) := ⟨_, rfl⟩
  have s0 : W0.heap.size = w.heap.size + 1 + 1 + 1 := by rw [hW0]; simp
  have B0 : Below w.heap.size w W0 := by rw [hW0]; exact bal (bal (bal (Below.refl _ _) _) _) _
  have K1 : Blk W0 w.heap.size 26 #[.int .i8 c.st, .int .i64 c.pid, .int .i64 c.ep, .int .i64 c.tm, .int .i64 c.th, .slice A1 c.ps.length c1, .slice D1 c.qs.length e1, .int .i64 c.ag] := by rw [hW0]; exact ((Blk.new w 26 #[.int .i8 c.st, .int .i64 c.pid, .int .i64 c.ep, .int .i64 c.tm, .int .i64 c.th, .slice A1 c.ps.length c1, .slice D1 c.qs.length e1, .int .i64 c.ag]).alloc _).alloc _
  have K2 : Blk W0 (w.heap.size + 1) 40 #[.int .i64 x.k, .int .i64 x.a, .int .i64 x.b, .int .i64 x.p.1, .int .i64 x.p.2.1, .int .i64 x.p.2.2, .bool x.yes, .slice L1 x.l.length m1] := by rw [hW0]; exact (bk_new _ 40 #[.int .i64 x.k, .int .i64 x.a, .int .i64 x.b, .int .i64 x.p.1, .int .i64 x.p.2.1, .int .i64 x.p.2.2, .bool x.yes, .slice L1 x.l.length m1] (by simp)).alloc _
  have K3 : Blk W0 (w.heap.size + 1 + 1) 26 #[.int .i8 0, .int .i64 0, .int .i64 0, .int .i64 0, .int .i64 0, .slice none 0 0, .slice none 0 0, .int .i64 0] := by rw [hW0]; exact bk_new _ 26 #[.int .i8 0, .int .i64 0, .int .i64 0, .int .i64 0, .int .i64 0, .slice none 0 0, .slice none 0 0, .int .i64 0] (by simp)
  have HW := Lib.hid hW0
  have HS := Lib.hid s0
  have HB := Lib.hid B0
  have HK3 := Lib.hid K3
  have H1 := Lib.hid h1
  have L0 := bk_load (P := Tryd.prog) 8 K1 rfl

  have cc0 : (x.k == 0) = false := by rw [hk]; rfl

  have cc1 : (x.k == 1) = false := by rw [hk]; rfl

  have cc2 : (x.k == 2) = false := by rw [hk]; rfl

  have cc3 : (x.k == 3) = true := by rw [hk]; rfl

  have x0 := K2.cell 0

  have x1 := K2.cell 1

  have x6 := K2.cell 6

  have CA := Lib.hid (Prepare_any c A1 D1 c1 e1 x.yes x.a W0 (h1.up B0) (hg.up B0))

  clear hW0 s0 B0 K1 K2 K3 h1 hg hk
  go_enter Tryd.func21, Tryd.ntmps21
  go_upto_region 1 with (fail)
  rw [← HW.out]
  go_wp2_with fail
  refine CA.out.mono ?_

  rintro e w1 ⟨A5, D5, c5, e5, rfl, r5, b5, na, nd⟩

  obtain ⟨W2, st, kk, fb, fh, fs⟩ := bk_store (P := Tryd.prog) (ty := 26) (cs := #[.int .i8 (prepC c x.yes x.a).st, .int .i64 (prepC c x.yes x.a).pid, .int .i64 (prepC c x.yes x.a).ep, .int .i64 (prepC c x.yes x.a).tm, .int .i64 (prepC c x.yes x.a).th, .slice A5 (prepC c x.yes x.a).ps.length c5, .slice D5 (prepC c x.yes x.a).qs.length e5, .int .i64 (prepC c x.yes x.a).ag]) 8 (HK3.out.below b5 (by have := HS.out; omega)) infoCo rfl rfl (by simp [Value.oneCell'])
  have BB := Lib.hid (fb w.heap.size w (by omega) (HB.out.trans (b5.mono HB.out.size)))
  have KK := Lib.hid kk

  have RR := Lib.hid (r5.hold na nd (b := w.heap.size + 1 + 1) (by have := HS.out; omega) fh fs)
  have OFF := Lib.hid (fun (b : Nat) (hb : b < w.heap.size) (_ : OffB b c.ps.length A1) (_ : OffB b c.qs.length D1) => And.intro (na.off (show b < W0.heap.size by have := HS.out; omega)) (nd.off (show b < W0.heap.size by have := HS.out; omega)))

  clear kk fb fh fs r5 b5 na nd
  go_wp2_with fail
  refine bodyPost_ret (v := .tuple #[(.agg #[.int .i8 (prepC c x.yes x.a).st, .int .i64 (prepC c x.yes x.a).pid, .int .i64 (prepC c x.yes x.a).ep, .int .i64 (prepC c x.yes x.a).tm, .int .i64 (prepC c x.yes x.a).th, .slice A5 (prepC c x.yes x.a).ps.length c5, .slice D5 (prepC c x.yes x.a).qs.length e5, .int .i64 (prepC c x.yes x.a).ag]), .int .i64 (prepE c x.yes x.a)]) (moves_ret (prepC c x.yes x.a) A5 D5 c5 e5 _ _ (w.heap.size + 1 + 1) _ rfl rfl KK.out) rfl ?_
  exact ⟨A5, D5, c5, e5, rfl, RR.out, BB.out, OFF.out⟩

set_option maxRecDepth 100000 in
set_option maxHeartbeats 2000000 in
theorem moves_4 (c : Co) (A1 D1 : Option Addr) (c1 e1 : Nat) (x : Mv) (L1 : Option Addr) (m1 : Nat) (w : World) (h1 : CoR w w.heap.size c A1 D1) (hg : HasET w) (hk : x.k = 4) :
    Calls Tryd.prog 21 #[(.agg #[.int .i8 c.st, .int .i64 c.pid, .int .i64 c.ep, .int .i64 c.tm, .int .i64 c.th, .slice A1 c.ps.length c1, .slice D1 c.qs.length e1, .int .i64 c.ag]), (.agg #[.int .i64 x.k, .int .i64 x.a, .int .i64 x.b, .int .i64 x.p.1, .int .i64 x.p.2.1, .int .i64 x.p.2.2, .bool x.yes, .slice L1 x.l.length m1])] w (MvP c A1 D1 (compC c) (chkE c 3 true) w) := by
  obtain ⟨W0, hW0⟩ : ∃ W0, W0 = ((w.alloc (.cells #[.int .i8 c.st, .int .i64 c.pid, .int .i64 c.ep, .int .i64 c.tm, .int .i64 c.th, .slice A1 c.ps.length c1, .slice D1 c.qs.length e1, .int .i64 c.ag] 26)).alloc (.cells #[.int .i64 x.k, .int .i64 x.a, .int .i64 x.b, .int .i64 x.p.1, .int .i64 x.p.2.1, .int .i64 x.p.2.2, .bool x.yes, .slice L1 x.l.length m1] 40)).alloc (.cells #[.int .i8 0, .int .i64 0, .int .i64 0, .int .i64 0, .int .i64 0, .slice none 0 0, .slice none 0 0, .int .i64 0] 26) := ⟨_, rfl⟩
  have s0 : W0.heap.size = w.heap.size + 1 + 1 + 1 := by rw [hW0]; simp
  have B0 : Below w.heap.size w W0 := by rw [hW0]; exact bal (bal (bal (Below.refl _ _) _) _) _
  have K1 : Blk W0 w.heap.size 26 #[.int .i8 c.st, .int .i64 c.pid, .int .i64 c.ep, .int .i64 c.tm, .int .i64 c.th, .slice A1 c.ps.length c1, .slice D1 c.qs.length e1, .int .i64 c.ag] := by rw [hW0]; exact ((Blk.new w 26 #[.int .i8 c.st, .int .i64 c.pid, .int .i64 c.ep, .int .i64 c.tm, .int .i64 c.th, .slice A1 c.ps.length c1, .slice D1 c.qs.length e1, .int .i64 c.ag]).alloc _).alloc _
  have K2 : Blk W0 (w.heap.size + 1) 40 #[.int .i64 x.k, .int .i64 x.a, .int .i64 x.b, .int .i64 x.p.1, .int .i64 x.p.2.1, .int .i64 x.p.2.2, .bool x.yes, .slice L1 x.l.length m1] := by rw [hW0]; exact (bk_new _ 40 #[.int .i64 x.k, .int .i64 x.a, .int .i64 x.b, .int .i64 x.p.1, .int .i64 x.p.2.1, .int .i64 x.p.2.2, .bool x.yes, .slice L1 x.l.length m1] (by simp)).alloc _
  have K3 : Blk W0 (w.heap.size + 1 + 1) 26 #[.int .i8 0, .int .i64 0, .int .i64 0, .int .i64 0, .int .i64 0, .slice none 0 0, .slice none 0 0, .int .i64 0] := by rw [hW0]; exact bk_new _ 26 #[.int .i8 0, .int .i64 0, .int .i64 0, .int .i64 0, .int .i64 0, .slice none 0 0, .slice none 0 0, .int .i64 0] (by simp)
  have HW := Lib.hid hW0
  have HS := Lib.hid s0
  have HB := Lib.hid B0
  have HK3 := Lib.hid K3
  have H1 := Lib.hid h1
  have L0 := bk_load (P := Tryd.prog) 8 K1 rfl

  have cc0 : (x.k == 0) = false := by rw [hk]; rfl

  have cc1 : (x.k == 1) = false := by rw [hk]; rfl

  have cc2 : (x.k == 2) = false := by rw [hk]; rfl

  have cc3 : (x.k == 3) = false := by rw [hk]; rfl

  have cc4 : (x.k == 4) = true := by rw [hk]; rfl

  have x0 := K2.cell 0

  have CA := Lib.hid (Complete_all c A1 D1 c1 e1 W0 (h1.up B0) (hg.up B0))

  clear hW0 s0 B0 K1 K2 K3 h1 hg hk
  go_enter Tryd.func21, Tryd.ntmps21
  go_upto_region 1 with (fail)
  rw [← HW.out]
  go_wp2_with fail
  refine CA.out.mono ?_

  rintro e w1 ⟨A5, D5, c5, e5, rfl, r5, b5, na, nd⟩

  obtain ⟨W2, st, kk, fb, fh, fs⟩ := bk_store (P := Tryd.prog) (ty := 26) (cs := #[.int .i8 (compC c).st, .int .i64 (compC c).pid, .int .i64 (compC c).ep, .int .i64 (compC c).tm, .int .i64 (compC c).th, .slice A5 (compC c).ps.length c5, .slice D5 (compC c).qs.length e5, .int .i64 (compC c).ag]) 8 (HK3.out.below b5 (by have := HS.out; omega)) infoCo rfl rfl (by simp [Value.oneCell'])
  have BB := Lib.hid (fb w.heap.size w (by omega) (HB.out.trans (b5.mono HB.out.size)))
  have KK := Lib.hid kk

  have RR := Lib.hid (r5.hold na nd (b := w.heap.size + 1 + 1) (by have := HS.out; omega) fh fs)
  have OFF := Lib.hid (fun (b : Nat) (hb : b < w.heap.size) (_ : OffB b c.ps.length A1) (_ : OffB b c.qs.length D1) => And.intro (na.off (show b < W0.heap.size by have := HS.out; omega)) (nd.off (show b < W0.heap.size by have := HS.out; omega)))

  clear kk fb fh fs r5 b5 na nd
  go_wp2_with fail
  refine bodyPost_ret (v := .tuple #[(.agg #[.int .i8 (compC c).st, .int .i64 (compC c).pid, .int .i64 (compC c).ep, .int .i64 (compC c).tm, .int .i64 (compC c).th, .slice A5 (compC c).ps.length c5, .slice D5 (compC c).qs.length e5, .int .i64 (compC c).ag]), .int .i64 (chkE c 3 true)]) (moves_ret (compC c) A5 D5 c5 e5 _ _ (w.heap.size + 1 + 1) _ rfl rfl KK.out) rfl ?_
  exact ⟨A5, D5, c5, e5, rfl, RR.out, BB.out, OFF.out⟩

set_option maxRecDepth 100000 in
set_option maxHeartbeats 2000000 in
theorem moves_5 (c : Co) (A1 D1 : Option Addr) (c1 e1 : Nat) (x : Mv) (L1 : Option Addr) (m1 : Nat) (w : World) (h1 : CoR w w.heap.size c A1 D1) (hg : HasET w) (hk : x.k = 5) :
    Calls Tryd.prog 21 #[(.agg #[.int .i8 c.st, .int .i64 c.pid, .int .i64 c.ep, .int .i64 c.tm, .int .i64 c.th, .slice A1 c.ps.length c1, .slice D1 c.qs.length e1, .int .i64 c.ag]), (.agg #[.int .i64 x.k, .int .i64 x.a, .int .i64 x.b, .int .i64 x.p.1, .int .i64 x.p.2.1, .int .i64 x.p.2.2, .bool x.yes, .slice L1 x.l.length m1])] w (MvP c A1 D1 (tickC c) (0) w) := by
  obtain ⟨W0, hW0⟩ : ∃ W0, W0 = ((w.alloc (.cells #[.int .i8 c.st, .int .i64 c.pid, .int .i64 c.ep, .int .i64 c.tm, .int .i64 c.th, .slice A1 c.ps.length c1, .slice D1 c.qs.length e1, .int .i64 c.ag] 26)).alloc (.cells #[.int .i64 x.k, .int .i64 x.a, .int .i64 x.b, .int .i64 x.p.1, .int .i64 x.p.2.1, .int .i64 x.p.2.2, .bool x.yes, .slice L1 x.l.length m1] 40)).alloc (.cells #[.int .i8 0, .int .i64 0, .int .i64 0, .int .i64 0, .int .i64 0, .slice none 0 0, .slice none 0 0, .int .i64 0] 26) := ⟨_, rfl⟩
  have s0 : W0.heap.size = w.heap.size + 1 + 1 + 1 := by rw [hW0]; simp
  have B0 : Below w.heap.size w W0 := by rw [hW0]; exact bal (bal (bal (Below.refl _ _) _) _) _
  have K1 : Blk W0 w.heap.size 26 #[.int .i8 c.st, .int .i64 c.pid, .int .i64 c.ep, .int .i64 c.tm, .int .i64 c.th, .slice A1 c.ps.length c1, .slice D1 c.qs.length e1, .int .i64 c.ag] := by rw [hW0]; exact ((Blk.new w 26 #[.int .i8 c.st, .int .i64 c.pid, .int .i64 c.ep, .int .i64 c.tm, .int .i64 c.th, .slice A1 c.ps.length c1, .slice D1 c.qs.length e1, .int .i64 c.ag]).alloc _).alloc _
  have K2 : Blk W0 (w.heap.size + 1) 40 #[.int .i64 x.k, .int .i64 x.a, .int .i64 x.b, .int .i64 x.p.1, .int .i64 x.p.2.1, .int .i64 x.p.2.2, .bool x.yes, .slice L1 x.l.length m1] := by rw [hW0]; exact (bk_new _ 40 #[.int .i64 x.k, .int .i64 x.a, .int .i64 x.b, .int .i64 x.p.1, .int .i64 x.p.2.1, .int .i64 x.p.2.2, .bool x.yes, .slice L1 x.l.length m1] (by simp)).alloc _
  have K3 : Blk W0 (w.heap.size + 1 + 1) 26 #[.int .i8 0, .int .i64 0, .int .i64 0, .int .i64 0, .int .i64 0, .slice none 0 0, .slice none 0 0, .int .i64 0] := by rw [hW0]; exact bk_new _ 26 #[.int .i8 0, .int .i64 0, .int .i64 0, .int .i64 0, .int .i64 0, .slice none 0 0, .slice none 0 0, .int .i64 0] (by simp)
  have HW := Lib.hid hW0
  have HS := Lib.hid s0
  have HB := Lib.hid B0
  have HK3 := Lib.hid K3
  have H1 := Lib.hid h1
  have L0 := bk_load (P := Tryd.prog) 8 K1 rfl

  have cc0 : (x.k == 0) = false := by rw [hk]; rfl

  have cc1 : (x.k == 1) = false := by rw [hk]; rfl

  have cc2 : (x.k == 2) = false := by rw [hk]; rfl

  have cc3 : (x.k == 3) = false := by rw [hk]; rfl

  have cc4 : (x.k == 4) = false := by rw [hk]; rfl

  have cc5 : (x.k == 5) = true := by rw [hk]; rfl

  have x0 := K2.cell 0

  have CA := Lib.hid (Tick_any c A1 D1 c1 e1 W0 (h1.up B0))

  clear hW0 s0 B0 K1 K2 K3 h1 hg hk
  go_enter Tryd.func21, Tryd.ntmps21
  go_upto_region 1 with (fail)
  rw [← HW.out]
  go_wp2_with fail
  refine CA.out.mono ?_

  rintro e w1 ⟨A5, D5, c5, e5, rfl, r5, b5, hnew⟩

  obtain ⟨W2, st, kk, fb, fh, fs⟩ := bk_store (P := Tryd.prog) (ty := 26) (cs := #[.int .i8 (tickC c).st, .int .i64 (tickC c).pid, .int .i64 (tickC c).ep, .int .i64 (tickC c).tm, .int .i64 (tickC c).th, .slice A5 (tickC c).ps.length c5, .slice D5 (tickC c).qs.length e5, .int .i64 (tickC c).ag]) 8 (HK3.out.below b5 (by have := HS.out; omega)) infoCo rfl rfl (by simp [Value.oneCell'])
  have BB := Lib.hid (fb w.heap.size w (by omega) (HB.out.trans (b5.mono HB.out.size)))
  have KK := Lib.hid kk

  have OFF := Lib.hid (show ∀ b, b < w.heap.size → OffB b c.ps.length A1 → OffB b c.qs.length D1 → OffB b (tickC c).ps.length A5 ∧ OffB b (tickC c).qs.length D5 from fun b hb o1 o2 => by
    rcases hnew with ⟨rfl, rfl⟩ | ⟨na, nd⟩
    · have hn1 : (tickC c).ps = c.ps := by unfold tickC; split <;> rfl
      have hn2 : (tickC c).qs = c.qs := by unfold tickC; split <;> rfl
      rw [hn1, hn2]; exact ⟨o1, o2⟩
    · exact ⟨na.off (show b < W0.heap.size by have := HS.out; omega), nd.off (show b < W0.heap.size by have := HS.out; omega)⟩)
  have RR := Lib.hid (show CoR W2 W2.heap.size (tickC c) A5 D5 by
    rcases hnew with ⟨rfl, rfl⟩ | ⟨na, nd⟩
    · have hn1 : (tickC c).ps = c.ps := by unfold tickC; split <;> rfl
      have hn2 : (tickC c).qs = c.qs := by unfold tickC; split <;> rfl
      have hh := H1.out.up BB.out
      exact ⟨by rw [hn1]; exact hh.1, by rw [hn2]; exact hh.2.1, by rw [hn1]; exact hh.2.2.1, by rw [hn2]; exact hh.2.2.2⟩
    · exact r5.hold na nd (b := w.heap.size + 1 + 1) (by have := HS.out; omega) fh fs)

  clear kk fb fh fs r5 b5 hnew
  go_wp2_with fail
  refine bodyPost_ret (v := .tuple #[(.agg #[.int .i8 (tickC c).st, .int .i64 (tickC c).pid, .int .i64 (tickC c).ep, .int .i64 (tickC c).tm, .int .i64 (tickC c).th, .slice A5 (tickC c).ps.length c5, .slice D5 (tickC c).qs.length e5, .int .i64 (tickC c).ag]), .int .i64 (0)]) (moves_ret (tickC c) A5 D5 c5 e5 _ _ (w.heap.size + 1 + 1) _ rfl rfl KK.out) rfl ?_
  exact ⟨A5, D5, c5, e5, rfl, RR.out, BB.out, OFF.out⟩

set_option maxRecDepth 100000 in
set_option maxHeartbeats 2000000 in
theorem moves_6 (c : Co) (A1 D1 : Option Addr) (c1 e1 : Nat) (x : Mv) (L1 : Option Addr) (m1 : Nat) (w : World) (h1 : CoR w w.heap.size c A1 D1) (hl : Reads w w.heap.size 1 L1 x.l.length (cellsI .i64 x.l)) (hll : x.l.length ≤ 1000) (hg : HasET w) (n0 : ¬ x.k = 0) (n1 : ¬ x.k = 1) (n2 : ¬ x.k = 2) (n3 : ¬ x.k = 3) (n4 : ¬ x.k = 4) (n5 : ¬ x.k = 5) :
    Calls Tryd.prog 21 #[(.agg #[.int .i8 c.st, .int .i64 c.pid, .int .i64 c.ep, .int .i64 c.tm, .int .i64 c.th, .slice A1 c.ps.length c1, .slice D1 c.qs.length e1, .int .i64 c.ag]), (.agg #[.int .i64 x.k, .int .i64 x.a, .int .i64 x.b, .int .i64 x.p.1, .int .i64 x.p.2.1, .int .i64 x.p.2.2, .bool x.yes, .slice L1 x.l.length m1])] w (MvP c A1 D1 (placeC c x.l) (placeE c x.l) w) := by
  obtain ⟨W0, hW0⟩ : ∃ W0, W0 = ((w.alloc (.cells #[.int .i8 c.st, .int .i64 c.pid, .int .i64 c.ep, .int .i64 c.tm, .int .i64 c.th, .slice A1 c.ps.length c1, .slice D1 c.qs.length e1, .int .i64 c.ag] 26)).alloc (.cells #[.int .i64 x.k, .int .i64 x.a, .int .i64 x.b, .int .i64 x.p.1, .int .i64 x.p.2.1, .int .i64 x.p.2.2, .bool x.yes, .slice L1 x.l.length m1] 40)).alloc (.cells #[.int .i8 0, .int .i64 0, .int .i64 0, .int .i64 0, .int .i64 0, .slice none 0 0, .slice none 0 0, .int .i64 0] 26) := ⟨_, rfl⟩
  have s0 : W0.heap.size = w.heap.size + 1 + 1 + 1 := by rw [hW0]; simp
  have B0 : Below w.heap.size w W0 := by rw [hW0]; exact bal (bal (bal (Below.refl _ _) _) _) _
  have K1 : Blk W0 w.heap.size 26 #[.int .i8 c.st, .int .i64 c.pid, .int .i64 c.ep, .int .i64 c.tm, .int .i64 c.th, .slice A1 c.ps.length c1, .slice D1 c.qs.length e1, .int .i64 c.ag] := by rw [hW0]; exact ((Blk.new w 26 #[.int .i8 c.st, .int .i64 c.pid, .int .i64 c.ep, .int .i64 c.tm, .int .i64 c.th, .slice A1 c.ps.length c1, .slice D1 c.qs.length e1, .int .i64 c.ag]).alloc _).alloc _
  have K2 : Blk W0 (w.heap.size + 1) 40 #[.int .i64 x.k, .int .i64 x.a, .int .i64 x.b, .int .i64 x.p.1, .int .i64 x.p.2.1, .int .i64 x.p.2.2, .bool x.yes, .slice L1 x.l.length m1] := by rw [hW0]; exact (bk_new _ 40 #[.int .i64 x.k, .int .i64 x.a, .int .i64 x.b, .int .i64 x.p.1, .int .i64 x.p.2.1, .int .i64 x.p.2.2, .bool x.yes, .slice L1 x.l.length m1] (by simp)).alloc _
  have K3 : Blk W0 (w.heap.size + 1 + 1) 26 #[.int .i8 0, .int .i64 0, .int .i64 0, .int .i64 0, .int .i64 0, .slice none 0 0, .slice none 0 0, .int .i64 0] := by rw [hW0]; exact bk_new _ 26 #[.int .i8 0, .int .i64 0, .int .i64 0, .int .i64 0, .int .i64 0, .slice none 0 0, .slice none 0 0, .int .i64 0] (by simp)
  have HW := Lib.hid hW0
  have HS := Lib.hid s0
  have HB := Lib.hid B0
  have HK3 := Lib.hid K3
  have H1 := Lib.hid h1
  have L0 := bk_load (P := Tryd.prog) 8 K1 rfl

  have cc0 : (x.k == 0) = false := by simpa using n0

  have cc1 : (x.k == 1) = false := by simpa using n1

  have cc2 : (x.k == 2) = false := by simpa using n2

  have cc3 : (x.k == 3) = false := by simpa using n3

  have cc4 : (x.k == 4) = false := by simpa using n4

  have cc5 : (x.k == 5) = false := by simpa using n5

  have x0 := K2.cell 0

  have x7 := K2.cell 7

  have CA := Lib.hid (Place_any c A1 D1 c1 e1 x.l L1 m1 W0 (h1.up B0) ((hl.below B0).more B0.size) hll)

  clear hW0 s0 B0 K1 K2 K3 h1 hg hl hll n0 n1 n2 n3 n4 n5
  go_enter Tryd.func21, Tryd.ntmps21
  go_upto_region 1 with (fail)
  rw [← HW.out]
  go_wp2_with fail
  refine CA.out.mono ?_

  rintro e w1 ⟨A5, D5, c5, e5, rfl, r5, b5, na, nd⟩

  obtain ⟨W2, st, kk, fb, fh, fs⟩ := bk_store (P := Tryd.prog) (ty := 26) (cs := #[.int .i8 (placeC c x.l).st, .int .i64 (placeC c x.l).pid, .int .i64 (placeC c x.l).ep, .int .i64 (placeC c x.l).tm, .int .i64 (placeC c x.l).th, .slice A5 (placeC c x.l).ps.length c5, .slice D5 (placeC c x.l).qs.length e5, .int .i64 (placeC c x.l).ag]) 8 (HK3.out.below b5 (by have := HS.out; omega)) infoCo rfl rfl (by simp [Value.oneCell'])
  have BB := Lib.hid (fb w.heap.size w (by omega) (HB.out.trans (b5.mono HB.out.size)))
  have KK := Lib.hid kk

  have RR := Lib.hid (r5.hold na nd (b := w.heap.size + 1 + 1) (by have := HS.out; omega) fh fs)
  have OFF := Lib.hid (fun (b : Nat) (hb : b < w.heap.size) (_ : OffB b c.ps.length A1) (_ : OffB b c.qs.length D1) => And.intro (na.off (show b < W0.heap.size by have := HS.out; omega)) (nd.off (show b < W0.heap.size by have := HS.out; omega)))

  clear kk fb fh fs r5 b5 na nd
  go_wp2_with fail
  refine bodyPost_ret (v := .tuple #[(.agg #[.int .i8 (placeC c x.l).st, .int .i64 (placeC c x.l).pid, .int .i64 (placeC c x.l).ep, .int .i64 (placeC c x.l).tm, .int .i64 (placeC c x.l).th, .slice A5 (placeC c x.l).ps.length c5, .slice D5 (placeC c x.l).qs.length e5, .int .i64 (placeC c x.l).ag]), .int .i64 (placeE c x.l)]) (moves_ret (placeC c x.l) A5 D5 c5 e5 _ _ (w.heap.size + 1 + 1) _ rfl rfl KK.out) rfl ?_
  exact ⟨A5, D5, c5, e5, rfl, RR.out, BB.out, OFF.out⟩

end
theorem moves_any (c : Co) (A1 D1 : Option Addr) (c1 e1 : Nat) (x : Mv) (L1 : Option Addr) (m1 : Nat) (w : World) (h1 : CoR w w.heap.size c A1 D1) (hl : Reads w w.heap.size 1 L1 x.l.length (cellsI .i64 x.l)) (hll : x.l.length ≤ 1000) (hg : HasET w) :
    Calls Tryd.prog 21 #[(.agg #[.int .i8 c.st, .int .i64 c.pid, .int .i64 c.ep, .int .i64 c.tm, .int .i64 c.th, .slice A1 c.ps.length c1, .slice D1 c.qs.length e1, .int .i64 c.ag]), (.agg #[.int .i64 x.k, .int .i64 x.a, .int .i64 x.b, .int .i64 x.p.1, .int .i64 x.p.2.1, .int .i64 x.p.2.2, .bool x.yes, .slice L1 x.l.length m1])] w (MvP c A1 D1 (mvC c x) (mvE c x) w) := by
  unfold mvC mvE
  by_cases h0 : x.k = 0
  · rw [if_pos h0, if_pos h0]; exact moves_0 c A1 D1 c1 e1 x L1 m1 w h1 hg h0
  rw [if_neg h0, if_neg h0]
  by_cases h1' : x.k = 1
  · rw [if_pos h1', if_pos h1']; exact moves_1 c A1 D1 c1 e1 x L1 m1 w h1 hg h1'
  rw [if_neg h1', if_neg h1']
  by_cases h2 : x.k = 2
  · rw [if_pos h2, if_pos h2]; exact moves_2 c A1 D1 c1 e1 x L1 m1 w h1 hg h2
  rw [if_neg h2, if_neg h2]
  by_cases h3 : x.k = 3
  · rw [if_pos h3, if_pos h3]; exact moves_3 c A1 D1 c1 e1 x L1 m1 w h1 hg h3
  rw [if_neg h3, if_neg h3]
  by_cases h4 : x.k = 4
  · rw [if_pos h4, if_pos h4]; exact moves_4 c A1 D1 c1 e1 x L1 m1 w h1 hg h4
  rw [if_neg h4, if_neg h4]
  by_cases h5 : x.k = 5
  · rw [if_pos h5, if_pos h5]; exact moves_5 c A1 D1 c1 e1 x L1 m1 w h1 hg h5
  rw [if_neg h5, if_neg h5]
  exact moves_6 c A1 D1 c1 e1 x L1 m1 w h1 hl hll hg h0 h1' h2 h3 h4 h5
end Go.Proofs.YtagclnmchkgpdaaDoor
namespace Go.Proofs.YtagclnmchkgpdaaDoor
open Go.RowKit

theorem adj_pw {α : Type} {R : α → α → Prop} (htr : ∀ a b c, R a b → R b c → R a c) {l : List α} (h : Adj R l l.length) : l.Pairwise R := by
  rw [List.pairwise_iff_getElem]
  intro i j hi hj hij
  obtain ⟨d, rfl⟩ : ∃ d, j = i + d + 1 := ⟨j - i - 1, by omega⟩
  induction d with
  | zero => exact h i _ _ (by omega) (List.getElem?_eq_getElem hi) (List.getElem?_eq_getElem hj)
  | succ d ih => exact htr _ _ _ (ih (by omega) (by omega)) (h (i + d + 1) _ _ (by omega) (List.getElem?_eq_getElem (by omega)) (List.getElem?_eq_getElem hj))
theorem pw_adj {α : Type} {R : α → α → Prop} {l : List α} (h : l.Pairwise R) : Adj R l l.length := by
  rw [List.pairwise_iff_getElem] at h
  intro j a b hj ha hb
  obtain ⟨h1, rfl⟩ := List.getElem?_eq_some_iff.1 ha
  obtain ⟨h2, rfl⟩ := List.getElem?_eq_some_iff.1 hb
  exact h j (j + 1) h1 h2 (Nat.lt_succ_self _)
theorem posF_cons {α : Type} (f : α → Int) (a : α) (t : List α) : posF f (a :: t) = if f a < 0 then posF f t + 1 else 0 := by
  unfold posF
  by_cases h : f a < 0 <;> simp [List.takeWhile_cons, h]
theorem keepF_nil {α : Type} (f : α → Int) (x : α) : keepF f [] x = [x] := rfl
theorem keepF_cons {α : Type} (f : α → Int) (a : α) (t : List α) (x : α) : keepF f (a :: t) x = if f a < 0 then a :: keepF f t x else if f a = 0 then x :: t else x :: a :: t := by
  by_cases h : f a < 0
  · rw [if_pos h]
    unfold keepF
    rw [posF_cons, if_pos h, List.getElem?_cons_succ]
    cases t[posF f t]? with
    | none => simp
    | some y => by_cases hy : f y = 0 <;> simp [hy]
  · rw [if_neg h]
    unfold keepF
    rw [posF_cons, if_neg h, List.getElem?_cons_zero]
    by_cases hy : f a = 0 <;> simp [hy]
theorem keepF_mem {α : Type} (f : α → Int) (x : α) : ∀ (l : List α) (y : α), y ∈ keepF f l x → y = x ∨ y ∈ l
  | [], y, h => by rw [keepF_nil] at h; simpa using h
  | a :: t, y, h => by
    rw [keepF_cons] at h
    by_cases ha : f a < 0
    · rw [if_pos ha] at h
      rcases List.mem_cons.1 h with h | h
      · exact .inr (by rw [h]; exact List.mem_cons_self)
      · rcases keepF_mem f x t y h with h | h
        · exact .inl h
        · exact .inr (List.mem_cons_of_mem _ h)
    · rw [if_neg ha] at h
      by_cases h0 : f a = 0
      · rw [if_pos h0] at h
        rcases List.mem_cons.1 h with h | h
        · exact .inl h
        · exact .inr (List.mem_cons_of_mem _ h)
      · rw [if_neg h0] at h
        rcases List.mem_cons.1 h with h | h
        · exact .inl h
        · exact .inr h
theorem keepF_self {α : Type} (f : α → Int) (x : α) : ∀ l : List α, x ∈ keepF f l x
  | [] => by rw [keepF_nil]; simp
  | a :: t => by
    rw [keepF_cons]
    split
    · exact List.mem_cons_of_mem _ (keepF_self f x t)
    · split <;> exact List.mem_cons_self
theorem keepF_ne {α : Type} (f : α → Int) (x : α) (l : List α) : ¬ (keepF f l x).length = 0 := by
  intro h
  have := keepF_self f x l
  rw [List.eq_nil_of_length_eq_zero h] at this
  cases this
theorem keepF_pw {α : Type} {R : α → α → Prop} (htr : ∀ a b c, R a b → R b c → R a c) {f : α → Int} {x : α} (hlt : ∀ y, f y < 0 → R y x) (hgt : ∀ y, 0 < f y → R x y) (h0 : ∀ y b, f y = 0 → R y b → R x b) : ∀ {l : List α}, l.Pairwise R → (keepF f l x).Pairwise R
  | [], _ => by rw [keepF_nil]; exact List.pairwise_singleton _ _
  | a :: t, h => by
    have h' := List.pairwise_cons.1 h
    rw [keepF_cons]
    by_cases ha : f a < 0
    · rw [if_pos ha]
      refine List.pairwise_cons.2 ⟨fun b hb => ?_, keepF_pw htr hlt hgt h0 h'.2⟩
      rcases keepF_mem f x t b hb with rfl | hb
      · exact hlt a ha
      · exact h'.1 b hb
    · rw [if_neg ha]
      by_cases hz : f a = 0
      · rw [if_pos hz]
        exact List.pairwise_cons.2 ⟨fun b hb => h0 a b hz (h'.1 b hb), h'.2⟩
      · rw [if_neg hz]
        have hx := hgt a (by omega)
        refine List.pairwise_cons.2 ⟨fun b hb => ?_, h⟩
        rcases List.mem_cons.1 hb with rfl | hb
        · exact hx
        · exact htr _ _ _ hx (h'.1 b hb)
theorem parts_iff {l : List Int} : partsB l = true ↔ l.Pairwise (fun a b => a < b) ∧ ∀ x ∈ l, partB x = true := by
  rw [← riseB_parts]
  unfold riseB RiseTo
  simp only [decide_eq_true_eq]
  constructor
  · rintro ⟨h1, h2⟩
    refine ⟨adj_pw (R := fun a b => a < b) (fun a b c h k => Int.lt_trans h k) h1, fun x hx => ?_⟩
    obtain ⟨j, hj⟩ := List.getElem?_of_mem hx
    have := h2 j x (List.getElem?_eq_some_iff.1 hj).1 hj
    unfold partB
    simp only [Bool.and_eq_true, decide_eq_true_eq]
    exact this
  · rintro ⟨h1, h2⟩
    refine ⟨pw_adj h1, fun j x hj hx => ?_⟩
    have := h2 x (List.mem_of_getElem? hx)
    unfold partB at this
    simp only [Bool.and_eq_true, decide_eq_true_eq] at this
    exact this
theorem cmpI_pos (a b : Int) : 0 < cmpI a b ↔ b < a := by unfold cmpI; split <;> (try split) <;> omega
theorem parts_keep {l : List Int} {q : Int} (h : partsB l = true) (hq : partB q = true) : partsB (keepF (fun y => cmpI y q) l q) = true := by
  rw [parts_iff] at h ⊢
  refine ⟨keepF_pw (R := fun a b : Int => a < b) (fun a b c h k => Int.lt_trans h k) (fun y hy => (cmpI_neg y q).1 hy) (fun y hy => (cmpI_pos y q).1 hy) (fun y b hy hb => by have := (cmpI_zero y q).1 hy; omega) h.1, fun x hx => ?_⟩
  rcases keepF_mem _ _ _ _ hx with rfl | hx
  · exact hq
  · exact h.2 x hx
theorem ahead_iff (a b : Pd) : aheadP a b ↔ a.1 < b.1 ∨ (a.1 = b.1 ∧ a.2.1 < b.2.1) := by
  unfold aheadP aheadB
  simp only [Bool.or_eq_true, Bool.and_eq_true, decide_eq_true_eq]
theorem ahead_tr (a b c : Pd) (h : aheadP a b) (k : aheadP b c) : aheadP a c := by
  rw [ahead_iff] at *
  omega
theorem plI_zero (a b : Pd) : plI a b = 0 ↔ a.1 = b.1 ∧ a.2.1 = b.2.1 := by
  have h2 := cmpI_zero a.1 b.1
  have h4 := cmpI_zero a.2.1 b.2.1
  simp only [plI, orI]
  by_cases h : cmpI a.1 b.1 = 0
  · rw [if_pos h]
    by_cases h' : cmpI a.2.1 b.2.1 = 0
    · rw [if_pos h']; exact ⟨fun _ => ⟨h2.1 h, h4.1 h'⟩, fun _ => rfl⟩
    · rw [if_neg h']; exact ⟨fun x => absurd x h', fun x => absurd (h4.2 x.2) h'⟩
  · rw [if_neg h]; exact ⟨fun x => absurd x h, fun x => absurd (h2.2 x.1) h⟩
theorem plI_pos (a b : Pd) (h : 0 < plI a b) : aheadP b a := by
  have h1 := plI_neg a b
  have h2 := plI_zero a b
  have h3 : ¬ aheadP a b := fun x => by have := h1.2 x; omega
  have h4 : ¬ (a.1 = b.1 ∧ a.2.1 = b.2.1) := fun x => by have := h2.2 x; omega
  rw [ahead_iff] at *
  omega
theorem pends_keep {l : List Pd} {p : Pd} (h1 : l.all pendB = true) (h2 : adjB aheadP l = true) (hp : pendB p = true) : (keepF (fun y => plI y p) l p).all pendB = true ∧ adjB aheadP (keepF (fun y => plI y p) l p) = true := by
  rw [adjB_iff] at h2 ⊢
  refine ⟨?_, pw_adj (keepF_pw ahead_tr (fun y hy => (plI_neg y p).1 hy) (fun y hy => plI_pos y p hy) (fun y b hy hb => ?_) (adj_pw ahead_tr h2))⟩
  · rw [List.all_eq_true] at h1 ⊢
    intro x hx
    rcases keepF_mem _ _ _ _ hx with rfl | hx
    · exact hp
    · exact h1 x hx
  · have := (plI_zero y p).1 hy
    rw [ahead_iff] at hb ⊢
    omega
theorem parts_nilG : partsB [] = true := parts_iff.2 ⟨List.Pairwise.nil, fun _ h => by cases h⟩
theorem adjB_nil {α : Type} {R : α → α → Prop} : adjB R ([] : List α) = true := adjB_true (Adj.one (by simp))

theorem range_iff (c : Co) : rangeB c = true ↔ c.qs.all pendB = true ∧ 1 ≤ c.pid ∧ c.pid ≤ 8 ∧ 0 ≤ c.ep ∧ c.ep ≤ 100 ∧ 1 ≤ c.tm ∧ c.tm ≤ 20 ∧ 0 ≤ c.ag ∧ c.ag ≤ 1048576 ∧ partsB c.ps = true ∧ adjB aheadP c.qs = true := by
  unfold rangeB
  simp only [Bool.and_eq_true, decide_eq_true_eq]
theorem may_new (st pid ep tm : Int) (hs : st = 1 ∨ st = 5 ∨ st = 6) (h1 : 1 ≤ pid ∧ pid ≤ 8) (h2 : 0 ≤ ep ∧ ep ≤ 100) (h3 : 1 ≤ tm ∧ tm ≤ 20) : mayB ⟨st, pid, ep, tm, 0, [], [], 0⟩ = true := by
  have hr : rangeB ⟨st, pid, ep, tm, 0, [], [], 0⟩ = true := (range_iff _).2 ⟨rfl, h1.1, h1.2, h2.1, h2.2, h3.1, h3.2, Int.le_refl _, by show (0 : Int) ≤ 1048576; decide, parts_nilG, adjB_nil⟩
  unfold mayB
  rw [if_neg (by show ¬ st = 0; omega), if_neg (by show ¬ st = 2; omega), if_neg (by show ¬ st = 3; omega), if_neg (by show ¬ st = 4; omega), if_pos hs]
  unfold idleB
  rw [hr]
  rfl
theorem may_2 {d : Co} (hs : d.st = 2) (hn : ¬ (d.ps.length = 0 ∧ d.qs.length = 0)) (ht : d.th = 0) (hr : rangeB d = true) : mayB d = true := by
  unfold mayB
  rw [if_neg (by omega), if_pos hs]
  unfold tailB
  rw [hr, ht]
  simp only [Bool.and_true, Bool.not_eq_true', beq_self_eq_true, Bool.and_eq_true, Bool.and_eq_false_iff, decide_eq_false_iff_not, Bool.true_and]
  refine ⟨by omega, by simp⟩
theorem may_3 {d : Co} (hs : d.st = 3) (ht : d.th = 0) (hr : rangeB d = true) : mayB d = true := by
  unfold mayB
  rw [if_neg (by omega), if_neg (by omega), if_pos hs]
  unfold tailB
  rw [hr, ht]
  simp
theorem may_4 {d : Co} (hs : d.st = 4) (h1 : 0 ≤ d.th) (h2 : d.th ≤ 20) (h3 : 0 < d.th → d.ep < 100) (hr : rangeB d = true) : mayB d = true := by
  unfold mayB
  rw [if_neg (by omega), if_neg (by omega), if_neg (by omega), if_pos hs]
  unfold tailB
  rw [hr]
  simp only [Bool.and_true, Bool.not_eq_true', Bool.or_eq_false_iff, Bool.and_eq_false_iff, decide_eq_false_iff_not]
  refine ⟨by omega, by omega, ?_⟩
  by_cases h : 0 < d.th
  · have := h3 h; omega
  · omega
theorem may_prep {c : Co} (h : mayB c = true) (hs : c.st = 3 ∨ c.st = 4) : 0 ≤ c.th ∧ c.th ≤ 20 ∧ (0 < c.th → c.ep < 100) ∧ rangeB c = true ∧ (c.st = 3 → c.th = 0) := by
  unfold mayB at h
  rw [if_neg (by omega), if_neg (by omega)] at h
  have key : ∀ {c : Co}, tailB c = true → 0 ≤ c.th ∧ c.th ≤ 20 ∧ (0 < c.th → c.ep < 100) ∧ rangeB c = true := fun {c} h => by
    unfold tailB at h
    simp only [Bool.and_eq_true, Bool.not_eq_true', Bool.or_eq_false_iff, Bool.and_eq_false_iff, decide_eq_false_iff_not] at h
    exact ⟨by omega, by omega, fun h0 => by omega, h.2⟩
  by_cases h3 : c.st = 3
  · rw [if_pos h3] at h
    rw [Bool.and_eq_true, beq_iff_eq] at h
    have := key h.2
    exact ⟨this.1, this.2.1, this.2.2.1, this.2.2.2, fun _ => h.1⟩
  · rw [if_neg h3, if_pos (by omega)] at h
    have := key h
    exact ⟨this.1, this.2.1, this.2.2.1, this.2.2.2, fun x => absurd x h3⟩
theorem chk_begins {c : Co} {mv : Int} {fit : Bool} (h : chkE c mv fit = 0) : beginsB c.st mv = true := by
  unfold chkE at h
  split at h
  · cases h
  · split at h
    · cases h
    · rename_i hb; simpa using hb
theorem begins_0 {st : Int} (h : beginsB st 0 = true) : st = 0 ∨ st = 1 ∨ st = 5 ∨ st = 6 := by
  unfold beginsB at h
  by_cases h0 : st = 0
  · exact .inl h0
  by_cases h2 : st = 2
  · rw [if_neg h0, if_pos h2] at h; cases h
  by_cases h5 : st = 1 ∨ st = 5 ∨ st = 6
  · exact .inr h5
  by_cases h3 : st = 3 ∨ st = 4
  · rw [if_neg h0, if_neg h2, if_neg h5, if_pos h3] at h; cases h
  · rw [if_neg h0, if_neg h2, if_neg h5, if_neg h3] at h; cases h
theorem begins_12 {st mv : Int} (hm : mv = 1 ∨ mv = 2) (h : beginsB st mv = true) : st = 2 ∨ st = 1 ∨ st = 5 ∨ st = 6 := by
  unfold beginsB at h
  by_cases h0 : st = 0
  · rw [if_pos h0] at h; rcases hm with rfl | rfl <;> cases h
  by_cases h2 : st = 2
  · exact .inl h2
  by_cases h5 : st = 1 ∨ st = 5 ∨ st = 6
  · exact .inr h5
  by_cases h3 : st = 3 ∨ st = 4
  · rw [if_neg h0, if_neg h2, if_neg h5, if_pos h3] at h; rcases hm with rfl | rfl <;> cases h
  · rw [if_neg h0, if_neg h2, if_neg h5, if_neg h3] at h; cases h
theorem begins_3 {st : Int} (h : beginsB st 3 = true) : st = 3 ∨ st = 4 := by
  unfold beginsB at h
  by_cases h0 : st = 0
  · rw [if_pos h0] at h; cases h
  by_cases h2 : st = 2
  · rw [if_neg h0, if_pos h2] at h; cases h
  by_cases h5 : st = 1 ∨ st = 5 ∨ st = 6
  · rw [if_neg h0, if_neg h2, if_pos h5] at h; cases h
  by_cases h3 : st = 3 ∨ st = 4
  · exact h3
  · rw [if_neg h0, if_neg h2, if_neg h5, if_neg h3] at h; cases h
/-- What can be written to. -/
theorem may_open {c : Co} (h : mayB c = true) (hs : c.st = 2 ∨ c.st = 1 ∨ c.st = 5 ∨ c.st = 6) : c.th = 0 ∧ rangeB c = true := by
  rcases hs with hs | hs
  · exact (may_going h hs).2
  · have := may_idle h hs
    exact ⟨this.1, this.2.2.2.2⟩
def bumpB (c : Co) (x : Mv) : Bool := (x.k == 0 && !(c.st == 0)) || (x.k == 4 && decide (0 < c.th))
/-- What a move that is done leads to. -/
structure MvF (c : Co) (x : Mv) (d : Co) : Prop where
  may : mayB d = true
  pid : ¬ c.st = 0 → d.pid = c.pid
  ep : d.ep = if bumpB c x = true then c.ep + 1 else c.ep
  fin : x.k = 4 → (c.st = 3 ∨ c.st = 4) ∧ d.ps = [] ∧ d.qs = [] ∧ (bumpB c x = false → d.st = if c.st = 3 then 5 else 6) ∧ ¬ d.st = 2
theorem add_ok {c : Co} {q : Int} (h : addE c q = 0) : mayB (addC c q) = true ∧ addC c q = { c with st := 2, ps := keepF (fun y => cmpI y q) c.ps q } := by
  have hc : addC c q = { c with st := 2, ps := keepF (fun y => cmpI y q) c.ps q } := by unfold addC; rw [if_pos h]
  obtain ⟨hm, hq⟩ := chk_may h
  obtain ⟨ht, hr⟩ := may_open hm (begins_12 (.inl rfl) (chk_begins h))
  have hr' := (range_iff c).1 hr
  refine ⟨?_, hc⟩
  rw [hc]
  refine may_2 rfl (fun x => keepF_ne _ _ _ x.1) ht ((range_iff _).2 ⟨hr'.1, hr'.2.1, hr'.2.2.1, hr'.2.2.2.1, hr'.2.2.2.2.1, hr'.2.2.2.2.2.1, hr'.2.2.2.2.2.2.1, hr'.2.2.2.2.2.2.2.1, hr'.2.2.2.2.2.2.2.2.1, parts_keep hr'.2.2.2.2.2.2.2.2.2.1 hq, hr'.2.2.2.2.2.2.2.2.2.2⟩)
theorem set_ok {c : Co} {p : Pd} (h : setE c p = 0) : mayB (setC c p) = true ∧ setC c p = { c with st := 2, qs := keepF (fun y => plI y p) c.qs p } := by
  have hc : setC c p = { c with st := 2, qs := keepF (fun y => plI y p) c.qs p } := by unfold setC; rw [if_pos h]
  obtain ⟨hm, hq⟩ := chk_may h
  obtain ⟨ht, hr⟩ := may_open hm (begins_12 (.inl rfl) (chk_begins h))
  have hr' := (range_iff c).1 hr
  have hk := pends_keep hr'.1 hr'.2.2.2.2.2.2.2.2.2.2 hq
  refine ⟨?_, hc⟩
  rw [hc]
  exact may_2 rfl (fun x => keepF_ne _ _ _ x.2) ht ((range_iff _).2 ⟨hk.1, hr'.2.1, hr'.2.2.1, hr'.2.2.2.1, hr'.2.2.2.2.1, hr'.2.2.2.2.2.1, hr'.2.2.2.2.2.2.1, hr'.2.2.2.2.2.2.2.1, hr'.2.2.2.2.2.2.2.2.1, hr'.2.2.2.2.2.2.2.2.2.1, hk.2⟩)
theorem tick_may {c : Co} (h : mayB c = true) : mayB (tickC c) = true := by
  unfold tickC
  by_cases h2 : mayB c = true ∧ c.st = 2
  · rw [if_pos h2]
    obtain ⟨hn, ht, hr⟩ := may_going h h2.2
    have hr' := (range_iff c).1 hr
    refine may_2 h2.2 hn ht ((range_iff _).2 ⟨hr'.1, hr'.2.1, hr'.2.2.1, hr'.2.2.2.1, hr'.2.2.2.2.1, hr'.2.2.2.2.2.1, hr'.2.2.2.2.2.2.1, ?_, ?_, hr'.2.2.2.2.2.2.2.2.2.1, hr'.2.2.2.2.2.2.2.2.2.2⟩)
    · show 0 ≤ if c.ag < 1048576 then c.ag + 1 else c.ag
      split <;> omega
    · show (if c.ag < 1048576 then c.ag + 1 else c.ag) ≤ 1048576
      split <;> omega
  · rw [if_neg h2]; exact h
theorem mv_fact {c : Co} {x : Mv} (hc : mayB c = true) (h : mvE c x = 0) : MvF c x (mvC c x) := by
  unfold mvE at h
  unfold mvC
  by_cases k0 : x.k = 0
  · rw [if_pos k0] at h ⊢
    have hb : bumpB c x = !(c.st == 0) := by unfold bumpB; rw [k0]; simp
    have hE := h
    unfold initE at h
    by_cases hr : ¬ (1 ≤ x.a ∧ x.a ≤ 8 ∧ 1 ≤ x.b ∧ x.b ≤ 20)
    · rw [if_pos hr] at h; cases h
    rw [if_neg hr] at h
    by_cases hk : ¬ chkE c 0 true = 0
    · rw [if_pos hk] at h; exact absurd h hk
    rw [if_neg hk] at h
    by_cases he : 100 ≤ c.ep
    · rw [if_pos he] at h; cases h
    have hst := begins_0 (chk_begins (Decidable.not_not.1 hk))
    unfold initC
    rw [if_pos hE]
    by_cases h0 : c.st = 0
    · rw [if_pos h0]
      have hz : c.ep = 0 := by rw [may_none hc h0]; rfl
      exact ⟨may_new 1 x.a 0 x.b (.inl rfl) (by omega) (by omega) (by omega), fun hn => absurd h0 hn, by rw [hb, h0, hz]; rfl, fun hk4 => by omega⟩
    · rw [if_neg h0]
      have hi := (may_idle hc (by omega)).2.2.2.2
      have hr' := (range_iff c).1 hi
      exact ⟨may_new 1 c.pid (c.ep + 1) x.b (.inl rfl) (by omega) (by omega) (by omega), fun _ => rfl, by rw [hb, if_pos (by simpa using h0)], fun hk4 => by omega⟩
  rw [if_neg k0] at h ⊢
  by_cases k1 : x.k = 1
  · rw [if_pos k1] at h ⊢
    have hb : bumpB c x = false := by unfold bumpB; rw [k1]; rfl
    obtain ⟨hm, he⟩ := add_ok h
    exact ⟨hm, fun _ => by rw [he], by rw [hb, he]; rfl, fun hk4 => by omega⟩
  rw [if_neg k1] at h ⊢
  by_cases k2 : x.k = 2
  · rw [if_pos k2] at h ⊢
    have hb : bumpB c x = false := by unfold bumpB; rw [k2]; rfl
    obtain ⟨hm, he⟩ := set_ok h
    exact ⟨hm, fun _ => by rw [he], by rw [hb, he]; rfl, fun hk4 => by omega⟩
  rw [if_neg k2] at h ⊢
  by_cases k3 : x.k = 3
  · rw [if_pos k3] at h ⊢
    have hb : bumpB c x = false := by unfold bumpB; rw [k3]; rfl
    have hE := h
    unfold prepE at h
    by_cases hr : ¬ (0 ≤ x.a ∧ x.a ≤ 20 ∧ (x.yes = false ∨ x.a = 0))
    · rw [if_pos hr] at h; cases h
    rw [if_neg hr] at h
    by_cases hk : ¬ chkE c 2 true = 0
    · rw [if_pos hk] at h; exact absurd h hk
    rw [if_neg hk] at h
    by_cases he : 0 < x.a ∧ 100 ≤ c.ep
    · rw [if_pos he] at h; cases h
    have hst := begins_12 (.inr rfl) (chk_begins (Decidable.not_not.1 hk))
    obtain ⟨ht, hrg⟩ := may_open hc hst
    unfold prepC
    rw [if_pos hE]
    refine ⟨?_, fun _ => rfl, by rw [hb]; rfl, fun hk4 => by omega⟩
    cases hy : x.yes
    · exact may_4 rfl (by show 0 ≤ x.a; omega) (by show x.a ≤ 20; omega) (fun h0 => by have : 0 < x.a := h0; show c.ep < 100; omega) hrg
    · exact may_3 rfl (by show x.a = 0; rw [hy] at hr; simp at hr; omega) hrg
  rw [if_neg k3] at h ⊢
  by_cases k4 : x.k = 4
  · rw [if_pos k4] at h ⊢
    have hst := begins_3 (chk_begins h)
    obtain ⟨h1, h2, h3, hrg, h5⟩ := may_prep hc hst
    have hr' := (range_iff c).1 hrg
    have hb : bumpB c x = decide (0 < c.th) := by unfold bumpB; rw [k4]; simp
    unfold compC
    rw [if_neg (by simpa using h)]
    by_cases ht : 0 < c.th
    · rw [if_pos ht]
      have := h3 ht
      exact ⟨may_new 1 c.pid (c.ep + 1) c.th (.inl rfl) (by omega) (by omega) (by omega), fun _ => rfl, by rw [hb, if_pos (by simpa using ht)], fun _ => ⟨hst, rfl, rfl, fun hf => by rw [hb] at hf; simp at hf; omega, by show ¬ (1 : Int) = 2; decide⟩⟩
    · rw [if_neg ht]
      have hbf : bumpB c x = false := by rw [hb]; simpa using ht
      by_cases h4 : c.st = 4
      · rw [if_pos h4]
        exact ⟨may_new 6 c.pid c.ep c.tm (.inr (.inr rfl)) (by omega) (by omega) (by omega), fun _ => rfl, by rw [hbf]; rfl, fun _ => ⟨hst, rfl, rfl, fun _ => by rw [if_neg (by omega)], by show ¬ (6 : Int) = 2; decide⟩⟩
      · rw [if_neg h4]
        exact ⟨may_new 5 c.pid c.ep c.tm (.inr (.inl rfl)) (by omega) (by omega) (by omega), fun _ => rfl, by rw [hbf]; rfl, fun _ => ⟨hst, rfl, rfl, fun _ => by rw [if_pos (by omega)], by show ¬ (5 : Int) = 2; decide⟩⟩
  rw [if_neg k4] at h ⊢
  have hb : bumpB c x = false := by
    unfold bumpB
    have e0 : (x.k == 0) = false := by simpa using k0
    have e4 : (x.k == 4) = false := by simpa using k4
    rw [e0, e4]; rfl
  by_cases k5 : x.k = 5
  · rw [if_pos k5]
    exact ⟨tick_may hc, fun _ => by unfold tickC; split <;> rfl, by rw [hb]; unfold tickC; split <;> rfl, fun hk4 => by omega⟩
  rw [if_neg k5] at h ⊢
  obtain ⟨h1, _, _, h4, h5, _⟩ := place_may hc h
  exact ⟨h1, fun _ => h4, by rw [hb, h5]; rfl, fun hk4 => by omega⟩
end Go.Proofs.YtagclnmchkgpdaaDoor
