/-
  Layer 18: states.Complete.
  Layer 18: states.Add, states.Set.
-/
import Derived.Test.YtbpkckahonmpkaaDoorMeBackProofP09
import Derived.Deep.Cut
import Derived.Deep.CutRange
import Derived.Deep.DeepCutAuto
set_option linter.unusedVariables false
set_option linter.unusedSimpArgs false
namespace Go.Proofs.YtbpkckahonmpkaaDoor
open Go.RowKit

theorem adj_long {α : Type} {R : α → α → Prop} (f : α → Int) (hR : ∀ a b, R a b → f a < f b) {l : List α} (h : Adj R l l.length) {a : α} (ha : l[0]? = some a) : ∀ (j : Nat) (b : α), l[j]? = some b → f a + j ≤ f b := by
  intro j
  induction j with
  | zero => intro b hb; rw [ha] at hb; injection hb with hb; subst hb; simp
  | succ j ih =>
    intro b hb
    have hlt := (List.getElem?_eq_some_iff.1 hb).1
    obtain ⟨c, hc⟩ : ∃ c, l[j]? = some c := ⟨_, List.getElem?_eq_getElem (by omega)⟩
    have h1 := ih c hc
    have h2 := hR _ _ (h j c b (by omega) hc hb)
    omega
theorem adj_short {α : Type} {R : α → α → Prop} (f : α → Int) (N : Nat) (hR : ∀ a b, R a b → f a < f b) {l : List α} (h : Adj R l l.length) (h0 : ∀ a, l[0]? = some a → 0 ≤ f a) (h1 : ∀ a, l[l.length - 1]? = some a → f a < N) : l.length ≤ N := by
  rcases Nat.eq_zero_or_pos l.length with hz | hz
  · omega
  obtain ⟨a, ha⟩ : ∃ c, l[0]? = some c := ⟨_, List.getElem?_eq_getElem hz⟩
  obtain ⟨b, hb⟩ : ∃ c, l[l.length - 1]? = some c := ⟨_, List.getElem?_eq_getElem (by omega)⟩
  have := adj_long f hR h ha _ b hb
  have := h0 a ha
  have := h1 b hb
  omega
theorem adjB_iff {α : Type} {R : α → α → Prop} {l : List α} : adjB R l = true ↔ Adj R l l.length := by unfold adjB; simp
theorem parts_short {l : List Int} (h : partsB l = true) : l.length ≤ 3 := by
  unfold partsB at h
  rw [Bool.and_eq_true, adjB_iff] at h
  obtain ⟨h1, h2⟩ := h
  rcases Nat.eq_zero_or_pos l.length with hz | hz
  · omega
  simp only [Bool.or_eq_true, decide_eq_true_eq, Bool.and_eq_true] at h2
  rcases h2 with h2 | ⟨h2, h3⟩
  · omega
  unfold partB at h2 h3
  simp only [Bool.and_eq_true, decide_eq_true_eq] at h2 h3
  refine adj_short id 3 (fun a b h => h) h1 (fun a ha => ?_) (fun a ha => ?_)
  · rw [List.getD_eq_getElem?_getD, ha] at h2; exact h2.1
  · rw [List.getD_eq_getElem?_getD, ha] at h3; exact h3.2
theorem pends_short {l : List Pd} (h : adjB aheadP l = true) (ha : l.all pendB = true) : l.length ≤ 6 := by
  rw [adjB_iff] at h
  have hp : ∀ (j : Nat) (p : Pd), l[j]? = some p → 0 ≤ p.1 ∧ p.1 < 2 ∧ 0 ≤ p.2.1 ∧ p.2.1 < 3 := fun j p hj => by
    have := List.all_eq_true.1 ha p (List.mem_of_getElem? hj)
    unfold pendB partB at this
    simp only [Bool.and_eq_true, decide_eq_true_eq] at this
    omega
  -- an order in the range: group * 3 + partition, where it is one
  let f : Pd → Int := fun p => if 0 ≤ p.2.1 ∧ p.2.1 < 3 then p.1 * 3 + p.2.1 else 0
  have hadj : Adj (fun a b => f a < f b) l l.length := fun j a b hj h1 h2 => by
    have := h j a b hj h1 h2
    have ra := hp j a h1
    have rb := hp (j + 1) b h2
    unfold aheadP aheadB at this
    simp only [Bool.or_eq_true, Bool.and_eq_true, decide_eq_true_eq] at this
    show f a < f b
    simp only [f]
    rw [if_pos ⟨ra.2.2.1, ra.2.2.2⟩, if_pos ⟨rb.2.2.1, rb.2.2.2⟩]
    omega
  refine adj_short f 6 (fun a b h => h) hadj (fun a h1 => ?_) (fun a h1 => ?_)
  · have := hp _ a h1; simp only [f]; rw [if_pos ⟨this.2.2.1, this.2.2.2⟩]; omega
  · have := hp _ a h1; simp only [f]; rw [if_pos ⟨this.2.2.1, this.2.2.2⟩]; omega
theorem may_small {c : Co} (h : mayB c = true) : c.ps.length ≤ 3 ∧ c.qs.length ≤ 6 := by
  by_cases h0 : c.st = 0
  · rw [may_none h h0]; exact ⟨by decide, by decide⟩
  have h1 := may_range h h0
  unfold rangeB at h1
  simp only [Bool.and_eq_true, decide_eq_true_eq] at h1
  obtain ⟨ha, _, _, _, _, _, _, _, _, hps, hqs⟩ := h1
  exact ⟨parts_short hps, pends_short hqs ha⟩
theorem chk_may {c : Co} {mv : Int} {fit : Bool} (h : chkE c mv fit = 0) : mayB c = true ∧ fit = true := by
  unfold chkE at h
  split at h
  · cases h
  · rename_i hn
    cases hm : mayB c <;> cases fit <;> simp_all
theorem infoCo : (Tryd.prog.info? 26).map (·.size) = some 8 := by kernel_rfl
theorem store_slI {W : World} {a : Addr} {u : Value} (A : Option Addr) (n c : Nat) (h : W.cell? a = some u) (hf : W.frozen? a = false) : (storeVar 23 a (.slice A n c)).run Tryd.prog W = .ok () (W.setCell a (.slice A n c)) := by
  simp [go_sem, h, hf]
theorem store_slP {W : World} {a : Addr} {u : Value} (A : Option Addr) (n c : Nat) (h : W.cell? a = some u) (hf : W.frozen? a = false) : (storeVar 24 a (.slice A n c)).run Tryd.prog W = .ok () (W.setCell a (.slice A n c)) := by
  simp [go_sem, h, hf]

noncomputable def addE (c : Co) (q : Int) : Int := chkE c 1 (partB q)
noncomputable def addC (c : Co) (q : Int) : Co := if addE c q = 0 then { c with st := 2, ps := keepF (fun y => cmpI y q) c.ps q } else Co0
section
attribute [-go_sem] loadCells storeVar
end

noncomputable def setE (c : Co) (p : Pd) : Int := chkE c 1 (pendB p)
noncomputable def setC (c : Co) (p : Pd) : Co := if setE c p = 0 then { c with st := 2, qs := keepF (fun y => plI y p) c.qs p } else Co0
section
attribute [-go_sem] loadCells storeVar
set_option maxRecDepth 100000 in
theorem set_ret (x : Co) (A5 D5 : Option Addr) (c5 e5 : Nat) (n : Int) (tmps : Array Value) (b : Nat) (W : World) (h2 : tmps[4]?.getD undef = .pointer (some ⟨b, 0, none⟩)) (h3 : tmps[5]?.getD undef = .int .i64 n) (hK : Blk W b 26 #[.int .i8 x.st, .int .i64 x.pid, .int .i64 x.ep, .int .i64 x.tm, .int .i64 x.th, .slice A5 x.ps.length c5, .slice D5 x.qs.length e5, .int .i64 x.ag]) :
    (results Tryd.f47 tmps).run Tryd.prog W = .ok (.tuple #[(.agg #[.int .i8 x.st, .int .i64 x.pid, .int .i64 x.ep, .int .i64 x.tm, .int .i64 x.th, .slice A5 x.ps.length c5, .slice D5 x.qs.length e5, .int .i64 x.ag]), .int .i64 n]) W := by
  have LC := bk_load (P := Tryd.prog) 8 hK rfl
  clear hK
  simp [results, Tryd.results47, go_sem, h2, h3, LC]
set_option maxRecDepth 100000 in
set_option maxHeartbeats 2000000 in
theorem Set_any (c : Co) (A1 D1 : Option Addr) (c1 e1 : Nat) (p : Pd) (w : World) (h1 : CoR w w.heap.size c A1 D1) (hg : HasET w) :
    Calls Tryd.prog 47 #[(.agg #[.int .i8 c.st, .int .i64 c.pid, .int .i64 c.ep, .int .i64 c.tm, .int .i64 c.th, .slice A1 c.ps.length c1, .slice D1 c.qs.length e1, .int .i64 c.ag]), .agg #[.int .i64 p.1, .int .i64 p.2.1, .int .i64 p.2.2]] w (MvPost (setC c p) (setE c p) w) := by
  obtain ⟨W0, hW0⟩ : ∃ W0, W0 = ((w.alloc (.cells #[.int .i8 c.st, .int .i64 c.pid, .int .i64 c.ep, .int .i64 c.tm, .int .i64 c.th, .slice A1 c.ps.length c1, .slice D1 c.qs.length e1, .int .i64 c.ag] 26)).alloc (.cells #[.int .i64 p.1, .int .i64 p.2.1, .int .i64 p.2.2] 33)).alloc (.cells #[.int .i8 0, .int .i64 0, .int .i64 0, .int .i64 0, .int .i64 0, .slice none 0 0, .slice none 0 0, .int .i64 0] 26) := ⟨_, rfl⟩
  have s0 : W0.heap.size = w.heap.size + 1 + 1 + 1 := by rw [hW0]; simp
  have B0 : Below w.heap.size w W0 := by rw [hW0]; exact bal (bal (bal (Below.refl _ _) _) _) _
  have K1 : Blk W0 w.heap.size 26 #[.int .i8 c.st, .int .i64 c.pid, .int .i64 c.ep, .int .i64 c.tm, .int .i64 c.th, .slice A1 c.ps.length c1, .slice D1 c.qs.length e1, .int .i64 c.ag] := by rw [hW0]; exact ((Blk.new w 26 #[.int .i8 c.st, .int .i64 c.pid, .int .i64 c.ep, .int .i64 c.tm, .int .i64 c.th, .slice A1 c.ps.length c1, .slice D1 c.qs.length e1, .int .i64 c.ag]).alloc _).alloc _
  have K2 : Blk W0 (w.heap.size + 1) 33 #[.int .i64 p.1, .int .i64 p.2.1, .int .i64 p.2.2] := by rw [hW0]; exact (bk_new _ 33 #[.int .i64 p.1, .int .i64 p.2.1, .int .i64 p.2.2] (by simp)).alloc _
  have K3 : Blk W0 (w.heap.size + 1 + 1) 26 #[.int .i8 0, .int .i64 0, .int .i64 0, .int .i64 0, .int .i64 0, .slice none 0 0, .slice none 0 0, .int .i64 0] := by rw [hW0]; exact bk_new _ 26 #[.int .i8 0, .int .i64 0, .int .i64 0, .int .i64 0, .int .i64 0, .slice none 0 0, .slice none 0 0, .int .i64 0] (by simp)
  have HW := Lib.hid hW0
  have HS := Lib.hid s0
  have HB := Lib.hid B0
  have HK1 := Lib.hid K1
  have HK2 := Lib.hid K2
  have HK3 := Lib.hid K3
  have H1 := Lib.hid h1
  have HG := Lib.hid hg
  have CH := Lib.hid (fun W (hb : Below W0.heap.size W0 W) => check_any c A1 D1 c1 e1 1 (pendB p) w.heap.size W ((h1.below B0).below (hb.mono B0.size)) (Nat.le_trans B0.size hb.size))
  have L0 := bk_load (P := Tryd.prog) 8 K1.drew rfl
  have L0b := bk_load (P := Tryd.prog) 3 K2.drew rfl
  clear hW0 s0 B0 K1 K2 K3 h1 hg
  go_enter Tryd.func47, Tryd.ntmps47
  go_upto_region 1 with (fail)
  rw [← HW.out]
  apply wp_region_join [[0, 1, 2], [1, 0, 2], [1, 2, 0]] [3, 4] (fun W3 => Below W0.heap.size W0.drew W3)
  · kernel_rfl
  · kernel_rfl
  · intro o ho
    simp only [List.mem_cons, List.not_mem_nil, or_false] at ho
    rcases ho with rfl | rfl | rfl
    all_goals simp only [List.filterMap_cons, List.filterMap_nil, List.getElem?_cons_succ, List.getElem?_cons_zero]
    · go_wp2_with fail
      refine (isPend_any p _).mono ?_
      rintro e w3 ⟨rfl, k3⟩
      have hbk : Below W0.heap.size W0.drew w3 := k3
      go_wp2_with fail
      exact ⟨rfl, hbk⟩
    · go_wp2_with fail
      refine (isPend_any p _).mono ?_
      rintro e w3 ⟨rfl, k3⟩
      have hbk : Below W0.heap.size W0.drew w3 := k3
      go_wp2_with fail
      exact ⟨rfl, hbk⟩
    · go_wp2_with fail
      refine (isPend_any p _).mono ?_
      rintro e w3 ⟨rfl, k3⟩
      have hbk : Below W0.heap.size W0.drew w3 := k3
      have L1 := bk_load (P := Tryd.prog) 8 (HK1.out.below (w := W0) (w' := w3) ⟨hbk.os, hbk.tape, hbk.output, hbk.size, hbk.block⟩ (by have := HS.out; omega)) rfl
      go_wp2_with fail
      exact ⟨rfl, hbk⟩
  rintro w3 k3
  have k3' : Below W0.heap.size W0 w3 := ⟨k3.os, k3.tape, k3.output, k3.size, k3.block⟩
  have B3 := Lib.hid k3'
  have C3 := Lib.hid (CH.out w3 k3')
  clear k3 k3'
  simp only [List.filterMap_cons, List.filterMap_nil, List.getElem?_cons_succ, List.getElem?_cons_zero]
  go_wp2_with fail
  refine C3.out.mono ?_
  rintro e w4 ⟨b4, hres⟩
  have B4 := Lib.hid (B3.out.trans (b4.mono B3.out.size))
  have K4 := Lib.hid (HK3.out.below B4.out (by have := HS.out; omega))
  clear b4 C3 CH
  by_cases hz : setE c p = 0
  · obtain rfl : e = .returned .nilIface := by
      rcases hres with ⟨_, h⟩ | ⟨h, _⟩
      · exact h
      · exact absurd hz h
    have hco : setC c p = { c with st := 2, qs := keepF (fun y => plI y p) c.qs p } := by unfold setC; rw [if_pos hz]
    have hmay := may_small (chk_may hz).1
    have HM := Lib.hid hmay
    have HCO := Lib.hid hco
    have HZ := Lib.hid hz
    have L4 := bk_load (P := Tryd.prog) 8 (HK1.out.below B4.out (by have := HS.out; omega)) rfl
    have ON := Lib.hid (ongoing_any c A1 D1 c1 e1 w4 ((H1.out.below HB.out).below (B4.out.mono HB.out.size) |>.more (Nat.le_trans HB.out.size B4.out.size)))
    clear hz hres hmay hco L0 L0b
    go_wp2_with fail
    refine ON.out.mono ?_
    rintro e w5 ⟨A5, D5, c5, e5, rfl, r5, q5, sp5, b5⟩
    obtain ⟨W6, st, k6, b6, s6⟩ := bk_fresh (P := Tryd.prog) w5 26 #[.int .i8 0, .int .i64 0, .int .i64 0, .int .i64 0, .int .i64 0, .slice none 0 0, .slice none 0 0, .int .i64 0] #[.int .i8 2, .int .i64 c.pid, .int .i64 c.ep, .int .i64 c.tm, .int .i64 c.th, .slice A5 c.ps.length c5, .slice D5 c.qs.length e5, .int .i64 c.ag] 8 infoCo rfl rfl (by simp [Value.oneCell'])
    have st' : (storeVar 26 ⟨w5.heap.size, 0, none⟩ (.agg #[.int .i8 2, .int .i64 c.pid, .int .i64 c.ep, .int .i64 c.tm, .int .i64 c.th, .slice A5 c.ps.length c5, .slice D5 c.qs.length e5, .int .i64 c.ag])).run Tryd.prog _ = .ok () W6 := st
    have R6 := Lib.hid (own_below r5 b6)
    have Q6 := Lib.hid (own_below q5 b6)
    have SP := Lib.hid sp5
    have NE6 := Lib.hid (show (Value.slice D5 c.qs.length e5).ownBlock ≠ some w5.heap.size from fun e => by have := (q5.lt _ e).2; omega)
    have B6 := Lib.hid (show Below W0.heap.size W0 W6 from (B4.out.trans (b5.mono B4.out.size)).trans (b6.mono (Nat.le_trans B4.out.size b5.size)))
    have HW4 := Lib.hid (show W0.heap.size ≤ w4.heap.size from B4.out.size)
    have HW5 := Lib.hid (show w4.heap.size ≤ w5.heap.size from b5.size)
    have K6 := Lib.hid k6
    have K36 := Lib.hid ((K4.out.below b5 K4.out.lt).below b6 (Nat.lt_of_lt_of_le K4.out.lt b5.size))
    have p6 := HK2.out.below B6.out (by have := HS.out; omega)
    have P6 := Lib.hid p6
    have f6 := k6.cell 6
    have LP := bk_load (P := Tryd.prog) 3 p6 rfl
    have x0 := p6.cell 0
    have x1 := p6.cell 1
    have x2 := p6.cell 2
    have KP := Lib.hid (keepP_any w4.heap.size D5 e5 (w.heap.size + 1) c.qs p W6 Q6.out (by have := B6.out.size; have := HW4.out; have := HW5.out; omega) (by have := HM.out.2; omega) (p6.cell 0) (p6.cell 1) (p6.cell 2))
    clear r5 q5 sp5 b5 st k6 b6 s6 p6 L4
    go_wp2_with fail
    refine KP.out.mono ?_
    rintro e w7 ⟨A7, c7, rfl, o7, g7⟩

    have k7 := bk_grown_blk g7 K6.out NE6.out
    have k8 := bk_grown_blk g7 K36.out (fun e => by have := (Q6.out.lt _ e).1; have := HS.out; have := HW4.out; omega)
    have b7 : Below W0.heap.size W0 w7 := B6.out.grown g7 B6.out.size (fun y hy => by have := (Q6.out.lt y hy).1; have := HW4.out; omega)
    have oth := bk_grown_own g7 R6.out (fun y hy e => SP.out y hy e)
    have n1 := own_blk_ne o7 k7 (by decide)
    have n2 := own_blk_ne oth k7 (by decide)
    have n3 := own_blk_ne o7 k8 (by decide)
    have n4 := own_blk_ne oth k8 (by decide)
    have st := store_slP A7 (keepF (fun y => plI y p) c.qs p).length c7 (k7.cell 6) (k7.frozen 6)
    have k9 : Blk (w7.setCell ⟨w5.heap.size, 6, none⟩ (.slice A7 (keepF (fun y => plI y p) c.qs p).length c7)) w5.heap.size 26 #[.int .i8 2, .int .i64 c.pid, .int .i64 c.ep, .int .i64 c.tm, .int .i64 c.th, .slice A5 c.ps.length c5, .slice A7 (keepF (fun y => plI y p) c.qs p).length c7, .int .i64 c.ag] := k7.set_ 6 (.slice A7 (keepF (fun y => plI y p) c.qs p).length c7)
    have k10 := k8.far (p := ⟨w5.heap.size, 6, none⟩) (by have := HS.out; have := HW4.out; have := HW5.out; show ¬ _ = w5.heap.size; omega) (.slice A7 (keepF (fun y => plI y p) c.qs p).length c7)
    have b9 := b7.setCell (p := ⟨w5.heap.size, 6, none⟩) (by show _ ≤ w5.heap.size; have := HW4.out; have := HW5.out; omega) (.slice A7 (keepF (fun y => plI y p) c.qs p).length c7)
    have hs9 : ∀ y, y ≠ w5.heap.size → (w7.setCell ⟨w5.heap.size, 6, none⟩ (.slice A7 (keepF (fun y => plI y p) c.qs p).length c7)).heap[y]? = w7.heap[y]? := fun y hy => Below.heap_setCell _ _ _ _ hy
    have o9 := bk_own o7 (fun y hy => hs9 y (fun e => n1 (by rw [hy, e])))
    have t9 := bk_own oth (fun y hy => hs9 y (fun e => n2 (by rw [hy, e])))
    have hlen := length_keepF (fun y => plI y p) c.qs p
    have LL := Lib.hid hlen
    have B9 := Lib.hid b9
    have O9 := Lib.hid o9
    have T9 := Lib.hid t9
    have K9 := Lib.hid k9
    have K10 := Lib.hid k10
    have N3 := Lib.hid n3
    have N4 := Lib.hid n4
    clear k7 k8 b7 oth n1 n2 n3 n4 k9 k10 b9 hs9 o9 t9 g7 o7 hlen x0 x1 x2 LP f6 st'
    go_upto_region 6 with (fail)
    clear st
    generalize w7.setCell ⟨w5.heap.size, 6, none⟩ (.slice A7 (keepF (fun y => plI y p) c.qs p).length c7) = W9 at *
    have L9 := bk_load (P := Tryd.prog) 8 K9.out rfl
    obtain ⟨W10, st10, kk, fb, fh, _⟩ := bk_store (P := Tryd.prog) (ty := 26) (cs := #[.int .i8 2, .int .i64 c.pid, .int .i64 c.ep, .int .i64 c.tm, .int .i64 c.th, .slice A5 c.ps.length c5, .slice A7 (keepF (fun y => plI y p) c.qs p).length c7, .int .i64 c.ag]) 8 K10.out infoCo rfl rfl (by simp [Value.oneCell'])
    have BB := Lib.hid (fb w.heap.size w (by omega) (HB.out.trans (B9.out.mono HB.out.size)))
    have OA := Lib.hid (bk_own O9.out (fun y hy => fh y (fun e => N3.out (by rw [hy, e]))))
    have OB := Lib.hid (bk_own T9.out (fun y hy => fh y (fun e => N4.out (by rw [hy, e]))))
    have KK := Lib.hid kk
    clear kk fb fh
    go_wp2_with fail
    refine bodyPost_ret (v := .tuple #[.agg #[.int .i8 2, .int .i64 c.pid, .int .i64 c.ep, .int .i64 c.tm, .int .i64 c.th, .slice A5 c.ps.length c5, .slice A7 (keepF (fun y => plI y p) c.qs p).length c7, .int .i64 c.ag], .int .i64 0]) (set_ret { c with st := 2, qs := keepF (fun y => plI y p) c.qs p } A5 A7 c5 c7 0 _ (w.heap.size + 1 + 1) _ rfl rfl KK.out) rfl ?_
    rw [HCO.out, HZ.out]
    have hm := HM.out
    have hl := LL.out
    have h4 := HW4.out
    have h0 := HS.out
    exact ⟨A5, A7, c5, c7, rfl, ⟨Reads.of_own OB.out, Reads.of_own OA.out, by show c.ps.length ≤ 1000; omega, by show (keepF (fun y => plI y p) c.qs p).length ≤ 1000; omega⟩, BB.out, (newAt_of_own OB.out).mono (by omega), (newAt_of_own OA.out).mono (by omega)⟩
  · obtain ⟨b, rfl, hc2, _⟩ : FaultAt (chkE c 1 (pendB p)) _ e w4 := by
      rcases hres with ⟨h, _⟩ | ⟨_, h⟩
      · exact absurd h hz
      · exact h
    have hco : setC c p = Co0 := by unfold setC; rw [if_neg hz]
    have HCO := Lib.hid hco
    have CF := Lib.hid (code_fault b (setE c p) w4 (HG.out.up (HB.out.trans (B4.out.mono HB.out.size))) hc2)
    clear hz hres hco hc2 L0 L0b
    go_wp2_with fail
    refine CF.out.mono ?_
    rintro e w5 ⟨rfl, b5⟩
    obtain ⟨W10, st10, kk, fb, fh, _⟩ := bk_store (P := Tryd.prog) (ty := 26) (cs := #[.int .i8 0, .int .i64 0, .int .i64 0, .int .i64 0, .int .i64 0, .slice none 0 0, .slice none 0 0, .int .i64 0]) 8 (K4.out.below b5 K4.out.lt) infoCo rfl rfl (by simp [Value.oneCell'])
    have BB := Lib.hid (fb w.heap.size w (by omega) ((HB.out.trans (B4.out.mono HB.out.size)).trans (b5.mono (Nat.le_trans HB.out.size B4.out.size))))
    have KK := Lib.hid kk
    clear kk fb fh b5
    go_wp2_with fail
    refine bodyPost_ret (v := .tuple #[.agg #[.int .i8 0, .int .i64 0, .int .i64 0, .int .i64 0, .int .i64 0, .slice none 0 0, .slice none 0 0, .int .i64 0], .int .i64 (setE c p)]) (set_ret Co0 none none 0 0 _ _ (w.heap.size + 1 + 1) _ rfl rfl KK.out) rfl ?_
    rw [HCO.out]
    exact ⟨none, none, 0, 0, rfl, CoR.zero _ _ _ _, BB.out, NewAt.none_, NewAt.none_⟩
end
end Go.Proofs.YtbpkckahonmpkaaDoor
namespace Go.Proofs.YtbpkckahonmpkaaDoor
open Go.RowKit

noncomputable def compC (c : Co) : Co :=
  if ¬ chkE c 3 true = 0 then Co0
  else if 0 < c.th then ⟨1, c.pid, c.ep + 1, c.th, 0, [], [], 0⟩
  else if c.st = 4 then ⟨6, c.pid, c.ep, c.tm, 0, [], [], 0⟩ else ⟨5, c.pid, c.ep, c.tm, 0, [], [], 0⟩

set_option maxRecDepth 100000 in
set_option maxHeartbeats 1000000 in
theorem Complete_a (c : Co) (A1 D1 : Option Addr) (c1 e1 : Nat) (w : World) (h1 : CoR w w.heap.size c A1 D1) (hg : HasET w) (k2 : ¬ chkE c 3 true = 0) :
    Calls Tryd.prog 49 #[(.agg #[.int .i8 c.st, .int .i64 c.pid, .int .i64 c.ep, .int .i64 c.tm, .int .i64 c.th, .slice A1 c.ps.length c1, .slice D1 c.qs.length e1, .int .i64 c.ag])] w (MvPost (compC c) (chkE c 3 true) w) := by
  obtain ⟨n, hn⟩ : ∃ n, chkE c 3 true = n := ⟨_, rfl⟩
  have hco : compC c = Co0 := by unfold compC; rw [if_pos k2]
  have HCO := Lib.hid hco
  have HCK := Lib.hid hn
  have HK2 := Lib.hid k2
  have h2 := (h1.al (.cells #[.int .i8 c.st, .int .i64 c.pid, .int .i64 c.ep, .int .i64 c.tm, .int .i64 c.th, .slice A1 c.ps.length c1, .slice D1 c.qs.length e1, .int .i64 c.ag] 26)).al (.cells #[.int .i8 0, .int .i64 0, .int .i64 0, .int .i64 0, .int .i64 0, .slice none 0 0, .slice none 0 0, .int .i64 0] 26)
  have hc := check_any c A1 D1 c1 e1 3 true _ _ h2 (Nat.le_refl _)
  have HC := Lib.hid hc
  have HB := Lib.hid (bal (bal (Below.refl w.heap.size w) (.cells #[.int .i8 c.st, .int .i64 c.pid, .int .i64 c.ep, .int .i64 c.tm, .int .i64 c.th, .slice A1 c.ps.length c1, .slice D1 c.qs.length e1, .int .i64 c.ag] 26)) (.cells #[.int .i8 0, .int .i64 0, .int .i64 0, .int .i64 0, .int .i64 0, .slice none 0 0, .slice none 0 0, .int .i64 0] 26))
  have K1 := Lib.hid ((Blk.new w 26 #[.int .i8 c.st, .int .i64 c.pid, .int .i64 c.ep, .int .i64 c.tm, .int .i64 c.th, .slice A1 c.ps.length c1, .slice D1 c.qs.length e1, .int .i64 c.ag]).alloc (.cells #[.int .i8 0, .int .i64 0, .int .i64 0, .int .i64 0, .int .i64 0, .slice none 0 0, .slice none 0 0, .int .i64 0] 26))
  have kk := Blk.new (w.alloc (.cells #[.int .i8 c.st, .int .i64 c.pid, .int .i64 c.ep, .int .i64 c.tm, .int .i64 c.th, .slice A1 c.ps.length c1, .slice D1 c.qs.length e1, .int .i64 c.ag] 26)) 26 #[.int .i8 0, .int .i64 0, .int .i64 0, .int .i64 0, .int .i64 0, .slice none 0 0, .slice none 0 0, .int .i64 0]
  rw [World.size_alloc] at kk
  have K2 := Lib.hid kk
  have HG := Lib.hid hg
  clear h2 hc kk h1 hg k2 hco hn
  go_enter Tryd.func49, Tryd.ntmps49
  go_wp2_with fail
  refine HC.out.mono ?_
  rintro e w2 ⟨b2, hres⟩
  have hz2 := b2.size
  simp only [World.size_alloc] at hz2
  have bf := btrans HB.out b2
  obtain ⟨b, rfl, hc2, hbge, hblt⟩ : FaultAt n _ e w2 := by
    rcases hres with ⟨hz, _⟩ | ⟨_, hf⟩
    · exact absurd hz HK2.out
    · rw [HCK.out] at hf; exact hf
  clear hres
  have hcode := code_fault b n w2 (HG.out.up bf) hc2
  have HCODE := Lib.hid hcode
  clear hcode hc2
  go_wp2_with fail
  refine HCODE.out.mono ?_
  rintro e w3 ⟨rfl, b3⟩
  have k6 := (K2.out.below b2 (by simp only [World.size_alloc]; omega)).below b3 (by omega)
  have y0 := k6.cell 0
  have z0 := k6.frozen 0
  have y1 := k6.cell 1
  have z1 := k6.frozen 1
  have y2 := k6.cell 2
  have z2 := k6.frozen 2
  have y3 := k6.cell 3
  have z3 := k6.frozen 3
  have y4 := k6.cell 4
  have z4 := k6.frozen 4
  have y5 := k6.cell 5
  have z5 := k6.frozen 5
  have y6 := k6.cell 6
  have z6 := k6.frozen 6
  have y7 := k6.cell 7
  have z7 := k6.frozen 7
  have bg := btrans bf b3
  have hz3 := b3.size
  go_wp2_with fail
  refine bodyPost_ret (v := .tuple #[.agg #[.int .i8 0, .int .i64 0, .int .i64 0, .int .i64 0, .int .i64 0, .slice none 0 0, .slice none 0 0, .int .i64 0], .int .i64 n]) (by simp [results, Tryd.results49, go_sem, y0, y1, y2, y3, y4, y5, y6, y7]) rfl ?_
  rw [HCK.out, HCO.out]
  exact ⟨none, none, 0, 0, rfl, CoR.zero _ _ _ _, (bset (bset (bset (bset (bset (bset (bset (bset bg (by omega) _) (by omega) _) (by omega) _) (by omega) _) (by omega) _) (by omega) _) (by omega) _) (by omega) _), NewAt.none_, NewAt.none_⟩

set_option maxRecDepth 100000 in
set_option maxHeartbeats 2000000 in
theorem Complete_b (c : Co) (A1 D1 : Option Addr) (c1 e1 : Nat) (w : World) (h1 : CoR w w.heap.size c A1 D1) (hg : HasET w) (k2 : chkE c 3 true = 0) (k3 : ¬ 0 < c.th) (k4 : ¬ c.st = 4) :
    Calls Tryd.prog 49 #[(.agg #[.int .i8 c.st, .int .i64 c.pid, .int .i64 c.ep, .int .i64 c.tm, .int .i64 c.th, .slice A1 c.ps.length c1, .slice D1 c.qs.length e1, .int .i64 c.ag])] w (MvPost (compC c) (chkE c 3 true) w) := by
  have hco : compC c = ⟨5, c.pid, c.ep, c.tm, 0, [], [], 0⟩ := by unfold compC; rw [if_neg (by rw [k2]; simp), if_neg k3, if_neg k4]
  have HCO := Lib.hid hco
  have HK2 := Lib.hid k2
  have d1 : (c.st == 4) = false := eqb_false k4
  have d2 : decide (0 < c.th) = false := decide_eq_false k3
  have h2 := (h1.al (.cells #[.int .i8 c.st, .int .i64 c.pid, .int .i64 c.ep, .int .i64 c.tm, .int .i64 c.th, .slice A1 c.ps.length c1, .slice D1 c.qs.length e1, .int .i64 c.ag] 26)).al (.cells #[.int .i8 0, .int .i64 0, .int .i64 0, .int .i64 0, .int .i64 0, .slice none 0 0, .slice none 0 0, .int .i64 0] 26)
  have hc := check_any c A1 D1 c1 e1 3 true _ _ h2 (Nat.le_refl _)
  have HC := Lib.hid hc
  have HB := Lib.hid (bal (bal (Below.refl w.heap.size w) (.cells #[.int .i8 c.st, .int .i64 c.pid, .int .i64 c.ep, .int .i64 c.tm, .int .i64 c.th, .slice A1 c.ps.length c1, .slice D1 c.qs.length e1, .int .i64 c.ag] 26)) (.cells #[.int .i8 0, .int .i64 0, .int .i64 0, .int .i64 0, .int .i64 0, .slice none 0 0, .slice none 0 0, .int .i64 0] 26))
  have K1 := Lib.hid ((Blk.new w 26 #[.int .i8 c.st, .int .i64 c.pid, .int .i64 c.ep, .int .i64 c.tm, .int .i64 c.th, .slice A1 c.ps.length c1, .slice D1 c.qs.length e1, .int .i64 c.ag]).alloc (.cells #[.int .i8 0, .int .i64 0, .int .i64 0, .int .i64 0, .int .i64 0, .slice none 0 0, .slice none 0 0, .int .i64 0] 26))
  have kk := Blk.new (w.alloc (.cells #[.int .i8 c.st, .int .i64 c.pid, .int .i64 c.ep, .int .i64 c.tm, .int .i64 c.th, .slice A1 c.ps.length c1, .slice D1 c.qs.length e1, .int .i64 c.ag] 26)) 26 #[.int .i8 0, .int .i64 0, .int .i64 0, .int .i64 0, .int .i64 0, .slice none 0 0, .slice none 0 0, .int .i64 0]
  rw [World.size_alloc] at kk
  have K2 := Lib.hid kk
  have HG := Lib.hid hg
  clear h2 hc kk h1 hg k2 k4 hco
  go_enter Tryd.func49, Tryd.ntmps49
  go_wp2_with fail
  refine HC.out.mono ?_
  rintro e w2 ⟨b2, hres⟩
  have hz2 := b2.size
  simp only [World.size_alloc] at hz2
  have bf := btrans HB.out b2
  obtain rfl : e = .returned .nilIface := by
    rcases hres with ⟨_, h⟩ | ⟨hz, _⟩
    · exact h
    · exact absurd HK2.out hz
  clear hres
  have k5 := K1.out.below b2 (by simp only [World.size_alloc]; omega)
  have k6 := K2.out.below b2 (by simp only [World.size_alloc]; omega)
  have hlt3 : w.heap.size + 1 < w2.heap.size := by omega
  have hne3 : ¬ w.heap.size + 1 = w2.heap.size := by omega
  have hlt4 : w.heap.size < w2.heap.size := by omega
  have hne4 : ¬ w.heap.size = w2.heap.size := by omega
  have x0 := k5.cell 0
  have x1 := k5.cell 1
  have x2 := k5.cell 2
  have x3 := k5.cell 3
  have x4 := k5.cell 4
  have x5 := k5.cell 5
  have x6 := k5.cell 6
  have x7 := k5.cell 7
  have y0 := k6.cell 0
  have z0 := k6.frozen 0
  have y1 := k6.cell 1
  have z1 := k6.frozen 1
  have y2 := k6.cell 2
  have z2 := k6.frozen 2
  have y3 := k6.cell 3
  have z3 := k6.frozen 3
  have y4 := k6.cell 4
  have z4 := k6.frozen 4
  have y5 := k6.cell 5
  have z5 := k6.frozen 5
  have y6 := k6.cell 6
  have z6 := k6.frozen 6
  have y7 := k6.cell 7
  have z7 := k6.frozen 7
  go_wp2_with fail
  refine bodyPost_ret (v := .tuple #[.agg #[.int .i8 5, .int .i64 c.pid, .int .i64 c.ep, .int .i64 c.tm, .int .i64 0, .slice none 0 0, .slice none 0 0, .int .i64 0], .int .i64 0]) (by simp [results, Tryd.results49, go_sem, y0, y1, y2, y3, y4, y5, y6, y7, hlt3, hne3]) rfl ?_
  rw [HK2.out, HCO.out]
  refine ⟨none, none, 0, 0, rfl, ⟨Reads.none_, Reads.none_, by simp, by simp⟩, ?_, NewAt.none_, NewAt.none_⟩
  exact bal (bset (bset (bset (bset (bset (bset (bset (bset bf (by omega) _) (by omega) _) (by omega) _) (by omega) _) (by omega) _) (by omega) _) (by omega) _) (by omega) _) _

set_option maxRecDepth 100000 in
set_option maxHeartbeats 2000000 in
theorem Complete_c (c : Co) (A1 D1 : Option Addr) (c1 e1 : Nat) (w : World) (h1 : CoR w w.heap.size c A1 D1) (hg : HasET w) (k2 : chkE c 3 true = 0) (k3 : ¬ 0 < c.th) (k4 : c.st = 4) :
    Calls Tryd.prog 49 #[(.agg #[.int .i8 c.st, .int .i64 c.pid, .int .i64 c.ep, .int .i64 c.tm, .int .i64 c.th, .slice A1 c.ps.length c1, .slice D1 c.qs.length e1, .int .i64 c.ag])] w (MvPost (compC c) (chkE c 3 true) w) := by
  have hco : compC c = ⟨6, c.pid, c.ep, c.tm, 0, [], [], 0⟩ := by unfold compC; rw [if_neg (by rw [k2]; simp), if_neg k3, if_pos k4]
  have HCO := Lib.hid hco
  have HK2 := Lib.hid k2
  have d1 : (c.st == 4) = true := eqb_true k4
  have d2 : decide (0 < c.th) = false := decide_eq_false k3
  have h2 := (h1.al (.cells #[.int .i8 c.st, .int .i64 c.pid, .int .i64 c.ep, .int .i64 c.tm, .int .i64 c.th, .slice A1 c.ps.length c1, .slice D1 c.qs.length e1, .int .i64 c.ag] 26)).al (.cells #[.int .i8 0, .int .i64 0, .int .i64 0, .int .i64 0, .int .i64 0, .slice none 0 0, .slice none 0 0, .int .i64 0] 26)
  have hc := check_any c A1 D1 c1 e1 3 true _ _ h2 (Nat.le_refl _)
  have HC := Lib.hid hc
  have HB := Lib.hid (bal (bal (Below.refl w.heap.size w) (.cells #[.int .i8 c.st, .int .i64 c.pid, .int .i64 c.ep, .int .i64 c.tm, .int .i64 c.th, .slice A1 c.ps.length c1, .slice D1 c.qs.length e1, .int .i64 c.ag] 26)) (.cells #[.int .i8 0, .int .i64 0, .int .i64 0, .int .i64 0, .int .i64 0, .slice none 0 0, .slice none 0 0, .int .i64 0] 26))
  have K1 := Lib.hid ((Blk.new w 26 #[.int .i8 c.st, .int .i64 c.pid, .int .i64 c.ep, .int .i64 c.tm, .int .i64 c.th, .slice A1 c.ps.length c1, .slice D1 c.qs.length e1, .int .i64 c.ag]).alloc (.cells #[.int .i8 0, .int .i64 0, .int .i64 0, .int .i64 0, .int .i64 0, .slice none 0 0, .slice none 0 0, .int .i64 0] 26))
  have kk := Blk.new (w.alloc (.cells #[.int .i8 c.st, .int .i64 c.pid, .int .i64 c.ep, .int .i64 c.tm, .int .i64 c.th, .slice A1 c.ps.length c1, .slice D1 c.qs.length e1, .int .i64 c.ag] 26)) 26 #[.int .i8 0, .int .i64 0, .int .i64 0, .int .i64 0, .int .i64 0, .slice none 0 0, .slice none 0 0, .int .i64 0]
  rw [World.size_alloc] at kk
  have K2 := Lib.hid kk
  have HG := Lib.hid hg
  clear h2 hc kk h1 hg k2 k4 hco
  go_enter Tryd.func49, Tryd.ntmps49
  go_wp2_with fail
  refine HC.out.mono ?_
  rintro e w2 ⟨b2, hres⟩
  have hz2 := b2.size
  simp only [World.size_alloc] at hz2
  have bf := btrans HB.out b2
  obtain rfl : e = .returned .nilIface := by
    rcases hres with ⟨_, h⟩ | ⟨hz, _⟩
    · exact h
    · exact absurd HK2.out hz
  clear hres
  have k5 := K1.out.below b2 (by simp only [World.size_alloc]; omega)
  have k6 := K2.out.below b2 (by simp only [World.size_alloc]; omega)
  have hlt3 : w.heap.size + 1 < w2.heap.size := by omega
  have hne3 : ¬ w.heap.size + 1 = w2.heap.size := by omega
  have hlt4 : w.heap.size < w2.heap.size := by omega
  have hne4 : ¬ w.heap.size = w2.heap.size := by omega
  have x0 := k5.cell 0
  have x1 := k5.cell 1
  have x2 := k5.cell 2
  have x3 := k5.cell 3
  have x4 := k5.cell 4
  have x5 := k5.cell 5
  have x6 := k5.cell 6
  have x7 := k5.cell 7
  have y0 := k6.cell 0
  have z0 := k6.frozen 0
  have y1 := k6.cell 1
  have z1 := k6.frozen 1
  have y2 := k6.cell 2
  have z2 := k6.frozen 2
  have y3 := k6.cell 3
  have z3 := k6.frozen 3
  have y4 := k6.cell 4
  have z4 := k6.frozen 4
  have y5 := k6.cell 5
  have z5 := k6.frozen 5
  have y6 := k6.cell 6
  have z6 := k6.frozen 6
  have y7 := k6.cell 7
  have z7 := k6.frozen 7
  go_wp2_with fail
  refine bodyPost_ret (v := .tuple #[.agg #[.int .i8 6, .int .i64 c.pid, .int .i64 c.ep, .int .i64 c.tm, .int .i64 0, .slice none 0 0, .slice none 0 0, .int .i64 0], .int .i64 0]) (by simp [results, Tryd.results49, go_sem, y0, y1, y2, y3, y4, y5, y6, y7, hlt3, hne3]) rfl ?_
  rw [HK2.out, HCO.out]
  refine ⟨none, none, 0, 0, rfl, ⟨Reads.none_, Reads.none_, by simp, by simp⟩, ?_, NewAt.none_, NewAt.none_⟩
  exact bal (bset (bset (bset (bset (bset (bset (bset (bset bf (by omega) _) (by omega) _) (by omega) _) (by omega) _) (by omega) _) (by omega) _) (by omega) _) (by omega) _) _

set_option maxRecDepth 100000 in
set_option maxHeartbeats 2000000 in
theorem Complete_d (c : Co) (A1 D1 : Option Addr) (c1 e1 : Nat) (w : World) (h1 : CoR w w.heap.size c A1 D1) (hg : HasET w) (k2 : chkE c 3 true = 0) (k3 : 0 < c.th) (k4 : ¬ c.st = 4) (k5 : -1000000 ≤ c.ep) (k6 : c.ep ≤ 1000000) :
    Calls Tryd.prog 49 #[(.agg #[.int .i8 c.st, .int .i64 c.pid, .int .i64 c.ep, .int .i64 c.tm, .int .i64 c.th, .slice A1 c.ps.length c1, .slice D1 c.qs.length e1, .int .i64 c.ag])] w (MvPost (compC c) (chkE c 3 true) w) := by
  have hco : compC c = ⟨1, c.pid, c.ep + 1, c.th, 0, [], [], 0⟩ := by unfold compC; rw [if_neg (by rw [k2]; simp), if_pos k3]
  have HCO := Lib.hid hco
  have HK2 := Lib.hid k2
  have d1 : (c.st == 4) = false := eqb_false k4
  have d2 : decide (0 < c.th) = true := decide_eq_true k3
  have h2 := (h1.al (.cells #[.int .i8 c.st, .int .i64 c.pid, .int .i64 c.ep, .int .i64 c.tm, .int .i64 c.th, .slice A1 c.ps.length c1, .slice D1 c.qs.length e1, .int .i64 c.ag] 26)).al (.cells #[.int .i8 0, .int .i64 0, .int .i64 0, .int .i64 0, .int .i64 0, .slice none 0 0, .slice none 0 0, .int .i64 0] 26)
  have hc := check_any c A1 D1 c1 e1 3 true _ _ h2 (Nat.le_refl _)
  have HC := Lib.hid hc
  have HB := Lib.hid (bal (bal (Below.refl w.heap.size w) (.cells #[.int .i8 c.st, .int .i64 c.pid, .int .i64 c.ep, .int .i64 c.tm, .int .i64 c.th, .slice A1 c.ps.length c1, .slice D1 c.qs.length e1, .int .i64 c.ag] 26)) (.cells #[.int .i8 0, .int .i64 0, .int .i64 0, .int .i64 0, .int .i64 0, .slice none 0 0, .slice none 0 0, .int .i64 0] 26))
  have K1 := Lib.hid ((Blk.new w 26 #[.int .i8 c.st, .int .i64 c.pid, .int .i64 c.ep, .int .i64 c.tm, .int .i64 c.th, .slice A1 c.ps.length c1, .slice D1 c.qs.length e1, .int .i64 c.ag]).alloc (.cells #[.int .i8 0, .int .i64 0, .int .i64 0, .int .i64 0, .int .i64 0, .slice none 0 0, .slice none 0 0, .int .i64 0] 26))
  have kk := Blk.new (w.alloc (.cells #[.int .i8 c.st, .int .i64 c.pid, .int .i64 c.ep, .int .i64 c.tm, .int .i64 c.th, .slice A1 c.ps.length c1, .slice D1 c.qs.length e1, .int .i64 c.ag] 26)) 26 #[.int .i8 0, .int .i64 0, .int .i64 0, .int .i64 0, .int .i64 0, .slice none 0 0, .slice none 0 0, .int .i64 0]
  rw [World.size_alloc] at kk
  have K2 := Lib.hid kk
  have HG := Lib.hid hg
  clear h2 hc kk h1 hg k2 k4 hco
  go_enter Tryd.func49, Tryd.ntmps49
  go_wp2_with fail
  refine HC.out.mono ?_
  rintro e w2 ⟨b2, hres⟩
  have hz2 := b2.size
  simp only [World.size_alloc] at hz2
  have bf := btrans HB.out b2
  obtain rfl : e = .returned .nilIface := by
    rcases hres with ⟨_, h⟩ | ⟨hz, _⟩
    · exact h
    · exact absurd HK2.out hz
  clear hres
  have k5 := K1.out.below b2 (by simp only [World.size_alloc]; omega)
  have k6 := K2.out.below b2 (by simp only [World.size_alloc]; omega)
  have hlt3 : w.heap.size + 1 < w2.heap.size := by omega
  have hne3 : ¬ w.heap.size + 1 = w2.heap.size := by omega
  have hlt4 : w.heap.size < w2.heap.size := by omega
  have hne4 : ¬ w.heap.size = w2.heap.size := by omega
  have x0 := k5.cell 0
  have x1 := k5.cell 1
  have x2 := k5.cell 2
  have x3 := k5.cell 3
  have x4 := k5.cell 4
  have x5 := k5.cell 5
  have x6 := k5.cell 6
  have x7 := k5.cell 7
  have y0 := k6.cell 0
  have z0 := k6.frozen 0
  have y1 := k6.cell 1
  have z1 := k6.frozen 1
  have y2 := k6.cell 2
  have z2 := k6.frozen 2
  have y3 := k6.cell 3
  have z3 := k6.frozen 3
  have y4 := k6.cell 4
  have z4 := k6.frozen 4
  have y5 := k6.cell 5
  have z5 := k6.frozen 5
  have y6 := k6.cell 6
  have z6 := k6.frozen 6
  have y7 := k6.cell 7
  have z7 := k6.frozen 7
  go_wp2_with fail
  have ko := Blk.new w2 26 #[.int .i8 5, .int .i64 c.pid, .int .i64 c.ep, .int .i64 c.tm, .int .i64 0, .slice none 0 0, .slice none 0 0, .int .i64 0]
  have k5' := k5.alloc (.cells #[.int .i8 5, .int .i64 c.pid, .int .i64 c.ep, .int .i64 c.tm, .int .i64 0, .slice none 0 0, .slice none 0 0, .int .i64 0] 26)
  have k6' := k6.alloc (.cells #[.int .i8 5, .int .i64 c.pid, .int .i64 c.ep, .int .i64 c.tm, .int .i64 0, .slice none 0 0, .slice none 0 0, .int .i64 0] 26)
  have bf' := bal bf (.cells #[.int .i8 5, .int .i64 c.pid, .int .i64 c.ep, .int .i64 c.tm, .int .i64 0, .slice none 0 0, .slice none 0 0, .int .i64 0] 26)
  clear x0 x1 x2 x3 x4 x5 x6 x7 y0 y1 y2 y3 y4 y5 y6 y7 z0 z1 z2 z3 z4 z5 z6 z7
  generalize w2.alloc (.cells #[.int .i8 5, .int .i64 c.pid, .int .i64 c.ep, .int .i64 c.tm, .int .i64 0, .slice none 0 0, .slice none 0 0, .int .i64 0] 26) = W at *
  have x2 := k5'.cell 2
  have x4 := k5'.cell 4
  have u0 := ko.cell 0
  have u2 := ko.cell 2
  have u3 := ko.cell 3
  have v0 := ko.frozen 0
  have v2 := ko.frozen 2
  have v3 := ko.frozen 3
  go_region
  have u1 := ko.cell 1
  have u4 := ko.cell 4
  have u5 := ko.cell 5
  have u6 := ko.cell 6
  have u7 := ko.cell 7
  have y0 := k6'.cell 0
  have z0 := k6'.frozen 0
  have y1 := k6'.cell 1
  have z1 := k6'.frozen 1
  have y2 := k6'.cell 2
  have z2 := k6'.frozen 2
  have y3 := k6'.cell 3
  have z3 := k6'.frozen 3
  have y4 := k6'.cell 4
  have z4 := k6'.frozen 4
  have y5 := k6'.cell 5
  have z5 := k6'.frozen 5
  have y6 := k6'.cell 6
  have z6 := k6'.frozen 6
  have y7 := k6'.cell 7
  have z7 := k6'.frozen 7
  go_wp2_with fail
  refine bodyPost_ret (v := .tuple #[.agg #[.int .i8 1, .int .i64 c.pid, .int .i64 (c.ep + 1), .int .i64 c.th, .int .i64 0, .slice none 0 0, .slice none 0 0, .int .i64 0], .int .i64 0]) (by simp [results, Tryd.results49, go_sem, y0, y1, y2, y3, y4, y5, y6, y7]) rfl ?_
  rw [HK2.out, HCO.out]
  refine ⟨none, none, 0, 0, rfl, ⟨Reads.none_, Reads.none_, by simp, by simp⟩, ?_, NewAt.none_, NewAt.none_⟩
  exact (bset (bset (bset (bset (bset (bset (bset (bset (bset (bset (bset bf' (by omega) _) (by omega) _) (by omega) _) (by omega) _) (by omega) _) (by omega) _) (by omega) _) (by omega) _) (by omega) _) (by omega) _) (by omega) _).drew

set_option maxRecDepth 100000 in
set_option maxHeartbeats 2000000 in
theorem Complete_e (c : Co) (A1 D1 : Option Addr) (c1 e1 : Nat) (w : World) (h1 : CoR w w.heap.size c A1 D1) (hg : HasET w) (k2 : chkE c 3 true = 0) (k3 : 0 < c.th) (k4 : c.st = 4) (k5 : -1000000 ≤ c.ep) (k6 : c.ep ≤ 1000000) :
    Calls Tryd.prog 49 #[(.agg #[.int .i8 c.st, .int .i64 c.pid, .int .i64 c.ep, .int .i64 c.tm, .int .i64 c.th, .slice A1 c.ps.length c1, .slice D1 c.qs.length e1, .int .i64 c.ag])] w (MvPost (compC c) (chkE c 3 true) w) := by
  have hco : compC c = ⟨1, c.pid, c.ep + 1, c.th, 0, [], [], 0⟩ := by unfold compC; rw [if_neg (by rw [k2]; simp), if_pos k3]
  have HCO := Lib.hid hco
  have HK2 := Lib.hid k2
  have d1 : (c.st == 4) = true := eqb_true k4
  have d2 : decide (0 < c.th) = true := decide_eq_true k3
  have h2 := (h1.al (.cells #[.int .i8 c.st, .int .i64 c.pid, .int .i64 c.ep, .int .i64 c.tm, .int .i64 c.th, .slice A1 c.ps.length c1, .slice D1 c.qs.length e1, .int .i64 c.ag] 26)).al (.cells #[.int .i8 0, .int .i64 0, .int .i64 0, .int .i64 0, .int .i64 0, .slice none 0 0, .slice none 0 0, .int .i64 0] 26)
  have hc := check_any c A1 D1 c1 e1 3 true _ _ h2 (Nat.le_refl _)
  have HC := Lib.hid hc
  have HB := Lib.hid (bal (bal (Below.refl w.heap.size w) (.cells #[.int .i8 c.st, .int .i64 c.pid, .int .i64 c.ep, .int .i64 c.tm, .int .i64 c.th, .slice A1 c.ps.length c1, .slice D1 c.qs.length e1, .int .i64 c.ag] 26)) (.cells #[.int .i8 0, .int .i64 0, .int .i64 0, .int .i64 0, .int .i64 0, .slice none 0 0, .slice none 0 0, .int .i64 0] 26))
  have K1 := Lib.hid ((Blk.new w 26 #[.int .i8 c.st, .int .i64 c.pid, .int .i64 c.ep, .int .i64 c.tm, .int .i64 c.th, .slice A1 c.ps.length c1, .slice D1 c.qs.length e1, .int .i64 c.ag]).alloc (.cells #[.int .i8 0, .int .i64 0, .int .i64 0, .int .i64 0, .int .i64 0, .slice none 0 0, .slice none 0 0, .int .i64 0] 26))
  have kk := Blk.new (w.alloc (.cells #[.int .i8 c.st, .int .i64 c.pid, .int .i64 c.ep, .int .i64 c.tm, .int .i64 c.th, .slice A1 c.ps.length c1, .slice D1 c.qs.length e1, .int .i64 c.ag] 26)) 26 #[.int .i8 0, .int .i64 0, .int .i64 0, .int .i64 0, .int .i64 0, .slice none 0 0, .slice none 0 0, .int .i64 0]
  rw [World.size_alloc] at kk
  have K2 := Lib.hid kk
  have HG := Lib.hid hg
  clear h2 hc kk h1 hg k2 k4 hco
  go_enter Tryd.func49, Tryd.ntmps49
  go_wp2_with fail
  refine HC.out.mono ?_
  rintro e w2 ⟨b2, hres⟩
  have hz2 := b2.size
  simp only [World.size_alloc] at hz2
  have bf := btrans HB.out b2
  obtain rfl : e = .returned .nilIface := by
    rcases hres with ⟨_, h⟩ | ⟨hz, _⟩
    · exact h
    · exact absurd HK2.out hz
  clear hres
  have k5 := K1.out.below b2 (by simp only [World.size_alloc]; omega)
  have k6 := K2.out.below b2 (by simp only [World.size_alloc]; omega)
  have hlt3 : w.heap.size + 1 < w2.heap.size := by omega
  have hne3 : ¬ w.heap.size + 1 = w2.heap.size := by omega
  have hlt4 : w.heap.size < w2.heap.size := by omega
  have hne4 : ¬ w.heap.size = w2.heap.size := by omega
  have x0 := k5.cell 0
  have x1 := k5.cell 1
  have x2 := k5.cell 2
  have x3 := k5.cell 3
  have x4 := k5.cell 4
  have x5 := k5.cell 5
  have x6 := k5.cell 6
  have x7 := k5.cell 7
  have y0 := k6.cell 0
  have z0 := k6.frozen 0
  have y1 := k6.cell 1
  have z1 := k6.frozen 1
  have y2 := k6.cell 2
  have z2 := k6.frozen 2
  have y3 := k6.cell 3
  have z3 := k6.frozen 3
  have y4 := k6.cell 4
  have z4 := k6.frozen 4
  have y5 := k6.cell 5
  have z5 := k6.frozen 5
  have y6 := k6.cell 6
  have z6 := k6.frozen 6
  have y7 := k6.cell 7
  have z7 := k6.frozen 7
  go_wp2_with fail
  have ko := Blk.new w2 26 #[.int .i8 6, .int .i64 c.pid, .int .i64 c.ep, .int .i64 c.tm, .int .i64 0, .slice none 0 0, .slice none 0 0, .int .i64 0]
  have k5' := k5.alloc (.cells #[.int .i8 6, .int .i64 c.pid, .int .i64 c.ep, .int .i64 c.tm, .int .i64 0, .slice none 0 0, .slice none 0 0, .int .i64 0] 26)
  have k6' := k6.alloc (.cells #[.int .i8 6, .int .i64 c.pid, .int .i64 c.ep, .int .i64 c.tm, .int .i64 0, .slice none 0 0, .slice none 0 0, .int .i64 0] 26)
  have bf' := bal bf (.cells #[.int .i8 6, .int .i64 c.pid, .int .i64 c.ep, .int .i64 c.tm, .int .i64 0, .slice none 0 0, .slice none 0 0, .int .i64 0] 26)
  clear x0 x1 x2 x3 x4 x5 x6 x7 y0 y1 y2 y3 y4 y5 y6 y7 z0 z1 z2 z3 z4 z5 z6 z7
  generalize w2.alloc (.cells #[.int .i8 6, .int .i64 c.pid, .int .i64 c.ep, .int .i64 c.tm, .int .i64 0, .slice none 0 0, .slice none 0 0, .int .i64 0] 26) = W at *
  have x2 := k5'.cell 2
  have x4 := k5'.cell 4
  have u0 := ko.cell 0
  have u2 := ko.cell 2
  have u3 := ko.cell 3
  have v0 := ko.frozen 0
  have v2 := ko.frozen 2
  have v3 := ko.frozen 3
  go_region
  have u1 := ko.cell 1
  have u4 := ko.cell 4
  have u5 := ko.cell 5
  have u6 := ko.cell 6
  have u7 := ko.cell 7
  have y0 := k6'.cell 0
  have z0 := k6'.frozen 0
  have y1 := k6'.cell 1
  have z1 := k6'.frozen 1
  have y2 := k6'.cell 2
  have z2 := k6'.frozen 2
  have y3 := k6'.cell 3
  have z3 := k6'.frozen 3
  have y4 := k6'.cell 4
  have z4 := k6'.frozen 4
  have y5 := k6'.cell 5
  have z5 := k6'.frozen 5
  have y6 := k6'.cell 6
  have z6 := k6'.frozen 6
  have y7 := k6'.cell 7
  have z7 := k6'.frozen 7
  go_wp2_with fail
  refine bodyPost_ret (v := .tuple #[.agg #[.int .i8 1, .int .i64 c.pid, .int .i64 (c.ep + 1), .int .i64 c.th, .int .i64 0, .slice none 0 0, .slice none 0 0, .int .i64 0], .int .i64 0]) (by simp [results, Tryd.results49, go_sem, y0, y1, y2, y3, y4, y5, y6, y7]) rfl ?_
  rw [HK2.out, HCO.out]
  refine ⟨none, none, 0, 0, rfl, ⟨Reads.none_, Reads.none_, by simp, by simp⟩, ?_, NewAt.none_, NewAt.none_⟩
  exact (bset (bset (bset (bset (bset (bset (bset (bset (bset (bset (bset bf' (by omega) _) (by omega) _) (by omega) _) (by omega) _) (by omega) _) (by omega) _) (by omega) _) (by omega) _) (by omega) _) (by omega) _) (by omega) _).drew

theorem Complete_any (c : Co) (A1 D1 : Option Addr) (c1 e1 : Nat) (w : World) (h1 : CoR w w.heap.size c A1 D1) (hg : HasET w) (k5 : -1000000 ≤ c.ep) (k6 : c.ep ≤ 1000000) :
    Calls Tryd.prog 49 #[(.agg #[.int .i8 c.st, .int .i64 c.pid, .int .i64 c.ep, .int .i64 c.tm, .int .i64 c.th, .slice A1 c.ps.length c1, .slice D1 c.qs.length e1, .int .i64 c.ag])] w (MvPost (compC c) (chkE c 3 true) w) := by
  by_cases k2 : chkE c 3 true = 0
  · by_cases k3 : 0 < c.th
    · by_cases k4 : c.st = 4
      · exact Complete_e c A1 D1 c1 e1 w h1 hg k2 k3 k4 k5 k6
      · exact Complete_d c A1 D1 c1 e1 w h1 hg k2 k3 k4 k5 k6
    · by_cases k4 : c.st = 4
      · exact Complete_c c A1 D1 c1 e1 w h1 hg k2 k3 k4
      · exact Complete_b c A1 D1 c1 e1 w h1 hg k2 k3 k4
  · exact Complete_a c A1 D1 c1 e1 w h1 hg k2
end Go.Proofs.YtbpkckahonmpkaaDoor
