/-
  meta.Rows: the entries that add up to a state.
  meta.Rows: the function that is ranged over.
-/
import Derived.Test.YtbpkckahonmpkaaDoorMeBackProofP17
import Derived.Shelf.Abstract
import Derived.Shelf.RegionOpen
import Derived.OwnWalkIn
import Derived.TacticsInMore
import Derived.LoopNIn
import Derived.LoopIn
import Derived.Sort.BigQuietIn
set_option linter.unusedVariables false
set_option linter.unusedSimpArgs false
namespace Go.Proofs.YtbpkckahonmpkaaDoor
open Go.RowKit Go.Shelf

theorem wide_fnR (f : FuncId) : Fence.wide.fn f = True := rfl
theorem store_i8R {W : World} {a : Addr} {u : Value} (k : Int) (h : W.cell? a = some u) (hf : W.frozen? a = false) : (storeVar 22 a (.int .i8 k)).run Tryd.prog W = .ok () (W.setCell a (.int .i8 k)) := by
  simp [go_sem, h, hf]
theorem store_slIR {W : World} {a : Addr} {u : Value} (A : Option Addr) (n c : Nat) (h : W.cell? a = some u) (hf : W.frozen? a = false) : (storeVar 23 a (.slice A n c)).run Tryd.prog W = .ok () (W.setCell a (.slice A n c)) := by
  simp [go_sem, h, hf]
theorem store_slPR {W : World} {a : Addr} {u : Value} (A : Option Addr) (n c : Nat) (h : W.cell? a = some u) (hf : W.frozen? a = false) : (storeVar 24 a (.slice A n c)).run Tryd.prog W = .ok () (W.setCell a (.slice A n c)) := by
  simp [go_sem, h, hf]
theorem infoPdR : (Tryd.prog.info? 33).map (·.size) = some 3 := by kernel_rfl
theorem infoR3R : (Tryd.prog.info? 28).map (·.size) = some 3 := by kernel_rfl
attribute [local go_sem] Oper.semAt_some wide_fnR
attribute [-go_sem] loadCells storeVar

/-- What a list that was made for an entry is: its own row. -/
def PendOwn (lo : Nat) (y : MtM) (W : World) : Prop := W.ownsRow lo 33 3 (.slice y.D y.x.c.qs.length y.e) y.x.c.qs.length (cellsP y.x.c.qs)
/-- What is below k, and one block, lie as they lay. -/
def KeepLow (k b : Nat) (W W' : World) : Prop := (∀ i, i < k → W'.heap[i]? = W.heap[i]?) ∧ W'.heap[b]? = W.heap[b]? ∧ W.heap.size ≤ W'.heap.size
theorem KeepLow.refl (k b : Nat) (W : World) : KeepLow k b W W := ⟨fun _ _ => rfl, rfl, Nat.le_refl _⟩
theorem KeepLow.trans {k b : Nat} {U V W : World} (h : KeepLow k b U V) (g : KeepLow k b V W) : KeepLow k b U W := ⟨fun i hi => (g.1 i hi).trans (h.1 i hi), g.2.1.trans h.2.1, Nat.le_trans h.2.2 g.2.2⟩
theorem KeepLow.below {k b : Nat} {W W' : World} (h : Below W.heap.size W W') (hk : k ≤ W.heap.size) (hb : b < W.heap.size) : KeepLow k b W W' := ⟨fun i hi => h.block i (by omega), h.block b hb, h.size⟩
theorem blk_keepLow {k b : Nat} {W W' : World} {t : TypeId} {cs : Array Value} (h : Blk W b t cs) (g : KeepLow k b W W') : Blk W' b t cs := g.2.1.trans h
theorem reads_keepLow {k b size n : Nat} {A : Option Addr} {xs : List Value} {W W' : World} (h : Reads W k size A n xs) (g : KeepLow k b W W') : Reads W' k size A n xs := h.keep (fun _ hp => World.cell?_of_block (g.1 _ hp))

abbrev encM (y : MtM) : Array Value := #[.agg (mtX y.x y.A y.D y.c y.e)]
theorem bareC_qs (c : Co) : (bareC c).qs = c.qs := by unfold bareC; split <;> rfl
theorem bareC_idle {c : Co} (h : c.st = 2) (h0 : c.qs.length = 0) : bareC c = { c with ps := [], st := 1, ag := 0 } := if_pos ⟨h, h0⟩
theorem bareC_else {c : Co} (h : ¬ (c.st = 2 ∧ c.qs.length = 0)) : bareC c = { c with ps := [] } := if_neg h

set_option maxRecDepth 100000 in
set_option maxHeartbeats 8000000 in
theorem rows1_in (l Bs k0 : Nat) (s : Sta) (a : Sad) (hk0 : k0 ≤ Bs) (J : List MtM → World → Prop) (W : World) (hBs : Bs < W.heap.size) (hJ : AbidesFrom W.heap.size J)
    (hY : ∀ pre x V, J pre V → PendOwn W.heap.size x V → pre.length < 10 → YieldAt Fence.wide 3 Tryd.prog l (encM x) V fun e V' => e = .returned (.bool true) ∧ J (pre ++ [x]) V' ∧ KeepLow k0 Bs V V')
    (hS : Blk W Bs 31 (stX s a)) (hR : ∀ j, j < 3 → Reads W k0 3 (a.D j) (s.tid j).qs.length (cellsP (s.tid j).qs) ∧ (s.tid j).qs.length ≤ 1000) (h0 : J [] W) :
    CallsIn Fence.wide 4 Tryd.prog 62 #[.func (.yield l) #[] #[], .pointer (some ⟨Bs, 0, none⟩)] W fun e V => (∃ v, e = .returned v) ∧ ∃ xs, (xs.map (·.x) = rowsG s 6 ∧ ∀ y ∈ xs, y.x.c.ps = [] ∧ y.x.c.qs.length ≤ 1000) ∧ J xs V := by
  refine callsIn_of_wp Tryd.func62 rfl trivial ?_ rfl
  simp only [Tryd.ntmps62, List.size_toArray, List.length_cons, List.length_nil, Nat.reduceAdd, Nat.reduceSub, Array.replicate_succ, Array.replicate_zero, List.push_toArray, List.append_toArray, List.nil_append, List.cons_append]
  have c0 : W.cell? ⟨Bs, 0, none⟩ = some (.int .i64 s.made) := hS.cell 0
  obtain ⟨fn, tmps, assign, body, hy, hR0⟩ := hY [] ⟨mtNext s.made, none, none, 0, 0⟩ W h0 (World.ownsRow_nil _ _ _ _) (by decide)
  simp only [encM, mtX, mtL, coL, mtNext, Co0, Pd0, List.length_nil, List.cons_append, List.nil_append] at hy
  gi_wp2
  refine hR0.mono ?_
  rintro e W3 ⟨rfl, hJ3, hk3⟩
  have kS := blk_keepLow hS hk3
  have ldT := st_tids kS
  clear hy hR0 c0
  gi_wp2
  have HS := Lib.hid hS
  have HK3 := Lib.hid hk3
  have HR := Lib.hid hR
  clear hS hk3 hR ldT kS
  gi_loopw [18] (fun i wr => ∃ (k : Nat) (pre : List MtM), k ≤ 3 ∧ i = .int .i64 k ∧ J pre wr ∧ KeepLow k0 Bs W wr ∧ pre.map (·.x) = rowsT s k ∧ (∀ y ∈ pre, y.x.c.ps = [] ∧ y.x.c.qs.length ≤ 1000) ∧ pre.length ≤ k + 1)
    (fun i _ => 3 - (intOf i).toNat)
  case atStart => exact ⟨0, _, Nat.zero_le _, rfl, hJ3, HK3.out, rfl, by simp [mtNext, Co0], by simp⟩
  case round =>
    obtain ⟨k, pre, hk, rfl, hJs, hkw, hpr, hps, hpl⟩ := hrel
    have HPR := Lib.hid hpr
    have HPS := Lib.hid hps
    clear hpr hps
    by_cases hlt : k < 3
    · have d3 : decide ((k : Int) < 3) = true := decide_eq_true (by omega)
      have i1 : (0 : Int) ≤ (k : Int) := by omega
      have i2 : (k : Int) < 3 := by omega
      have ix := st_index s a k hlt wr
      obtain ⟨W2, st2, k2, b2, s2⟩ := bk_fresh (P := Tryd.prog) wr 26 #[.int .i8 0, .int .i64 0, .int .i64 0, .int .i64 0, .int .i64 0, .slice none 0 0, .slice none 0 0, .int .i64 0] #[.int .i8 (s.tid k).st, .int .i64 (s.tid k).pid, .int .i64 (s.tid k).ep, .int .i64 (s.tid k).tm, .int .i64 (s.tid k).th, .slice (a.A k) (s.tid k).ps.length (a.c k), .slice (a.D k) (s.tid k).qs.length (a.e k), .int .i64 (s.tid k).ag] 8 infoCoS rfl rfl (by simp [Value.oneCell'])
      have y0 := k2.cell 0
      by_cases hst : (s.tid k).st = 0
      · have dst : ((s.tid k).st == 0) = true := by rw [hst]; rfl
        have HY := Lib.hid @hY
        have HST := Lib.hid hst
        clear hY hst
        gi_wp2
        go_roundw
        case rel => exact ⟨k + 1, pre, by omega, rfl, hJ _ _ _ none hJs (only_of_below b2 none) (fun r e => by cases e), hkw.trans (KeepLow.below b2 (by have := hkw.2.2; omega) (by have := hkw.2.2; omega)), by rw [rowsT, if_pos HST.out, List.append_nil]; exact HPR.out, HPS.out, by omega⟩
        case measure => simp [intOf]; omega
      · have dst : ((s.tid k).st == 0) = false := eqb_false hst
        have y6 := k2.cell 6
        have hkw2 : KeepLow k0 Bs W W2 := hkw.trans (KeepLow.below b2 (by have := hkw.2.2; omega) (by have := hkw.2.2; omega))
        have CP := Lib.hid (CloneP_own (a.D k) (s.tid k).qs (a.e k) W2 ((reads_keepLow (HR.out k hlt).1 hkw2).more (by have := hkw2.2.2; omega)) (by have := (HR.out k hlt).2; omega))
        have K2 := Lib.hid k2
        have B2 := Lib.hid b2
        have HY := Lib.hid @hY
        have HJS := Lib.hid hJs
        have HKW := Lib.hid hkw
        have HKW2 := Lib.hid hkw2
        clear hY k2 b2 hJs hkw hkw2
        have HST := Lib.hid hst
        clear hst
        by_cases h2 : (s.tid k).st = 2
        · have d2 : ((s.tid k).st == 2) = true := by rw [h2]; rfl
          have H2 := Lib.hid h2
          clear h2
          by_cases hq : (s.tid k).qs.length = 0
          · have dq : (((s.tid k).qs.length : Int) == 0) = true := by rw [hq]; rfl
            have HQ := Lib.hid hq
            clear hq
            gi_wp2_with
              (
               gi_at_call 45
               refine (callsIn_wide.2 CP.out).mono ?_
               rintro e w3 ⟨A3, c3, rfl, own3, b3⟩
               have k3 := K2.out.below b3 K2.out.lt
               have hg2 : wr.heap.size < W2.heap.size := K2.out.lt
               obtain ⟨W4, hW4⟩ : ∃ W4, W4 = w3.setCell ⟨wr.heap.size, 5, none⟩ (.slice none 0 0) := ⟨_, rfl⟩
               have st5 := store_slIR none 0 0 (k3.cell 5) (k3.frozen 5)
               have k4 : Blk W4 wr.heap.size 26 #[.int .i8 (s.tid k).st, .int .i64 (s.tid k).pid, .int .i64 (s.tid k).ep, .int .i64 (s.tid k).tm, .int .i64 (s.tid k).th, .slice none 0 0, .slice (a.D k) (s.tid k).qs.length (a.e k), .int .i64 (s.tid k).ag] := by rw [hW4]; exact k3.set_ 5 _
               have b4 : Below wr.heap.size wr W4 := by rw [hW4]; exact (B2.out.trans (b3.mono B2.out.size)).setCell (p := ⟨wr.heap.size, 5, none⟩) (Nat.le_refl _) _
               have own4 : W4.ownsRow W2.heap.size 33 3 (.slice A3 (s.tid k).qs.length c3) (s.tid k).qs.length (cellsP (s.tid k).qs) := by
                 rw [hW4]; exact bk_own own3 (fun x hx => Below.heap_setCell _ _ _ _ (by have := (own3.lt x hx).1; show x ≠ wr.heap.size; omega))
               rw [← hW4] at st5
               obtain ⟨W5, hW5⟩ : ∃ W5, W5 = W4.setCell ⟨wr.heap.size, 6, none⟩ (.slice A3 (s.tid k).qs.length c3) := ⟨_, rfl⟩
               have st6 := store_slPR A3 (s.tid k).qs.length c3 (k4.cell 6) (k4.frozen 6)
               have k5 : Blk W5 wr.heap.size 26 #[.int .i8 (s.tid k).st, .int .i64 (s.tid k).pid, .int .i64 (s.tid k).ep, .int .i64 (s.tid k).tm, .int .i64 (s.tid k).th, .slice none 0 0, .slice A3 (s.tid k).qs.length c3, .int .i64 (s.tid k).ag] := by rw [hW5]; exact k4.set_ 6 _
               have b5 : Below wr.heap.size wr W5 := by rw [hW5]; exact b4.setCell (p := ⟨wr.heap.size, 6, none⟩) (Nat.le_refl _) _
               have own5 : W5.ownsRow W2.heap.size 33 3 (.slice A3 (s.tid k).qs.length c3) (s.tid k).qs.length (cellsP (s.tid k).qs) := by
                 rw [hW5]; exact bk_own own4 (fun x hx => Below.heap_setCell _ _ _ _ (by have := (own4.lt x hx).1; show x ≠ wr.heap.size; omega))
               rw [← hW5] at st6
               have z0 := k5.cell 0
               have z6 := k5.cell 6
               have K5 := Lib.hid k5
               have B5 := Lib.hid b5
               have O5 := Lib.hid own5
               clear k3 hW4 k4 b4 own4 hW5 k5 b5 own5 own3 b3
               obtain ⟨W6, hW6⟩ : ∃ W6, W6 = W5.setCell ⟨wr.heap.size, 0, none⟩ (.int .i8 1) := ⟨_, rfl⟩
               have st0 := store_i8R 1 (K5.out.cell 0) (K5.out.frozen 0)
               have k6 : Blk W6 wr.heap.size 26 #[.int .i8 1, .int .i64 (s.tid k).pid, .int .i64 (s.tid k).ep, .int .i64 (s.tid k).tm, .int .i64 (s.tid k).th, .slice none 0 0, .slice A3 (s.tid k).qs.length c3, .int .i64 (s.tid k).ag] := by rw [hW6]; exact K5.out.set_ 0 _
               have b6 : Below wr.heap.size wr W6 := by rw [hW6]; exact B5.out.setCell (p := ⟨wr.heap.size, 0, none⟩) (Nat.le_refl _) _
               have own6 : W6.ownsRow W2.heap.size 33 3 (.slice A3 (s.tid k).qs.length c3) (s.tid k).qs.length (cellsP (s.tid k).qs) := by
                 rw [hW6]; exact bk_own O5.out (fun x hx => Below.heap_setCell _ _ _ _ (by have := (O5.out.lt x hx).1; show x ≠ wr.heap.size; omega))
               rw [← hW6] at st0
               obtain ⟨W7, hW7⟩ : ∃ W7, W7 = W6.setCell ⟨wr.heap.size, 7, none⟩ (.int .i64 0) := ⟨_, rfl⟩
               have st7 := store_intS 0 (k6.cell 7) (k6.frozen 7)
               have k7 : Blk W7 wr.heap.size 26 #[.int .i8 1, .int .i64 (s.tid k).pid, .int .i64 (s.tid k).ep, .int .i64 (s.tid k).tm, .int .i64 (s.tid k).th, .slice none 0 0, .slice A3 (s.tid k).qs.length c3, .int .i64 0] := by rw [hW7]; exact k6.set_ 7 _
               have b7 : Below wr.heap.size wr W7 := by rw [hW7]; exact b6.setCell (p := ⟨wr.heap.size, 7, none⟩) (Nat.le_refl _) _
               have own7 : W7.ownsRow W2.heap.size 33 3 (.slice A3 (s.tid k).qs.length c3) (s.tid k).qs.length (cellsP (s.tid k).qs) := by
                 rw [hW7]; exact bk_own own6 (fun x hx => Below.heap_setCell _ _ _ _ (by have := (own6.lt x hx).1; show x ≠ wr.heap.size; omega))
               rw [← hW7] at st7
               clear hW6 hW7 k6 b6 own6
               have hb := bareC_idle H2.out HQ.out
               have ldc := bk_load (P := Tryd.prog) 8 k7 rfl
               have HB7 := Lib.hid b7
               have HBC := Lib.hid hb
               have hsz7 := b7.size
               obtain ⟨fn, tmps, assign, body, hy, hR0⟩ := HY.out pre ⟨mtState k (bareC (s.tid k)), none, A3, 0, c3⟩ W7 (hJ _ _ _ none HJS.out (only_of_below b7 none) (fun r e => by cases e)) (by rw [hb]; exact own_base own7 (by have := HKW2.out.2.2; omega)) (by omega)
               simp only [encM, mtX, mtL, coL, mtState, Pd0, hb, List.length_nil, List.cons_append, List.nil_append] at hy
               clear k7 b7 own7 hb
               )
            refine hR0.mono ?_
            rintro e W8 ⟨rfl, hJ8, hk8⟩
            clear hy hR0 ldc
            gi_wp2
            go_roundw
            case rel => exact ⟨k + 1, _, by omega, rfl, hJ8, HKW.out.trans ((KeepLow.below HB7.out (by have := HKW.out.2.2; omega) (by have := HKW.out.2.2; omega)).trans hk8), by rw [List.map_append, HPR.out, rowsT, if_neg HST.out]; rfl, fun y hy => by
              rcases List.mem_append.1 hy with h | h
              · exact HPS.out y h
              · rw [List.mem_singleton.1 h]; exact ⟨bareC_ps _, by show (bareC _).qs.length ≤ 1000; rw [bareC_qs]; exact (HR.out k hlt).2⟩, by simp; omega⟩
            case measure => simp [intOf]; omega
          · have dq : (((s.tid k).qs.length : Int) == 0) = false := eqb_false (by omega)
            have HQ := Lib.hid hq
            clear hq
            gi_wp2_with
              (
               gi_at_call 45
               refine (callsIn_wide.2 CP.out).mono ?_
               rintro e w3 ⟨A3, c3, rfl, own3, b3⟩
               have k3 := K2.out.below b3 K2.out.lt
               have hg2 : wr.heap.size < W2.heap.size := K2.out.lt
               obtain ⟨W4, hW4⟩ : ∃ W4, W4 = w3.setCell ⟨wr.heap.size, 5, none⟩ (.slice none 0 0) := ⟨_, rfl⟩
               have st5 := store_slIR none 0 0 (k3.cell 5) (k3.frozen 5)
               have k4 : Blk W4 wr.heap.size 26 #[.int .i8 (s.tid k).st, .int .i64 (s.tid k).pid, .int .i64 (s.tid k).ep, .int .i64 (s.tid k).tm, .int .i64 (s.tid k).th, .slice none 0 0, .slice (a.D k) (s.tid k).qs.length (a.e k), .int .i64 (s.tid k).ag] := by rw [hW4]; exact k3.set_ 5 _
               have b4 : Below wr.heap.size wr W4 := by rw [hW4]; exact (B2.out.trans (b3.mono B2.out.size)).setCell (p := ⟨wr.heap.size, 5, none⟩) (Nat.le_refl _) _
               have own4 : W4.ownsRow W2.heap.size 33 3 (.slice A3 (s.tid k).qs.length c3) (s.tid k).qs.length (cellsP (s.tid k).qs) := by
                 rw [hW4]; exact bk_own own3 (fun x hx => Below.heap_setCell _ _ _ _ (by have := (own3.lt x hx).1; show x ≠ wr.heap.size; omega))
               rw [← hW4] at st5
               obtain ⟨W5, hW5⟩ : ∃ W5, W5 = W4.setCell ⟨wr.heap.size, 6, none⟩ (.slice A3 (s.tid k).qs.length c3) := ⟨_, rfl⟩
               have st6 := store_slPR A3 (s.tid k).qs.length c3 (k4.cell 6) (k4.frozen 6)
               have k5 : Blk W5 wr.heap.size 26 #[.int .i8 (s.tid k).st, .int .i64 (s.tid k).pid, .int .i64 (s.tid k).ep, .int .i64 (s.tid k).tm, .int .i64 (s.tid k).th, .slice none 0 0, .slice A3 (s.tid k).qs.length c3, .int .i64 (s.tid k).ag] := by rw [hW5]; exact k4.set_ 6 _
               have b5 : Below wr.heap.size wr W5 := by rw [hW5]; exact b4.setCell (p := ⟨wr.heap.size, 6, none⟩) (Nat.le_refl _) _
               have own5 : W5.ownsRow W2.heap.size 33 3 (.slice A3 (s.tid k).qs.length c3) (s.tid k).qs.length (cellsP (s.tid k).qs) := by
                 rw [hW5]; exact bk_own own4 (fun x hx => Below.heap_setCell _ _ _ _ (by have := (own4.lt x hx).1; show x ≠ wr.heap.size; omega))
               rw [← hW5] at st6
               have z0 := k5.cell 0
               have z6 := k5.cell 6
               have K5 := Lib.hid k5
               have B5 := Lib.hid b5
               have O5 := Lib.hid own5
               clear k3 hW4 k4 b4 own4 hW5 k5 b5 own5 own3 b3
               have k7 := K5.out
               have b7 := B5.out
               have own7 := O5.out
               have hb := bareC_else (fun x => HQ.out x.2)
               have ldc := bk_load (P := Tryd.prog) 8 k7 rfl
               have HB7 := Lib.hid b7
               have HBC := Lib.hid hb
               have hsz7 := b7.size
               obtain ⟨fn, tmps, assign, body, hy, hR0⟩ := HY.out pre ⟨mtState k (bareC (s.tid k)), none, A3, 0, c3⟩ W5 (hJ _ _ _ none HJS.out (only_of_below b7 none) (fun r e => by cases e)) (by rw [hb]; exact own_base own7 (by have := HKW2.out.2.2; omega)) (by omega)
               simp only [encM, mtX, mtL, coL, mtState, Pd0, hb, List.length_nil, List.cons_append, List.nil_append] at hy
               clear k7 b7 own7 hb
               )
            refine hR0.mono ?_
            rintro e W8 ⟨rfl, hJ8, hk8⟩
            clear hy hR0 ldc
            gi_wp2
            go_roundw
            case rel => exact ⟨k + 1, _, by omega, rfl, hJ8, HKW.out.trans ((KeepLow.below HB7.out (by have := HKW.out.2.2; omega) (by have := HKW.out.2.2; omega)).trans hk8), by rw [List.map_append, HPR.out, rowsT, if_neg HST.out]; rfl, fun y hy => by
              rcases List.mem_append.1 hy with h | h
              · exact HPS.out y h
              · rw [List.mem_singleton.1 h]; exact ⟨bareC_ps _, by show (bareC _).qs.length ≤ 1000; rw [bareC_qs]; exact (HR.out k hlt).2⟩, by simp; omega⟩
            case measure => simp [intOf]; omega
        · have d2 : ((s.tid k).st == 2) = false := eqb_false h2
          have H2 := Lib.hid h2
          clear h2
          gi_wp2_with
            (
             gi_at_call 45
             refine (callsIn_wide.2 CP.out).mono ?_
             rintro e w3 ⟨A3, c3, rfl, own3, b3⟩
             have k3 := K2.out.below b3 K2.out.lt
             have hg2 : wr.heap.size < W2.heap.size := K2.out.lt
             obtain ⟨W4, hW4⟩ : ∃ W4, W4 = w3.setCell ⟨wr.heap.size, 5, none⟩ (.slice none 0 0) := ⟨_, rfl⟩
             have st5 := store_slIR none 0 0 (k3.cell 5) (k3.frozen 5)
             have k4 : Blk W4 wr.heap.size 26 #[.int .i8 (s.tid k).st, .int .i64 (s.tid k).pid, .int .i64 (s.tid k).ep, .int .i64 (s.tid k).tm, .int .i64 (s.tid k).th, .slice none 0 0, .slice (a.D k) (s.tid k).qs.length (a.e k), .int .i64 (s.tid k).ag] := by rw [hW4]; exact k3.set_ 5 _
             have b4 : Below wr.heap.size wr W4 := by rw [hW4]; exact (B2.out.trans (b3.mono B2.out.size)).setCell (p := ⟨wr.heap.size, 5, none⟩) (Nat.le_refl _) _
             have own4 : W4.ownsRow W2.heap.size 33 3 (.slice A3 (s.tid k).qs.length c3) (s.tid k).qs.length (cellsP (s.tid k).qs) := by
               rw [hW4]; exact bk_own own3 (fun x hx => Below.heap_setCell _ _ _ _ (by have := (own3.lt x hx).1; show x ≠ wr.heap.size; omega))
             rw [← hW4] at st5
             obtain ⟨W5, hW5⟩ : ∃ W5, W5 = W4.setCell ⟨wr.heap.size, 6, none⟩ (.slice A3 (s.tid k).qs.length c3) := ⟨_, rfl⟩
             have st6 := store_slPR A3 (s.tid k).qs.length c3 (k4.cell 6) (k4.frozen 6)
             have k5 : Blk W5 wr.heap.size 26 #[.int .i8 (s.tid k).st, .int .i64 (s.tid k).pid, .int .i64 (s.tid k).ep, .int .i64 (s.tid k).tm, .int .i64 (s.tid k).th, .slice none 0 0, .slice A3 (s.tid k).qs.length c3, .int .i64 (s.tid k).ag] := by rw [hW5]; exact k4.set_ 6 _
             have b5 : Below wr.heap.size wr W5 := by rw [hW5]; exact b4.setCell (p := ⟨wr.heap.size, 6, none⟩) (Nat.le_refl _) _
             have own5 : W5.ownsRow W2.heap.size 33 3 (.slice A3 (s.tid k).qs.length c3) (s.tid k).qs.length (cellsP (s.tid k).qs) := by
               rw [hW5]; exact bk_own own4 (fun x hx => Below.heap_setCell _ _ _ _ (by have := (own4.lt x hx).1; show x ≠ wr.heap.size; omega))
             rw [← hW5] at st6
             have z0 := k5.cell 0
             have z6 := k5.cell 6
             have K5 := Lib.hid k5
             have B5 := Lib.hid b5
             have O5 := Lib.hid own5
             clear k3 hW4 k4 b4 own4 hW5 k5 b5 own5 own3 b3
             have k7 := K5.out
             have b7 := B5.out
             have own7 := O5.out
             have hb := bareC_else (fun x => H2.out x.1)
             have ldc := bk_load (P := Tryd.prog) 8 k7 rfl
             have HB7 := Lib.hid b7
             have HBC := Lib.hid hb
             have hsz7 := b7.size
             obtain ⟨fn, tmps, assign, body, hy, hR0⟩ := HY.out pre ⟨mtState k (bareC (s.tid k)), none, A3, 0, c3⟩ W5 (hJ _ _ _ none HJS.out (only_of_below b7 none) (fun r e => by cases e)) (by rw [hb]; exact own_base own7 (by have := HKW2.out.2.2; omega)) (by omega)
             simp only [encM, mtX, mtL, coL, mtState, Pd0, hb, List.length_nil, List.cons_append, List.nil_append] at hy
             clear k7 b7 own7 hb
             )
          refine hR0.mono ?_
          rintro e W8 ⟨rfl, hJ8, hk8⟩
          clear hy hR0 ldc
          gi_wp2
          go_roundw
          case rel => exact ⟨k + 1, _, by omega, rfl, hJ8, HKW.out.trans ((KeepLow.below HB7.out (by have := HKW.out.2.2; omega) (by have := HKW.out.2.2; omega)).trans hk8), by rw [List.map_append, HPR.out, rowsT, if_neg HST.out]; rfl, fun y hy => by
            rcases List.mem_append.1 hy with h | h
            · exact HPS.out y h
            · rw [List.mem_singleton.1 h]; exact ⟨bareC_ps _, by show (bareC _).qs.length ≤ 1000; rw [bareC_qs]; exact (HR.out k hlt).2⟩, by simp; omega⟩
          case measure => simp [intOf]; omega
    · have d3 : decide ((k : Int) < 3) = false := decide_eq_false (by omega)
      obtain rfl : k = 3 := by omega
      have ldG := st_grs (blk_keepLow HS.out hkw)
      gi_wp2
      have HJS := Lib.hid hJs
      have HKW := Lib.hid hkw
      have HY := Lib.hid @hY
      clear ldG hJs hkw hJ3 d3 hY
      gi_loopw [50] (fun i wr => ∃ (g : Nat) (pre : List MtM), g ≤ 2 ∧ i = .int .i64 g ∧ J pre wr ∧ KeepLow k0 Bs W wr ∧ pre.map (·.x) = rowsG s (g * 3) ∧ (∀ y ∈ pre, y.x.c.ps = [] ∧ y.x.c.qs.length ≤ 1000) ∧ pre.length ≤ g * 3 + 4)
        (fun i _ => 2 - (intOf i).toNat)
      case atStart => exact ⟨0, _, Nat.zero_le _, rfl, HJS.out, HKW.out, HPR.out, HPS.out, by omega⟩
      case round =>
        obtain ⟨g, pg, hg, rfl, hJg, hkg, hpr, hps, hpg⟩ := hrel
        have HPG := Lib.hid hpr
        have HSG := Lib.hid hps
        clear hpr hps
        by_cases hg2 : g < 2
        · have d2 : decide ((g : Int) < 2) = true := decide_eq_true (by omega)
          have i1 : (0 : Int) ≤ (g : Int) := by omega
          have i2 : (g : Int) < 2 := by omega
          have ig := gr_index s g hg2 wr
          obtain ⟨W2, st2, k2, b2, s2⟩ := bk_fresh (P := Tryd.prog) wr 28 #[.int .i64 0, .int .i64 0, .int .i64 0] (grRow s g) 3 infoR3R rfl rfl (by simp [grRow, Value.oneCell'])
          have ldr := bk_load (P := Tryd.prog) 3 k2 rfl
          have HJG := Lib.hid hJg
          have HKG := Lib.hid hkg
          have B2 := Lib.hid b2
          clear hJg hkg k2 b2 s2
          gi_wp2
          have hkg2 : KeepLow k0 Bs W W2 := HKG.out.trans (KeepLow.below B2.out (by have := HKG.out.2.2; omega) (by have := HKG.out.2.2; omega))
          have hJg2 : J pg W2 := hJ _ _ _ none HJG.out (only_of_below B2.out none) (fun r e => by cases e)
          have HK2 := Lib.hid hkg2
          have HJ2 := Lib.hid hJg2
          clear hkg2 hJg2 ldr st2 ig
          gi_loopw [55] (fun i wr => ∃ (q : Nat) (pre : List MtM), q ≤ 3 ∧ i = .int .i64 q ∧ J pre wr ∧ KeepLow k0 Bs W wr ∧ pre.map (·.x) = rowsG s (g * 3 + q) ∧ (∀ y ∈ pre, y.x.c.ps = [] ∧ y.x.c.qs.length ≤ 1000) ∧ pre.length ≤ g * 3 + q + 4)
            (fun i _ => 3 - (intOf i).toNat)
          case atStart => exact ⟨0, _, Nat.zero_le _, rfl, HJ2.out, HK2.out, HPG.out, HSG.out, by omega⟩
          case round =>
            obtain ⟨q, pq, hq, rfl, hJq, hkq, hpr, hps, hpq⟩ := hrel
            have HPQ := Lib.hid hpr
            have HSQ := Lib.hid hps
            clear hpr hps
            by_cases hq3 : q < 3
            · have d3 : decide ((q : Int) < 3) = true := decide_eq_true (by omega)
              have j1 : (0 : Int) ≤ (q : Int) := by omega
              have j2 : (q : Int) < 3 := by omega
              have iq := row_index s g q hq3 wr
              obtain ⟨W4, st4, k4, b4, s4⟩ := bk_fresh (P := Tryd.prog) wr 33 #[.int .i64 0, .int .i64 0, .int .i64 0] #[.int .i64 g, .int .i64 q, .int .i64 (s.gr (g * 3 + q))] 3 infoPdR rfl rfl (by simp [Value.oneCell'])
              have ldp := bk_load (P := Tryd.prog) 3 k4 rfl
              have HJQ := Lib.hid hJq
              have HKQ := Lib.hid hkq
              have B4 := Lib.hid b4
              clear hJq hkq k4 b4 s4
              by_cases hn : s.gr (g * 3 + q) = -1
              · have dn : (s.gr (g * 3 + q) != -1) = false := by rw [hn]; rfl
                have HN := Lib.hid hn
                clear hn
                gi_wp2
                refine ⟨?_, ?measure⟩
                (repeat apply Exists.intro)
                refine ⟨?rel, rfl⟩
                case rel => exact ⟨q + 1, pq, by omega, rfl, hJ _ _ _ none HJQ.out (only_of_below B4.out none) (fun r e => by cases e), HKQ.out.trans (KeepLow.below B4.out (by have := HKQ.out.2.2; omega) (by have := HKQ.out.2.2; omega)), by rw [← Nat.add_assoc, rowsG, if_pos HN.out, List.append_nil]; exact HPQ.out, HSQ.out, by omega⟩
                case measure => simp [intOf]; omega
              · have dn : (s.gr (g * 3 + q) != -1) = true := by simpa using hn
                have HN := Lib.hid hn
                have hsz := B4.out.size
                obtain ⟨fn, tmps, assign, body, hy, hR0⟩ := HY.out pq ⟨⟨5, 0, 0, ((g : Int), (q : Int), s.gr (g * 3 + q)), false, 0, Co0, 0⟩, none, none, 0, 0⟩ W4 (hJ _ _ _ none HJQ.out (only_of_below B4.out none) (fun r e => by cases e)) (World.ownsRow_nil _ _ _ _) (by omega)
                simp only [encM, mtX, mtL, coL, Co0, List.length_nil, List.cons_append, List.nil_append] at hy
                clear hn
                gi_wp2
                refine hR0.mono ?_
                rintro e W8 ⟨rfl, hJ8, hk8⟩
                clear hy hR0 ldp
                gi_wp2
                refine ⟨?_, ?measure⟩
                (repeat apply Exists.intro)
                refine ⟨?rel, rfl⟩
                case rel => exact ⟨q + 1, _, by omega, rfl, hJ8, HKQ.out.trans ((KeepLow.below B4.out (by have := HKQ.out.2.2; omega) (by have := HKQ.out.2.2; omega)).trans hk8), by
                  rw [← Nat.add_assoc, List.map_append, HPQ.out, rowsG, if_neg HN.out]
                  have e1 : (g * 3 + q) / 3 = g := by omega
                  have e2 : (g * 3 + q) % 3 = q := by omega
                  unfold mtCommit
                  rw [e1, e2]
                  rfl, fun y hy => by
                  rcases List.mem_append.1 hy with h | h
                  · exact HSQ.out y h
                  · rw [List.mem_singleton.1 h]; exact ⟨rfl, Nat.zero_le 1000⟩, by simp; omega⟩
                case measure => simp [intOf]; omega
            · have d3 : decide ((q : Int) < 3) = false := decide_eq_false (by omega)
              obtain rfl : q = 3 := by omega
              gi_wp2
              go_roundw
              case rel => exact ⟨g + 1, pq, by omega, rfl, hJq, hkq, by rw [Nat.add_mul]; exact HPQ.out, HSQ.out, by omega⟩
              case measure => simp [intOf]; omega
        · have d2 : decide ((g : Int) < 2) = false := decide_eq_false (by omega)
          obtain rfl : g = 2 := by omega
          gi_wp2
          go_end0
          exact ⟨⟨_, rfl⟩, pg, ⟨HPG.out, HSG.out⟩, hJg⟩
theorem rows_told (Bs k0 : Nat) (s : Sta) (a : Sad) (hk0 : k0 ≤ Bs) (w : World) (hBs : Bs < w.heap.size) (hS : Blk w Bs 31 (stX s a)) (hR : ∀ j, j < 3 → Reads w k0 3 (a.D j) (s.tid j).qs.length (cellsP (s.tid j).qs) ∧ (s.tid j).qs.length ≤ 1000) :
    SeqTold Fence.wide 4 Tryd.prog 62 #[.pointer (some ⟨Bs, 0, none⟩)] encM (PendOwn w.heap.size) (KeepLow k0 Bs) (fun xs => xs.map (·.x) = rowsG s 6 ∧ ∀ y ∈ xs, y.x.c.ps = [] ∧ y.x.c.qs.length ≤ 1000) 10 w :=
  fun l J W hW hJ hY h0 => rows1_in l Bs k0 s a hk0 J W (Nat.lt_of_lt_of_le hBs hW.size) hJ (fun pre x V hj hp hl => hY pre x V hj (own_base hp hW.size) hl) (hS.below hW hBs) (fun j hj => ⟨(hR j hj).1.below (hW.mono (by omega)), (hR j hj).2⟩) h0
end Go.Proofs.YtbpkckahonmpkaaDoor
namespace Go.Proofs.YtbpkckahonmpkaaDoor
open Go.RowKit Go.Shelf

theorem infoMtFull : (Tryd.prog.info? 35).map (fun i => (i.zero, i.size, i.bytes)) = some (some (.agg #[.int .i8 0, .int .i64 0, .int .i64 0, .int .i64 0, .int .i64 0, .int .i64 0, .bool false, .int .i64 0, .int .i8 0, .int .i64 0, .int .i64 0, .int .i64 0, .int .i64 0, .slice none 0 0, .slice none 0 0, .int .i64 0, .int .i64 0]), 17, 168) := by kernel_rfl
theorem rows_any (s : Sta) (a : Sad) (w : World) :
    Calls Tryd.prog 39 #[.agg (stX s a)] w fun e w' => e = .returned (.func (.func 62) #[] #[.pointer (some ⟨w.heap.size, 0, none⟩)]) ∧ w' = w.alloc (.cells (stX s a) 31) := by
  go_enter Tryd.func39, Tryd.ntmps39
  go_wp2
  go_ret
  exact ⟨rfl, rfl⟩
theorem keepLow_b {k b m : Nat} (hk : k ≤ m) (hb : b < m) (W : World) (l : Nat) (o o' : Obj) (hl : m ≤ l) (_ : W.heap[l]? = some o) (_ : o.isCells = false) (_ : o.isWalk = false) : KeepLow k b W (W.putObj l o') :=
  ⟨fun i hi => World.putObj_heap_other (by omega), World.putObj_heap_other (by omega), by simp [World.putObj]⟩
theorem pend_keep {lo : Nat} {y : MtM} {W W' : World} (h : PendOwn lo y W) (hk : ∀ i, lo ≤ i → i < W.heap.size → (∃ cs, W.heap[i]? = some (.cells cs 33 (0, 0))) → W'.heap[i]? = W.heap[i]?) : PendOwn lo y W' := by
  refine ⟨h.1, ?_⟩
  rcases h.2 with hn | ⟨g, cap, cur, h1, h2, h3, rest⟩
  · exact .inl hn
  · exact .inr ⟨g, cap, cur, h1, h2, (hk g h2 (by
      rcases Nat.lt_or_ge g W.heap.size with q | q
      · exact q
      · rw [Array.getElem?_eq_none q] at h3; cases h3) ⟨cur, h3⟩).trans h3, rest⟩
theorem pend_own {α : Type} (lo B : Nat) (f : α → MtM) : OwnFrom B (fun x W => PendOwn lo (f x) W) := fun x W W' row hs hg hr =>
  pend_keep hs (fun i _ hi ⟨cs, hc⟩ => hg.block i hi (fun e => by
    obtain ⟨_, o, ho, hno⟩ := hr i e.symm
    rw [hc] at ho; cases ho; cases hno))
/-- What Rows gives of a state that may be. -/
def RwPost (s : Sta) (w : World) (e : Ending) (w' : World) : Prop :=
  ∃ (xs : List MtM) (A : Option Addr) (c : Nat), e = .returned (.slice A xs.length c) ∧ xs.map (·.x) = rowsG s 6 ∧ Reads w' w'.heap.size 17 A xs.length (cellsE xs) ∧ MtsR w' w'.heap.size xs ∧ Below w.heap.size w w'

theorem build_mt (m : Mt) (A D : Option Addr) (c e : Nat) : Array.foldl (fun cs x => cs.setIfInBounds x.snd x.fst) #[.int .i8 0, .int .i64 0, .int .i64 0, .int .i64 0, .int .i64 0, .int .i64 0, .bool false, .int .i64 0, .int .i8 0, .int .i64 0, .int .i64 0, .int .i64 0, .int .i64 0, .slice none 0 0, .slice none 0 0, .int .i64 0, .int .i64 0] (mtX m A D c e).zipIdx 0 17 = mtX m A D c e := by
  simp [mtX, mtL, coL]
/-- What holds while the entries are gone through: the row that is made of them, their lists. -/
def RwI (w w2 : World) (B : Nat) (pre : List MtM) (W : World) : Prop :=
  ((∃ v, Boxed W B 44 v ∧ W.ownsRow w2.heap.size 35 17 v pre.length (cellsE pre) ∧ True) ∧ (∀ y ∈ pre, PendOwn w2.heap.size y W)) ∧ Below w.heap.size w W ∧ w2.heap.size ≤ W.heap.size
theorem RwI.own {w w2 : World} {B : Nat} (hw : w.heap.size ≤ w2.heap.size) : OwnFrom w2.heap.size (RwI w w2 B) :=
  OwnFrom.and (OwnFrom.and (Own.from (holdsRow_own _ _ 44 35 17 (fun (pre : List MtM) => pre.length) (fun pre => cellsE pre) (fun _ _ => True)) _)
    (fun _ W W' row hs hg hr y hy => pend_own _ _ (fun (_ : Unit) => y) () W W' row (hs y hy) hg hr))
    (OwnFrom.and (ownFrom_below (Nat.le_refl _) hw) (fun _ _ _ _ hs hg _ => Nat.le_trans hs hg.size))
theorem RwI.below {w w2 W W' : World} {B : Nat} {pre : List MtM} (hw : w.heap.size ≤ w2.heap.size) (h : RwI w w2 B pre W) (b : Below W.heap.size W W') : RwI w w2 B pre W' :=
  RwI.own hw pre W W' none h (only_of_below b none) (fun r e => by cases e)

theorem store_slMR {W : World} {a : Addr} {u : Value} (A : Option Addr) (n c : Nat) (h : W.cell? a = some u) (hf : W.frozen? a = false) : (storeVar 44 a (.slice A n c)).run Tryd.prog W = .ok () (W.setCell a (.slice A n c)) := by
  simp [go_sem, h, hf]
theorem wide_fnW (f : FuncId) : Fence.wide.fn f = True := rfl
attribute [local go_sem] Oper.semAt_some wide_fnW
attribute [-go_sem] loadCells storeVar
set_option maxRecDepth 100000 in
set_option maxHeartbeats 4000000 in
theorem Rows_any (s : Sta) (a : Sad) (w : World) (h : StR w w.heap.size s a) (hm : mayS s = true) :
    Calls Tryd.prog 19 #[.agg (stX s a)] w (RwPost s w) := by
  obtain ⟨i0, hi, hz0, hz1, hz2⟩ := info_parts infoMtFull
  obtain ⟨W0, hW0⟩ : ∃ W0, W0 = w.alloc (.cells (stX s a) 31) := ⟨_, rfl⟩
  have B0 : Below w.heap.size w W0 := by rw [hW0]; exact bal (Below.refl _ _) _
  have K0 : Blk W0 w.heap.size 31 (stX s a) := by rw [hW0]; exact Blk.new w _ _
  have s0 : W0.heap.size = w.heap.size + 1 := by rw [hW0]; simp
  have MC := Lib.hid (mMay_any s a W0.heap.size W0 (h.up B0) (Nat.le_refl _))
  rw [hm] at MC
  have ld0 := bk_load (P := Tryd.prog) 31 (Blk.new w 31 (stX s a)) rfl
  have HW0 := Lib.hid hW0
  have HB0 := Lib.hid B0
  have HK0 := Lib.hid K0
  have HS0 := Lib.hid s0
  have HH := Lib.hid h
  clear hW0 B0 K0 s0 h hm
  refine (callsIn_wide (n := 5)).1 ?_
  refine callsIn_of_wp_marks Tryd.func19 rfl trivial ?_ rfl
  simp only [Tryd.ntmps19, List.size_toArray, List.length_cons, List.length_nil, Nat.reduceAdd, Nat.reduceSub, Array.replicate_succ, Array.replicate_zero, List.push_toArray, List.append_toArray, List.nil_append, List.cons_append]
  gi_wp2_with
    (first
     | (gi_at_call 26
        rw [← HW0.out]
        refine (callsIn_wide.2 MC.out).mono ?_
        rintro e w1 ⟨rfl, b1⟩
        have k1 := HK0.out.below b1 HK0.out.lt
        have ld1 := bk_load (P := Tryd.prog) 31 (k1.alloc (.cells #[.slice none 0 0] 44)) rfl
        have HB1 := Lib.hid b1
        clear k1 b1 ld0)
     | (gi_at_call 39
        refine (callsIn_wide.2 (rows_any s a _)).mono ?_
        rintro e w2 ⟨rfl, hw2⟩
        have HW2 := Lib.hid hw2
        clear hw2))
  clear ld1
  have hw2 := HW2.out
  have sz0 := HS0.out
  have sz1 := HB1.out.size
  have sz2 : w2.heap.size = w1.heap.size + 2 := by rw [hw2]; simp
  have bw1 : Below w.heap.size w w1 := HB0.out.trans (HB1.out.mono (by omega))
  have bw2 : Below w.heap.size w w2 := by rw [hw2]; exact bal (bal bw1 _) _
  have kl : Boxed w2 w1.heap.size 44 (.slice none 0 0) := by rw [hw2]; exact (Boxed.new w1 _ _).alloc _
  have kS : Blk w2 (w1.heap.size + 1) 31 (stX s a) := by
    rw [hw2]
    have := Blk.new (w1.alloc (.cells #[.slice none 0 0] 44)) 31 (stX s a)
    rwa [World.size_alloc] at this
  have hseq := rows_told (w1.heap.size + 1) w.heap.size s a (by omega) w2 (by omega) kS (fun j hj => ⟨(((HH.out j hj).2.1).below bw2), (HH.out j hj).2.2.2⟩)
  have HSZ2 := Lib.hid sz2
  have HBW := Lib.hid bw2
  have HKL := Lib.hid kl
  have HSQ := Lib.hid hseq
  clear hw2 kl kS hseq bw1 bw2 sz2 sz1 sz0
  refine wpIn_rangeFunc_told rfl (by omega) (gf := 62) (lb := #[.pointer (some ⟨w1.heap.size + 1, 0, none⟩)]) rfl trivial (enters_of Tryd.func62 (by kernel_rfl) rfl)
    HSQ.out KeepLow.trans (keepLow_b (by have := HBW.out.size; omega) (by have := HSZ2.out; omega)) (Below.refl _ _) (fun _ => rfl)
    (RwI w w2 w1.heap.size) (RwI.own HBW.out.size) ?start
    (fun x a' W => ∃ Be, w2.heap.size ≤ Be ∧ Blk W Be 35 (mtX x.x x.A x.D x.c x.e) ∧ PendOwn w2.heap.size x W ∧ a' = { tmps := #[.agg (stX s a), .pointer (some ⟨w.heap.size, 0, none⟩), .slice none 0 0, .pointer (some ⟨w1.heap.size, 0, none⟩), .pointer (some ⟨Be, 0, none⟩), .agg (stX s a), .bool true, .bool false, .agg (stX s a), .func (.func 62) #[] #[.pointer (some ⟨w1.heap.size + 1, 0, none⟩)], .agg (mtX x.x x.A x.D x.c x.e), undef, undef, undef, undef, undef], defers := [] })
    ?ax ?assign ?body ?done
  case start => exact ⟨⟨⟨_, HKL.out, World.ownsRow_nil _ _ _ _, trivial⟩, fun y hy => by cases hy⟩, HBW.out, Nat.le_refl _⟩
  case ax =>
    rintro x a' _ X Y row ⟨Be, e1, e2, e3, e4⟩ hg hr
    exact ⟨Be, e1, e2.grown hg (fun e => by
      obtain ⟨_, o, ho, hno⟩ := hr Be e.symm
      rw [show X.heap[Be]? = _ from e2] at ho; cases ho; cases hno), pend_own _ _ (fun (_ : Unit) => x) () X Y row e3 hg hr, e4⟩
  case assign =>
    rintro l pre x W K ⟨⟨⟨v, hv, hrow, _⟩, hP⟩, hB, hsz⟩ hT hK
    obtain ⟨W3, st3, k3, b3, s3⟩ := bk_fresh (P := Tryd.prog) W 35 #[.int .i8 0, .int .i64 0, .int .i64 0, .int .i64 0, .int .i64 0, .int .i64 0, .bool false, .int .i64 0, .int .i8 0, .int .i64 0, .int .i64 0, .int .i64 0, .int .i64 0, .slice none 0 0, .slice none 0 0, .int .i64 0, .int .i64 0] (mtX x.x x.A x.D x.c x.e) 17 infoMt rfl (mtX_size ..) (mtX_one ..)
    have HK := Lib.hid @hK
    clear hK
    gi_wp2
    exact HK.out _ _ (KeepsFrom.of_grownBy (only_of_below b3 none) (fun j e => by cases e)) (KeepLow.below b3 (by have := HBW.out.size; omega) (by have := HSZ2.out; omega)) (RwI.below HBW.out.size ⟨⟨⟨v, hv, hrow, trivial⟩, hP⟩, hB, hsz⟩ b3) ⟨W.heap.size, hsz, k3, pend_keep hT (fun i _ hi _ => b3.block i hi), rfl⟩
  case body =>
    rintro l pre x a' W ⟨⟨⟨v, hv, hrow, _⟩, hP⟩, hB, hsz⟩ ⟨Be, hBe, kE, hT, rfl⟩ hlt
    have hms : (mtX x.x x.A x.D x.c x.e).size = 17 := rfl
    have ldE := bk_load (P := Tryd.prog) 17 kE (mtX_size ..)
    have hc := hv.cell
    have HRW := Lib.hid hrow
    have HHP := Lib.hid hP
    have HHT := Lib.hid hT
    clear hrow hP hT
    gi_wp2_with (gi_at_builtin; rw [build_mt]; refine wpListIn_append_own _ rfl _ _ 44 rfl w2.heap.size 35 i0 (.agg #[.int .i8 0, .int .i64 0, .int .i64 0, .int .i64 0, .int .i64 0, .int .i64 0, .bool false, .int .i64 0, .int .i8 0, .int .i64 0, .int .i64 0, .int .i64 0, .int .i64 0, .slice none 0 0, .slice none 0 0, .int .i64 0, .int .i64 0]) 17 168 Tryd.underlying44 hi hz0 hz1 hz2 rfl (by decide) _ _ _ rfl (HRW.out.alloc _) ⟨W.heap.size, 0, none⟩ 1 1 (mtL x.x x.A x.D x.c x.e) rfl rfl (fun j u hu => by rw [Addr.add_mid, Nat.zero_add, (Blk.new W _ _).cell, ← hu]; simp [mtX]) (by simp [mtL, coL, Value.oneCell']) (by unfold maxLen; omega) (by omega) (by simp; omega) ?_; intro v' w3 hown' hgrow _; obtain ⟨g', cap', rfl⟩ := ownsRow_succ hown'; obtain ⟨hv1, hv2, hr2, hk2, hb2⟩ := hv.appended (by decide) (own_base HRW.out (base' := w.heap.size) HBW.out.size) hB.size (by have := HBW.out.size; have := HB1.out.size; have := HS0.out; omega) (own_base hown' (base' := w.heap.size) HBW.out.size) hgrow; have stw := store_slMR (some ⟨g', 0, none⟩) (pre.length + 1) cap' hv1.cell hv1.frozen; have hc1 := hv1.cell; have hf1 := hv1.frozen)
    have hne : ∀ i, (i < w2.heap.size ∨ ∃ cs, W.heap[i]? = some (.cells cs 33 (0, 0))) → some i ≠ v.ownBlock := fun i hi e => by
      rcases HRW.out.2 with ⟨rfl, _⟩ | ⟨g, cap, cur, rfl, hb, hg, _⟩
      · cases e
      · obtain rfl : i = g := by simpa [Value.ownBlock] using e
        rcases hi with hi | ⟨cs, hc⟩
        · omega
        · rw [hg] at hc; cases hc
    have hsame : ∀ i, i < W.heap.size → i ≠ w1.heap.size → some i ≠ v.ownBlock → (w3.setCell ⟨w1.heap.size, 0, none⟩ (.slice (some ⟨g', 0, none⟩) (pre.length + 1) cap')).heap[i]? = W.heap[i]? := fun i hi h1 h2 =>
      (Below.heap_setCell w3 _ _ i h1).trans ((hgrow.block i (by simp; omega) h2).trans (Below.heap_alloc W _ i hi))
    have hz := HSZ2.out
    refine ⟨hk2.from _, ⟨fun i hi => hb2.block i hi, hsame _ (by omega) (by omega) (hne _ (.inl (by omega))), hb2.size⟩, ⟨⟨_, hv2, ?_, trivial⟩, fun y hy => ?_⟩, hB.trans hb2, Nat.le_trans hsz hb2.size⟩
    · have h1 := hown'.kept (grownBy_setCell' w3 w1.heap.size (.slice (some ⟨g', 0, none⟩) (pre.length + 1) cap')) (.inr (hv1.not_row (by decide) hown').symm)
      have e1 : cellsE (pre ++ [x]) = cellsE pre ++ mtL x.x x.A x.D x.c x.e := by unfold cellsE; rw [List.flatMap_append]; simp [cE]
      rw [e1, List.length_append]
      exact h1
    · have hy' : PendOwn w2.heap.size y W := by
        rcases List.mem_append.1 hy with q | q
        · exact HHP.out y q
        · rw [List.mem_singleton.1 q]; exact HHT.out
      exact pend_keep hy' (fun i h1 h2 h3 => hsame i h2 (by omega) (hne i (.inr h3)))
  case done =>
    rintro D xs W hD ⟨hx, hp⟩ ⟨⟨⟨v, hv, hrow, _⟩, hP⟩, hB, hsz⟩ hK
    obtain ⟨A, c, rfl, hnc⟩ := own_slice hrow
    have hc := hv.cell
    have HRW := Lib.hid hrow
    have HHP := Lib.hid hP
    have HX := Lib.hid hx
    have HPP := Lib.hid hp
    clear hrow hP hx hp hnc
    gi_wp2
    refine ⟨by simp, .inl ⟨_, _, rfl, run_takeDeferred hK, ?_⟩⟩
    have hlt : ∀ i, i ≠ D → (W.putObj D (.deferred none)).heap[i]? = W.heap[i]? := fun i hi => World.putObj_heap_other hi
    have hz : (W.putObj D (.deferred none)).heap.size = W.heap.size := by simp [World.putObj]
    refine ⟨_, results_tmp rfl _ _ _, xs, A, c, rfl, HX.out, Reads.of_own (ownsRow_putObj HRW.out (.deferred none) hK rfl), fun y hy => ?_, hB.trans (belowK_b (w := w2) HBW.out.size W D _ _ hD hK rfl rfl)⟩
    have hq : PendOwn w2.heap.size y (W.putObj D (.deferred none)) := pend_keep (HHP.out y hy) (fun i _ _ h3 => hlt i (fun e => by
      subst e
      obtain ⟨cs, h4⟩ := h3
      rw [hK] at h4; cases h4))
    have hps := (HPP.out y hy)
    refine ⟨?_, Reads.of_own hq, by rw [hps.1]; exact Nat.zero_le 1000, hps.2⟩
    rw [hps.1]
    exact Reads.none_
end Go.Proofs.YtbpkckahonmpkaaDoor
