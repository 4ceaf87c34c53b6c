/-
  Layer 21: what becomes of a transactional id and of a whole state behind a tick, or made young: the program's parts.
-/
import Derived.Test.YtagclnmchkgpdaaGrp09
import Derived.Test.YtagclnmchkgpdaaGrp10
set_option linter.unusedVariables false
set_option linter.unusedSimpArgs false
namespace Go.Proofs.Ytagclnmchkgpdaa
open Go.RowKit
set_option maxRecDepth 100000 in
set_option maxHeartbeats 1000000 in
theorem cown_any (c : Co) (A1 D1 : Option Addr) (c1 e1 : Nat) (w : World) (h1 : CoR w w.heap.size c A1 D1) :
    Calls Try.prog 37 #[(.agg #[.int .i8 c.st, .int .i64 c.pid, .int .i64 c.ep, .int .i64 c.tm, .int .i64 c.th, .slice A1 c.ps.length c1, .slice D1 c.qs.length e1, .int .i64 c.ag])] w (CoNew c w) := by
  have hps := h1.2.2.1
  have hqs := h1.2.2.2
  have h2 := (h1.al (.cells #[.int .i8 c.st, .int .i64 c.pid, .int .i64 c.ep, .int .i64 c.tm, .int .i64 c.th, .slice A1 c.ps.length c1, .slice D1 c.qs.length e1, .int .i64 c.ag] 26)).al (.cells #[.int .i8 0, .int .i64 0, .int .i64 0, .int .i64 0, .int .i64 0, .slice none 0 0, .slice none 0 0, .int .i64 0] 26)
  have HC := Lib.hid (CloneI_any A1 c.ps c1 _ h2.1 (by omega))
  have H2 := Lib.hid h2
  have K1 := Lib.hid ((Blk.new w 26 #[.int .i8 c.st, .int .i64 c.pid, .int .i64 c.ep, .int .i64 c.tm, .int .i64 c.th, .slice A1 c.ps.length c1, .slice D1 c.qs.length e1, .int .i64 c.ag]).alloc (.cells #[.int .i8 0, .int .i64 0, .int .i64 0, .int .i64 0, .int .i64 0, .slice none 0 0, .slice none 0 0, .int .i64 0] 26))
  have kk := Blk.new (w.alloc (.cells #[.int .i8 c.st, .int .i64 c.pid, .int .i64 c.ep, .int .i64 c.tm, .int .i64 c.th, .slice A1 c.ps.length c1, .slice D1 c.qs.length e1, .int .i64 c.ag] 26)) 26 #[.int .i8 0, .int .i64 0, .int .i64 0, .int .i64 0, .int .i64 0, .slice none 0 0, .slice none 0 0, .int .i64 0]
  rw [World.size_alloc] at kk
  have K2 := Lib.hid kk
  have HB := Lib.hid (bal (bal (Below.refl w.heap.size w) (.cells #[.int .i8 c.st, .int .i64 c.pid, .int .i64 c.ep, .int .i64 c.tm, .int .i64 c.th, .slice A1 c.ps.length c1, .slice D1 c.qs.length e1, .int .i64 c.ag] 26)) (.cells #[.int .i8 0, .int .i64 0, .int .i64 0, .int .i64 0, .int .i64 0, .slice none 0 0, .slice none 0 0, .int .i64 0] 26))
  have Q1 := Lib.hid h1.2.1
  clear h1 h2 kk
  go_enter Try.func37, Try.ntmps37
  go_wp2_with fail
  refine HC.out.mono ?_
  rintro e w2 ⟨A2, c2, rfl, r2, hc2, b2, f2⟩
  have hz2 := b2.size
  simp only [World.size_alloc] at hz2
  have k1 := K1.out.below b2 (by simp only [World.size_alloc]; omega)
  have k2 := K2.out.below b2 (by simp only [World.size_alloc]; omega)
  have u1 := k1.cell 5
  have u2 := k1.frozen 5
  have u3 := k1.cell 6
  go_wp2_with fail
  clear u1 u2 u3
  have k3 := k1.set_ 5 (.slice A2 c.ps.length c2)
  have k4 := k2.far (p := ⟨w.heap.size, 5, none⟩) (by simp) (.slice A2 c.ps.length c2)
  have b3 : Below w.heap.size w (w2.setCell ⟨w.heap.size, 5, none⟩ (.slice A2 c.ps.length c2)) := bset (btrans HB.out b2) (Nat.le_refl _) _
  have rr : Reads (w2.setCell ⟨w.heap.size, 5, none⟩ (.slice A2 c.ps.length c2)) w.heap.size 3 D1 c.qs.length (cellsP c.qs) := Q1.out.below b3
  simp only [World.size_alloc] at f2
  have r3 := r2.away f2 (p := ⟨w.heap.size, 5, none⟩) (by simp only; omega) (.slice A2 c.ps.length c2)
  have hle := b2.size
  generalize hw3 : w2.setCell ⟨w.heap.size, 5, none⟩ (.slice A2 c.ps.length c2) = w3 at *
  have hz3 : w.heap.size + 2 ≤ w3.heap.size := by rw [← hw3]; simpa [World.setCell] using hz2
  refine (CloneP_any D1 c.qs e1 w3 (rr.more b3.size) (by omega)).mono ?_
  rintro e w4 ⟨A4, c4, rfl, r4, hc4, b4, f4⟩
  have r5 := (r3.below (b4.mono (by rw [← hw3]; simp [World.setCell])))
  have k5 := k3.below b4 (by omega)
  have k6 := k4.below b4 (by omega)
  have x1 := k5.cell 0
  have x2 := k5.cell 1
  have x3 := k5.cell 2
  have x4 := k5.cell 3
  have x5 := k5.cell 4
  have x6 := k5.cell 5
  have x7 := k5.cell 6
  have x8 := k5.cell 7
  have x9 := k5.frozen 6
  have y0 := k6.cell 0
  have y1 := k6.cell 1
  have y2 := k6.cell 2
  have y3 := k6.cell 3
  have y4 := k6.cell 4
  have y5 := k6.cell 5
  have y6 := k6.cell 6
  have y7 := k6.cell 7
  have z0 := k6.frozen 0
  have z1 := k6.frozen 1
  have z2 := k6.frozen 2
  have z3 := k6.frozen 3
  have z4 := k6.frozen 4
  have z5 := k6.frozen 5
  have z6 := k6.frozen 6
  have z7 := k6.frozen 7
  go_wp2_with fail
  refine bodyPost_ret (v := .agg #[.int .i8 c.st, .int .i64 c.pid, .int .i64 c.ep, .int .i64 c.tm, .int .i64 c.th, .slice A2 c.ps.length c2, .slice A4 c.qs.length c4, .int .i64 c.ag]) (by simp [results, Try.results37, go_sem, y0, y1, y2, y3, y4, y5, y6, y7]) rfl ⟨A2, A4, c2, c4, rfl, ⟨?_, ?_, hps, hqs⟩, ?_, f2.mono (by omega), f4.mono (by have := b3.size; omega)⟩
  · have hs : w2.heap.size ≤ w4.heap.size := by
      have h1 := b4.size
      have h2 : w3.heap.size = w2.heap.size := by rw [← hw3]; simp [World.setCell]
      omega
    have q0 := r5.away f2 (p := ⟨w.heap.size, 6, none⟩) (by simp only; omega) (.slice A4 c.qs.length c4)
    have q1 := q0.away f2 (p := ⟨w.heap.size + 1, 0, none⟩) (by simp only; omega) (.int .i8 c.st)
    have q2 := q1.away f2 (p := ⟨w.heap.size + 1, 1, none⟩) (by simp only; omega) (.int .i64 c.pid)
    have q3 := q2.away f2 (p := ⟨w.heap.size + 1, 2, none⟩) (by simp only; omega) (.int .i64 c.ep)
    have q4 := q3.away f2 (p := ⟨w.heap.size + 1, 3, none⟩) (by simp only; omega) (.int .i64 c.tm)
    have q5 := q4.away f2 (p := ⟨w.heap.size + 1, 4, none⟩) (by simp only; omega) (.int .i64 c.th)
    have q6 := q5.away f2 (p := ⟨w.heap.size + 1, 5, none⟩) (by simp only; omega) (.slice A2 c.ps.length c2)
    have q7 := q6.away f2 (p := ⟨w.heap.size + 1, 6, none⟩) (by simp only; omega) (.slice A4 c.qs.length c4)
    have q8 := q7.away f2 (p := ⟨w.heap.size + 1, 7, none⟩) (by simp only; omega) (.int .i64 c.ag)
    exact q8.more (by simpa [World.setCell] using hs)
  · have q0 := r4.away f4 (p := ⟨w.heap.size, 6, none⟩) (by simp only; omega) (.slice A4 c.qs.length c4)
    have q1 := q0.away f4 (p := ⟨w.heap.size + 1, 0, none⟩) (by simp only; omega) (.int .i8 c.st)
    have q2 := q1.away f4 (p := ⟨w.heap.size + 1, 1, none⟩) (by simp only; omega) (.int .i64 c.pid)
    have q3 := q2.away f4 (p := ⟨w.heap.size + 1, 2, none⟩) (by simp only; omega) (.int .i64 c.ep)
    have q4 := q3.away f4 (p := ⟨w.heap.size + 1, 3, none⟩) (by simp only; omega) (.int .i64 c.tm)
    have q5 := q4.away f4 (p := ⟨w.heap.size + 1, 4, none⟩) (by simp only; omega) (.int .i64 c.th)
    have q6 := q5.away f4 (p := ⟨w.heap.size + 1, 5, none⟩) (by simp only; omega) (.slice A2 c.ps.length c2)
    have q7 := q6.away f4 (p := ⟨w.heap.size + 1, 6, none⟩) (by simp only; omega) (.slice A4 c.qs.length c4)
    have q8 := q7.away f4 (p := ⟨w.heap.size + 1, 7, none⟩) (by simp only; omega) (.int .i64 c.ag)
    exact q8.more (by simp [World.setCell])
  · exact bset (bset (bset (bset (bset (bset (bset (bset (bset (btrans b3 b4) (Nat.le_refl _) _) (by omega) _) (by omega) _) (by omega) _) (by omega) _) (by omega) _) (by omega) _) (by omega) _) (by omega) _
theorem stX_congr {s t : Sta} {a c : Sad} (hm : s.made = t.made) (hg : ∀ g, g < 6 → s.gr g = t.gr g) (ht : ∀ k, k < 3 → s.tid k = t.tid k) (hA : ∀ k, k < 3 → a.A k = c.A k ∧ a.D k = c.D k ∧ a.c k = c.c k ∧ a.e k = c.e k) : stX s a = stX t c := by
  have h := fun k hk => show coAt s a k = coAt t c k by unfold coAt; rw [ht k hk, (hA k hk).1, (hA k hk).2.1, (hA k hk).2.2.1, (hA k hk).2.2.2]
  unfold stX stL tidL grL
  rw [h 0 (by omega), h 1 (by omega), h 2 (by omega), hm, hg 0 (by omega), hg 1 (by omega), hg 2 (by omega), hg 3 (by omega), hg 4 (by omega), hg 5 (by omega)]
def Sta.put (s : Sta) (k : Nat) (c : Co) : Sta := { s with tid := fun j => if j = k then c else s.tid j }
def Sad.put (a : Sad) (k : Nat) (A D : Option Addr) (c e : Nat) : Sad := ⟨fun j => if j = k then A else a.A j, fun j => if j = k then D else a.D j, fun j => if j = k then c else a.c j, fun j => if j = k then e else a.e j⟩
theorem bkSet_mid : ∀ (vs mid pre post : List Value), mid.length = vs.length → bkSet (pre ++ (mid ++ post)).toArray pre.length vs = (pre ++ (vs ++ post)).toArray
  | [], mid, pre, post, h => by
    rw [List.length_eq_zero_iff.1 h]
    rfl
  | v :: vs, [], pre, post, h => by simp at h
  | v :: vs, z :: mid, pre, post, h => by
    rw [bkSet]
    have e : (pre ++ (z :: mid ++ post)).toArray.setIfInBounds pre.length v = ((pre ++ [v]) ++ (mid ++ post)).toArray := by
      rw [List.setIfInBounds_toArray]
      congr 1
      rw [List.set_append_right _ _ (Nat.le_refl _)]
      simp
    rw [e]
    have := bkSet_mid vs mid (pre ++ [v]) post (by simpa using h)
    rw [List.length_append, List.length_singleton] at this
    rw [this]
    simp
theorem blk_is {W : World} {b : Nat} {t : TypeId} {cs : Array Value} (h : Blk W b t cs) {j : Nat} (hj : j < cs.size) : (W.cell? ⟨b, j, none⟩).isSome = true ∧ W.frozen? ⟨b, j, none⟩ = false := by
  refine ⟨?_, h.frozen _⟩
  rw [h.cell, Array.getElem?_eq_getElem hj]
  rfl
theorem bk_put (s : Sta) (a : Sad) (k : Nat) (hk : k < 3) (d : Co) (A5 D5 : Option Addr) (c5 e5 : Nat) : bkSet (stX s a) (1 + k * 8) (coL d A5 D5 c5 e5) = stX (s.put k d) (a.put k A5 D5 c5 e5) := by
  match k, hk with
  | 0, _ =>
    have h := bkSet_mid (coL d A5 D5 c5 e5) (coAt s a 0) [.int .i64 s.made] (coAt s a 1 ++ (coAt s a 2 ++ grL s)) rfl
    unfold stX stL tidL
    rw [List.append_assoc, List.append_assoc]
    exact h
  | 1, _ =>
    have h := bkSet_mid (coL d A5 D5 c5 e5) (coAt s a 1) (.int .i64 s.made :: coAt s a 0) (coAt s a 2 ++ grL s) rfl
    unfold stX stL tidL
    rw [List.append_assoc, List.append_assoc]
    exact h
  | 2, _ =>
    have h := bkSet_mid (coL d A5 D5 c5 e5) (coAt s a 2) (.int .i64 s.made :: (coAt s a 0 ++ coAt s a 1)) (grL s) rfl
    unfold stX stL tidL
    rw [List.append_assoc, List.append_assoc]
    simp only [List.cons_append, List.append_assoc] at h ⊢
    exact h
theorem st_put {W : World} {b : Nat} {t : TypeId} {s : Sta} {a : Sad} (h : Blk W b t (stX s a)) (k : Nat) (hk : k < 3) (d : Co) (A5 D5 : Option Addr) (c5 e5 : Nat) :
    ∃ W', (storeVar 26 ⟨b, 1 + k * 8, none⟩ (.agg #[.int .i8 d.st, .int .i64 d.pid, .int .i64 d.ep, .int .i64 d.tm, .int .i64 d.th, .slice A5 d.ps.length c5, .slice D5 d.qs.length e5, .int .i64 d.ag])).run Try.prog W = .ok () W' ∧ Blk W' b t (stX (s.put k d) (a.put k A5 D5 c5 e5)) ∧ (∀ m (w : World), m ≤ b → Below m w W → Below m w W') ∧ (∀ y, y ≠ b → W'.heap[y]? = W.heap[y]?) ∧ W'.heap.size = W.heap.size := by
  refine ⟨_, run_storeVar_mid W b (1 + k * 8) 26 #[.int .i8 d.st, .int .i64 d.pid, .int .i64 d.ep, .int .i64 d.tm, .int .i64 d.th, .slice A5 d.ps.length c5, .slice D5 d.qs.length e5, .int .i64 d.ag] (fun j hj => ?_) (by rw [infoCoS]; rfl) (by simp [Value.oneCell']), ?_, fun m w hb hB => bk_setCells_below hb _ _ _ hB, fun y hy => bk_setCells_heap b _ _ _ y hy, bk_setCells_size ..⟩
  · have h8 : j < 8 := hj
    exact blk_is h (by rw [stX_size]; omega)
  · rw [← bk_put s a k hk]
    exact bk_setCells (coL d A5 D5 c5 e5) (1 + k * 8) _ _ h
theorem reads_keepS {w w' : World} {B size n : Nat} {A : Option Addr} {xs : List Value} (h : Reads w B size A n xs) (hA : 0 < n → ∀ ad, A = some ad → w'.heap[ad.block]? = w.heap[ad.block]?) : Reads w' B size A n xs :=
  ⟨h.1, fun hn => by
    obtain ⟨ad, rfl, hb, hc⟩ := h.2 hn
    refine ⟨ad, rfl, hb, fun j u hu => ?_⟩
    rw [← hc j u hu]
    exact World.cell?_of_block (by rw [block_of_add]; exact hA hn ad rfl)⟩
theorem newAt_blockS {lo n : Nat} {A : Option Addr} (h : NewAt lo n A) (hn : 0 < n) {ad : Addr} (e : A = some ad) : lo ≤ ad.block := by
  obtain ⟨x, hx, hb⟩ := h hn
  rw [e] at hx
  injection hx with hx
  subst hx
  exact hb
/-- The lists of a transactional id keep, where one block below them is filled anew. -/
theorem CoR.keepN {w w' : World} {c : Co} {A D : Option Addr} {lo b : Nat} (h : CoR w w.heap.size c A D) (f : NewAt lo c.ps.length A) (g : NewAt lo c.qs.length D) (hb : b < lo) (k : ∀ y, y ≠ b → w'.heap[y]? = w.heap[y]?) (hs : w'.heap.size = w.heap.size) : CoR w' w'.heap.size c A D := by
  rw [hs]
  exact ⟨reads_keepS h.1 (fun hn ad e => k _ (by have := newAt_blockS f hn e; omega)), reads_keepS h.2.1 (fun hn ad e => k _ (by have := newAt_blockS g hn e; omega)), h.2.2⟩
/-- .. where one block above them is. -/
theorem CoR.keepU {w w' : World} {c : Co} {A D : Option Addr} {B b : Nat} (h : CoR w B c A D) (hb : B ≤ b) (k : ∀ y, y ≠ b → w'.heap[y]? = w.heap[y]?) : CoR w' B c A D := by
  refine ⟨reads_keepS h.1 (fun hn ad e => k _ ?_), reads_keepS h.2.1 (fun hn ad e => k _ ?_), h.2.2⟩
  · obtain ⟨ad', e', hb', _⟩ := h.1.2 hn
    rw [e] at e'; injection e' with e'; subst e'; omega
  · obtain ⟨ad', e', hb', _⟩ := h.2.1.2 hn
    rw [e] at e'; injection e' with e'; subst e'; omega
theorem store_intS {W : World} {a : Addr} {u : Value} (k : Int) (h : W.cell? a = some u) (hf : W.frozen? a = false) : (storeVar 3 a (.int .i64 k)).run Try.prog W = .ok () (W.setCell a (.int .i64 k)) := by
  simp [go_sem, h, hf]
section
attribute [-go_sem] loadCells storeVar
set_option maxRecDepth 100000 in
theorem htick_ret (x : Co) (A5 D5 : Option Addr) (c5 e5 : Nat) (tmps : Array Value) (b : Nat) (W : World) (h2 : tmps[4]?.getD undef = .pointer (some ⟨b, 0, none⟩)) (hK : Blk W b 26 #[.int .i8 x.st, .int .i64 x.pid, .int .i64 x.ep, .int .i64 x.tm, .int .i64 x.th, .slice A5 x.ps.length c5, .slice D5 x.qs.length e5, .int .i64 x.ag]) :
    (results Try.f29 tmps).run Try.prog W = .ok (.agg #[.int .i8 x.st, .int .i64 x.pid, .int .i64 x.ep, .int .i64 x.tm, .int .i64 x.th, .slice A5 x.ps.length c5, .slice D5 x.qs.length e5, .int .i64 x.ag]) W := by
  have LC := bk_load (P := Try.prog) 8 hK rfl
  clear hK
  simp [results, Try.results29, go_sem, h2, LC]
set_option maxRecDepth 100000 in
theorem hyoung_ret (x : Co) (A5 D5 : Option Addr) (c5 e5 : Nat) (tmps : Array Value) (b : Nat) (W : World) (h2 : tmps[4]?.getD undef = .pointer (some ⟨b, 0, none⟩)) (hK : Blk W b 26 #[.int .i8 x.st, .int .i64 x.pid, .int .i64 x.ep, .int .i64 x.tm, .int .i64 x.th, .slice A5 x.ps.length c5, .slice D5 x.qs.length e5, .int .i64 x.ag]) :
    (results Try.f31 tmps).run Try.prog W = .ok (.agg #[.int .i8 x.st, .int .i64 x.pid, .int .i64 x.ep, .int .i64 x.tm, .int .i64 x.th, .slice A5 x.ps.length c5, .slice D5 x.qs.length e5, .int .i64 x.ag]) W := by
  have LC := bk_load (P := Try.prog) 8 hK rfl
  clear hK
  simp [results, Try.results31, go_sem, h2, LC]
set_option maxRecDepth 100000 in
set_option maxHeartbeats 4000000 in
theorem htick_any (s : Sta) (a : Sad) (k : Nat) (hk : k < 3) (w : World) (h : StR w w.heap.size s a) :
    Calls Try.prog 29 #[.agg (stX s a), .int .i64 k] w (CoNew (tickC (s.tid k)) w) := by
  obtain ⟨W0, hW0⟩ : ∃ W0, W0 = (w.alloc (.cells (stX s a) 49)).alloc (.cells #[.int .i8 0, .int .i64 0, .int .i64 0, .int .i64 0, .int .i64 0, .slice none 0 0, .slice none 0 0, .int .i64 0] 26) := ⟨_, rfl⟩
  have s0 : W0.heap.size = w.heap.size + 1 + 1 := by rw [hW0]; simp
  have B0 : Below w.heap.size w W0 := by rw [hW0]; exact bal (bal (Below.refl _ _) _) _
  have K1 : Blk W0 w.heap.size 49 (stX s a) := by rw [hW0]; exact (Blk.new w 49 (stX s a)).alloc _
  have K2 : Blk W0 (w.heap.size + 1) 26 #[.int .i8 0, .int .i64 0, .int .i64 0, .int .i64 0, .int .i64 0, .slice none 0 0, .slice none 0 0, .int .i64 0] := by rw [hW0]; exact bk_new _ 26 #[.int .i8 0, .int .i64 0, .int .i64 0, .int .i64 0, .int .i64 0, .slice none 0 0, .slice none 0 0, .int .i64 0] (by simp)
  have HW := Lib.hid hW0
  have HS := Lib.hid s0
  have HB := Lib.hid B0
  have HK2 := Lib.hid K2
  have lk := st_tid K1 k hk
  have i1 : (0 : Int) ≤ (k : Int) := by omega
  have i2 : (k : Int) < 3 := by omega
  have T := Lib.hid (Tick_any (s.tid k) (a.A k) (a.D k) (a.c k) (a.e k) W0 ((h.up B0) k hk))
  clear hW0 s0 B0 K1 K2 h
  go_enter Try.func29, Try.ntmps29
  go_upto_region 1 with (fail)
  rw [← HW.out]
  go_wp2_with fail
  refine T.out.mono ?_
  rintro e w1 ⟨A5, D5, c5, e5, rfl, r5, b5, _⟩
  obtain ⟨d, hd⟩ : ∃ d, d = tickC (s.tid k) := ⟨_, rfl⟩
  rw [← hd] at r5 ⊢
  have HD := Lib.hid hd
  clear hd
  have R5 := Lib.hid r5
  have B5 := Lib.hid b5
  clear r5 b5
  go_wp2_with fail
  refine (cown_any d A5 D5 c5 e5 w1 R5.out).mono ?_
  rintro e w2 ⟨A6, D6, c6, e6, rfl, r6, b6, na, nd⟩
  obtain ⟨W9, st9, kk, fb, fh, fs⟩ := bk_store (P := Try.prog) (ty := 26) (cs := #[.int .i8 d.st, .int .i64 d.pid, .int .i64 d.ep, .int .i64 d.tm, .int .i64 d.th, .slice A6 d.ps.length c6, .slice D6 d.qs.length e6, .int .i64 d.ag]) 8 ((HK2.out.below B5.out (by have := HS.out; omega)).below b6 (by have := HS.out; have := B5.out.size; omega)) infoCoS rfl rfl (by simp [Value.oneCell'])
  have BB := Lib.hid (fb w.heap.size w (by omega) ((HB.out.trans (B5.out.mono HB.out.size)).trans (b6.mono (by have := HB.out.size; have := B5.out.size; omega))))
  have KK := Lib.hid kk
  have NA := Lib.hid (And.intro (na.mono (show w.heap.size ≤ w1.heap.size by have := HB.out.size; have := B5.out.size; omega)) (nd.mono (show w.heap.size ≤ w1.heap.size by have := HB.out.size; have := B5.out.size; omega)))
  have RR := Lib.hid (r6.keepN na nd (b := w.heap.size + 1) (by have := HS.out; have := B5.out.size; omega) fh fs)
  clear kk fb fh fs r6 b6 na nd lk
  go_wp2_with fail
  refine bodyPost_ret (v := (.agg #[.int .i8 d.st, .int .i64 d.pid, .int .i64 d.ep, .int .i64 d.tm, .int .i64 d.th, .slice A6 d.ps.length c6, .slice D6 d.qs.length e6, .int .i64 d.ag])) (htick_ret d A6 D6 c6 e6 _ (w.heap.size + 1) _ rfl KK.out) rfl ?_
  rw [← HD.out]
  exact ⟨A6, D6, c6, e6, rfl, RR.out, BB.out, NA.out.1, NA.out.2⟩
set_option maxRecDepth 100000 in
set_option maxHeartbeats 4000000 in
theorem hyoung_any (s : Sta) (a : Sad) (k : Nat) (hk : k < 3) (w : World) (h : StR w w.heap.size s a) :
    Calls Try.prog 31 #[.agg (stX s a), .int .i64 k] w (CoNew { s.tid k with ag := 0 } w) := by
  obtain ⟨W0, hW0⟩ : ∃ W0, W0 = (w.alloc (.cells (stX s a) 49)).alloc (.cells #[.int .i8 0, .int .i64 0, .int .i64 0, .int .i64 0, .int .i64 0, .slice none 0 0, .slice none 0 0, .int .i64 0] 26) := ⟨_, rfl⟩
  have s0 : W0.heap.size = w.heap.size + 1 + 1 := by rw [hW0]; simp
  have B0 : Below w.heap.size w W0 := by rw [hW0]; exact bal (bal (Below.refl _ _) _) _
  have K1 : Blk W0 w.heap.size 49 (stX s a) := by rw [hW0]; exact (Blk.new w 49 (stX s a)).alloc _
  have K2 : Blk W0 (w.heap.size + 1) 26 #[.int .i8 0, .int .i64 0, .int .i64 0, .int .i64 0, .int .i64 0, .slice none 0 0, .slice none 0 0, .int .i64 0] := by rw [hW0]; exact bk_new _ 26 #[.int .i8 0, .int .i64 0, .int .i64 0, .int .i64 0, .int .i64 0, .slice none 0 0, .slice none 0 0, .int .i64 0] (by simp)
  have HW := Lib.hid hW0
  have HS := Lib.hid s0
  have HB := Lib.hid B0
  have HK2 := Lib.hid K2
  have lk := st_tid K1 k hk
  have i1 : (0 : Int) ≤ (k : Int) := by omega
  have i2 : (k : Int) < 3 := by omega
  have T := Lib.hid (cown_any (s.tid k) (a.A k) (a.D k) (a.c k) (a.e k) W0 ((h.up B0) k hk))
  obtain ⟨d, hd⟩ : ∃ d, d = s.tid k := ⟨_, rfl⟩
  rw [← hd] at T lk ⊢
  clear hW0 s0 B0 K1 K2 h hd
  go_enter Try.func31, Try.ntmps31
  go_upto_region 1 with (fail)
  rw [← HW.out]
  go_wp2_with fail
  refine T.out.mono ?_
  rintro e w1 ⟨A6, D6, c6, e6, rfl, r6, b6, na, nd⟩
  obtain ⟨W5, st5, k5, f5, s5⟩ := bk_fresh (P := Try.prog) w1 26 #[.int .i8 0, .int .i64 0, .int .i64 0, .int .i64 0, .int .i64 0, .slice none 0 0, .slice none 0 0, .int .i64 0] #[.int .i8 d.st, .int .i64 d.pid, .int .i64 d.ep, .int .i64 d.tm, .int .i64 d.th, .slice A6 d.ps.length c6, .slice D6 d.qs.length e6, .int .i64 d.ag] 8 infoCoS rfl rfl (by simp [Value.oneCell'])
  have y7 := k5.cell 7
  have z7 := k5.frozen 7
  have k6 : Blk (W5.setCell ⟨w1.heap.size, 7, none⟩ (.int .i64 0)) w1.heap.size 26 #[.int .i8 d.st, .int .i64 d.pid, .int .i64 d.ep, .int .i64 d.tm, .int .i64 d.th, .slice A6 d.ps.length c6, .slice D6 d.qs.length e6, .int .i64 0] := k5.set_ 7 (.int .i64 0)
  have st7 : (storeVar 3 ⟨w1.heap.size, 7, none⟩ (.int .i64 0)).run Try.prog W5 = .ok () (W5.setCell ⟨w1.heap.size, 7, none⟩ (.int .i64 0)) := store_intS 0 y7 z7
  have L6 := bk_load (P := Try.prog) 8 k6 rfl
  have b7 := (b6.trans (f5.mono b6.size)).setCell (p := ⟨w1.heap.size, 7, none⟩) b6.size (.int .i64 0)
  have r8 : CoR (W5.setCell ⟨w1.heap.size, 7, none⟩ (.int .i64 0)) (W5.setCell ⟨w1.heap.size, 7, none⟩ (.int .i64 0)).heap.size d A6 D6 := by
    rw [World.size_setCell]
    exact (((r6.below f5).keepU (Nat.le_refl _) (fun y hy => Below.heap_setCell _ _ _ _ hy))).more f5.size
  obtain ⟨W9, st9, kk, fb, fh, fs⟩ := bk_store (P := Try.prog) (ty := 26) (cs := #[.int .i8 d.st, .int .i64 d.pid, .int .i64 d.ep, .int .i64 d.tm, .int .i64 d.th, .slice A6 d.ps.length c6, .slice D6 d.qs.length e6, .int .i64 0]) 8 (HK2.out.below b7 (by have := HS.out; omega)) infoCoS rfl rfl (by simp [Value.oneCell'])
  have BB := Lib.hid (fb w.heap.size w (by omega) (HB.out.trans (b7.mono HB.out.size)))
  have KK := Lib.hid kk
  have NA := Lib.hid (And.intro (na.mono (show w.heap.size ≤ W0.heap.size from HB.out.size)) (nd.mono (show w.heap.size ≤ W0.heap.size from HB.out.size)))
  have RR := Lib.hid (r8.keepN na nd (b := w.heap.size + 1) (by have := HS.out; omega) fh fs)
  clear kk fb fh fs r6 b6 na nd lk y7 z7 k5 k6 r8 b7 f5 s5
  go_wp2_with fail
  refine bodyPost_ret (v := .agg #[.int .i8 d.st, .int .i64 d.pid, .int .i64 d.ep, .int .i64 d.tm, .int .i64 d.th, .slice A6 d.ps.length c6, .slice D6 d.qs.length e6, .int .i64 0]) (hyoung_ret { d with ag := 0 } A6 D6 c6 e6 _ (w.heap.size + 1) _ rfl KK.out) rfl ?_
  exact ⟨A6, D6, c6, e6, rfl, RR.out, BB.out, NA.out.1, NA.out.2⟩
end
end Go.Proofs.Ytagclnmchkgpdaa
