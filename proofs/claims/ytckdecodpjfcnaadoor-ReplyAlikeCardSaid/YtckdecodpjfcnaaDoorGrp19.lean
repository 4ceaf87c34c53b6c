/-
  Layer 9: writing, Bytes of replies.
-/
import Derived.Test.YtckdecodpjfcnaaDoorGrp18
import Derived.Deep.RegionHeld3
import Derived.Laws.EntriesVeiled
set_option linter.unusedVariables false
set_option linter.unusedSimpArgs false
namespace Go.Proofs.YtckdecodpjfcnaaDoor
open Go.RowKit

/-- The bytes of the fields behind kind and error. -/
def eBd (q : Rp) : List UInt8 := (cB q.er q.kd).e (q.pid, q.ep, q.off, q.rows)
theorem encRp_eq (q : Rp) : cRp.e q = enc q.kd.toNat ++ (enc q.er.toNat ++ eBd q) := rfl
/-- Which kinds have which way of writing. -/
def WrPost (f : FuncId) (w : World) (e : Ending) (w' : World) : Prop := e = .returned (.func (.func f) #[] #[]) ∧ Below w.heap.size w w'

theorem writing_made (k : Int) (hk : k = 0) (w : World) : Calls Tryd.prog 14 #[.int .i8 k] w (WrPost 27 w) := by
  have HB := Lib.hid (fun o => bal (Below.refl w.heap.size w) o)
  rcases hk with rfl
  all_goals
    go_enter Tryd.func14, Tryd.ntmps14
    go_wp2_with fail
    go_ret
    exact ⟨rfl, HB.out _⟩
theorem writing_begun (k : Int) (hk : k = 1) (w : World) : Calls Tryd.prog 14 #[.int .i8 k] w (WrPost 28 w) := by
  have HB := Lib.hid (fun o => bal (Below.refl w.heap.size w) o)
  rcases hk with rfl
  all_goals
    go_enter Tryd.func14, Tryd.ntmps14
    go_wp2_with fail
    go_ret
    exact ⟨rfl, HB.out _⟩
theorem writing_fetched (k : Int) (hk : k = 5) (w : World) : Calls Tryd.prog 14 #[.int .i8 k] w (WrPost 31 w) := by
  have HB := Lib.hid (fun o => bal (Below.refl w.heap.size w) o)
  rcases hk with rfl
  all_goals
    go_enter Tryd.func14, Tryd.ntmps14
    go_wp2_with fail
    go_ret
    exact ⟨rfl, HB.out _⟩
theorem writing_offset (k : Int) (hk : k = 2 ∨ k = 7) (w : World) : Calls Tryd.prog 14 #[.int .i8 k] w (WrPost 29 w) := by
  have HB := Lib.hid (fun o => bal (Below.refl w.heap.size w) o)
  rcases hk with rfl | rfl
  all_goals
    go_enter Tryd.func14, Tryd.ntmps14
    go_wp2_with fail
    go_ret
    exact ⟨rfl, HB.out _⟩
theorem writing_none (k : Int) (hk : k = 3 ∨ k = 4 ∨ k = 6 ∨ k = 8 ∨ k = 9) (w : World) : Calls Tryd.prog 14 #[.int .i8 k] w (WrPost 30 w) := by
  have HB := Lib.hid (fun o => bal (Below.refl w.heap.size w) o)
  rcases hk with rfl | rfl | rfl | rfl | rfl
  all_goals
    go_enter Tryd.func14, Tryd.ntmps14
    go_wp2_with fail
    go_ret
    exact ⟨rfl, HB.out _⟩

/-- What Bytes leaves. -/
def RbPost (L : List UInt8) (n : Int) (w : World) (e : Ending) (w' : World) : Prop :=
  ∃ A c, e = .returned (.tuple #[.slice A L.length c, .int .i64 n]) ∧ Reads w' w'.heap.size 1 A L.length (cellsB L) ∧ Below w.heap.size w w'
theorem wpok_drew {g K : Nat} {F : Nat → Prop} {l : List UInt8} {w w1 w2 : World} {e : Ending} (h : WpOk g K F l w e w1) (b : Below w1.drew.heap.size w1.drew w2) : WpOk g K F l w e w2 :=
  ⟨h.1, (h.2.1.below (Below.refl _ _).drew).below b, h.2.2.drew.then_below b⟩
theorem wp_start (w1 : World) : WpSt w1.heap.size (w1.heap.size + 1) (fun x => x < w1.heap.size) [] (w1.alloc (.cells #[.slice none 0 0, .nilIface] 43)) :=
  ⟨none, 0, blk_new w1 _ _ rfl, World.ownsRow_nil _ _ _ _, by simp, Nat.lt_succ_self _, fun x hx => (by cases hx), Nat.lt_irrefl _, fun x hx => by simp; omega⟩

set_option maxRecDepth 100000 in
set_option maxHeartbeats 2000000 in
theorem RpBytes_no (q : Rp) (A1 : Option Addr) (c1 : Nat) (w : World) (hr : Reads w w.heap.size 5 A1 q.rows.length (cellsW q.rows)) (hl : q.rows.length ≤ 1000000) (hm : mayB q = false) :
    Calls Tryd.prog 8 #[(.agg #[.int .i8 q.kd, .int .i64 q.er, .int .i64 q.pid, .int .i64 q.ep, .int .i64 q.off, .slice A1 q.rows.length c1])] w (RbPost [] 2 w) := by
  have HB := Lib.hid (bal (Below.refl w.heap.size w) (.cells #[.int .i8 q.kd, .int .i64 q.er, .int .i64 q.pid, .int .i64 q.ep, .int .i64 q.off, .slice A1 q.rows.length c1] 26))
  have MY := Lib.hid (RpMay_any q A1 c1 (w.alloc (.cells #[.int .i8 q.kd, .int .i64 q.er, .int .i64 q.pid, .int .i64 q.ep, .int .i64 q.off, .slice A1 q.rows.length c1] 26)) ((hr.alloc (Nat.le_refl _) _).more (by simp)) hl)
  rw [hm] at MY
  clear hr hm
  go_enter Tryd.func8, Tryd.ntmps8
  go_wp2_with fail
  refine MY.out.mono ?_
  rintro e w1 ⟨rfl, b1⟩
  go_wp2_with fail
  go_ret2
  exact ⟨none, 0, rfl, Reads.none_, btrans HB.out b1⟩

set_option maxRecDepth 100000 in
set_option maxHeartbeats 4000000 in
theorem RpBytes_err (q : Rp) (h0 : ¬ q.er = 0) (A1 : Option Addr) (c1 : Nat) (w : World) (hr : Reads w w.heap.size 5 A1 q.rows.length (cellsW q.rows)) (hl : q.rows.length ≤ 1000000) (hm : mayB q = true) :
    Calls Tryd.prog 8 #[(.agg #[.int .i8 q.kd, .int .i64 q.er, .int .i64 q.pid, .int .i64 q.ep, .int .i64 q.off, .slice A1 q.rows.length c1])] w (RbPost (cRp.e q) 0 w) := by
  have ee : (q.er == 0) = false := eqb_false h0
  have HE := Lib.hid (show eBd q = [] by unfold eBd cB; rw [if_pos h0]; rfl)
  clear h0
  have hm' := (mayB_iff q).1 hm
  have HMAY := Lib.hid hm
  have hm2 : mayB q = (decide (0 ≤ q.kd ∧ q.kd ≤ 9) && (decide (0 ≤ q.er ∧ q.er ≤ 400) && (if q.er = 0 then okB q && bareB (restB q) else bareB q))) := rfl
  rw [hm2, Bool.and_eq_true, Bool.and_eq_true, decide_eq_true_eq, decide_eq_true_eq] at hm
  obtain ⟨hk09, he400, _⟩ := hm
  clear hm2 hm'
  have HB := Lib.hid (bal (Below.refl w.heap.size w) (.cells #[.int .i8 q.kd, .int .i64 q.er, .int .i64 q.pid, .int .i64 q.ep, .int .i64 q.off, .slice A1 q.rows.length c1] 26))
  have MY := Lib.hid (RpMay_any q A1 c1 (w.alloc (.cells #[.int .i8 q.kd, .int .i64 q.er, .int .i64 q.pid, .int .i64 q.ep, .int .i64 q.off, .slice A1 q.rows.length c1] 26)) ((hr.alloc (Nat.le_refl _) _).more (by simp)) hl)
  rw [HMAY.out] at MY
  have K0 := Lib.hid (Blk.new w 26 #[.int .i8 q.kd, .int .i64 q.er, .int .i64 q.pid, .int .i64 q.ep, .int .i64 q.off, .slice A1 q.rows.length c1])
  have cv : IntKind.i64.wrap q.kd = q.kd := IntWalk.i64_in _ (by omega)
  have RD0 := Lib.hid (hr.alloc (Nat.le_refl _) (.cells #[.int .i8 q.kd, .int .i64 q.er, .int .i64 q.pid, .int .i64 q.ep, .int .i64 q.off, .slice A1 q.rows.length c1] 26))
  have hek := enc_len3x q.kd.toNat (by omega)
  have hee := enc_len3x q.er.toNat (by omega)
  clear hr HMAY
  go_enter Tryd.func8, Tryd.ntmps8
  go_wp2_with fail
  refine MY.out.mono ?_
  rintro e w1 ⟨rfl, b1⟩
  have BE1 := Lib.hid (btrans HB.out b1)
  have hs1 := b1.size
  simp only [World.size_alloc] at hs1
  have ka := (K0.out.below b1 (by simp)).alloc (.cells #[.slice none 0 0, .nilIface] 43)
  have RD1 := Lib.hid ((RD0.out.below (b1.mono (by simp))).alloc (by omega) (.cells #[.slice none 0 0, .nilIface] 43))
  have KA := Lib.hid ka
  have N1 := Lib.hid (fun nm => wnum_any _ _ _ _ q.kd nm _ (wp_start w1) (by decide) (by omega))
  have x0 := ka.cell 0
  clear b1 ka
  go_wp2_with fail
  refine (N1.out _).mono ?_
  rintro e w2 h2
  have H2 := Lib.hid h2
  have kb := h2.2.2.blk KA.out (fun hs => hs (by show w.heap.size < w1.heap.size; omega))
  have x1 := kb.cell 1
  have KB := Lib.hid kb
  have N2 := Lib.hid (fun nm => wnum_any _ _ _ _ q.er nm _ h2.2.1 (by rw [List.nil_append]; omega) (by omega))
  obtain ⟨rfl, _⟩ := h2
  clear kb x0
  go_wp2_with fail
  refine (N2.out _).mono ?_
  rintro e w3 h3
  have H3 := Lib.hid (H2.out.trans h3)
  have kc := h3.2.2.blk KB.out (fun hs => hs (by show w.heap.size < w1.heap.size; omega))
  have x0 := kc.cell 0
  have x2 := kc.cell 1
  have x3 := kc.cell 2
  have x4 := kc.cell 3
  have x5 := kc.cell 4
  have x6 := kc.cell 5
  obtain ⟨rfl, _⟩ := h3
  have KC := Lib.hid kc
  clear kc x1
  have hL : ([] ++ enc q.kd.toNat ++ enc q.er.toNat).length ≤ 10 := by simp only [List.length_append, List.length_nil]; omega
  generalize hLL : [] ++ enc q.kd.toNat ++ enc q.er.toNat = L at *
  have HL := Lib.hid hLL
  clear hLL
  generalize hZ : L = LZ at H3
  have HZ := Lib.hid hZ
  clear hZ
  obtain ⟨AZ, cZ, kz, oz, _⟩ := H3.out.2.1
  have OZ := Lib.hid oz
  have a0 := kz.cell 0
  have a1 := kz.cell 1
  have BZ := Lib.hid ((bal BE1.out (.cells #[.slice none 0 0, .nilIface] 43)).trans (H3.out.2.2.below (by simp; omega) (fun x hx => by have : ¬ x < w1.heap.size := hx; omega)))
  clear oz kz
  go_wp2_with fail
  go_ret2
  have e : LZ = cRp.e q := by
    rw [← HZ.out]
    rw [encRp_eq, HE.out, ← HL.out, List.append_nil, List.nil_append]
  rw [← e]
  exact ⟨AZ, cZ, rfl, Reads.of_own OZ.out, BZ.out⟩
set_option maxRecDepth 100000 in
set_option maxHeartbeats 4000000 in
theorem RpBytes_made (q : Rp) (h0 : q.er = 0) (hk : q.kd = 0) (A1 : Option Addr) (c1 : Nat) (w : World) (hr : Reads w w.heap.size 5 A1 q.rows.length (cellsW q.rows)) (hl : q.rows.length ≤ 1000000) (hm : mayB q = true) :
    Calls Tryd.prog 8 #[(.agg #[.int .i8 q.kd, .int .i64 q.er, .int .i64 q.pid, .int .i64 q.ep, .int .i64 q.off, .slice A1 q.rows.length c1])] w (RbPost (cRp.e q) 0 w) := by
  have ee : (q.er == 0) = true := by rw [h0]; rfl
  have hv := ((mayB_iff q).1 hm).2.2.2
  have HKK := Lib.hid hk
  have hcb : cB q.er q.kd = cBp := by unfold cB; rw [h0]; rw [hk]; rfl
  have hv' : cBp.v (q.pid, q.ep, q.off, q.rows) := hcb ▸ hv
  rw [cB_vp] at hv'
  have HEB := Lib.hid (show eBd q = cBp.e (q.pid, q.ep, q.off, q.rows) by unfold eBd; rw [hcb])
  have HVV := Lib.hid hv'
  clear h0 hk hv hv' hcb
  have hm' := (mayB_iff q).1 hm
  have HMAY := Lib.hid hm
  have hm2 : mayB q = (decide (0 ≤ q.kd ∧ q.kd ≤ 9) && (decide (0 ≤ q.er ∧ q.er ≤ 400) && (if q.er = 0 then okB q && bareB (restB q) else bareB q))) := rfl
  rw [hm2, Bool.and_eq_true, Bool.and_eq_true, decide_eq_true_eq, decide_eq_true_eq] at hm
  obtain ⟨hk09, he400, _⟩ := hm
  clear hm2 hm'
  have HB := Lib.hid (bal (Below.refl w.heap.size w) (.cells #[.int .i8 q.kd, .int .i64 q.er, .int .i64 q.pid, .int .i64 q.ep, .int .i64 q.off, .slice A1 q.rows.length c1] 26))
  have MY := Lib.hid (RpMay_any q A1 c1 (w.alloc (.cells #[.int .i8 q.kd, .int .i64 q.er, .int .i64 q.pid, .int .i64 q.ep, .int .i64 q.off, .slice A1 q.rows.length c1] 26)) ((hr.alloc (Nat.le_refl _) _).more (by simp)) hl)
  rw [HMAY.out] at MY
  have K0 := Lib.hid (Blk.new w 26 #[.int .i8 q.kd, .int .i64 q.er, .int .i64 q.pid, .int .i64 q.ep, .int .i64 q.off, .slice A1 q.rows.length c1])
  have cv : IntKind.i64.wrap q.kd = q.kd := IntWalk.i64_in _ (by omega)
  have RD0 := Lib.hid (hr.alloc (Nat.le_refl _) (.cells #[.int .i8 q.kd, .int .i64 q.er, .int .i64 q.pid, .int .i64 q.ep, .int .i64 q.off, .slice A1 q.rows.length c1] 26))
  have hek := enc_len3x q.kd.toNat (by omega)
  have hee := enc_len3x q.er.toNat (by omega)
  clear hr HMAY
  go_enter Tryd.func8, Tryd.ntmps8
  go_wp2_with fail
  refine MY.out.mono ?_
  rintro e w1 ⟨rfl, b1⟩
  have BE1 := Lib.hid (btrans HB.out b1)
  have hs1 := b1.size
  simp only [World.size_alloc] at hs1
  have ka := (K0.out.below b1 (by simp)).alloc (.cells #[.slice none 0 0, .nilIface] 43)
  have RD1 := Lib.hid ((RD0.out.below (b1.mono (by simp))).alloc (by omega) (.cells #[.slice none 0 0, .nilIface] 43))
  have KA := Lib.hid ka
  have N1 := Lib.hid (fun nm => wnum_any _ _ _ _ q.kd nm _ (wp_start w1) (by decide) (by omega))
  have x0 := ka.cell 0
  clear b1 ka
  go_wp2_with fail
  refine (N1.out _).mono ?_
  rintro e w2 h2
  have H2 := Lib.hid h2
  have kb := h2.2.2.blk KA.out (fun hs => hs (by show w.heap.size < w1.heap.size; omega))
  have x1 := kb.cell 1
  have KB := Lib.hid kb
  have N2 := Lib.hid (fun nm => wnum_any _ _ _ _ q.er nm _ h2.2.1 (by rw [List.nil_append]; omega) (by omega))
  obtain ⟨rfl, _⟩ := h2
  clear kb x0
  go_wp2_with fail
  refine (N2.out _).mono ?_
  rintro e w3 h3
  have H3 := Lib.hid (H2.out.trans h3)
  have kc := h3.2.2.blk KB.out (fun hs => hs (by show w.heap.size < w1.heap.size; omega))
  have x0 := kc.cell 0
  have x2 := kc.cell 1
  have x3 := kc.cell 2
  have x4 := kc.cell 3
  have x5 := kc.cell 4
  have x6 := kc.cell 5
  obtain ⟨rfl, _⟩ := h3
  have KC := Lib.hid kc
  clear kc x1
  have hL : ([] ++ enc q.kd.toNat ++ enc q.er.toNat).length ≤ 10 := by simp only [List.length_append, List.length_nil]; omega
  generalize hLL : [] ++ enc q.kd.toNat ++ enc q.er.toNat = L at *
  have HL := Lib.hid hLL
  clear hLL
  have WR := Lib.hid (fun W => writing_made q.kd HKK.out W)
  have FB := Lib.hid (fun (W : World) (h : WpSt w1.heap.size (w1.heap.size + 1) (fun x => x < w1.heap.size) L W) => wmade_any _ _ _ _ q A1 c1 _ h (by omega) HVV.out.1)
  have R3 := Lib.hid (H3.out.2.2.reads RD1.out (by simp; omega) (fun x hx hs => hs (by show x < w1.heap.size; omega)))
  have hs3 : w.heap.size ≤ w3.heap.size := by have := H3.out.2.2.size; simp at this; omega
  go_wp2_with fail
  go_region_held3 (fun W => W.cell? ⟨w.heap.size, 0, none⟩ = some (.int .i8 q.kd) ∧ W.cell? ⟨w.heap.size, 1, none⟩ = some (.int .i64 q.er) ∧ W.cell? ⟨w.heap.size, 2, none⟩ = some (.int .i64 q.pid) ∧ W.cell? ⟨w.heap.size, 3, none⟩ = some (.int .i64 q.ep) ∧ W.cell? ⟨w.heap.size, 4, none⟩ = some (.int .i64 q.off) ∧ W.cell? ⟨w.heap.size, 5, none⟩ = some (.slice A1 q.rows.length c1))
    (first | exact ⟨x0, x2, x3, x4, x5, x6⟩ | (refine ⟨?_, ?_, ?_, ?_, ?_, ?_⟩; exact z0; exact z1; exact z2; exact z3; exact z4; exact z5) | (refine ⟨?_, ?_, ?_, ?_, ?_, ?_⟩; exact y0; exact y1; exact y2; exact y3; exact y4; exact y5))
    (first
      | (go_at_call 14; refine (WR.out _).mono ?_; rintro e w4 ⟨rfl, b4⟩; have h4 := (wpok_drew H3.out b4); have kd := (KC.out.drew).below b4 KC.out.lt; have y0 := kd.cell 0; have y1 := kd.cell 1; have y2 := kd.cell 2; have y3 := kd.cell 3; have y4 := kd.cell 4; have y5 := kd.cell 5)
      | (go_at_call 27; refine (FB.out _ h4.2.1).mono ?_; rintro e w5 h5; have H5 := Lib.hid (h4.trans h5); have ke := h5.2.2.blk kd (fun hs => hs (by show w.heap.size < w1.heap.size; omega)); have z0 := ke.cell 0; have z1 := ke.cell 1; have z2 := ke.cell 2; have z3 := ke.cell 3; have z4 := ke.cell 4; have z5 := ke.cell 5; obtain ⟨rfl, _⟩ := h5))
  all_goals
    generalize hZ : L ++ enc q.pid.toNat = LZ at H5
    have HZ := Lib.hid hZ
    clear hZ
    obtain ⟨AZ, cZ, kz, oz, _⟩ := H5.out.2.1
    have OZ := Lib.hid oz
    have a0 := kz.cell 0
    have a1 := kz.cell 1
    have BZ := Lib.hid ((bal BE1.out (.cells #[.slice none 0 0, .nilIface] 43)).trans (H5.out.2.2.below (by simp; omega) (fun x hx => by have : ¬ x < w1.heap.size := hx; omega)))
    clear oz kz
    go_wp2_with fail
    go_ret2
    have e : LZ = cRp.e q := by
      rw [← HZ.out]
      rw [encRp_eq, HEB.out, ← HL.out]
      show _ = enc q.kd.toNat ++ (enc q.er.toNat ++ enc q.pid.toNat)
      simp only [List.nil_append, List.append_nil, List.append_assoc]
    rw [← e]
    exact ⟨AZ, cZ, rfl, Reads.of_own OZ.out, BZ.out⟩
set_option maxRecDepth 100000 in
set_option maxHeartbeats 4000000 in
theorem RpBytes_begun (q : Rp) (h0 : q.er = 0) (hk : q.kd = 1) (A1 : Option Addr) (c1 : Nat) (w : World) (hr : Reads w w.heap.size 5 A1 q.rows.length (cellsW q.rows)) (hl : q.rows.length ≤ 1000000) (hm : mayB q = true) :
    Calls Tryd.prog 8 #[(.agg #[.int .i8 q.kd, .int .i64 q.er, .int .i64 q.pid, .int .i64 q.ep, .int .i64 q.off, .slice A1 q.rows.length c1])] w (RbPost (cRp.e q) 0 w) := by
  have ee : (q.er == 0) = true := by rw [h0]; rfl
  have hv := ((mayB_iff q).1 hm).2.2.2
  have HKK := Lib.hid hk
  have hcb : cB q.er q.kd = cBpe := by unfold cB; rw [h0]; rw [hk]; rfl
  have hv' : cBpe.v (q.pid, q.ep, q.off, q.rows) := hcb ▸ hv
  rw [cB_vpe] at hv'
  have HEB := Lib.hid (show eBd q = cBpe.e (q.pid, q.ep, q.off, q.rows) by unfold eBd; rw [hcb])
  have HVV := Lib.hid hv'
  clear h0 hk hv hv' hcb
  have hm' := (mayB_iff q).1 hm
  have HMAY := Lib.hid hm
  have hm2 : mayB q = (decide (0 ≤ q.kd ∧ q.kd ≤ 9) && (decide (0 ≤ q.er ∧ q.er ≤ 400) && (if q.er = 0 then okB q && bareB (restB q) else bareB q))) := rfl
  rw [hm2, Bool.and_eq_true, Bool.and_eq_true, decide_eq_true_eq, decide_eq_true_eq] at hm
  obtain ⟨hk09, he400, _⟩ := hm
  clear hm2 hm'
  have HB := Lib.hid (bal (Below.refl w.heap.size w) (.cells #[.int .i8 q.kd, .int .i64 q.er, .int .i64 q.pid, .int .i64 q.ep, .int .i64 q.off, .slice A1 q.rows.length c1] 26))
  have MY := Lib.hid (RpMay_any q A1 c1 (w.alloc (.cells #[.int .i8 q.kd, .int .i64 q.er, .int .i64 q.pid, .int .i64 q.ep, .int .i64 q.off, .slice A1 q.rows.length c1] 26)) ((hr.alloc (Nat.le_refl _) _).more (by simp)) hl)
  rw [HMAY.out] at MY
  have K0 := Lib.hid (Blk.new w 26 #[.int .i8 q.kd, .int .i64 q.er, .int .i64 q.pid, .int .i64 q.ep, .int .i64 q.off, .slice A1 q.rows.length c1])
  have cv : IntKind.i64.wrap q.kd = q.kd := IntWalk.i64_in _ (by omega)
  have RD0 := Lib.hid (hr.alloc (Nat.le_refl _) (.cells #[.int .i8 q.kd, .int .i64 q.er, .int .i64 q.pid, .int .i64 q.ep, .int .i64 q.off, .slice A1 q.rows.length c1] 26))
  have hek := enc_len3x q.kd.toNat (by omega)
  have hee := enc_len3x q.er.toNat (by omega)
  clear hr HMAY
  go_enter Tryd.func8, Tryd.ntmps8
  go_wp2_with fail
  refine MY.out.mono ?_
  rintro e w1 ⟨rfl, b1⟩
  have BE1 := Lib.hid (btrans HB.out b1)
  have hs1 := b1.size
  simp only [World.size_alloc] at hs1
  have ka := (K0.out.below b1 (by simp)).alloc (.cells #[.slice none 0 0, .nilIface] 43)
  have RD1 := Lib.hid ((RD0.out.below (b1.mono (by simp))).alloc (by omega) (.cells #[.slice none 0 0, .nilIface] 43))
  have KA := Lib.hid ka
  have N1 := Lib.hid (fun nm => wnum_any _ _ _ _ q.kd nm _ (wp_start w1) (by decide) (by omega))
  have x0 := ka.cell 0
  clear b1 ka
  go_wp2_with fail
  refine (N1.out _).mono ?_
  rintro e w2 h2
  have H2 := Lib.hid h2
  have kb := h2.2.2.blk KA.out (fun hs => hs (by show w.heap.size < w1.heap.size; omega))
  have x1 := kb.cell 1
  have KB := Lib.hid kb
  have N2 := Lib.hid (fun nm => wnum_any _ _ _ _ q.er nm _ h2.2.1 (by rw [List.nil_append]; omega) (by omega))
  obtain ⟨rfl, _⟩ := h2
  clear kb x0
  go_wp2_with fail
  refine (N2.out _).mono ?_
  rintro e w3 h3
  have H3 := Lib.hid (H2.out.trans h3)
  have kc := h3.2.2.blk KB.out (fun hs => hs (by show w.heap.size < w1.heap.size; omega))
  have x0 := kc.cell 0
  have x2 := kc.cell 1
  have x3 := kc.cell 2
  have x4 := kc.cell 3
  have x5 := kc.cell 4
  have x6 := kc.cell 5
  obtain ⟨rfl, _⟩ := h3
  have KC := Lib.hid kc
  clear kc x1
  have hL : ([] ++ enc q.kd.toNat ++ enc q.er.toNat).length ≤ 10 := by simp only [List.length_append, List.length_nil]; omega
  generalize hLL : [] ++ enc q.kd.toNat ++ enc q.er.toNat = L at *
  have HL := Lib.hid hLL
  clear hLL
  have WR := Lib.hid (fun W => writing_begun q.kd HKK.out W)
  have FB := Lib.hid (fun (W : World) (h : WpSt w1.heap.size (w1.heap.size + 1) (fun x => x < w1.heap.size) L W) => wbegun_any _ _ _ _ q A1 c1 _ h (by omega) HVV.out.1 HVV.out.2.1)
  have R3 := Lib.hid (H3.out.2.2.reads RD1.out (by simp; omega) (fun x hx hs => hs (by show x < w1.heap.size; omega)))
  have hs3 : w.heap.size ≤ w3.heap.size := by have := H3.out.2.2.size; simp at this; omega
  go_wp2_with fail
  go_region_held3 (fun W => W.cell? ⟨w.heap.size, 0, none⟩ = some (.int .i8 q.kd) ∧ W.cell? ⟨w.heap.size, 1, none⟩ = some (.int .i64 q.er) ∧ W.cell? ⟨w.heap.size, 2, none⟩ = some (.int .i64 q.pid) ∧ W.cell? ⟨w.heap.size, 3, none⟩ = some (.int .i64 q.ep) ∧ W.cell? ⟨w.heap.size, 4, none⟩ = some (.int .i64 q.off) ∧ W.cell? ⟨w.heap.size, 5, none⟩ = some (.slice A1 q.rows.length c1))
    (first | exact ⟨x0, x2, x3, x4, x5, x6⟩ | (refine ⟨?_, ?_, ?_, ?_, ?_, ?_⟩; exact z0; exact z1; exact z2; exact z3; exact z4; exact z5) | (refine ⟨?_, ?_, ?_, ?_, ?_, ?_⟩; exact y0; exact y1; exact y2; exact y3; exact y4; exact y5))
    (first
      | (go_at_call 14; refine (WR.out _).mono ?_; rintro e w4 ⟨rfl, b4⟩; have h4 := (wpok_drew H3.out b4); have kd := (KC.out.drew).below b4 KC.out.lt; have y0 := kd.cell 0; have y1 := kd.cell 1; have y2 := kd.cell 2; have y3 := kd.cell 3; have y4 := kd.cell 4; have y5 := kd.cell 5)
      | (go_at_call 28; refine (FB.out _ h4.2.1).mono ?_; rintro e w5 h5; have H5 := Lib.hid (h4.trans h5); have ke := h5.2.2.blk kd (fun hs => hs (by show w.heap.size < w1.heap.size; omega)); have z0 := ke.cell 0; have z1 := ke.cell 1; have z2 := ke.cell 2; have z3 := ke.cell 3; have z4 := ke.cell 4; have z5 := ke.cell 5; obtain ⟨rfl, _⟩ := h5))
  all_goals
    generalize hZ : L ++ (enc q.pid.toNat ++ enc q.ep.toNat) = LZ at H5
    have HZ := Lib.hid hZ
    clear hZ
    obtain ⟨AZ, cZ, kz, oz, _⟩ := H5.out.2.1
    have OZ := Lib.hid oz
    have a0 := kz.cell 0
    have a1 := kz.cell 1
    have BZ := Lib.hid ((bal BE1.out (.cells #[.slice none 0 0, .nilIface] 43)).trans (H5.out.2.2.below (by simp; omega) (fun x hx => by have : ¬ x < w1.heap.size := hx; omega)))
    clear oz kz
    go_wp2_with fail
    go_ret2
    have e : LZ = cRp.e q := by
      rw [← HZ.out]
      rw [encRp_eq, HEB.out, ← HL.out]
      show _ = enc q.kd.toNat ++ (enc q.er.toNat ++ (enc q.pid.toNat ++ enc q.ep.toNat))
      simp only [List.nil_append, List.append_nil, List.append_assoc]
    rw [← e]
    exact ⟨AZ, cZ, rfl, Reads.of_own OZ.out, BZ.out⟩
set_option maxRecDepth 100000 in
set_option maxHeartbeats 4000000 in
theorem RpBytes_fetched (q : Rp) (h0 : q.er = 0) (hk : q.kd = 5) (A1 : Option Addr) (c1 : Nat) (w : World) (hr : Reads w w.heap.size 5 A1 q.rows.length (cellsW q.rows)) (hl : q.rows.length ≤ 1000000) (hm : mayB q = true) :
    Calls Tryd.prog 8 #[(.agg #[.int .i8 q.kd, .int .i64 q.er, .int .i64 q.pid, .int .i64 q.ep, .int .i64 q.off, .slice A1 q.rows.length c1])] w (RbPost (cRp.e q) 0 w) := by
  have ee : (q.er == 0) = true := by rw [h0]; rfl
  have hv := ((mayB_iff q).1 hm).2.2.2
  have HKK := Lib.hid hk
  have hcb : cB q.er q.kd = cBf := by unfold cB; rw [h0]; rw [hk]; rfl
  have hv' : cBf.v (q.pid, q.ep, q.off, q.rows) := hcb ▸ hv
  rw [cB_vf] at hv'
  have HEB := Lib.hid (show eBd q = cBf.e (q.pid, q.ep, q.off, q.rows) by unfold eBd; rw [hcb])
  have HVV := Lib.hid hv'
  clear h0 hk hv hv' hcb
  have hm' := (mayB_iff q).1 hm
  have HMAY := Lib.hid hm
  have hm2 : mayB q = (decide (0 ≤ q.kd ∧ q.kd ≤ 9) && (decide (0 ≤ q.er ∧ q.er ≤ 400) && (if q.er = 0 then okB q && bareB (restB q) else bareB q))) := rfl
  rw [hm2, Bool.and_eq_true, Bool.and_eq_true, decide_eq_true_eq, decide_eq_true_eq] at hm
  obtain ⟨hk09, he400, _⟩ := hm
  clear hm2 hm'
  have HB := Lib.hid (bal (Below.refl w.heap.size w) (.cells #[.int .i8 q.kd, .int .i64 q.er, .int .i64 q.pid, .int .i64 q.ep, .int .i64 q.off, .slice A1 q.rows.length c1] 26))
  have MY := Lib.hid (RpMay_any q A1 c1 (w.alloc (.cells #[.int .i8 q.kd, .int .i64 q.er, .int .i64 q.pid, .int .i64 q.ep, .int .i64 q.off, .slice A1 q.rows.length c1] 26)) ((hr.alloc (Nat.le_refl _) _).more (by simp)) hl)
  rw [HMAY.out] at MY
  have K0 := Lib.hid (Blk.new w 26 #[.int .i8 q.kd, .int .i64 q.er, .int .i64 q.pid, .int .i64 q.ep, .int .i64 q.off, .slice A1 q.rows.length c1])
  have cv : IntKind.i64.wrap q.kd = q.kd := IntWalk.i64_in _ (by omega)
  have RD0 := Lib.hid (hr.alloc (Nat.le_refl _) (.cells #[.int .i8 q.kd, .int .i64 q.er, .int .i64 q.pid, .int .i64 q.ep, .int .i64 q.off, .slice A1 q.rows.length c1] 26))
  have hek := enc_len3x q.kd.toNat (by omega)
  have hee := enc_len3x q.er.toNat (by omega)
  clear hr HMAY
  go_enter Tryd.func8, Tryd.ntmps8
  go_wp2_with fail
  refine MY.out.mono ?_
  rintro e w1 ⟨rfl, b1⟩
  have BE1 := Lib.hid (btrans HB.out b1)
  have hs1 := b1.size
  simp only [World.size_alloc] at hs1
  have ka := (K0.out.below b1 (by simp)).alloc (.cells #[.slice none 0 0, .nilIface] 43)
  have RD1 := Lib.hid ((RD0.out.below (b1.mono (by simp))).alloc (by omega) (.cells #[.slice none 0 0, .nilIface] 43))
  have KA := Lib.hid ka
  have N1 := Lib.hid (fun nm => wnum_any _ _ _ _ q.kd nm _ (wp_start w1) (by decide) (by omega))
  have x0 := ka.cell 0
  clear b1 ka
  go_wp2_with fail
  refine (N1.out _).mono ?_
  rintro e w2 h2
  have H2 := Lib.hid h2
  have kb := h2.2.2.blk KA.out (fun hs => hs (by show w.heap.size < w1.heap.size; omega))
  have x1 := kb.cell 1
  have KB := Lib.hid kb
  have N2 := Lib.hid (fun nm => wnum_any _ _ _ _ q.er nm _ h2.2.1 (by rw [List.nil_append]; omega) (by omega))
  obtain ⟨rfl, _⟩ := h2
  clear kb x0
  go_wp2_with fail
  refine (N2.out _).mono ?_
  rintro e w3 h3
  have H3 := Lib.hid (H2.out.trans h3)
  have kc := h3.2.2.blk KB.out (fun hs => hs (by show w.heap.size < w1.heap.size; omega))
  have x0 := kc.cell 0
  have x2 := kc.cell 1
  have x3 := kc.cell 2
  have x4 := kc.cell 3
  have x5 := kc.cell 4
  have x6 := kc.cell 5
  obtain ⟨rfl, _⟩ := h3
  have KC := Lib.hid kc
  clear kc x1
  have hL : ([] ++ enc q.kd.toNat ++ enc q.er.toNat).length ≤ 10 := by simp only [List.length_append, List.length_nil]; omega
  generalize hLL : [] ++ enc q.kd.toNat ++ enc q.er.toNat = L at *
  have HL := Lib.hid hLL
  clear hLL
  have WR := Lib.hid (fun W => writing_fetched q.kd HKK.out W)
  have FB := Lib.hid (fun (W : World) (h : WpSt w1.heap.size (w1.heap.size + 1) (fun x => x < w1.heap.size) L W) (hrd : Reads W w.heap.size 5 A1 q.rows.length (cellsW q.rows)) (hsz : w.heap.size ≤ W.heap.size) => wfetched_any _ _ w.heap.size _ _ q A1 c1 _ h (by omega) HVV.out.2.2.1 HVV.out.2.2.2.1 (List.all_eq_true.1 HVV.out.2.2.2.2) hrd hsz (fun x hx => by show x < w1.heap.size; omega))
  have R3 := Lib.hid (H3.out.2.2.reads RD1.out (by simp; omega) (fun x hx hs => hs (by show x < w1.heap.size; omega)))
  have hs3 : w.heap.size ≤ w3.heap.size := by have := H3.out.2.2.size; simp at this; omega
  go_wp2_with fail
  go_region_held3 (fun W => W.cell? ⟨w.heap.size, 0, none⟩ = some (.int .i8 q.kd) ∧ W.cell? ⟨w.heap.size, 1, none⟩ = some (.int .i64 q.er) ∧ W.cell? ⟨w.heap.size, 2, none⟩ = some (.int .i64 q.pid) ∧ W.cell? ⟨w.heap.size, 3, none⟩ = some (.int .i64 q.ep) ∧ W.cell? ⟨w.heap.size, 4, none⟩ = some (.int .i64 q.off) ∧ W.cell? ⟨w.heap.size, 5, none⟩ = some (.slice A1 q.rows.length c1))
    (first | exact ⟨x0, x2, x3, x4, x5, x6⟩ | (refine ⟨?_, ?_, ?_, ?_, ?_, ?_⟩; exact z0; exact z1; exact z2; exact z3; exact z4; exact z5) | (refine ⟨?_, ?_, ?_, ?_, ?_, ?_⟩; exact y0; exact y1; exact y2; exact y3; exact y4; exact y5))
    (first
      | (go_at_call 14; refine (WR.out _).mono ?_; rintro e w4 ⟨rfl, b4⟩; have h4 := (wpok_drew H3.out b4); have kd := (KC.out.drew).below b4 KC.out.lt; have y0 := kd.cell 0; have y1 := kd.cell 1; have y2 := kd.cell 2; have y3 := kd.cell 3; have y4 := kd.cell 4; have y5 := kd.cell 5)
      | (go_at_call 31; refine (FB.out _ h4.2.1 (R3.out.drew.below (b4.mono hs3)) (Nat.le_trans hs3 b4.size)).mono ?_; rintro e w5 h5; have H5 := Lib.hid (h4.trans h5); have ke := h5.2.2.blk kd (fun hs => hs (by show w.heap.size < w1.heap.size; omega)); have z0 := ke.cell 0; have z1 := ke.cell 1; have z2 := ke.cell 2; have z3 := ke.cell 3; have z4 := ke.cell 4; have z5 := ke.cell 5; obtain ⟨rfl, _⟩ := h5))
  all_goals
    generalize hZ : L ++ (enc q.off.toNat ++ (enc q.rows.length ++ q.rows.flatMap cRow.e)) = LZ at H5
    have HZ := Lib.hid hZ
    clear hZ
    obtain ⟨AZ, cZ, kz, oz, _⟩ := H5.out.2.1
    have OZ := Lib.hid oz
    have a0 := kz.cell 0
    have a1 := kz.cell 1
    have BZ := Lib.hid ((bal BE1.out (.cells #[.slice none 0 0, .nilIface] 43)).trans (H5.out.2.2.below (by simp; omega) (fun x hx => by have : ¬ x < w1.heap.size := hx; omega)))
    clear oz kz
    go_wp2_with fail
    go_ret2
    have e : LZ = cRp.e q := by
      rw [← HZ.out]
      rw [encRp_eq, HEB.out, ← HL.out]
      show _ = enc q.kd.toNat ++ (enc q.er.toNat ++ (enc q.off.toNat ++ (enc q.rows.length ++ q.rows.flatMap cRow.e)))
      simp only [List.nil_append, List.append_nil, List.append_assoc]
    rw [← e]
    exact ⟨AZ, cZ, rfl, Reads.of_own OZ.out, BZ.out⟩
set_option maxRecDepth 100000 in
set_option maxHeartbeats 4000000 in
theorem RpBytes_offset (q : Rp) (h0 : q.er = 0) (hk : q.kd = 2 ∨ q.kd = 7) (A1 : Option Addr) (c1 : Nat) (w : World) (hr : Reads w w.heap.size 5 A1 q.rows.length (cellsW q.rows)) (hl : q.rows.length ≤ 1000000) (hm : mayB q = true) :
    Calls Tryd.prog 8 #[(.agg #[.int .i8 q.kd, .int .i64 q.er, .int .i64 q.pid, .int .i64 q.ep, .int .i64 q.off, .slice A1 q.rows.length c1])] w (RbPost (cRp.e q) 0 w) := by
  have ee : (q.er == 0) = true := by rw [h0]; rfl
  have hv := ((mayB_iff q).1 hm).2.2.2
  have HKK := Lib.hid hk
  have hcb : cB q.er q.kd = cBo := by unfold cB; rw [h0]; rcases hk with h | h <;> (rw [h]; rfl)
  have hv' : cBo.v (q.pid, q.ep, q.off, q.rows) := hcb ▸ hv
  rw [cB_vo] at hv'
  have HEB := Lib.hid (show eBd q = cBo.e (q.pid, q.ep, q.off, q.rows) by unfold eBd; rw [hcb])
  have HVV := Lib.hid hv'
  clear h0 hk hv hv' hcb
  have hm' := (mayB_iff q).1 hm
  have HMAY := Lib.hid hm
  have hm2 : mayB q = (decide (0 ≤ q.kd ∧ q.kd ≤ 9) && (decide (0 ≤ q.er ∧ q.er ≤ 400) && (if q.er = 0 then okB q && bareB (restB q) else bareB q))) := rfl
  rw [hm2, Bool.and_eq_true, Bool.and_eq_true, decide_eq_true_eq, decide_eq_true_eq] at hm
  obtain ⟨hk09, he400, _⟩ := hm
  clear hm2 hm'
  have HB := Lib.hid (bal (Below.refl w.heap.size w) (.cells #[.int .i8 q.kd, .int .i64 q.er, .int .i64 q.pid, .int .i64 q.ep, .int .i64 q.off, .slice A1 q.rows.length c1] 26))
  have MY := Lib.hid (RpMay_any q A1 c1 (w.alloc (.cells #[.int .i8 q.kd, .int .i64 q.er, .int .i64 q.pid, .int .i64 q.ep, .int .i64 q.off, .slice A1 q.rows.length c1] 26)) ((hr.alloc (Nat.le_refl _) _).more (by simp)) hl)
  rw [HMAY.out] at MY
  have K0 := Lib.hid (Blk.new w 26 #[.int .i8 q.kd, .int .i64 q.er, .int .i64 q.pid, .int .i64 q.ep, .int .i64 q.off, .slice A1 q.rows.length c1])
  have cv : IntKind.i64.wrap q.kd = q.kd := IntWalk.i64_in _ (by omega)
  have RD0 := Lib.hid (hr.alloc (Nat.le_refl _) (.cells #[.int .i8 q.kd, .int .i64 q.er, .int .i64 q.pid, .int .i64 q.ep, .int .i64 q.off, .slice A1 q.rows.length c1] 26))
  have hek := enc_len3x q.kd.toNat (by omega)
  have hee := enc_len3x q.er.toNat (by omega)
  clear hr HMAY
  go_enter Tryd.func8, Tryd.ntmps8
  go_wp2_with fail
  refine MY.out.mono ?_
  rintro e w1 ⟨rfl, b1⟩
  have BE1 := Lib.hid (btrans HB.out b1)
  have hs1 := b1.size
  simp only [World.size_alloc] at hs1
  have ka := (K0.out.below b1 (by simp)).alloc (.cells #[.slice none 0 0, .nilIface] 43)
  have RD1 := Lib.hid ((RD0.out.below (b1.mono (by simp))).alloc (by omega) (.cells #[.slice none 0 0, .nilIface] 43))
  have KA := Lib.hid ka
  have N1 := Lib.hid (fun nm => wnum_any _ _ _ _ q.kd nm _ (wp_start w1) (by decide) (by omega))
  have x0 := ka.cell 0
  clear b1 ka
  go_wp2_with fail
  refine (N1.out _).mono ?_
  rintro e w2 h2
  have H2 := Lib.hid h2
  have kb := h2.2.2.blk KA.out (fun hs => hs (by show w.heap.size < w1.heap.size; omega))
  have x1 := kb.cell 1
  have KB := Lib.hid kb
  have N2 := Lib.hid (fun nm => wnum_any _ _ _ _ q.er nm _ h2.2.1 (by rw [List.nil_append]; omega) (by omega))
  obtain ⟨rfl, _⟩ := h2
  clear kb x0
  go_wp2_with fail
  refine (N2.out _).mono ?_
  rintro e w3 h3
  have H3 := Lib.hid (H2.out.trans h3)
  have kc := h3.2.2.blk KB.out (fun hs => hs (by show w.heap.size < w1.heap.size; omega))
  have x0 := kc.cell 0
  have x2 := kc.cell 1
  have x3 := kc.cell 2
  have x4 := kc.cell 3
  have x5 := kc.cell 4
  have x6 := kc.cell 5
  obtain ⟨rfl, _⟩ := h3
  have KC := Lib.hid kc
  clear kc x1
  have hL : ([] ++ enc q.kd.toNat ++ enc q.er.toNat).length ≤ 10 := by simp only [List.length_append, List.length_nil]; omega
  generalize hLL : [] ++ enc q.kd.toNat ++ enc q.er.toNat = L at *
  have HL := Lib.hid hLL
  clear hLL
  have WR := Lib.hid (fun W => writing_offset q.kd HKK.out W)
  have FB := Lib.hid (fun (W : World) (h : WpSt w1.heap.size (w1.heap.size + 1) (fun x => x < w1.heap.size) L W) => woff_any _ _ _ _ q A1 c1 _ h (by omega) HVV.out.2.2.1)
  have R3 := Lib.hid (H3.out.2.2.reads RD1.out (by simp; omega) (fun x hx hs => hs (by show x < w1.heap.size; omega)))
  have hs3 : w.heap.size ≤ w3.heap.size := by have := H3.out.2.2.size; simp at this; omega
  go_wp2_with fail
  go_region_held3 (fun W => W.cell? ⟨w.heap.size, 0, none⟩ = some (.int .i8 q.kd) ∧ W.cell? ⟨w.heap.size, 1, none⟩ = some (.int .i64 q.er) ∧ W.cell? ⟨w.heap.size, 2, none⟩ = some (.int .i64 q.pid) ∧ W.cell? ⟨w.heap.size, 3, none⟩ = some (.int .i64 q.ep) ∧ W.cell? ⟨w.heap.size, 4, none⟩ = some (.int .i64 q.off) ∧ W.cell? ⟨w.heap.size, 5, none⟩ = some (.slice A1 q.rows.length c1))
    (first | exact ⟨x0, x2, x3, x4, x5, x6⟩ | (refine ⟨?_, ?_, ?_, ?_, ?_, ?_⟩; exact z0; exact z1; exact z2; exact z3; exact z4; exact z5) | (refine ⟨?_, ?_, ?_, ?_, ?_, ?_⟩; exact y0; exact y1; exact y2; exact y3; exact y4; exact y5))
    (first
      | (go_at_call 14; refine (WR.out _).mono ?_; rintro e w4 ⟨rfl, b4⟩; have h4 := (wpok_drew H3.out b4); have kd := (KC.out.drew).below b4 KC.out.lt; have y0 := kd.cell 0; have y1 := kd.cell 1; have y2 := kd.cell 2; have y3 := kd.cell 3; have y4 := kd.cell 4; have y5 := kd.cell 5)
      | (go_at_call 29; refine (FB.out _ h4.2.1).mono ?_; rintro e w5 h5; have H5 := Lib.hid (h4.trans h5); have ke := h5.2.2.blk kd (fun hs => hs (by show w.heap.size < w1.heap.size; omega)); have z0 := ke.cell 0; have z1 := ke.cell 1; have z2 := ke.cell 2; have z3 := ke.cell 3; have z4 := ke.cell 4; have z5 := ke.cell 5; obtain ⟨rfl, _⟩ := h5))
  all_goals
    generalize hZ : L ++ enc (q.off + 1).toNat = LZ at H5
    have HZ := Lib.hid hZ
    clear hZ
    obtain ⟨AZ, cZ, kz, oz, _⟩ := H5.out.2.1
    have OZ := Lib.hid oz
    have a0 := kz.cell 0
    have a1 := kz.cell 1
    have BZ := Lib.hid ((bal BE1.out (.cells #[.slice none 0 0, .nilIface] 43)).trans (H5.out.2.2.below (by simp; omega) (fun x hx => by have : ¬ x < w1.heap.size := hx; omega)))
    clear oz kz
    go_wp2_with fail
    go_ret2
    have e : LZ = cRp.e q := by
      rw [← HZ.out]
      rw [encRp_eq, HEB.out, ← HL.out]
      show _ = enc q.kd.toNat ++ (enc q.er.toNat ++ enc (q.off + 1).toNat)
      simp only [List.nil_append, List.append_nil, List.append_assoc]
    rw [← e]
    exact ⟨AZ, cZ, rfl, Reads.of_own OZ.out, BZ.out⟩
set_option maxRecDepth 100000 in
set_option maxHeartbeats 4000000 in
theorem RpBytes_none (q : Rp) (h0 : q.er = 0) (hk : q.kd = 3 ∨ q.kd = 4 ∨ q.kd = 6 ∨ q.kd = 8 ∨ q.kd = 9) (A1 : Option Addr) (c1 : Nat) (w : World) (hr : Reads w w.heap.size 5 A1 q.rows.length (cellsW q.rows)) (hl : q.rows.length ≤ 1000000) (hm : mayB q = true) :
    Calls Tryd.prog 8 #[(.agg #[.int .i8 q.kd, .int .i64 q.er, .int .i64 q.pid, .int .i64 q.ep, .int .i64 q.off, .slice A1 q.rows.length c1])] w (RbPost (cRp.e q) 0 w) := by
  have ee : (q.er == 0) = true := by rw [h0]; rfl
  have hv := ((mayB_iff q).1 hm).2.2.2
  have HKK := Lib.hid hk
  have hcb : cB q.er q.kd = cB0 := by unfold cB; rw [h0]; rcases hk with h | h | h | h | h <;> (rw [h]; rfl)
  have hv' : cB0.v (q.pid, q.ep, q.off, q.rows) := hcb ▸ hv
  rw [cB_v0] at hv'
  have HEB := Lib.hid (show eBd q = cB0.e (q.pid, q.ep, q.off, q.rows) by unfold eBd; rw [hcb])
  have HVV := Lib.hid hv'
  clear h0 hk hv hv' hcb
  have hm' := (mayB_iff q).1 hm
  have HMAY := Lib.hid hm
  have hm2 : mayB q = (decide (0 ≤ q.kd ∧ q.kd ≤ 9) && (decide (0 ≤ q.er ∧ q.er ≤ 400) && (if q.er = 0 then okB q && bareB (restB q) else bareB q))) := rfl
  rw [hm2, Bool.and_eq_true, Bool.and_eq_true, decide_eq_true_eq, decide_eq_true_eq] at hm
  obtain ⟨hk09, he400, _⟩ := hm
  clear hm2 hm'
  have HB := Lib.hid (bal (Below.refl w.heap.size w) (.cells #[.int .i8 q.kd, .int .i64 q.er, .int .i64 q.pid, .int .i64 q.ep, .int .i64 q.off, .slice A1 q.rows.length c1] 26))
  have MY := Lib.hid (RpMay_any q A1 c1 (w.alloc (.cells #[.int .i8 q.kd, .int .i64 q.er, .int .i64 q.pid, .int .i64 q.ep, .int .i64 q.off, .slice A1 q.rows.length c1] 26)) ((hr.alloc (Nat.le_refl _) _).more (by simp)) hl)
  rw [HMAY.out] at MY
  have K0 := Lib.hid (Blk.new w 26 #[.int .i8 q.kd, .int .i64 q.er, .int .i64 q.pid, .int .i64 q.ep, .int .i64 q.off, .slice A1 q.rows.length c1])
  have cv : IntKind.i64.wrap q.kd = q.kd := IntWalk.i64_in _ (by omega)
  have RD0 := Lib.hid (hr.alloc (Nat.le_refl _) (.cells #[.int .i8 q.kd, .int .i64 q.er, .int .i64 q.pid, .int .i64 q.ep, .int .i64 q.off, .slice A1 q.rows.length c1] 26))
  have hek := enc_len3x q.kd.toNat (by omega)
  have hee := enc_len3x q.er.toNat (by omega)
  clear hr HMAY
  go_enter Tryd.func8, Tryd.ntmps8
  go_wp2_with fail
  refine MY.out.mono ?_
  rintro e w1 ⟨rfl, b1⟩
  have BE1 := Lib.hid (btrans HB.out b1)
  have hs1 := b1.size
  simp only [World.size_alloc] at hs1
  have ka := (K0.out.below b1 (by simp)).alloc (.cells #[.slice none 0 0, .nilIface] 43)
  have RD1 := Lib.hid ((RD0.out.below (b1.mono (by simp))).alloc (by omega) (.cells #[.slice none 0 0, .nilIface] 43))
  have KA := Lib.hid ka
  have N1 := Lib.hid (fun nm => wnum_any _ _ _ _ q.kd nm _ (wp_start w1) (by decide) (by omega))
  have x0 := ka.cell 0
  clear b1 ka
  go_wp2_with fail
  refine (N1.out _).mono ?_
  rintro e w2 h2
  have H2 := Lib.hid h2
  have kb := h2.2.2.blk KA.out (fun hs => hs (by show w.heap.size < w1.heap.size; omega))
  have x1 := kb.cell 1
  have KB := Lib.hid kb
  have N2 := Lib.hid (fun nm => wnum_any _ _ _ _ q.er nm _ h2.2.1 (by rw [List.nil_append]; omega) (by omega))
  obtain ⟨rfl, _⟩ := h2
  clear kb x0
  go_wp2_with fail
  refine (N2.out _).mono ?_
  rintro e w3 h3
  have H3 := Lib.hid (H2.out.trans h3)
  have kc := h3.2.2.blk KB.out (fun hs => hs (by show w.heap.size < w1.heap.size; omega))
  have x0 := kc.cell 0
  have x2 := kc.cell 1
  have x3 := kc.cell 2
  have x4 := kc.cell 3
  have x5 := kc.cell 4
  have x6 := kc.cell 5
  obtain ⟨rfl, _⟩ := h3
  have KC := Lib.hid kc
  clear kc x1
  have hL : ([] ++ enc q.kd.toNat ++ enc q.er.toNat).length ≤ 10 := by simp only [List.length_append, List.length_nil]; omega
  generalize hLL : [] ++ enc q.kd.toNat ++ enc q.er.toNat = L at *
  have HL := Lib.hid hLL
  clear hLL
  have WR := Lib.hid (fun W => writing_none q.kd HKK.out W)
  have FB := Lib.hid (fun (W : World) (h : WpSt w1.heap.size (w1.heap.size + 1) (fun x => x < w1.heap.size) L W) => wnone_any _ _ _ _ q A1 c1 _ h)
  have R3 := Lib.hid (H3.out.2.2.reads RD1.out (by simp; omega) (fun x hx hs => hs (by show x < w1.heap.size; omega)))
  have hs3 : w.heap.size ≤ w3.heap.size := by have := H3.out.2.2.size; simp at this; omega
  go_wp2_with fail
  go_region_held3 (fun W => W.cell? ⟨w.heap.size, 0, none⟩ = some (.int .i8 q.kd) ∧ W.cell? ⟨w.heap.size, 1, none⟩ = some (.int .i64 q.er) ∧ W.cell? ⟨w.heap.size, 2, none⟩ = some (.int .i64 q.pid) ∧ W.cell? ⟨w.heap.size, 3, none⟩ = some (.int .i64 q.ep) ∧ W.cell? ⟨w.heap.size, 4, none⟩ = some (.int .i64 q.off) ∧ W.cell? ⟨w.heap.size, 5, none⟩ = some (.slice A1 q.rows.length c1))
    (first | exact ⟨x0, x2, x3, x4, x5, x6⟩ | (refine ⟨?_, ?_, ?_, ?_, ?_, ?_⟩; exact z0; exact z1; exact z2; exact z3; exact z4; exact z5) | (refine ⟨?_, ?_, ?_, ?_, ?_, ?_⟩; exact y0; exact y1; exact y2; exact y3; exact y4; exact y5))
    (first
      | (go_at_call 14; refine (WR.out _).mono ?_; rintro e w4 ⟨rfl, b4⟩; have h4 := (wpok_drew H3.out b4); have kd := (KC.out.drew).below b4 KC.out.lt; have y0 := kd.cell 0; have y1 := kd.cell 1; have y2 := kd.cell 2; have y3 := kd.cell 3; have y4 := kd.cell 4; have y5 := kd.cell 5)
      | (go_at_call 30; refine (FB.out _ h4.2.1).mono ?_; rintro e w5 h5; have H5 := Lib.hid (h4.trans h5); have ke := h5.2.2.blk kd (fun hs => hs (by show w.heap.size < w1.heap.size; omega)); have z0 := ke.cell 0; have z1 := ke.cell 1; have z2 := ke.cell 2; have z3 := ke.cell 3; have z4 := ke.cell 4; have z5 := ke.cell 5; obtain ⟨rfl, _⟩ := h5))
  all_goals
    generalize hZ : L = LZ at H5
    have HZ := Lib.hid hZ
    clear hZ
    obtain ⟨AZ, cZ, kz, oz, _⟩ := H5.out.2.1
    have OZ := Lib.hid oz
    have a0 := kz.cell 0
    have a1 := kz.cell 1
    have BZ := Lib.hid ((bal BE1.out (.cells #[.slice none 0 0, .nilIface] 43)).trans (H5.out.2.2.below (by simp; omega) (fun x hx => by have : ¬ x < w1.heap.size := hx; omega)))
    clear oz kz
    go_wp2_with fail
    go_ret2
    have e : LZ = cRp.e q := by
      rw [← HZ.out]
      rw [encRp_eq, HEB.out, ← HL.out]
      show _ = enc q.kd.toNat ++ (enc q.er.toNat ++ [])
      simp only [List.nil_append, List.append_nil, List.append_assoc]
    rw [← e]
    exact ⟨AZ, cZ, rfl, Reads.of_own OZ.out, BZ.out⟩
end Go.Proofs.YtckdecodpjfcnaaDoor
