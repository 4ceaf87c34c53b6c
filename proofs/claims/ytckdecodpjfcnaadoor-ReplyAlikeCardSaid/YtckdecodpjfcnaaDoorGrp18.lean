/-
  Layer 9: how the fields of a kind are written.
-/
import Derived.Test.YtckdecodpjfcnaaDoorGrp17
set_option linter.unusedVariables false
set_option linter.unusedSimpArgs false
namespace Go.Proofs.YtckdecodpjfcnaaDoor
open Go.RowKit
attribute [local go_sem ↓] Go.wp_at_zero Go.wp_at_succ

theorem WpOk.alloc {g K : Nat} {F : Nat → Prop} {l : List UInt8} {w w' : World} {e : Ending} {o : Obj} (h : WpOk g K (fun x => F x ∨ x = w.heap.size) l (w.alloc o) e w') : WpOk g K F l w e w' :=
  ⟨h.1, h.2.1.sub (fun x hx => .inl hx), ((Only.refl (fun x => ¬ F x) w).alloc o).step h.2.2 (fun x _ hs hf => hs (.inl hf))⟩
theorem WpOk.trans {g K : Nat} {F : Nat → Prop} {l l' : List UInt8} {w w1 w2 : World} {e e' : Ending} (h : WpOk g K F l w e w1) (k : WpOk g K F l' w1 e' w2) : WpOk g K F l' w e' w2 :=
  ⟨k.1, k.2.1, h.2.2.trans k.2.2⟩

theorem wnone_any (g K : Nat) (F : Nat → Prop) (l : List UInt8) (q : Rp) (A1 : Option Addr) (c1 : Nat) (w : World) (h : WpSt g K F l w) :
    Calls Tryd.prog 30 #[.pointer (some ⟨g, 0, none⟩), (.agg #[.int .i8 q.kd, .int .i64 q.er, .int .i64 q.pid, .int .i64 q.ep, .int .i64 q.off, .slice A1 q.rows.length c1])] w (WpOk g K F l w) := by
  have H := Lib.hid h
  clear h
  go_enter Tryd.func30, Tryd.ntmps30
  go_wp2_with fail
  go_end0
  exact WpOk.alloc ⟨rfl, H.out.add _, Only.refl _ _⟩
set_option maxRecDepth 100000 in
set_option maxHeartbeats 1000000 in
theorem wmade_any (g K : Nat) (F : Nat → Prop) (l : List UInt8) (q : Rp) (A1 : Option Addr) (c1 : Nat) (w : World) (h : WpSt g K F l w) (hl : l.length ≤ 1000) (hr : 1 ≤ q.pid ∧ q.pid ≤ 8) :
    Calls Tryd.prog 27 #[.pointer (some ⟨g, 0, none⟩), (.agg #[.int .i8 q.kd, .int .i64 q.er, .int .i64 q.pid, .int .i64 q.ep, .int .i64 q.off, .slice A1 q.rows.length c1])] w (WpOk g K F (l ++ enc q.pid.toNat) w) := by
  have N1 := Lib.hid (fun nm => wnum_any g K _ l q.pid nm _ (h.add (.cells #[.int .i8 q.kd, .int .i64 q.er, .int .i64 q.pid, .int .i64 q.ep, .int .i64 q.off, .slice A1 q.rows.length c1] 26)) (by omega) (by omega))
  clear h
  go_enter Tryd.func27, Tryd.ntmps27
  go_wp2_with fail
  refine (N1.out _).mono ?_
  rintro e w1 h1
  have H1 := Lib.hid h1
  obtain ⟨rfl, _⟩ := h1
  go_wp2_with fail
  go_end0
  exact H1.out.alloc
set_option maxRecDepth 100000 in
set_option maxHeartbeats 1000000 in
theorem woff_any (g K : Nat) (F : Nat → Prop) (l : List UInt8) (q : Rp) (A1 : Option Addr) (c1 : Nat) (w : World) (h : WpSt g K F l w) (hl : l.length ≤ 1000) (hr : -1 ≤ q.off ∧ q.off ≤ 1048576) :
    Calls Tryd.prog 29 #[.pointer (some ⟨g, 0, none⟩), (.agg #[.int .i8 q.kd, .int .i64 q.er, .int .i64 q.pid, .int .i64 q.ep, .int .i64 q.off, .slice A1 q.rows.length c1])] w (WpOk g K F (l ++ enc (q.off + 1).toNat) w) := by
  have N1 := Lib.hid (fun nm => wnum_any g K _ l (q.off + 1) nm _ (h.add (.cells #[.int .i8 q.kd, .int .i64 q.er, .int .i64 q.pid, .int .i64 q.ep, .int .i64 q.off, .slice A1 q.rows.length c1] 26)) (by omega) (by omega))
  have cw : IntKind.i64.wrap (q.off + 1) = q.off + 1 := IntWalk.i64_in _ (by omega)
  clear h
  go_enter Tryd.func29, Tryd.ntmps29
  go_wp2_with fail
  refine (N1.out _).mono ?_
  rintro e w1 h1
  have H1 := Lib.hid h1
  obtain ⟨rfl, _⟩ := h1
  go_wp2_with fail
  go_end0
  exact H1.out.alloc
set_option maxRecDepth 100000 in
set_option maxHeartbeats 1000000 in
theorem wbegun_any (g K : Nat) (F : Nat → Prop) (l : List UInt8) (q : Rp) (A1 : Option Addr) (c1 : Nat) (w : World) (h : WpSt g K F l w) (hl : l.length ≤ 500) (hr : 1 ≤ q.pid ∧ q.pid ≤ 8) (he : 0 ≤ q.ep ∧ q.ep ≤ 100) :
    Calls Tryd.prog 28 #[.pointer (some ⟨g, 0, none⟩), (.agg #[.int .i8 q.kd, .int .i64 q.er, .int .i64 q.pid, .int .i64 q.ep, .int .i64 q.off, .slice A1 q.rows.length c1])] w (WpOk g K F (l ++ (enc q.pid.toNat ++ enc q.ep.toNat)) w) := by
  have M1 := Lib.hid (wmade_any g K _ l q A1 c1 _ (h.add (.cells #[.int .i8 q.kd, .int .i64 q.er, .int .i64 q.pid, .int .i64 q.ep, .int .i64 q.off, .slice A1 q.rows.length c1] 26)) (by omega) hr)
  have KX := Lib.hid (Blk.new w 26 #[.int .i8 q.kd, .int .i64 q.er, .int .i64 q.pid, .int .i64 q.ep, .int .i64 q.off, .slice A1 q.rows.length c1])
  have hlen : (l ++ enc q.pid.toNat).length ≤ 1000 := by rw [List.length_append]; have := enc_len3x q.pid.toNat (by omega); omega
  clear h
  go_enter Tryd.func28, Tryd.ntmps28
  go_wp2_with fail
  refine M1.out.mono ?_
  rintro e w1 h1
  have H1 := Lib.hid h1
  have N1 := Lib.hid (fun nm => wnum_any g K _ _ q.ep nm _ h1.2.1 (by omega) (by omega))
  have kx := h1.2.2.blk KX.out (fun hs => hs (.inr rfl))
  have x3 := kx.cell 3
  obtain ⟨rfl, _⟩ := h1
  clear kx
  go_wp2_with fail
  refine (N1.out _).mono ?_
  rintro e w2 h2
  have H2 := Lib.hid h2
  obtain ⟨rfl, _⟩ := h2
  go_wp2_with fail
  go_end0
  rw [← List.append_assoc]
  exact (H1.out.trans H2.out).alloc

theorem cRow_e (p : Rw) : cRow.e p = enc (p.1 + 1).toNat ++ (enc p.2.1.toNat ++ (enc p.2.2.1.toNat ++ ((cTxt 1024).e (lb p.2.2.2.1) ++ (cTxt 1024).e (lb p.2.2.2.2)))) := rfl
theorem vis_iff (w : Rw) : vis w = true ↔ (-1 ≤ w.1 ∧ w.1 ≤ 1048576) ∧ (1 ≤ w.2.1 ∧ w.2.1 ≤ 8) ∧ (0 ≤ w.2.2.1 ∧ w.2.2.1 ≤ 1048575) ∧ w.2.2.2.1.size ≤ 16 ∧ w.2.2.2.2.size ≤ 16 := by
  unfold vis
  simp only [Bool.and_eq_true, decide_eq_true_eq]
theorem cRow_len (p : Rw) (h : vis p = true) : (cRow.e p).length ≤ 43 := by
  obtain ⟨h1, h2, h3, h4, h5⟩ := (vis_iff p).1 h
  rw [cRow_e]
  simp only [List.length_append]
  have e1 := enc_len3x (p.1 + 1).toNat (by omega)
  have e2 := enc_len3x p.2.1.toNat (by omega)
  have e3 := enc_len3x p.2.2.1.toNat (by omega)
  have e4 := encT_len p.2.2.2.1 h4
  have e5 := encT_len p.2.2.2.2 h5
  omega
theorem cRows_len : ∀ (l : List Rw), (∀ r ∈ l, vis r = true) → (l.flatMap cRow.e).length ≤ 43 * l.length
  | [], _ => by simp
  | r :: l, h => by
    rw [List.flatMap_cons, List.length_append, List.length_cons]
    have h1 := cRow_len r (h r (List.mem_cons_self ..))
    have h2 := cRows_len l fun x hx => h x (List.mem_cons_of_mem _ hx)
    omega
theorem cRows_take (rs : List Rw) (k : Nat) (r : Rw) (h : rs[k]? = some r) : (rs.take (k + 1)).flatMap cRow.e = (rs.take k).flatMap cRow.e ++ cRow.e r := by
  rw [List.take_add_one, h]; simp
set_option maxRecDepth 100000 in
set_option maxHeartbeats 4000000 in
theorem wfetched_any (g K B : Nat) (F : Nat → Prop) (l : List UInt8) (q : Rp) (A1 : Option Addr) (c1 : Nat) (w : World) (h : WpSt g K F l w) (hl : l.length ≤ 500) (ho : 0 ≤ q.off ∧ q.off ≤ 1048576) (hn : q.rows.length ≤ 64) (hv : ∀ r ∈ q.rows, vis r = true)
    (hrd : Reads w B 5 A1 q.rows.length (cellsW q.rows)) (hB : B ≤ w.heap.size) (hF : ∀ x, x < B → F x) :
    Calls Tryd.prog 31 #[.pointer (some ⟨g, 0, none⟩), (.agg #[.int .i8 q.kd, .int .i64 q.er, .int .i64 q.pid, .int .i64 q.ep, .int .i64 q.off, .slice A1 q.rows.length c1])] w (WpOk g K F (l ++ (enc q.off.toNat ++ (enc q.rows.length ++ q.rows.flatMap cRow.e))) w) := by
  have N1 := Lib.hid (fun nm => wnum_any g K _ l q.off nm _ (h.add (.cells #[.int .i8 q.kd, .int .i64 q.er, .int .i64 q.pid, .int .i64 q.ep, .int .i64 q.off, .slice A1 q.rows.length c1] 26)) (by omega) (by omega))
  have KX := Lib.hid (Blk.new w 26 #[.int .i8 q.kd, .int .i64 q.er, .int .i64 q.pid, .int .i64 q.ep, .int .i64 q.off, .slice A1 q.rows.length c1])
  have RD := Lib.hid (hrd.alloc hB (.cells #[.int .i8 q.kd, .int .i64 q.er, .int .i64 q.pid, .int .i64 q.ep, .int .i64 q.off, .slice A1 q.rows.length c1] 26))
  have HF := Lib.hid hF
  have HV := Lib.hid hv
  have hlen : (l ++ enc q.off.toNat).length ≤ 1000 := by rw [List.length_append]; have := enc_len3x q.off.toNat (by omega); omega
  have hlen2 : (l ++ enc q.off.toNat ++ enc q.rows.length).length ≤ 1000 := by rw [List.length_append, List.length_append]; have := enc_len3x q.off.toNat (by omega); have := enc_len3x q.rows.length (by omega); omega
  clear h hrd hF hv
  go_enter Tryd.func31, Tryd.ntmps31
  go_wp2_with fail
  refine (N1.out _).mono ?_
  rintro e w1 h1
  have H1 := Lib.hid h1
  have N2 := Lib.hid (fun nm => wnum_any g K _ _ (q.rows.length : Int) nm _ h1.2.1 (by omega) (by omega))
  have kx := h1.2.2.blk KX.out (fun hs => hs (.inr rfl))
  have KX1 := Lib.hid kx
  have x5 := kx.cell 5
  obtain ⟨rfl, _⟩ := h1
  clear kx
  go_wp2_with fail
  refine (N2.out _).mono ?_
  rintro e w2 h2
  have H2 := Lib.hid (H1.out.trans h2)
  have kx := h2.2.2.blk KX1.out (fun hs => hs (.inr rfl))
  have y5 := kx.cell 5
  rw [Int.toNat_natCast] at H2
  obtain ⟨rfl, _⟩ := h2
  have R2 := Lib.hid (H2.out.2.2.reads RD.out (by simp; omega) (fun x hx hs => hs (.inl (HF.out x hx))))
  clear kx x5
  go_wp2_with fail
  go_loopg [18] (q.rows.length) (fun mm x wr => ∃ k : Nat, k ≤ q.rows.length ∧ x = .int .i64 k ∧ mm = q.rows.length - k ∧ WpOk g K (fun x => F x ∨ x = w.heap.size) (l ++ enc q.off.toNat ++ enc q.rows.length ++ (q.rows.take k).flatMap cRow.e) w2 (.returned (.tuple #[])) wr)
  case atStart => exact ⟨0, Nat.zero_le _, rfl, rfl, rfl, by simpa using H2.out.2.1, Only.refl _ _⟩
  case round =>
    obtain ⟨k, hk, rfl, hmm, hok⟩ := hrel
    have HM := Lib.hid hmm
    have HOK := Lib.hid hok
    clear hmm hok
    by_cases hlt : k < q.rows.length
    · have d1 : decide ((k : Int) < (q.rows.length : Int)) = true := by simp; omega
      obtain ⟨r, hx⟩ : ∃ z, q.rows[k]? = some z := ⟨_, List.getElem?_eq_getElem hlt⟩
      have hvr := HV.out r (List.mem_of_getElem? hx)
      obtain ⟨v1, v2, v3, v4, v5⟩ := (vis_iff r).1 hvr
      have HTK := Lib.hid (cRows_take q.rows k r hx)
      have hle := cRows_len (q.rows.take k) (fun x hx => HV.out x (List.mem_of_mem_take hx))
      rw [List.length_take] at hle
      have R3 := HOK.out.2.2.reads R2.out (by have := H2.out.2.2.size; simp at this; omega) (fun x hx hs => hs (.inl (HF.out x hx)))
      obtain ⟨b1, o1, rfl, hb1, hc1⟩ := R3.plain5 (by omega)
      obtain ⟨g1, g2, g3, g4, g5⟩ := hc1 k _ hx
      have i1 : (0 : Int) ≤ (k : Int) := by omega
      have i2 : (k : Int) < (q.rows.length : Int) := by omega
      have hsz := HOK.out.2.2.size
      have hsz2 := H2.out.2.2.size
      simp only [World.size_alloc] at hsz2
      have cw : IntKind.i64.wrap (r.1 + 1) = r.1 + 1 := IntWalk.i64_in _ (by omega)
      generalize hL : l ++ enc q.off.toNat ++ enc q.rows.length ++ (q.rows.take k).flatMap cRow.e = L at *
      have hLl : L.length ≤ 4000 := by rw [← hL, List.length_append]; omega
      have HL := Lib.hid hL
      have KY := Lib.hid (Blk.new wr 37 #[.int .i64 r.1, .int .i64 r.2.1, .int .i64 r.2.2.1, .string r.2.2.2.1, .string r.2.2.2.2])
      have M1 := Lib.hid (fun nm => wnum_any g K _ L (r.1 + 1) nm _ (HOK.out.2.1.add (.cells #[.int .i64 r.1, .int .i64 r.2.1, .int .i64 r.2.2.1, .string r.2.2.2.1, .string r.2.2.2.2] 37)) (by omega) (by omega))
      have e1 := enc_len3x (r.1 + 1).toNat (by omega)
      have e2 := enc_len3x r.2.1.toNat (by omega)
      have e3 := enc_len3x r.2.2.1.toNat (by omega)
      have e4 := encT_len r.2.2.2.1 v4
      have e5 := encT_len r.2.2.2.2 v5
      clear hc1 hx hL R3 hle hvr
      go_wp2_with fail
      refine (M1.out _).mono ?_
      rintro e w3 h3
      have H3 := Lib.hid h3
      have M2 := Lib.hid (fun nm => wnum_any g K _ _ r.2.1 nm _ h3.2.1 (by rw [List.length_append]; omega) (by omega))
      have ky := h3.2.2.blk KY.out (fun hs => hs (.inr rfl))
      have KY3 := Lib.hid ky
      have z1 := ky.cell 1
      obtain ⟨rfl, _⟩ := h3
      clear ky g1 g2 g3 g4 g5
      go_wp2_with fail
      refine (M2.out _).mono ?_
      rintro e w4 h4
      have H4 := Lib.hid (H3.out.trans h4)
      have M3 := Lib.hid (fun nm => wnum_any g K _ _ r.2.2.1 nm _ h4.2.1 (by simp only [List.length_append]; omega) (by omega))
      have ky := h4.2.2.blk KY3.out (fun hs => hs (.inr rfl))
      have KY4 := Lib.hid ky
      have z2 := ky.cell 2
      obtain ⟨rfl, _⟩ := h4
      clear ky z1
      go_wp2_with fail
      refine (M3.out _).mono ?_
      rintro e w5 h5
      have H5 := Lib.hid (H4.out.trans h5)
      have M4 := Lib.hid (fun nm => wtxt_any g K _ _ r.2.2.2.1 nm _ h5.2.1 (by simp only [List.length_append]; omega) v4)
      have ky := h5.2.2.blk KY4.out (fun hs => hs (.inr rfl))
      have KY5 := Lib.hid ky
      have z3 := ky.cell 3
      obtain ⟨rfl, _⟩ := h5
      clear ky z2
      go_wp2_with fail
      refine (M4.out _).mono ?_
      rintro e w6 h6
      have H6 := Lib.hid (H5.out.trans h6)
      have M5 := Lib.hid (fun nm => wtxt_any g K _ _ r.2.2.2.2 nm _ h6.2.1 (by simp only [List.length_append]; omega) v5)
      have ky := h6.2.2.blk KY5.out (fun hs => hs (.inr rfl))
      have z4 := ky.cell 4
      obtain ⟨rfl, _⟩ := h6
      clear ky z3
      go_wp2_with fail
      refine (M5.out _).mono ?_
      rintro e w7 h7
      have H7 := Lib.hid ((H6.out.trans h7).alloc)
      obtain ⟨rfl, _⟩ := h7
      clear z4
      go_wp2_with fail
      go_roundg (gk - 1)
      case measure => have := HM.out; omega
      case rel =>
        refine ⟨k + 1, by omega, by go_num, by have := HM.out; omega, ?_⟩
        have := HOK.out.trans H7.out
        rw [HTK.out, cRow_e, ← List.append_assoc, HL.out]
        simpa only [List.append_assoc] using this
    · obtain rfl : k = q.rows.length := by omega
      have d1 : decide ((q.rows.length : Int) < (q.rows.length : Int)) = false := by simp
      go_wp2_with fail
      go_end0
      have := (H2.out.trans HOK.out).alloc
      rw [List.take_length] at this
      simpa only [List.append_assoc] using this
end Go.Proofs.YtckdecodpjfcnaaDoor
