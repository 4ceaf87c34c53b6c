/-
  Layer 7: how a producer's state is written.
  Layer 7: how the fields of a kind are written.
  Layer 7: how data, copies and states are written.
-/
import Derived.Test.YtckdecodpjfcnaaGreatDoorGrp23
set_option linter.unusedVariables false
set_option linter.unusedSimpArgs false
namespace Go.Proofs.YtckdecodpjfcnaaGreatDoor
open Go.RowKit
attribute [local go_sem ↓] Go.wp_at_zero Go.wp_at_succ

theorem ints_new (w : World) (ns : List Int) (t : TypeId) (g : Nat) (hg : w.heap.size = g) : ∀ j z, ns[j]? = some z → (w.alloc (.cells (ns.map (Value.int .i64)).toArray t)).cell? ⟨g, j, none⟩ = some (.int .i64 z) := fun j z hz => by
  rw [(blk_new w t (ns.map (Value.int .i64)).toArray hg).cell j]
  simp [hz]
theorem weflag {g K : Nat} {F : Nat → Prop} {l : List UInt8} {w : World} (y : Bool) (h : WeSt g K F l w) (hl : l.length ≤ 20000) :
    ∃ A c, w.cell? ⟨g, 0, none⟩ = some (.slice A l.length c) ∧ w.frozen? ⟨g, 0, none⟩ = false ∧ Blk w g 63 #[.slice A l.length c, .int .i64 0] ∧ Calls Tryz.prog 90 #[.slice A l.length c, .bool y] w.drew (OwnVal (l ++ encY y) w.drew) := by
  obtain ⟨A, c, k1, o1, h3, h5, h6, h7⟩ := h
  exact ⟨A, c, k1.cell 0, k1.frozen 0, k1, Flag_any A l c y w.drew ((Reads.of_own o1.drew).more (Nat.le_refl _)) (by omega)⟩
set_option maxRecDepth 100000 in
set_option maxHeartbeats 2000000 in
theorem wecut_any (g K : Nat) (F : Nat → Prop) (l : List UInt8) (x : En) (A1 D1 : Option Addr) (c1 e1 : Nat) (w : World) (h : WeSt g K F l w) (hl : l.length ≤ 1000) (hr : 0 ≤ x.off ∧ x.off ≤ 1048576) :
    Calls Tryz.prog 63 #[.pointer (some ⟨g, 0, none⟩), (.agg #[.int .i8 x.kd, .int .i64 x.b.pid, .int .i64 x.b.ep, .int .i64 x.b.seq, .bool x.b.txn, .slice A1 x.b.rs.length c1, .bool x.yes, .int .i64 x.nx, .int .i64 x.off, .int .i64 x.row.1, .int .i64 x.row.2.1, .int .i64 x.row.2.2.1, .string x.row.2.2.2.1, .string x.row.2.2.2.2, .int .i64 x.prod.pid, .int .i64 x.prod.ep, .int .i64 x.prod.nx, .slice D1 x.prod.seen.length e1])] w (WeOk g K F (l ++ enc x.off.toNat) w) := by
  have NM := Lib.hid (wenums_any g K _ l (w.heap.size + 1) [x.off] 1 _ ((h.add (.cells #[.int .i8 x.kd, .int .i64 x.b.pid, .int .i64 x.b.ep, .int .i64 x.b.seq, .bool x.b.txn, .slice A1 x.b.rs.length c1, .bool x.yes, .int .i64 x.nx, .int .i64 x.off, .int .i64 x.row.1, .int .i64 x.row.2.1, .int .i64 x.row.2.2.1, .string x.row.2.2.2.1, .string x.row.2.2.2.2, .int .i64 x.prod.pid, .int .i64 x.prod.ep, .int .i64 x.prod.nx, .slice D1 x.prod.seen.length e1] 32)).add (.cells #[.int .i64 x.off] 3)) (.inr (by simp)) (ints_new (w.alloc (.cells #[.int .i8 x.kd, .int .i64 x.b.pid, .int .i64 x.b.ep, .int .i64 x.b.seq, .bool x.b.txn, .slice A1 x.b.rs.length c1, .bool x.yes, .int .i64 x.nx, .int .i64 x.off, .int .i64 x.row.1, .int .i64 x.row.2.1, .int .i64 x.row.2.2.1, .string x.row.2.2.2.1, .string x.row.2.2.2.2, .int .i64 x.prod.pid, .int .i64 x.prod.ep, .int .i64 x.prod.nx, .slice D1 x.prod.seen.length e1] 32)) [x.off] 3 _ (by simp)) (by simp only [List.mem_cons, List.not_mem_nil, or_false]; rintro z hz; omega) (by simp; omega))
  clear h hr
  go_enter Tryz.func63, Tryz.ntmps63
  go_wp2_with fail
  refine NM.out.mono ?_
  rintro e w1 h1
  have H1 := Lib.hid h1
  obtain ⟨rfl, _⟩ := h1
  go_wp2_with fail
  go_end0
  have h2 := H1.out.alloc.alloc
  simpa using h2
set_option maxRecDepth 100000 in
set_option maxHeartbeats 2000000 in
theorem wedrop_any (g K : Nat) (F : Nat → Prop) (l : List UInt8) (x : En) (A1 D1 : Option Addr) (c1 e1 : Nat) (w : World) (h : WeSt g K F l w) (hl : l.length ≤ 1000) (h1 : 0 ≤ x.b.pid ∧ x.b.pid ≤ 8) (h2 : 0 ≤ x.b.ep ∧ x.b.ep ≤ 100) (h3 : 0 ≤ x.nx ∧ x.nx ≤ 1048576) :
    Calls Tryz.prog 65 #[.pointer (some ⟨g, 0, none⟩), (.agg #[.int .i8 x.kd, .int .i64 x.b.pid, .int .i64 x.b.ep, .int .i64 x.b.seq, .bool x.b.txn, .slice A1 x.b.rs.length c1, .bool x.yes, .int .i64 x.nx, .int .i64 x.off, .int .i64 x.row.1, .int .i64 x.row.2.1, .int .i64 x.row.2.2.1, .string x.row.2.2.2.1, .string x.row.2.2.2.2, .int .i64 x.prod.pid, .int .i64 x.prod.ep, .int .i64 x.prod.nx, .slice D1 x.prod.seen.length e1])] w (WeOk g K F (l ++ (enc x.b.pid.toNat ++ (enc x.b.ep.toNat ++ enc x.nx.toNat))) w) := by
  have NM := Lib.hid (wenums_any g K _ l (w.heap.size + 1) [x.b.pid, x.b.ep, x.nx] 3 _ ((h.add (.cells #[.int .i8 x.kd, .int .i64 x.b.pid, .int .i64 x.b.ep, .int .i64 x.b.seq, .bool x.b.txn, .slice A1 x.b.rs.length c1, .bool x.yes, .int .i64 x.nx, .int .i64 x.off, .int .i64 x.row.1, .int .i64 x.row.2.1, .int .i64 x.row.2.2.1, .string x.row.2.2.2.1, .string x.row.2.2.2.2, .int .i64 x.prod.pid, .int .i64 x.prod.ep, .int .i64 x.prod.nx, .slice D1 x.prod.seen.length e1] 32)).add (.cells #[.int .i64 x.b.pid, .int .i64 x.b.ep, .int .i64 x.nx] 3)) (.inr (by simp)) (ints_new (w.alloc (.cells #[.int .i8 x.kd, .int .i64 x.b.pid, .int .i64 x.b.ep, .int .i64 x.b.seq, .bool x.b.txn, .slice A1 x.b.rs.length c1, .bool x.yes, .int .i64 x.nx, .int .i64 x.off, .int .i64 x.row.1, .int .i64 x.row.2.1, .int .i64 x.row.2.2.1, .string x.row.2.2.2.1, .string x.row.2.2.2.2, .int .i64 x.prod.pid, .int .i64 x.prod.ep, .int .i64 x.prod.nx, .slice D1 x.prod.seen.length e1] 32)) [x.b.pid, x.b.ep, x.nx] 3 _ (by simp)) (by simp only [List.mem_cons, List.not_mem_nil, or_false]; rintro z hz; omega) (by simp; omega))
  clear h h1 h2 h3
  go_enter Tryz.func65, Tryz.ntmps65
  go_wp2_with fail
  refine NM.out.mono ?_
  rintro e w1 h1
  have H1 := Lib.hid h1
  obtain ⟨rfl, _⟩ := h1
  go_wp2_with fail
  go_end0
  have h2 := H1.out.alloc.alloc
  simpa using h2
set_option maxRecDepth 100000 in
set_option maxHeartbeats 2000000 in
theorem wemark_any (g K : Nat) (F : Nat → Prop) (l : List UInt8) (x : En) (A1 D1 : Option Addr) (c1 e1 : Nat) (w : World) (h : WeSt g K F l w) (hl : l.length ≤ 1000) (h1 : 0 ≤ x.b.pid ∧ x.b.pid ≤ 8) (h2 : 0 ≤ x.b.ep ∧ x.b.ep ≤ 100) :
    Calls Tryz.prog 62 #[.pointer (some ⟨g, 0, none⟩), (.agg #[.int .i8 x.kd, .int .i64 x.b.pid, .int .i64 x.b.ep, .int .i64 x.b.seq, .bool x.b.txn, .slice A1 x.b.rs.length c1, .bool x.yes, .int .i64 x.nx, .int .i64 x.off, .int .i64 x.row.1, .int .i64 x.row.2.1, .int .i64 x.row.2.2.1, .string x.row.2.2.2.1, .string x.row.2.2.2.2, .int .i64 x.prod.pid, .int .i64 x.prod.ep, .int .i64 x.prod.nx, .slice D1 x.prod.seen.length e1])] w (WeOk g K F (l ++ (enc x.b.pid.toNat ++ (enc x.b.ep.toNat ++ encY x.yes))) w) := by
  have NM := Lib.hid (wenums_any g K _ l (w.heap.size + 1) [x.b.pid, x.b.ep] 2 _ ((h.add (.cells #[.int .i8 x.kd, .int .i64 x.b.pid, .int .i64 x.b.ep, .int .i64 x.b.seq, .bool x.b.txn, .slice A1 x.b.rs.length c1, .bool x.yes, .int .i64 x.nx, .int .i64 x.off, .int .i64 x.row.1, .int .i64 x.row.2.1, .int .i64 x.row.2.2.1, .string x.row.2.2.2.1, .string x.row.2.2.2.2, .int .i64 x.prod.pid, .int .i64 x.prod.ep, .int .i64 x.prod.nx, .slice D1 x.prod.seen.length e1] 32)).add (.cells #[.int .i64 x.b.pid, .int .i64 x.b.ep] 3)) (.inr (by simp)) (ints_new (w.alloc (.cells #[.int .i8 x.kd, .int .i64 x.b.pid, .int .i64 x.b.ep, .int .i64 x.b.seq, .bool x.b.txn, .slice A1 x.b.rs.length c1, .bool x.yes, .int .i64 x.nx, .int .i64 x.off, .int .i64 x.row.1, .int .i64 x.row.2.1, .int .i64 x.row.2.2.1, .string x.row.2.2.2.1, .string x.row.2.2.2.2, .int .i64 x.prod.pid, .int .i64 x.prod.ep, .int .i64 x.prod.nx, .slice D1 x.prod.seen.length e1] 32)) [x.b.pid, x.b.ep] 3 _ (by simp)) (by simp only [List.mem_cons, List.not_mem_nil, or_false]; rintro z hz; omega) (by simp; omega))
  have KX := Lib.hid ((Blk.new w 32 #[.int .i8 x.kd, .int .i64 x.b.pid, .int .i64 x.b.ep, .int .i64 x.b.seq, .bool x.b.txn, .slice A1 x.b.rs.length c1, .bool x.yes, .int .i64 x.nx, .int .i64 x.off, .int .i64 x.row.1, .int .i64 x.row.2.1, .int .i64 x.row.2.2.1, .string x.row.2.2.2.1, .string x.row.2.2.2.2, .int .i64 x.prod.pid, .int .i64 x.prod.ep, .int .i64 x.prod.nx, .slice D1 x.prod.seen.length e1]).alloc (.cells #[.int .i64 x.b.pid, .int .i64 x.b.ep] 3))
  have hlen : (l ++ [x.b.pid, x.b.ep].flatMap fun z => enc z.toNat).length ≤ 2000 := by
    have e1 := enc_len3x x.b.pid.toNat (by omega)
    have e2 := enc_len3x x.b.ep.toNat (by omega)
    simp
    omega
  clear h h1 h2
  go_enter Tryz.func62, Tryz.ntmps62
  go_wp2_with fail
  refine NM.out.mono ?_
  rintro e w1 h1
  have H1 := Lib.hid h1
  have kx := h1.2.2.blk KX.out (fun hs => hs (.inl (.inr rfl)))
  have x6 := kx.cell 6
  obtain ⟨A, c, y0, f0, kw, FL⟩ := weflag x.yes h1.2.1 (by omega)
  have FLH := Lib.hid FL
  have KW := Lib.hid kw
  obtain ⟨rfl, _⟩ := h1
  obtain ⟨L, hL⟩ : ∃ L, L = l ++ [x.b.pid, x.b.ep].flatMap fun z => enc z.toNat := ⟨_, rfl⟩
  rw [← hL] at H1 FLH KW y0
  obtain ⟨LY, hLY⟩ : ∃ LY, LY = L ++ encY x.yes := ⟨_, rfl⟩
  rw [← hLY] at FLH
  have HL := Lib.hid hL
  have HLY := Lib.hid hLY
  clear kx FL kw hL hLY hlen
  go_wp2_with fail
  go_region_with (go_at_call 90; refine FLH.out.mono ?_; rintro e w2 ⟨A9, c9, rfl, o1, hc1, b1⟩; have k2 := KW.out.drew.below b1 KW.out.lt; have u0 := k2.cell 0; have v0 := k2.frozen 0)
  all_goals
    go_wp2_with fail
    go_end0
    obtain ⟨s1, s2⟩ := (H1.out.2.1.below (Below.refl _ _).drew).put1 o1 b1
    have h2 : WeOk g K (fun x_1 => (F x_1 ∨ x_1 = w.heap.size) ∨ x_1 = (w.alloc (.cells #[.int .i8 x.kd, .int .i64 x.b.pid, .int .i64 x.b.ep, .int .i64 x.b.seq, .bool x.b.txn, .slice A1 x.b.rs.length c1, .bool x.yes, .int .i64 x.nx, .int .i64 x.off, .int .i64 x.row.1, .int .i64 x.row.2.1, .int .i64 x.row.2.2.1, .string x.row.2.2.2.1, .string x.row.2.2.2.2, .int .i64 x.prod.pid, .int .i64 x.prod.ep, .int .i64 x.prod.nx, .slice D1 x.prod.seen.length e1] 32)).heap.size) LY ((w.alloc (.cells #[.int .i8 x.kd, .int .i64 x.b.pid, .int .i64 x.b.ep, .int .i64 x.b.seq, .bool x.b.txn, .slice A1 x.b.rs.length c1, .bool x.yes, .int .i64 x.nx, .int .i64 x.off, .int .i64 x.row.1, .int .i64 x.row.2.1, .int .i64 x.row.2.2.1, .string x.row.2.2.2.1, .string x.row.2.2.2.2, .int .i64 x.prod.pid, .int .i64 x.prod.ep, .int .i64 x.prod.nx, .slice D1 x.prod.seen.length e1] 32)).alloc (.cells #[.int .i64 x.b.pid, .int .i64 x.b.ep] 3)) (.returned (.tuple #[])) (w2.setCell ⟨g, 0, none⟩ (.slice A9 LY.length c9)) := ⟨rfl, s1, H1.out.2.2.drew.trans s2⟩
    have h3 := h2.alloc.alloc
    rw [HLY.out, HL.out] at h3 ⊢
    simpa using h3
set_option maxRecDepth 100000 in
set_option maxHeartbeats 2000000 in
theorem werow_any (g K : Nat) (F : Nat → Prop) (l : List UInt8) (x : En) (A1 D1 : Option Addr) (c1 e1 : Nat) (w : World) (h : WeSt g K F l w) (hl : l.length ≤ 1000) (h1 : 0 ≤ x.row.2.1 ∧ x.row.2.1 ≤ 8) (h2 : 0 ≤ x.row.2.2.1 ∧ x.row.2.2.1 ≤ 1048576) (h3 : x.row.2.2.2.1.size ≤ 16) (h4 : x.row.2.2.2.2.size ≤ 16) :
    Calls Tryz.prog 66 #[.pointer (some ⟨g, 0, none⟩), (.agg #[.int .i8 x.kd, .int .i64 x.b.pid, .int .i64 x.b.ep, .int .i64 x.b.seq, .bool x.b.txn, .slice A1 x.b.rs.length c1, .bool x.yes, .int .i64 x.nx, .int .i64 x.off, .int .i64 x.row.1, .int .i64 x.row.2.1, .int .i64 x.row.2.2.1, .string x.row.2.2.2.1, .string x.row.2.2.2.2, .int .i64 x.prod.pid, .int .i64 x.prod.ep, .int .i64 x.prod.nx, .slice D1 x.prod.seen.length e1])] w (WeOk g K F (l ++ (enc x.row.2.1.toNat ++ (enc x.row.2.2.1.toNat ++ ((cTxt 1024).e (lb x.row.2.2.2.1) ++ (cTxt 1024).e (lb x.row.2.2.2.2))))) w) := by
  have NM := Lib.hid (wenums_any g K _ l (w.heap.size + 1) [x.row.2.1, x.row.2.2.1] 2 _ ((h.add (.cells #[.int .i8 x.kd, .int .i64 x.b.pid, .int .i64 x.b.ep, .int .i64 x.b.seq, .bool x.b.txn, .slice A1 x.b.rs.length c1, .bool x.yes, .int .i64 x.nx, .int .i64 x.off, .int .i64 x.row.1, .int .i64 x.row.2.1, .int .i64 x.row.2.2.1, .string x.row.2.2.2.1, .string x.row.2.2.2.2, .int .i64 x.prod.pid, .int .i64 x.prod.ep, .int .i64 x.prod.nx, .slice D1 x.prod.seen.length e1] 32)).add (.cells #[.int .i64 x.row.2.1, .int .i64 x.row.2.2.1] 3)) (.inr (by simp)) (ints_new (w.alloc (.cells #[.int .i8 x.kd, .int .i64 x.b.pid, .int .i64 x.b.ep, .int .i64 x.b.seq, .bool x.b.txn, .slice A1 x.b.rs.length c1, .bool x.yes, .int .i64 x.nx, .int .i64 x.off, .int .i64 x.row.1, .int .i64 x.row.2.1, .int .i64 x.row.2.2.1, .string x.row.2.2.2.1, .string x.row.2.2.2.2, .int .i64 x.prod.pid, .int .i64 x.prod.ep, .int .i64 x.prod.nx, .slice D1 x.prod.seen.length e1] 32)) [x.row.2.1, x.row.2.2.1] 3 _ (by simp)) (by simp only [List.mem_cons, List.not_mem_nil, or_false]; rintro z hz; omega) (by simp; omega))
  have KX := Lib.hid ((Blk.new w 32 #[.int .i8 x.kd, .int .i64 x.b.pid, .int .i64 x.b.ep, .int .i64 x.b.seq, .bool x.b.txn, .slice A1 x.b.rs.length c1, .bool x.yes, .int .i64 x.nx, .int .i64 x.off, .int .i64 x.row.1, .int .i64 x.row.2.1, .int .i64 x.row.2.2.1, .string x.row.2.2.2.1, .string x.row.2.2.2.2, .int .i64 x.prod.pid, .int .i64 x.prod.ep, .int .i64 x.prod.nx, .slice D1 x.prod.seen.length e1]).alloc (.cells #[.int .i64 x.row.2.1, .int .i64 x.row.2.2.1] 3))
  have hlen : (l ++ [x.row.2.1, x.row.2.2.1].flatMap fun z => enc z.toNat).length ≤ 2000 := by
    have e1 := enc_len3x x.row.2.1.toNat (by omega)
    have e2 := enc_len3x x.row.2.2.1.toNat (by omega)
    simp
    omega
  have hlen2 := (encT_len x.row.2.2.2.1 h3).1
  have H4 := Lib.hid h4
  clear h h1 h2 h4
  go_enter Tryz.func66, Tryz.ntmps66
  go_wp2_with fail
  refine NM.out.mono ?_
  rintro e w1 h1
  have H1 := Lib.hid h1
  have kx := h1.2.2.blk KX.out (fun hs => hs (.inl (.inr rfl)))
  have x12 := kx.cell 12
  have T1 := Lib.hid (wetext_any g K _ _ x.row.2.2.2.1 w1 h1.2.1 (by omega) h3)
  have KX1 := Lib.hid kx
  obtain ⟨rfl, _⟩ := h1
  clear kx h3
  go_wp2_with fail
  refine T1.out.mono ?_
  rintro e w2 h2
  have H2 := Lib.hid (H1.out.trans h2)
  have kx := h2.2.2.blk KX1.out (fun hs => hs (.inl (.inr rfl)))
  have x13 := kx.cell 13
  have T2 := Lib.hid (wetext_any g K _ _ x.row.2.2.2.2 w2 h2.2.1 (by rw [List.length_append]; omega) H4.out)
  obtain ⟨rfl, _⟩ := h2
  clear kx x12
  go_wp2_with fail
  refine T2.out.mono ?_
  rintro e w3 h3
  have H3 := Lib.hid (H2.out.trans h3)
  obtain ⟨rfl, _⟩ := h3
  clear x13
  go_wp2_with fail
  go_end0
  have h3 := H3.out.alloc.alloc
  simpa using h3
end Go.Proofs.YtckdecodpjfcnaaGreatDoor
namespace Go.Proofs.YtckdecodpjfcnaaGreatDoor
open Go.RowKit Go.Lib
attribute [local go_sem ↓] Go.wp_at_zero Go.wp_at_succ

/-- A string appended to a row that is full: a new row. -/
theorem run_append_full {P : Program} (w : World) (base : Nat) (t u ty e : TypeId) (i : TypeInfo) (ht : P.underlying t = some (.slice e)) (hu : P.underlying u = some .string) (hi : P.info? e = some i) (hz : i.zero = some (.int .u8 0))
    (hsize : i.size = 1) (hby : i.bytes = 1) (g n : Nat) (xs : List Value) (hown : w.ownsRow base e 1 (.slice (some ⟨g, 0, none⟩) n n) n xs) (s : ByteArray) (hs : 0 < s.size)
    (h63 : n + s.size ≤ 100000) (hbase : base ≤ w.heap.size) :
    ∃ cap w', (Builtin.append_ #[t, u] ty #[.slice (some ⟨g, 0, none⟩) n n, .string s]).run P w = .ok (.slice (some ⟨w.heap.size, 0, none⟩) (n + s.size) cap) w' ∧ w'.ownsRow w.heap.size e 1 (.slice (some ⟨w.heap.size, 0, none⟩) (n + s.size) cap) (n + s.size) (xs ++ strCells s) ∧ Below w.heap.size w w' := by
  obtain ⟨v', w', hr, h2, h3, h4⟩ := run_append_own_string (P := P) w base t u ty e i ht hu hi hz hsize hby _ n xs hown s (by unfold maxLen; omega) (by omega) hbase
  have hxl : xs.length = n := by simpa using hown.1
  have hr2 := run_append_grow_string (P := P) w t u ty e i (.int .u8 0) ht hu hi hz ⟨g, 0, none⟩ n n xs (by rw [hsize]; simpa using hxl) (hown.cells (g := g) rfl) s (by omega) (by omega) (by rw [hby]; exact growslice_fits (by omega) (by omega))
  rw [hr] at hr2
  injection hr2 with e1 e2
  subst e1
  refine ⟨_, w', hr, ?_, ?_⟩
  · rcases h2.2 with ⟨hv, _⟩ | ⟨g', cap', cur, hv, _, k1, k2, k3, k4, k5⟩
    · cases hv
    · injection hv with hv1 hv2 hv3
      injection hv1 with hv1
      injection hv1 with hv1
      exact ⟨h2.1, .inr ⟨g', cap', cur, by rw [hv1, hv3], by omega, k1, k2, k3, k4, k5⟩⟩
  · rw [e2]
    exact (Below.refl _ w).drew.alloc (Nat.le_refl _) _
theorem wpList_append_full {P : Program} {ops : Array Oper} {rest : List Oper} {o : Oper} {a : Act} {w : World} {Q : Exit → Act → World → Prop} (hgd : o.guard = none) (sl x : Operand) (t u : TypeId)
    (ho : o.op = .call { callee := .builtin .append, args := #[sl, x], argTypes := #[t, u] })
    (base : Nat) (e : TypeId) (i : TypeInfo) (ht : P.underlying t = some (.slice e)) (hu : P.underlying u = some .string) (hi : P.info? e = some i) (hz : i.zero = some (.int .u8 0)) (hsize : i.size = 1) (hby : i.bytes = 1)
    (g n : Nat) (xs : List Value) (hs : a.eval sl = .slice (some ⟨g, 0, none⟩) n n) (hown : w.ownsRow base e 1 (.slice (some ⟨g, 0, none⟩) n n) n xs) (s : ByteArray) (hx : a.eval x = .string s) (hs0 : 0 < s.size)
    (h63 : n + s.size ≤ 100000) (hbase : base ≤ w.heap.size)
    (h : ∀ cap w', w'.ownsRow w.heap.size e 1 (.slice (some ⟨w.heap.size, 0, none⟩) (n + s.size) cap) (n + s.size) (xs ++ strCells s) → Below w.heap.size w w' → wpList P ops Q rest (a.put o.dst (.slice (some ⟨w.heap.size, 0, none⟩) (n + s.size) cap)) w') : wpList P ops Q (o :: rest) a w := by
  refine wpList_plain hgd fun K hK => ?_
  obtain ⟨cap, w', hr, h2, h3⟩ := run_append_full (P := P) w base t u o.type e i ht hu hi hz hsize hby g n xs hown s hs0 h63 hbase
  unfold Oper.wp execOp
  simp only [ho, resolve, invoke, builtin, Sem.run_bind, Sem.run_pure, Result.andThen_ok, List.map_toArray, List.map_cons, List.map_nil, hs, hx, hr]
  exact hK _ _ (h cap w' h2 h3)

/-- The writer with the bytes that it was begun with: a row that is full. -/
def WeS0 (g s K : Nat) (F : Nat → Prop) (l : List UInt8) (W : World) : Prop :=
  Blk W g 63 #[.slice (some ⟨s, 0, none⟩) l.length l.length, .int .i64 0] ∧ W.ownsRow K 5 1 (.slice (some ⟨s, 0, none⟩) l.length l.length) l.length (cellsB l) ∧ K ≤ W.heap.size ∧ ¬ F s ∧ ¬ F g ∧ (∀ x, F x → x < W.heap.size)
theorem WeS0.st {g s K : Nat} {F : Nat → Prop} {l : List UInt8} {W : World} (h : WeS0 g s K F l W) : WeSt g K F l W := by
  obtain ⟨h1, h2, h3, h4, h5, h6⟩ := h
  refine ⟨_, _, h1, h2, h3, fun x hx hf => ?_, h5, h6⟩
  have : s = x := by simpa [Value.ownBlock] using hx
  exact h4 (this ▸ hf)
theorem WeS0.add {g s K : Nat} {F : Nat → Prop} {l : List UInt8} {W : World} (h : WeS0 g s K F l W) (o : Obj) : WeS0 g s K (fun x => F x ∨ x = W.heap.size) l (W.alloc o) := by
  obtain ⟨h1, h2, h3, h4, h5, h6⟩ := h
  have hs : s < W.heap.size := by
    have := (h2.lt s (by simp [Value.ownBlock])).2
    exact this
  refine ⟨h1.alloc o, h2.alloc o, by simp; omega, ?_, ?_, ?_⟩
  · rintro (hf | rfl)
    · exact h4 hf
    · omega
  · rintro (hf | rfl)
    · exact h5 hf
    · exact absurd h1.lt (Nat.lt_irrefl _)
  · rintro x (hf | rfl)
    · have := h6 x hf; simp; omega
    · simp
set_option maxRecDepth 100000 in
set_option maxHeartbeats 2000000 in
theorem wedata_any (g s K : Nat) (F : Nat → Prop) (l : List UInt8) (x : En) (A1 D1 : Option Addr) (c1 e1 : Nat) (w : World) (hg : HasET w) (h : WeS0 g s K F l w) (hl : l.length ≤ 1000) (hm : mayBt x.b = true) (hr : Reads w w.heap.size 2 A1 x.b.rs.length (cellsR x.b.rs)) :
    Calls Tryz.prog 61 #[.pointer (some ⟨g, 0, none⟩), (.agg #[.int .i8 x.kd, .int .i64 x.b.pid, .int .i64 x.b.ep, .int .i64 x.b.seq, .bool x.b.txn, .slice A1 x.b.rs.length c1, .bool x.yes, .int .i64 x.nx, .int .i64 x.off, .int .i64 x.row.1, .int .i64 x.row.2.1, .int .i64 x.row.2.2.1, .string x.row.2.2.2.1, .string x.row.2.2.2.2, .int .i64 x.prod.pid, .int .i64 x.prod.ep, .int .i64 x.prod.nx, .slice D1 x.prod.seen.length e1])] w (WeOk g K F (l ++ encBt x.b) w) := by
  have hb1 : Below w.heap.size w (w.alloc (.cells #[.int .i8 x.kd, .int .i64 x.b.pid, .int .i64 x.b.ep, .int .i64 x.b.seq, .bool x.b.txn, .slice A1 x.b.rs.length c1, .bool x.yes, .int .i64 x.nx, .int .i64 x.off, .int .i64 x.row.1, .int .i64 x.row.2.1, .int .i64 x.row.2.2.1, .string x.row.2.2.2.1, .string x.row.2.2.2.2, .int .i64 x.prod.pid, .int .i64 x.prod.ep, .int .i64 x.prod.nx, .slice D1 x.prod.seen.length e1] 32)) := bal (Below.refl _ _) _
  have RB := RcBytes_any x.b A1 c1 (w.alloc (.cells #[.int .i8 x.kd, .int .i64 x.b.pid, .int .i64 x.b.ep, .int .i64 x.b.seq, .bool x.b.txn, .slice A1 x.b.rs.length c1, .bool x.yes, .int .i64 x.nx, .int .i64 x.off, .int .i64 x.row.1, .int .i64 x.row.2.1, .int .i64 x.row.2.2.1, .string x.row.2.2.2.1, .string x.row.2.2.2.2, .int .i64 x.prod.pid, .int .i64 x.prod.ep, .int .i64 x.prod.nx, .slice D1 x.prod.seen.length e1] 32)) ((hr.below hb1).more hb1.size) (hg.up hb1)
  have hbt : bytesBt x.b = (bs (encBt x.b), 0) := by unfold bytesBt; rw [if_pos hm]
  rw [hbt] at RB
  have hln := encBt_len x.b hm
  have RBH := Lib.hid RB
  have HS := Lib.hid (h.add (.cells #[.int .i8 x.kd, .int .i64 x.b.pid, .int .i64 x.b.ep, .int .i64 x.b.seq, .bool x.b.txn, .slice A1 x.b.rs.length c1, .bool x.yes, .int .i64 x.nx, .int .i64 x.off, .int .i64 x.row.1, .int .i64 x.row.2.1, .int .i64 x.row.2.2.1, .string x.row.2.2.2.1, .string x.row.2.2.2.2, .int .i64 x.prod.pid, .int .i64 x.prod.ep, .int .i64 x.prod.nx, .slice D1 x.prod.seen.length e1] 32))
  obtain ⟨LB, hLB⟩ : ∃ LB, LB = encBt x.b := ⟨_, rfl⟩
  rw [← hLB] at hln
  have HLB := Lib.hid hLB
  rw [← hLB] at RBH
  obtain ⟨i0, hi, hi0, hi1, hi2⟩ := info_parts infoByte
  have hsz : (bs LB).size = LB.length := size_bs LB
  clear h hg hm hr RB hbt hb1 hLB
  go_enter Tryz.func61, Tryz.ntmps61
  go_wp2_with fail
  refine RBH.out.mono ?_
  rintro e w1 ⟨rfl, b1⟩
  have k1 := HS.out.1.below b1 HS.out.1.lt
  have x0 := k1.cell 0
  have O1 := Lib.hid (own_below HS.out.2.1 b1)
  have K1 := Lib.hid k1
  have B1 := Lib.hid b1
  have hs1 := b1.size
  have hK := HS.out.2.2.1
  clear k1 b1
  go_wp2_with (at_builtin; refine wpList_append_full rfl (.tmp 22) (.tmp 23) 46 9 rfl K 5 i0 Tryz.underlying46 Tryz.underlying9 hi hi0 hi1 hi2 s l.length (cellsB l) rfl O1.out (bs LB) rfl (by omega) (by omega) (by omega) ?_; intro cap w2 o2 b2; have k2 := K1.out.below b2 K1.out.lt; have u0 := k2.cell 0; have v0 := k2.frozen 0)
  go_end0
  have hst : WeSt g K (fun x => F x ∨ x = w.heap.size) l w1 := HS.out.st.below B1.out
  rw [strCells_lb, lb_bs, ← cellsB_append, hsz, ← List.length_append] at o2
  obtain ⟨s1, s2⟩ := hst.put1 o2 b2
  have h2 : WeOk g K (fun x => F x ∨ x = w.heap.size) (l ++ LB) (w.alloc (.cells #[.int .i8 x.kd, .int .i64 x.b.pid, .int .i64 x.b.ep, .int .i64 x.b.seq, .bool x.b.txn, .slice A1 x.b.rs.length c1, .bool x.yes, .int .i64 x.nx, .int .i64 x.off, .int .i64 x.row.1, .int .i64 x.row.2.1, .int .i64 x.row.2.2.1, .string x.row.2.2.2.1, .string x.row.2.2.2.2, .int .i64 x.prod.pid, .int .i64 x.prod.ep, .int .i64 x.prod.nx, .slice D1 x.prod.seen.length e1] 32)) (.returned (.tuple #[])) (w2.setCell ⟨g, 0, none⟩ (.slice (some ⟨w1.heap.size, 0, none⟩) (l ++ LB).length cap)) := ⟨rfl, s1, (Only.of_below _ B1.out).trans s2⟩
  have h3 := h2.alloc
  rw [List.length_append] at h3
  rw [← HLB.out]
  exact h3
set_option maxRecDepth 100000 in
set_option maxHeartbeats 2000000 in
theorem wecopied_any (g s K : Nat) (F : Nat → Prop) (l : List UInt8) (x : En) (A1 D1 : Option Addr) (c1 e1 : Nat) (w : World) (hg : HasET w) (h : WeS0 g s K F l w) (hl : l.length ≤ 1000) (hm : mayBt x.b = true) (hr : Reads w w.heap.size 2 A1 x.b.rs.length (cellsR x.b.rs)) (hnx : x.yes = true → 0 ≤ x.nx ∧ x.nx ≤ 1048576) :
    Calls Tryz.prog 64 #[.pointer (some ⟨g, 0, none⟩), (.agg #[.int .i8 x.kd, .int .i64 x.b.pid, .int .i64 x.b.ep, .int .i64 x.b.seq, .bool x.b.txn, .slice A1 x.b.rs.length c1, .bool x.yes, .int .i64 x.nx, .int .i64 x.off, .int .i64 x.row.1, .int .i64 x.row.2.1, .int .i64 x.row.2.2.1, .string x.row.2.2.2.1, .string x.row.2.2.2.2, .int .i64 x.prod.pid, .int .i64 x.prod.ep, .int .i64 x.prod.nx, .slice D1 x.prod.seen.length e1])] w (WeOk g K F (l ++ (encBt x.b ++ (encY x.yes ++ if x.yes then enc x.nx.toNat else []))) w) := by
  have hb1 : Below w.heap.size w (w.alloc (.cells #[.int .i8 x.kd, .int .i64 x.b.pid, .int .i64 x.b.ep, .int .i64 x.b.seq, .bool x.b.txn, .slice A1 x.b.rs.length c1, .bool x.yes, .int .i64 x.nx, .int .i64 x.off, .int .i64 x.row.1, .int .i64 x.row.2.1, .int .i64 x.row.2.2.1, .string x.row.2.2.2.1, .string x.row.2.2.2.2, .int .i64 x.prod.pid, .int .i64 x.prod.ep, .int .i64 x.prod.nx, .slice D1 x.prod.seen.length e1] 32)) := bal (Below.refl _ _) _
  have DT := Lib.hid (wedata_any g s K _ l x A1 D1 c1 e1 _ (hg.up hb1) (h.add (.cells #[.int .i8 x.kd, .int .i64 x.b.pid, .int .i64 x.b.ep, .int .i64 x.b.seq, .bool x.b.txn, .slice A1 x.b.rs.length c1, .bool x.yes, .int .i64 x.nx, .int .i64 x.off, .int .i64 x.row.1, .int .i64 x.row.2.1, .int .i64 x.row.2.2.1, .string x.row.2.2.2.1, .string x.row.2.2.2.2, .int .i64 x.prod.pid, .int .i64 x.prod.ep, .int .i64 x.prod.nx, .slice D1 x.prod.seen.length e1] 32)) hl hm ((hr.below hb1).more hb1.size))
  have KX := Lib.hid (Blk.new w 32 #[.int .i8 x.kd, .int .i64 x.b.pid, .int .i64 x.b.ep, .int .i64 x.b.seq, .bool x.b.txn, .slice A1 x.b.rs.length c1, .bool x.yes, .int .i64 x.nx, .int .i64 x.off, .int .i64 x.row.1, .int .i64 x.row.2.1, .int .i64 x.row.2.2.1, .string x.row.2.2.2.1, .string x.row.2.2.2.2, .int .i64 x.prod.pid, .int .i64 x.prod.ep, .int .i64 x.prod.nx, .slice D1 x.prod.seen.length e1])
  have hln := encBt_len x.b hm
  have HNX := Lib.hid hnx
  have HB1 := Lib.hid hb1
  obtain ⟨LF, hLF⟩ : ∃ LF, LF = l ++ (encBt x.b ++ (encY x.yes ++ if x.yes then enc x.nx.toNat else [])) := ⟨_, rfl⟩
  rw [← hLF]
  have HLF := Lib.hid hLF
  clear h hg hm hr hb1 hnx hLF
  go_enter Tryz.func64, Tryz.ntmps64
  go_upto_region 1 with (fail)
  refine wp_region_list ?_
  refine wpList_move rfl (.tmp 0) rfl ?_
  refine wpList_load_eq rfl 32 (.tmp 3) rfl w.heap.size 0 rfl _ (load_blk KX.out rfl) ?_
  go_wp2_with fail
  refine DT.out.mono ?_
  rintro e w1 h1
  have H1 := Lib.hid h1
  have kx := h1.2.2.blk KX.out (fun hs => hs (.inr rfl))
  have x6 := kx.cell 6
  have KX1 := Lib.hid kx
  obtain ⟨A, c, y0, f0, kw, FL⟩ := weflag x.yes h1.2.1 (by rw [List.length_append]; omega)
  have FLH := Lib.hid FL
  have KW := Lib.hid kw
  obtain ⟨rfl, _⟩ := h1
  obtain ⟨L, hL⟩ : ∃ L, L = l ++ encBt x.b := ⟨_, rfl⟩
  have hLl : L.length ≤ 1200 := by rw [hL, List.length_append]; omega
  rw [← hL] at H1 FLH KW y0
  obtain ⟨LY, hLY⟩ : ∃ LY, LY = L ++ encY x.yes := ⟨_, rfl⟩
  have hLYl : LY.length ≤ 1300 := by rw [hLY, List.length_append]; have : (encY x.yes).length = 1 := rfl; omega
  rw [← hLY] at FLH
  have HL := Lib.hid hL
  have HLY := Lib.hid hLY
  clear kx FL kw hL hLY
  have key : ∃ yy : Bool, x.yes = yy := ⟨_, rfl⟩
  obtain ⟨yy, hyy⟩ := key
  have HYY := Lib.hid hyy
  clear hyy
  go_wp2_with fail
  go_region_with (go_at_call 90; refine FLH.out.mono ?_; rintro e w2 ⟨A9, c9, rfl, o1, hc1, b1⟩; have k2 := KW.out.drew.below b1 KW.out.lt; have u0 := k2.cell 0; have v0 := k2.frozen 0; have q6 := (KX1.out.drew.below b1 KX1.out.lt).cell 6; have q7 := (KX1.out.drew.below b1 KX1.out.lt).cell 7)
  all_goals
    obtain ⟨s1, s2⟩ := (H1.out.2.1.below (Below.refl _ _).drew).put1 o1 b1
    have hne : ¬ g = w.heap.size := fun e => s1.choose_spec.choose_spec.2.2.2.2.1 (.inr e)
    have KX2 := Lib.hid (((KX1.out.drew.below b1 KX1.out.lt)).far (p := ⟨g, 0, none⟩) (fun e => hne e.symm) (.slice A9 LY.length c9))
    have h2 : WeOk g K (fun x_1 => F x_1 ∨ x_1 = w.heap.size) LY (w.alloc (.cells #[.int .i8 x.kd, .int .i64 x.b.pid, .int .i64 x.b.ep, .int .i64 x.b.seq, .bool x.b.txn, .slice A1 x.b.rs.length c1, .bool x.yes, .int .i64 x.nx, .int .i64 x.off, .int .i64 x.row.1, .int .i64 x.row.2.1, .int .i64 x.row.2.2.1, .string x.row.2.2.2.1, .string x.row.2.2.2.2, .int .i64 x.prod.pid, .int .i64 x.prod.ep, .int .i64 x.prod.nx, .slice D1 x.prod.seen.length e1] 32)) (.returned (.tuple #[])) (w2.setCell ⟨g, 0, none⟩ (.slice A9 LY.length c9)) := ⟨rfl, s1, H1.out.2.2.drew.trans s2⟩
    have H2 := Lib.hid h2
    clear s1 s2 h2 q6 q7
    generalize w2.setCell ⟨g, 0, none⟩ (.slice A9 LY.length c9) = w3 at *
    have q6 := KX2.out.cell 6
    rw [HYY.out] at q6
    have q7 := KX2.out.cell 7
    cases yy
    · go_wp2_with fail
      go_end0
      have h3 := H2.out.alloc
      rw [HLY.out, HL.out, HYY.out] at h3
      rw [HLF.out, HYY.out]
      simpa using h3
    · have hn := HNX.out HYY.out
      have NM := Lib.hid (wenums_any g K _ LY w3.heap.size [x.nx] 1 _ (H2.out.2.1.add (.cells #[.int .i64 x.nx] 3)) (.inr rfl) (ints_new w3 [x.nx] 3 _ rfl) (by simp only [List.mem_cons, List.not_mem_nil, or_false]; rintro z hz; omega) (by simp; omega))
      go_wp2_with fail
      refine NM.out.mono ?_
      rintro e w4 h4
      have H4 := Lib.hid h4
      obtain ⟨rfl, _⟩ := h4
      go_wp2_with fail
      go_end0
      have h3 := (H2.out.trans H4.out.alloc).alloc
      rw [HLY.out, HL.out, HYY.out] at h3
      rw [HLF.out, HYY.out]
      simpa using h3
end Go.Proofs.YtckdecodpjfcnaaGreatDoor
namespace Go.Proofs.YtckdecodpjfcnaaGreatDoor
open Go.RowKit
attribute [local go_sem ↓] Go.wp_at_zero Go.wp_at_succ

def encSn (s : Sn) : List UInt8 := enc s.1.toNat ++ (enc s.2.1.toNat ++ enc (s.2.2 + 1).toNat)
theorem encSns_take (l : List Sn) (k : Nat) (r : Sn) (h : l[k]? = some r) : (l.take (k + 1)).flatMap encSn = (l.take k).flatMap encSn ++ encSn r := by
  rw [List.take_add_one, h]; simp
def SnOk (s : Sn) : Prop := (0 ≤ s.1 ∧ s.1 ≤ 1048576) ∧ (0 ≤ s.2.1 ∧ s.2.1 ≤ 4) ∧ (-1 ≤ s.2.2 ∧ s.2.2 ≤ 1048576)
theorem encSn_len (s : Sn) (h : SnOk s) : (encSn s).length ≤ 9 := by
  obtain ⟨h1, h2, h3⟩ := h
  have e1 := enc_len3x s.1.toNat (by omega)
  have e2 := enc_len3x s.2.1.toNat (by omega)
  have e3 := enc_len3x (s.2.2 + 1).toNat (by omega)
  unfold encSn
  rw [List.length_append, List.length_append]
  omega
theorem encSns_len : ∀ l : List Sn, (∀ s ∈ l, SnOk s) → (l.flatMap encSn).length ≤ 9 * l.length
  | [], _ => Nat.le_refl _
  | s :: l, h => by
    rw [List.flatMap_cons, List.length_append, List.length_cons]
    have h1 := encSn_len s (h s (List.mem_cons_self ..))
    have h2 := encSns_len l fun x hx => h x (List.mem_cons_of_mem _ hx)
    omega
set_option maxRecDepth 100000 in
set_option maxHeartbeats 4000000 in
theorem westate_any (g K B : Nat) (F : Nat → Prop) (l : List UInt8) (x : En) (A1 D1 : Option Addr) (c1 e1 : Nat) (w : World) (h : WeSt g K F l w) (hl : l.length ≤ 1000) (h1 : 0 ≤ x.prod.pid ∧ x.prod.pid ≤ 8) (h2 : 0 ≤ x.prod.ep ∧ x.prod.ep ≤ 100) (h3 : 0 ≤ x.prod.nx ∧ x.prod.nx ≤ 1048576) (h4 : x.prod.seen.length ≤ 3) (h5 : ∀ s ∈ x.prod.seen, SnOk s)
    (hr : Reads w B 3 D1 x.prod.seen.length (cellsN x.prod.seen)) (hB : B ≤ w.heap.size) (hF : ∀ y, y < B → F y) :
    Calls Tryz.prog 67 #[.pointer (some ⟨g, 0, none⟩), (.agg #[.int .i8 x.kd, .int .i64 x.b.pid, .int .i64 x.b.ep, .int .i64 x.b.seq, .bool x.b.txn, .slice A1 x.b.rs.length c1, .bool x.yes, .int .i64 x.nx, .int .i64 x.off, .int .i64 x.row.1, .int .i64 x.row.2.1, .int .i64 x.row.2.2.1, .string x.row.2.2.2.1, .string x.row.2.2.2.2, .int .i64 x.prod.pid, .int .i64 x.prod.ep, .int .i64 x.prod.nx, .slice D1 x.prod.seen.length e1])] w (WeOk g K F (l ++ (enc x.prod.pid.toNat ++ (enc x.prod.ep.toNat ++ (enc x.prod.nx.toNat ++ (enc x.prod.seen.length ++ x.prod.seen.flatMap encSn))))) w) := by
  have NM := Lib.hid (wenums_any g K _ l (w.heap.size + 1) [x.prod.pid, x.prod.ep, x.prod.nx, (x.prod.seen.length : Int)] 4 _ ((h.add (.cells #[.int .i8 x.kd, .int .i64 x.b.pid, .int .i64 x.b.ep, .int .i64 x.b.seq, .bool x.b.txn, .slice A1 x.b.rs.length c1, .bool x.yes, .int .i64 x.nx, .int .i64 x.off, .int .i64 x.row.1, .int .i64 x.row.2.1, .int .i64 x.row.2.2.1, .string x.row.2.2.2.1, .string x.row.2.2.2.2, .int .i64 x.prod.pid, .int .i64 x.prod.ep, .int .i64 x.prod.nx, .slice D1 x.prod.seen.length e1] 32)).add (.cells #[.int .i64 x.prod.pid, .int .i64 x.prod.ep, .int .i64 x.prod.nx, .int .i64 (x.prod.seen.length : Int)] 3)) (.inr (by simp)) (ints_new (w.alloc (.cells #[.int .i8 x.kd, .int .i64 x.b.pid, .int .i64 x.b.ep, .int .i64 x.b.seq, .bool x.b.txn, .slice A1 x.b.rs.length c1, .bool x.yes, .int .i64 x.nx, .int .i64 x.off, .int .i64 x.row.1, .int .i64 x.row.2.1, .int .i64 x.row.2.2.1, .string x.row.2.2.2.1, .string x.row.2.2.2.2, .int .i64 x.prod.pid, .int .i64 x.prod.ep, .int .i64 x.prod.nx, .slice D1 x.prod.seen.length e1] 32)) [x.prod.pid, x.prod.ep, x.prod.nx, (x.prod.seen.length : Int)] 3 _ (by simp)) (by simp only [List.mem_cons, List.not_mem_nil, or_false]; rintro z hz; omega) (by simp; omega))
  have KX := Lib.hid ((Blk.new w 32 #[.int .i8 x.kd, .int .i64 x.b.pid, .int .i64 x.b.ep, .int .i64 x.b.seq, .bool x.b.txn, .slice A1 x.b.rs.length c1, .bool x.yes, .int .i64 x.nx, .int .i64 x.off, .int .i64 x.row.1, .int .i64 x.row.2.1, .int .i64 x.row.2.2.1, .string x.row.2.2.2.1, .string x.row.2.2.2.2, .int .i64 x.prod.pid, .int .i64 x.prod.ep, .int .i64 x.prod.nx, .slice D1 x.prod.seen.length e1]).alloc (.cells #[.int .i64 x.prod.pid, .int .i64 x.prod.ep, .int .i64 x.prod.nx, .int .i64 (x.prod.seen.length : Int)] 3))
  have RD := Lib.hid ((hr.alloc hB (.cells #[.int .i8 x.kd, .int .i64 x.b.pid, .int .i64 x.b.ep, .int .i64 x.b.seq, .bool x.b.txn, .slice A1 x.b.rs.length c1, .bool x.yes, .int .i64 x.nx, .int .i64 x.off, .int .i64 x.row.1, .int .i64 x.row.2.1, .int .i64 x.row.2.2.1, .string x.row.2.2.2.1, .string x.row.2.2.2.2, .int .i64 x.prod.pid, .int .i64 x.prod.ep, .int .i64 x.prod.nx, .slice D1 x.prod.seen.length e1] 32)).alloc (by simp; omega) (.cells #[.int .i64 x.prod.pid, .int .i64 x.prod.ep, .int .i64 x.prod.nx, .int .i64 (x.prod.seen.length : Int)] 3))
  obtain ⟨L0, hL0⟩ : ∃ L0, L0 = l ++ [x.prod.pid, x.prod.ep, x.prod.nx, (x.prod.seen.length : Int)].flatMap fun z => enc z.toNat := ⟨_, rfl⟩
  have hl0 : L0.length ≤ 1100 := by
    have e1 := enc_len3x x.prod.pid.toNat (by omega)
    have e2 := enc_len3x x.prod.ep.toNat (by omega)
    have e3 := enc_len3x x.prod.nx.toNat (by omega)
    have e4 := enc_len3x x.prod.seen.length (by omega)
    rw [hL0]
    simp
    omega
  rw [← hL0] at NM
  have hfin : l ++ (enc x.prod.pid.toNat ++ (enc x.prod.ep.toNat ++ (enc x.prod.nx.toNat ++ (enc x.prod.seen.length ++ x.prod.seen.flatMap encSn)))) = L0 ++ x.prod.seen.flatMap encSn := by
    rw [hL0]; simp
  rw [hfin]
  have HF := Lib.hid hF
  have HV := Lib.hid h5
  clear h h1 h2 h3 h5 hr hF hL0 hfin
  go_enter Tryz.func67, Tryz.ntmps67
  go_wp2_with fail
  refine NM.out.mono ?_
  rintro e w1 h1
  have H1 := Lib.hid h1
  have kx := h1.2.2.blk KX.out (fun hs => hs (.inl (.inr rfl)))
  have x17 := kx.cell 17
  have hsz1 := h1.2.2.size
  simp only [World.size_alloc] at hsz1
  have R1 := Lib.hid (h1.2.2.reads RD.out (by simp; omega) (fun y hy hs => hs (.inl (.inl (HF.out y hy)))))
  obtain ⟨rfl, _⟩ := h1
  clear kx
  go_wp2_with fail
  go_loopw [26] (fun y wr => ∃ k : Nat, k ≤ x.prod.seen.length ∧ y = .int .i64 k ∧ WeOk g K (fun x_1 => (F x_1 ∨ x_1 = w.heap.size) ∨ x_1 = (w.alloc (.cells #[.int .i8 x.kd, .int .i64 x.b.pid, .int .i64 x.b.ep, .int .i64 x.b.seq, .bool x.b.txn, .slice A1 x.b.rs.length c1, .bool x.yes, .int .i64 x.nx, .int .i64 x.off, .int .i64 x.row.1, .int .i64 x.row.2.1, .int .i64 x.row.2.2.1, .string x.row.2.2.2.1, .string x.row.2.2.2.2, .int .i64 x.prod.pid, .int .i64 x.prod.ep, .int .i64 x.prod.nx, .slice D1 x.prod.seen.length e1] 32)).heap.size) (L0 ++ (x.prod.seen.take k).flatMap encSn) w1 (.returned (.tuple #[])) wr) (fun y _ => x.prod.seen.length - (intOf y).toNat)
  case atStart => exact ⟨0, Nat.zero_le _, rfl, rfl, by simpa using H1.out.2.1, Only.refl _ _⟩
  case round =>
    obtain ⟨k, hk, rfl, hok⟩ := hrel
    have HOK := Lib.hid hok
    clear hok
    by_cases hlt : k < x.prod.seen.length
    · have d1 : decide ((k : Int) < (x.prod.seen.length : Int)) = true := by simp; omega
      obtain ⟨r, hx⟩ : ∃ z, x.prod.seen[k]? = some z := ⟨_, List.getElem?_eq_getElem hlt⟩
      have hvr := HV.out r (List.mem_of_getElem? hx)
      have HTK := Lib.hid (encSns_take x.prod.seen k r hx)
      have hle := encSns_len (x.prod.seen.take k) (fun y hy => HV.out y (List.mem_of_mem_take hy))
      rw [List.length_take] at hle
      have R3 := HOK.out.2.2.reads R1.out (by omega) (fun y hy hs => hs (.inl (.inl (HF.out y hy))))
      obtain ⟨b1, o1, hD, hb1, hc1⟩ := R3.plain3 (by omega)
      obtain ⟨g1, g2, g3⟩ := hc1 k _ hx
      have i1 : (0 : Int) ≤ (k : Int) := by omega
      have i2 : (k : Int) < (x.prod.seen.length : Int) := by omega
      obtain ⟨v1, v2, v3⟩ := hvr
      have cw : IntKind.i64.wrap (r.2.2 + 1) = r.2.2 + 1 := IntWalk.i64_in _ (by omega)
      generalize hL : L0 ++ (x.prod.seen.take k).flatMap encSn = L at *
      have hLl : L.length ≤ 4000 := by rw [← hL, List.length_append]; omega
      have HL := Lib.hid hL
      have M1 := Lib.hid (wenums_any g K _ L (wr.heap.size + 1) [r.1, r.2.1, r.2.2 + 1] 3 _ ((HOK.out.2.1.add (.cells #[.int .i64 r.1, .int .i64 r.2.1, .int .i64 r.2.2] 73)).add (.cells #[.int .i64 r.1, .int .i64 r.2.1, .int .i64 (r.2.2 + 1)] 3)) (.inr (by simp)) (ints_new (wr.alloc (.cells #[.int .i64 r.1, .int .i64 r.2.1, .int .i64 r.2.2] 73)) [r.1, r.2.1, r.2.2 + 1] 3 _ (by simp)) (by simp only [List.mem_cons, List.not_mem_nil, or_false]; rintro z hz; omega) (by simp; omega))
      clear hc1 hx hL R3 hle
      subst hD
      go_wp2_with fail
      refine M1.out.mono ?_
      rintro e w3 h3
      have H3 := Lib.hid h3
      obtain ⟨rfl, _⟩ := h3
      go_wp2_with fail
      go_roundw
      case rel =>
        have h6 := H3.out.alloc.alloc
        have h7 := HOK.out.trans h6
        refine ⟨k + 1, by omega, by go_num, ?_⟩
        rw [HTK.out, ← List.append_assoc, HL.out]
        have e : encSn r = [r.1, r.2.1, r.2.2 + 1].flatMap fun z => enc z.toNat := by unfold encSn; simp
        rw [e]
        exact h7
      case measure => simp [intOf]; omega
    · obtain rfl : k = x.prod.seen.length := by omega
      have d1 : decide ((x.prod.seen.length : Int) < (x.prod.seen.length : Int)) = false := by simp
      go_wp2_with fail
      go_end0
      have h6 := HOK.out
      rw [List.take_length] at h6
      exact (H1.out.trans h6).alloc.alloc
end Go.Proofs.YtckdecodpjfcnaaGreatDoor
