/-
  Layer 7: Bytes of entries.
-/
import Derived.Test.YtckdecodpjfcnaaGreatDoorEnRowsProofP10
import Derived.Laws.EntriesVeiled
import Derived.Deep.RegionHeld3
set_option linter.unusedVariables false
set_option linter.unusedSimpArgs false
namespace Go.Proofs.YtckdecodpjfcnaaGreatDoor
open Go.RowKit

def WePost (f : FuncId) (w : World) (e : Ending) (w' : World) : Prop := e = .returned (.func (.func f) #[] #[]) ∧ Below w.heap.size w w'
theorem ewriting_data (k : Int) (hk : k = 0) (w : World) : Calls Tryz.prog 30 #[.int .i8 k] w (WePost 61 w) := by
  have HB := Lib.hid (fun o => bal (Below.refl w.heap.size w) o)
  subst hk
  go_enter Tryz.func30, Tryz.ntmps30
  go_wp2_with fail
  go_ret
  exact ⟨rfl, HB.out _⟩
theorem ewriting_mark (k : Int) (hk : k = 1) (w : World) : Calls Tryz.prog 30 #[.int .i8 k] w (WePost 62 w) := by
  have HB := Lib.hid (fun o => bal (Below.refl w.heap.size w) o)
  subst hk
  go_enter Tryz.func30, Tryz.ntmps30
  go_wp2_with fail
  go_ret
  exact ⟨rfl, HB.out _⟩
theorem ewriting_cut (k : Int) (hk : k = 2) (w : World) : Calls Tryz.prog 30 #[.int .i8 k] w (WePost 63 w) := by
  have HB := Lib.hid (fun o => bal (Below.refl w.heap.size w) o)
  subst hk
  go_enter Tryz.func30, Tryz.ntmps30
  go_wp2_with fail
  go_ret
  exact ⟨rfl, HB.out _⟩
theorem ewriting_copied (k : Int) (hk : k = 3) (w : World) : Calls Tryz.prog 30 #[.int .i8 k] w (WePost 64 w) := by
  have HB := Lib.hid (fun o => bal (Below.refl w.heap.size w) o)
  subst hk
  go_enter Tryz.func30, Tryz.ntmps30
  go_wp2_with fail
  go_ret
  exact ⟨rfl, HB.out _⟩
theorem ewriting_drop (k : Int) (hk : k = 4) (w : World) : Calls Tryz.prog 30 #[.int .i8 k] w (WePost 65 w) := by
  have HB := Lib.hid (fun o => bal (Below.refl w.heap.size w) o)
  subst hk
  go_enter Tryz.func30, Tryz.ntmps30
  go_wp2_with fail
  go_ret
  exact ⟨rfl, HB.out _⟩
theorem ewriting_row (k : Int) (hk : k = 5) (w : World) : Calls Tryz.prog 30 #[.int .i8 k] w (WePost 66 w) := by
  have HB := Lib.hid (fun o => bal (Below.refl w.heap.size w) o)
  subst hk
  go_enter Tryz.func30, Tryz.ntmps30
  go_wp2_with fail
  go_ret
  exact ⟨rfl, HB.out _⟩
theorem ewriting_state (k : Int) (hk : k = 6) (w : World) : Calls Tryz.prog 30 #[.int .i8 k] w (WePost 67 w) := by
  have HB := Lib.hid (fun o => bal (Below.refl w.heap.size w) o)
  subst hk
  go_enter Tryz.func30, Tryz.ntmps30
  go_wp2_with fail
  go_ret
  exact ⟨rfl, HB.out _⟩
/-- What Bytes leaves. -/
def EbPost (L : List UInt8) (n : Int) (w : World) (e : Ending) (w' : World) : Prop := e = .returned (.tuple #[.string (bs L), .int .i64 n]) ∧ Below w.heap.size w w'
theorem cells_blk {W : World} {b : Nat} {t : TypeId} {cs : List Value} (h : Blk W b t cs.toArray) (hn : cs.length = 18) : (loadCells ⟨b, 0, none⟩ 18).run Tryz.prog W = .ok cs.toArray W := by
  have := run_loadCells_list (P := Tryz.prog) W ⟨b, 0, none⟩ cs (fun j v hv => by rw [Addr.add_mid]; exact blk_range h j v hv)
  rw [hn] at this
  exact this
theorem WeS0.below {g s K : Nat} {F : Nat → Prop} {l : List UInt8} {W W' : World} (h : WeS0 g s K F l W) (k : Below W.heap.size W W') : WeS0 g s K F l W' := by
  obtain ⟨h1, h2, h3, h4, h5, h6⟩ := h
  exact ⟨h1.below k h1.lt, own_below h2 k, Nat.le_trans h3 k.size, h4, h5, fun x hx => Nat.lt_of_lt_of_le (h6 x hx) k.size⟩
/-- The writer as Bytes begins it. -/
theorem wes0_start (w1 : World) (u : UInt8) : WeS0 (w1.heap.size + 1) w1.heap.size w1.heap.size (fun y => y < w1.heap.size) [u] ((w1.alloc (.cells #[.int .u8 (u.toNat : Int)] 5)).alloc (.cells #[.slice (some ⟨w1.heap.size, 0, none⟩) 1 1, .int .i64 0] 63)) := by
  have o1 := World.ownsRow_lit (e := 5) (base := w1.heap.size) (size := 1) w1 #[.int .u8 (u.toNat : Int)] 1 (Nat.le_refl _) (by unfold maxLen; omega) rfl
  refine ⟨blk_new _ _ _ (by simp), o1.alloc _, by simp; omega, Nat.lt_irrefl _, by omega, fun x hx => by simp; omega⟩
theorem known_facts {p : Pd} (h : knownB p = true) : (0 ≤ p.pid ∧ p.pid ≤ 8) ∧ (0 ≤ p.ep ∧ p.ep ≤ 100) ∧ (0 ≤ p.nx ∧ p.nx ≤ 1048576) ∧ p.seen.length ≤ 3 ∧ ∀ s ∈ p.seen, SnOk s := by
  have hv : (p = p) ∧ (cI 1 8).v p.pid ∧ (cI 0 100).v p.ep ∧ (cI 0 1048576).v p.nx ∧ (cI 0 3).v (p.seen.length : Int) ∧ (p.seen.length = (p.seen.length : Int).toNat ∧ ∀ s ∈ p.seen, (cSn 1).v s) := cPd_v (z := 1) (Nat.le_refl _) h
  rw [cI_v _ _ _ (by decide), cI_v _ _ _ (by decide), cI_v _ _ _ (by decide), cI_v _ _ _ (by decide)] at hv
  obtain ⟨_, h1, h2, h3, h4, _, h5⟩ := hv
  refine ⟨by omega, by omega, by omega, by omega, fun s hs => ?_⟩
  have e2 : (cSn 1).v s ↔ ((s.1, s.2.1, s.2.2 + 1 - 1) = s) ∧ (cI 0 1048576).v s.1 ∧ (cI 1 4).v s.2.1 ∧ (cI 0 1048577).v (s.2.2 + 1) := Iff.rfl
  have := e2.1 (h5 s hs)
  rw [cI_v _ _ _ (by decide), cI_v _ _ _ (by decide), cI_v _ _ _ (by decide)] at this
  unfold SnOk
  omega
section
attribute [-go_sem] loadCells
set_option maxRecDepth 100000 in
set_option maxHeartbeats 4000000 in
theorem EnBytes_no (x : En) (hm : mayEn x = false) (A1 D1 : Option Addr) (c1 e1 : Nat) (w : World) (hr : EnR w x A1 D1) :
    Calls Tryz.prog 11 #[(.agg #[.int .i8 x.kd, .int .i64 x.b.pid, .int .i64 x.b.ep, .int .i64 x.b.seq, .bool x.b.txn, .slice A1 x.b.rs.length c1, .bool x.yes, .int .i64 x.nx, .int .i64 x.off, .int .i64 x.row.1, .int .i64 x.row.2.1, .int .i64 x.row.2.2.1, .string x.row.2.2.2.1, .string x.row.2.2.2.2, .int .i64 x.prod.pid, .int .i64 x.prod.ep, .int .i64 x.prod.nx, .slice D1 x.prod.seen.length e1])] w (EbPost [] 2 w) := by
  have hb1 : Below w.heap.size w (w.alloc (.cells #[.int .i8 x.kd, .int .i64 x.b.pid, .int .i64 x.b.ep, .int .i64 x.b.seq, .bool x.b.txn, .slice A1 x.b.rs.length c1, .bool x.yes, .int .i64 x.nx, .int .i64 x.off, .int .i64 x.row.1, .int .i64 x.row.2.1, .int .i64 x.row.2.2.1, .string x.row.2.2.2.1, .string x.row.2.2.2.2, .int .i64 x.prod.pid, .int .i64 x.prod.ep, .int .i64 x.prod.nx, .slice D1 x.prod.seen.length e1] 32)) := bal (Below.refl _ _) _
  have MY := Lib.hid (EnMay_any x A1 D1 c1 e1 _ (hr.up hb1))
  rw [hm] at MY
  have LC := cells_blk (Blk.new w 32 #[.int .i8 x.kd, .int .i64 x.b.pid, .int .i64 x.b.ep, .int .i64 x.b.seq, .bool x.b.txn, .slice A1 x.b.rs.length c1, .bool x.yes, .int .i64 x.nx, .int .i64 x.off, .int .i64 x.row.1, .int .i64 x.row.2.1, .int .i64 x.row.2.2.1, .string x.row.2.2.2.1, .string x.row.2.2.2.2, .int .i64 x.prod.pid, .int .i64 x.prod.ep, .int .i64 x.prod.nx, .slice D1 x.prod.seen.length e1]) rfl
  have HB := Lib.hid hb1
  clear hm hr hb1
  go_enter Tryz.func11, Tryz.ntmps11
  go_wp2_with fail
  refine MY.out.mono ?_
  rintro e w1 ⟨rfl, b1⟩
  go_wp2_with fail
  go_ret2
  exact ⟨rfl, btrans HB.out b1⟩
set_option maxRecDepth 100000 in
set_option maxHeartbeats 8000000 in
theorem EnBytes_0 (x : En) (hk : x.kd = 0) (hm : mayEn x = true) (A1 D1 : Option Addr) (c1 e1 : Nat) (w : World) (hg : HasET w) (hr : EnR w x A1 D1) :
    Calls Tryz.prog 11 #[(.agg #[.int .i8 x.kd, .int .i64 x.b.pid, .int .i64 x.b.ep, .int .i64 x.b.seq, .bool x.b.txn, .slice A1 x.b.rs.length c1, .bool x.yes, .int .i64 x.nx, .int .i64 x.off, .int .i64 x.row.1, .int .i64 x.row.2.1, .int .i64 x.row.2.2.1, .string x.row.2.2.2.1, .string x.row.2.2.2.2, .int .i64 x.prod.pid, .int .i64 x.prod.ep, .int .i64 x.prod.nx, .slice D1 x.prod.seen.length e1])] w (EbPost (encEn x) 0 w) := by
  have hb1 : Below w.heap.size w (w.alloc (.cells #[.int .i8 x.kd, .int .i64 x.b.pid, .int .i64 x.b.ep, .int .i64 x.b.seq, .bool x.b.txn, .slice A1 x.b.rs.length c1, .bool x.yes, .int .i64 x.nx, .int .i64 x.off, .int .i64 x.row.1, .int .i64 x.row.2.1, .int .i64 x.row.2.2.1, .string x.row.2.2.2.1, .string x.row.2.2.2.2, .int .i64 x.prod.pid, .int .i64 x.prod.ep, .int .i64 x.prod.nx, .slice D1 x.prod.seen.length e1] 32)) := bal (Below.refl _ _) _
  have MY := Lib.hid (EnMay_any x A1 D1 c1 e1 _ (hr.up hb1))
  rw [hm] at MY
  have LC := cells_blk (Blk.new w 32 #[.int .i8 x.kd, .int .i64 x.b.pid, .int .i64 x.b.ep, .int .i64 x.b.seq, .bool x.b.txn, .slice A1 x.b.rs.length c1, .bool x.yes, .int .i64 x.nx, .int .i64 x.off, .int .i64 x.row.1, .int .i64 x.row.2.1, .int .i64 x.row.2.2.1, .string x.row.2.2.2.1, .string x.row.2.2.2.2, .int .i64 x.prod.pid, .int .i64 x.prod.ep, .int .i64 x.prod.nx, .slice D1 x.prod.seen.length e1]) rfl
  have KX := Lib.hid (Blk.new w 32 #[.int .i8 x.kd, .int .i64 x.b.pid, .int .i64 x.b.ep, .int .i64 x.b.seq, .bool x.b.txn, .slice A1 x.b.rs.length c1, .bool x.yes, .int .i64 x.nx, .int .i64 x.off, .int .i64 x.row.1, .int .i64 x.row.2.1, .int .i64 x.row.2.2.1, .string x.row.2.2.2.1, .string x.row.2.2.2.2, .int .i64 x.prod.pid, .int .i64 x.prod.ep, .int .i64 x.prod.nx, .slice D1 x.prod.seen.length e1])
  have HB := Lib.hid hb1
  have hok : okEn x = true := by unfold mayEn at hm; rw [Bool.and_eq_true] at hm; exact hm.1
  unfold okEn at hok
  rw [hk] at hok
  have hmb : mayBt x.b = true := hok
  have HF := Lib.hid hmb
  clear hmb
  have cwk : IntKind.u8.wrap x.kd = x.kd := by rw [hk]; rfl
  obtain ⟨u, hu, hue⟩ : ∃ u : UInt8, (u.toNat : Int) = x.kd ∧ enc x.kd.toNat = [u] := ⟨0, by rw [hk]; rfl, by rw [hk]; rfl⟩
  have henc : encEn x = [u] ++ encBt x.b := by unfold encEn encE; rw [hue, hk]; first | rfl | (show [u] ++ (encBt x.b ++ (encY x.yes ++ (cIf x.yes).e x.nx)) = _; cases x.yes <;> rfl)
  obtain ⟨LF, hLF⟩ : ∃ LF, LF = encEn x := ⟨_, rfl⟩
  rw [← hLF] at henc ⊢
  have HENC := Lib.hid henc
  have HU := Lib.hid hu
  have WR := Lib.hid (fun W => ewriting_data x.kd hk W)
  have HRR := Lib.hid (fun W (h : Below w.heap.size w W) => hr.up h)
  have HG := Lib.hid (fun W (h : Below w.heap.size w W) => hg.up h)
  clear hm hr hb1 hok hk hue henc hLF hu hg
  go_enter Tryz.func11, Tryz.ntmps11
  go_wp2_with fail
  refine MY.out.mono ?_
  rintro e w1 ⟨rfl, b1⟩
  have k1 := KX.out.below b1 KX.out.lt
  have x0 := k1.cell 0
  have ws := wes0_start w1 u
  rw [HU.out] at ws
  have K1 := Lib.hid k1
  have WS := Lib.hid ws
  have B1 := Lib.hid (btrans HB.out b1)
  have B3 := Lib.hid (bal (bal B1.out (.cells #[.int .u8 x.kd] 5)) (.cells #[.slice (some ⟨w1.heap.size, 0, none⟩) 1 1, .int .i64 0] 63))
  have K3 := Lib.hid ((k1.alloc (.cells #[.int .u8 x.kd] 5)).alloc (.cells #[.slice (some ⟨w1.heap.size, 0, none⟩) 1 1, .int .i64 0] 63))
  have hlt1 := k1.lt
  clear k1 ws b1 LC
  go_upto_region 4 with (fail)
  have q0 := K3.out.cell 0
  have qL := cells_blk K3.out rfl
  go_region_held3 (fun W => W.cell? ⟨w.heap.size, 0, none⟩ = some (.int .i8 x.kd) ∧ (loadCells ⟨w.heap.size, 0, none⟩ 18).run Tryz.prog W = .ok #[.int .i8 x.kd, .int .i64 x.b.pid, .int .i64 x.b.ep, .int .i64 x.b.seq, .bool x.b.txn, .slice A1 x.b.rs.length c1, .bool x.yes, .int .i64 x.nx, .int .i64 x.off, .int .i64 x.row.1, .int .i64 x.row.2.1, .int .i64 x.row.2.2.1, .string x.row.2.2.2.1, .string x.row.2.2.2.2, .int .i64 x.prod.pid, .int .i64 x.prod.ep, .int .i64 x.prod.nx, .slice D1 x.prod.seen.length e1] W)
    (first | exact ⟨q0, cells_blk K3.out.drew rfl⟩ | (refine ⟨?_, ?_⟩; exact z0; exact zL) | (refine ⟨?_, ?_⟩; exact y0; exact yL))
    (first
      | (go_at_call 30; refine (WR.out _).mono ?_; rintro e w4 ⟨rfl, b4⟩; have k4 := (K3.out.drew).below b4 K3.out.lt; have y0 := k4.cell 0; have yL := cells_blk k4 rfl; have h4 := WS.out.below ((Below.refl _ _).drew.trans (b4.mono (Nat.le_refl _))); have B4 := Lib.hid (btrans B3.out ((Below.refl _ _).drew.trans (b4.mono (Nat.le_refl _)))))
      | (go_at_call 61; refine (wedata_any _ _ _ _ _ x A1 D1 c1 e1 _ (HG.out _ B4.out) h4 (by simp) HF.out (HRR.out _ B4.out).1).mono ?_; rintro e w5 h5; have H5 := Lib.hid h5; have k5 := h5.2.2.blk k4 (fun hs => hs hlt1); have z0 := k5.cell 0; have zL := cells_blk k5 rfl; obtain ⟨rfl, _⟩ := h5))
  all_goals
    obtain ⟨AZ, cZ, kz, oz, _⟩ := H5.out.2.1
    rw [← HENC.out] at kz oz
    have a0 := kz.cell 0
    have a1 := kz.cell 1
    have t1 := run_string_of (P := Tryz.prog) (src := 46) (dst := 9) (c := cZ) Tryz.underlying46 Tryz.underlying5 Tryz.underlying9 (Reads.of_own oz)
    have BZ := Lib.hid (B4.out.trans (H5.out.2.2.below (B := w.heap.size) B4.out.size (fun y hy => by have : ¬ y < w1.heap.size := hy; omega)))
    clear kz oz
    go_wp2_with fail
    go_ret2
    exact ⟨rfl, BZ.out⟩
set_option maxRecDepth 100000 in
set_option maxHeartbeats 8000000 in
theorem EnBytes_1 (x : En) (hk : x.kd = 1) (hm : mayEn x = true) (A1 D1 : Option Addr) (c1 e1 : Nat) (w : World) (hg : HasET w) (hr : EnR w x A1 D1) :
    Calls Tryz.prog 11 #[(.agg #[.int .i8 x.kd, .int .i64 x.b.pid, .int .i64 x.b.ep, .int .i64 x.b.seq, .bool x.b.txn, .slice A1 x.b.rs.length c1, .bool x.yes, .int .i64 x.nx, .int .i64 x.off, .int .i64 x.row.1, .int .i64 x.row.2.1, .int .i64 x.row.2.2.1, .string x.row.2.2.2.1, .string x.row.2.2.2.2, .int .i64 x.prod.pid, .int .i64 x.prod.ep, .int .i64 x.prod.nx, .slice D1 x.prod.seen.length e1])] w (EbPost (encEn x) 0 w) := by
  have hb1 : Below w.heap.size w (w.alloc (.cells #[.int .i8 x.kd, .int .i64 x.b.pid, .int .i64 x.b.ep, .int .i64 x.b.seq, .bool x.b.txn, .slice A1 x.b.rs.length c1, .bool x.yes, .int .i64 x.nx, .int .i64 x.off, .int .i64 x.row.1, .int .i64 x.row.2.1, .int .i64 x.row.2.2.1, .string x.row.2.2.2.1, .string x.row.2.2.2.2, .int .i64 x.prod.pid, .int .i64 x.prod.ep, .int .i64 x.prod.nx, .slice D1 x.prod.seen.length e1] 32)) := bal (Below.refl _ _) _
  have MY := Lib.hid (EnMay_any x A1 D1 c1 e1 _ (hr.up hb1))
  rw [hm] at MY
  have LC := cells_blk (Blk.new w 32 #[.int .i8 x.kd, .int .i64 x.b.pid, .int .i64 x.b.ep, .int .i64 x.b.seq, .bool x.b.txn, .slice A1 x.b.rs.length c1, .bool x.yes, .int .i64 x.nx, .int .i64 x.off, .int .i64 x.row.1, .int .i64 x.row.2.1, .int .i64 x.row.2.2.1, .string x.row.2.2.2.1, .string x.row.2.2.2.2, .int .i64 x.prod.pid, .int .i64 x.prod.ep, .int .i64 x.prod.nx, .slice D1 x.prod.seen.length e1]) rfl
  have KX := Lib.hid (Blk.new w 32 #[.int .i8 x.kd, .int .i64 x.b.pid, .int .i64 x.b.ep, .int .i64 x.b.seq, .bool x.b.txn, .slice A1 x.b.rs.length c1, .bool x.yes, .int .i64 x.nx, .int .i64 x.off, .int .i64 x.row.1, .int .i64 x.row.2.1, .int .i64 x.row.2.2.1, .string x.row.2.2.2.1, .string x.row.2.2.2.2, .int .i64 x.prod.pid, .int .i64 x.prod.ep, .int .i64 x.prod.nx, .slice D1 x.prod.seen.length e1])
  have HB := Lib.hid hb1
  have hok : okEn x = true := by unfold mayEn at hm; rw [Bool.and_eq_true] at hm; exact hm.1
  unfold okEn at hok
  rw [hk] at hok
  have hp : prodB x.b.pid x.b.ep = true := hok
  unfold prodB at hp
  simp only [Bool.and_eq_true, decide_eq_true_eq] at hp
  have HF := Lib.hid hp
  clear hp
  have cwk : IntKind.u8.wrap x.kd = x.kd := by rw [hk]; rfl
  obtain ⟨u, hu, hue⟩ : ∃ u : UInt8, (u.toNat : Int) = x.kd ∧ enc x.kd.toNat = [u] := ⟨1, by rw [hk]; rfl, by rw [hk]; rfl⟩
  have henc : encEn x = [u] ++ (enc x.b.pid.toNat ++ (enc x.b.ep.toNat ++ encY x.yes)) := by unfold encEn encE; rw [hue, hk]; first | rfl | (show [u] ++ (encBt x.b ++ (encY x.yes ++ (cIf x.yes).e x.nx)) = _; cases x.yes <;> rfl)
  obtain ⟨LF, hLF⟩ : ∃ LF, LF = encEn x := ⟨_, rfl⟩
  rw [← hLF] at henc ⊢
  have HENC := Lib.hid henc
  have HU := Lib.hid hu
  have WR := Lib.hid (fun W => ewriting_mark x.kd hk W)
  have HRR := Lib.hid (fun W (h : Below w.heap.size w W) => hr.up h)
  have HG := Lib.hid (fun W (h : Below w.heap.size w W) => hg.up h)
  clear hm hr hb1 hok hk hue henc hLF hu hg
  go_enter Tryz.func11, Tryz.ntmps11
  go_wp2_with fail
  refine MY.out.mono ?_
  rintro e w1 ⟨rfl, b1⟩
  have k1 := KX.out.below b1 KX.out.lt
  have x0 := k1.cell 0
  have ws := wes0_start w1 u
  rw [HU.out] at ws
  have K1 := Lib.hid k1
  have WS := Lib.hid ws
  have B1 := Lib.hid (btrans HB.out b1)
  have B3 := Lib.hid (bal (bal B1.out (.cells #[.int .u8 x.kd] 5)) (.cells #[.slice (some ⟨w1.heap.size, 0, none⟩) 1 1, .int .i64 0] 63))
  have K3 := Lib.hid ((k1.alloc (.cells #[.int .u8 x.kd] 5)).alloc (.cells #[.slice (some ⟨w1.heap.size, 0, none⟩) 1 1, .int .i64 0] 63))
  have hlt1 := k1.lt
  clear k1 ws b1 LC
  go_upto_region 4 with (fail)
  have q0 := K3.out.cell 0
  have qL := cells_blk K3.out rfl
  go_region_held3 (fun W => W.cell? ⟨w.heap.size, 0, none⟩ = some (.int .i8 x.kd) ∧ (loadCells ⟨w.heap.size, 0, none⟩ 18).run Tryz.prog W = .ok #[.int .i8 x.kd, .int .i64 x.b.pid, .int .i64 x.b.ep, .int .i64 x.b.seq, .bool x.b.txn, .slice A1 x.b.rs.length c1, .bool x.yes, .int .i64 x.nx, .int .i64 x.off, .int .i64 x.row.1, .int .i64 x.row.2.1, .int .i64 x.row.2.2.1, .string x.row.2.2.2.1, .string x.row.2.2.2.2, .int .i64 x.prod.pid, .int .i64 x.prod.ep, .int .i64 x.prod.nx, .slice D1 x.prod.seen.length e1] W)
    (first | exact ⟨q0, cells_blk K3.out.drew rfl⟩ | (refine ⟨?_, ?_⟩; exact z0; exact zL) | (refine ⟨?_, ?_⟩; exact y0; exact yL))
    (first
      | (go_at_call 30; refine (WR.out _).mono ?_; rintro e w4 ⟨rfl, b4⟩; have k4 := (K3.out.drew).below b4 K3.out.lt; have y0 := k4.cell 0; have yL := cells_blk k4 rfl; have h4 := WS.out.below ((Below.refl _ _).drew.trans (b4.mono (Nat.le_refl _))); have B4 := Lib.hid (btrans B3.out ((Below.refl _ _).drew.trans (b4.mono (Nat.le_refl _)))))
      | (go_at_call 62; refine (wemark_any _ _ _ _ x A1 D1 c1 e1 _ h4.st (by simp) (by have := HF.out; omega) (by have := HF.out; omega)).mono ?_; rintro e w5 h5; have H5 := Lib.hid h5; have k5 := h5.2.2.blk k4 (fun hs => hs hlt1); have z0 := k5.cell 0; have zL := cells_blk k5 rfl; obtain ⟨rfl, _⟩ := h5))
  all_goals
    obtain ⟨AZ, cZ, kz, oz, _⟩ := H5.out.2.1
    rw [← HENC.out] at kz oz
    have a0 := kz.cell 0
    have a1 := kz.cell 1
    have t1 := run_string_of (P := Tryz.prog) (src := 46) (dst := 9) (c := cZ) Tryz.underlying46 Tryz.underlying5 Tryz.underlying9 (Reads.of_own oz)
    have BZ := Lib.hid (B4.out.trans (H5.out.2.2.below (B := w.heap.size) B4.out.size (fun y hy => by have : ¬ y < w1.heap.size := hy; omega)))
    clear kz oz
    go_wp2_with fail
    go_ret2
    exact ⟨rfl, BZ.out⟩
set_option maxRecDepth 100000 in
set_option maxHeartbeats 8000000 in
theorem EnBytes_2 (x : En) (hk : x.kd = 2) (hm : mayEn x = true) (A1 D1 : Option Addr) (c1 e1 : Nat) (w : World) (hg : HasET w) (hr : EnR w x A1 D1) :
    Calls Tryz.prog 11 #[(.agg #[.int .i8 x.kd, .int .i64 x.b.pid, .int .i64 x.b.ep, .int .i64 x.b.seq, .bool x.b.txn, .slice A1 x.b.rs.length c1, .bool x.yes, .int .i64 x.nx, .int .i64 x.off, .int .i64 x.row.1, .int .i64 x.row.2.1, .int .i64 x.row.2.2.1, .string x.row.2.2.2.1, .string x.row.2.2.2.2, .int .i64 x.prod.pid, .int .i64 x.prod.ep, .int .i64 x.prod.nx, .slice D1 x.prod.seen.length e1])] w (EbPost (encEn x) 0 w) := by
  have hb1 : Below w.heap.size w (w.alloc (.cells #[.int .i8 x.kd, .int .i64 x.b.pid, .int .i64 x.b.ep, .int .i64 x.b.seq, .bool x.b.txn, .slice A1 x.b.rs.length c1, .bool x.yes, .int .i64 x.nx, .int .i64 x.off, .int .i64 x.row.1, .int .i64 x.row.2.1, .int .i64 x.row.2.2.1, .string x.row.2.2.2.1, .string x.row.2.2.2.2, .int .i64 x.prod.pid, .int .i64 x.prod.ep, .int .i64 x.prod.nx, .slice D1 x.prod.seen.length e1] 32)) := bal (Below.refl _ _) _
  have MY := Lib.hid (EnMay_any x A1 D1 c1 e1 _ (hr.up hb1))
  rw [hm] at MY
  have LC := cells_blk (Blk.new w 32 #[.int .i8 x.kd, .int .i64 x.b.pid, .int .i64 x.b.ep, .int .i64 x.b.seq, .bool x.b.txn, .slice A1 x.b.rs.length c1, .bool x.yes, .int .i64 x.nx, .int .i64 x.off, .int .i64 x.row.1, .int .i64 x.row.2.1, .int .i64 x.row.2.2.1, .string x.row.2.2.2.1, .string x.row.2.2.2.2, .int .i64 x.prod.pid, .int .i64 x.prod.ep, .int .i64 x.prod.nx, .slice D1 x.prod.seen.length e1]) rfl
  have KX := Lib.hid (Blk.new w 32 #[.int .i8 x.kd, .int .i64 x.b.pid, .int .i64 x.b.ep, .int .i64 x.b.seq, .bool x.b.txn, .slice A1 x.b.rs.length c1, .bool x.yes, .int .i64 x.nx, .int .i64 x.off, .int .i64 x.row.1, .int .i64 x.row.2.1, .int .i64 x.row.2.2.1, .string x.row.2.2.2.1, .string x.row.2.2.2.2, .int .i64 x.prod.pid, .int .i64 x.prod.ep, .int .i64 x.prod.nx, .slice D1 x.prod.seen.length e1])
  have HB := Lib.hid hb1
  have hok : okEn x = true := by unfold mayEn at hm; rw [Bool.and_eq_true] at hm; exact hm.1
  unfold okEn at hok
  rw [hk] at hok
  have hp : seqB x.off = true := hok
  unfold seqB at hp
  simp only [decide_eq_true_eq] at hp
  have HF := Lib.hid hp
  clear hp
  have cwk : IntKind.u8.wrap x.kd = x.kd := by rw [hk]; rfl
  obtain ⟨u, hu, hue⟩ : ∃ u : UInt8, (u.toNat : Int) = x.kd ∧ enc x.kd.toNat = [u] := ⟨2, by rw [hk]; rfl, by rw [hk]; rfl⟩
  have henc : encEn x = [u] ++ enc x.off.toNat := by unfold encEn encE; rw [hue, hk]; first | rfl | (show [u] ++ (encBt x.b ++ (encY x.yes ++ (cIf x.yes).e x.nx)) = _; cases x.yes <;> rfl)
  obtain ⟨LF, hLF⟩ : ∃ LF, LF = encEn x := ⟨_, rfl⟩
  rw [← hLF] at henc ⊢
  have HENC := Lib.hid henc
  have HU := Lib.hid hu
  have WR := Lib.hid (fun W => ewriting_cut x.kd hk W)
  have HRR := Lib.hid (fun W (h : Below w.heap.size w W) => hr.up h)
  have HG := Lib.hid (fun W (h : Below w.heap.size w W) => hg.up h)
  clear hm hr hb1 hok hk hue henc hLF hu hg
  go_enter Tryz.func11, Tryz.ntmps11
  go_wp2_with fail
  refine MY.out.mono ?_
  rintro e w1 ⟨rfl, b1⟩
  have k1 := KX.out.below b1 KX.out.lt
  have x0 := k1.cell 0
  have ws := wes0_start w1 u
  rw [HU.out] at ws
  have K1 := Lib.hid k1
  have WS := Lib.hid ws
  have B1 := Lib.hid (btrans HB.out b1)
  have B3 := Lib.hid (bal (bal B1.out (.cells #[.int .u8 x.kd] 5)) (.cells #[.slice (some ⟨w1.heap.size, 0, none⟩) 1 1, .int .i64 0] 63))
  have K3 := Lib.hid ((k1.alloc (.cells #[.int .u8 x.kd] 5)).alloc (.cells #[.slice (some ⟨w1.heap.size, 0, none⟩) 1 1, .int .i64 0] 63))
  have hlt1 := k1.lt
  clear k1 ws b1 LC
  go_upto_region 4 with (fail)
  have q0 := K3.out.cell 0
  have qL := cells_blk K3.out rfl
  go_region_held3 (fun W => W.cell? ⟨w.heap.size, 0, none⟩ = some (.int .i8 x.kd) ∧ (loadCells ⟨w.heap.size, 0, none⟩ 18).run Tryz.prog W = .ok #[.int .i8 x.kd, .int .i64 x.b.pid, .int .i64 x.b.ep, .int .i64 x.b.seq, .bool x.b.txn, .slice A1 x.b.rs.length c1, .bool x.yes, .int .i64 x.nx, .int .i64 x.off, .int .i64 x.row.1, .int .i64 x.row.2.1, .int .i64 x.row.2.2.1, .string x.row.2.2.2.1, .string x.row.2.2.2.2, .int .i64 x.prod.pid, .int .i64 x.prod.ep, .int .i64 x.prod.nx, .slice D1 x.prod.seen.length e1] W)
    (first | exact ⟨q0, cells_blk K3.out.drew rfl⟩ | (refine ⟨?_, ?_⟩; exact z0; exact zL) | (refine ⟨?_, ?_⟩; exact y0; exact yL))
    (first
      | (go_at_call 30; refine (WR.out _).mono ?_; rintro e w4 ⟨rfl, b4⟩; have k4 := (K3.out.drew).below b4 K3.out.lt; have y0 := k4.cell 0; have yL := cells_blk k4 rfl; have h4 := WS.out.below ((Below.refl _ _).drew.trans (b4.mono (Nat.le_refl _))); have B4 := Lib.hid (btrans B3.out ((Below.refl _ _).drew.trans (b4.mono (Nat.le_refl _)))))
      | (go_at_call 63; refine (wecut_any _ _ _ _ x A1 D1 c1 e1 _ h4.st (by simp) HF.out).mono ?_; rintro e w5 h5; have H5 := Lib.hid h5; have k5 := h5.2.2.blk k4 (fun hs => hs hlt1); have z0 := k5.cell 0; have zL := cells_blk k5 rfl; obtain ⟨rfl, _⟩ := h5))
  all_goals
    obtain ⟨AZ, cZ, kz, oz, _⟩ := H5.out.2.1
    rw [← HENC.out] at kz oz
    have a0 := kz.cell 0
    have a1 := kz.cell 1
    have t1 := run_string_of (P := Tryz.prog) (src := 46) (dst := 9) (c := cZ) Tryz.underlying46 Tryz.underlying5 Tryz.underlying9 (Reads.of_own oz)
    have BZ := Lib.hid (B4.out.trans (H5.out.2.2.below (B := w.heap.size) B4.out.size (fun y hy => by have : ¬ y < w1.heap.size := hy; omega)))
    clear kz oz
    go_wp2_with fail
    go_ret2
    exact ⟨rfl, BZ.out⟩
set_option maxRecDepth 100000 in
set_option maxHeartbeats 8000000 in
theorem EnBytes_3 (x : En) (hk : x.kd = 3) (hm : mayEn x = true) (A1 D1 : Option Addr) (c1 e1 : Nat) (w : World) (hg : HasET w) (hr : EnR w x A1 D1) :
    Calls Tryz.prog 11 #[(.agg #[.int .i8 x.kd, .int .i64 x.b.pid, .int .i64 x.b.ep, .int .i64 x.b.seq, .bool x.b.txn, .slice A1 x.b.rs.length c1, .bool x.yes, .int .i64 x.nx, .int .i64 x.off, .int .i64 x.row.1, .int .i64 x.row.2.1, .int .i64 x.row.2.2.1, .string x.row.2.2.2.1, .string x.row.2.2.2.2, .int .i64 x.prod.pid, .int .i64 x.prod.ep, .int .i64 x.prod.nx, .slice D1 x.prod.seen.length e1])] w (EbPost (encEn x) 0 w) := by
  have hb1 : Below w.heap.size w (w.alloc (.cells #[.int .i8 x.kd, .int .i64 x.b.pid, .int .i64 x.b.ep, .int .i64 x.b.seq, .bool x.b.txn, .slice A1 x.b.rs.length c1, .bool x.yes, .int .i64 x.nx, .int .i64 x.off, .int .i64 x.row.1, .int .i64 x.row.2.1, .int .i64 x.row.2.2.1, .string x.row.2.2.2.1, .string x.row.2.2.2.2, .int .i64 x.prod.pid, .int .i64 x.prod.ep, .int .i64 x.prod.nx, .slice D1 x.prod.seen.length e1] 32)) := bal (Below.refl _ _) _
  have MY := Lib.hid (EnMay_any x A1 D1 c1 e1 _ (hr.up hb1))
  rw [hm] at MY
  have LC := cells_blk (Blk.new w 32 #[.int .i8 x.kd, .int .i64 x.b.pid, .int .i64 x.b.ep, .int .i64 x.b.seq, .bool x.b.txn, .slice A1 x.b.rs.length c1, .bool x.yes, .int .i64 x.nx, .int .i64 x.off, .int .i64 x.row.1, .int .i64 x.row.2.1, .int .i64 x.row.2.2.1, .string x.row.2.2.2.1, .string x.row.2.2.2.2, .int .i64 x.prod.pid, .int .i64 x.prod.ep, .int .i64 x.prod.nx, .slice D1 x.prod.seen.length e1]) rfl
  have KX := Lib.hid (Blk.new w 32 #[.int .i8 x.kd, .int .i64 x.b.pid, .int .i64 x.b.ep, .int .i64 x.b.seq, .bool x.b.txn, .slice A1 x.b.rs.length c1, .bool x.yes, .int .i64 x.nx, .int .i64 x.off, .int .i64 x.row.1, .int .i64 x.row.2.1, .int .i64 x.row.2.2.1, .string x.row.2.2.2.1, .string x.row.2.2.2.2, .int .i64 x.prod.pid, .int .i64 x.prod.ep, .int .i64 x.prod.nx, .slice D1 x.prod.seen.length e1])
  have HB := Lib.hid hb1
  have hok : okEn x = true := by unfold mayEn at hm; rw [Bool.and_eq_true] at hm; exact hm.1
  unfold okEn at hok
  rw [hk] at hok
  have hp : ((x.b.txn && (!x.yes || seqB x.nx)) && mayBt x.b) = true := hok
  rw [Bool.and_eq_true, Bool.and_eq_true] at hp
  have hq : x.yes = true → 0 ≤ x.nx ∧ x.nx ≤ 1048576 := fun hy => by
    have := hp.1.2
    rw [hy] at this
    unfold seqB at this
    simpa using this
  have HF := Lib.hid hp
  have HQ := Lib.hid hq
  clear hp hq
  have cwk : IntKind.u8.wrap x.kd = x.kd := by rw [hk]; rfl
  obtain ⟨u, hu, hue⟩ : ∃ u : UInt8, (u.toNat : Int) = x.kd ∧ enc x.kd.toNat = [u] := ⟨3, by rw [hk]; rfl, by rw [hk]; rfl⟩
  have henc : encEn x = [u] ++ (encBt x.b ++ (encY x.yes ++ if x.yes then enc x.nx.toNat else [])) := by unfold encEn encE; rw [hue, hk]; first | rfl | (show [u] ++ (encBt x.b ++ (encY x.yes ++ (cIf x.yes).e x.nx)) = _; cases x.yes <;> rfl)
  obtain ⟨LF, hLF⟩ : ∃ LF, LF = encEn x := ⟨_, rfl⟩
  rw [← hLF] at henc ⊢
  have HENC := Lib.hid henc
  have HU := Lib.hid hu
  have WR := Lib.hid (fun W => ewriting_copied x.kd hk W)
  have HRR := Lib.hid (fun W (h : Below w.heap.size w W) => hr.up h)
  have HG := Lib.hid (fun W (h : Below w.heap.size w W) => hg.up h)
  clear hm hr hb1 hok hk hue henc hLF hu hg
  go_enter Tryz.func11, Tryz.ntmps11
  go_wp2_with fail
  refine MY.out.mono ?_
  rintro e w1 ⟨rfl, b1⟩
  have k1 := KX.out.below b1 KX.out.lt
  have x0 := k1.cell 0
  have ws := wes0_start w1 u
  rw [HU.out] at ws
  have K1 := Lib.hid k1
  have WS := Lib.hid ws
  have B1 := Lib.hid (btrans HB.out b1)
  have B3 := Lib.hid (bal (bal B1.out (.cells #[.int .u8 x.kd] 5)) (.cells #[.slice (some ⟨w1.heap.size, 0, none⟩) 1 1, .int .i64 0] 63))
  have K3 := Lib.hid ((k1.alloc (.cells #[.int .u8 x.kd] 5)).alloc (.cells #[.slice (some ⟨w1.heap.size, 0, none⟩) 1 1, .int .i64 0] 63))
  have hlt1 := k1.lt
  clear k1 ws b1 LC
  go_upto_region 4 with (fail)
  have q0 := K3.out.cell 0
  have qL := cells_blk K3.out rfl
  go_region_held3 (fun W => W.cell? ⟨w.heap.size, 0, none⟩ = some (.int .i8 x.kd) ∧ (loadCells ⟨w.heap.size, 0, none⟩ 18).run Tryz.prog W = .ok #[.int .i8 x.kd, .int .i64 x.b.pid, .int .i64 x.b.ep, .int .i64 x.b.seq, .bool x.b.txn, .slice A1 x.b.rs.length c1, .bool x.yes, .int .i64 x.nx, .int .i64 x.off, .int .i64 x.row.1, .int .i64 x.row.2.1, .int .i64 x.row.2.2.1, .string x.row.2.2.2.1, .string x.row.2.2.2.2, .int .i64 x.prod.pid, .int .i64 x.prod.ep, .int .i64 x.prod.nx, .slice D1 x.prod.seen.length e1] W)
    (first | exact ⟨q0, cells_blk K3.out.drew rfl⟩ | (refine ⟨?_, ?_⟩; exact z0; exact zL) | (refine ⟨?_, ?_⟩; exact y0; exact yL))
    (first
      | (go_at_call 30; refine (WR.out _).mono ?_; rintro e w4 ⟨rfl, b4⟩; have k4 := (K3.out.drew).below b4 K3.out.lt; have y0 := k4.cell 0; have yL := cells_blk k4 rfl; have h4 := WS.out.below ((Below.refl _ _).drew.trans (b4.mono (Nat.le_refl _))); have B4 := Lib.hid (btrans B3.out ((Below.refl _ _).drew.trans (b4.mono (Nat.le_refl _)))))
      | (go_at_call 64; refine (wecopied_any _ _ _ _ _ x A1 D1 c1 e1 _ (HG.out _ B4.out) h4 (by simp) HF.out.2 (HRR.out _ B4.out).1 HQ.out).mono ?_; rintro e w5 h5; have H5 := Lib.hid h5; have k5 := h5.2.2.blk k4 (fun hs => hs hlt1); have z0 := k5.cell 0; have zL := cells_blk k5 rfl; obtain ⟨rfl, _⟩ := h5))
  all_goals
    obtain ⟨AZ, cZ, kz, oz, _⟩ := H5.out.2.1
    rw [← HENC.out] at kz oz
    have a0 := kz.cell 0
    have a1 := kz.cell 1
    have t1 := run_string_of (P := Tryz.prog) (src := 46) (dst := 9) (c := cZ) Tryz.underlying46 Tryz.underlying5 Tryz.underlying9 (Reads.of_own oz)
    have BZ := Lib.hid (B4.out.trans (H5.out.2.2.below (B := w.heap.size) B4.out.size (fun y hy => by have : ¬ y < w1.heap.size := hy; omega)))
    clear kz oz
    go_wp2_with fail
    go_ret2
    exact ⟨rfl, BZ.out⟩
set_option maxRecDepth 100000 in
set_option maxHeartbeats 8000000 in
theorem EnBytes_4 (x : En) (hk : x.kd = 4) (hm : mayEn x = true) (A1 D1 : Option Addr) (c1 e1 : Nat) (w : World) (hg : HasET w) (hr : EnR w x A1 D1) :
    Calls Tryz.prog 11 #[(.agg #[.int .i8 x.kd, .int .i64 x.b.pid, .int .i64 x.b.ep, .int .i64 x.b.seq, .bool x.b.txn, .slice A1 x.b.rs.length c1, .bool x.yes, .int .i64 x.nx, .int .i64 x.off, .int .i64 x.row.1, .int .i64 x.row.2.1, .int .i64 x.row.2.2.1, .string x.row.2.2.2.1, .string x.row.2.2.2.2, .int .i64 x.prod.pid, .int .i64 x.prod.ep, .int .i64 x.prod.nx, .slice D1 x.prod.seen.length e1])] w (EbPost (encEn x) 0 w) := by
  have hb1 : Below w.heap.size w (w.alloc (.cells #[.int .i8 x.kd, .int .i64 x.b.pid, .int .i64 x.b.ep, .int .i64 x.b.seq, .bool x.b.txn, .slice A1 x.b.rs.length c1, .bool x.yes, .int .i64 x.nx, .int .i64 x.off, .int .i64 x.row.1, .int .i64 x.row.2.1, .int .i64 x.row.2.2.1, .string x.row.2.2.2.1, .string x.row.2.2.2.2, .int .i64 x.prod.pid, .int .i64 x.prod.ep, .int .i64 x.prod.nx, .slice D1 x.prod.seen.length e1] 32)) := bal (Below.refl _ _) _
  have MY := Lib.hid (EnMay_any x A1 D1 c1 e1 _ (hr.up hb1))
  rw [hm] at MY
  have LC := cells_blk (Blk.new w 32 #[.int .i8 x.kd, .int .i64 x.b.pid, .int .i64 x.b.ep, .int .i64 x.b.seq, .bool x.b.txn, .slice A1 x.b.rs.length c1, .bool x.yes, .int .i64 x.nx, .int .i64 x.off, .int .i64 x.row.1, .int .i64 x.row.2.1, .int .i64 x.row.2.2.1, .string x.row.2.2.2.1, .string x.row.2.2.2.2, .int .i64 x.prod.pid, .int .i64 x.prod.ep, .int .i64 x.prod.nx, .slice D1 x.prod.seen.length e1]) rfl
  have KX := Lib.hid (Blk.new w 32 #[.int .i8 x.kd, .int .i64 x.b.pid, .int .i64 x.b.ep, .int .i64 x.b.seq, .bool x.b.txn, .slice A1 x.b.rs.length c1, .bool x.yes, .int .i64 x.nx, .int .i64 x.off, .int .i64 x.row.1, .int .i64 x.row.2.1, .int .i64 x.row.2.2.1, .string x.row.2.2.2.1, .string x.row.2.2.2.2, .int .i64 x.prod.pid, .int .i64 x.prod.ep, .int .i64 x.prod.nx, .slice D1 x.prod.seen.length e1])
  have HB := Lib.hid hb1
  have hok : okEn x = true := by unfold mayEn at hm; rw [Bool.and_eq_true] at hm; exact hm.1
  unfold okEn at hok
  rw [hk] at hok
  have hp : ((!x.yes && seqB x.nx) && prodB x.b.pid x.b.ep) = true := hok
  unfold prodB seqB at hp
  simp only [Bool.and_eq_true, decide_eq_true_eq] at hp
  have HF := Lib.hid hp
  clear hp
  have cwk : IntKind.u8.wrap x.kd = x.kd := by rw [hk]; rfl
  obtain ⟨u, hu, hue⟩ : ∃ u : UInt8, (u.toNat : Int) = x.kd ∧ enc x.kd.toNat = [u] := ⟨4, by rw [hk]; rfl, by rw [hk]; rfl⟩
  have henc : encEn x = [u] ++ (enc x.b.pid.toNat ++ (enc x.b.ep.toNat ++ enc x.nx.toNat)) := by unfold encEn encE; rw [hue, hk]; first | rfl | (show [u] ++ (encBt x.b ++ (encY x.yes ++ (cIf x.yes).e x.nx)) = _; cases x.yes <;> rfl)
  obtain ⟨LF, hLF⟩ : ∃ LF, LF = encEn x := ⟨_, rfl⟩
  rw [← hLF] at henc ⊢
  have HENC := Lib.hid henc
  have HU := Lib.hid hu
  have WR := Lib.hid (fun W => ewriting_drop x.kd hk W)
  have HRR := Lib.hid (fun W (h : Below w.heap.size w W) => hr.up h)
  have HG := Lib.hid (fun W (h : Below w.heap.size w W) => hg.up h)
  clear hm hr hb1 hok hk hue henc hLF hu hg
  go_enter Tryz.func11, Tryz.ntmps11
  go_wp2_with fail
  refine MY.out.mono ?_
  rintro e w1 ⟨rfl, b1⟩
  have k1 := KX.out.below b1 KX.out.lt
  have x0 := k1.cell 0
  have ws := wes0_start w1 u
  rw [HU.out] at ws
  have K1 := Lib.hid k1
  have WS := Lib.hid ws
  have B1 := Lib.hid (btrans HB.out b1)
  have B3 := Lib.hid (bal (bal B1.out (.cells #[.int .u8 x.kd] 5)) (.cells #[.slice (some ⟨w1.heap.size, 0, none⟩) 1 1, .int .i64 0] 63))
  have K3 := Lib.hid ((k1.alloc (.cells #[.int .u8 x.kd] 5)).alloc (.cells #[.slice (some ⟨w1.heap.size, 0, none⟩) 1 1, .int .i64 0] 63))
  have hlt1 := k1.lt
  clear k1 ws b1 LC
  go_upto_region 4 with (fail)
  have q0 := K3.out.cell 0
  have qL := cells_blk K3.out rfl
  go_region_held3 (fun W => W.cell? ⟨w.heap.size, 0, none⟩ = some (.int .i8 x.kd) ∧ (loadCells ⟨w.heap.size, 0, none⟩ 18).run Tryz.prog W = .ok #[.int .i8 x.kd, .int .i64 x.b.pid, .int .i64 x.b.ep, .int .i64 x.b.seq, .bool x.b.txn, .slice A1 x.b.rs.length c1, .bool x.yes, .int .i64 x.nx, .int .i64 x.off, .int .i64 x.row.1, .int .i64 x.row.2.1, .int .i64 x.row.2.2.1, .string x.row.2.2.2.1, .string x.row.2.2.2.2, .int .i64 x.prod.pid, .int .i64 x.prod.ep, .int .i64 x.prod.nx, .slice D1 x.prod.seen.length e1] W)
    (first | exact ⟨q0, cells_blk K3.out.drew rfl⟩ | (refine ⟨?_, ?_⟩; exact z0; exact zL) | (refine ⟨?_, ?_⟩; exact y0; exact yL))
    (first
      | (go_at_call 30; refine (WR.out _).mono ?_; rintro e w4 ⟨rfl, b4⟩; have k4 := (K3.out.drew).below b4 K3.out.lt; have y0 := k4.cell 0; have yL := cells_blk k4 rfl; have h4 := WS.out.below ((Below.refl _ _).drew.trans (b4.mono (Nat.le_refl _))); have B4 := Lib.hid (btrans B3.out ((Below.refl _ _).drew.trans (b4.mono (Nat.le_refl _)))))
      | (go_at_call 65; refine (wedrop_any _ _ _ _ x A1 D1 c1 e1 _ h4.st (by simp) (by have := HF.out.2; omega) (by have := HF.out.2; omega) HF.out.1.2).mono ?_; rintro e w5 h5; have H5 := Lib.hid h5; have k5 := h5.2.2.blk k4 (fun hs => hs hlt1); have z0 := k5.cell 0; have zL := cells_blk k5 rfl; obtain ⟨rfl, _⟩ := h5))
  all_goals
    obtain ⟨AZ, cZ, kz, oz, _⟩ := H5.out.2.1
    rw [← HENC.out] at kz oz
    have a0 := kz.cell 0
    have a1 := kz.cell 1
    have t1 := run_string_of (P := Tryz.prog) (src := 46) (dst := 9) (c := cZ) Tryz.underlying46 Tryz.underlying5 Tryz.underlying9 (Reads.of_own oz)
    have BZ := Lib.hid (B4.out.trans (H5.out.2.2.below (B := w.heap.size) B4.out.size (fun y hy => by have : ¬ y < w1.heap.size := hy; omega)))
    clear kz oz
    go_wp2_with fail
    go_ret2
    exact ⟨rfl, BZ.out⟩
set_option maxRecDepth 100000 in
set_option maxHeartbeats 8000000 in
theorem EnBytes_5 (x : En) (hk : x.kd = 5) (hm : mayEn x = true) (A1 D1 : Option Addr) (c1 e1 : Nat) (w : World) (hg : HasET w) (hr : EnR w x A1 D1) :
    Calls Tryz.prog 11 #[(.agg #[.int .i8 x.kd, .int .i64 x.b.pid, .int .i64 x.b.ep, .int .i64 x.b.seq, .bool x.b.txn, .slice A1 x.b.rs.length c1, .bool x.yes, .int .i64 x.nx, .int .i64 x.off, .int .i64 x.row.1, .int .i64 x.row.2.1, .int .i64 x.row.2.2.1, .string x.row.2.2.2.1, .string x.row.2.2.2.2, .int .i64 x.prod.pid, .int .i64 x.prod.ep, .int .i64 x.prod.nx, .slice D1 x.prod.seen.length e1])] w (EbPost (encEn x) 0 w) := by
  have hb1 : Below w.heap.size w (w.alloc (.cells #[.int .i8 x.kd, .int .i64 x.b.pid, .int .i64 x.b.ep, .int .i64 x.b.seq, .bool x.b.txn, .slice A1 x.b.rs.length c1, .bool x.yes, .int .i64 x.nx, .int .i64 x.off, .int .i64 x.row.1, .int .i64 x.row.2.1, .int .i64 x.row.2.2.1, .string x.row.2.2.2.1, .string x.row.2.2.2.2, .int .i64 x.prod.pid, .int .i64 x.prod.ep, .int .i64 x.prod.nx, .slice D1 x.prod.seen.length e1] 32)) := bal (Below.refl _ _) _
  have MY := Lib.hid (EnMay_any x A1 D1 c1 e1 _ (hr.up hb1))
  rw [hm] at MY
  have LC := cells_blk (Blk.new w 32 #[.int .i8 x.kd, .int .i64 x.b.pid, .int .i64 x.b.ep, .int .i64 x.b.seq, .bool x.b.txn, .slice A1 x.b.rs.length c1, .bool x.yes, .int .i64 x.nx, .int .i64 x.off, .int .i64 x.row.1, .int .i64 x.row.2.1, .int .i64 x.row.2.2.1, .string x.row.2.2.2.1, .string x.row.2.2.2.2, .int .i64 x.prod.pid, .int .i64 x.prod.ep, .int .i64 x.prod.nx, .slice D1 x.prod.seen.length e1]) rfl
  have KX := Lib.hid (Blk.new w 32 #[.int .i8 x.kd, .int .i64 x.b.pid, .int .i64 x.b.ep, .int .i64 x.b.seq, .bool x.b.txn, .slice A1 x.b.rs.length c1, .bool x.yes, .int .i64 x.nx, .int .i64 x.off, .int .i64 x.row.1, .int .i64 x.row.2.1, .int .i64 x.row.2.2.1, .string x.row.2.2.2.1, .string x.row.2.2.2.2, .int .i64 x.prod.pid, .int .i64 x.prod.ep, .int .i64 x.prod.nx, .slice D1 x.prod.seen.length e1])
  have HB := Lib.hid hb1
  have hok : okEn x = true := by unfold mayEn at hm; rw [Bool.and_eq_true] at hm; exact hm.1
  unfold okEn at hok
  rw [hk] at hok
  have hp : rowB x.row = true := hok
  unfold rowB at hp
  simp only [Bool.and_eq_true, decide_eq_true_eq] at hp
  have HF := Lib.hid hp
  clear hp
  have cwk : IntKind.u8.wrap x.kd = x.kd := by rw [hk]; rfl
  obtain ⟨u, hu, hue⟩ : ∃ u : UInt8, (u.toNat : Int) = x.kd ∧ enc x.kd.toNat = [u] := ⟨5, by rw [hk]; rfl, by rw [hk]; rfl⟩
  have henc : encEn x = [u] ++ (enc x.row.2.1.toNat ++ (enc x.row.2.2.1.toNat ++ ((cTxt 1024).e (lb x.row.2.2.2.1) ++ (cTxt 1024).e (lb x.row.2.2.2.2)))) := by unfold encEn encE; rw [hue, hk]; first | rfl | (show [u] ++ (encBt x.b ++ (encY x.yes ++ (cIf x.yes).e x.nx)) = _; cases x.yes <;> rfl)
  obtain ⟨LF, hLF⟩ : ∃ LF, LF = encEn x := ⟨_, rfl⟩
  rw [← hLF] at henc ⊢
  have HENC := Lib.hid henc
  have HU := Lib.hid hu
  have WR := Lib.hid (fun W => ewriting_row x.kd hk W)
  have HRR := Lib.hid (fun W (h : Below w.heap.size w W) => hr.up h)
  have HG := Lib.hid (fun W (h : Below w.heap.size w W) => hg.up h)
  clear hm hr hb1 hok hk hue henc hLF hu hg
  go_enter Tryz.func11, Tryz.ntmps11
  go_wp2_with fail
  refine MY.out.mono ?_
  rintro e w1 ⟨rfl, b1⟩
  have k1 := KX.out.below b1 KX.out.lt
  have x0 := k1.cell 0
  have ws := wes0_start w1 u
  rw [HU.out] at ws
  have K1 := Lib.hid k1
  have WS := Lib.hid ws
  have B1 := Lib.hid (btrans HB.out b1)
  have B3 := Lib.hid (bal (bal B1.out (.cells #[.int .u8 x.kd] 5)) (.cells #[.slice (some ⟨w1.heap.size, 0, none⟩) 1 1, .int .i64 0] 63))
  have K3 := Lib.hid ((k1.alloc (.cells #[.int .u8 x.kd] 5)).alloc (.cells #[.slice (some ⟨w1.heap.size, 0, none⟩) 1 1, .int .i64 0] 63))
  have hlt1 := k1.lt
  clear k1 ws b1 LC
  go_upto_region 4 with (fail)
  have q0 := K3.out.cell 0
  have qL := cells_blk K3.out rfl
  go_region_held3 (fun W => W.cell? ⟨w.heap.size, 0, none⟩ = some (.int .i8 x.kd) ∧ (loadCells ⟨w.heap.size, 0, none⟩ 18).run Tryz.prog W = .ok #[.int .i8 x.kd, .int .i64 x.b.pid, .int .i64 x.b.ep, .int .i64 x.b.seq, .bool x.b.txn, .slice A1 x.b.rs.length c1, .bool x.yes, .int .i64 x.nx, .int .i64 x.off, .int .i64 x.row.1, .int .i64 x.row.2.1, .int .i64 x.row.2.2.1, .string x.row.2.2.2.1, .string x.row.2.2.2.2, .int .i64 x.prod.pid, .int .i64 x.prod.ep, .int .i64 x.prod.nx, .slice D1 x.prod.seen.length e1] W)
    (first | exact ⟨q0, cells_blk K3.out.drew rfl⟩ | (refine ⟨?_, ?_⟩; exact z0; exact zL) | (refine ⟨?_, ?_⟩; exact y0; exact yL))
    (first
      | (go_at_call 30; refine (WR.out _).mono ?_; rintro e w4 ⟨rfl, b4⟩; have k4 := (K3.out.drew).below b4 K3.out.lt; have y0 := k4.cell 0; have yL := cells_blk k4 rfl; have h4 := WS.out.below ((Below.refl _ _).drew.trans (b4.mono (Nat.le_refl _))); have B4 := Lib.hid (btrans B3.out ((Below.refl _ _).drew.trans (b4.mono (Nat.le_refl _)))))
      | (go_at_call 66; refine (werow_any _ _ _ _ x A1 D1 c1 e1 _ h4.st (by simp) (by have := HF.out; omega) (by have := HF.out; omega) HF.out.2.2.2.1 HF.out.2.2.2.2).mono ?_; rintro e w5 h5; have H5 := Lib.hid h5; have k5 := h5.2.2.blk k4 (fun hs => hs hlt1); have z0 := k5.cell 0; have zL := cells_blk k5 rfl; obtain ⟨rfl, _⟩ := h5))
  all_goals
    obtain ⟨AZ, cZ, kz, oz, _⟩ := H5.out.2.1
    rw [← HENC.out] at kz oz
    have a0 := kz.cell 0
    have a1 := kz.cell 1
    have t1 := run_string_of (P := Tryz.prog) (src := 46) (dst := 9) (c := cZ) Tryz.underlying46 Tryz.underlying5 Tryz.underlying9 (Reads.of_own oz)
    have BZ := Lib.hid (B4.out.trans (H5.out.2.2.below (B := w.heap.size) B4.out.size (fun y hy => by have : ¬ y < w1.heap.size := hy; omega)))
    clear kz oz
    go_wp2_with fail
    go_ret2
    exact ⟨rfl, BZ.out⟩
set_option maxRecDepth 100000 in
set_option maxHeartbeats 8000000 in
theorem EnBytes_6 (x : En) (hk : x.kd = 6) (hm : mayEn x = true) (A1 D1 : Option Addr) (c1 e1 : Nat) (w : World) (hg : HasET w) (hr : EnR w x A1 D1) :
    Calls Tryz.prog 11 #[(.agg #[.int .i8 x.kd, .int .i64 x.b.pid, .int .i64 x.b.ep, .int .i64 x.b.seq, .bool x.b.txn, .slice A1 x.b.rs.length c1, .bool x.yes, .int .i64 x.nx, .int .i64 x.off, .int .i64 x.row.1, .int .i64 x.row.2.1, .int .i64 x.row.2.2.1, .string x.row.2.2.2.1, .string x.row.2.2.2.2, .int .i64 x.prod.pid, .int .i64 x.prod.ep, .int .i64 x.prod.nx, .slice D1 x.prod.seen.length e1])] w (EbPost (encEn x) 0 w) := by
  have hb1 : Below w.heap.size w (w.alloc (.cells #[.int .i8 x.kd, .int .i64 x.b.pid, .int .i64 x.b.ep, .int .i64 x.b.seq, .bool x.b.txn, .slice A1 x.b.rs.length c1, .bool x.yes, .int .i64 x.nx, .int .i64 x.off, .int .i64 x.row.1, .int .i64 x.row.2.1, .int .i64 x.row.2.2.1, .string x.row.2.2.2.1, .string x.row.2.2.2.2, .int .i64 x.prod.pid, .int .i64 x.prod.ep, .int .i64 x.prod.nx, .slice D1 x.prod.seen.length e1] 32)) := bal (Below.refl _ _) _
  have MY := Lib.hid (EnMay_any x A1 D1 c1 e1 _ (hr.up hb1))
  rw [hm] at MY
  have LC := cells_blk (Blk.new w 32 #[.int .i8 x.kd, .int .i64 x.b.pid, .int .i64 x.b.ep, .int .i64 x.b.seq, .bool x.b.txn, .slice A1 x.b.rs.length c1, .bool x.yes, .int .i64 x.nx, .int .i64 x.off, .int .i64 x.row.1, .int .i64 x.row.2.1, .int .i64 x.row.2.2.1, .string x.row.2.2.2.1, .string x.row.2.2.2.2, .int .i64 x.prod.pid, .int .i64 x.prod.ep, .int .i64 x.prod.nx, .slice D1 x.prod.seen.length e1]) rfl
  have KX := Lib.hid (Blk.new w 32 #[.int .i8 x.kd, .int .i64 x.b.pid, .int .i64 x.b.ep, .int .i64 x.b.seq, .bool x.b.txn, .slice A1 x.b.rs.length c1, .bool x.yes, .int .i64 x.nx, .int .i64 x.off, .int .i64 x.row.1, .int .i64 x.row.2.1, .int .i64 x.row.2.2.1, .string x.row.2.2.2.1, .string x.row.2.2.2.2, .int .i64 x.prod.pid, .int .i64 x.prod.ep, .int .i64 x.prod.nx, .slice D1 x.prod.seen.length e1])
  have HB := Lib.hid hb1
  have hok : okEn x = true := by unfold mayEn at hm; rw [Bool.and_eq_true] at hm; exact hm.1
  unfold okEn at hok
  rw [hk] at hok
  have hp : knownB x.prod = true := hok
  have HF := Lib.hid (known_facts hp)
  clear hp
  have cwk : IntKind.u8.wrap x.kd = x.kd := by rw [hk]; rfl
  obtain ⟨u, hu, hue⟩ : ∃ u : UInt8, (u.toNat : Int) = x.kd ∧ enc x.kd.toNat = [u] := ⟨6, by rw [hk]; rfl, by rw [hk]; rfl⟩
  have henc : encEn x = [u] ++ (enc x.prod.pid.toNat ++ (enc x.prod.ep.toNat ++ (enc x.prod.nx.toNat ++ (enc x.prod.seen.length ++ x.prod.seen.flatMap encSn)))) := by unfold encEn encE; rw [hue, hk]; first | rfl | (show [u] ++ (encBt x.b ++ (encY x.yes ++ (cIf x.yes).e x.nx)) = _; cases x.yes <;> rfl)
  obtain ⟨LF, hLF⟩ : ∃ LF, LF = encEn x := ⟨_, rfl⟩
  rw [← hLF] at henc ⊢
  have HENC := Lib.hid henc
  have HU := Lib.hid hu
  have WR := Lib.hid (fun W => ewriting_state x.kd hk W)
  have HRD := Lib.hid (fun W (h : Below w.heap.size w W) => hr.2.1.below h)
  have HRR := Lib.hid (fun W (h : Below w.heap.size w W) => hr.up h)
  have HG := Lib.hid (fun W (h : Below w.heap.size w W) => hg.up h)
  clear hm hr hb1 hok hk hue henc hLF hu hg
  go_enter Tryz.func11, Tryz.ntmps11
  go_wp2_with fail
  refine MY.out.mono ?_
  rintro e w1 ⟨rfl, b1⟩
  have k1 := KX.out.below b1 KX.out.lt
  have x0 := k1.cell 0
  have ws := wes0_start w1 u
  rw [HU.out] at ws
  have K1 := Lib.hid k1
  have WS := Lib.hid ws
  have B1 := Lib.hid (btrans HB.out b1)
  have B3 := Lib.hid (bal (bal B1.out (.cells #[.int .u8 x.kd] 5)) (.cells #[.slice (some ⟨w1.heap.size, 0, none⟩) 1 1, .int .i64 0] 63))
  have K3 := Lib.hid ((k1.alloc (.cells #[.int .u8 x.kd] 5)).alloc (.cells #[.slice (some ⟨w1.heap.size, 0, none⟩) 1 1, .int .i64 0] 63))
  have hlt1 := k1.lt
  clear k1 ws b1 LC
  go_upto_region 4 with (fail)
  have q0 := K3.out.cell 0
  have qL := cells_blk K3.out rfl
  go_region_held3 (fun W => W.cell? ⟨w.heap.size, 0, none⟩ = some (.int .i8 x.kd) ∧ (loadCells ⟨w.heap.size, 0, none⟩ 18).run Tryz.prog W = .ok #[.int .i8 x.kd, .int .i64 x.b.pid, .int .i64 x.b.ep, .int .i64 x.b.seq, .bool x.b.txn, .slice A1 x.b.rs.length c1, .bool x.yes, .int .i64 x.nx, .int .i64 x.off, .int .i64 x.row.1, .int .i64 x.row.2.1, .int .i64 x.row.2.2.1, .string x.row.2.2.2.1, .string x.row.2.2.2.2, .int .i64 x.prod.pid, .int .i64 x.prod.ep, .int .i64 x.prod.nx, .slice D1 x.prod.seen.length e1] W)
    (first | exact ⟨q0, cells_blk K3.out.drew rfl⟩ | (refine ⟨?_, ?_⟩; exact z0; exact zL) | (refine ⟨?_, ?_⟩; exact y0; exact yL))
    (first
      | (go_at_call 30; refine (WR.out _).mono ?_; rintro e w4 ⟨rfl, b4⟩; have k4 := (K3.out.drew).below b4 K3.out.lt; have y0 := k4.cell 0; have yL := cells_blk k4 rfl; have h4 := WS.out.below ((Below.refl _ _).drew.trans (b4.mono (Nat.le_refl _))); have B4 := Lib.hid (btrans B3.out ((Below.refl _ _).drew.trans (b4.mono (Nat.le_refl _)))))
      | (go_at_call 67; refine (westate_any _ _ w.heap.size _ _ x A1 D1 c1 e1 _ h4.st (by simp) HF.out.1 HF.out.2.1 HF.out.2.2.1 HF.out.2.2.2.1 HF.out.2.2.2.2 (HRD.out _ B4.out) B4.out.size (fun y hy => by show y < w1.heap.size; omega)).mono ?_; rintro e w5 h5; have H5 := Lib.hid h5; have k5 := h5.2.2.blk k4 (fun hs => hs hlt1); have z0 := k5.cell 0; have zL := cells_blk k5 rfl; obtain ⟨rfl, _⟩ := h5))
  all_goals
    obtain ⟨AZ, cZ, kz, oz, _⟩ := H5.out.2.1
    rw [← HENC.out] at kz oz
    have a0 := kz.cell 0
    have a1 := kz.cell 1
    have t1 := run_string_of (P := Tryz.prog) (src := 46) (dst := 9) (c := cZ) Tryz.underlying46 Tryz.underlying5 Tryz.underlying9 (Reads.of_own oz)
    have BZ := Lib.hid (B4.out.trans (H5.out.2.2.below (B := w.heap.size) B4.out.size (fun y hy => by have : ¬ y < w1.heap.size := hy; omega)))
    clear kz oz
    go_wp2_with fail
    go_ret2
    exact ⟨rfl, BZ.out⟩
end
set_option maxRecDepth 100000 in
theorem EnBytes_any (x : En) (hm : mayEn x = true) (A1 D1 : Option Addr) (c1 e1 : Nat) (w : World) (hg : HasET w) (hr : EnR w x A1 D1) :
    Calls Tryz.prog 11 #[(.agg #[.int .i8 x.kd, .int .i64 x.b.pid, .int .i64 x.b.ep, .int .i64 x.b.seq, .bool x.b.txn, .slice A1 x.b.rs.length c1, .bool x.yes, .int .i64 x.nx, .int .i64 x.off, .int .i64 x.row.1, .int .i64 x.row.2.1, .int .i64 x.row.2.2.1, .string x.row.2.2.2.1, .string x.row.2.2.2.2, .int .i64 x.prod.pid, .int .i64 x.prod.ep, .int .i64 x.prod.nx, .slice D1 x.prod.seen.length e1])] w (EbPost (encEn x) 0 w) := by
  by_cases h0 : x.kd = 0
  · exact EnBytes_0 x h0 hm A1 D1 c1 e1 w hg hr
  by_cases h1 : x.kd = 1
  · exact EnBytes_1 x h1 hm A1 D1 c1 e1 w hg hr
  by_cases h2 : x.kd = 2
  · exact EnBytes_2 x h2 hm A1 D1 c1 e1 w hg hr
  by_cases h3 : x.kd = 3
  · exact EnBytes_3 x h3 hm A1 D1 c1 e1 w hg hr
  by_cases h4 : x.kd = 4
  · exact EnBytes_4 x h4 hm A1 D1 c1 e1 w hg hr
  by_cases h5 : x.kd = 5
  · exact EnBytes_5 x h5 hm A1 D1 c1 e1 w hg hr
  by_cases h6 : x.kd = 6
  · exact EnBytes_6 x h6 hm A1 D1 c1 e1 w hg hr
  · unfold mayEn okEn at hm
    rw [if_neg h3, if_neg h0, if_neg h4, if_neg h1, if_neg h2, if_neg h5, if_neg h6] at hm
    cases hm
end Go.Proofs.YtckdecodpjfcnaaGreatDoor
