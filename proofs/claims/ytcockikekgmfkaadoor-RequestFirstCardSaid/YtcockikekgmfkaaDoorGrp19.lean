/-
  A region that draws its order, whose operations only read what was there and whose callees may make memory but leave what was there as it was: walked once, in the order of the text, over the class of all such worlds.
  Layer 6, the document's Rows; two lists of rows.
  Layer 6: what the statements' own test of life tells.
-/
import Derived.Test.YtcockikekgmfkaaDoorGrp18
import Derived.Test.YtcockikekgmfkaaDoorGrp07
import Derived.Deep.RegionHeld3
import Derived.Below
namespace Go.Proofs.YtcockikekgmfkaaDoor
open Go.RowKit

set_option maxRecDepth 100000 in
set_option maxHeartbeats 2000000 in
theorem rRows_any (b : Bat) (A1 : Option Addr) (c1 : Nat) (off : Int) (w : World) (hr : Reads w w.heap.size 2 A1 b.rs.length (cellsR b.rs)) (hl : b.rs.length ≤ 1000) :
    Calls Tryd.prog 38 #[(.agg #[.int .i64 b.pid, .int .i64 b.ep, .int .i64 b.seq, .bool b.txn, .slice A1 b.rs.length c1]), .int .i64 off] w (RowsPost (rowsBt b off) w) := by
  obtain ⟨i0, hi, hz0, hz1, hz2⟩ := info_parts infoW
  have HR := Lib.hid hr
  have HK := Lib.hid (Blk.new w 40 #[.int .i64 b.pid, .int .i64 b.ep, .int .i64 b.seq, .bool b.txn, .slice A1 b.rs.length c1])
  have HB := Lib.hid ((Below.refl w.heap.size w).alloc (Nat.le_refl _) (.cells #[.int .i64 b.pid, .int .i64 b.ep, .int .i64 b.seq, .bool b.txn, .slice A1 b.rs.length c1] 40))
  clear hr
  go_enter Tryd.func38, Tryd.ntmps38
  go_wp2_with fail
  go_loopw [5, 6] (fun v x wr => ∃ k : Nat, k ≤ b.rs.length ∧ x = .int .i64 k ∧ wr.ownsRow (w.heap.size + 1) 68 5 v k (cellsW (rowsTo b off k)) ∧ Below w.heap.size w wr ∧ Blk wr w.heap.size 40 #[.int .i64 b.pid, .int .i64 b.ep, .int .i64 b.seq, .bool b.txn, .slice A1 b.rs.length c1]) (fun _ x _ => b.rs.length - (intOf x).toNat)
  case atStart => exact ⟨0, Nat.zero_le _, rfl, World.ownsRow_nil _ _ _ _, HB.out, HK.out⟩
  case round =>
    obtain ⟨k, hk, rfl, hown, hbel, hblk⟩ := hrel
    have OW := Lib.hid hown
    have BEL := Lib.hid hbel
    have HK3 := Lib.hid hblk
    have hz := hblk.lt
    have x0 := hblk.cell 0
    have x2 := hblk.cell 2
    have x4 := hblk.cell 4
    clear hown hbel hblk
    by_cases hlt : k < b.rs.length
    · have d1 : decide ((k : Int) < (b.rs.length : Int)) = true := by simp; omega
      obtain ⟨b1, o1, rfl, hbl1, hc1⟩ := (HR.out.below BEL.out).plain2 (by omega)
      obtain ⟨r, hx⟩ : ∃ z, b.rs[k]? = some z := ⟨_, List.getElem?_eq_getElem hlt⟩
      obtain ⟨g1, g2⟩ := hc1 k _ hx
      have HS := Lib.hid (rowsTo_succ b off k r hx)
      have hb1 : b1 < wr.heap.size := by omega
      have hb2 : ¬ b1 = wr.heap.size := by omega
      have hb3 : ¬ w.heap.size = wr.heap.size := by omega
      have i1 : (0 : Int) ≤ (k : Int) := by omega
      have i2 : (k : Int) < (b.rs.length : Int) := by omega
      have v1 : IntKind.i64.wrap (off + (k : Int)) = wrap64 (off + (k : Int)) := IntWalk.i64_left _
      have v2 : IntKind.i64.wrap (b.seq + (k : Int)) = wrap64 (b.seq + (k : Int)) := IntWalk.i64_left _
      clear hc1 hx
      go_wp2_with fail
      go_region_held3 (fun w' => w'.cell? ⟨w.heap.size, 0, none⟩ = some (.int .i64 b.pid) ∧ w'.cell? ⟨w.heap.size, 2, none⟩ = some (.int .i64 b.seq) ∧ w'.cell? ⟨w.heap.size, 4, none⟩ = some (.slice (some ⟨b1, o1, none⟩) b.rs.length c1) ∧ w'.cell? ⟨b1, o1 + k * 2, none⟩ = some (.string r.1) ∧ w'.cell? ⟨b1, o1 + k * 2 + 1, none⟩ = some (.string r.2)) (first | go_keep) ((fail))
      clear v1 v2
      by_cases hoff : off = -1
      · subst hoff
        have hra : rowAt b (-1) k r = (-1, b.pid, wrap64 (b.seq + (k : Int)), r.1, r.2) := by unfold rowAt; rw [if_pos rfl]
        rw [hra] at HS
        clear hra
        go_wp2_with (at_builtin; refine wpList_append_any _ rfl (.tmp 40) (.tmp 42) 47 rfl (w.heap.size + 1) 68 i0 _ 5 56 Tryd.underlying47 hi hz0 hz1 hz2 rfl (by decide) _ k _ rfl ((OW.out.alloc _).alloc _) _ _ 1 1 (cellsW [(-1, b.pid, wrap64 (b.seq + (k : Int)), r.1, r.2)]) rfl (reads_newW (wr.alloc _) _ (-1, b.pid, wrap64 (b.seq + (k : Int)), r.1, r.2) (wr.heap.size + 1) (by simp)) (cellsW_one _) (by unfold maxLen; omega) (by omega) (by simp; omega) ?_; intro v' w4 hown' hgrow hat')
        go_roundw
        case rel =>
          refine ⟨k + 1, by omega, by go_num, ?_, ?_, ?_⟩
          · rw [HS.out, cellsW_append]; exact hown'
          · exact (bal (bal BEL.out _) _).drew.grown hgrow (by have := BEL.out.size; simp; omega) (fun g hg => by have := (OW.out.lt g hg).1; omega)
          · exact ((HK3.out.alloc _).alloc _).drew.grown hgrow (own_ge OW.out (by omega))
        case measure => simp [intOf]; omega
      · have d2 : (off == -1) = false := by simpa using hoff
        have hra : rowAt b off k r = (wrap64 (off + (k : Int)), b.pid, wrap64 (b.seq + (k : Int)), r.1, r.2) := by unfold rowAt; rw [if_neg hoff]
        rw [hra] at HS
        clear hra hoff
        go_wp2_with (at_builtin; refine wpList_append_any _ rfl (.tmp 40) (.tmp 42) 47 rfl (w.heap.size + 1) 68 i0 _ 5 56 Tryd.underlying47 hi hz0 hz1 hz2 rfl (by decide) _ k _ rfl ((OW.out.alloc _).alloc _) _ _ 1 1 (cellsW [(wrap64 (off + (k : Int)), b.pid, wrap64 (b.seq + (k : Int)), r.1, r.2)]) rfl (reads_newW (wr.alloc _) _ (wrap64 (off + (k : Int)), b.pid, wrap64 (b.seq + (k : Int)), r.1, r.2) (wr.heap.size + 1) (by simp)) (cellsW_one _) (by unfold maxLen; omega) (by omega) (by simp; omega) ?_; intro v' w4 hown' hgrow hat')
        go_roundw
        case rel =>
          refine ⟨k + 1, by omega, by go_num, ?_, ?_, ?_⟩
          · rw [HS.out, cellsW_append]; exact hown'
          · exact (bal (bal BEL.out _) _).drew.grown hgrow (by have := BEL.out.size; simp; omega) (fun g hg => by have := (OW.out.lt g hg).1; omega)
          · exact ((HK3.out.alloc _).alloc _).drew.grown hgrow (own_ge OW.out (by omega))
        case measure => simp [intOf]; omega
    · obtain rfl : k = b.rs.length := by omega
      have d1 : decide ((b.rs.length : Int) < (b.rs.length : Int)) = false := by simp
      have hlen := rowsBt_len b off
      have OW2 := OW.out
      change wr.ownsRow (w.heap.size + 1) 68 5 _ b.rs.length (cellsW (rowsBt b off)) at OW2
      rw [← hlen] at OW2
      have HO2 := Lib.hid OW2
      clear OW2 hlen OW
      go_wp2_with fail
      go_ret
      generalize rowsBt b off = RB at *
      have HO3 := HO2.out
      obtain ⟨A5, c5, rfl, hc5⟩ := own_slice HO3
      exact ⟨A5, c5, rfl, Reads.of_own HO3, hc5, BEL.out⟩

theorem eqRw (a b : Rw) (w : World) : (Op.equalIn 10000 68 (.agg #[.int .i64 a.1, .int .i64 a.2.1, .int .i64 a.2.2.1, .string a.2.2.2.1, .string a.2.2.2.2]) (.agg #[.int .i64 b.1, .int .i64 b.2.1, .int .i64 b.2.2.1, .string b.2.2.2.1, .string b.2.2.2.2])).run Tryd.prog w = .ok (decide (a = b)) w := by
  have u3 := Tryd.underlying9
  have u4 := Tryd.underlying3
  have hS : Tryd.prog.underlying 68 = some (.struct (Tryd.prog.fieldsOf 68)) := by kernel_rfl
  have hp : Tryd.prog.stoodInHeld 68 = false := by kernel_rfl
  have a3 := Tryd.isAgg9
  have z3 := Tryd.sizeOf9
  have a4 := Tryd.isAgg3
  have z4 := Tryd.sizeOf3
  obtain ⟨a1, a2, a3', a4', a5'⟩ := a
  obtain ⟨b1, b2, b3, b4, b5⟩ := b
  rw [show (10000 : Nat) = 9999 + 1 from rfl, run_equalIn_agg w 9999 68 _ _ hS hp]
  simp only [Program.fieldsOf, Tryd.underlying68]
  go_simp
  by_cases h1 : a1 = b1 <;> by_cases h2 : a2 = b2 <;> by_cases h3 : a3' = b3 <;> by_cases h4 : a4' = b4 <;> by_cases h5 : a5' = b5 <;> simp [h1, h2, h3, h4, h5, toList_inj]

set_option maxRecDepth 100000 in
set_option maxHeartbeats 1000000 in
theorem SameRows_any (A1 A2 : Option Addr) (l1 l2 : List Rw) (c1 c2 B1 B2 : Nat) (w : World) (h1 : Reads w B1 5 A1 l1.length (cellsW l1)) (h2 : Reads w B2 5 A2 l2.length (cellsW l2)) (hl : l1.length ≤ 1000000) :
    Calls Tryd.prog 36 #[.slice A1 l1.length c1, .slice A2 l2.length c2] w fun e w' => e = .returned (.bool (decide (l1 = l2))) ∧ ∃ q, w' = w.drewN q := by
  have hm : Tryd.prog.eqGuardType Tryd.prog.depth 68 = false := by kernel_rfl
  by_cases hlen : l1.length = l2.length
  · have d0 : ((l1.length : Int) != (l2.length : Int)) = false := by rw [hlen]; simp
    have HH1 := Lib.hid h1
    have HH2 := Lib.hid h2
    have HLEN := Lib.hid hlen
    have hl2 : l1.length ≤ l2.length := by omega
    have hl3 : l2.length ≤ l1.length := by omega
    clear h1 h2 hlen
    go_enter Tryd.func36, Tryd.ntmps36
    go_wp2_with fail
    go_loopw [5] (fun y wr => ∃ k q : Nat, k ≤ l1.length ∧ y = .int .i64 k ∧ wr = w.drewN q ∧ l1.take k = l2.take k) (fun y _ => l1.length - (intOf y).toNat)
    case atStart => exact ⟨0, 0, Nat.zero_le _, rfl, rfl, by simp⟩
    case round =>
      obtain ⟨k, q, hk, rfl, rfl, htk⟩ := hrel
      have HTK := Lib.hid htk
      clear htk
      by_cases hlt : k < l1.length
      · have d1 : decide ((k : Int) < (l1.length : Int)) = true := by simp; omega
        obtain ⟨b1, o1, rfl, _, hc1⟩ := HH1.out.plain5 (by omega)
        obtain ⟨b2, o2, rfl, _, hc2⟩ := HH2.out.plain5 (by omega)
        obtain ⟨x, hx⟩ : ∃ z, l1[k]? = some z := ⟨_, List.getElem?_eq_getElem hlt⟩
        obtain ⟨y, hy⟩ : ∃ z, l2[k]? = some z := ⟨_, List.getElem?_eq_getElem (by omega)⟩
        obtain ⟨g1, g2, g3, g4, g5⟩ := hc1 k _ hx
        obtain ⟨f1, f2, f3, f4, f5⟩ := hc2 k _ hy
        have heq := fun W => eqRw x y W
        have i1 : (0 : Int) ≤ (k : Int) := by omega
        have i2 : (k : Int) < (l1.length : Int) := by omega
        have i3 : (k : Int) < (l2.length : Int) := by omega
        have hts := take_snoc_eq HTK.out hx hy
        have HTS := Lib.hid hts
        have HX := Lib.hid hx
        have HY := Lib.hid hy
        clear hc1 hc2 hx hy hts
        by_cases hxy : x = y
        · have HXY := Lib.hid hxy
          rw [decide_eq_true hxy] at heq
          clear hxy
          go_wp2_with fail
          go_quiet (fail)
          go_wp2_with fail
          go_roundw
          case rel => exact ⟨k + 1, _, by omega, by go_num, rfl, HTS.out.2 HXY.out⟩
          case measure => simp [intOf]; omega
        · rw [decide_eq_false hxy] at heq
          have hne : l1 ≠ l2 := ne_of_at HX.out HY.out hxy
          have hf : decide (l1 = l2) = false := by simpa using hne
          have HF := Lib.hid hf
          clear hne hf hxy
          go_wp2_with fail
          go_quiet (fail)
          go_wp2_with fail
          go_ret
          exact ⟨by rw [HF.out]; rfl, _, World.drewN_drewN ..⟩
      · obtain rfl : k = l1.length := by omega
        have d1 : decide ((l1.length : Int) < (l1.length : Int)) = false := by simp
        have he : l1 = l2 := by
          have h3 := HTK.out
          rw [List.take_length, HLEN.out, List.take_length] at h3
          exact h3
        have hf : decide (l1 = l2) = true := by simpa using he
        have HF := Lib.hid hf
        clear he hf
        go_wp2_with fail
        go_ret
        exact ⟨by rw [HF.out]; rfl, _, rfl⟩
  · have d0 : ((l1.length : Int) != (l2.length : Int)) = true := by simp; omega
    have hne : ¬ l1 = l2 := fun h => hlen (by rw [h])
    have hf : decide (l1 = l2) = false := by simpa using hne
    have HF := Lib.hid hf
    clear hf hne hlen h1 h2
    go_enter Tryd.func36, Tryd.ntmps36
    go_wp2_with fail
    go_ret
    exact ⟨by rw [HF.out]; rfl, 0, rfl⟩
end Go.Proofs.YtcockikekgmfkaaDoor
namespace Go.Proofs.YtcockikekgmfkaaDoor
open Go.RowKit

def bw6 : Bat := ⟨1, 0, 2, false, [(⟨#[97]⟩, ⟨#[98]⟩)]⟩
theorem bw6_may : mayBt bw6 = true := by decide
theorem bw6_enc : encBt bw6 = [1, 0, 2, 0, 1, 1, 97, 1, 98] := by decide
theorem bw6_rows : rowsBt bw6 7 = [(7, 1, 2, ⟨#[97]⟩, ⟨#[98]⟩)] := by kernel_rfl
theorem bw6_behind : behindB bw6 = 3 := by kernel_rfl

theorem reads_newR (w : World) (t : TypeId) (p : Rec) (g : Nat) (hg : w.heap.size = g) : Reads (w.alloc (.cells #[.string p.1, .string p.2] t)) (g + 1) 2 (some ⟨g, 0, none⟩) 1 (cellsR [p]) := by
  subst hg
  refine ⟨by rw [length_cellsR]; rfl, fun _ => ⟨_, rfl, Nat.lt_succ_self _, fun j u hu => ?_⟩⟩
  rw [add_none, Nat.zero_add]
  rw [(Blk.new w t _).cell j]
  have e : cellsR [p] = (#[.string p.1, .string p.2] : Array Value).toList := by rw [cellsR_cons]; rfl
  rw [e] at hu
  simpa using hu

set_option maxRecDepth 100000 in
set_option maxHeartbeats 1000000 in
theorem wakes06 (w : World) : Calls Tryd.prog 27 #[] w fun e w' => e = .returned (.bool true) ∧ Below w.heap.size w w' := by
  have hm : Tryd.prog.eqGuardType Tryd.prog.depth 68 = false := by kernel_rfl
  have hrd : Reads ((w.alloc (.cells #[.string ⟨#[97]⟩, .string ⟨#[98]⟩] 70)).alloc (.cells #[.int .i64 1, .int .i64 0, .int .i64 2, .bool false, .slice (some ⟨w.heap.size, 0, none⟩) 1 1] 40)) ((w.alloc (.cells #[.string ⟨#[97]⟩, .string ⟨#[98]⟩] 70)).alloc (.cells #[.int .i64 1, .int .i64 0, .int .i64 2, .bool false, .slice (some ⟨w.heap.size, 0, none⟩) 1 1] 40)).heap.size 2 (some ⟨w.heap.size, 0, none⟩) 1 (cellsR bw6.rs) :=
    ((reads_newR w _ (⟨#[97]⟩, ⟨#[98]⟩) w.heap.size rfl).alloc (by simp) _).more (by simp)
  have hk : Blk ((w.alloc (.cells #[.string ⟨#[97]⟩, .string ⟨#[98]⟩] 70)).alloc (.cells #[.int .i64 1, .int .i64 0, .int .i64 2, .bool false, .slice (some ⟨w.heap.size, 0, none⟩) 1 1] 40)) (w.heap.size + 1) 40 #[.int .i64 1, .int .i64 0, .int .i64 2, .bool false, .slice (some ⟨w.heap.size, 0, none⟩) 1 1] := by
    have := Blk.new (w.alloc (.cells #[.string ⟨#[97]⟩, .string ⟨#[98]⟩] 70)) 40 #[.int .i64 1, .int .i64 0, .int .i64 2, .bool false, .slice (some ⟨w.heap.size, 0, none⟩) 1 1]
    rwa [World.size_alloc] at this
  have hbel := bal (bal (Below.refl w.heap.size w) (.cells #[.string ⟨#[97]⟩, .string ⟨#[98]⟩] 70)) (.cells #[.int .i64 1, .int .i64 0, .int .i64 2, .bool false, .slice (some ⟨w.heap.size, 0, none⟩) 1 1] 40)
  have hby := RcBytes_ok bw6 (some ⟨w.heap.size, 0, none⟩) 1 _ hrd bw6_may
  rw [bw6_enc] at hby
  have HBY := Lib.hid hby
  have HRD := Lib.hid hrd
  have HK := Lib.hid hk
  have HBEL := Lib.hid hbel
  have hse : ((bs [1, 0, 2, 0, 1, 1, 97, 1, 98]).toList == [1, 0, 2, 0, 1, 1, 97, 1, 98]) = true := by rw [toList_lb, lb_bs]; rfl
  clear hby hrd hk hbel
  go_enter Tryd.func27, Tryd.ntmps27
  go_wp2_with fail
  refine HBY.out.mono ?_
  rintro e w1 ⟨rfl, hb1⟩
  have k1 := HK.out.below hb1 HK.out.lt
  have x0 := k1.cell 0
  have x1 := k1.cell 1
  have x2 := k1.cell 2
  have x3 := k1.cell 3
  have x4 := k1.cell 4
  have hro := Rows_any bw6 (some ⟨w.heap.size, 0, none⟩) 1 7 w1 ((HRD.out.below hb1).more hb1.size) (by decide)
  rw [bw6_rows] at hro
  have HRO := Lib.hid hro
  have BF1 := Lib.hid (btrans HBEL.out hb1)
  have K1 := Lib.hid k1
  clear hro k1 hb1
  go_wp2_with fail
  refine HRO.out.mono ?_
  rintro e w2 ⟨A2, c2, rfl, r2, hc2, hb2⟩
  have k2 := K1.out.below hb2 K1.out.lt
  clear x0 x1 x2 x3 x4
  have x0 := k2.cell 0
  have x1 := k2.cell 1
  have x2 := k2.cell 2
  have x3 := k2.cell 3
  have x4 := k2.cell 4
  obtain ⟨b2, o2, rfl, _, hc⟩ := r2.plain5 (by decide)
  obtain ⟨g1, g2, g3, g4, g5⟩ := hc 0 _ rfl
  have heq := fun W => eqRw (7, 1, 2, ⟨#[97]⟩, ⟨#[98]⟩) (7, 1, 2, ⟨#[97]⟩, ⟨#[98]⟩) W
  rw [decide_eq_true rfl] at heq
  have hbe := fun W => Behind_any bw6 (some ⟨w.heap.size, 0, none⟩) 1 W
  rw [bw6_behind] at hbe
  have HBE := Lib.hid hbe
  have BF2 := Lib.hid (btrans BF1.out hb2)
  clear hbe hc k2 hb2 r2
  simp only [Nat.zero_mul, Nat.add_zero] at g1 g2 g3 g4 g5
  go_wp2_with fail
  refine (HBE.out _).mono ?_
  rintro e w3 ⟨rfl, hb3⟩
  go_wp2_with fail
  go_ret
  exact ⟨rfl, btrans BF2.out hb3⟩
end Go.Proofs.YtcockikekgmfkaaDoor
namespace Go.Proofs.YtcockikekgmfkaaDoor
open Go.RowKit

/-- The worlds that are as w was below block B. -/
def BW (B : Nat) (w : World) : Type := { W : World // Below B w W }
instance nonempty_BW (B : Nat) (w : World) : Nonempty (BW B w) := ⟨⟨w, Below.refl _ _⟩⟩
theorem wp_region_bq {P : Program} {id : Nat} {Q : Exit → Act → World → Prop} {a : Act} {w : World} {l : List Oper} (B : Nat) (hm : P.follows .mixedOrders = true) (hB : Region.lexB .any l.toArray = true)
    (h : wpQuiet P l.toArray (fun W => ∃ n : BW B w, W = n.1) (fun a' => ∀ W, (∃ n : BW B w, W = n.1) → Q .normal a' W) l a) : (Code.region id l.toArray true).wp P Q a w :=
  wp_region_quiet (C := fun W => ∃ n : BW B w, W = n.1) hm hB ⟨⟨w.drew, (Below.refl _ _).drew⟩, rfl⟩ (by simpa using h)
theorem bw_call {P : Program} {f : FuncId} {args : Array Value} {B : Nat} {w : World} (hB : B ≤ w.heap.size) {n : BW B w} {v : Value} (h : Calls P f args n.1 fun e w' => e = .returned v ∧ Below n.1.heap.size n.1 w') :
    Calls P f args n.1 fun e w'' => e = .returned v ∧ ∃ m : BW B w, w'' = m.1 :=
  h.mono fun _ w' ⟨he, hb⟩ => ⟨he, ⟨w', n.2.trans (hb.mono (Nat.le_trans hB n.2.size))⟩, rfl⟩
theorem bw_same {P : Program} {f : FuncId} {args : Array Value} {B : Nat} {w : World} {n : BW B w} {v : Value} (h : Calls P f args n.1 fun e w' => e = .returned v ∧ n.1 = w') :
    Calls P f args n.1 fun e w'' => e = .returned v ∧ ∃ m : BW B w, w'' = m.1 :=
  h.mono fun _ _ ⟨he, hb⟩ => ⟨he, n, hb.symm⟩
theorem bw_cell {B : Nat} {w : World} {b o : Nat} {v : Value} (h : w.cell? ⟨b, o, none⟩ = some v) (hb : b < B) (n : BW B w) : n.1.cell? ⟨b, o, none⟩ = some v := (n.2.cell (p := ⟨b, o, none⟩) hb).trans h
end Go.Proofs.YtcockikekgmfkaaDoor
