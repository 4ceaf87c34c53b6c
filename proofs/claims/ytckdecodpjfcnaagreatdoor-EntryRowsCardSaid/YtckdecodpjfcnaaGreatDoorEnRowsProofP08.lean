/-
  Layer 7: Known: which producers are valid (a range over slices.Backward).
  Layer 7, the document's: Known.
  Words for structs of many cells: a whole struct loaded and stored without going cell by cell.
-/
import Derived.Test.YtckdecodpjfcnaaGreatDoorEnRowsProofP07
import Derived.Deep.MidRow
import Derived.RangeFuncNested
import Derived.RangeFuncBound
import Derived.RangeFuncCalls
import Derived.RangeFuncLeaves
import Derived.RangeFuncBox
import Derived.Shelf.Abstract
import Derived.Shelf.RegionOpen
import Derived.OwnWalkIn
import Derived.TacticsInMore
import Derived.LoopNIn
import Derived.LoopIn
import Derived.Sort.BigQuietIn
set_option linter.unusedVariables false
set_option linter.unusedSimpArgs false
namespace Go.Proofs.YtckdecodpjfcnaaGreatDoor
open Go.RowKit

/-- What the document asks of one batch seen, by what stands behind it (the difference as the machine has it). -/
def chkS (s : Sn) (beh : Int) : Bool := okS s && !decide (RowKit.wrap64 (beh - s.2.1) < s.1)
def refSeen (nx : Int) : List Sn → Bool
  | [] => true
  | s :: l => chkS s (behindS nx l) && refSeen nx l
theorem chkS_eq (s : Sn) (beh : Int) : chkS s beh = (!decide (s.1 < 0) && (decide (1 ≤ s.2.1 ∧ s.2.1 ≤ 4) && (decide (-1 ≤ s.2.2 ∧ s.2.2 ≤ 1048576) && !decide (RowKit.wrap64 (beh - s.2.1) < s.1)))) := by
  unfold chkS okS
  have e : decide (0 ≤ s.1) = !decide (s.1 < 0) := by rw [Bool.eq_iff_iff]; simp
  rw [e, Bool.and_assoc, Bool.and_assoc]
theorem seenB_behind {nx : Int} (hn : 0 ≤ nx ∧ nx ≤ 1048576) : ∀ l : List Sn, seenB nx l = true → 0 ≤ behindS nx l ∧ behindS nx l ≤ 1048576
  | [], _ => hn
  | s :: l, h => by
    rw [seenB, Bool.and_eq_true, Bool.and_eq_true, decide_eq_true_eq] at h
    have := seenB_behind hn l h.2
    have h1 := h.1.1
    unfold okS at h1
    simp only [Bool.and_eq_true, decide_eq_true_eq] at h1
    show 0 ≤ s.1 ∧ s.1 ≤ 1048576
    omega
/-- The machine's difference tells no other. -/
theorem refSeen_eq {nx : Int} (hn : 0 ≤ nx ∧ nx ≤ 1048576) : ∀ l : List Sn, refSeen nx l = seenB nx l
  | [] => rfl
  | s :: l => by
    rw [refSeen, seenB, refSeen_eq hn l]
    cases h : seenB nx l
    · rw [Bool.and_false, Bool.and_false]
    rw [Bool.and_true, Bool.and_true]
    have hb := seenB_behind hn l h
    unfold chkS
    cases h1 : okS s
    · rfl
    rw [Bool.true_and, Bool.true_and]
    unfold okS at h1
    simp only [Bool.and_eq_true, decide_eq_true_eq] at h1
    rw [IntWalk.wrap64_in (behindS nx l - s.2.1) (by omega), Bool.eq_iff_iff]
    simp
theorem drop_at {l : List Sn} {k : Nat} {s : Sn} (h : l[k]? = some s) : l.drop k = s :: l.drop (k + 1) := by
  obtain ⟨h1, h2⟩ := List.getElem?_eq_some_iff.1 h
  rw [List.drop_eq_getElem_cons h1, h2]

set_option maxRecDepth 100000 in
set_option maxHeartbeats 4000000 in
theorem rKnown_loop (p : Pd) (D1 : Option Addr) (e1 : Nat) (w : World) (hr : Reads w w.heap.size 3 D1 p.seen.length (cellsN p.seen)) (hp : prodB p.pid p.ep = true) (hn : decide (0 ≤ p.nx ∧ p.nx ≤ 1048576) = true) (hl : p.seen.length ≤ 3) :
    Calls Tryz.prog 18 #[(.agg #[.int .i64 p.pid, .int .i64 p.ep, .int .i64 p.nx, .slice D1 p.seen.length e1])] w fun e w' => e = .returned (.bool (refSeen p.nx p.seen)) ∧ Below w.heap.size w w' := by
  have HB := Lib.hid (bal (Below.refl w.heap.size w) (.cells #[.int .i64 p.pid, .int .i64 p.ep, .int .i64 p.nx, .slice D1 p.seen.length e1] 30))
  have HK := Lib.hid (Blk.new w 30 #[.int .i64 p.pid, .int .i64 p.ep, .int .i64 p.nx, .slice D1 p.seen.length e1])
  have PR := Lib.hid (fun W => show Calls Tryz.prog 41 #[.int .i64 p.pid, .int .i64 p.ep] W (fun e w' => e = .returned (.bool true) ∧ W = w') from by
    have := rproducer_any p.pid p.ep W
    rw [hp] at this
    exact this)
  have WN := Lib.hid (fun W => show Calls Tryz.prog 42 #[.int .i64 p.nx, .int .i64 0, .int .i64 1048576] W (fun e w' => e = .returned (.bool true) ∧ W = w') from by
    have := within_any p.nx 0 1048576 W
    rw [hn] at this
    exact this)
  have WI := Lib.hid (fun (x l m : Int) (W : World) => within_any x l m W)
  have d0 : decide ((3 : Int) < (p.seen.length : Int)) = false := by simp; omega
  have HL := Lib.hid hl
  have HRD := Lib.hid hr
  clear hr hp hn hl
  go_enter Tryz.func18, Tryz.ntmps18
  go_wp2_with fail
  refine (PR.out _).mono ?_
  rintro e w1 ⟨rfl, rfl⟩
  go_wp2_with fail
  refine (WN.out _).mono ?_
  rintro e w1 ⟨rfl, rfl⟩
  have x3 := HK.out.cell 3
  go_wp2_with fail
  go_loopw [3] (fun y wr => ∃ k : Nat, k ≤ p.seen.length ∧ y = .int .i64 k ∧ Below w.heap.size w wr ∧ Blk wr w.heap.size 30 #[.int .i64 p.pid, .int .i64 p.ep, .int .i64 p.nx, .slice D1 p.seen.length e1] ∧ refSeen p.nx (p.seen.drop k) = refSeen p.nx p.seen) (fun y _ => p.seen.length - (intOf y).toNat)
  case atStart => exact ⟨0, Nat.zero_le _, rfl, HB.out, HK.out, rfl⟩
  case round =>
    obtain ⟨k, hk, rfl, hbel, hblk, hrest⟩ := hrel
    have BE := Lib.hid hbel
    have KB := Lib.hid hblk
    have HR := Lib.hid hrest
    have x3 := hblk.cell 3
    have x2 := hblk.cell 2
    have hlt0 := hblk.lt
    clear hbel hblk hrest
    by_cases hlt : k < p.seen.length
    · have d1' : decide ((k : Int) < (p.seen.length : Int)) = true := by simp; omega
      obtain ⟨b1, o1, rfl, hb1, hc1⟩ := (HRD.out.below BE.out).plain3 (by omega)
      obtain ⟨s, hs⟩ : ∃ z, p.seen[k]? = some z := ⟨_, List.getElem?_eq_getElem hlt⟩
      obtain ⟨g1, g2, g3⟩ := hc1 k _ hs
      have i1 : (0 : Int) ≤ (k : Int) := by omega
      have i2 : (k : Int) < (p.seen.length : Int) := by omega
      have HS := Lib.hid (drop_at hs)
      clear hs
      have hbw : b1 < wr.heap.size := by omega
      have cw : IntKind.i64.wrap ((k : Int) + 1) = (k : Int) + 1 := IntWalk.i64_in _ (by have := HL.out; omega)
      by_cases hk1 : k + 1 < p.seen.length
      · have e2 : decide ((k : Int) + 1 < (p.seen.length : Int)) = true := by simp; omega
        have i3 : (0 : Int) ≤ (k : Int) + 1 := by omega
        have i4 : (k : Int) + 1 < (p.seen.length : Int) := by omega
        have n1 : ((k : Int) + 1).toNat = k + 1 := by omega
        obtain ⟨y, hy⟩ : ∃ z, p.seen[k + 1]? = some z := ⟨_, List.getElem?_eq_getElem (by omega)⟩
        obtain ⟨g4, g5, g6⟩ := hc1 (k + 1) _ hy
        have hbe : behindS p.nx (p.seen.drop (k + 1)) = y.1 := by rw [drop_at hy]; rfl
        clear hy g5 g6
        clear hc1
        have HBE := Lib.hid hbe
        clear hbe hk1
        have HS2 := Lib.hid (show refSeen p.nx (p.seen.drop k) = (chkS s y.1 && refSeen p.nx (p.seen.drop (k + 1))) by rw [HS.out, refSeen, HBE.out])
        have HCK := Lib.hid (chkS_eq s y.1)
        have W1 := Lib.hid (fun W => WI.out s.2.1 1 4 W)
        have W2 := Lib.hid (fun W => WI.out s.2.2 (-1) 1048576 W)
        generalize hd0 : decide (s.1 < 0) = d0 at *
        generalize decide (1 ≤ s.2.1 ∧ s.2.1 ≤ 4) = d1 at *
        generalize decide (-1 ≤ s.2.2 ∧ s.2.2 ≤ 1048576) = d2 at *
        generalize hd3 : decide (RowKit.wrap64 (y.1 - s.2.1) < s.1) = d3 at *
        have BN := Lib.hid (bal BE.out (.cells #[.int .i64 s.1, .int .i64 s.2.1, .int .i64 s.2.2] 73))
        have KN := Lib.hid (KB.out.alloc (.cells #[.int .i64 s.1, .int .i64 s.2.1, .int .i64 s.2.2] 73))
        cases d0
        case true =>
          go_wp2_with fail
          go_ret
          exact ⟨ret_bool (by rw [← HR.out, HS2.out, HCK.out]; rfl), BN.out⟩
        go_wp2_with fail
        refine (W1.out _).mono ?_
        rintro e w1 ⟨rfl, rfl⟩
        cases d1
        case false =>
          go_wp2_with fail
          go_ret
          exact ⟨ret_bool (by rw [← HR.out, HS2.out, HCK.out]; rfl), BN.out⟩
        go_wp2_with fail
        refine (W2.out _).mono ?_
        rintro e w1 ⟨rfl, rfl⟩
        cases d2
        case false =>
          go_wp2_with fail
          go_ret
          exact ⟨ret_bool (by rw [← HR.out, HS2.out, HCK.out]; rfl), BN.out⟩
        cases d3
        case true =>
          go_wp2_with fail
          go_ret
          exact ⟨ret_bool (by rw [← HR.out, HS2.out, HCK.out]; rfl), BN.out⟩
        go_wp2_with fail
        go_roundw
        case rel => exact ⟨k + 1, by omega, by first | go_num | (rw [cw]; rfl), BN.out, KN.out, by rw [← HR.out, HS2.out, HCK.out]; rfl⟩
        case measure => simp [intOf]; omega
      · have e2 : decide ((k : Int) + 1 < (p.seen.length : Int)) = false := by simp; omega
        have hbe : behindS p.nx (p.seen.drop (k + 1)) = p.nx := by rw [List.drop_eq_nil_of_le (by omega)]; rfl
        clear hc1
        have HBE := Lib.hid hbe
        clear hbe hk1
        have HS2 := Lib.hid (show refSeen p.nx (p.seen.drop k) = (chkS s p.nx && refSeen p.nx (p.seen.drop (k + 1))) by rw [HS.out, refSeen, HBE.out])
        have HCK := Lib.hid (chkS_eq s p.nx)
        have W1 := Lib.hid (fun W => WI.out s.2.1 1 4 W)
        have W2 := Lib.hid (fun W => WI.out s.2.2 (-1) 1048576 W)
        generalize hd0 : decide (s.1 < 0) = d0 at *
        generalize decide (1 ≤ s.2.1 ∧ s.2.1 ≤ 4) = d1 at *
        generalize decide (-1 ≤ s.2.2 ∧ s.2.2 ≤ 1048576) = d2 at *
        generalize hd3 : decide (RowKit.wrap64 (p.nx - s.2.1) < s.1) = d3 at *
        have BN := Lib.hid (bal BE.out (.cells #[.int .i64 s.1, .int .i64 s.2.1, .int .i64 s.2.2] 73))
        have KN := Lib.hid (KB.out.alloc (.cells #[.int .i64 s.1, .int .i64 s.2.1, .int .i64 s.2.2] 73))
        cases d0
        case true =>
          go_wp2_with fail
          go_ret
          exact ⟨ret_bool (by rw [← HR.out, HS2.out, HCK.out]; rfl), BN.out⟩
        go_wp2_with fail
        refine (W1.out _).mono ?_
        rintro e w1 ⟨rfl, rfl⟩
        cases d1
        case false =>
          go_wp2_with fail
          go_ret
          exact ⟨ret_bool (by rw [← HR.out, HS2.out, HCK.out]; rfl), BN.out⟩
        go_wp2_with fail
        refine (W2.out _).mono ?_
        rintro e w1 ⟨rfl, rfl⟩
        cases d2
        case false =>
          go_wp2_with fail
          go_ret
          exact ⟨ret_bool (by rw [← HR.out, HS2.out, HCK.out]; rfl), BN.out⟩
        cases d3
        case true =>
          go_wp2_with fail
          go_ret
          exact ⟨ret_bool (by rw [← HR.out, HS2.out, HCK.out]; rfl), BN.out⟩
        go_wp2_with fail
        go_roundw
        case rel => exact ⟨k + 1, by omega, by first | go_num | (rw [cw]; rfl), BN.out, KN.out, by rw [← HR.out, HS2.out, HCK.out]; rfl⟩
        case measure => simp [intOf]; omega
    · obtain rfl : k = p.seen.length := by omega
      have d1' : decide ((p.seen.length : Int) < (p.seen.length : Int)) = false := by simp
      have HF := Lib.hid (show refSeen p.nx p.seen = true by rw [← HR.out, List.drop_eq_nil_of_le (Nat.le_refl _)]; rfl)
      go_wp2_with fail
      go_ret
      exact ⟨ret_bool (by rw [HF.out]), BE.out⟩
set_option maxRecDepth 100000 in
set_option maxHeartbeats 1000000 in
theorem rKnown_any (p : Pd) (D1 : Option Addr) (e1 : Nat) (w : World) (hr : Reads w w.heap.size 3 D1 p.seen.length (cellsN p.seen)) :
    Calls Tryz.prog 18 #[(.agg #[.int .i64 p.pid, .int .i64 p.ep, .int .i64 p.nx, .slice D1 p.seen.length e1])] w fun e w' => e = .returned (.bool (knownB p)) ∧ Below w.heap.size w w' := by
  have HB := Lib.hid (bal (Below.refl w.heap.size w) (.cells #[.int .i64 p.pid, .int .i64 p.ep, .int .i64 p.nx, .slice D1 p.seen.length e1] 30))
  have PR := Lib.hid (fun W => rproducer_any p.pid p.ep W)
  have WI := Lib.hid (fun (W : World) => within_any p.nx 0 1048576 W)
  have HV := Lib.hid (show knownB p = (prodB p.pid p.ep && (decide (0 ≤ p.nx ∧ p.nx ≤ 1048576) && (decide (p.seen.length ≤ 3) && seenB p.nx p.seen))) from rfl)
  have HLP := Lib.hid (fun h1 h2 h3 => rKnown_loop p D1 e1 w hr h1 h2 h3)
  cases h1 : prodB p.pid p.ep
  case false =>
    rw [h1] at PR HV
    clear HLP h1
    go_enter Tryz.func18, Tryz.ntmps18
    go_wp2_with fail
    refine (PR.out _).mono ?_
    rintro e w1 ⟨rfl, rfl⟩
    go_wp2_with fail
    go_ret
    exact ⟨ret_bool (by rw [HV.out]; rfl), HB.out⟩
  cases h2 : decide (0 ≤ p.nx ∧ p.nx ≤ 1048576)
  case false =>
    rw [h1] at PR HV
    rw [h2] at WI HV
    clear HLP h1 h2
    go_enter Tryz.func18, Tryz.ntmps18
    go_wp2_with fail
    refine (PR.out _).mono ?_
    rintro e w1 ⟨rfl, rfl⟩
    go_wp2_with fail
    refine (WI.out _).mono ?_
    rintro e w1 ⟨rfl, rfl⟩
    go_wp2_with fail
    go_ret
    exact ⟨ret_bool (by rw [HV.out]; rfl), HB.out⟩
  by_cases h3 : p.seen.length ≤ 3
  · have e := HV.out
    rw [h1, h2, decide_eq_true h3, ← refSeen_eq (by simpa using h2)] at e
    rw [show knownB p = refSeen p.nx p.seen from e]
    exact HLP.out h1 h2 h3
  · rw [h1] at PR HV
    rw [h2] at WI HV
    rw [decide_eq_false h3] at HV
    have d3 : decide ((3 : Int) < (p.seen.length : Int)) = true := by simp; omega
    clear HLP h1 h2 h3 hr
    go_enter Tryz.func18, Tryz.ntmps18
    go_wp2_with fail
    refine (PR.out _).mono ?_
    rintro e w1 ⟨rfl, rfl⟩
    go_wp2_with fail
    refine (WI.out _).mono ?_
    rintro e w1 ⟨rfl, rfl⟩
    go_wp2_with fail
    go_ret
    exact ⟨ret_bool (by rw [HV.out]; rfl), HB.out⟩
end Go.Proofs.YtckdecodpjfcnaaGreatDoor
namespace Go.Proofs.YtckdecodpjfcnaaGreatDoor
open Go.RowKit

/-- The cells of a block after stores from o on. -/
def setAll (cs : Array Value) : Nat → List Value → Array Value
  | _, [] => cs
  | o, v :: r => setAll (cs.setIfInBounds o v) (o + 1) r
theorem setAll_pre : ∀ (vs zs pre : List Value), zs.length = vs.length → setAll (pre ++ zs).toArray pre.length vs = (pre ++ vs).toArray
  | [], zs, pre, h => by
    rw [List.length_eq_zero_iff.1 h]
    rfl
  | v :: vs, [], pre, h => by simp at h
  | v :: vs, z :: zs, pre, h => by
    rw [setAll]
    have e : (pre ++ z :: zs).toArray.setIfInBounds pre.length v = ((pre ++ [v]) ++ zs).toArray := by
      rw [List.setIfInBounds_toArray]
      congr 1
      rw [List.set_append_right _ _ (Nat.le_refl _)]
      simp
    rw [e]
    have := setAll_pre vs zs (pre ++ [v]) (by simpa using h)
    rw [List.length_append, List.length_singleton] at this
    rw [this]
    simp
theorem setAll_all (zs cs : Array Value) (h : zs.size = cs.size) : setAll zs 0 cs.toList = cs := by
  have := setAll_pre cs.toList zs.toList [] (by simpa using h)
  simpa using this
theorem blk_setCells {b : Nat} {t : TypeId} : ∀ (vs : List Value) (o : Nat) (W : World) (cs : Array Value), Blk W b t cs → Blk (W.setCells b o vs) b t (setAll cs o vs)
  | [], _, _, _, h => h
  | v :: r, o, W, cs, h => by
    rw [World.setCells]
    exact blk_setCells r (o + 1) _ _ (h.set_ o v)
theorem blk_setCells_far {b b' : Nat} {t : TypeId} {cs : Array Value} (hb : b ≠ b') : ∀ (vs : List Value) (o : Nat) (W : World), Blk W b t cs → Blk (W.setCells b' o vs) b t cs
  | [], _, _, h => h
  | v :: r, o, W, h => by
    rw [World.setCells]
    exact blk_setCells_far hb r (o + 1) _ (h.far (p := ⟨b', o, none⟩) hb v)
theorem below_setCells {n b : Nat} {w : World} (hb : n ≤ b) : ∀ (vs : List Value) (o : Nat) (W : World), Below n w W → Below n w (W.setCells b o vs)
  | [], _, _, h => h
  | v :: r, o, W, h => by
    rw [World.setCells]
    exact below_setCells hb r (o + 1) _ (h.setCell (p := ⟨b, o, none⟩) hb v)
theorem size_setCells (b : Nat) : ∀ (vs : List Value) (o : Nat) (W : World), (W.setCells b o vs).heap.size = W.heap.size
  | [], _, _ => rfl
  | v :: r, o, W => by
    rw [World.setCells, size_setCells b r (o + 1)]
    simp
theorem blk_range {W : World} {b : Nat} {t : TypeId} {cs : List Value} (h : Blk W b t cs.toArray) : W.rangeAt b 0 cs := fun j v hv => by
  rw [Nat.zero_add, h.cell j]
  simpa using hv
theorem blk_there {W : World} {b : Nat} {t : TypeId} {cs : Array Value} (h : Blk W b t cs) : W.there b 0 cs.size := fun j hj => by
  rw [Nat.zero_add]
  exact ⟨by rw [h.cell j]; simp [hj], h.frozen j⟩
theorem infoEn : (Tryz.prog.info? 32).map (·.size) = some 18 := by kernel_rfl
/-- A struct that lies in a block, loaded. -/
theorem load_blk {W : World} {b : Nat} {cs : List Value} (h : Blk W b 32 cs.toArray) (hn : cs.length = 18) : (loadVar 32 ⟨b, 0, none⟩).run Tryz.prog W = .ok (.agg cs.toArray) W :=
  run_loadVar_mid W b 0 32 cs _ (blk_range h) Tryz.underlying32 rfl (by rw [infoEn, hn])
/-- A struct stored into a block. -/
theorem store_blk {W : World} {b : Nat} {cs zs : Array Value} (h : Blk W b 32 zs) (hz : zs.size = 18) (hn : cs.size = 18) (h1 : cs.all (·.oneCell') = true) :
    ∃ W', (storeVar 32 ⟨b, 0, none⟩ (.agg cs)).run Tryz.prog W = .ok () W' ∧ Blk W' b 32 cs ∧ W'.heap.size = W.heap.size ∧ (∀ n (w : World), n ≤ b → Below n w W → Below n w W') ∧ ∀ g t ds, g ≠ b → Blk W g t ds → Blk W' g t ds :=
  ⟨_, run_storeVar_mid W b 0 32 cs (by have := blk_there h; rw [hz] at this; rw [hn]; exact this) (by rw [infoEn, hn]) h1, (by have := blk_setCells cs.toList 0 _ _ h; rw [setAll_all zs cs (by rw [hz, hn])] at this; exact this), size_setCells .., fun n w hb hB => below_setCells hb _ _ _ hB, fun g t ds hg hk => blk_setCells_far hg _ _ _ hk⟩

section
variable {P : Program} {ops : Array Oper} {rest : List Oper} {op : Oper} {a : Act} {w w' : World} {Q : Exit → Act → World → Prop}
theorem wpList_load_eq (hgd : op.guard = none) (ty : TypeId) (x : Operand) (ho : op.op = .load ty x) (b o : Nat) (hx : a.eval x = .pointer (some ⟨b, o, none⟩)) (v : Value) (hrun : (loadVar ty ⟨b, o, none⟩).run P w = .ok v w)
    (h : wpList P ops Q rest (a.put op.dst v) w) : wpList P ops Q (op :: rest) a w :=
  wpList_plain hgd fun _ hK => by
    unfold Oper.wp execOp
    simp only [ho, hx, Instr.loadAt, Instr.sureAddr, Sem.run_bind, Sem.run_pure, Result.andThen_ok, hrun]
    exact hK _ _ h
theorem wpList_load_on (hw : Region.wanted op (yielded ops a.tmps) = true) (ty : TypeId) (x : Operand) (ho : op.op = .load ty x) (b o : Nat) (hx : a.eval x = .pointer (some ⟨b, o, none⟩)) (v : Value) (hrun : (loadVar ty ⟨b, o, none⟩).run P w = .ok v w)
    (h : wpList P ops Q rest (a.put op.dst v) w) : wpList P ops Q (op :: rest) a w :=
  wpList_step fun K hK => by
    rw [if_pos hw]
    unfold Oper.wp execOp
    simp only [ho, hx, Instr.loadAt, Instr.sureAddr, Sem.run_bind, Sem.run_pure, Result.andThen_ok, hrun]
    exact hK _ _ h
theorem wpList_move (hgd : op.guard = none) (x : Operand) (ho : op.op = .move x) (h : wpList P ops Q rest (a.put op.dst (a.eval x)) w) : wpList P ops Q (op :: rest) a w :=
  wpList_plain hgd fun _ hK => by
    unfold Oper.wp execOp
    simp only [ho, Sem.run_bind, Sem.run_pure, Result.andThen_ok]
    exact hK _ _ h
theorem wpList_alloc_eq (hgd : op.guard = none) (ty : TypeId) (ho : op.op = .alloc ty) (v : Value) (hrun : (Instr.alloc ty true (.tuple #[])).run P w = .ok v w')
    (h : wpList P ops Q rest (a.put op.dst v) w') : wpList P ops Q (op :: rest) a w :=
  wpList_plain hgd fun _ hK => by
    unfold Oper.wp execOp
    simp only [ho, Sem.run_bind, Sem.run_pure, Result.andThen_ok, hrun]
    exact hK _ _ h
theorem wpList_store_eq (hgd : op.guard = none) (ty : TypeId) (x y : Operand) (ho : op.op = .store ty x y) (b o : Nat) (hx : a.eval x = .pointer (some ⟨b, o, none⟩)) (v : Value) (hy : a.eval y = v) (hrun : (storeVar ty ⟨b, o, none⟩ v).run P w = .ok () w')
    (h : wpList P ops Q rest (a.put op.dst undef) w') : wpList P ops Q (op :: rest) a w :=
  wpList_plain hgd fun _ hK => by
    unfold Oper.wp execOp
    simp only [ho, hx, hy, Instr.storeAt, Instr.sureAddr, Sem.run_bind, Sem.run_pure, Result.andThen_ok, hrun]
    exact hK _ _ h
end
abbrev ezero : Array Value := #[.int .i8 0, .int .i64 0, .int .i64 0, .int .i64 0, .bool false, .slice none 0 0, .bool false, .int .i64 0, .int .i64 0, .int .i64 0, .int .i64 0, .int .i64 0, .string ⟨#[]⟩, .string ⟨#[]⟩, .int .i64 0, .int .i64 0, .int .i64 0, .slice none 0 0]
theorem alloc_en (w : World) : (Instr.alloc 32 true (.tuple #[])).run Tryz.prog w = .ok (.pointer (some ⟨w.heap.size, 0, none⟩)) (w.alloc (.cells ezero 32)) := by
  simp [go_sem, ezero]
end Go.Proofs.YtckdecodpjfcnaaGreatDoor
namespace Go.Proofs.YtckdecodpjfcnaaGreatDoor
open Go.RowKit Go.Shelf

theorem wide_fn7 (f : FuncId) : Fence.wide.fn f = True := rfl
attribute [local go_sem] Oper.semAt_some wide_fn7

/-- Two blocks lie as they lay. -/
def KeepTwo (b c : Nat) (W W' : World) : Prop := W'.heap[b]? = W.heap[b]? ∧ W'.heap[c]? = W.heap[c]?
theorem KeepTwo.refl (b c : Nat) (W : World) : KeepTwo b c W W := ⟨rfl, rfl⟩
theorem KeepTwo.trans {b c : Nat} {U V W : World} (h : KeepTwo b c U V) (k : KeepTwo b c V W) : KeepTwo b c U W := ⟨k.1.trans h.1, k.2.trans h.2⟩
theorem KeepTwo.of_below {b c : Nat} {W W' : World} (h : Below W.heap.size W W') (hb : b < W.heap.size) (hc : c < W.heap.size) : KeepTwo b c W W' := ⟨h.block b hb, h.block c hc⟩
theorem keepTwo_b {b c : Nat} {w : World} (hb : b < w.heap.size) (hc : c < w.heap.size) (W : World) (l : Nat) (o o' : Obj) (hl : w.heap.size ≤ l) (_ : W.heap[l]? = some o) (_ : o.isCells = false) (_ : o.isWalk = false) : KeepTwo b c W (W.putObj l o') :=
  ⟨World.putObj_heap_other (by omega), World.putObj_heap_other (by omega)⟩
theorem keepTwo_set {b c : Nat} (X : World) (k o : Nat) (u : Value) (hb : b ≠ k) (hc : c ≠ k) : KeepTwo b c X (X.setCell ⟨k, o, none⟩ u) := ⟨Below.heap_setCell X _ u _ hb, Below.heap_setCell X _ u _ hc⟩
theorem blk_own {β : Type} (g : Nat) (t : TypeId) (f : β → Array Value) : Own (fun s W => Blk W g t (f s)) := fun s X Y row hs hg hrow =>
  hs.grown hg (fun e' => by obtain ⟨o, ho, hc⟩ := hrow g e'.symm; rw [show X.heap[g]? = _ from hs] at ho; cases ho; cases hc)

/-- The elements, from the last of the first k on. -/
def backF (xs : List Sn) : Nat → List (Nat × Sn)
  | 0 => []
  | k + 1 => (match xs[k]? with | some s => [(k, s)] | none => []) ++ backF xs k
theorem backF_succ {xs : List Sn} {k : Nat} {s : Sn} (h : xs[k]? = some s) : backF xs (k + 1) = (k, s) :: backF xs k := by
  show (match xs[k]? with | some s => [(k, s)] | none => []) ++ backF xs k = _
  rw [h]
  rfl
/-- What is asked of the batches seen, the newest first. -/
def chkB (nx : Int) : List (Nat × Sn) → Bool
  | [] => true
  | x :: l => (okS x.2 && decide (x.2.1 ≤ nx - x.2.2.1)) && chkB x.2.1 l
theorem seenB_snoc (nx : Int) : ∀ (l : List Sn) (s : Sn), seenB nx (l ++ [s]) = ((okS s && decide (s.1 ≤ nx - s.2.1)) && seenB s.1 l)
  | [], s => by rw [List.nil_append, seenB, seenB, seenB]; rfl
  | t :: l, s => by
    rw [List.cons_append, seenB, seenB_snoc nx l s, seenB]
    cases l with
    | nil =>
      simp only [List.nil_append, behindS]
      generalize (okS t && decide (t.1 ≤ s.1 - t.2.1)) = x
      generalize (okS s && decide (s.1 ≤ nx - s.2.1)) = y
      cases x <;> cases y <;> first | rfl | (simp; done) | (simp; rfl)
    | cons u l =>
      simp only [List.cons_append, behindS]
      generalize (okS t && decide (t.1 ≤ u.1 - t.2.1)) = x
      generalize (okS s && decide (s.1 ≤ nx - s.2.1)) = y
      cases x <;> cases y <;> first | rfl | (simp; done) | (simp; rfl)
theorem chkB_back : ∀ (k : Nat) (xs : List Sn) (nx : Int), k ≤ xs.length → chkB nx (backF xs k) = seenB nx (xs.take k)
  | 0, xs, nx, _ => by simp [backF, chkB, seenB]
  | k + 1, xs, nx, hk => by
    have hx : xs[k]? = some xs[k] := List.getElem?_eq_getElem (by omega)
    rw [backF_succ hx, chkB, chkB_back k xs _ (by omega), List.take_add_one, hx]
    exact (seenB_snoc nx (xs.take k) xs[k]).symm
theorem chkB_all (nx : Int) (xs : List Sn) : chkB nx (backF xs xs.length) = seenB nx xs := by
  rw [chkB_back _ _ _ (Nat.le_refl _), List.take_length]
/-- What stands next behind those that were gone through. -/
def behL (nx : Int) : List (Nat × Sn) → Int
  | [] => nx
  | x :: l => behL x.2.1 l
theorem behL_snoc (nx : Int) : ∀ (l : List (Nat × Sn)) (x : Nat × Sn), behL nx (l ++ [x]) = x.2.1
  | [], x => rfl
  | y :: l, x => by rw [List.cons_append, behL, behL_snoc _ l x]
theorem chkB_snoc (nx : Int) : ∀ (l : List (Nat × Sn)) (x : Nat × Sn), chkB nx (l ++ [x]) = (chkB nx l && (okS x.2 && decide (x.2.1 ≤ behL nx l - x.2.2.1)))
  | [], x => by rw [List.nil_append, chkB, chkB, chkB, Bool.and_true, Bool.true_and]; rfl
  | y :: l, x => by
    rw [List.cons_append, chkB, chkB, chkB_snoc _ l x, behL, Bool.and_assoc, Bool.and_assoc, Bool.and_assoc]
theorem chkB_pre (nx : Int) : ∀ (l m : List (Nat × Sn)), chkB nx l = false → chkB nx (l ++ m) = false
  | [], m, h => by cases h
  | y :: l, m, h => by
    rw [List.cons_append, chkB]
    rw [chkB] at h
    rcases Bool.and_eq_false_iff.1 h with h | h
    · rw [h]; rfl
    · rw [chkB_pre _ l m h, Bool.and_false]
/-- What was gone through lies in the ranges. -/
theorem chkB_beh (nx : Int) : ∀ (l : List (Nat × Sn)), 0 ≤ nx ∧ nx ≤ 1048576 → chkB nx l = true → 0 ≤ behL nx l ∧ behL nx l ≤ 1048576
  | [], h, _ => h
  | x :: l, h, hc => by
    rw [chkB, Bool.and_eq_true, Bool.and_eq_true] at hc
    obtain ⟨⟨h1, h2⟩, h3⟩ := hc
    unfold okS at h1
    simp only [Bool.and_eq_true, decide_eq_true_eq] at h1 h2
    exact chkB_beh _ l (by omega) h3

theorem Backward_any (D : Option Addr) (n c : Nat) (w : World) :
    Calls Tryz.prog 46 #[.slice D n c] w fun e w' => e = .returned (.func (.func 73) #[] #[.pointer (some ⟨w.heap.size, 0, none⟩)]) ∧ w.alloc (.cells #[.slice D n c] 28) = w' := by
  go_enter Tryz.func46, Tryz.ntmps46
  go_wp2
  go_ret
  exact ⟨rfl, rfl⟩

abbrev encB (x : Nat × Sn) : Array Value := #[.int .i64 (x.1 : Int), (.agg #[.int .i64 x.2.1, .int .i64 x.2.2.1, .int .i64 x.2.2.2])]
set_option maxRecDepth 100000 in
set_option maxHeartbeats 1000000 in
theorem back1_in (l Bs b off cap : Nat) (D : Option Addr) (xs : List Sn) (hxs : xs.length ≤ 1000000) (J Jx : List (Nat × Sn) → World → Prop) (W : World) (hb : b < W.heap.size) (hBs : Bs < W.heap.size) (hJ : AbidesFrom W.heap.size J)
    (hY : ∀ pre x W, J pre W → pre.length < xs.length → YieldAt Fence.wide 3 Tryz.prog l (encB x) W fun e W' =>
      (e = .returned (.bool true) ∧ J (pre ++ [x]) W' ∧ KeepTwo b Bs W W') ∨ (e = .returned (.bool false) ∧ Jx (pre ++ [x]) W'))
    (hBc : W.cell? ⟨Bs, 0, none⟩ = some (.slice D xs.length cap)) (hD : 0 < xs.length → D = some ⟨b, off, none⟩)
    (hc : ∀ i p, xs[i]? = some p → W.cell? ⟨b, off + i * 3, none⟩ = some (.int .i64 p.1) ∧ W.cell? ⟨b, off + i * 3 + 1, none⟩ = some (.int .i64 p.2.1) ∧ W.cell? ⟨b, off + i * 3 + 2, none⟩ = some (.int .i64 p.2.2)) (h0 : J [] W) :
    CallsIn Fence.wide 4 Tryz.prog 73 #[.func (.yield l) #[] #[], .pointer (some ⟨Bs, 0, none⟩)] W fun e W' => (∃ v, e = .returned v) ∧
      ((∃ ys, ys = backF xs xs.length ∧ J ys W') ∨ (∃ pre, pre <+: backF xs xs.length ∧ Jx pre W')) := by
  refine callsIn_of_wp Tryz.func73 rfl trivial ?_ rfl
  simp only [Tryz.ntmps73, List.size_toArray, List.length_cons, List.length_nil, Nat.reduceAdd, Nat.reduceSub, Array.replicate_succ, Array.replicate_zero, List.push_toArray, List.append_toArray, List.nil_append, List.cons_append]
  have cw0 : IntKind.i64.wrap ((xs.length : Int) - 1) = (xs.length : Int) - 1 := IntWalk.i64_in _ (by omega)
  gi_wp2
  gi_loopw [3] (fun i wr => ∃ (k : Nat) (j : Int) (pre : List (Nat × Sn)), k ≤ xs.length ∧ i = .int .i64 j ∧ j = (k : Int) - 1 ∧ J pre wr ∧ KeepTwo b Bs W wr ∧ backF xs xs.length = pre ++ backF xs k ∧ pre.length + k = xs.length)
    (fun i _ => (intOf i + 1).toNat)
  case atStart => exact ⟨xs.length, _, [], Nat.le_refl _, rfl, rfl, h0, KeepTwo.refl _ _ _, rfl, by simp⟩
  case round =>
    obtain ⟨k, j, pre, hk, rfl, hj, hJs, hnx, hsp, hpl⟩ := hrel
    have hcx : wr.cell? ⟨Bs, 0, none⟩ = some (.slice D xs.length cap) := (World.cell?_of_block hnx.2).trans hBc
    have HS := Lib.hid hsp
    have HPL := Lib.hid hpl
    clear hsp hpl
    cases k with
    | zero =>
      have d0 : decide ((0 : Int) ≤ j) = false := by simp; omega
      gi_wp2
      go_end0
      exact ⟨⟨_, rfl⟩, .inl ⟨pre, by rw [HS.out]; simp [backF], hJs⟩⟩
    | succ k =>
      obtain rfl : j = (k : Int) := by omega
      obtain ⟨s, hs⟩ : ∃ s, xs[k]? = some s := ⟨_, List.getElem?_eq_getElem (by omega)⟩
      obtain ⟨g1, g2, g3⟩ := hc k s hs
      obtain rfl := hD (by omega)
      replace g1 := (World.cell?_of_block (a := ⟨b, off + k * 3, none⟩) hnx.1).trans g1
      replace g2 := (World.cell?_of_block (a := ⟨b, off + k * 3 + 1, none⟩) hnx.1).trans g2
      replace g3 := (World.cell?_of_block (a := ⟨b, off + k * 3 + 2, none⟩) hnx.1).trans g3
      have d0 : decide ((0 : Int) ≤ (k : Int)) = true := by simp
      have i1 : (0 : Int) ≤ (k : Int) := by omega
      have i2 : (k : Int) < (xs.length : Int) := by omega
      have cw1 : IntKind.i64.wrap ((k : Int) - 1) = (k : Int) - 1 := IntWalk.i64_in _ (by omega)
      obtain ⟨fn, tmps, assign, body, hy, hR⟩ := hY pre (k, s) wr hJs (by have := HPL.out; omega)
      have HBK := Lib.hid (backF_succ hs)
      try dsimp only at hy
      clear hc hs hY h0 hj
      gi_wp2
      refine hR.mono ?_
      rintro e W3 (⟨rfl, hJ3, hk3⟩ | ⟨rfl, hJx3⟩)
      · gi_wp2
        go_roundw
        case rel => exact ⟨k, _, pre ++ [(k, s)], by omega, rfl, rfl, hJ3, hnx.trans hk3, by rw [HS.out, HBK.out]; simp, by have := HPL.out; simp; omega⟩
        case measure => simp [intOf]
      · gi_wp2
        refine bodyPost_ret (results_none rfl _ _ _) rfl ?_
        exact ⟨⟨_, rfl⟩, .inr ⟨_, ⟨backF xs k, by rw [HS.out, HBK.out]; simp⟩, hJx3⟩⟩
theorem back_stops (Bs b off cap : Nat) (D : Option Addr) (xs : List Sn) (hxs : xs.length ≤ 1000000) (w : World) (hb : b < w.heap.size) (hBs : Bs < w.heap.size) (hBc : w.cell? ⟨Bs, 0, none⟩ = some (.slice D xs.length cap)) (hD : 0 < xs.length → D = some ⟨b, off, none⟩)
    (hc : ∀ i p, xs[i]? = some p → w.cell? ⟨b, off + i * 3, none⟩ = some (.int .i64 p.1) ∧ w.cell? ⟨b, off + i * 3 + 1, none⟩ = some (.int .i64 p.2.1) ∧ w.cell? ⟨b, off + i * 3 + 2, none⟩ = some (.int .i64 p.2.2)) :
    SeqStopsK Fence.wide 4 Tryz.prog 73 #[.pointer (some ⟨Bs, 0, none⟩)] encB (KeepTwo b Bs) (fun ys => ys = backF xs xs.length) (fun pre => pre <+: backF xs xs.length) xs.length w :=
  fun l J Jx W hW hJ _ hY h0 =>
    back1_in l Bs b off cap D xs hxs J Jx W (Nat.lt_of_lt_of_le hb hW.size) (Nat.lt_of_lt_of_le hBs hW.size) hJ hY ((hW.cell (p := ⟨Bs, 0, none⟩) hBs).trans hBc) hD
      (fun i p hp => ⟨(hW.cell (p := ⟨b, _, none⟩) hb).trans (hc i p hp).1, (hW.cell (p := ⟨b, _, none⟩) hb).trans (hc i p hp).2.1, (hW.cell (p := ⟨b, _, none⟩) hb).trans (hc i p hp).2.2⟩) h0

theorem known_ret (v : Bool) (tmps : Array Value) (b : Nat) (W : World) (h2 : tmps[2]?.getD undef = .pointer (some ⟨b, 0, none⟩)) (hc : W.cell? ⟨b, 0, none⟩ = some (.bool v)) :
    (results Tryz.f17 tmps).run Tryz.prog W = .ok (.bool v) W := by
  simp [results, Tryz.results17, go_sem, h2, hc]
set_option maxRecDepth 100000 in
set_option maxHeartbeats 1000000 in
theorem Known_no (p : Pd) (D1 : Option Addr) (e1 : Nat) (w : World) (h : prodB p.pid p.ep = false ∨ seqB p.nx = false ∨ 3 < p.seen.length) :
    Calls Tryz.prog 17 #[(.agg #[.int .i64 p.pid, .int .i64 p.ep, .int .i64 p.nx, .slice D1 p.seen.length e1])] w fun e w' => e = .returned (.bool false) ∧ Below w.heap.size w w' := by
  have HC0 := Lib.hid (blk_new (w.alloc (.cells #[.int .i64 p.pid, .int .i64 p.ep, .int .i64 p.nx, .slice D1 p.seen.length e1] 30)) 4 #[.bool false] (g := w.heap.size + 1) (by simp))
  have HC1 := Lib.hid (HC0.out.set_ 0 (.bool false))
  have HB0 := Lib.hid (bal (bal (Below.refl w.heap.size w) (.cells #[.int .i64 p.pid, .int .i64 p.ep, .int .i64 p.nx, .slice D1 p.seen.length e1] 30)) (.cells #[.bool false] 4))
  have HB := Lib.hid (bset (bal (bal (Below.refl w.heap.size w) (.cells #[.int .i64 p.pid, .int .i64 p.ep, .int .i64 p.nx, .slice D1 p.seen.length e1] 30)) (.cells #[.bool false] 4)) (show w.heap.size ≤ w.heap.size + 1 by omega) (o := 0) (.bool false))
  have PR := Lib.hid (fun W => producer_any p.pid p.ep W)
  have SQ := Lib.hid (fun W => sequence_any p.nx W)
  rcases h with h | h
  · rw [h] at PR
    clear h
    go_enter Tryz.func17, Tryz.ntmps17
    go_wp2_with fail
    refine (PR.out _).mono ?_
    rintro e w1 ⟨rfl, rfl⟩
    go_wp2_with fail
    refine bodyPost_ret (v := .bool false) (known_ret false _ (w.heap.size + 1) _ rfl (by first | exact HC0.out.cell 0 | exact HC1.out.cell 0)) rfl ?_
    exact ⟨rfl, by first | exact HB0.out | exact HB.out⟩
  · generalize prodB p.pid p.ep = d1 at *
    cases d1
    · clear h
      go_enter Tryz.func17, Tryz.ntmps17
      go_wp2_with fail
      refine (PR.out _).mono ?_
      rintro e w1 ⟨rfl, rfl⟩
      go_wp2_with fail
      refine bodyPost_ret (v := .bool false) (known_ret false _ (w.heap.size + 1) _ rfl (by first | exact HC0.out.cell 0 | exact HC1.out.cell 0)) rfl ?_
      exact ⟨rfl, by first | exact HB0.out | exact HB.out⟩
    · generalize seqB p.nx = d2 at *
      cases d2
      · clear h
        go_enter Tryz.func17, Tryz.ntmps17
        go_wp2_with fail
        refine (PR.out _).mono ?_
        rintro e w1 ⟨rfl, rfl⟩
        go_wp2_with fail
        refine (SQ.out _).mono ?_
        rintro e w1 ⟨rfl, rfl⟩
        go_wp2_with fail
        refine bodyPost_ret (v := .bool false) (known_ret false _ (w.heap.size + 1) _ rfl (by first | exact HC0.out.cell 0 | exact HC1.out.cell 0)) rfl ?_
        exact ⟨rfl, by first | exact HB0.out | exact HB.out⟩
      · have d3 : decide ((3 : Int) < (p.seen.length : Int)) = true := by
          rcases h with h | h
          · cases h
          · simp; omega
        clear h
        go_enter Tryz.func17, Tryz.ntmps17
        go_wp2_with fail
        refine (PR.out _).mono ?_
        rintro e w1 ⟨rfl, rfl⟩
        go_wp2_with fail
        refine (SQ.out _).mono ?_
        rintro e w1 ⟨rfl, rfl⟩
        go_wp2_with fail
        refine bodyPost_ret (v := .bool false) (known_ret false _ (w.heap.size + 1) _ rfl (by first | exact HC0.out.cell 0 | exact HC1.out.cell 0)) rfl ?_
        exact ⟨rfl, by first | exact HB0.out | exact HB.out⟩
set_option maxRecDepth 100000 in
set_option maxHeartbeats 4000000 in
theorem Known_yes (p : Pd) (D1 : Option Addr) (e1 : Nat) (w : World) (hr : Reads w w.heap.size 3 D1 p.seen.length (cellsN p.seen)) (hp : prodB p.pid p.ep = true) (hn : seqB p.nx = true) (hl : p.seen.length ≤ 3) :
    Calls Tryz.prog 17 #[(.agg #[.int .i64 p.pid, .int .i64 p.ep, .int .i64 p.nx, .slice D1 p.seen.length e1])] w fun e w' => e = .returned (.bool (seenB p.nx p.seen)) ∧ Below w.heap.size w w' := by
  have hnx : 0 ≤ p.nx ∧ p.nx ≤ 1048576 := by unfold seqB at hn; simpa using hn
  have hb0 : ∃ b off, (0 < p.seen.length → D1 = some ⟨b, off, none⟩) ∧ (b = w.heap.size ∨ b < w.heap.size) ∧ ∀ i q, p.seen[i]? = some q → b < w.heap.size ∧ w.cell? ⟨b, off + i * 3, none⟩ = some (.int .i64 q.1) ∧ w.cell? ⟨b, off + i * 3 + 1, none⟩ = some (.int .i64 q.2.1) ∧ w.cell? ⟨b, off + i * 3 + 2, none⟩ = some (.int .i64 q.2.2) := by
    by_cases h0 : 0 < p.seen.length
    · obtain ⟨b, off, h1, h2, h3⟩ := hr.plain3 h0
      exact ⟨b, off, fun _ => h1, .inr h2, fun i q hq => ⟨h2, h3 i q hq⟩⟩
    · refine ⟨w.heap.size, 0, fun h => absurd h h0, .inl rfl, fun i q hq => ?_⟩
      have h00 : p.seen = [] := List.length_eq_zero_iff.1 (by omega)
      rw [h00] at hq
      simp at hq
  obtain ⟨b, off, hD, hbb, hc⟩ := hb0
  have PR := Lib.hid (fun W => producer_any p.pid p.ep W)
  have SQ := Lib.hid (fun W => sequence_any p.nx W)
  rw [hp] at PR
  rw [hn] at SQ
  have d3 : decide ((3 : Int) < (p.seen.length : Int)) = false := by simp; omega
  obtain ⟨W0, hW0⟩ : ∃ W0, W0 = (((w.alloc (.cells #[.int .i64 p.pid, .int .i64 p.ep, .int .i64 p.nx, .slice D1 p.seen.length e1] 30)).alloc (.cells #[.bool false] 4)).alloc (.cells #[.int .i64 p.nx] 3)) := ⟨_, rfl⟩
  obtain ⟨W1, hW1⟩ : ∃ W1, W1 = W0.alloc (.cells #[.slice D1 p.seen.length e1] 28) := ⟨_, rfl⟩
  have hB0 : Below w.heap.size w W0 := by rw [hW0]; exact bal (bal (bal (Below.refl _ _) _) _) _
  have hB1 : Below w.heap.size w W1 := by rw [hW1]; exact bal hB0 _
  have hs0 : W0.heap.size = w.heap.size + 3 := by rw [hW0]; simp
  have hs1 : W1.heap.size = w.heap.size + 4 := by rw [hW1]; simp [hs0]
  have bP : Blk W1 w.heap.size 30 #[.int .i64 p.pid, .int .i64 p.ep, .int .i64 p.nx, .slice D1 p.seen.length e1] := by rw [hW1, hW0]; exact (((Blk.new w _ _).alloc _).alloc _).alloc _
  have bR : Boxed W1 (w.heap.size + 1) 4 (.bool false) := by
    rw [hW1, hW0]
    have := ((Boxed.new (w.alloc (.cells #[.int .i64 p.pid, .int .i64 p.ep, .int .i64 p.nx, .slice D1 p.seen.length e1] 30)) 4 (.bool false)).alloc (.cells #[.int .i64 p.nx] 3)).alloc (.cells #[.slice D1 p.seen.length e1] 28)
    simpa using this
  have bH : Boxed W1 (w.heap.size + 2) 3 (.int .i64 p.nx) := by
    rw [hW1, hW0]
    have := (Boxed.new ((w.alloc (.cells #[.int .i64 p.pid, .int .i64 p.ep, .int .i64 p.nx, .slice D1 p.seen.length e1] 30)).alloc (.cells #[.bool false] 4)) 3 (.int .i64 p.nx)).alloc (.cells #[.slice D1 p.seen.length e1] 28)
    simpa using this
  have bS : W1.cell? ⟨w.heap.size + 3, 0, none⟩ = some (.slice D1 p.seen.length e1) := by
    have := (Boxed.new W0 28 (.slice D1 p.seen.length e1)).cell
    rw [hs0] at this
    rw [hW1]
    exact this
  have hbw : b < W1.heap.size := by omega
  have hc1 : ∀ i q, p.seen[i]? = some q → W1.cell? ⟨b, off + i * 3, none⟩ = some (.int .i64 q.1) ∧ W1.cell? ⟨b, off + i * 3 + 1, none⟩ = some (.int .i64 q.2.1) ∧ W1.cell? ⟨b, off + i * 3 + 2, none⟩ = some (.int .i64 q.2.2) := fun i q hq => by
    obtain ⟨hlt, h1, h2, h3⟩ := hc i q hq
    exact ⟨(hB1.cell (p := ⟨b, _, none⟩) hlt).trans h1, (hB1.cell (p := ⟨b, _, none⟩) hlt).trans h2, (hB1.cell (p := ⟨b, _, none⟩) hlt).trans h3⟩
  have BW1 := Lib.hid (Backward_any D1 p.seen.length e1 W0)
  rw [← hW1] at BW1
  have HH := Lib.hid hc1
  have HDD := Lib.hid hD
  have HW0 := Lib.hid hW0
  have HS := Lib.hid hs1
  have HS0 := Lib.hid hs0
  have HCB := Lib.hid (chkB_all p.nx p.seen)
  have BP := Lib.hid bP
  have BR := Lib.hid bR
  have BH := Lib.hid bH
  have BS := Lib.hid bS
  have HB1 := Lib.hid hB1
  clear hr hp hn hc hc1 hD hW0 hW1 hs0 hs1 bP bR bH bS hB0 hB1
  refine (callsIn_wide (n := 5)).1 ?_
  refine callsIn_of_wp_marks Tryz.func17 rfl trivial ?_ rfl
  simp only [Tryz.ntmps17, List.size_toArray, List.length_cons, List.length_nil, Nat.reduceAdd, Nat.reduceSub, Array.replicate_succ, Array.replicate_zero, List.push_toArray, List.append_toArray, List.nil_append, List.cons_append]
  gi_wp2_with (first | (gi_at_call 37; refine (callsIn_wide.2 (PR.out _)).mono ?_; rintro e w' ⟨rfl, rfl⟩) | (gi_at_call 35; refine (callsIn_wide.2 (SQ.out _)).mono ?_; rintro e w' ⟨rfl, rfl⟩) | (gi_at_call 46; rw [← HW0.out]; refine (callsIn_wide.2 BW1.out).mono ?_; rintro e w' ⟨rfl, rfl⟩))
  have hs0 := HS0.out
  have hs1 := HS.out
  have hseq := back_stops W0.heap.size b off e1 D1 p.seen (by omega) W1 hbw (by omega) (by rw [hs0]; exact BS.out) HDD.out HH.out
  refine wpIn_rangeFunc_ownH rfl (by omega) (gf := 73) (lb := #[.pointer (some ⟨W0.heap.size, 0, none⟩)]) rfl trivial (enters_of Tryz.func73 (by kernel_rfl) rfl)
    hseq KeepTwo.trans (keepTwo_b (by omega) (by omega)) (Below.refl _ _) (fun _ => rfl)
    (fun pre W => (((chkB p.nx pre = true) ∧ Boxed W (w.heap.size + 1) 4 (.bool false)) ∧ Boxed W (w.heap.size + 1 + 1) 3 (.int .i64 (behL p.nx pre))) ∧ Below w.heap.size w W ∧ w.heap.size + 4 ≤ W.heap.size)
    (fun c pre W => ((c = .ret ∧ chkB p.nx pre = false) ∧ Boxed W (w.heap.size + 1) 4 (.bool false)) ∧ Below w.heap.size w W)
    (OwnFrom.and (OwnFrom.and (OwnFrom.and (ownFrom_pure _ _) (Own.from (boxed_own _ _ _) _)) (Own.from (boxed_own _ _ (fun pre => Value.int .i64 (behL p.nx pre))) _)) (OwnFrom.and (ownFrom_below (Nat.le_refl _) (by omega)) (fun _ _ _ _ hs hg _ => Nat.le_trans hs hg.size)))
    (fun c => OwnFrom.and (OwnFrom.and (ownFrom_pure _ _) (Own.from (boxed_own _ _ _) _)) (ownFrom_below (Nat.le_refl _) (by omega)))
    ⟨⟨⟨rfl, BR.out⟩, BH.out⟩, HB1.out, by omega⟩
    (fun x a' W => ∃ Bx, w.heap.size + 3 < Bx ∧ Blk W Bx 73 #[.int .i64 x.2.1, .int .i64 x.2.2.1, .int .i64 x.2.2.2] ∧ a' = { tmps := #[(.agg #[.int .i64 p.pid, .int .i64 p.ep, .int .i64 p.nx, .slice D1 p.seen.length e1]), .pointer (some ⟨w.heap.size, 0, none⟩), .pointer (some ⟨w.heap.size + 1, 0, none⟩), .pointer (some ⟨w.heap.size + 1 + 1, 0, none⟩), undef, .pointer (some ⟨Bx, 0, none⟩), .pointer (some ⟨w.heap.size, 0, none⟩), .int .i64 p.pid, .pointer (some ⟨w.heap.size, 1, none⟩), .int .i64 p.ep, .bool true, .bool false, .bool false, .pointer (some ⟨w.heap.size, 2, none⟩), .int .i64 p.nx, .bool true, .bool false, .bool false, .bool false, .pointer (some ⟨w.heap.size, 3, none⟩), .slice D1 p.seen.length e1, .int .i64 (p.seen.length : Int), .bool false, .bool false, .pointer (some ⟨w.heap.size, 2, none⟩), .int .i64 p.nx, .pointer (some ⟨w.heap.size, 3, none⟩), .slice D1 p.seen.length e1, .func (.func 73) #[] #[.pointer (some ⟨W0.heap.size, 0, none⟩)], .int .i64 (x.1 : Int), (.agg #[.int .i64 x.2.1, .int .i64 x.2.2.1, .int .i64 x.2.2.2]), undef, undef, undef, undef, undef, undef, undef, undef, undef, undef, undef, undef, undef, undef, undef, undef, undef, undef, undef, undef, undef, undef, undef, undef, undef, undef, undef, undef, undef, undef, undef, undef], defers := [] })
    (fun x a' _ X Y row hs hg hr => by obtain ⟨Bx, e1, e2, e3⟩ := hs; exact ⟨Bx, e1, blk_own Bx 73 (fun (_ : Unit) => #[Value.int .i64 x.2.1, .int .i64 x.2.2.1, .int .i64 x.2.2.2]) () X Y row e2 hg (fun r e => (hr r e).2), e3⟩)
    ?assign ?body ?done ?stop
  case assign =>
    rintro l pre x W K ⟨⟨⟨hp, bR1⟩, bH1⟩, hB, hsW⟩ hK
    clear hseq hs0 hs1
    gi_wp2
    have hs0 := HS0.out
    have hs1 := HS.out
    exact hK _ _ ((KeepsOthers.alloc _ _).from _) (KeepTwo.of_below (bal (Below.refl _ W) _) (by omega) (by omega)) ⟨⟨⟨hp, bR1.alloc _⟩, bH1.alloc _⟩, bal hB _, by simp; omega⟩ ⟨W.heap.size, by omega, Blk.new W _ _, rfl⟩
  case body =>
    rintro l pre x a' W hl ⟨r, hr⟩ ⟨⟨⟨hp, bR1⟩, bH1⟩, hB, hsW⟩ ⟨Bx, hBx, bX, rfl⟩ hlt
    have hbeh := chkB_beh p.nx pre hnx hp
    have c0 := bX.cell 0
    have c1 := bX.cell 1
    have c2 := bX.cell 2
    have cH := bH1.cell
    have fH := bH1.frozen
    have cR := bR1.cell
    have fR := bR1.frozen
    have HSN := Lib.hid (chkB_snoc p.nx pre x)
    have HBS := Lib.hid (behL_snoc p.nx pre x)
    have HP := Lib.hid hp
    generalize behL p.nx pre = H at *
    obtain ⟨i, s1, s2, s3⟩ := x
    simp only at c0 c1 c2 HSN HBS
    have hfin : ∀ (hf : (okS (s1, s2, s3) && decide (s1 ≤ H - s2)) = false), chkB p.nx (pre ++ [(i, s1, s2, s3)]) = false := fun hf => by rw [HSN.out, hf, Bool.and_false]
    have HFIN := Lib.hid hfin
    have HHR := Lib.hid hr
    clear hfin hp hseq hr hs0 hs1
    by_cases h1 : s2 < 1
    · have e1 : decide (s2 < 1) = true := decide_eq_true h1
      have HF := Lib.hid (HFIN.out (by unfold okS; rw [decide_eq_false (show ¬ (1 ≤ s2 ∧ s2 ≤ 4) by omega)]; simp))
      clear h1
      gi_wp2
      exact ⟨(KeepsOthers.setCell _ _ _).from _, ⟨⟨rfl, HF.out⟩, bR1.set _⟩, bset hB (by omega) _⟩
    have e1 : decide (s2 < 1) = false := decide_eq_false h1
    by_cases h2 : 4 < s2
    · have e2 : decide (4 < s2) = true := decide_eq_true h2
      have HF := Lib.hid (HFIN.out (by unfold okS; rw [decide_eq_false (show ¬ (1 ≤ s2 ∧ s2 ≤ 4) by omega)]; simp))
      clear h1 h2
      gi_wp2
      exact ⟨(KeepsOthers.setCell _ _ _).from _, ⟨⟨rfl, HF.out⟩, bR1.set _⟩, bset hB (by omega) _⟩
    have e2 : decide (4 < s2) = false := decide_eq_false h2
    by_cases h3 : s3 < -1
    · have e3 : decide (s3 < -1) = true := decide_eq_true h3
      have HF := Lib.hid (HFIN.out (by unfold okS; rw [decide_eq_false (show ¬ (-1 ≤ s3 ∧ s3 ≤ 1048576) by omega)]; simp))
      clear h1 h2 h3
      gi_wp2
      exact ⟨(KeepsOthers.setCell _ _ _).from _, ⟨⟨rfl, HF.out⟩, bR1.set _⟩, bset hB (by omega) _⟩
    have e3 : decide (s3 < -1) = false := decide_eq_false h3
    by_cases h4 : 1048576 < s3
    · have e4 : decide (1048576 < s3) = true := decide_eq_true h4
      have HF := Lib.hid (HFIN.out (by unfold okS; rw [decide_eq_false (show ¬ (-1 ≤ s3 ∧ s3 ≤ 1048576) by omega)]; simp))
      clear h1 h2 h3 h4
      gi_wp2
      exact ⟨(KeepsOthers.setCell _ _ _).from _, ⟨⟨rfl, HF.out⟩, bR1.set _⟩, bset hB (by omega) _⟩
    have e4 : decide (1048576 < s3) = false := decide_eq_false h4
    by_cases h5 : s1 < 0
    · have e5 : decide (s1 < 0) = true := decide_eq_true h5
      have HF := Lib.hid (HFIN.out (by unfold okS; rw [decide_eq_false (show ¬ 0 ≤ s1 by omega)]; simp))
      clear h1 h2 h3 h4 h5
      gi_wp2
      exact ⟨(KeepsOthers.setCell _ _ _).from _, ⟨⟨rfl, HF.out⟩, bR1.set _⟩, bset hB (by omega) _⟩
    have e5 : decide (s1 < 0) = false := decide_eq_false h5
    have cw : IntKind.i64.wrap (H - s2) = H - s2 := IntWalk.i64_in _ (by omega)
    by_cases h6 : H - s2 < s1
    · have e6 : decide (H - s2 < s1) = true := decide_eq_true h6
      have HF := Lib.hid (HFIN.out (by rw [decide_eq_false (show ¬ s1 ≤ H - s2 by omega), Bool.and_false]))
      clear h1 h2 h3 h4 h5 h6
      gi_wp2
      exact ⟨(KeepsOthers.setCell _ _ _).from _, ⟨⟨rfl, HF.out⟩, bR1.set _⟩, bset hB (by omega) _⟩
    · have e6 : decide (H - s2 < s1) = false := decide_eq_false h6
      have HT := Lib.hid (show chkB p.nx (pre ++ [(i, s1, s2, s3)]) = true by
        rw [HSN.out, HP.out]
        unfold okS
        simp only [Bool.true_and, Bool.and_eq_true, decide_eq_true_eq]
        omega)
      clear h1 h2 h3 h4 h5 h6
      gi_wp2
      have hs0 := HS0.out
      have hs1 := HS.out
      refine ⟨(KeepsOthers.setCell _ _ _).from _, keepTwo_set _ _ _ _ (by omega) (by omega), ⟨⟨HT.out, bR1.other (by omega) _⟩, ?_⟩, bset hB (by omega) _, by simp; omega⟩
      rw [HBS.out]
      exact bH1.set _
  case done =>
    rintro D zs W hD rfl ⟨⟨⟨hp, bR1⟩, bH1⟩, hB, hsW⟩ hK
    have cR := bR1.cell
    have fR := bR1.frozen
    have HT := Lib.hid (show seenB p.nx p.seen = true by rw [← HCB.out]; exact hp)
    clear hseq hp hs0 hs1
    gi_wp2
    have hs1 := HS.out
    have hK' := (KeepsOthers.setCell W ⟨w.heap.size + 1, 0, none⟩ (.bool true)).same D _ hK rfl
    refine ⟨by simp, .inl ⟨_, _, rfl, run_takeDeferred hK', ?_⟩⟩
    have hc5 := cell_kept (bR1.set (.bool true)).cell (grownBy_putObj' _ D (.deferred none)) (fun r e => by cases e; exact ⟨_, hK', rfl⟩)
    refine ⟨.bool true, known_ret true _ _ _ rfl hc5, by rw [HT.out], (bset hB (by omega) _).trans (belowK_b (w := w) (Nat.le_refl _) _ D _ _ (by omega) hK' rfl rfl)⟩
  case stop =>
    rintro D c pre W hD hpre ⟨⟨⟨rfl, hf⟩, bR1⟩, hB⟩ hK
    have HF := Lib.hid (show seenB p.nx p.seen = false by
      obtain ⟨m, hm⟩ := hpre
      rw [← HCB.out, ← hm]
      exact chkB_pre p.nx pre m hf)
    clear hseq hf hs0 hs1
    gi_wp2
    have hs1 := HS.out
    refine ⟨by simp, .inl ⟨_, _, rfl, run_takeDeferred hK, ?_⟩⟩
    have hc5 := cell_kept bR1.cell (grownBy_putObj' _ D (.deferred none)) (fun r e => by cases e; exact ⟨_, hK, rfl⟩)
    refine ⟨.bool false, known_ret false _ _ _ rfl hc5, by rw [HF.out], hB.trans (belowK_b (w := w) (Nat.le_refl _) W D _ _ (by omega) hK rfl rfl)⟩

theorem Known_any (p : Pd) (D1 : Option Addr) (e1 : Nat) (w : World) (hr : Reads w w.heap.size 3 D1 p.seen.length (cellsN p.seen)) :
    Calls Tryz.prog 17 #[(.agg #[.int .i64 p.pid, .int .i64 p.ep, .int .i64 p.nx, .slice D1 p.seen.length e1])] w fun e w' => e = .returned (.bool (knownB p)) ∧ Below w.heap.size w w' := by
  cases h1 : prodB p.pid p.ep
  · have := Known_no p D1 e1 w (.inl h1)
    rw [show knownB p = false by unfold knownB; rw [h1]; rfl]
    exact this
  cases h2 : seqB p.nx
  · have := Known_no p D1 e1 w (.inr (.inl h2))
    rw [show knownB p = false by unfold knownB; rw [h1, h2]; rfl]
    exact this
  by_cases h3 : p.seen.length ≤ 3
  · have := Known_yes p D1 e1 w hr h1 h2 h3
    rw [show knownB p = seenB p.nx p.seen by unfold knownB; rw [h1, h2, decide_eq_true h3]; rfl]
    exact this
  · have := Known_no p D1 e1 w (.inr (.inr (by omega)))
    rw [show knownB p = false by unfold knownB; rw [h1, h2, decide_eq_false h3]; rfl]
    exact this
end Go.Proofs.YtckdecodpjfcnaaGreatDoor
