/-
  Layer 18: begins, check, a tick.
-/
import Derived.Test.YtagclnmchkgpdaaDoorStK
namespace Go.Proofs.YtagclnmchkgpdaaDoor
open Go.RowKit

def beginsB (st mv : Int) : Bool :=
  if st = 0 then mv == 0
  else if st = 2 then ((mv == 1) || (mv == 2)) || (mv == 4)
  else if st = 1 ∨ st = 5 ∨ st = 6 then ((mv == 0) || (mv == 1)) || (mv == 2)
  else if st = 3 ∨ st = 4 then mv == 3
  else false

set_option maxRecDepth 100000 in
set_option maxHeartbeats 1000000 in
theorem begins_any (st mv : Int) (w : World) : Calls Tryd.prog 64 #[.int .i8 st, .int .i8 mv] w fun e w' => e = .returned (.bool (beginsB st mv)) ∧ w = w' := by
  have h : st = 0 ∨ st = 2 ∨ st = 1 ∨ st = 5 ∨ st = 6 ∨ st = 3 ∨ st = 4 ∨ (st < 0 ∨ 6 < st) := by omega
  rcases h with rfl | rfl | rfl | rfl | rfl | rfl | rfl | h
  · go_enter Tryd.func64, Tryd.ntmps64
    go_wp2
    all_goals (go_ret; exact ⟨ret_bool (by unfold beginsB; simp [*]), rfl⟩)
  · go_enter Tryd.func64, Tryd.ntmps64
    go_wp2
    all_goals (go_ret; exact ⟨ret_bool (by unfold beginsB; simp [*]), rfl⟩)
  · go_enter Tryd.func64, Tryd.ntmps64
    go_wp2
    all_goals (go_ret; exact ⟨ret_bool (by unfold beginsB; simp [*]), rfl⟩)
  · go_enter Tryd.func64, Tryd.ntmps64
    go_wp2
    all_goals (go_ret; exact ⟨ret_bool (by unfold beginsB; simp [*]), rfl⟩)
  · go_enter Tryd.func64, Tryd.ntmps64
    go_wp2
    all_goals (go_ret; exact ⟨ret_bool (by unfold beginsB; simp [*]), rfl⟩)
  · go_enter Tryd.func64, Tryd.ntmps64
    go_wp2
    all_goals (go_ret; exact ⟨ret_bool (by unfold beginsB; simp [*]), rfl⟩)
  · go_enter Tryd.func64, Tryd.ntmps64
    go_wp2
    all_goals (go_ret; exact ⟨ret_bool (by unfold beginsB; simp [*]), rfl⟩)
  · have d0 : (st == 0) = false := eqb_false (by omega)
    have d1 : (st == 1) = false := eqb_false (by omega)
    have d2 : (st == 2) = false := eqb_false (by omega)
    have d3 : (st == 3) = false := eqb_false (by omega)
    have d4 : (st == 4) = false := eqb_false (by omega)
    have d5 : (st == 5) = false := eqb_false (by omega)
    have d6 : (st == 6) = false := eqb_false (by omega)
    have hs : beginsB st mv = false := by
      unfold beginsB
      rw [if_neg (by omega), if_neg (by omega), if_neg (by omega), if_neg (by omega)]
    have HS := Lib.hid hs
    clear hs h
    go_enter Tryd.func64, Tryd.ntmps64
    go_wp2
    go_ret
    exact ⟨ret_bool HS.out.symm, rfl⟩

/-- The code of what check says; 0: nothing is wrong. -/
noncomputable def chkE (c : Co) (mv : Int) (fit : Bool) : Int := if fit = false ∨ mayB c = false then 2 else if beginsB c.st mv = false then 180 else 0
/-- A fault with its code. -/
def FaultAt (code : Int) (w : World) (e : Ending) (w' : World) : Prop :=
  ∃ b, e = .returned (.iface 62 (.pointer (some ⟨b, 0, none⟩))) ∧ w'.cell? ⟨b, 1, none⟩ = some (.int .i64 code) ∧ w.heap.size ≤ b ∧ b < w'.heap.size
def ChkPost (c : Co) (mv : Int) (fit : Bool) (w : World) (e : Ending) (w' : World) : Prop :=
  Below w.heap.size w w' ∧ ((chkE c mv fit = 0 ∧ e = .returned .nilIface) ∨ (¬ chkE c mv fit = 0 ∧ FaultAt (chkE c mv fit) w e w'))

set_option maxRecDepth 100000 in
set_option maxHeartbeats 1000000 in
theorem check_any (c : Co) (A1 D1 : Option Addr) (c1 e1 : Nat) (mv : Int) (fit : Bool) (B : Nat) (w : World) (h1 : CoR w B c A1 D1) (hB : B ≤ w.heap.size) :
    Calls Tryd.prog 47 #[(.agg #[.int .i8 c.st, .int .i64 c.pid, .int .i64 c.ep, .int .i64 c.tm, .int .i64 c.th, .slice A1 c.ps.length c1, .slice D1 c.qs.length e1, .int .i64 c.ag]), .int .i8 mv, .bool fit] w (ChkPost c mv fit w) := by
  have HB := Lib.hid (fun x => bal (Below.refl w.heap.size w) x)
  have HB2 := Lib.hid (fun x y => bal (bal (Below.refl w.heap.size w) x) y)
  have HM := Lib.hid (fun x => May_any c A1 D1 c1 e1 B (w.alloc x) (h1.below (((Below.refl w.heap.size w).alloc (Nat.le_refl _) x).mono hB)) (by simp; omega))
  have KN := fun (W : World) (v : Value) (code : Int) => (Blk.new W 64 #[v, .int .i64 code]).cell 1
  have HKN := Lib.hid KN
  have KC := Lib.hid (Blk.new w 26 #[.int .i8 c.st, .int .i64 c.pid, .int .i64 c.ep, .int .i64 c.tm, .int .i64 c.th, .slice A1 c.ps.length c1, .slice D1 c.qs.length e1, .int .i64 c.ag])
  clear KN h1
  cases fit
  · have hc : chkE c mv false = 2 := by unfold chkE; simp
    have HCC := Lib.hid hc
    clear hc
    go_enter Tryd.func47, Tryd.ntmps47
    go_wp2_with fail
    go_ret
    refine ⟨HB2.out _ _, .inr ⟨by rw [HCC.out]; decide, ?_⟩⟩
    rw [HCC.out]
    refine ⟨_, rfl, ?_, by omega, by simp⟩
    have h := HKN.out (w.alloc (.cells #[.int .i8 c.st, .int .i64 c.pid, .int .i64 c.ep, .int .i64 c.tm, .int .i64 c.th, .slice A1 c.ps.length c1, .slice D1 c.qs.length e1, .int .i64 c.ag] 26)) (.string ⟨#[97, 110, 32, 97, 114, 103, 117, 109, 101, 110, 116]⟩) 2
    rw [World.size_alloc] at h
    exact h
  · cases hm : mayB c
    · have hc : chkE c mv true = 2 := by unfold chkE; simp [hm]
      have HCC := Lib.hid hc
      rw [hm] at HM
      clear hc hm
      go_enter Tryd.func47, Tryd.ntmps47
      go_wp2_with (go_at_call 10; refine (HM.out _).mono ?_; rintro e w1 ⟨rfl, b1⟩)
      go_ret
      have bb := btrans (HB.out _) b1
      have hz := b1.size
      rw [World.size_alloc] at hz
      refine ⟨bal bb _, .inr ⟨by rw [HCC.out]; decide, ?_⟩⟩
      rw [HCC.out]
      exact ⟨_, rfl, HKN.out w1 (.string ⟨#[97, 110, 32, 97, 114, 103, 117, 109, 101, 110, 116]⟩) 2, by omega, by simp⟩
    · rw [hm] at HM
      have HBG := Lib.hid (fun W => begins_any c.st mv W)
      cases hg : beginsB c.st mv
      · have hc : chkE c mv true = 180 := by unfold chkE; simp [hm, hg]
        have HCC := Lib.hid hc
        rw [hg] at HBG
        clear hc hm hg
        go_enter Tryd.func47, Tryd.ntmps47
        go_wp2_with (go_at_call 10; refine (HM.out _).mono ?_; rintro e w1 ⟨rfl, b1⟩; have g0 := (KC.out.below b1 (by simp)).cell 0)
        refine (HBG.out _).mono ?_
        rintro e w2 ⟨rfl, rfl⟩
        go_wp2_with fail
        go_ret
        have bb := btrans (HB.out _) b1
        have hz := b1.size
        rw [World.size_alloc] at hz
        refine ⟨bal bb _, .inr ⟨by rw [HCC.out]; decide, ?_⟩⟩
        rw [HCC.out]
        exact ⟨_, rfl, HKN.out w1 (.string ⟨#[97, 32, 115, 116, 97, 116, 101]⟩) 180, by omega, by simp⟩
      · have hc : chkE c mv true = 0 := by unfold chkE; simp [hm, hg]
        have HCC := Lib.hid hc
        rw [hg] at HBG
        clear hc hm hg
        go_enter Tryd.func47, Tryd.ntmps47
        go_wp2_with (go_at_call 10; refine (HM.out _).mono ?_; rintro e w1 ⟨rfl, b1⟩; have g0 := (KC.out.below b1 (by simp)).cell 0)
        refine (HBG.out _).mono ?_
        rintro e w2 ⟨rfl, rfl⟩
        go_wp2_with fail
        go_ret
        exact ⟨btrans (HB.out _) b1, .inl ⟨HCC.out, rfl⟩⟩
end Go.Proofs.YtagclnmchkgpdaaDoor
