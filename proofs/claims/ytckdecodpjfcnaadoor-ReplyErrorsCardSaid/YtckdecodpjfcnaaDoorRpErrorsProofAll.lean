/-
  The card of ReplyErrors is proved: for every input the call returns true, and each argument reads as before. No condition but the row's own list, which the card ties to the program's text.
  The statement ReplyErrors: its walk.
-/
import Derived.Test.YtckdecodpjfcnaaDoorGrp22
import Derived.Test.YtckdecodpjfcnaaDoorGrp23
set_option linter.unusedVariables false
set_option linter.unusedSimpArgs false
namespace Go.Proofs.YtckdecodpjfcnaaDoor
open Go.RowKit

theorem bare_err {q : Rp} (h : mayB q = true) (h0 : ¬ q.er = 0) : bareB q = true := by
  unfold mayB at h
  rw [Bool.and_eq_true, Bool.and_eq_true, if_neg h0] at h
  exact h.2.2

set_option maxRecDepth 100000 in
set_option maxHeartbeats 4000000 in
theorem rperr_walk (a : Rp) (A1 : Option Addr) (c1 : Nat) (w : World) (hg : HasET w) (hr : Reads w w.heap.size 5 A1 a.rows.length (cellsW a.rows)) :
    Calls Tryd.prog 5 #[(.agg #[.int .i8 a.kd, .int .i64 a.er, .int .i64 a.pid, .int .i64 a.ep, .int .i64 a.off, .slice A1 a.rows.length c1])] w fun e w' => e = .returned (.bool true) ∧ Below w.heap.size w w' := by
  have HB := Lib.hid (bal (Below.refl w.heap.size w) (.cells #[.int .i8 a.kd, .int .i64 a.er, .int .i64 a.pid, .int .i64 a.ep, .int .i64 a.off, .slice A1 a.rows.length c1] 26))
  have KA := Lib.hid (Blk.new w 26 #[.int .i8 a.kd, .int .i64 a.er, .int .i64 a.pid, .int .i64 a.ep, .int .i64 a.off, .slice A1 a.rows.length c1])
  have G := Lib.hid (RpGreat_any a A1 c1 (w.alloc (.cells #[.int .i8 a.kd, .int .i64 a.er, .int .i64 a.pid, .int .i64 a.ep, .int .i64 a.off, .slice A1 a.rows.length c1] 26)) ((hr.alloc (Nat.le_refl _) _).more (by simp)))
  have WK := Lib.hid (fun W (h : Below w.heap.size w W) => wakes09 W (hg.up h))
  have HR := Lib.hid hr
  clear hr hg
  by_cases hgr : greatRp a = true
  · rw [hgr] at G
    go_enter Tryd.func5, Tryd.ntmps5
    go_wp2_with fail
    refine G.out.mono ?_
    rintro e w1 ⟨rfl, b1⟩
    go_wp2_with fail
    refine (WK.out _ (btrans HB.out b1)).mono ?_
    rintro e w2 ⟨rfl, b2⟩
    go_wp2_with fail
    go_ret
    exact ⟨rfl, btrans (btrans HB.out b1) b2⟩
  have hgf : greatRp a = false := by simpa using hgr
  have hl : a.rows.length ≤ 1000000 := by have := (not_greatRp hgf).1; omega
  rw [hgf] at G
  by_cases h0 : a.er = 0
  · have ee : (a.er == 0) = true := by rw [h0]; rfl
    clear h0
    go_enter Tryd.func5, Tryd.ntmps5
    go_wp2_with fail
    refine G.out.mono ?_
    rintro e w1 ⟨rfl, b1⟩
    have x1 := (KA.out.below b1 (by simp)).cell 1
    go_wp2_with fail
    refine (WK.out _ (btrans HB.out b1)).mono ?_
    rintro e w2 ⟨rfl, b2⟩
    go_wp2_with fail
    go_ret
    exact ⟨rfl, btrans (btrans HB.out b1) b2⟩
  have ee : (a.er == 0) = false := by simpa using h0
  have MY := Lib.hid (fun W (h : Below w.heap.size w W) => RpMay_any a A1 c1 W ((HR.out.below h).more h.size) hl)
  by_cases hm : mayB a = true
  · rw [hm] at MY
    have BY := Lib.hid (fun W (h : Below w.heap.size w W) => RpBytes_ok a A1 c1 W ((HR.out.below h).more h.size) hl hm)
    have SM := Lib.hid (fun W (h : Below w.heap.size w W) => RpSame_any a (baseRp a.kd a.er) A1 none c1 0 W ((HR.out.below h).more h.size) Reads.none_ hl)
    rw [same_bare a a.kd a.er rfl rfl, bare_err hm h0] at SM
    have hlen := encRp_err a hm h0
    generalize cRp.e a = L at *
    have d1 : decide ((2 : Int) ≤ (L.length : Int)) = true := by simp; omega
    have d2 : decide ((L.length : Int) ≤ 3) = true := by simp; omega
    clear h0 hm hlen
    go_enter Tryd.func5, Tryd.ntmps5
    go_wp2_with fail
    refine G.out.mono ?_
    rintro e w1 ⟨rfl, b1⟩
    have K1 := Lib.hid (KA.out.below b1 (by simp))
    have B1 := Lib.hid (btrans HB.out b1)
    clear b1
    have x0 := K1.out.cell 0
    have x1 := K1.out.cell 1
    have x2 := K1.out.cell 2
    have x3 := K1.out.cell 3
    have x4 := K1.out.cell 4
    have x5 := K1.out.cell 5
    go_wp2_with fail
    refine (MY.out _ B1.out).mono ?_
    rintro e w2 ⟨rfl, b2⟩
    have K2 := Lib.hid (K1.out.below b2 K1.out.lt)
    have B2 := Lib.hid (btrans B1.out b2)
    clear b2 x0 x1 x2 x3 x4 x5
    have y0 := K2.out.cell 0
    have y1 := K2.out.cell 1
    have y2 := K2.out.cell 2
    have y3 := K2.out.cell 3
    have y4 := K2.out.cell 4
    have y5 := K2.out.cell 5
    go_wp2_with fail
    refine (BY.out _ B2.out).mono ?_
    rintro e w3 ⟨A7, c7, rfl, r7, b3⟩
    have K3 := Lib.hid (K2.out.below b3 K2.out.lt)
    have B3 := Lib.hid (btrans B2.out b3)
    clear b3 r7 y0 y1 y2 y3 y4 y5
    have z0 := K3.out.cell 0
    have z1 := K3.out.cell 1
    have z2 := K3.out.cell 2
    have z3 := K3.out.cell 3
    have z4 := K3.out.cell 4
    have z5 := K3.out.cell 5
    go_wp2_with fail
    refine (SM.out _ B3.out).mono ?_
    rintro e w4 ⟨rfl, b4⟩
    have B4 := Lib.hid (btrans B3.out b4)
    clear b4 z0 z1 z2 z3 z4 z5
    go_wp2_with fail
    refine (WK.out _ B4.out).mono ?_
    rintro e w5 ⟨rfl, b5⟩
    go_wp2_with fail
    go_ret
    exact ⟨rfl, btrans B4.out b5⟩
  · have hmf : mayB a = false := by simpa using hm
    rw [hmf] at MY
    clear h0 hm hmf
    go_enter Tryd.func5, Tryd.ntmps5
    go_wp2_with fail
    refine G.out.mono ?_
    rintro e w1 ⟨rfl, b1⟩
    have K1 := Lib.hid (KA.out.below b1 (by simp))
    have B1 := Lib.hid (btrans HB.out b1)
    clear b1
    have x0 := K1.out.cell 0
    have x1 := K1.out.cell 1
    have x2 := K1.out.cell 2
    have x3 := K1.out.cell 3
    have x4 := K1.out.cell 4
    have x5 := K1.out.cell 5
    go_wp2_with fail
    refine (MY.out _ B1.out).mono ?_
    rintro e w2 ⟨rfl, b2⟩
    have B2 := Lib.hid (btrans B1.out b2)
    clear b2 x0 x1 x2 x3 x4 x5
    go_wp2_with fail
    refine (WK.out _ B2.out).mono ?_
    rintro e w3 ⟨rfl, b3⟩
    go_wp2_with fail
    go_ret
    exact ⟨rfl, btrans B2.out b3⟩
end Go.Proofs.YtckdecodpjfcnaaDoor
namespace Go.Proofs.YtckdecodpjfcnaaDoor.replyErrors
open Go.ChangeShapes Go.WideShapes Go.ChangeAt Go.RowKit
open Go.ChangeMaps (open_string shut_string)
set_option linter.unusedVariables false

theorem laid_met (os : Os) : laidMetH Tryd.prog Rows.replyErrorsRow.laid ((laidWorld os).forCall (fun _ _ => 0) ⟨#[], #[.agg #[.int .i8 0, .int .i64 0, .int .i64 0, .int .i64 0, .int .i64 0, .slice none 0 0]], []⟩).memory :=
  laidMetH_of_parts (laidMet_nil _ _) (by kernel_rfl)
theorem reads (os : Os) {H : Type} (enc : TypeId × Value → H) : ∃ places, DataW.whole enc Tryd.prog ((laidWorld os).forCall (fun _ _ => 0) ⟨#[], #[.agg #[.int .i8 0, .int .i64 0, .int .i64 0, .int .i64 0, .int .i64 0, .slice none 0 0]], []⟩).memory Tryd.f5.params.toList Rows.replyErrorsSpec.vars false (#[.agg #[.int .i8 0, .int .i64 0, .int .i64 0, .int .i64 0, .int .i64 0, .slice none 0 0]] : Array Value).toList 8 = some ([.agg [.lit (.int .i8 0), .lit (.int .i64 0), .lit (.int .i64 0), .lit (.int .i64 0), .lit (.int .i64 0), .nil]], [], places) :=
  ⟨[], by kernel_rfl⟩

set_option maxRecDepth 100000 in
theorem lifted (os : Os) (started : os.Started) (H : Type) (enc : TypeId × Value → H) (F : Stop.Interp) :
    ReturnsInHanded {} Tryd.checked os 5 .any ((OpenSpec.ofChange Rows.replyErrorsSpec).preRow enc Tryd.prog Tryd.f5 Rows.replyErrorsRow.domain false Rows.replyErrorsRow.laid) (((OpenSpec.ofChange Rows.replyErrorsSpec).at F).post enc Tryd.prog Tryd.f5 false true false false) := by
  obtain ⟨places, hx⟩ := reads os enc
  refine returnsInHanded_of_row (C := Tryd.checked) (s := OpenSpec.ofChange Rows.replyErrorsSpec) own started (by kernel_rfl) Tryd.func5
    (witness_row_at (enc := enc) (C := Tryd.checked) false (laidWorld os) #[.agg #[.int .i8 0, .int .i64 0, .int .i64 0, .int .i64 0, .int .i64 0, .slice none 0 0]] rfl (by kernel_rfl) (by kernel_rfl) (by kernel_rfl)
      (OpenSpec.preRow_of_cond 8 hx (by kernel_rfl) (fun k hk => by cases hk) (by kernel_rfl) (laid_met os))) ?_
  intro W base args ds gs before hval0 hW _ _ hsz0 hL _ _
  have hg : HasET W := hasErr_of_laid hL
  have hval : ∀ (j : Nat) t v, Tryd.f5.params[j]? = some t → args[j]? = some v → Value.okWide Tryd.prog W .any base t v := hval0
  have hsz : (DataW.weightsEach Tryd.prog (Tryd.f5.params.toList ++ Rows.replyErrorsSpec.plain.varTypes Tryd.prog) (ds ++ gs)).all (· ≤ reachBytes) = true := hsz0
  have hW' := hW
  obtain ⟨p, q, hA0, hV, rfl, hfz, hnd⟩ := hW
  have hA : DataW.TrodAll enc Tryd.prog W 0 (fun _ => true) true Tryd.f5.params.toList args.toList ds p := hA0
  rw [Tryd.params5] at hA hval hsz
  obtain ⟨v0, vs0, d0, ds0, p0, q0, hargs, rfl, rfl, h0, r0⟩ := trodAll_cons hA
  obtain ⟨rfl, rfl, rfl⟩ := trodAll_nil r0
  obtain rfl : args = #[v0] := by cases args; simp_all
  obtain ⟨rfl, rfl⟩ := trodVars_none hV
  have k0 := h0
  have lt0 : ∀ x ∈ p0, x.block < W.heap.size := by obtain ⟨m, hm⟩ := k0; exact DataW.trod_lt m _ _ _ hm
  obtain ⟨rp0, A0, c0, rfl, qr0⟩ := open_rp (hval 0 26 v0 rfl rfl) h0
  clear hA0 hval0 hsz0
  refine (rperr_walk rp0 A0 c0 W hg qr0).mono fun e W' ⟨he, bel⟩ => ?_
  subst he
  exact ⟨_, rfl, _, _, _, [], _, [], hW', trodAll_mk1 (shut_bool Tryd.underlying4 _), (trodAll_cons_mk (Below.trod laidOut (by kernel_rfl) (of_decide_eq_true (by kernel_rfl)) k0 bel lt0) trodAll_mk0), rfl, bel.frame _, fun h => by cases h⟩

theorem said : Rows.ReplyErrorsSaid :=
  OpenClaim.holds_of_cond 5 Tryd.f5 rfl rfl rfl rfl rfl rfl rfl ⟨rfl, rfl, rfl, rfl, rfl⟩ rfl rfl rfl rfl rfl (by kernel_rfl) Tryd.func5 (by kernel_rfl)
    (of_decide_eq_true (by kernel_rfl)) (by unfold Func.isWrapper; first | (rw [if_pos (by decide +kernel)]; kernel_rfl) | (rw [if_neg (by decide +kernel)]; exact ⟨rfl, rfl⟩))
    (fun os started H enc _ F => by rw [OpenClaim.pre_eq_preRow]; exact lifted os started H enc F)

theorem plain (f : FuncId) (fn : Func) (hf : Tryd.pinned.checked.prog.funcNamed "roving/rovinglaw09.ReplyErrors" = some f) (hfn : Tryd.pinned.checked.prog.funcs[f]? = some fn) :
    true = Tryd.pinned.checked.prog.looks [] ∧ ∀ (j : Nat) t, fn.params[j]? = some t → Tryd.pinned.checked.prog.wantsStandIn t = false := by
  obtain rfl : f = 5 := Option.some.inj ((show Tryd.prog.funcNamed "roving/rovinglaw09.ReplyErrors" = some 5 by kernel_rfl).symm.trans hf) |>.symm
  obtain rfl : fn = Tryd.f5 := (Option.some.inj (Tryd.func5.symm.trans hfn)).symm
  refine ⟨by kernel_rfl, fun j t ht => ?_⟩
  rw [Tryd.params5] at ht
  have hm : t = 26 := by simpa using Array.mem_of_getElem? ht
  subst hm; exact (show Tryd.prog.wantsStandIn _ = false by kernel_rfl)

/-- THE CARD. -/
theorem card : Rows.ReplyErrorsCardSaid :=
  Claim7.holds_tied_plain_at .later [] _ _ _ _ said (fun _ h => by cases h) (by kernel_rfl) (fun _ h => by cases h) replyErrors_row_tie rfl ⟨rfl, rfl⟩ (by kernel_rfl) rfl plain (by kernel_rfl)
end Go.Proofs.YtckdecodpjfcnaaDoor.replyErrors
