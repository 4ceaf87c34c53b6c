/-
  Layer 8: request.Same, request.code, request.Changes.
  Layer 8: all fields of a kind, written or read, up to the first that is wrong.
  Layer 8: all fields of a kind, read.
  errors.As and errors.Is at an error of type request.fault, which wraps its code.
-/
import Derived.Test.YtcockikekgmfkaaGreatDoorGrp23
import Derived.Test.YtcockikekgmfkaaGreatDoorGrp05
import Derived.Test.YtcockikekgmfkaaGreatDoorGrp16
namespace Go.Proofs.YtcockikekgmfkaaGreatDoor
open Go.RowKit

/-- A request of which some fields are struck. -/
def strike (q : Rq) (fs : List Fl) : Rq := Rq.of q.kd fun f => if f ∈ fs then zeroF f else q.get f
theorem strike_nil (q : Rq) : strike q [] = q := by
  unfold strike
  have : (fun f => if f ∈ ([] : List Fl) then zeroF f else q.get f) = q.get := by funext f; simp
  rw [this]; rfl
theorem strike_get (q : Rq) (fs : List Fl) (f : Fl) (h : f ∉ fs) : (strike q fs).get f = q.get f := by
  unfold strike; rw [get_of, if_neg h]
theorem strike_snoc (q : Rq) (fs : List Fl) (f : Fl) : setF (strike q fs) f (zeroF f) = strike q (fs ++ [f]) := by
  unfold setF strike
  rw [get_of]
  have : upd (fun f => if f ∈ fs then zeroF f else q.get f) f (zeroF f) = fun g => if g ∈ fs ++ [f] then zeroF g else q.get g := by
    funext g
    by_cases h : f = g
    · subst h; rw [upd_same, if_pos (by simp)]
    · rw [upd_ne _ _ h]
      by_cases hg : g ∈ fs
      · rw [if_pos hg, if_pos (by simp [hg])]
      · rw [if_neg hg, if_neg (by simp [hg]; exact fun e => h e.symm)]
  rw [this]; rfl
theorem eFs_snoc (q : Rq) (fs : List Fl) (f : Fl) : eFs cF (fs ++ [f]) q.get = eFs cF fs q.get ++ (cF f).e (q.get f) := by unfold eFs; simp
theorem flOf_len (k : Int) : (flOf k).length ≤ 5 := by
  unfold flOf
  repeat' split
  all_goals decide
theorem flOf_take {k : Int} {n : Nat} {f : Fl} (h : (flOf k)[n]? = some f) : (flOf k).take (n + 1) = (flOf k).take n ++ [f] ∧ f ∉ (flOf k).take n := by
  refine ⟨by rw [List.take_add_one, h]; rfl, fun hm => ?_⟩
  have hn := flOf_nodup k
  have h1 := List.take_append_drop n (flOf k)
  rw [← h1] at hn
  have h2 := (List.nodup_append.1 hn).2.2
  have h3 : f ∈ (flOf k).drop n := by
    rw [List.mem_iff_getElem?]
    exact ⟨0, by rw [List.getElem?_drop]; simpa using h⟩
  exact h2 f hm f h3 rfl

theorem cI_len {lo hi : Nat} (hhi : hi ≤ 1048576) {x : Int} (h : (cI lo hi).v x) : ((cI lo hi).e x).length ≤ 3 := by
  obtain ⟨h1, h2, h3, h4⟩ := h
  exact enc_len3 x.toNat (by omega)
theorem cF_len (f : Fl) (x : FV f) (h : (cF f).v x) : ((cF f).e x).length ≤ 200 := by
  cases f
  case yes => show (encY x).length ≤ 200; unfold encY; simp
  case bat =>
    show ((cTxt 1024).e (encBt x)).length ≤ 200
    have h1 := (encBt_len x h).1
    show (enc (encBt x).length ++ encBt x).length ≤ 200
    rw [List.length_append]
    have := enc_len3 (encBt x).length (by omega)
    omega
  all_goals (have := cI_len (by decide) h; exact Nat.le_trans this (by omega))
theorem eFs_len (fs : List Fl) (a : (f : Fl) → FV f) (h : ∀ f ∈ fs, (cF f).v (a f)) : (eFs cF fs a).length ≤ 200 * fs.length := by
  induction fs with
  | nil => simp [eFs]
  | cons f fs ih =>
    show ((cF f).e (a f) ++ eFs cF fs a).length ≤ _
    rw [List.length_append, List.length_cons]
    have h1 := cF_len f (a f) (h f (List.mem_cons_self ..))
    have h2 := ih (fun g hg => h g (List.mem_cons_of_mem _ hg))
    omega

/-- Behind all fields, written. -/
def AllW (g K B : Nat) (q : Rq) (w : World) (e : Ending) (w' : World) : Prop :=
  e = .returned (.tuple #[]) ∧ Only (fun x => x = g) w w' ∧ (((∀ f ∈ flOf q.kd, (cF f).v (q.get f)) ∧ WqSt g K B (strike q (flOf q.kd)) (eFs cF (flOf q.kd) q.get) w') ∨ ((¬ ∀ f ∈ flOf q.kd, (cF f).v (q.get f)) ∧ WqBad g w'))
/-- Behind k of them. -/
def AwSt (g K B : Nat) (q : Rq) (k : Nat) (w W : World) : Prop :=
  Only (fun x => x = g) w W ∧ (((∀ f ∈ (flOf q.kd).take k, (cF f).v (q.get f)) ∧ WqSt g K B (strike q ((flOf q.kd).take k)) (eFs cF ((flOf q.kd).take k) q.get) W) ∨ ((¬ ∀ f ∈ flOf q.kd, (cF f).v (q.get f)) ∧ WqBad g W))
theorem WqSt.below {g K B : Nat} {q : Rq} {l : List UInt8} {w w' : World} (h : WqSt g K B q l w) (hb : Below w.heap.size w w') : WqSt g K B q l w' := by
  obtain ⟨A, c, Ab, cb, h1, h2, h3, h4, h5, h6, h7, h8⟩ := h
  exact ⟨A, c, Ab, cb, h1.below hb h1.lt, own_below h2 hb, Nat.le_trans h3 hb.size, h4, h5.below (hb.mono (by omega)), h6, h7.up hb, h8⟩
theorem WqSt.err {g K B : Nat} {q : Rq} {l : List UInt8} {w : World} (h : WqSt g K B q l w) : w.cell? ⟨g, 17, none⟩ = some .nilIface ∧ g < w.heap.size := by
  obtain ⟨A, c, Ab, cb, h1, h2, h3, h4, h5, h6, h7, h8⟩ := h
  exact ⟨h1.cell 17, h1.lt⟩

set_option maxRecDepth 100000 in
set_option maxHeartbeats 2000000 in
theorem all_w (g K B : Nat) (q : Rq) (w : World) (h : WqSt g K B q [] w) (hk : 0 ≤ q.kd ∧ q.kd ≤ 9) :
    Calls Tryz.prog 29 #[.pointer (some ⟨g, 0, none⟩), .int .i8 q.kd] w (AllW g K B q w) := by
  have L1 := Lib.hid (list_any g q.kd w hk)
  have H := Lib.hid h
  have hcf := cf_fn
  have hln := flOf_len q.kd
  clear h
  go_enter Tryz.func29, Tryz.ntmps29
  go_wp2_with fail
  refine L1.out.mono ?_
  rintro e w1 ⟨A, c, rfl, r1, b1⟩
  have S0 : Hid (AwSt g K B q 0 w w1) := Lib.hid ⟨Only.of_below _ b1, .inl ⟨by simp, by
    have := H.out.below b1
    rw [List.take_zero, strike_nil]; exact this⟩⟩
  have HG := Lib.hid (h := (H.out.below b1).err.2)
  have R1 := Lib.hid r1
  have hs1 := b1.size
  have hgw := H.out.err.2
  clear r1 b1 H L1
  go_wp2_with fail
  go_loopg [5, 10] (flOf q.kd).length (fun m s5 x wr => ∃ k : Nat, k ≤ (flOf q.kd).length ∧ x = .int .i64 k ∧ m = (flOf q.kd).length - k ∧ AwSt g K B q k w wr ∧ Only (fun x => x = g) w1 wr)
  case atStart => exact ⟨0, Nat.zero_le _, rfl, rfl, S0.out, Only.refl _ _⟩
  case round =>
    clear S0
    obtain ⟨k, hk, rfl, hmm, ⟨ow, hst⟩, oo⟩ := hrel
    have HM := Lib.hid hmm
    have OW := Lib.hid ow
    have OO := Lib.hid oo
    have RR := Lib.hid (Reads.of_own (oo.own R1.out (fun x hx e => by omega)))
    clear hmm ow oo
    by_cases hlt : k < (flOf q.kd).length
    · have d1 : decide ((k : Int) < ((flOf q.kd).length : Int)) = true := by simp; omega
      obtain ⟨f, hf⟩ : ∃ f, (flOf q.kd)[k]? = some f := ⟨_, List.getElem?_eq_getElem hlt⟩
      obtain ⟨b1, o1, hA, hbl, hc⟩ := RR.out.plain (by omega)
      have hc1 := hc k (fnV g f) (by rw [List.getElem?_map, hf]; rfl)
      subst hA
      unfold fnV at hc1
      obtain ⟨ht1, ht2⟩ := flOf_take hf
      have hfm : f ∈ flOf q.kd := List.mem_of_getElem? hf
      have i1 : (0 : Int) ≤ (k : Int) := by omega
      have i2 : (k : Int) < ((flOf q.kd).length : Int) := by omega
      have HT1 := Lib.hid ht1
      have HT2 := Lib.hid ht2
      have HFM := Lib.hid hfm
      have HF := Lib.hid hf
      clear hc ht1 ht2 hfm hf
      rcases hst with ⟨hv, hq⟩ | ⟨hv, hbad⟩
      · have x17 := hq.err.1
        have hlen := eFs_len _ _ hv
        have hl2 : (eFs cF ((flOf q.kd).take k) q.get).length ≤ 20000 := by rw [List.length_take] at hlen; omega
        have hg := strike_get q _ f HT2.out
        have HV := Lib.hid hv
        by_cases hvf : (cF f).v (q.get f)
        · have F1 := fw_any g K B f (strike q ((flOf q.kd).take k)) _ wr hq hl2 (by rw [hg]; exact hvf)
          rw [strike_snoc, hg, ← eFs_snoc, ← HT1.out] at F1
          have F2 := Lib.hid F1
          have HVF := Lib.hid hvf
          clear F1 hv hq hg hvf hlen
          go_wp2_with fail
          refine F2.out.mono ?_
          rintro e w2 ⟨rfl, q2, o2⟩
          have Q2 := Lib.hid q2
          have O2 := Lib.hid o2
          clear q2 o2 x17 hc1
          go_wp2_with fail
          go_roundg (gk - 1)
          case measure => have := HM.out; omega
          case rel =>
            refine ⟨k + 1, by omega, by go_num, by have := HM.out; omega, ⟨OW.out.trans O2.out, .inl ⟨?_, Q2.out⟩⟩, OO.out.trans O2.out⟩
            intro f' hf'
            rw [HT1.out] at hf'
            rcases List.mem_append.1 hf' with h | h
            · exact HV.out f' h
            · rw [List.mem_singleton.1 h]; exact HVF.out
        · have F1 := fx_any g K B f (strike q ((flOf q.kd).take k)) _ wr hq (by rw [hg]; exact hvf)
          have F2 := Lib.hid F1
          have HVF := Lib.hid hvf
          clear F1 hv hq hg hvf hlen
          go_wp2_with fail
          refine F2.out.mono ?_
          rintro e w2 ⟨rfl, q2, o2⟩
          have Q2 := Lib.hid q2
          have O2 := Lib.hid o2
          clear q2 o2 x17 hc1
          go_wp2_with fail
          go_roundg (gk - 1)
          case measure => have := HM.out; omega
          case rel => exact ⟨k + 1, by omega, by go_num, by have := HM.out; omega, ⟨OW.out.trans O2.out, .inr ⟨fun h => HVF.out (h f HFM.out), Q2.out⟩⟩, OO.out.trans O2.out⟩
      · obtain ⟨eb, x17, x18⟩ := hbad
        have HX := Lib.hid x17
        have HX8 := Lib.hid x18
        have HV := Lib.hid hv
        clear hv x18
        go_wp2_with fail
        go_end0
        exact ⟨rfl, OW.out, .inr ⟨HV.out, ⟨eb, HX.out, HX8.out⟩⟩⟩
    · obtain rfl : k = (flOf q.kd).length := by omega
      have d1 : decide (((flOf q.kd).length : Int) < ((flOf q.kd).length : Int)) = false := by simp
      have HST := Lib.hid hst
      clear hst
      go_wp2_with fail
      go_end0
      refine ⟨rfl, OW.out, ?_⟩
      have := HST.out
      rw [List.take_length] at this
      exact this
end Go.Proofs.YtcockikekgmfkaaGreatDoor
namespace Go.Proofs.YtcockikekgmfkaaGreatDoor
open Go.RowKit

def ErrAt (g : Nat) (W : World) (n : Int) : Prop := ∃ b, W.cell? ⟨g, 17, none⟩ = some (.iface 69 (.pointer (some ⟨b, 0, none⟩))) ∧ W.cell? ⟨b, 1, none⟩ = some (.int .i64 n)
/-- Behind all fields, read. -/
def AllR (B g gr : Nat) (s : ByteArray) (kd : Int) (z : ((f : Fl) → FV f) × Nat × Bool) (w : World) (e : Ending) (w' : World) : Prop :=
  e = .returned (.tuple #[]) ∧ Only (fun x => x = g ∨ x = gr) w w' ∧ (RqSt B g gr s z.2.1 z.2.2 (Rq.of kd z.1) w' ∨ (z.2.2 = true ∧ ErrAt g w' 70))
def ArSt (B g gr : Nat) (s : ByteArray) (kd : Int) (z : ((f : Fl) → FV f) × Nat × Bool) (k : Nat) (W : World) : Prop :=
  (∃ a i b, RqSt B g gr s i b (Rq.of kd a) W ∧ rdFs rdF ((flOf kd).drop k) a (lb s) i b = z) ∨ (z.2.2 = true ∧ ErrAt g W 70)
theorem RqSt.err {B g gr : Nat} {s : ByteArray} {i : Nat} {b : Bool} {q : Rq} {w : World} (h : RqSt B g gr s i b q w) : w.cell? ⟨g, 17, none⟩ = some .nilIface ∧ g < w.heap.size ∧ gr < w.heap.size := by
  obtain ⟨Ab, cb, h1, h2, h3, h4⟩ := h
  have := h2.2.2.2.2.1
  have := h1.lt
  exact ⟨h1.cell 17, h1.lt, by omega⟩
theorem RqSt.below {B g gr : Nat} {s : ByteArray} {i : Nat} {b : Bool} {q : Rq} {w w' : World} (h : RqSt B g gr s i b q w) (hb : Below w.heap.size w w') : RqSt B g gr s i b q w' := by
  obtain ⟨Ab, cb, h1, h2, h3, h4⟩ := h
  have := h1.lt
  exact ⟨Ab, cb, h1.below hb h1.lt, h2.below (hb.mono (by omega)), h3, own_below h4 hb⟩
theorem drop_at {k : Int} {n : Nat} {f : Fl} (h : (flOf k)[n]? = some f) : (flOf k).drop n = f :: (flOf k).drop (n + 1) := by
  obtain ⟨h1, h2⟩ := List.getElem?_eq_some_iff.1 h
  rw [List.drop_eq_getElem_cons h1, h2]

set_option maxRecDepth 100000 in
set_option maxHeartbeats 2000000 in
theorem all_r (B g gr : Nat) (s : ByteArray) (i : Nat) (b : Bool) (kd : Int) (a : (f : Fl) → FV f) (w : World) (h : RqSt B g gr s i b (Rq.of kd a) w) (hk : 0 ≤ kd ∧ kd ≤ 9) :
    Calls Tryz.prog 29 #[.pointer (some ⟨g, 0, none⟩), .int .i8 kd] w (AllR B g gr s kd (rdFs rdF (flOf kd) a (lb s) i b) w) := by
  have L1 := Lib.hid (list_any g kd w hk)
  have H := Lib.hid h
  have hcf := cf_fn
  have hln := flOf_len kd
  obtain ⟨z, HZ⟩ : ∃ z, Hid (z = rdFs rdF (flOf kd) a (lb s) i b) := ⟨_, Lib.hid rfl⟩
  rw [← HZ.out]
  clear h
  go_enter Tryz.func29, Tryz.ntmps29
  go_wp2_with fail
  refine L1.out.mono ?_
  rintro e w1 ⟨A, c, rfl, r1, b1⟩
  have S0 : Hid (ArSt B g gr s kd z 0 w1) := Lib.hid (.inl ⟨a, i, b, H.out.below b1, HZ.out.symm⟩)
  have OB := Lib.hid (Only.of_below (fun x => x = g ∨ x = gr) b1)
  have R1 := Lib.hid r1
  have hs1 := b1.size
  have hgw := H.out.err.2
  clear r1 b1 H L1 HZ
  go_wp2_with fail
  go_loopg [5, 10] (flOf kd).length (fun m s5 x wr => ∃ k : Nat, k ≤ (flOf kd).length ∧ x = .int .i64 k ∧ m = (flOf kd).length - k ∧ ArSt B g gr s kd z k wr ∧ Only (fun x => x = g ∨ x = gr) w1 wr)
  case atStart => exact ⟨0, Nat.zero_le _, rfl, rfl, S0.out, Only.refl _ _⟩
  case round =>
    clear S0
    obtain ⟨k, hk, rfl, hmm, hst, oo⟩ := hrel
    have HM := Lib.hid hmm
    have OO := Lib.hid oo
    have RR := Lib.hid (Reads.of_own (oo.own R1.out (fun x hx e => by omega)))
    clear hmm oo
    by_cases hlt : k < (flOf kd).length
    · have d1 : decide ((k : Int) < ((flOf kd).length : Int)) = true := by simp; omega
      obtain ⟨f, hf⟩ : ∃ f, (flOf kd)[k]? = some f := ⟨_, List.getElem?_eq_getElem hlt⟩
      obtain ⟨b1, o1, hA, hbl, hc⟩ := RR.out.plain (by omega)
      have hc1 := hc k (fnV g f) (by rw [List.getElem?_map, hf]; rfl)
      subst hA
      unfold fnV at hc1
      have i1 : (0 : Int) ≤ (k : Int) := by omega
      have i2 : (k : Int) < ((flOf kd).length : Int) := by omega
      have HF := Lib.hid hf
      clear hc hf
      rcases hst with ⟨a1, i1, bb, hq, hz⟩ | ⟨hz, eb, x17, x18⟩
      · have x17 := hq.err.1
        rw [drop_at HF.out, rdFs] at hz
        have F2 := Lib.hid (fr_any B g gr s i1 bb f (Rq.of kd a1) wr hq)
        have HZ := Lib.hid hz
        clear hq hz
        go_wp2_with fail
        refine F2.out.mono ?_
        intro e w2 hp
        rcases hp with ⟨rfl, q2, o2⟩ | ⟨hb2, rfl, herr, o2⟩
        · have Q2 := Lib.hid q2
          have O2 := Lib.hid o2
          clear q2 o2 x17 hc1
          go_wp2_with fail
          go_roundg (gk - 1)
          case measure => have := HM.out; omega
          case rel =>
            refine ⟨k + 1, by omega, by go_num, by have := HM.out; omega, .inl ⟨_, _, _, ?_, HZ.out⟩, OO.out.trans O2.out⟩
            have := Q2.out
            unfold setF at this
            rw [get_of] at this
            exact this
        · have EE := Lib.hid herr
          have O2 := Lib.hid o2
          have HB2 := Lib.hid hb2
          clear herr o2 x17 hc1 hb2
          go_wp2_with fail
          go_roundg (gk - 1)
          case measure => have := HM.out; omega
          case rel =>
            refine ⟨k + 1, by omega, by go_num, by have := HM.out; omega, .inr ⟨?_, EE.out⟩, OO.out.trans O2.out⟩
            rw [← HZ.out, HB2.out]
            exact rdFs_stop cF rdF fol_F _ _ _ _
      · have HX := Lib.hid x17
        have HX8 := Lib.hid x18
        have HZ := Lib.hid hz
        clear hz x18
        go_wp2_with fail
        go_end0
        exact ⟨rfl, OB.out.trans OO.out, .inr ⟨HZ.out, ⟨eb, HX.out, HX8.out⟩⟩⟩
    · obtain rfl : k = (flOf kd).length := by omega
      have d1 : decide (((flOf kd).length : Int) < ((flOf kd).length : Int)) = false := by simp
      have HST := Lib.hid hst
      clear hst
      go_wp2_with fail
      go_end0
      refine ⟨rfl, OB.out.trans OO.out, ?_⟩
      rcases HST.out with ⟨a1, i1, bb, hq, hz⟩ | h
      · rw [List.drop_length, rdFs] at hz
        rw [← hz]
        exact .inl hq
      · exact .inr h
end Go.Proofs.YtcockikekgmfkaaGreatDoor
namespace Go.Proofs.YtcockikekgmfkaaGreatDoor.ErRq
open Go.RowKit Go.Stop Go.Extern

theorem asTypeOfB (v : Value) (w : World) : (callFunc 56 #[.iface 69 v]).run Tryz.prog w = .ok (.value (.iface 108 (.agg #[.pointer (some ⟨1, 69, none⟩)]))) w := by kernel_rfl
theorem asAssignB (w : World) : (callFunc 124 #[.agg #[.pointer (some ⟨1, 69, none⟩)], .iface 108 (.agg #[.pointer (some ⟨1, 31, none⟩)])]).run Tryz.prog w = .ok (.value (.bool false)) w := by kernel_rfl
theorem asNoAs (v : Value) (xT : TypeId) (w : World) : (Instr.typeAssert (.iface 69 v) xT 112 true).run Tryz.prog w = .ok (.tuple #[.nilIface, .bool false]) w := run_typeAssert_lacksB Tryz.underlying112 (by kernel_rfl) (by kernel_rfl) v xT w
theorem asHasUnwrap (v : Value) (xT : TypeId) (w : World) : (Instr.typeAssert (.iface 69 v) xT 115 true).run Tryz.prog w = .ok (.tuple #[.iface 69 v, .bool true]) w := run_typeAssert_hasB Tryz.underlying115 (by kernel_rfl) v xT w
theorem asMethodUnwrap (k : Nat) (v : Value) (w : World) : (Go.method (k + 1) 69 v "Unwrap").run Tryz.prog w = .ok (117, v) w := by kernel_rfl
set_option maxHeartbeats 4000000 in
/-- errors.As(&error{.., n}, &e): true, and e is n. -/
theorem as_any (b t : Nat) (n : Int) (old : Value) (w : World) (hg : w.cell? ⟨0, 0, none⟩ = some (.iface 108 (.agg #[.pointer (some ⟨1, 43, none⟩)])))
    (hb1 : w.cell? ⟨b, 1, none⟩ = some (.int .i64 n)) (ht0 : w.cell? ⟨t, 0, none⟩ = some old) (hf0 : w.frozen? ⟨t, 0, none⟩ = false) :
    Calls Tryz.prog 37 #[.iface 69 (.pointer (some ⟨b, 0, none⟩)), .iface 73 (.pointer (some ⟨t, 0, none⟩))] w fun ev w' => ev = .returned (.bool true) ∧ asWorld w t n = w' := by
  have hlt : 0 < w.heap.size := by
    rcases Nat.lt_or_ge 0 w.heap.size with h | h
    · exact h
    · simp [World.cell?, Array.getElem?_eq_none h] at hg
  have hbl : b < w.heap.size := by
    rcases Nat.lt_or_ge b w.heap.size with h | h
    · exact h
    · simp [World.cell?, Array.getElem?_eq_none h] at hb1
  have htl : t < w.heap.size := by
    rcases Nat.lt_or_ge t w.heap.size with h | h
    · exact h
    · simp [World.cell?, Array.getElem?_eq_none h] at ht0
  have f1 := asValueOf
  have f2 := asType
  have f3 := asMethodKind
  have f4 := asKindP
  have f5 := asKindE
  have f6 := asMethodElem
  have f7 := asMethodImplements
  have f8 := asMethodAssignable
  have f9 := asElem
  have f10 := asImplements
  have f11 := asTypeOfB
  have f12 := asTypeOfE
  have f13 := asAssignB
  have f14 := asAssignE
  have f15 := asValueOfE
  have f16 := asNoAs
  have f17 := asHasUnwrap
  have f18 := asMethodUnwrap
  have n8 := asIsNil ⟨w.heap.size, 0, none⟩ ⟨t, 0, none⟩ ((w.alloc (.cells #[.pointer (some ⟨t, 0, none⟩)] 73)).alloc (.cells #[.pointer (some ⟨1, 73, none⟩), .pointer (some ⟨w.heap.size, 0, none⟩), .int .u64 150] 89)) (by simp)
  have hg2 : ((w.alloc (.cells #[.pointer (some ⟨t, 0, none⟩)] 73)).alloc (.cells #[.pointer (some ⟨1, 73, none⟩), .pointer (some ⟨w.heap.size, 0, none⟩), .int .u64 150] 89)).cell? ⟨0, 0, none⟩ = some (.iface 108 (.agg #[.pointer (some ⟨1, 43, none⟩)])) := by
    rw [World.cell?_alloc_lt _ _ ⟨0, 0, none⟩ (by simp only [World.size_alloc]; omega), World.cell?_alloc_lt _ _ ⟨0, 0, none⟩ hlt]; exact hg
  have hb2 : (((w.alloc (.cells #[.pointer (some ⟨t, 0, none⟩)] 73)).alloc (.cells #[.pointer (some ⟨1, 73, none⟩), .pointer (some ⟨w.heap.size, 0, none⟩), .int .u64 150] 89)).alloc (.cells #[.pointer (some ⟨1, 73, none⟩), .pointer (some ⟨w.heap.size, 0, none⟩), .int .u64 150] 89)).cell? ⟨b, 1, none⟩ = some (.int .i64 n) := by
    rw [World.cell?_alloc_lt _ _ ⟨b, 1, none⟩ (by simp only [World.size_alloc]; omega), World.cell?_alloc_lt _ _ ⟨b, 1, none⟩ (by simp only [World.size_alloc]; omega), World.cell?_alloc_lt _ _ ⟨b, 1, none⟩ hbl]; exact hb1
  have el := asElemV ⟨w.heap.size, 0, none⟩ ⟨t, 0, none⟩ (((w.alloc (.cells #[.pointer (some ⟨t, 0, none⟩)] 73)).alloc (.cells #[.pointer (some ⟨1, 73, none⟩), .pointer (some ⟨w.heap.size, 0, none⟩), .int .u64 150] 89)).alloc (.cells #[.pointer (some ⟨1, 73, none⟩), .pointer (some ⟨w.heap.size, 0, none⟩), .int .u64 150] 89)) (by rw [World.cell?_alloc_lt _ _ ⟨w.heap.size, 0, none⟩ (by simp only [World.size_alloc]; omega)]; simp)
  have st := asSet ⟨t, 0, none⟩ ⟨w.heap.size + 1 + 1 + 1, 0, none⟩ n old ((((w.alloc (.cells #[.pointer (some ⟨t, 0, none⟩)] 73)).alloc (.cells #[.pointer (some ⟨1, 73, none⟩), .pointer (some ⟨w.heap.size, 0, none⟩), .int .u64 150] 89)).alloc (.cells #[.pointer (some ⟨1, 73, none⟩), .pointer (some ⟨w.heap.size, 0, none⟩), .int .u64 150] 89)).alloc (.cells #[.int .i64 n] 31))
    (by rw [World.cell?_alloc_at _ _ _ _ (by simp)]; rfl)
    (by rw [World.cell?_alloc_lt _ _ ⟨t, 0, none⟩ (by simp only [World.size_alloc]; omega), World.cell?_alloc_lt _ _ ⟨t, 0, none⟩ (by simp only [World.size_alloc]; omega), World.cell?_alloc_lt _ _ ⟨t, 0, none⟩ (by simp only [World.size_alloc]; omega), World.cell?_alloc_lt _ _ ⟨t, 0, none⟩ htl]; exact ht0)
    (by rw [World.frozen?_alloc_old _ _ ⟨t, 0, none⟩ (by simp only [World.size_alloc]; omega), World.frozen?_alloc_old _ _ ⟨t, 0, none⟩ (by simp only [World.size_alloc]; omega), World.frozen?_alloc_old _ _ ⟨t, 0, none⟩ (by simp only [World.size_alloc]; omega), World.frozen?_alloc_old _ _ ⟨t, 0, none⟩ (Nat.ne_of_lt htl)]; exact hf0)
  go_enter Tryz.func37, Tryz.ntmps37
  go_wp2
  refine wp_loop_rounds 2 ?_
  iterate 2 (rw [rounds_succ]; go_wp2)
  go_ret
  exact ⟨rfl, rfl⟩

theorem isNoIs (v : Value) (xT : TypeId) (w : World) : (Instr.typeAssert (.iface 69 v) xT 125 true).run Tryz.prog w = .ok (.tuple #[.nilIface, .bool false]) w := run_typeAssert_lacksB Tryz.underlying125 (by kernel_rfl) (by kernel_rfl) v xT w
theorem eqOther (v : Value) (b : Int) (w : World) : (binOp .eql 43 (.iface 69 v) (.iface 31 (.int .i64 b))).run Tryz.prog w = .ok (.bool false) w := by kernel_rfl

set_option maxRecDepth 100000 in
set_option maxHeartbeats 4000000 in
/-- errors.Is(&error{.., n}, m): whether n is m. -/
theorem is_any (b : Nat) (n m : Int) (w : World) (hb1 : w.cell? ⟨b, 1, none⟩ = some (.int .i64 n)) :
    Calls Tryz.prog 44 #[.iface 69 (.pointer (some ⟨b, 0, none⟩)), .iface 31 (.int .i64 m)] w fun ev w' => ev = .returned (.bool (n == m)) ∧ w = w' := by
  have f6 := isMethodComparable
  have f7 := isComparableE
  have f8 := isNoIsE
  have f9 := isNoUnwrapE
  have f10 := isNoUnwrapsE
  have f11 := eqErrno
  have f12 := asTypeOfE
  have f16 := isNoIs
  have f17 := asHasUnwrap
  have f18 := asMethodUnwrap
  have f19 := eqOther
  by_cases hnm : n = m
  · subst hnm
    go_enter Tryz.func44, Tryz.ntmps44
    go_wp2
    refine wp_loop_rounds 2 ?_
    iterate 2 (rw [rounds_succ]; go_wp2)
    go_ret
    exact ⟨by simp, rfl⟩
  · have d1 : (n == m) = false := beq_eq_false_iff_ne.2 hnm
    have D1 := Lib.hid d1
    go_enter Tryz.func44, Tryz.ntmps44
    go_wp2
    refine wp_loop_rounds 2 ?_
    iterate 2 (rw [rounds_succ]; go_wp2)
    go_ret
    exact ⟨by rw [D1.out]; rfl, rfl⟩
end Go.Proofs.YtcockikekgmfkaaGreatDoor.ErRq
namespace Go.Proofs.YtcockikekgmfkaaGreatDoor
open Go.RowKit

set_option maxHeartbeats 1000000 in
theorem code_rq (b : Nat) (n : Int) (w : World) (hg : HasET w) (hb1 : w.cell? ⟨b, 1, none⟩ = some (.int .i64 n)) :
    Calls Tryz.prog 18 #[.iface 69 (.pointer (some ⟨b, 0, none⟩))] w fun e w' => e = .returned (.int .i64 n) ∧ Below w.heap.size w w' := by
  have hb2 := (World.cell?_alloc_lt w (.cells #[.int .i64 0] 31) ⟨b, 1, none⟩ (cell_lt hb1)).trans hb1
  have HAS := Lib.hid (ErRq.as_any b w.heap.size n (.int .i64 0) (w.alloc (.cells #[.int .i64 0] 31)) (hg.up ((Below.refl _ _).alloc (Nat.le_refl _) _)) hb2 (by simp) (by simp))
  have HBW := Lib.hid (asW_below w n)
  clear hb2 hb1 hg
  go_enter Tryz.func18, Tryz.ntmps18
  go_wp2_with (go_at_call 37; refine HAS.out.mono ?_; rintro e w1 ⟨rfl, hw1⟩; have hc1 : w1.cell? ⟨w.heap.size, 0, none⟩ = some (.int .i64 n) := (by rw [← hw1]; exact asW_cell w n); have HW1 := Lib.hid hw1; clear hw1)
  go_ret
  exact ⟨rfl, by rw [← HW1.out]; exact HBW.out⟩
/-- Whether a request of this kind may change something. -/
def changes (k : Int) : Bool := decide (0 ≤ k ∧ k ≤ 9 ∧ ¬ k = 5 ∧ ¬ k = 7)
theorem Changes_any (k : Int) (w : World) : Calls Tryz.prog 13 #[.int .i8 k] w fun e w' => e = .returned (.bool (changes k)) ∧ w = w' := by
  have key : changes k = (decide (0 ≤ k) && (decide (k ≤ 9) && ((k != 5) && (k != 7)))) := by
    unfold changes
    rw [Bool.eq_iff_iff]; simp
  rw [key]
  by_cases h0 : 0 ≤ k
  · by_cases h1 : k ≤ 9
    · by_cases h2 : k = 5
      · have e0 : decide (0 ≤ k) = true := decide_eq_true h0
        have e1 : decide (k ≤ 9) = true := decide_eq_true h1
        have e2 : (k != 5) = false := ne_false h2
        clear h0 h1 h2 key
        go_enter Tryz.func13, Tryz.ntmps13
        go_wp2_with fail
        go_ret
        exact ⟨by rw [e2]; simp, rfl⟩
      · by_cases h3 : k = 7
        · have e0 : decide (0 ≤ k) = true := decide_eq_true h0
          have e1 : decide (k ≤ 9) = true := decide_eq_true h1
          have e2 : (k != 5) = true := ne_true h2
          have e3 : (k != 7) = false := ne_false h3
          clear h0 h1 h2 h3 key
          go_enter Tryz.func13, Tryz.ntmps13
          go_wp2_with fail
          go_ret
          exact ⟨by rw [e3]; simp, rfl⟩
        · have e0 : decide (0 ≤ k) = true := decide_eq_true h0
          have e1 : decide (k ≤ 9) = true := decide_eq_true h1
          have e2 : (k != 5) = true := ne_true h2
          have e3 : (k != 7) = true := ne_true h3
          clear h0 h1 h2 h3 key
          go_enter Tryz.func13, Tryz.ntmps13
          go_wp2_with fail
          go_ret
          exact ⟨by rw [e0, e1, e2, e3]; rfl, rfl⟩
    · have e0 : decide (0 ≤ k) = true := decide_eq_true h0
      have e1 : decide (k ≤ 9) = false := decide_eq_false h1
      clear h0 h1 key
      go_enter Tryz.func13, Tryz.ntmps13
      go_wp2_with fail
      go_ret
      exact ⟨by rw [e1]; simp, rfl⟩
  · have e0 : decide (0 ≤ k) = false := decide_eq_false h0
    clear h0 key
    go_enter Tryz.func13, Tryz.ntmps13
    go_wp2_with fail
    go_ret
    exact ⟨by rw [e0]; rfl, rfl⟩

theorem Rq.ext' {a b : Rq} (h0 : a.kd = b.kd) (h1 : a.tid = b.tid) (h2 : a.tm = b.tm) (h3 : a.pid = b.pid) (h4 : a.ep = b.ep) (h5 : a.part = b.part) (h6 : a.grp = b.grp) (h7 : a.off = b.off) (h8 : a.most = b.most) (h9 : a.yes = b.yes) (h10 : a.b = b.b) : a = b := by
  obtain ⟨_, _, _, _, _, _, _, _, _, _, _⟩ := a
  obtain ⟨_, _, _, _, _, _, _, _, _, _, _⟩ := b
  simp only at h0 h1 h2 h3 h4 h5 h6 h7 h8 h9 h10
  subst h0; subst h1; subst h2; subst h3; subst h4; subst h5; subst h6; subst h7; subst h8; subst h9; subst h10
  rfl
/-- Whether two requests are the same. -/
def sameRq (a b : Rq) : Bool := (decide (a.kd = b.kd) && decide (a.tid = b.tid) && decide (a.tm = b.tm) && decide (a.pid = b.pid) && decide (a.ep = b.ep) && decide (a.part = b.part) && decide (a.grp = b.grp) && decide (a.off = b.off) && decide (a.most = b.most) && (a.yes == b.yes)) && sameBt a.b b.b
theorem sameRq_iff (a b : Rq) : sameRq a b = true ↔ a = b := by
  unfold sameRq
  simp only [Bool.and_eq_true, decide_eq_true_eq, sameBt_iff, beq_iff_eq]
  constructor
  · rintro ⟨⟨⟨⟨⟨⟨⟨⟨⟨⟨h0, h1⟩, h2⟩, h3⟩, h4⟩, h5⟩, h6⟩, h7⟩, h8⟩, h9⟩, h10⟩
    exact Rq.ext' h0 h1 h2 h3 h4 h5 h6 h7 h8 h9 h10
  · rintro rfl
    simp
end Go.Proofs.YtcockikekgmfkaaGreatDoor
