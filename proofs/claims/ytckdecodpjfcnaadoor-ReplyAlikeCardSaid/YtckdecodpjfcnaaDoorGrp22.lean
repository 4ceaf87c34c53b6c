/-
  Arguments that are structs and slices of structs, opened. (After the guide's page on structs.)
  Layer 9: Bytes, whatever the reply is; the law's own wakes; the statement ReplyErrors.
  Arguments of a statement opened: strings, slices of strings, of bytes, of ints: what they hold, in the words of Reads; and that each is within the form's reach.
  What the rows' list gives (the library's variable errors.errorType), a world for the witness, and bytes out of an argument.
-/
import Derived.Test.YtckdecodpjfcnaaDoorGrp21
import Derived.Test.YtckdecodpjfcnaaDoorGrp01
import Derived.ProofKit
import Derived.OpenShut
import Derived.ShutString
import Derived.ChangeOld
import Derived.Below
import Derived.SizedLaws
import Derived.SliceStrings
import Derived.Test.YtckdecodpjfcnaaDoorCards
import Derived.Test.YtckdecodpjfcnaaDoorTie
import Derived.Test.YtckdecodpjfcnaaDoorGrp08
import Derived.LaidHandle
import Derived.LaidLaws
import Derived.Stop.Joined
import Derived.JoinedOf
import Derived.Deep.DeepHandedRow
import Derived.SevenTiedAt
import Derived.Deep.Slices
import Derived.Deep.Fields
import Derived.ChangeSame
import Derived.Lib.SmallJoins
set_option linter.unusedVariables false
set_option linter.unusedSimpArgs false
namespace Go.Proofs.YtckdecodpjfcnaaDoor
open Go.RowKit

theorem own_newN (w : World) (t : TypeId) (cs : Array Value) (h : cs.size ≤ maxLen) : (w.alloc (.cells cs t)).ownsRow w.heap.size t 1 (.slice (some ⟨w.heap.size, 0, none⟩) cs.size cs.size) cs.size cs.toList :=
  ⟨by simp, .inr ⟨w.heap.size, cs.size, cs, rfl, Nat.le_refl _, heap_alloc_new w _, Nat.le_refl _, h, by simp, by rw [Nat.mul_one]; exact List.take_of_length_le (by simp)⟩⟩
theorem RpBytes_ok (q : Rp) (A1 : Option Addr) (c1 : Nat) (w : World) (hr : Reads w w.heap.size 5 A1 q.rows.length (cellsW q.rows)) (hl : q.rows.length ≤ 1000000) (hm : mayB q = true) :
    Calls Tryd.prog 8 #[(.agg #[.int .i8 q.kd, .int .i64 q.er, .int .i64 q.pid, .int .i64 q.ep, .int .i64 q.off, .slice A1 q.rows.length c1])] w (RbPost (cRp.e q) 0 w) := by
  have hkd := (cI_v 0 9 q.kd (by decide)).1 ((mayB_iff q).1 hm).2.1
  by_cases h0 : q.er = 0
  · by_cases k0 : q.kd = 0
    · exact RpBytes_made q h0 k0 A1 c1 w hr hl hm
    by_cases k1 : q.kd = 1
    · exact RpBytes_begun q h0 k1 A1 c1 w hr hl hm
    by_cases k5 : q.kd = 5
    · exact RpBytes_fetched q h0 k5 A1 c1 w hr hl hm
    by_cases k27 : q.kd = 2 ∨ q.kd = 7
    · exact RpBytes_offset q h0 k27 A1 c1 w hr hl hm
    exact RpBytes_none q h0 (by omega) A1 c1 w hr hl hm
  · exact RpBytes_err q h0 A1 c1 w hr hl hm

theorem eBd_len (q : Rp) (h : (cB q.er q.kd).v (q.pid, q.ep, q.off, q.rows)) : (eBd q).length ≤ 3000 := by
  have h3 : ∀ x : Int, x ≤ 1048577 → (enc x.toNat).length ≤ 3 := fun x hx => enc_len3x _ (by omega)
  unfold eBd
  by_cases h0 : q.er = 0
  · by_cases k0 : q.kd = 0
    · have hc : cB q.er q.kd = cBp := by unfold cB; rw [h0, k0]; rfl
      rw [hc] at h ⊢
      rw [cB_vp] at h
      have := h3 q.pid (by have := h.1; simp only at this; omega)
      show (enc q.pid.toNat).length ≤ _
      omega
    by_cases k1 : q.kd = 1
    · have hc : cB q.er q.kd = cBpe := by unfold cB; rw [h0, k1]; rfl
      rw [hc] at h ⊢
      rw [cB_vpe] at h
      have := h3 q.pid (by have := h.1; simp only at this; omega)
      have := h3 q.ep (by have := h.2.1; simp only at this; omega)
      show (enc q.pid.toNat ++ enc q.ep.toNat).length ≤ _
      rw [List.length_append]; omega
    by_cases k5 : q.kd = 5
    · have hc : cB q.er q.kd = cBf := by unfold cB; rw [h0, k5]; rfl
      rw [hc] at h ⊢
      rw [cB_vf] at h
      obtain ⟨_, _, g1, g2, g3⟩ := h
      simp only at g1 g2 g3
      have e1 := h3 q.off (by omega)
      have e2 := enc_len3x q.rows.length (by omega)
      have e3 := cRows_len q.rows (List.all_eq_true.1 g3)
      show (enc q.off.toNat ++ (enc (q.rows.length : Int).toNat ++ q.rows.flatMap cRow.e)).length ≤ _
      rw [List.length_append, List.length_append, Int.toNat_natCast]
      omega
    by_cases k27 : q.kd = 2 ∨ q.kd = 7
    · have hc : cB q.er q.kd = cBo := by unfold cB; rw [h0]; rw [if_neg (by decide), if_neg k0, if_neg k1, if_neg k5, if_pos k27]
      rw [hc] at h ⊢
      rw [cB_vo] at h
      have := h3 (q.off + 1) (by have := h.2.2.1; simp only at this; omega)
      show (enc (q.off + 1).toNat).length ≤ _
      omega
    · have hc : cB q.er q.kd = cB0 := by unfold cB; rw [h0]; rw [if_neg (by decide), if_neg k0, if_neg k1, if_neg k5, if_neg k27]
      rw [hc]
      exact Nat.zero_le _
  · have hc : cB q.er q.kd = cB0 := by unfold cB; rw [if_pos h0]
    rw [hc]
    exact Nat.zero_le _
theorem encRp_len (q : Rp) (h : mayB q = true) : (cRp.e q).length ≤ 4000 := by
  have hv := (mayB_iff q).1 h
  have h1 := (cI_v 0 9 q.kd (by decide)).1 hv.2.1
  have h2 := (cI_v 0 400 q.er (by decide)).1 hv.2.2.1
  have h3 := eBd_len q hv.2.2.2
  have e1 := enc_len3x q.kd.toNat (by omega)
  have e2 := enc_len3x q.er.toNat (by omega)
  rw [encRp_eq, List.length_append, List.length_append]
  omega
/-- A reply with an error has few bytes. -/
theorem encRp_err (q : Rp) (h : mayB q = true) (h0 : ¬ q.er = 0) : 2 ≤ (cRp.e q).length ∧ (cRp.e q).length ≤ 3 := by
  have hv := (mayB_iff q).1 h
  have h1 := (cI_v 0 9 q.kd (by decide)).1 hv.2.1
  have h2 := (cI_v 0 400 q.er (by decide)).1 hv.2.2.1
  have he : eBd q = [] := by unfold eBd cB; rw [if_pos h0]; rfl
  have e1 : (enc q.kd.toNat).length = 1 := by rw [enc_small _ (by omega)]; rfl
  have hp : (128 : Nat) ^ (1 + 1) = 16384 := by decide
  have e2 : enc q.er.toNat = encF 1 q.er.toNat := encF_more 1 8 q.er.toNat (by rw [hp]; omega) (by omega)
  have e3 := encF_len 1 q.er.toNat
  rw [encRp_eq, he, List.append_nil, List.length_append, e1, e2]
  omega

def qw1 : Rp := ⟨1, 0, 3, 2, 0, []⟩
def qw2 : Rp := ⟨4, 100, 0, 0, 0, []⟩
theorem qw1_may : mayB qw1 = true := by decide
theorem qw1_e : cRp.e qw1 = [1, 0, 3, 2] := by decide
theorem qw2_may : mayB qw2 = true := by decide
theorem qw2_e : cRp.e qw2 = [4, 100] := by decide
theorem qw2_read : readRp [4, 100] = (qw2, 0) := by rw [← qw2_e]; exact readRp_ok ((mayB_iff qw2).1 qw2_may)

set_option maxRecDepth 100000 in
set_option maxHeartbeats 2000000 in
theorem wakes09 (w : World) (hg : HasET w) : Calls Tryd.prog 7 #[] w fun e w' => e = .returned (.bool true) ∧ Below w.heap.size w w' := by
  have y := RpBytes_ok qw1 none 0 w Reads.none_ (Nat.zero_le _) qw1_may
  rw [qw1_e] at y
  have Y : Hid (Calls Tryd.prog 8 #[.agg #[.int .i8 1, .int .i64 0, .int .i64 3, .int .i64 2, .int .i64 0, .slice none 0 0]] w (RbPost [1, 0, 3, 2] 0 w)) := Lib.hid y
  have AL : Hid (∀ W, Calls Tryd.prog 12 #[.agg #[.int .i8 7, .int .i64 0, .int .i64 0, .int .i64 0, .int .i64 3, .slice none 0 0], .agg #[.int .i8 7, .int .i64 0, .int .i64 0, .int .i64 0, .int .i64 9, .slice none 0 0]] W fun e w' => e = .returned (.bool true) ∧ Below W.heap.size W w') :=
    Lib.hid fun W => RpAlike_any ⟨7, 0, 0, 0, 3, []⟩ ⟨7, 0, 0, 0, 9, []⟩ none none 0 0 W Reads.none_ Reads.none_ (Nat.zero_le _)
  have RD := Lib.hid (fun (W : World) (A : Option Addr) (c : Nat) (hW : Below w.heap.size w W) (hr : Reads W W.heap.size 1 A 2 (cellsB [4, 100])) => by
    have := rpRead_any A [4, 100] c W hr (by decide) (hg.up hW)
    rw [qw2_read] at this
    exact this)
  clear y hg
  go_enter Tryd.func7, Tryd.ntmps7
  go_wp2_with fail
  refine Y.out.mono ?_
  rintro e w1 ⟨A, c, rfl, r1, b1⟩
  have B1 := Lib.hid b1
  have RR1 := Lib.hid r1
  have RN := own_newN w1 5 #[.int .u8 4, .int .u8 100] (by unfold maxLen; simp)
  have RD1 := Lib.hid (RD.out (w1.alloc (.cells #[.int .u8 4, .int .u8 100] 5)) _ 2 (bal b1 _) (Reads.of_own RN))
  clear r1 b1 RN RD
  go_wp2_with fail
  refine RD1.out.mono ?_
  rintro e w2 ⟨A5, c5, rfl, o2, b2⟩
  have B2 := Lib.hid (btrans (bal B1.out _) b2)
  have K2 := Lib.hid (Blk.new w2 26 #[.int .i8 qw2.kd, .int .i64 qw2.er, .int .i64 qw2.pid, .int .i64 qw2.ep, .int .i64 qw2.off, .slice A5 qw2.rows.length c5])
  have x1 : (w2.alloc (.cells #[.int .i8 qw2.kd, .int .i64 qw2.er, .int .i64 qw2.pid, .int .i64 qw2.ep, .int .i64 qw2.off, .slice A5 qw2.rows.length c5] 26)).cell? ⟨w2.heap.size, 1, none⟩ = some (.int .i64 100) := K2.out.cell 1
  have t1 := run_string_of (P := Tryd.prog) (src := 27) (dst := 9) (c := c) Tryd.underlying27 Tryd.underlying5 Tryd.underlying9 ((((RR1.out.alloc (Nat.le_refl _) (.cells #[.int .u8 4, .int .u8 100] 5)).more (by simp)).below b2).alloc b2.size (.cells #[.int .i8 qw2.kd, .int .i64 qw2.er, .int .i64 qw2.pid, .int .i64 qw2.ep, .int .i64 qw2.off, .slice A5 qw2.rows.length c5] 26))
  have e0 : bs [1, 0, 3, 2] = ⟨#[1, 0, 3, 2]⟩ := rfl
  rw [e0] at t1
  simp only [List.length_cons, List.length_nil] at t1
  clear e0 o2 b2
  go_wp2_with fail
  refine (AL.out _).mono ?_
  rintro e w3 ⟨rfl, b3⟩
  go_wp2_with fail
  go_ret
  exact ⟨rfl, btrans (bal B2.out _) b3⟩
end Go.Proofs.YtckdecodpjfcnaaDoor
namespace Go.Proofs.YtckdecodpjfcnaaDoor
open Go.ChangeShapes Go.WideShapes Go.ChangeAt Go.RowKit

/-- Ints as cells. -/
def cellsI (k : IntKind) (l : List Int) : List Value := l.map (Value.int k)
theorem length_cellsI (k : IntKind) (l : List Int) : (cellsI k l).length = l.length := by simp [cellsI]
theorem getElem?_cellsI (k : IntKind) (l : List Int) (j : Nat) : (cellsI k l)[j]? = (l[j]?).map (Value.int k) := by simp [cellsI]

section
variable {H : Type} {enc : TypeId × Value → H} {P : Program} {W : World} {base : Nat}

theorem block_lt_of_cell {w : World} {a : Addr} {v : Value} (h : w.cell? a = some v) : a.block < w.heap.size := by
  rcases Nat.lt_or_ge a.block w.heap.size with hlt | hge
  · exact hlt
  · unfold World.cell? at h
    rw [Array.getElem?_eq_none hge] at h
    simp at h

theorem open_strs_arg {t e : TypeId} {v : Value} {d : DataW H} {p : List MemPlace} {r : Reach} (ht : P.underlying t = some (.slice e)) (he : P.underlying e = some .string) (hC : P.cellsOf e = 1) (hby : P.bytesOf e = 16)
    (hv : Value.okWide P W r base t v) (h : DataW.Trod enc P W 0 (fun _ => true) true t v d p) (hw : ∀ n ∈ d.weights P t, n ≤ reachBytes) :
    ∃ (A : Option Addr) (n c : Nat) (ss : List ByteArray), v = .slice A n c ∧ n ≤ c ∧ c * 16 ≤ 140737488351232 ∧ Reads W W.heap.size 1 A n (cellsS ss) ∧ ∀ s ∈ ss, s.size ≤ 140737488351232 := by
  obtain ⟨a0, len, cap, rfl⟩ := okWide_slice ht hv
  obtain ⟨fuel, hf⟩ := h
  rcases open_strings ht he hC hf with ⟨hcs, _⟩ | ⟨a, l, c, ss, hcs, _, hl, hm, hz, hx, hcell, hsz⟩
  · simp [Value.cells] at hcs
    obtain ⟨rfl, rfl, rfl⟩ := hcs
    exact ⟨none, 0, 0, [], rfl, Nat.le_refl _, by omega, Reads.none_, by simp⟩
  · simp [Value.cells] at hcs
    obtain ⟨rfl, rfl, rfl⟩ := hcs
    simp only [if_true] at hz
    simp only [Prod.mk.injEq] at hx
    obtain ⟨rfl, _⟩ := hx
    simp only [DataW.weights, ht, hby] at hw
    refine ⟨some a, len, cap, ss.take len, rfl, hl, ?_, ⟨by rw [length_cellsS, List.length_take]; omega, fun hn => ⟨a, rfl, ?_, fun j u hu => ?_⟩⟩, fun s hs => ?_⟩
    · have := hw _ (List.mem_cons_self ..)
      simp only [strs, List.length_map, List.length_take, List.length_drop, reachBytes] at this
      omega
    · have := block_lt_of_cell (hcell 0 (by omega))
      rwa [block_of_add] at this
    · rw [getElem?_cellsS, Option.map_eq_some_iff] at hu
      obtain ⟨s, hs, rfl⟩ := hu
      have hj : j < len := by
        have := (List.getElem?_eq_some_iff.1 hs).1
        simp at this; omega
      rw [List.getElem?_take_of_lt hj] at hs
      rw [hcell j (by omega)]
      simp [hs]
    · have hmem : s.data.toList.length ∈ DataW.weightsAll P e (strs (H := H) (ss.take len)) := by
        generalize ss.take len = l at hs
        induction l with
        | nil => cases hs
        | cons x xs ih =>
          simp only [strs, List.map_cons, DataW.weightsAll, DataW.weights, List.mem_append, List.mem_singleton]
          rcases List.mem_cons.1 hs with rfl | h'
          · exact .inl rfl
          · exact .inr (ih h')
      have := hw _ (List.mem_cons_of_mem _ (List.mem_append_left _ hmem))
      exact this

theorem open_ints_arg {t e : TypeId} {k : IntKind} {v : Value} {d : DataW H} {p : List MemPlace} {r : Reach} (bytes : Nat) (ht : P.underlying t = some (.slice e)) (he : P.underlying e = some (.int k)) (hC : P.cellsOf e = 1) (hby : P.bytesOf e = bytes)
    (hv : Value.okWide P W r base t v) (h : DataW.Trod enc P W 0 (fun _ => true) true t v d p) (hw : ∀ n ∈ d.weights P t, n ≤ reachBytes) :
    ∃ (A : Option Addr) (n c : Nat) (zs : List Int), v = .slice A n c ∧ n ≤ c ∧ c * bytes ≤ 140737488351232 ∧ Reads W W.heap.size 1 A n (cellsI k zs) ∧ ∀ z ∈ zs, (Lit.int k z).wf = true := by
  obtain ⟨a0, len, cap, rfl⟩ := okWide_slice ht hv
  obtain ⟨fuel, hf⟩ := h
  rcases open_ints ht he hC hf with ⟨hcs, _⟩ | ⟨a, l, c, zs, hcs, _, hl, hm, hz, hx, hcell, hwz⟩
  · simp [Value.cells] at hcs
    obtain ⟨rfl, rfl, rfl⟩ := hcs
    exact ⟨none, 0, 0, [], rfl, Nat.le_refl _, by omega, Reads.none_, by simp⟩
  · simp [Value.cells] at hcs
    obtain ⟨rfl, rfl, rfl⟩ := hcs
    simp only [if_true] at hz
    simp only [Prod.mk.injEq] at hx
    obtain ⟨rfl, _⟩ := hx
    simp only [DataW.weights, ht, hby] at hw
    refine ⟨some a, len, cap, zs.take len, rfl, hl, ?_, ⟨by rw [length_cellsI, List.length_take]; omega, fun hn => ⟨a, rfl, ?_, fun j u hu => ?_⟩⟩, fun z hs => hwz z (List.mem_of_mem_take hs)⟩
    · have := hw _ (List.mem_cons_self ..)
      simp only [lits, List.length_map, List.length_take, List.length_drop, reachBytes] at this
      have e1 : min len zs.length + (zs.length - len) = cap := by omega
      rw [e1] at this
      exact this
    · have := block_lt_of_cell (hcell 0 (by omega))
      rwa [block_of_add] at this
    · rw [getElem?_cellsI, Option.map_eq_some_iff] at hu
      obtain ⟨s, hs, rfl⟩ := hu
      have hj : j < len := by
        have := (List.getElem?_eq_some_iff.1 hs).1
        simp at this; omega
      rw [List.getElem?_take_of_lt hj] at hs
      rw [hcell j (by omega)]
      simp [hs]

theorem weights_of {ts : List TypeId} {ds : List (DataW H)} (h : (DataW.weightsEach P ts ds).all (· ≤ reachBytes) = true) {j : Nat} {t : TypeId} {d : DataW H} (ht : ts[j]? = some t) (hd : ds[j]? = some d) : ∀ n ∈ d.weights P t, n ≤ reachBytes := by
  intro n hn
  have := List.all_eq_true.1 h _ (DataW.weights_mem_each ht hd n hn)
  simpa using this
end
end Go.Proofs.YtckdecodpjfcnaaDoor
namespace Go.Proofs.YtckdecodpjfcnaaDoor
open Go.ChangeShapes Go.WideShapes Go.ChangeAt Go.RowKit

theorem own : ownKnob Tryd.prog.godebug = none := by kernel_rfl
theorem laidOut : laidOutB Tryd.prog = true := by kernel_rfl
theorem lay_et : Tryd.prog.globalNamed "errors.errorType" = some 0 := by kernel_rfl
theorem lay_rt : (Tryd.prog.cutTypes.find? (·.1 == "internal/reflectlite.rtype")).map (·.2) = some 109 := by kernel_rfl
theorem lay_row : ((List.range 163).filter fun t => Tryd.prog.rowNamed t [101, 114, 114, 111, 114]) = [41] := by kernel_rfl
theorem lay_size : Tryd.prog.types.size = 163 := by kernel_rfl

def theLaid {H : Type} : List (String × DataW H) := [("errors.errorType", Rows.laid_errors_errorType)]

theorem hasErr_of_laid {W : World} (h : laidMetH Tryd.prog theLaid W) : HasET W := by
  have h' : laidMet Tryd.prog [] W ∧ handlesMet Tryd.prog theLaid W := h
  obtain ⟨name, u, ty, e1, e2, e3, e4, e5⟩ := h'.2 _ (List.mem_singleton.2 rfl)
  have en : name = [101, 114, 114, 111, 114] := (Option.some.inj e1).symm
  subst en
  obtain rfl := Option.some.inj (lay_rt.symm.trans e2)
  have hm : ty ∈ (List.range 163).filter fun t => Tryd.prog.rowNamed t [101, 114, 114, 111, 114] := List.mem_filter.2 ⟨List.mem_range.2 (by rw [← lay_size]; exact e3), e4⟩
  rw [lay_row] at hm
  obtain rfl := List.mem_singleton.1 hm
  have hh : typeHandle Tryd.prog 41 = .pointer (some ⟨1, 41, none⟩) := by kernel_rfl
  rw [hh] at e5
  unfold HasET
  simpa using World.var?_cell lay_et e5 0

/-- A world that meets the condition: the settled one, the variable's cell laid. -/
noncomputable def laidWorld (os : Os) : World :=
  { World.holding Tryd.prog os ⟨#[], #[], []⟩ with heap := (World.holding Tryd.prog os ⟨#[], #[], []⟩).heap.modify 0 fun
      | .cells _ t frozen => .cells #[.iface 109 (.agg #[.pointer (some ⟨1, 41, none⟩)])] t frozen
      | o => o }

/-- Bytes out of ints that fit. -/
theorem bytes_of_ints {w : World} {B n : Nat} {A : Option Addr} {zs : List Int} (h : Reads w B 1 A n (cellsI .u8 zs)) (hz : ∀ z ∈ zs, (Lit.int .u8 z).wf = true) :
    ∃ l : List UInt8, n = l.length ∧ Reads w B 1 A n (cellsB l) := by
  have e : cellsI .u8 zs = cellsB (zs.map fun z => UInt8.ofNat z.toNat) := by
    unfold cellsI cellsB
    rw [List.map_map]
    refine List.map_congr_left fun z h' => ?_
    have hw := hz z h'
    have h0 : (0 : Int) ≤ z ∧ z ≤ 255 := by
      simp only [Lit.wf, Bool.and_eq_true, decide_eq_true_eq] at hw
      exact ⟨hw.1, hw.2⟩
    simp only [Function.comp]
    congr 1
    rw [UInt8.toNat_ofNat']
    omega
  refine ⟨_, ?_, e ▸ h⟩
  have := h.1
  rw [length_cellsI] at this
  rw [List.length_map]
  omega
end Go.Proofs.YtckdecodpjfcnaaDoor
namespace Go.Proofs.YtckdecodpjfcnaaDoor
open Go.Joins Go.ChangeShapes Go.WideShapes Go.RowKit Go.Deep

section
variable {H : Type} {enc : TypeId × Value → H} {P : Program} {w : World} {base : Nat} {spare : Nat → Bool} {held : Bool}
theorem open_agg5 {r : Reach} {b0 : Nat} {t : TypeId} {f0 f1 f2 f3 f4 : Field} {v : Value} {d : DataW H} {p : List MemPlace} (hs : P.underlying t = some (.struct #[f0, f1, f2, f3, f4])) (hone : oneCellFields P #[f0, f1, f2, f3, f4] = true) (hC : P.cellsOf t = 5)
    (hv : Value.okWide P w r b0 t v) (h : DataW.Trod enc P w base spare held t v d p) :
    ∃ (v0 v1 v2 v3 v4 : Value) (y0 y1 y2 y3 y4 : DataW H × List MemPlace) (n : Nat), v = .agg #[v0, v1, v2, v3, v4] ∧ d = .agg [y0.1, y1.1, y2.1, y3.1, y4.1] ∧ p = y0.2 ++ (y1.2 ++ (y2.2 ++ (y3.2 ++ (y4.2)))) ∧
      DataW.trod enc P w base spare held n f0.type [v0] = some y0 ∧ DataW.trod enc P w base spare held n f1.type [v1] = some y1 ∧ DataW.trod enc P w base spare held n f2.type [v2] = some y2 ∧ DataW.trod enc P w base spare held n f3.type [v3] = some y3 ∧ DataW.trod enc P w base spare held n f4.type [v4] = some y4 := by
  obtain ⟨cs, rfl, hsz⟩ := okWide_struct hs hv
  obtain ⟨l⟩ := cs
  match l, hsz.trans hC with
  | [c0, c1, c2, c3, c4], _ =>
    obtain ⟨fuel, hf⟩ := h
    obtain ⟨xs, n, _, hx, _, hlen, hg⟩ := DataW.trod_struct hs hf
    obtain ⟨o0, k0⟩ := hone_of hone 0 f0 rfl
    obtain ⟨o1, k1⟩ := hone_of hone 1 f1 rfl
    obtain ⟨o2, k2⟩ := hone_of hone 2 f2 rfl
    obtain ⟨o3, k3⟩ := hone_of hone 3 f3 rfl
    obtain ⟨o4, k4⟩ := hone_of hone 4 f4 rfl
    match xs, hlen with
    | [y0, y1, y2, y3, y4], _ =>
      simp only [Prod.mk.injEq] at hx
      exact ⟨c0, c1, c2, c3, c4, y0, y1, y2, y3, y4, n, rfl, by simpa using hx.1, by simpa using hx.2, by simpa [Value.cells, o0, k0] using hg 0 f0 rfl, by simpa [Value.cells, o1, k1] using hg 1 f1 rfl, by simpa [Value.cells, o2, k2] using hg 2 f2 rfl, by simpa [Value.cells, o3, k3] using hg 3 f3 rfl, by simpa [Value.cells, o4, k4] using hg 4 f4 rfl⟩

theorem open_agg3 {r : Reach} {b0 : Nat} {t : TypeId} {f0 f1 f2 : Field} {v : Value} {d : DataW H} {p : List MemPlace} (hs : P.underlying t = some (.struct #[f0, f1, f2])) (hone : oneCellFields P #[f0, f1, f2] = true) (hC : P.cellsOf t = 3)
    (hv : Value.okWide P w r b0 t v) (h : DataW.Trod enc P w base spare held t v d p) :
    ∃ (v0 v1 v2 : Value) (y0 y1 y2 : DataW H × List MemPlace) (n : Nat), v = .agg #[v0, v1, v2] ∧ d = .agg [y0.1, y1.1, y2.1] ∧ p = y0.2 ++ (y1.2 ++ (y2.2)) ∧
      DataW.trod enc P w base spare held n f0.type [v0] = some y0 ∧ DataW.trod enc P w base spare held n f1.type [v1] = some y1 ∧ DataW.trod enc P w base spare held n f2.type [v2] = some y2 := by
  obtain ⟨cs, rfl, hsz⟩ := okWide_struct hs hv
  obtain ⟨l⟩ := cs
  match l, hsz.trans hC with
  | [c0, c1, c2], _ =>
    obtain ⟨fuel, hf⟩ := h
    obtain ⟨xs, n, _, hx, _, hlen, hg⟩ := DataW.trod_struct hs hf
    obtain ⟨o0, k0⟩ := hone_of hone 0 f0 rfl
    obtain ⟨o1, k1⟩ := hone_of hone 1 f1 rfl
    obtain ⟨o2, k2⟩ := hone_of hone 2 f2 rfl
    match xs, hlen with
    | [y0, y1, y2], _ =>
      simp only [Prod.mk.injEq] at hx
      exact ⟨c0, c1, c2, y0, y1, y2, n, rfl, by simpa using hx.1, by simpa using hx.2, by simpa [Value.cells, o0, k0] using hg 0 f0 rfl, by simpa [Value.cells, o1, k1] using hg 1 f1 rfl, by simpa [Value.cells, o2, k2] using hg 2 f2 rfl⟩

theorem open_slice_fields {t e : TypeId} {fs : Array Field} {fuel : Nat} {cs : List Value} {x : DataW H × List MemPlace} (ht : P.underlying t = some (.slice e)) (he : P.underlying e = some (.struct fs))
    (hone : oneCellFields P fs = true) (hC : P.cellsOf e = fs.size) (h : DataW.trod enc P w base spare held fuel t cs = some x) :
    (cs = [.slice none 0 0] ∧ x = (.nil, [])) ∨
    ∃ (a : Addr) (len cap m : Nat) (D : Nat → DataW H) (Pl : Nat → List MemPlace), cs = [.slice (some a) len cap] ∧ base ≤ a.block ∧ len ≤ cap ∧ cap ≤ maxLen ∧ m = (if spare a.block then cap else len) ∧
      x = (.slice ((List.range len).map D) ((List.range (m - len)).map fun j => D (len + j)), MemPlace.row a (m * fs.size) ++ (List.range m).flatMap Pl) ∧
      ∀ i, i < m → ∃ (ys : List (DataW H × List MemPlace)) (n : Nat), D i = .agg (ys.map (·.1)) ∧ Pl i = ys.flatMap (·.2) ∧ ys.length = fs.size ∧
        ∀ (j : Nat) (f : Field), fs[j]? = some f → ∃ (v : Value) (y : DataW H × List MemPlace), w.cell? (a.add (i * fs.size + j)) = some v ∧ ys[j]? = some y ∧ DataW.trod enc P w base spare held n f.type [v] = some y := by
  rcases open_slice ht h with h0 | ⟨a, len, cap, m, n, D, Pl, hcs, hb, hl, hm, hmm, hx, hi⟩
  · exact .inl h0
  · refine .inr ⟨a, len, cap, m, D, Pl, hcs, hb, hl, hm, hmm, by rw [hC] at hx; exact hx, fun i him => ?_⟩
    obtain ⟨cs', hc, ht'⟩ := hi i him
    rw [hC] at hc
    obtain ⟨ys, n', hn', hy, hlen, hyl, hf⟩ := DataW.trod_struct he ht'
    obtain ⟨_, hcl, hat⟩ := World.cells?_some hc
    simp only [Prod.mk.injEq] at hy
    refine ⟨ys, n', hy.1, hy.2, hyl, fun j f hj => ?_⟩
    obtain ⟨ho, hk⟩ := hone_of hone j f hj
    have hjl : j < fs.size := (Array.getElem?_eq_some_iff.1 hj).1
    have hcell := hat j hjl
    have hv : cs'[j]? = some (cs'[j]'(by omega)) := List.getElem?_eq_getElem (by omega)
    have h1 := hf j f hj
    rw [ho, hk] at h1
    have hone' : (cs'.drop j).take 1 = [cs'[j]'(by omega)] := by
      rw [List.drop_eq_getElem_cons (by omega)]
      rfl
    rw [hone'] at h1
    have hys : ys[j]? = some (ys[j]'(by omega)) := List.getElem?_eq_getElem (by omega)
    refine ⟨_, _, ?_, hys, h1.trans hys⟩
    rw [← Go.Deep.add_add, hcell, hv]
end

section
variable {H : Type} {enc : TypeId × Value → H} {W : World}
theorem cell_block {a : Addr} {k : Nat} {v : Value} (h : W.cell? (a.add k) = some v) : a.block < W.heap.size := by
  have := block_lt_of_cell h
  rwa [block_of_add] at this
end
end Go.Proofs.YtckdecodpjfcnaaDoor
