/-
  Layer 9: rows of replies: which may stand there; equal lists, alike lists; Great.
-/
import Derived.Test.YtckdecodpjfcnaaDoorGrp05
import Derived.Test.YtckdecodpjfcnaaDoorGrp13
set_option linter.unusedVariables false
set_option linter.unusedSimpArgs false
namespace Go.Proofs.YtckdecodpjfcnaaDoor
open Go.RowKit

theorem within_any (x lo hi : Int) (w : World) : Calls Tryd.prog 42 #[.int .i64 x, .int .i64 lo, .int .i64 hi] w fun e w' => e = .returned (.bool (decide (lo ≤ x ∧ x ≤ hi))) ∧ w = w' := by
  go_enter Tryd.func42, Tryd.ntmps42
  by_cases h1 : lo ≤ x
  · by_cases h2 : x ≤ hi
    · go_wp2_with fail
      go_ret
      exact ⟨ret_bool (by simp [h1, h2]), rfl⟩
    · go_wp2_with fail
      go_ret
      exact ⟨ret_bool (by simp [h2]), rfl⟩
  · go_wp2_with fail
    go_ret
    have h9 : ¬ lo ≤ x := by omega
    exact ⟨ret_bool (by simp [h9]), rfl⟩
theorem within8_any (x lo hi : Int) (w : World) : Calls Tryd.prog 21 #[.int .i8 x, .int .i8 lo, .int .i8 hi] w fun e w' => e = .returned (.bool (decide (lo ≤ x ∧ x ≤ hi))) ∧ w = w' := by
  go_enter Tryd.func21, Tryd.ntmps21
  by_cases h1 : lo ≤ x
  · by_cases h2 : x ≤ hi
    · go_wp2_with fail
      go_ret
      exact ⟨ret_bool (by simp [h1, h2]), rfl⟩
    · go_wp2_with fail
      go_ret
      exact ⟨ret_bool (by simp [h2]), rfl⟩
  · go_wp2_with fail
    go_ret
    have h9 : ¬ lo ≤ x := by omega
    exact ⟨ret_bool (by simp [h9]), rfl⟩
theorem withinE_any (x lo hi : Int) (w : World) : Calls Tryd.prog 22 #[.int .i64 x, .int .i64 lo, .int .i64 hi] w fun e w' => e = .returned (.bool (decide (lo ≤ x ∧ x ≤ hi))) ∧ w = w' := by
  go_enter Tryd.func22, Tryd.ntmps22
  by_cases h1 : lo ≤ x
  · by_cases h2 : x ≤ hi
    · go_wp2_with fail
      go_ret
      exact ⟨ret_bool (by simp [h1, h2]), rfl⟩
    · go_wp2_with fail
      go_ret
      exact ⟨ret_bool (by simp [h2]), rfl⟩
  · go_wp2_with fail
    go_ret
    have h9 : ¬ lo ≤ x := by omega
    exact ⟨ret_bool (by simp [h9]), rfl⟩

/-- A row that may not stand in a reply. -/
def hidW (w : Rw) : Bool := !vis w
set_option maxRecDepth 100000 in
set_option maxHeartbeats 1000000 in
theorem visible_any (r : Rw) (w : World) : Calls Tryd.prog 44 #[(.agg #[.int .i64 r.1, .int .i64 r.2.1, .int .i64 r.2.2.1, .string r.2.2.2.1, .string r.2.2.2.2])] w fun e w' => e = .returned (.bool (vis r)) ∧ Below w.heap.size w w' := by
  have HB := Lib.hid (fun x => (Below.refl w.heap.size w).alloc (Nat.le_refl _) x)
  have HV := Lib.hid (show vis r = (decide (-1 ≤ r.1 ∧ r.1 ≤ 1048576) && (decide (1 ≤ r.2.1 ∧ r.2.1 ≤ 8) && (decide (0 ≤ r.2.2.1 ∧ r.2.2.1 ≤ 1048575) && (decide (r.2.2.2.1.size ≤ 16) && decide (r.2.2.2.2.size ≤ 16))))) from rfl)
  have W1 := Lib.hid (fun lo hi x W => within_any x lo hi W)
  generalize hd1 : decide (-1 ≤ r.1 ∧ r.1 ≤ 1048576) = d1 at *
  generalize hd2 : decide (1 ≤ r.2.1 ∧ r.2.1 ≤ 8) = d2 at *
  generalize hd3 : decide (0 ≤ r.2.2.1 ∧ r.2.2.1 ≤ 1048575) = d3 at *
  have HD1 := Lib.hid hd1
  have HD2 := Lib.hid hd2
  have HD3 := Lib.hid hd3
  clear hd1 hd2 hd3
  go_enter Tryd.func44, Tryd.ntmps44
  go_wp2_with fail
  refine (W1.out _ _ _ _).mono ?_
  rintro e w1 ⟨rfl, rfl⟩
  rw [HD1.out]
  cases d1
  · go_wp2_with fail
    go_ret
    exact ⟨ret_bool (by rw [HV.out]; rfl), HB.out _⟩
  go_wp2_with fail
  refine (W1.out _ _ _ _).mono ?_
  rintro e w1 ⟨rfl, rfl⟩
  rw [HD2.out]
  cases d2
  · go_wp2_with fail
    go_ret
    exact ⟨ret_bool (by rw [HV.out]; rfl), HB.out _⟩
  go_wp2_with fail
  refine (W1.out _ _ _ _).mono ?_
  rintro e w1 ⟨rfl, rfl⟩
  rw [HD3.out]
  cases d3
  · go_wp2_with fail
    go_ret
    exact ⟨ret_bool (by rw [HV.out]; rfl), HB.out _⟩
  by_cases h4 : r.2.2.2.1.size ≤ 16
  · have e4 : decide ((r.2.2.2.1.size : Int) ≤ 16) = true := by simp; omega
    by_cases h5 : r.2.2.2.2.size ≤ 16
    · have e5 : decide ((r.2.2.2.2.size : Int) ≤ 16) = true := by simp; omega
      have hf : vis r = true := by rw [HV.out]; simp [h4, h5]
      have HF := Lib.hid hf
      clear hf
      go_wp2_with fail
      go_ret
      exact ⟨ret_bool HF.out.symm, HB.out _⟩
    · have e5 : decide ((r.2.2.2.2.size : Int) ≤ 16) = false := by simp; omega
      have hf : vis r = false := by rw [HV.out]; simp [h4, h5]
      have HF := Lib.hid hf
      clear hf
      go_wp2_with fail
      go_ret
      exact ⟨ret_bool HF.out.symm, HB.out _⟩
  · have e4 : decide ((r.2.2.2.1.size : Int) ≤ 16) = false := by simp; omega
    have hf : vis r = false := by rw [HV.out]; simp [h4]
    have HF := Lib.hid hf
    clear hf
    go_wp2_with fail
    go_ret
    exact ⟨ret_bool HF.out.symm, HB.out _⟩
theorem hid_any (r : Rw) (w : World) : Calls Tryd.prog 43 #[(.agg #[.int .i64 r.1, .int .i64 r.2.1, .int .i64 r.2.2.1, .string r.2.2.2.1, .string r.2.2.2.2])] w fun e w' => e = .returned (.bool (hidW r)) ∧ Below w.heap.size w w' := by
  have HB := Lib.hid (bal (Below.refl w.heap.size w) (.cells #[.int .i64 r.1, .int .i64 r.2.1, .int .i64 r.2.2.1, .string r.2.2.2.1, .string r.2.2.2.2] 37))
  have HV := Lib.hid (visible_any r (w.alloc (.cells #[.int .i64 r.1, .int .i64 r.2.1, .int .i64 r.2.2.1, .string r.2.2.2.1, .string r.2.2.2.2] 37)))
  go_enter Tryd.func43, Tryd.ntmps43
  go_wp2_with fail
  refine HV.out.mono ?_
  rintro e w1 ⟨rfl, b1⟩
  go_wp2_with fail
  go_ret
  exact ⟨ret_bool rfl, btrans HB.out b1⟩

theorem toList_inj (s t : ByteArray) : s.toList = t.toList ↔ s = t := by
  rw [toList_lb, toList_lb]; exact ⟨lb_inj, fun h => by rw [h]⟩
/-- The first hidden row. -/
def idxW (l : List Rw) : Int := match l.findIdx? hidW with | some k => k | none => -1
set_option maxRecDepth 100000 in
set_option maxHeartbeats 1000000 in
theorem IndexFunc_any (A : Option Addr) (l : List Rw) (c : Nat) (w : World) (hr : Reads w w.heap.size 5 A l.length (cellsW l)) (hl : l.length ≤ 1000000000000) :
    Calls Tryd.prog 59 #[.slice A l.length c, .func (.func 43) #[] #[]] w fun e w' => e = .returned (.int .i64 (idxW l)) ∧ Below w.heap.size w w' := by
  have HR := Lib.hid hr
  clear hr
  go_enter Tryd.func59, Tryd.ntmps59
  go_wp2_with fail
  go_loopw [8] (fun x wr => ∃ k : Nat, k ≤ l.length ∧ x = .int .i64 k ∧ Below w.heap.size w wr ∧ (l.take k).any hidW = false) (fun x _ => l.length - (intOf x).toNat)
  case atStart => exact ⟨0, Nat.zero_le _, rfl, Below.refl _ _, by simp⟩
  case round =>
    obtain ⟨k, hk, rfl, hbel, hany⟩ := hrel
    have HBEL := Lib.hid hbel
    have HANY := Lib.hid hany
    clear hbel hany
    by_cases hlt : k < l.length
    · have d1 : decide ((k : Int) < (l.length : Int)) = true := by simp; omega
      obtain ⟨b1, o1, rfl, _, hc1⟩ := (HR.out.below HBEL.out).plain5 (by omega)
      obtain ⟨r, hx⟩ : ∃ z, l[k]? = some z := ⟨_, List.getElem?_eq_getElem hlt⟩
      obtain ⟨g1, g2, g3, g4, g5⟩ := hc1 k _ hx
      have HBD := Lib.hid (fun W => hid_any r W)
      have hsn : (l.take (k + 1)).any hidW = ((l.take k).any hidW || hidW r) := by
        rw [List.take_add_one, hx]; simp
      have HSN := Lib.hid hsn
      have HX := Lib.hid hx
      clear hc1 hx hsn
      cases hbr : hidW r
      · have HBR := Lib.hid hbr
        rw [hbr] at HBD
        clear hbr
        go_wp2_with fail
        refine (HBD.out _).mono ?_
        rintro e w2 ⟨rfl, hb2⟩
        go_wp2_with fail
        go_roundw
        case rel => exact ⟨k + 1, by omega, by go_num, btrans HBEL.out hb2, by rw [HSN.out, HANY.out, HBR.out]; rfl⟩
        case measure => simp [intOf]; omega
      · have hfin : idxW l = k := by
          have h1 : l.findIdx? hidW = some k := by
            rw [List.findIdx?_eq_some_iff_getElem]
            refine ⟨hlt, ?_, fun j hj => ?_⟩
            · rw [(List.getElem?_eq_some_iff.1 HX.out).2]; exact hbr
            · have h2 := List.any_eq_false.1 HANY.out (l[j]) (by rw [List.mem_take_iff_getElem]; exact ⟨j, by omega, rfl⟩)
              simpa using h2
          unfold idxW; rw [h1]
        have HF := Lib.hid hfin
        rw [hbr] at HBD
        clear hbr hfin
        go_wp2_with fail
        refine (HBD.out _).mono ?_
        rintro e w2 ⟨rfl, hb2⟩
        go_wp2_with fail
        go_ret
        exact ⟨ret_int HF.out.symm, btrans HBEL.out hb2⟩
    · have d1 : decide ((k : Int) < (l.length : Int)) = false := by simp; omega
      have hfin : idxW l = -1 := by
        have h1 : l.findIdx? hidW = none := by
          rw [List.findIdx?_eq_none_iff]
          intro x hx
          have h2 := HANY.out
          rw [List.take_of_length_le (by omega)] at h2
          simpa using List.any_eq_false.1 h2 x hx
        unfold idxW; rw [h1]
      have HF := Lib.hid hfin
      clear hfin
      go_wp2_with fail
      go_ret
      exact ⟨ret_int HF.out.symm, HBEL.out⟩

theorem idxW_any (l : List Rw) : decide (0 ≤ idxW l) = l.any hidW := by
  unfold idxW
  cases h : l.findIdx? hidW with
  | none =>
    simp only
    have h2 : l.any hidW = false := List.any_eq_false.2 fun x hx => by
      have := List.findIdx?_eq_none_iff.1 h x hx
      simp [this]
    rw [h2]; rfl
  | some k =>
    simp only
    obtain ⟨h1, h2, _⟩ := List.findIdx?_eq_some_iff_getElem.1 h
    have h3 : l.any hidW = true := List.any_eq_true.2 ⟨_, List.getElem_mem h1, h2⟩
    rw [h3]
    simp

theorem ContainsFunc_any (A : Option Addr) (l : List Rw) (c : Nat) (w : World) (hr : Reads w w.heap.size 5 A l.length (cellsW l)) (hl : l.length ≤ 1000000000000) :
    Calls Tryd.prog 45 #[.slice A l.length c, .func (.func 43) #[] #[]] w fun e w' => e = .returned (.bool (l.any hidW)) ∧ Below w.heap.size w w' := by
  have HI := Lib.hid (IndexFunc_any A l c w hr hl)
  have HA := Lib.hid (idxW_any l)
  clear hr
  go_enter Tryd.func45, Tryd.ntmps45
  go_wp2_with fail
  refine HI.out.mono ?_
  rintro e w2 ⟨rfl, hb2⟩
  go_wp2_with fail
  go_ret
  exact ⟨ret_bool HA.out, hb2⟩

theorem eqRw (a b : Rw) (w : World) : (Op.equalIn 10000 37 (.agg #[.int .i64 a.1, .int .i64 a.2.1, .int .i64 a.2.2.1, .string a.2.2.2.1, .string a.2.2.2.2]) (.agg #[.int .i64 b.1, .int .i64 b.2.1, .int .i64 b.2.2.1, .string b.2.2.2.1, .string b.2.2.2.2])).run Tryd.prog w = .ok (decide (a = b)) w := by
  have u3 := Tryd.underlying9
  have u4 := Tryd.underlying3
  have hS : Tryd.prog.underlying 37 = some (.struct (Tryd.prog.fieldsOf 37)) := by kernel_rfl
  have hp : Tryd.prog.stoodInHeld 37 = false := by kernel_rfl
  have a3 := Tryd.isAgg9
  have z3 := Tryd.sizeOf9
  have a4 := Tryd.isAgg3
  have z4 := Tryd.sizeOf3
  obtain ⟨a1, a2, a3', a4', a5'⟩ := a
  obtain ⟨b1, b2, b3, b4, b5⟩ := b
  rw [show (10000 : Nat) = 9999 + 1 from rfl, run_equalIn_agg w 9999 37 _ _ hS hp]
  simp only [Program.fieldsOf, Tryd.underlying37]
  go_simp
  by_cases h1 : a1 = b1 <;> by_cases h2 : a2 = b2 <;> by_cases h3 : a3' = b3 <;> by_cases h4 : a4' = b4 <;> by_cases h5 : a5' = b5 <;> simp [h1, h2, h3, h4, h5, toList_inj]
set_option maxRecDepth 100000 in
set_option maxHeartbeats 1000000 in
theorem EqualW_any (A1 A2 : Option Addr) (l1 l2 : List Rw) (c1 c2 B1 B2 : Nat) (w : World) (h1 : Reads w B1 5 A1 l1.length (cellsW l1)) (h2 : Reads w B2 5 A2 l2.length (cellsW l2)) (hl : l1.length ≤ 1000000) :
    Calls Tryd.prog 20 #[.slice A1 l1.length c1, .slice A2 l2.length c2] w fun e w' => e = .returned (.bool (decide (l1 = l2))) ∧ ∃ q, w' = w.drewN q := by
  have hm : Tryd.prog.eqGuardType Tryd.prog.depth 37 = false := by kernel_rfl
  by_cases hlen : l1.length = l2.length
  · have d0 : ((l1.length : Int) != (l2.length : Int)) = false := by rw [hlen]; simp
    have HH1 := Lib.hid h1
    have HH2 := Lib.hid h2
    have HLEN := Lib.hid hlen
    have hl2 : l1.length ≤ l2.length := by omega
    have hl3 : l2.length ≤ l1.length := by omega
    clear h1 h2 hlen
    go_enter Tryd.func20, Tryd.ntmps20
    go_wp2_with fail
    go_loopw [13] (fun y wr => ∃ k q : Nat, k ≤ l1.length ∧ y = .int .i64 k ∧ wr = w.drewN q ∧ l1.take k = l2.take k) (fun y _ => l1.length - (intOf y).toNat)
    case atStart => exact ⟨0, 0, Nat.zero_le _, rfl, rfl, by simp⟩
    case round =>
      obtain ⟨k, q, hk, rfl, rfl, htk⟩ := hrel
      have HTK := Lib.hid htk
      clear htk
      by_cases hlt : k < l1.length
      · have d1 : decide ((k : Int) < (l1.length : Int)) = true := by simp; omega
        obtain ⟨b1, o1, rfl, _, hc1⟩ := HH1.out.plain5 (by omega)
        obtain ⟨b2, o2, rfl, _, hc2⟩ := HH2.out.plain5 (by omega)
        obtain ⟨x, hx⟩ : ∃ z, l1[k]? = some z := ⟨_, List.getElem?_eq_getElem hlt⟩
        obtain ⟨y, hy⟩ : ∃ z, l2[k]? = some z := ⟨_, List.getElem?_eq_getElem (by omega)⟩
        obtain ⟨g1, g2, g3, g4, g5⟩ := hc1 k _ hx
        obtain ⟨k1, k2, k3, k4, k5⟩ := hc2 k _ hy
        have heq := fun W => eqRw x y W
        have i1 : (0 : Int) ≤ (k : Int) := by omega
        have i2 : (k : Int) < (l1.length : Int) := by omega
        have i3 : (k : Int) < (l2.length : Int) := by omega
        have hts := take_snoc_eq HTK.out hx hy
        have HTS := Lib.hid hts
        have HX := Lib.hid hx
        have HY := Lib.hid hy
        clear hc1 hc2 hx hy hts
        by_cases hxy : x = y
        · have HXY := Lib.hid hxy
          rw [decide_eq_true hxy] at heq
          clear hxy
          go_wp2_with fail
          go_quiet (fail)
          go_wp2_with fail
          go_roundw
          case rel => exact ⟨k + 1, _, by omega, by go_num, rfl, HTS.out.2 HXY.out⟩
          case measure => simp [intOf]; omega
        · rw [decide_eq_false hxy] at heq
          have hne : l1 ≠ l2 := ne_of_at HX.out HY.out hxy
          have hf : decide (l1 = l2) = false := by simpa using hne
          have HF := Lib.hid hf
          clear hne hf hxy
          go_wp2_with fail
          go_quiet (fail)
          go_wp2_with fail
          go_ret
          exact ⟨by rw [HF.out]; rfl, _, World.drewN_drewN ..⟩
      · obtain rfl : k = l1.length := by omega
        have d1 : decide ((l1.length : Int) < (l1.length : Int)) = false := by simp
        have he : l1 = l2 := by
          have h3 := HTK.out
          rw [List.take_length, HLEN.out, List.take_length] at h3
          exact h3
        have hf : decide (l1 = l2) = true := by simpa using he
        have HF := Lib.hid hf
        clear he hf
        go_wp2_with fail
        go_ret
        exact ⟨by rw [HF.out]; rfl, _, rfl⟩
  · have d0 : ((l1.length : Int) != (l2.length : Int)) = true := by simp; omega
    have hne : ¬ l1 = l2 := fun h => hlen (by rw [h])
    have hf : decide (l1 = l2) = false := by simpa using hne
    have HF := Lib.hid hf
    clear hf hne hlen h1 h2
    go_enter Tryd.func20, Tryd.ntmps20
    go_wp2_with fail
    go_ret
    exact ⟨by rw [HF.out]; rfl, 0, rfl⟩

/-- Two rows are alike: equal but for offsets that are told. -/
def alikeW (a b : Rw) : Bool := ((a.1 == -1) == (b.1 == -1)) && decide (a.2 = b.2)
set_option maxRecDepth 100000 in
set_option maxHeartbeats 1000000 in
theorem alike1_any (a b : Rw) (w : World) : Calls Tryd.prog 24 #[(.agg #[.int .i64 a.1, .int .i64 a.2.1, .int .i64 a.2.2.1, .string a.2.2.2.1, .string a.2.2.2.2]), (.agg #[.int .i64 b.1, .int .i64 b.2.1, .int .i64 b.2.2.1, .string b.2.2.2.1, .string b.2.2.2.2])] w fun e w' => e = .returned (.bool (alikeW a b)) ∧ Below w.heap.size w w' := by
  have HB := Lib.hid (fun x y => bal (bal (Below.refl w.heap.size w) x) y)
  have heq := fun W => eqRw (0, a.2) (0, b.2) W
  have hm : Tryd.prog.eqGuardType Tryd.prog.depth 37 = false := by kernel_rfl
  have he : decide (((0, a.2) : Rw) = (0, b.2)) = decide (a.2 = b.2) := by simp
  rw [he] at heq
  have HA := Lib.hid (show alikeW a b = (((a.1 == -1) == (b.1 == -1)) && decide (a.2 = b.2)) from rfl)
  clear he
  generalize hp : (a.1 == -1) = p at *
  generalize hq : (b.1 == -1) = q at *
  generalize decide (a.2 = b.2) = d at *
  go_enter Tryd.func24, Tryd.ntmps24
  cases p <;> cases q <;> cases d <;> (go_wp2_with fail; go_ret; exact ⟨ret_bool (by rw [HA.out]; rfl), HB.out _ _⟩)

/-- Two lists of rows are alike. -/
def alikeL : List Rw → List Rw → Bool
  | [], [] => true
  | a :: l, b :: m => alikeW a b && alikeL l m
  | _, _ => false
theorem alikeL_len : ∀ {l m : List Rw}, alikeL l m = true → l.length = m.length
  | [], [], _ => rfl
  | a :: l, b :: m, h => by
    rw [alikeL, Bool.and_eq_true] at h
    rw [List.length_cons, List.length_cons, alikeL_len h.2]
  | [], _ :: _, h => by cases h
  | _ :: _, [], h => by cases h
theorem alikeL_take : ∀ (l m : List Rw) (k : Nat) (a b : Rw), l[k]? = some a → m[k]? = some b → alikeL (l.take (k + 1)) (m.take (k + 1)) = (alikeL (l.take k) (m.take k) && alikeW a b)
  | x :: l, y :: m, 0, a, b, h1, h2 => by
    simp at h1 h2
    subst h1; subst h2
    simp [alikeL]
  | x :: l, y :: m, k + 1, a, b, h1, h2 => by
    have := alikeL_take l m k a b (by simpa using h1) (by simpa using h2)
    rw [List.take_succ_cons, List.take_succ_cons, List.take_succ_cons, List.take_succ_cons, alikeL, alikeL, this, Bool.and_assoc]
  | [], _, _, a, b, h1, h2 => by simp at h1
  | _ :: _, [], _, a, b, h1, h2 => by simp at h2
theorem alikeL_no : ∀ (l m : List Rw) (k : Nat), l.length = m.length → alikeL (l.take k) (m.take k) = false → alikeL l m = false
  | [], [], k, _, h => by simp [alikeL] at h
  | x :: l, y :: m, 0, _, h => by simp [alikeL] at h
  | x :: l, y :: m, k + 1, hl, h => by
    rw [List.take_succ_cons, List.take_succ_cons, alikeL] at h
    rw [alikeL]
    rcases Bool.and_eq_false_iff.1 h with h | h
    · rw [h]; rfl
    · rw [alikeL_no l m k (by simpa using hl) h, Bool.and_false]
  | [], _ :: _, _, hl, _ => by simp at hl
  | _ :: _, [], _, hl, _ => by simp at hl
set_option maxRecDepth 100000 in
set_option maxHeartbeats 1000000 in
theorem EqualFunc_any (A1 A2 : Option Addr) (l1 l2 : List Rw) (c1 c2 : Nat) (w : World) (h1 : Reads w w.heap.size 5 A1 l1.length (cellsW l1)) (h2 : Reads w w.heap.size 5 A2 l2.length (cellsW l2)) (hl : l1.length ≤ 1000000) :
    Calls Tryd.prog 25 #[.slice A1 l1.length c1, .slice A2 l2.length c2, .func (.func 24) #[] #[]] w fun e w' => e = .returned (.bool (alikeL l1 l2)) ∧ Below w.heap.size w w' := by
  by_cases hlen : l1.length = l2.length
  · have d0 : ((l1.length : Int) != (l2.length : Int)) = false := by rw [hlen]; simp
    have HH1 := Lib.hid h1
    have HH2 := Lib.hid h2
    have HLEN := Lib.hid hlen
    have hl2 : l1.length ≤ l2.length := by omega
    have hl3 : l2.length ≤ l1.length := by omega
    clear h1 h2 hlen
    go_enter Tryd.func25, Tryd.ntmps25
    go_wp2_with fail
    go_loopw [17] (fun y wr => ∃ k : Nat, k ≤ l1.length ∧ y = .int .i64 k ∧ Below w.heap.size w wr ∧ alikeL (l1.take k) (l2.take k) = true) (fun y _ => l1.length - (intOf y).toNat)
    case atStart => exact ⟨0, Nat.zero_le _, rfl, Below.refl _ _, by simp [alikeL]⟩
    case round =>
      obtain ⟨k, hk, rfl, hbel, htk⟩ := hrel
      have HTK := Lib.hid htk
      have HBEL := Lib.hid hbel
      clear htk hbel
      by_cases hlt : k < l1.length
      · have d1 : decide ((k : Int) < (l1.length : Int)) = true := by simp; omega
        have hbs := HBEL.out.size
        obtain ⟨x, hx⟩ : ∃ z, l1[k]? = some z := ⟨_, List.getElem?_eq_getElem hlt⟩
        obtain ⟨y, hy⟩ : ∃ z, l2[k]? = some z := ⟨_, List.getElem?_eq_getElem (by omega)⟩
        obtain ⟨b1, o1, rfl, hb1, hc1⟩ := (HH1.out.below HBEL.out).plain5 (by omega)
        obtain ⟨b2, o2, rfl, hb2, hc2⟩ := ((HH2.out.below HBEL.out).alloc hbs (.cells #[.int .i64 x.1, .int .i64 x.2.1, .int .i64 x.2.2.1, .string x.2.2.2.1, .string x.2.2.2.2] 37)).plain5 (by omega)
        obtain ⟨g1, g2, g3, g4, g5⟩ := hc1 k _ hx
        obtain ⟨k1, k2, k3, k4, k5⟩ := hc2 k _ hy
        have i1 : (0 : Int) ≤ (k : Int) := by omega
        have i2 : (k : Int) < (l1.length : Int) := by omega
        have i3 : (k : Int) < (l2.length : Int) := by omega
        have HTS := Lib.hid (alikeL_take l1 l2 k x y hx hy)
        have AK := Lib.hid (fun W => alike1_any x y W)
        have BB := Lib.hid (bal (bal HBEL.out (.cells #[.int .i64 x.1, .int .i64 x.2.1, .int .i64 x.2.2.1, .string x.2.2.2.1, .string x.2.2.2.2] 37)) (.cells #[.int .i64 y.1, .int .i64 y.2.1, .int .i64 y.2.2.1, .string y.2.2.2.1, .string y.2.2.2.2] 37))
        clear hc1 hc2 hx hy
        cases hxy : alikeW x y
        · rw [hxy] at AK HTS
          have hf : alikeL l1 l2 = false := alikeL_no l1 l2 (k + 1) HLEN.out (by rw [HTS.out, Bool.and_false])
          have HF := Lib.hid hf
          clear hf hxy
          go_wp2_with fail
          refine (AK.out _).mono ?_
          rintro e w1 ⟨rfl, b1⟩
          go_wp2_with fail
          go_ret
          exact ⟨ret_bool HF.out.symm, btrans BB.out b1⟩
        · rw [hxy] at AK HTS
          clear hxy
          go_wp2_with fail
          refine (AK.out _).mono ?_
          rintro e w1 ⟨rfl, b1⟩
          go_wp2_with fail
          go_roundw
          case rel => exact ⟨k + 1, by omega, by go_num, btrans BB.out b1, by rw [HTS.out, HTK.out]; rfl⟩
          case measure => simp [intOf]; omega
      · obtain rfl : k = l1.length := by omega
        have d1 : decide ((l1.length : Int) < (l1.length : Int)) = false := by simp
        have hf : alikeL l1 l2 = true := by
          have h3 := HTK.out
          rw [List.take_length, HLEN.out, List.take_length] at h3
          exact h3
        have HF := Lib.hid hf
        clear hf
        go_wp2_with fail
        go_ret
        exact ⟨ret_bool HF.out.symm, HBEL.out⟩
  · have d0 : ((l1.length : Int) != (l2.length : Int)) = true := by simp; omega
    have hf : alikeL l1 l2 = false := by
      cases h : alikeL l1 l2
      · rfl
      · exact absurd (alikeL_len h) hlen
    have HF := Lib.hid hf
    clear hf hlen h1 h2
    go_enter Tryd.func25, Tryd.ntmps25
    go_wp2_with fail
    go_ret
    exact ⟨ret_bool HF.out.symm, Below.refl _ _⟩
end Go.Proofs.YtckdecodpjfcnaaDoor
