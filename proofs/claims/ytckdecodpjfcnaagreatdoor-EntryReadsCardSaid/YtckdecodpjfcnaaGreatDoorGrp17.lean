/-
  Layer 2, the document's reader: Number.
  Layer 2, reading: the reader's Flag; New, End, Wrong; readers that are nil.
-/
import Derived.Test.YtckdecodpjfcnaaGreatDoorGrp16
import Derived.Deep.RegionHeld
set_option linter.unusedVariables false
set_option linter.unusedSimpArgs false
namespace Go.Proofs.YtckdecodpjfcnaaGreatDoor
open Go.RowKit

theorem winL_one {s : ByteArray} {i : Nat} {c : UInt8} (h : (lb s)[i]? = some c) : winL s i 1 = [c] := by
  unfold winL
  obtain ⟨h1, h2⟩ := List.getElem?_eq_some_iff.1 h
  rw [List.drop_eq_getElem_cons h1, h2]; rfl
theorem winL_none {s : ByteArray} {i : Nat} (h : (lb s)[i]? = none) : winL s i 1 = [] := by
  unfold winL
  rw [List.drop_eq_nil_of_le (List.getElem?_eq_none_iff.1 h)]; rfl

set_option maxRecDepth 100000 in
set_option maxHeartbeats 1000000 in
theorem flag1_ok (g bx : Nat) (s : ByteArray) (i : Nat) (c : UInt8) (v0 : Value) (w : World) (h : RdB w g s i false) (hx : Blk w bx 4 #[v0])
    (hs : s.size ≤ 1000000) (hat : i ≤ s.size) (hc : (lb s)[i]? = some c) (hc1 : c.toNat ≤ 1) :
    Calls Tryz.prog 115 #[.pointer (some ⟨g, 0, none⟩), .pointer (some ⟨bx, 0, none⟩)] w fun e w' => e = .returned (.tuple #[]) ∧ OneOk g bx 4 s (i + 1) (.bool (decide (c.toNat = 1))) w w' := by
  have hw := window_any g s i 1 false w h hs hat (by omega)
  rw [winL_one hc] at hw
  have HW := Lib.hid hw
  have hne : ¬ bx = g := fun e => (h.ne_ hx (by decide)) e.symm
  have hne' : ¬ g = bx := fun e => hne e.symm
  have HX := Lib.hid hx
  have H := Lib.hid h
  obtain ⟨m, hm⟩ : ∃ m : Nat, m = c.toNat := ⟨_, rfl⟩
  have e1 : decide ((1 : Int) < (m : Int)) = false := by simp; omega
  have e2 : ((m : Int) == 1) = decide (m = 1) := by rw [Bool.eq_iff_iff]; simp; omega
  have e3 : cellsB [c] = [.int .u8 (m : Int)] := by rw [hm]; rfl
  rw [← hm]
  have E3 := Lib.hid e3
  have v1 : IntKind.i64.wrap ((i : Int) + 1) = (i : Int) + 1 := IntWalk.i64_in _ (by omega)
  clear h hx hw hc hm hc1 e3
  go_enter Tryz.func115, Tryz.ntmps115
  go_wp2_with fail
  refine HW.out.mono ?_
  rintro e w1 ⟨A, cp, rfl, r1, hcp, b1⟩
  rw [E3.out] at r1
  obtain ⟨b, off, rfl, hb, hcell⟩ := r1.plain (by simp)
  have q1 : w1.cell? ⟨b, off, none⟩ = some (.int .u8 (m : Int)) := hcell 0 _ rfl
  have kx := HX.out.below b1 HX.out.lt
  have k1 := H.out.below b1 H.out.lt
  have z1 := kx.cell 0
  have z2 := kx.frozen 0
  have y1 := k1.cell 1
  have y2 := k1.frozen 1
  have KX := Lib.hid kx
  have K1 := Lib.hid k1
  have B1 := Lib.hid b1
  clear r1 hcell kx k1 b1 hcp
  simp only [List.length_singleton]
  go_wp2_with fail
  go_end0
  have K3 := (K1.out.far (p := ⟨bx, 0, none⟩) hne' (.bool (decide (m = 1)))).set_ 1 (.int .i64 ((i : Int) + 1))
  exact ⟨rfl, K3, (KX.out.set_ 0 _).far hne _, (((Only.of_below (fun x => x = g ∨ x = bx) B1.out).set (.inl (.inr rfl)) _).set (.inl (.inl rfl)) _)⟩

set_option maxRecDepth 100000 in
set_option maxHeartbeats 1000000 in
theorem flag1_no (g bx : Nat) (s : ByteArray) (i : Nat) (w : World) (h : RdB w g s i false)
    (hs : s.size ≤ 1000000) (hat : i ≤ s.size) (hno : (lb s)[i]? = none ∨ ∃ c, (lb s)[i]? = some c ∧ 1 < c.toNat) :
    Calls Tryz.prog 115 #[.pointer (some ⟨g, 0, none⟩), .pointer (some ⟨bx, 0, none⟩)] w (StopPost g s w) := by
  have hw := window_any g s i 1 false w h hs hat (by omega)
  have H := Lib.hid h
  rcases hno with hc | ⟨c, hc, hc1⟩
  · rw [winL_none hc] at hw
    have HW := Lib.hid hw
    clear h hw hc
    go_enter Tryz.func115, Tryz.ntmps115
    go_wp2_with fail
    refine HW.out.mono ?_
    rintro e w1 ⟨A, cp, rfl, r1, hcp, b1⟩
    have B1 := Lib.hid b1
    clear r1 hcp b1
    simp only [List.length_nil]
    go_wp2_with fail
    exact ⟨rfl, w, Only.refl _ _, ⟨i, H.out⟩, w1.heap.size, rfl, B1.out.size, by simp, bal B1.out _⟩
  · rw [winL_one hc] at hw
    have HW := Lib.hid hw
    obtain ⟨m, hm⟩ : ∃ m : Nat, m = c.toNat := ⟨_, rfl⟩
    have e1 : decide ((1 : Int) < (m : Int)) = true := by simp; omega
    have e3 : cellsB [c] = [.int .u8 (m : Int)] := by rw [hm]; rfl
    have E3 := Lib.hid e3
    clear h hw hc hm hc1 e3
    go_enter Tryz.func115, Tryz.ntmps115
    go_wp2_with fail
    refine HW.out.mono ?_
    rintro e w1 ⟨A, cp, rfl, r1, hcp, b1⟩
    rw [E3.out] at r1
    obtain ⟨b, off, rfl, hb, hcell⟩ := r1.plain (by simp)
    have q1 : w1.cell? ⟨b, off, none⟩ = some (.int .u8 (m : Int)) := hcell 0 _ rfl
    have B1 := Lib.hid b1
    clear r1 hcp b1 hcell
    simp only [List.length_singleton]
    go_wp2_with fail
    exact ⟨rfl, w, Only.refl _ _, ⟨i, H.out⟩, w1.heap.size, rfl, B1.out.size, by simp, bal B1.out _⟩

theorem cf_flag1 (args : Array Value) (W : World) : (callFunc 115 args).run Tryz.prog W = .ok (.enter 115 args) W := by kernel_rfl

theorem rdFlag_bad (l : List UInt8) (i : Nat) : rdFlag l i true = (false, i, true) := by unfold rdFlag; rw [if_pos rfl]
theorem rdFlag_cases (l : List UInt8) (i : Nat) :
    (∃ c, l[i]? = some c ∧ c.toNat ≤ 1 ∧ rdFlag l i false = (decide (c.toNat = 1), i + 1, false)) ∨
    ((l[i]? = none ∨ ∃ c, l[i]? = some c ∧ 1 < c.toNat) ∧ rdFlag l i false = (false, i, true)) := by
  unfold rdFlag
  simp only [Bool.false_eq_true, if_false]
  cases hd : l[i]? with
  | none => exact .inr ⟨.inl rfl, rfl⟩
  | some c =>
    simp only
    by_cases h0 : c = 0
    · subst h0; exact .inl ⟨0, rfl, by decide, rfl⟩
    · rw [if_neg h0]
      by_cases h1 : c = 1
      · subst h1; exact .inl ⟨1, rfl, by decide, rfl⟩
      · rw [if_neg h1]
        refine .inr ⟨.inr ⟨c, rfl, ?_⟩, rfl⟩
        have a0 : ¬ c.toNat = 0 := fun e => h0 (UInt8.toNat_inj.1 (by rw [e]; rfl))
        have a1 : ¬ c.toNat = 1 := fun e => h1 (UInt8.toNat_inj.1 (by rw [e]; rfl))
        omega

theorem flag_end (g : Nat) (s : ByteArray) (i : Nat) (bad : Bool) (w : World) (h : RdB w g s i bad)
    (hf : ∀ W bx, RdB W g s i bad → Below w.heap.size w W →
      Calls Tryz.prog 74 #[.pointer (some ⟨g, 0, none⟩), .func (.func 115) #[] #[.pointer (some ⟨bx, 0, none⟩)]] W (FieldNo g s i W)) :
    Calls Tryz.prog 101 #[.pointer (some ⟨g, 0, none⟩)] w (RdPost g s (.bool false) i true w) := by
  have hmf : ∀ (fn : Fn) (first cap : Array Value) (w : World), (Instr.makeFunc fn first cap).run Tryz.prog w = .ok (.func fn first cap) w := fun _ _ _ _ => rfl
  have l3 := (Below.refl w.heap.size w).alloc (Nat.le_refl _) (.cells #[.bool false] 4)
  have HF := Lib.hid (hf _ w.heap.size (h.alloc _) l3)
  have L3 := Lib.hid l3
  clear h hf l3
  go_enter Tryz.func101, Tryz.ntmps101
  go_wp2_with fail
  refine HF.out.mono ?_
  rintro e w1 ⟨b, rfl, hb, k1, o1⟩
  have O1 := Lib.hid ((Only.of_below (fun x => x = g) L3.out).trans o1)
  have K1 := Lib.hid k1
  have HB := Lib.hid (is_stop b w1 hb)
  clear hb k1 o1
  go_wp2_with fail
  refine HB.out.mono ?_
  rintro e w2 ⟨rfl, rfl⟩
  go_wp2_with fail
  go_ret
  exact ⟨rfl, K1.out, O1.out⟩

set_option maxHeartbeats 400000 in
theorem RFlag_any (g : Nat) (s : ByteArray) (i : Nat) (bad : Bool) (w : World) (h : RdB w g s i bad) (hs : s.size ≤ 1000000) (hat : i ≤ s.size) :
    Calls Tryz.prog 101 #[.pointer (some ⟨g, 0, none⟩)] w (RdPost g s (.bool (rdFlag (lb s) i bad).1) (rdFlag (lb s) i bad).2.1 (rdFlag (lb s) i bad).2.2 w) := by
  cases bad
  · rcases rdFlag_cases (lb s) i with ⟨c, hc, hc1, he⟩ | ⟨hno, he⟩
    · rw [he]
      have hmf : ∀ (fn : Fn) (first cap : Array Value) (w : World), (Instr.makeFunc fn first cap).run Tryz.prog w = .ok (.func fn first cap) w := fun _ _ _ _ => rfl
      have a1 := blk_new w 4 #[.bool false] rfl
      have l3 := (Below.refl w.heap.size w).alloc (Nat.le_refl _) (.cells #[.bool false] 4)
      have hl := h.lt
      have HF := Lib.hid (field_ok g s i 115 #[.pointer (some ⟨w.heap.size, 0, none⟩)] (fun x => x = g ∨ x = w.heap.size) (OneOk g w.heap.size 4 s (i + 1) (.bool (decide (c.toNat = 1)))) _ (h.alloc _) cf_flag1 (fun W w' hq => hq.2.2) (fun x hx => by simp; omega)
        (fun W hW bW => flag1_ok g _ s i c _ W hW (a1.below bW a1.lt) hs hat hc hc1))
      have L3 := Lib.hid l3
      generalize decide (c.toNat = 1) = y at *
      clear h a1 l3 he hc hc1
      go_enter Tryz.func101, Tryz.ntmps101
      go_wp2_with fail
      refine HF.out.mono ?_
      rintro e w1 ⟨rfl, W, W1, bW, ⟨k1, k2, o1⟩, b1⟩
      simp only [World.size_alloc] at bW b1
      have k3 := k2.below b1 (by omega)
      have k4 := k1.below b1 (by omega)
      have z1 := k3.cell 0
      have O1 := Lib.hid (((((Only.of_below (fun x => x = g) L3.out).then_below (by simpa using bW)).step o1 (fun x hx hs => by omega))).then_b b1 (by omega))
      have K4 := Lib.hid k4
      clear k1 k2 k3 k4 o1 b1 bW
      go_wp2_with fail
      refine (is_nil 70 _).mono ?_
      rintro e w2 ⟨rfl, rfl⟩
      go_wp2_with fail
      go_ret
      exact ⟨rfl, K4.out, O1.out⟩
    · rw [he]
      exact flag_end g s i false w h (fun W bx hW bW => field_no g s i _ _ W hW cf_flag1 (fun W' hW' bW' => flag1_no g bx s i W' hW' hs hat hno))
  · rw [rdFlag_bad]
    exact flag_end g s i true w h (fun W bx hW _ => field_bad g s i _ _ W hW)

/-- Whether a reader is at the end. -/
def endOf (n i : Nat) (bad : Bool) : Int := if bad = true ∨ i ≠ n then 70 else 0
set_option maxRecDepth 100000 in
theorem REnd_any (g : Nat) (s : ByteArray) (i : Nat) (bad : Bool) (w : World) (h : RdB w g s i bad) :
    Calls Tryz.prog 51 #[.pointer (some ⟨g, 0, none⟩)] w fun e w' => e = .returned (.int .i64 (endOf s.size i bad)) ∧ ∃ n, w' = w.drewN n := by
  have x0 := h.cell 0
  have x1 := h.cell 1
  have x2 := h.cell 2
  clear h
  cases bad
  · by_cases hi : i = s.size
    · have he : endOf s.size i false = 0 := by unfold endOf; rw [if_neg (by simp [hi])]
      rw [he]
      subst hi
      clear he
      have e1 : ((s.size : Int) != (s.size : Int)) = false := by simp
      go_enter Tryz.func51, Tryz.ntmps51
      go_wp2_with fail
      go_quiet (fail)
      go_wp2_with fail
      go_ret
      exact ⟨rfl, _, rfl⟩
    · have he : endOf s.size i false = 70 := by unfold endOf; rw [if_pos (.inr hi)]
      rw [he]
      have e1 : ((i : Int) != (s.size : Int)) = true := by rw [bne_iff_ne]; omega
      clear he hi
      go_enter Tryz.func51, Tryz.ntmps51
      go_wp2_with fail
      go_quiet (fail)
      go_wp2_with fail
      go_ret
      exact ⟨rfl, _, rfl⟩
  · have he : endOf s.size i true = 70 := by unfold endOf; rw [if_pos (.inl rfl)]
    rw [he]
    clear he
    go_enter Tryz.func51, Tryz.ntmps51
    go_wp2_with fail
    go_quiet (fail)
    go_wp2_with fail
    go_ret
    exact ⟨rfl, _, rfl⟩

theorem RWrong_any (g : Nat) (s : ByteArray) (i : Nat) (bad : Bool) (w : World) (h : RdB w g s i bad) :
    Calls Tryz.prog 114 #[.pointer (some ⟨g, 0, none⟩)] w (RdPost g s (.tuple #[]) i true w) := by
  have x2 := h.cell 2
  have x3 := h.frozen 2
  have H := Lib.hid h
  clear h
  go_enter Tryz.func114, Tryz.ntmps114
  go_wp2_with fail
  go_end0
  exact ⟨rfl, H.out.set_ 2 _, (Only.refl (fun x => x = g) w).set (.inl rfl) _⟩

theorem RNew_any (s : ByteArray) (w : World) :
    Calls Tryz.prog 48 #[.string s] w fun e w' => e = .returned (.pointer (some ⟨w.heap.size, 0, none⟩)) ∧ w.alloc (.cells #[.string s, .int .i64 0, .bool false] 113) = w' := by
  go_enter Tryz.func48, Tryz.ntmps48
  go_wp2_with fail
  go_ret
  exact ⟨rfl, rfl⟩
end Go.Proofs.YtckdecodpjfcnaaGreatDoor
namespace Go.Proofs.YtckdecodpjfcnaaGreatDoor
open Go.RowKit

/-- The document's reader in memory. -/
abbrev RdR (w : World) (g : Nat) (s : ByteArray) (i : Nat) (bad : Bool) : Prop := Blk w g 118 #[.string s, .int .i64 (i : Int), .bool bad]
def RrPost (g : Nat) (s : ByteArray) (v : Value) (i : Nat) (bad : Bool) (w : World) (e : Ending) (w' : World) : Prop :=
  e = .returned v ∧ RdR w' g s i bad ∧ Only (fun x => x = g) w w'

/-- The document's Get of a text's bytes. -/
def rGetPost (z : Int × Int × Int) (w : World) (e : Ending) (w' : World) : Prop := e = .returned (.tuple #[.int .i64 z.1, .int .i64 z.2.1, .int .i64 z.2.2]) ∧ w = w'
theorem rGet_text (s : ByteArray) (b c : Nat) (k : Nat) (w : World) (hs : s.size ≤ 100000) (hcell : ∀ j, j < s.size → w.cell? ⟨b, j, none⟩ = some (.int .u8 (((lb s).getD j 0).toNat : Int))) :
    Calls Tryz.prog 85 #[.slice (some ⟨b, 0, none⟩) s.size c, .int .i64 (k : Int)] w (rGetPost (getOf (lb s) k) w) := by
  have hr : Reads w (b + 1) 1 (some ⟨b, 0, none⟩) (lb s).length (cellsB (lb s)) := by
    refine ⟨by rw [length_cellsB]; omega, fun _ => ⟨_, rfl, Nat.lt_succ_self _, fun j u hu => ?_⟩⟩
    rw [getElem?_cellsB, Option.map_eq_some_iff] at hu
    obtain ⟨c, hc, rfl⟩ := hu
    have hj := (List.getElem?_eq_some_iff.1 hc).1
    rw [add_none, Nat.zero_add]
    have := hcell j (by rw [← length_lb]; exact hj)
    rw [List.getD_eq_getElem?_getD, hc] at this
    exact this
  have := rGet_any (some ⟨b, 0, none⟩) (lb s) c (b + 1) k w (by rw [length_lb]; exact hs) hr
  rw [length_lb] at this
  exact this

theorem getOf_nat (l : List UInt8) (i : Nat) (hi : i ≤ l.length) :
    getOf l i = match dec (l.drop i) with | none => (0, 0, 70) | some (n, m) => ((n : Int), (i : Int) + m, 0) := by
  unfold getOf
  rw [if_neg (by omega), Int.toNat_natCast]
  rfl

set_option maxRecDepth 100000 in
set_option maxHeartbeats 1000000 in
theorem rRNum_any (g : Nat) (s : ByteArray) (i : Nat) (bad : Bool) (lo hi : Int) (w : World) (h : RdR w g s i bad) (hs : s.size ≤ 100000) (hat : i ≤ s.size) :
    Calls Tryz.prog 53 #[.pointer (some ⟨g, 0, none⟩), .int .i64 lo, .int .i64 hi] w (RrPost g s (.int .i64 (rdNum (lb s) i bad lo hi).1) (rdNum (lb s) i bad lo hi).2.1 (rdNum (lb s) i bad lo hi).2.2 w) := by
  have x0 := h.cell 0
  have x1 := h.cell 1
  have x2 := h.cell 2
  have H := Lib.hid h
  cases bad
  · obtain ⟨cap, W', hrun, hcap, hcell, hsize, hgrow⟩ := bytes_of_ex (P := Tryz.prog) Tryz.underlying9 Tryz.underlying46 Tryz.underlying5 w.drew s
    have bW : Below w.heap.size w W' := (Below.refl _ w).drew.grown hgrow (Nat.le_refl _) (fun k hk => by cases hk)
    have kW := h.below bW h.lt
    have y0 := kW.cell 0
    have y1 := kW.cell 1
    have y2 := kW.cell 2
    have y3 := kW.frozen 1
    have y4 := kW.frozen 2
    have HG := Lib.hid (rGet_text s w.heap.size cap i W' hs hcell)
    rw [getOf_nat (lb s) i (by rw [length_lb]; exact hat)] at HG
    have KW := Lib.hid kW
    have OW := Lib.hid (Only.of_below (fun x => x = g) bW)
    rcases rdNum_cases (lb s) i lo hi with ⟨n, k, hd, hr, he⟩ | ⟨hno, he⟩
    · rw [he]
      rw [hd] at HG
      have d1 : decide ((n : Int) < lo) = false := decide_eq_false (by omega)
      have d2 : decide (hi < (n : Int)) = false := decide_eq_false (by omega)
      clear h hcap hcell hsize hgrow bW kW he hd hr
      go_enter Tryz.func53, Tryz.ntmps53
      go_wp2_with fail
      go_region_held (fun w' => w'.cell? ⟨g, 0, none⟩ = some (.string s) ∧ w'.cell? ⟨g, 1, none⟩ = some (.int .i64 (i : Int))) (first | go_keep) ((first | ((with_reducible refine HG.out.mono ?_); rintro e w2 ⟨rfl, rfl⟩)))
      clear hrun
      go_wp2_with fail
      go_ret
      exact ⟨rfl, KW.out.set_ 1 (.int .i64 ((i + k : Nat) : Int)), OW.out.set (.inl rfl) _⟩
    · rw [he]
      rcases hno with hd | ⟨n, k, hd, hr⟩
      · rw [hd] at HG
        clear h hcap hcell hsize hgrow bW kW he hd
        go_enter Tryz.func53, Tryz.ntmps53
        go_wp2_with fail
        go_region_held (fun w' => w'.cell? ⟨g, 0, none⟩ = some (.string s) ∧ w'.cell? ⟨g, 1, none⟩ = some (.int .i64 (i : Int))) (first | go_keep) ((first | ((with_reducible refine HG.out.mono ?_); rintro e w2 ⟨rfl, rfl⟩)))
        clear hrun
        go_wp2_with fail
        go_ret
        exact ⟨rfl, KW.out.set_ 2 (.bool true), OW.out.set (.inl rfl) _⟩
      · rw [hd] at HG
        have HR := Lib.hid hr
        clear h hcap hcell hsize hgrow bW kW he hd hr
        by_cases h1 : (n : Int) < lo
        · have d1 : decide ((n : Int) < lo) = true := decide_eq_true h1
          go_enter Tryz.func53, Tryz.ntmps53
          go_wp2_with fail
          go_region_held (fun w' => w'.cell? ⟨g, 0, none⟩ = some (.string s) ∧ w'.cell? ⟨g, 1, none⟩ = some (.int .i64 (i : Int))) (first | go_keep) ((first | ((with_reducible refine HG.out.mono ?_); rintro e w2 ⟨rfl, rfl⟩)))
          clear hrun
          go_wp2_with fail
          go_ret
          exact ⟨rfl, KW.out.set_ 2 (.bool true), OW.out.set (.inl rfl) _⟩
        · have d1 : decide ((n : Int) < lo) = false := decide_eq_false h1
          have d2 : decide (hi < (n : Int)) = true := decide_eq_true (by have := HR.out; omega)
          go_enter Tryz.func53, Tryz.ntmps53
          go_wp2_with fail
          go_region_held (fun w' => w'.cell? ⟨g, 0, none⟩ = some (.string s) ∧ w'.cell? ⟨g, 1, none⟩ = some (.int .i64 (i : Int))) (first | go_keep) ((first | ((with_reducible refine HG.out.mono ?_); rintro e w2 ⟨rfl, rfl⟩)))
          clear hrun
          go_wp2_with fail
          go_ret
          exact ⟨rfl, KW.out.set_ 2 (.bool true), OW.out.set (.inl rfl) _⟩
  · rw [rdNum_bad]
    clear h
    go_enter Tryz.func53, Tryz.ntmps53
    go_wp2_with fail
    go_ret
    exact ⟨rfl, H.out, Only.refl _ _⟩
end Go.Proofs.YtckdecodpjfcnaaGreatDoor
