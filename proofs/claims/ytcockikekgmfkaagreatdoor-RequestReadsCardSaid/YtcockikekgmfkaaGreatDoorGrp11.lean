/-
  Layer 2, the document's reader: Text, Flag; New, End, Wrong.
  Layer 2, the document's reader: Number.
-/
import Derived.Test.YtcockikekgmfkaaGreatDoorGrp10
import Derived.Deep.RegionHeld
namespace Go.Proofs.YtcockikekgmfkaaGreatDoor
open Go.RowKit

/-- The document's reader in memory. -/
abbrev RdR (w : World) (g : Nat) (s : ByteArray) (i : Nat) (bad : Bool) : Prop := Blk w g 65 #[.string s, .int .i64 (i : Int), .bool bad]
def RrPost (g : Nat) (s : ByteArray) (v : Value) (i : Nat) (bad : Bool) (w : World) (e : Ending) (w' : World) : Prop :=
  e = .returned v ∧ RdR w' g s i bad ∧ Only (fun x => x = g) w w'

/-- The document's Get of a text's bytes. -/
def rGetPost (z : Int × Int × Int) (w : World) (e : Ending) (w' : World) : Prop := e = .returned (.tuple #[.int .i64 z.1, .int .i64 z.2.1, .int .i64 z.2.2]) ∧ w = w'
theorem rGet_text (s : ByteArray) (b c : Nat) (k : Nat) (w : World) (hs : s.size ≤ 100000) (hcell : ∀ j, j < s.size → w.cell? ⟨b, j, none⟩ = some (.int .u8 (((lb s).getD j 0).toNat : Int))) :
    Calls Tryz.prog 46 #[.slice (some ⟨b, 0, none⟩) s.size c, .int .i64 (k : Int)] w (rGetPost (getOf (lb s) k) w) := by
  have hr : Reads w (b + 1) 1 (some ⟨b, 0, none⟩) (lb s).length (cellsB (lb s)) := by
    refine ⟨by rw [length_cellsB]; omega, fun _ => ⟨_, rfl, Nat.lt_succ_self _, fun j u hu => ?_⟩⟩
    rw [getElem?_cellsB, Option.map_eq_some_iff] at hu
    obtain ⟨c, hc, rfl⟩ := hu
    have hj := (List.getElem?_eq_some_iff.1 hc).1
    rw [add_none, Nat.zero_add]
    have := hcell j (by rw [← length_lb]; exact hj)
    rw [List.getD_eq_getElem?_getD, hc] at this
    exact this
  have := rGet_any (some ⟨b, 0, none⟩) (lb s) c (b + 1) k w (by rw [length_lb]; exact hs) hr
  rw [length_lb] at this
  exact this

theorem getOf_nat (l : List UInt8) (i : Nat) (hi : i ≤ l.length) :
    getOf l i = match dec (l.drop i) with | none => (0, 0, 70) | some (n, m) => ((n : Int), (i : Int) + m, 0) := by
  unfold getOf
  rw [if_neg (by omega), Int.toNat_natCast]
  rfl

set_option maxRecDepth 100000 in
set_option maxHeartbeats 1000000 in
theorem rRNum_any (g : Nat) (s : ByteArray) (i : Nat) (bad : Bool) (lo hi : Int) (w : World) (h : RdR w g s i bad) (hs : s.size ≤ 100000) (hat : i ≤ s.size) :
    Calls Tryz.prog 32 #[.pointer (some ⟨g, 0, none⟩), .int .i64 lo, .int .i64 hi] w (RrPost g s (.int .i64 (rdNum (lb s) i bad lo hi).1) (rdNum (lb s) i bad lo hi).2.1 (rdNum (lb s) i bad lo hi).2.2 w) := by
  have x0 := h.cell 0
  have x1 := h.cell 1
  have x2 := h.cell 2
  have H := Lib.hid h
  cases bad
  · obtain ⟨cap, W', hrun, hcap, hcell, hsize, hgrow⟩ := bytes_of_ex (P := Tryz.prog) Tryz.underlying9 Tryz.underlying30 Tryz.underlying5 w.drew s
    have bW : Below w.heap.size w W' := (Below.refl _ w).drew.grown hgrow (Nat.le_refl _) (fun k hk => by cases hk)
    have kW := h.below bW h.lt
    have y0 := kW.cell 0
    have y1 := kW.cell 1
    have y2 := kW.cell 2
    have y3 := kW.frozen 1
    have y4 := kW.frozen 2
    have HG := Lib.hid (rGet_text s w.heap.size cap i W' hs hcell)
    rw [getOf_nat (lb s) i (by rw [length_lb]; exact hat)] at HG
    have KW := Lib.hid kW
    have OW := Lib.hid (Only.of_below (fun x => x = g) bW)
    rcases rdNum_cases (lb s) i lo hi with ⟨n, k, hd, hr, he⟩ | ⟨hno, he⟩
    · rw [he]
      rw [hd] at HG
      have d1 : decide ((n : Int) < lo) = false := decide_eq_false (by omega)
      have d2 : decide (hi < (n : Int)) = false := decide_eq_false (by omega)
      clear h hcap hcell hsize hgrow bW kW he hd hr
      go_enter Tryz.func32, Tryz.ntmps32
      go_wp2_with fail
      go_region_held (fun w' => w'.cell? ⟨g, 0, none⟩ = some (.string s) ∧ w'.cell? ⟨g, 1, none⟩ = some (.int .i64 (i : Int))) (first | go_keep) ((first | ((with_reducible refine HG.out.mono ?_); rintro e w2 ⟨rfl, rfl⟩)))
      clear hrun
      go_wp2_with fail
      go_ret
      exact ⟨rfl, KW.out.set_ 1 (.int .i64 ((i + k : Nat) : Int)), OW.out.set (.inl rfl) _⟩
    · rw [he]
      rcases hno with hd | ⟨n, k, hd, hr⟩
      · rw [hd] at HG
        clear h hcap hcell hsize hgrow bW kW he hd
        go_enter Tryz.func32, Tryz.ntmps32
        go_wp2_with fail
        go_region_held (fun w' => w'.cell? ⟨g, 0, none⟩ = some (.string s) ∧ w'.cell? ⟨g, 1, none⟩ = some (.int .i64 (i : Int))) (first | go_keep) ((first | ((with_reducible refine HG.out.mono ?_); rintro e w2 ⟨rfl, rfl⟩)))
        clear hrun
        go_wp2_with fail
        go_ret
        exact ⟨rfl, KW.out.set_ 2 (.bool true), OW.out.set (.inl rfl) _⟩
      · rw [hd] at HG
        have HR := Lib.hid hr
        clear h hcap hcell hsize hgrow bW kW he hd hr
        by_cases h1 : (n : Int) < lo
        · have d1 : decide ((n : Int) < lo) = true := decide_eq_true h1
          go_enter Tryz.func32, Tryz.ntmps32
          go_wp2_with fail
          go_region_held (fun w' => w'.cell? ⟨g, 0, none⟩ = some (.string s) ∧ w'.cell? ⟨g, 1, none⟩ = some (.int .i64 (i : Int))) (first | go_keep) ((first | ((with_reducible refine HG.out.mono ?_); rintro e w2 ⟨rfl, rfl⟩)))
          clear hrun
          go_wp2_with fail
          go_ret
          exact ⟨rfl, KW.out.set_ 2 (.bool true), OW.out.set (.inl rfl) _⟩
        · have d1 : decide ((n : Int) < lo) = false := decide_eq_false h1
          have d2 : decide (hi < (n : Int)) = true := decide_eq_true (by have := HR.out; omega)
          go_enter Tryz.func32, Tryz.ntmps32
          go_wp2_with fail
          go_region_held (fun w' => w'.cell? ⟨g, 0, none⟩ = some (.string s) ∧ w'.cell? ⟨g, 1, none⟩ = some (.int .i64 (i : Int))) (first | go_keep) ((first | ((with_reducible refine HG.out.mono ?_); rintro e w2 ⟨rfl, rfl⟩)))
          clear hrun
          go_wp2_with fail
          go_ret
          exact ⟨rfl, KW.out.set_ 2 (.bool true), OW.out.set (.inl rfl) _⟩
  · rw [rdNum_bad]
    clear h
    go_enter Tryz.func32, Tryz.ntmps32
    go_wp2_with fail
    go_ret
    exact ⟨rfl, H.out, Only.refl _ _⟩
end Go.Proofs.YtcockikekgmfkaaGreatDoor
namespace Go.Proofs.YtcockikekgmfkaaGreatDoor
open Go.RowKit

theorem extract_eq (s : ByteArray) (i n : Nat) : s.extract i (i + n) = bs (((lb s).drop i).take n) := by
  apply lb_inj
  rw [lb_extract, lb_bs, List.drop_take]
  congr 1
  omega

set_option maxRecDepth 100000 in
set_option maxHeartbeats 1000000 in
theorem rRTxt_any (g : Nat) (s : ByteArray) (i : Nat) (bad : Bool) (most : Int) (w : World) (h : RdR w g s i bad) (hs : s.size ≤ 100000) (hat : i ≤ s.size) :
    Calls Tryz.prog 34 #[.pointer (some ⟨g, 0, none⟩), .int .i64 most] w (RrPost g s (.string (bs (rdTxt (lb s) i bad most).1)) (rdTxt (lb s) i bad most).2.1 (rdTxt (lb s) i bad most).2.2 w) := by
  have x0 := h.cell 0
  have x1 := h.cell 1
  have x2 := h.cell 2
  have H := Lib.hid h
  cases bad
  · obtain ⟨cap, W', hrun, hcap, hcell, hsize, hgrow⟩ := bytes_of_ex (P := Tryz.prog) Tryz.underlying9 Tryz.underlying30 Tryz.underlying5 w.drew s
    have bW : Below w.heap.size w W' := (Below.refl _ w).drew.grown hgrow (Nat.le_refl _) (fun k hk => by cases hk)
    have kW := h.below bW h.lt
    have y0 := kW.cell 0
    have y1 := kW.cell 1
    have y2 := kW.cell 2
    have y3 := kW.frozen 1
    have y4 := kW.frozen 2
    have HG := Lib.hid (rGet_text s w.heap.size cap i W' hs hcell)
    rw [getOf_nat (lb s) i (by rw [length_lb]; exact hat)] at HG
    have KW := Lib.hid kW
    have OW := Lib.hid (Only.of_below (fun x => x = g) bW)
    rcases rdTxt_cases (lb s) i most with ⟨n, k, hd, hn, hle, he⟩ | ⟨n, k, hd, hn, hle, he⟩ | ⟨hno, he⟩
    · rw [he]
      rw [hd] at HG
      have hat2 := at_le hat hd
      rw [List.length_drop, length_lb] at hle
      have d1 : decide (most < (n : Int)) = false := decide_eq_false (by omega)
      have v1 : IntKind.i64.wrap ((s.size : Int) - ((i : Int) + (k : Int))) = (s.size : Int) - ((i : Int) + (k : Int)) := IntWalk.i64_in _ (by omega)
      have d2 : decide ((s.size : Int) - ((i : Int) + (k : Int)) < (n : Int)) = false := decide_eq_false (by omega)
      have v2 : IntKind.i64.wrap ((i : Int) + (k : Int) + (n : Int)) = (i : Int) + (k : Int) + (n : Int) := IntWalk.i64_in _ (by omega)
      have hsl : ∀ W : World, (Instr.slice 9 (.string s) (some (.int .i64 ((i : Int) + (k : Int)))) (some (.int .i64 ((i : Int) + (k : Int) + (n : Int)))) none).run Tryz.prog W = .ok (.string (bs (((lb s).drop (i + k)).take n))) W := by
        intro W
        rw [run_slice_string_if W 9 s .i64 .i64 _ _ Tryz.underlying9, if_pos (by omega), if_pos (by omega), ← extract_eq]
        rw [show ((i : Int) + (k : Int) + (n : Int)).toNat = i + k + n by omega, show ((i : Int) + (k : Int)).toNat = i + k by omega]
      generalize ((lb s).drop (i + k)).take n = L at *
      have HSL := Lib.hid hsl
      clear h hcap hcell hsize hgrow bW kW he hd hn hle hsl
      go_enter Tryz.func34, Tryz.ntmps34
      go_wp2_with fail
      go_region_held (fun w' => w'.cell? ⟨g, 0, none⟩ = some (.string s) ∧ w'.cell? ⟨g, 1, none⟩ = some (.int .i64 (i : Int))) (first | go_keep) ((first | ((with_reducible refine HG.out.mono ?_); rintro e w2 ⟨rfl, rfl⟩)))
      clear hrun
      go_wp2_with fail
      have K1 := KW.out.set_ 1 (.int .i64 ((i : Int) + (k : Int) + (n : Int)))
      have u0 := K1.cell 0
      have u1 := K1.cell 1
      have hsl := HSL.out
      have K2 := Lib.hid K1
      clear K1 y0 y1 y2
      go_quiet (fail)
      go_wp2_with fail
      go_ret
      refine ⟨rfl, ?_, ?_⟩
      · have := K2.out
        rw [show ((i : Int) + (k : Int) + (n : Int)) = ((i + k + n : Nat) : Int) by omega] at this ⊢
        exact this
      · exact ⟨OW.out.os, OW.out.tape, OW.out.output, (OW.out.set (.inl rfl) _).size, (OW.out.set (.inl rfl) _).block⟩
    · rw [he]
      rw [hd] at HG
      have hat2 := at_le hat hd
      rw [List.length_drop, length_lb] at hle
      have d1 : decide (most < (n : Int)) = false := decide_eq_false (by omega)
      have v1 : IntKind.i64.wrap ((s.size : Int) - ((i : Int) + (k : Int))) = (s.size : Int) - ((i : Int) + (k : Int)) := IntWalk.i64_in _ (by omega)
      have d2 : decide ((s.size : Int) - ((i : Int) + (k : Int)) < (n : Int)) = true := decide_eq_true (by omega)
      clear h hcap hcell hsize hgrow bW kW he hd hn hle
      go_enter Tryz.func34, Tryz.ntmps34
      go_wp2_with fail
      go_region_held (fun w' => w'.cell? ⟨g, 0, none⟩ = some (.string s) ∧ w'.cell? ⟨g, 1, none⟩ = some (.int .i64 (i : Int))) (first | go_keep) ((first | ((with_reducible refine HG.out.mono ?_); rintro e w2 ⟨rfl, rfl⟩)))
      clear hrun
      go_wp2_with fail
      go_ret
      exact ⟨rfl, KW.out.set_ 2 (.bool true), OW.out.set (.inl rfl) _⟩
    · rw [he]
      rcases hno with hd | ⟨n, k, hd, hr⟩
      · rw [hd] at HG
        clear h hcap hcell hsize hgrow bW kW he hd
        go_enter Tryz.func34, Tryz.ntmps34
        go_wp2_with fail
        go_region_held (fun w' => w'.cell? ⟨g, 0, none⟩ = some (.string s) ∧ w'.cell? ⟨g, 1, none⟩ = some (.int .i64 (i : Int))) (first | go_keep) ((first | ((with_reducible refine HG.out.mono ?_); rintro e w2 ⟨rfl, rfl⟩)))
        clear hrun
        go_wp2_with fail
        go_ret
        exact ⟨rfl, KW.out.set_ 2 (.bool true), OW.out.set (.inl rfl) _⟩
      · rw [hd] at HG
        have d1 : decide (most < (n : Int)) = true := decide_eq_true (by omega)
        clear h hcap hcell hsize hgrow bW kW he hd hr
        go_enter Tryz.func34, Tryz.ntmps34
        go_wp2_with fail
        go_region_held (fun w' => w'.cell? ⟨g, 0, none⟩ = some (.string s) ∧ w'.cell? ⟨g, 1, none⟩ = some (.int .i64 (i : Int))) (first | go_keep) ((first | ((with_reducible refine HG.out.mono ?_); rintro e w2 ⟨rfl, rfl⟩)))
        clear hrun
        go_wp2_with fail
        go_ret
        exact ⟨rfl, KW.out.set_ 2 (.bool true), OW.out.set (.inl rfl) _⟩
  · rw [rdTxt_bad]
    clear h
    go_enter Tryz.func34, Tryz.ntmps34
    go_wp2_with fail
    go_ret
    exact ⟨rfl, H.out, Only.refl _ _⟩

theorem idx_text (s : ByteArray) (i : Nat) (c : UInt8) (hc : (lb s)[i]? = some c) (W : World) : (Instr.index 9 (.string s) (.int .i64 (i : Int))).run Tryz.prog W = .ok (.int .u8 (c.toNat : Int)) W := by
  have hlt : i < s.size := by rw [← length_lb]; exact (List.getElem?_eq_some_iff.1 hc).1
  rw [run_index_string W 9 s .i64 i Tryz.underlying9, dif_pos ⟨by omega, by omega⟩]
  have h2 := (List.getElem?_eq_some_iff.1 hc).2
  have : s[(i : Int).toNat]'(by simpa using hlt) = c := by rw [← h2]; rfl
  rw [this]

set_option maxRecDepth 100000 in
set_option maxHeartbeats 1000000 in
theorem rRFlag_any (g : Nat) (s : ByteArray) (i : Nat) (bad : Bool) (w : World) (h : RdR w g s i bad) (hs : s.size ≤ 100000) (hat : i ≤ s.size) :
    Calls Tryz.prog 35 #[.pointer (some ⟨g, 0, none⟩)] w (RrPost g s (.bool (rdFlag (lb s) i bad).1) (rdFlag (lb s) i bad).2.1 (rdFlag (lb s) i bad).2.2 w) := by
  have x0 := h.cell 0
  have x1 := h.cell 1
  have x2 := h.cell 2
  have z1 := h.frozen 1
  have z2 := h.frozen 2
  have H := Lib.hid h
  have e0 : decide ((i : Int) < 0) = false := by simp
  cases bad
  · rcases rdFlag_cases (lb s) i with ⟨c, hc, hc1, he⟩ | ⟨hno, he⟩
    · rw [he]
      have hlt : i < s.size := by rw [← length_lb]; exact (List.getElem?_eq_some_iff.1 hc).1
      have hix := idx_text s i c hc
      obtain ⟨m, hm⟩ : ∃ m : Nat, m = c.toNat := ⟨_, rfl⟩
      rw [← hm] at hix ⊢
      have e1 : decide ((s.size : Int) ≤ (i : Int)) = false := by simp; omega
      have e1' : decide (s.size ≤ i) = false := by simp; omega
      have e2 : decide ((1 : Int) < (m : Int)) = false := by simp; omega
      have e3 : ((m : Int) == 1) = decide (m = 1) := by rw [Bool.eq_iff_iff]; simp; omega
      have v1 : IntKind.i64.wrap ((i : Int) + 1) = (i : Int) + 1 := IntWalk.i64_in _ (by omega)
      have v2 : IntKind.i64.wrap ((i : Int) + 1 - 1) = (i : Int) := by rw [IntWalk.i64_in _ (by omega)]; omega
      clear h he hc hm hc1
      go_enter Tryz.func35, Tryz.ntmps35
      go_wp2_with fail
      go_quiet (fail)
      go_wp2_with fail
      have K1 := (H.out.drewN nq).set_ 1 (.int .i64 ((i : Int) + 1))
      have u0 := K1.cell 0
      have u1 := K1.cell 1
      clear K1 x0 x1 x2
      go_quiet (fail)
      go_wp2_with fail
      go_ret
      refine ⟨rfl, ?_, ?_⟩
      · exact H.out.set_ 1 (.int .i64 ((i + 1 : Nat) : Int))
      · have o := (Only.refl (fun x => x = g) w).set (g := g) (o := 1) (.inl rfl) (.int .i64 ((i : Int) + 1))
        exact ⟨o.os, o.tape, o.output, o.size, o.block⟩
    · rw [he]
      rcases hno with hc | ⟨c, hc, hc1⟩
      · have hge : s.size ≤ i := by rw [← length_lb]; exact List.getElem?_eq_none_iff.1 hc
        have e1 : decide ((s.size : Int) ≤ (i : Int)) = true := by simp; omega
        have e1' : decide (s.size ≤ i) = true := by simp; omega
        clear h he hc
        go_enter Tryz.func35, Tryz.ntmps35
        go_wp2_with fail
        go_quiet (fail)
        go_wp2_with fail
        go_ret
        have o := (Only.refl (fun x => x = g) w).set (g := g) (o := 2) (.inl rfl) (.bool true)
        exact ⟨rfl, H.out.set_ 2 (.bool true), ⟨o.os, o.tape, o.output, o.size, o.block⟩⟩
      · have hlt : i < s.size := by rw [← length_lb]; exact (List.getElem?_eq_some_iff.1 hc).1
        have hix := idx_text s i c hc
        obtain ⟨m, hm⟩ : ∃ m : Nat, m = c.toNat := ⟨_, rfl⟩
        rw [← hm] at hix
        have e1 : decide ((s.size : Int) ≤ (i : Int)) = false := by simp; omega
        have e1' : decide (s.size ≤ i) = false := by simp; omega
        have e2 : decide ((1 : Int) < (m : Int)) = true := by simp; omega
        clear h he hc hm hc1
        go_enter Tryz.func35, Tryz.ntmps35
        go_wp2_with fail
        go_quiet (fail)
        go_wp2_with fail
        go_ret
        have o := (Only.refl (fun x => x = g) w).set (g := g) (o := 2) (.inl rfl) (.bool true)
        exact ⟨rfl, H.out.set_ 2 (.bool true), ⟨o.os, o.tape, o.output, o.size, o.block⟩⟩
  · rw [rdFlag_bad]
    clear h
    go_enter Tryz.func35, Tryz.ntmps35
    go_wp2_with fail
    go_ret
    exact ⟨rfl, H.out, Only.refl _ _⟩

set_option maxRecDepth 100000 in
theorem rREnd_any (g : Nat) (s : ByteArray) (i : Nat) (bad : Bool) (w : World) (h : RdR w g s i bad) :
    Calls Tryz.prog 36 #[.pointer (some ⟨g, 0, none⟩)] w fun e w' => e = .returned (.int .i64 (endOf s.size i bad)) ∧ ∃ n, w' = w.drewN n := by
  have x0 := h.cell 0
  have x1 := h.cell 1
  have x2 := h.cell 2
  clear h
  cases bad
  · by_cases hi : i = s.size
    · have he : endOf s.size i false = 0 := by unfold endOf; rw [if_neg (by simp [hi])]
      rw [he]
      subst hi
      clear he
      have e1 : ((s.size : Int) != (s.size : Int)) = false := by simp
      go_enter Tryz.func36, Tryz.ntmps36
      go_wp2_with fail
      go_quiet (fail)
      go_wp2_with fail
      go_ret
      exact ⟨rfl, _, rfl⟩
    · have he : endOf s.size i false = 70 := by unfold endOf; rw [if_pos (.inr hi)]
      rw [he]
      have e1 : ((i : Int) != (s.size : Int)) = true := by rw [bne_iff_ne]; omega
      clear he hi
      go_enter Tryz.func36, Tryz.ntmps36
      go_wp2_with fail
      go_quiet (fail)
      go_wp2_with fail
      go_ret
      exact ⟨rfl, _, rfl⟩
  · have he : endOf s.size i true = 70 := by unfold endOf; rw [if_pos (.inl rfl)]
    rw [he]
    clear he
    go_enter Tryz.func36, Tryz.ntmps36
    go_wp2_with fail
    go_quiet (fail)
    go_wp2_with fail
    go_ret
    exact ⟨rfl, _, rfl⟩

theorem rRWrong_any (g : Nat) (s : ByteArray) (i : Nat) (bad : Bool) (w : World) (h : RdR w g s i bad) :
    Calls Tryz.prog 69 #[.pointer (some ⟨g, 0, none⟩)] w (RrPost g s (.tuple #[]) i true w) := by
  have x2 := h.cell 2
  have x3 := h.frozen 2
  have H := Lib.hid h
  clear h
  go_enter Tryz.func69, Tryz.ntmps69
  go_wp2_with fail
  go_end0
  exact ⟨rfl, H.out.set_ 2 _, (Only.refl (fun x => x = g) w).set (.inl rfl) _⟩

theorem rRNew_any (s : ByteArray) (w : World) :
    Calls Tryz.prog 31 #[.string s] w fun e w' => e = .returned (.pointer (some ⟨w.heap.size, 0, none⟩)) ∧ w.alloc (.cells #[.string s, .int .i64 0, .bool false] 65) = w' := by
  go_enter Tryz.func31, Tryz.ntmps31
  go_wp2_with fail
  go_ret
  exact ⟨rfl, rfl⟩
end Go.Proofs.YtcockikekgmfkaaGreatDoor
