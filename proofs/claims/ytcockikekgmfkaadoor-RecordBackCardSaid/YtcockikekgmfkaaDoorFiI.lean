/-
  Layer 2, the document's reader: Number.
-/
import Derived.Test.YtcockikekgmfkaaDoorFiH
import Derived.Deep.RegionHeld
namespace Go.Proofs.YtcockikekgmfkaaDoor
open Go.RowKit

/-- The document's reader in memory. -/
abbrev RdR (w : World) (g : Nat) (s : ByteArray) (i : Nat) (bad : Bool) : Prop := Blk w g 36 #[.string s, .int .i64 (i : Int), .bool bad]
def RrPost (g : Nat) (s : ByteArray) (v : Value) (i : Nat) (bad : Bool) (w : World) (e : Ending) (w' : World) : Prop :=
  e = .returned v ∧ RdR w' g s i bad ∧ Only (fun x => x = g) w w'

/-- The document's Get of a text's bytes. -/
def rGetPost (z : Int × Int × Int) (w : World) (e : Ending) (w' : World) : Prop := e = .returned (.tuple #[.int .i64 z.1, .int .i64 z.2.1, .int .i64 z.2.2]) ∧ w = w'
theorem rGet_text (s : ByteArray) (b c : Nat) (k : Nat) (w : World) (hs : s.size ≤ 100000) (hcell : ∀ j, j < s.size → w.cell? ⟨b, j, none⟩ = some (.int .u8 (((lb s).getD j 0).toNat : Int))) :
    Calls Tryd.prog 62 #[.slice (some ⟨b, 0, none⟩) s.size c, .int .i64 (k : Int)] w (rGetPost (getOf (lb s) k) w) := by
  have hr : Reads w (b + 1) 1 (some ⟨b, 0, none⟩) (lb s).length (cellsB (lb s)) := by
    refine ⟨by rw [length_cellsB]; omega, fun _ => ⟨_, rfl, Nat.lt_succ_self _, fun j u hu => ?_⟩⟩
    rw [getElem?_cellsB, Option.map_eq_some_iff] at hu
    obtain ⟨c, hc, rfl⟩ := hu
    have hj := (List.getElem?_eq_some_iff.1 hc).1
    rw [add_none, Nat.zero_add]
    have := hcell j (by rw [← length_lb]; exact hj)
    rw [List.getD_eq_getElem?_getD, hc] at this
    exact this
  have := rGet_any (some ⟨b, 0, none⟩) (lb s) c (b + 1) k w (by rw [length_lb]; exact hs) hr
  rw [length_lb] at this
  exact this

theorem getOf_nat (l : List UInt8) (i : Nat) (hi : i ≤ l.length) :
    getOf l i = match dec (l.drop i) with | none => (0, 0, 70) | some (n, m) => ((n : Int), (i : Int) + m, 0) := by
  unfold getOf
  rw [if_neg (by omega), Int.toNat_natCast]
  rfl

set_option maxRecDepth 100000 in
set_option maxHeartbeats 1000000 in
theorem rRNum_any (g : Nat) (s : ByteArray) (i : Nat) (bad : Bool) (lo hi : Int) (w : World) (h : RdR w g s i bad) (hs : s.size ≤ 100000) (hat : i ≤ s.size) :
    Calls Tryd.prog 17 #[.pointer (some ⟨g, 0, none⟩), .int .i64 lo, .int .i64 hi] w (RrPost g s (.int .i64 (rdNum (lb s) i bad lo hi).1) (rdNum (lb s) i bad lo hi).2.1 (rdNum (lb s) i bad lo hi).2.2 w) := by
  have x0 := h.cell 0
  have x1 := h.cell 1
  have x2 := h.cell 2
  have H := Lib.hid h
  cases bad
  · obtain ⟨cap, W', hrun, hcap, hcell, hsize, hgrow⟩ := bytes_of_ex (P := Tryd.prog) Tryd.underlying9 Tryd.underlying50 Tryd.underlying5 w.drew s
    have bW : Below w.heap.size w W' := (Below.refl _ w).drew.grown hgrow (Nat.le_refl _) (fun k hk => by cases hk)
    have kW := h.below bW h.lt
    have y0 := kW.cell 0
    have y1 := kW.cell 1
    have y2 := kW.cell 2
    have y3 := kW.frozen 1
    have y4 := kW.frozen 2
    have HG := Lib.hid (rGet_text s w.heap.size cap i W' hs hcell)
    rw [getOf_nat (lb s) i (by rw [length_lb]; exact hat)] at HG
    have KW := Lib.hid kW
    have OW := Lib.hid (Only.of_below (fun x => x = g) bW)
    rcases rdNum_cases (lb s) i lo hi with ⟨n, k, hd, hr, he⟩ | ⟨hno, he⟩
    · rw [he]
      rw [hd] at HG
      have d1 : decide ((n : Int) < lo) = false := decide_eq_false (by omega)
      have d2 : decide (hi < (n : Int)) = false := decide_eq_false (by omega)
      clear h hcap hcell hsize hgrow bW kW he hd hr
      go_enter Tryd.func17, Tryd.ntmps17
      go_wp2_with fail
      go_region_held (fun w' => w'.cell? ⟨g, 0, none⟩ = some (.string s) ∧ w'.cell? ⟨g, 1, none⟩ = some (.int .i64 (i : Int))) (first | go_keep) ((first | ((with_reducible refine HG.out.mono ?_); rintro e w2 ⟨rfl, rfl⟩)))
      clear hrun
      go_wp2_with fail
      go_ret
      exact ⟨rfl, KW.out.set_ 1 (.int .i64 ((i + k : Nat) : Int)), OW.out.set (.inl rfl) _⟩
    · rw [he]
      rcases hno with hd | ⟨n, k, hd, hr⟩
      · rw [hd] at HG
        clear h hcap hcell hsize hgrow bW kW he hd
        go_enter Tryd.func17, Tryd.ntmps17
        go_wp2_with fail
        go_region_held (fun w' => w'.cell? ⟨g, 0, none⟩ = some (.string s) ∧ w'.cell? ⟨g, 1, none⟩ = some (.int .i64 (i : Int))) (first | go_keep) ((first | ((with_reducible refine HG.out.mono ?_); rintro e w2 ⟨rfl, rfl⟩)))
        clear hrun
        go_wp2_with fail
        go_ret
        exact ⟨rfl, KW.out.set_ 2 (.bool true), OW.out.set (.inl rfl) _⟩
      · rw [hd] at HG
        have HR := Lib.hid hr
        clear h hcap hcell hsize hgrow bW kW he hd hr
        by_cases h1 : (n : Int) < lo
        · have d1 : decide ((n : Int) < lo) = true := decide_eq_true h1
          go_enter Tryd.func17, Tryd.ntmps17
          go_wp2_with fail
          go_region_held (fun w' => w'.cell? ⟨g, 0, none⟩ = some (.string s) ∧ w'.cell? ⟨g, 1, none⟩ = some (.int .i64 (i : Int))) (first | go_keep) ((first | ((with_reducible refine HG.out.mono ?_); rintro e w2 ⟨rfl, rfl⟩)))
          clear hrun
          go_wp2_with fail
          go_ret
          exact ⟨rfl, KW.out.set_ 2 (.bool true), OW.out.set (.inl rfl) _⟩
        · have d1 : decide ((n : Int) < lo) = false := decide_eq_false h1
          have d2 : decide (hi < (n : Int)) = true := decide_eq_true (by have := HR.out; omega)
          go_enter Tryd.func17, Tryd.ntmps17
          go_wp2_with fail
          go_region_held (fun w' => w'.cell? ⟨g, 0, none⟩ = some (.string s) ∧ w'.cell? ⟨g, 1, none⟩ = some (.int .i64 (i : Int))) (first | go_keep) ((first | ((with_reducible refine HG.out.mono ?_); rintro e w2 ⟨rfl, rfl⟩)))
          clear hrun
          go_wp2_with fail
          go_ret
          exact ⟨rfl, KW.out.set_ 2 (.bool true), OW.out.set (.inl rfl) _⟩
  · rw [rdNum_bad]
    clear h
    go_enter Tryd.func17, Tryd.ntmps17
    go_wp2_with fail
    go_ret
    exact ⟨rfl, H.out, Only.refl _ _⟩
end Go.Proofs.YtcockikekgmfkaaDoor
