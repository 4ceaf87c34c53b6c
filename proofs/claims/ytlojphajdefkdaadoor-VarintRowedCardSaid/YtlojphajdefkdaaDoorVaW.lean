/-
  The walks of VarintRows, VarintRowed.
-/
import Derived.Test.YtlojphajdefkdaaDoorVaU
namespace Go.Proofs.YtlojphajdefkdaaDoor
open Go.RowKit

theorem byte_wf {z : Int} (hw : (Lit.int .u8 z).wf = true) : 0 ≤ z ∧ z < 256 := by
  simp only [Lit.wf, Bool.and_eq_true, decide_eq_true_eq] at hw
  have h1 : (0 : Int) ≤ z := hw.1
  have h2 : z ≤ 255 := hw.2
  omega

theorem row_both (l : List Int) : ∃ (X : List UInt8) (E : Int), (AllOk l ∧ X = rowBytes l ∧ E = 0 ∨ ¬ AllOk l ∧ X = [] ∧ E = 2) ∧ ∀ (w : World) (e : Ending) (w' : World), RowPost l w e w' → BytesPost X E w e w' := by
  by_cases h : AllOk l
  · refine ⟨rowBytes l, 0, .inl ⟨h, rfl, rfl⟩, fun w e w' hp => ?_⟩
    rcases hp with ⟨_, hp⟩ | ⟨hn, _⟩
    · exact hp
    · exact absurd h hn
  · refine ⟨[], 2, .inr ⟨h, rfl, rfl⟩, fun w e w' hp => ?_⟩
    rcases hp with ⟨hn, _⟩ | ⟨_, hp⟩
    · exact absurd hn h
    · exact hp

theorem rowBytes_le (l : List Int) (h : AllOk l) (hl : l.length ≤ 300) : (rowBytes l).length ≤ 1806 := by
  have h1 := encLen_le l.length (show l.length ≤ 1099511627776 by omega)
  have h2 := encs_le _ h
  rw [len_row]; omega
theorem rowZs_le (b : List UInt8) : (rowZs b).length ≤ b.length := by
  unfold rowZs
  cases h : readOf b with
  | none => simp
  | some x =>
    obtain ⟨e, _, _⟩ := readOf_only b x h
    have h1 := congrArg List.length e
    have h2 := len_row x
    have h3 := encs_len x
    simp
    omega

set_option maxRecDepth 100000 in
set_option maxHeartbeats 1000000 in
theorem rows_walk (A A2 : Option Addr) (l : List Int) (b : List UInt8) (c c2 : Nat) (w : World) (hr : Reads w w.heap.size 1 A l.length (cellsI .i64 l)) (hr2 : Reads w w.heap.size 1 A2 b.length (cellsB b)) (hl : l.length ≤ 140737488351232) (hl2 : b.length ≤ 140737488351232) (hg : HasErr w) :
    Calls Tryd.prog 7 #[.slice A l.length c, .slice A2 b.length c2] w fun e w' => e = .returned (.bool true) ∧ Below w.heap.size w w' := by
  by_cases h1 : 300 < l.length
  · have hd : decide ((300 : Int) < (l.length : Int)) = true := by simp; omega
    have HWK := Lib.hid (wakes_any w hg)
    clear hg hr hr2
    go_enter Tryd.func7, Tryd.ntmps7
    go_wp2_with (go_at_call 9; refine HWK.out.mono ?_; rintro e w' ⟨rfl, hb⟩)
    go_ret
    exact ⟨rfl, hb⟩
  · have hd : decide ((300 : Int) < (l.length : Int)) = false := by simp; omega
    by_cases h2 : 2000 < b.length
    · have hd2 : decide ((2000 : Int) < (b.length : Int)) = true := by simp; omega
      have HWK := Lib.hid (wakes_any w hg)
      clear hg hr hr2
      go_enter Tryd.func7, Tryd.ntmps7
      go_wp2_with (go_at_call 9; refine HWK.out.mono ?_; rintro e w' ⟨rfl, hb⟩)
      go_ret
      exact ⟨rfl, hb⟩
    · have hd2 : decide ((2000 : Int) < (b.length : Int)) = false := by simp; omega
      obtain ⟨X, E, _, hboth⟩ := row_both l
      have hzl := rowZs_le b
      have HC1 := Lib.hid ((Row_any A l c w hr (by omega) hg).mono (hboth w))
      have HB := Lib.hid hboth
      have HR := Lib.hid hr
      have HR2 := Lib.hid hr2
      have HG := Lib.hid hg
      have HWK := Lib.hid (fun W (h : HasErr W) => wakes_any W h)
      clear hboth hr hr2 hg
      go_enter Tryd.func7, Tryd.ntmps7
      go_wp2_with fail
      refine HC1.out.mono ?_
      rintro e w1 ⟨A3, c3, rfl, r3, _, b3⟩
      have HC2 := Lib.hid ((rRow_any A l c w1 ((HR.out.below b3).more b3.size) (by omega)).mono (HB.out w1))
      have R3 := Lib.hid r3
      clear r3
      go_wp2_with fail
      refine HC2.out.mono ?_
      rintro e w2 ⟨A4, c4, rfl, r4, _, b4⟩
      have b34 := b3.trans (b4.mono b3.size)
      have HC3 := Lib.hid (ReadRow_any A2 b c2 w2 (by omega) (HG.out.below b34 HG.out.lt) ((HR2.out.below b34).more b34.size))
      have R4 := Lib.hid r4
      clear r4
      go_wp2_with fail
      refine HC3.out.mono ?_
      rintro e w3 ⟨A5, c5, rfl, r5, _, b5⟩
      have b35 := b34.trans (b5.mono b34.size)
      have HC4 := Lib.hid (rReadRow_any A2 b c2 w3 (by omega) ((HR2.out.below b35).more b35.size))
      have R5 := Lib.hid r5
      clear r5
      go_wp2_with fail
      refine HC4.out.mono ?_
      rintro e w4 ⟨A6, c6, rfl, r6, _, b6⟩
      have b36 := b35.trans (b6.mono b35.size)
      have b46 := b4.trans ((b5.trans (b6.mono b5.size)).mono b4.size)
      have hcv1 := run_string_of (c := c3) Tryd.underlying22 Tryd.underlying5 Tryd.underlying9 (R3.out.below b46)
      have hcv2 := run_string_of (c := c4) Tryd.underlying22 Tryd.underlying5 Tryd.underlying9 (R4.out.below (b5.trans (b6.mono b5.size)))
      have hint := Ints_any A5 A6 (rowZs b) (rowZs b) c5 c6 _ _ w4 (R5.out.below b6) r6 (by omega)
      rw [decide_eq_true rfl] at hint
      have HINT := Lib.hid hint
      have HG4 := Lib.hid (HG.out.below b36 HG.out.lt)
      clear hint r6 R3 R4 R5 HC1 HC2 HC3 HC4
      generalize rowZs b = zs at *
      generalize rowE b = re at *
      go_wp2_with fail
      refine HINT.out.mono ?_
      rintro e w5 ⟨rfl, q, rfl⟩
      go_wp2_with fail
      refine (HWK.out (w4.drewN q) HG4.out).mono ?_
      rintro e w6 ⟨rfl, b7⟩
      go_wp2_with fail
      go_ret
      exact ⟨rfl, (below_drewN b36 q).trans (b7.mono b36.size)⟩

set_option maxRecDepth 100000 in
set_option maxHeartbeats 1000000 in
theorem rowed_ok (A : Option Addr) (l : List Int) (c : Nat) (y : Int) (w : World) (hr : Reads w w.heap.size 1 A l.length (cellsI .i64 l)) (hl : l.length ≤ 300) (hg : HasErr w) (hok : AllOk l) (hy : 0 ≤ y) (hy2 : y < 256) :
    Calls Tryd.prog 8 #[.slice A l.length c, .int .u8 y] w fun e w' => e = .returned (.bool true) ∧ Below w.heap.size w w' := by
  obtain ⟨i0, hi, hz0, hz1, hz2⟩ := info_parts infoByte
  have hd : decide ((300 : Int) < (l.length : Int)) = false := by simp; omega
  have hlm : l.length ≤ maxNum := show l.length ≤ 1099511627776 by omega
  have q1 := readOf_row l hok hlm
  have q2 := readOf_less l hok hlm
  have q3 := readOf_more l (UInt8.ofNat y.toNat) hok hlm
  have hbl := rowBytes_le l hok hl
  have hpos : 1 ≤ (rowBytes l).length := by have := len_row l; have := encLen_pos l.length; omega
  obtain ⟨X, hX⟩ : ∃ X, rowBytes l = X := ⟨_, rfl⟩
  rw [hX] at q1 q2 q3 hbl hpos
  have hcy : [Value.int .u8 y] = cellsB [UInt8.ofNat y.toNat] := by
    simp only [cellsB, List.map_cons, List.map_nil, List.cons.injEq, and_true, Value.int.injEq, true_and]
    simp; omega
  have hrow : ∀ (w' : World) (e : Ending), RowPost l w e w' → BytesPost X 0 w e w' := fun w' e hp => by
    rcases hp with ⟨_, hp⟩ | ⟨hn, _⟩
    · rw [← hX]; exact hp
    · exact absurd hok hn
  have HC1 := Lib.hid ((Row_any A l c w hr hl hg).mono fun e w' => hrow w' e)
  have Q1 := Lib.hid q1
  have Q2 := Lib.hid q2
  have Q3 := Lib.hid q3
  have HCY := Lib.hid hcy
  have HR := Lib.hid hr
  have HG := Lib.hid hg
  have HWK := Lib.hid (fun W (h : HasErr W) => wakes_any W h)
  have d1 : ((X.length : Int) == 0) = false := beq_eq_false_iff_ne.2 (by omega)
  clear q1 q2 q3 hX hr hg hok hrow hcy
  go_enter Tryd.func8, Tryd.ntmps8
  go_wp2_with fail
  refine HC1.out.mono ?_
  rintro e w1 ⟨A3, c3, rfl, r3, hc3, b3⟩
  have hc := ReadRow_any A3 X c3 w1 (by omega) (HG.out.below b3 HG.out.lt) r3
  unfold ReadPost rowZs rowE at hc
  rw [Q1.out] at hc
  have HC2 := Lib.hid hc
  have R3 := Lib.hid r3
  clear r3 hc
  go_wp2_with fail
  refine HC2.out.mono ?_
  rintro e w2 ⟨A4, c4, he, r4, _, b4⟩
  obtain rfl : e = .returned (.tuple #[.slice A4 l.length c4, .int .i64 0]) := he
  have b34 := b3.trans (b4.mono b3.size)
  have hint := Ints_any A4 A l l c4 c _ _ w2 r4 (HR.out.below b34) (by omega)
  rw [decide_eq_true rfl] at hint
  have HINT := Lib.hid hint
  clear hint r4
  go_wp2_with fail
  refine HINT.out.mono ?_
  rintro e w5 ⟨rfl, q, rfl⟩
  obtain ⟨W, hW⟩ : ∃ W, W = w2.drewN q := ⟨_, rfl⟩
  have b4' : Below w1.heap.size w1 W := by rw [hW]; exact below_drewN b4 q
  rw [← hW]
  clear hW b4 b34
  have r3' := R3.out.below b4'
  obtain ⟨hcu, hru⟩ := cut_upto (c := c3) (P := Tryd.prog) (t := 22) Tryd.underlying22 (fun _ => by kernel_rfl) r3' (X.length - 1) (by omega) hc3
  have hcu' := fun W => hcu ((X.length : Int) - 1) W (by omega)
  rw [cellsB_take] at hru
  have hlt : (X.take (X.length - 1)).length = X.length - 1 := by rw [List.length_take]; omega
  have b34 := b3.trans (b4'.mono b3.size)
  have hrd2 := ReadRow_any A3 (X.take (X.length - 1)) c3 W (by omega) (HG.out.below b34 HG.out.lt) ((by rw [hlt]; exact hru : Reads W w1.heap.size 1 A3 _ _).more b4'.size)
  unfold ReadPost rowZs rowE at hrd2
  rw [Q2.out, hlt] at hrd2
  have HC3 := Lib.hid hrd2
  clear hcu hru hlt hrd2 r3'
  go_wp2_with fail
  refine HC3.out.mono ?_
  rintro e w6 ⟨A6, c6, he, _, _, b6⟩
  obtain rfl : e = .returned (.tuple #[.slice A6 0 c6, .int .i64 70]) := he
  have b16 : Below w1.heap.size w1 w6 := b4'.trans (b6.mono b4'.size)
  have R6 := Lib.hid ((R3.out.below b16).more b16.size)
  clear hcu'
  go_wp2_with (first | (at_builtin; refine wpList_append_any _ rfl (.tmp 58) (.tmp 59) 22 rfl w6.heap.size 5 i0 (.int .u8 0) 1 1 Tryd.underlying22 hi hz0 hz1 hz2 rfl (by decide) (.slice (some ⟨w6.heap.size, 0, none⟩) 0 0) 0 [] rfl (own_empty _ _) w6.heap.size A3 X.length c3 (cellsB X) rfl (R6.out.alloc (Nat.le_refl _) _) (cellsB_one _) (by unfold maxLen; omega) (by omega) (by simp) ?_; intro v7 w7 hown7 hg7 hat7) | (at_builtin; refine wpList_append_any _ rfl (.tmp 60) (.tmp 62) 22 rfl w6.heap.size 5 i0 (.int .u8 0) 1 1 Tryd.underlying22 hi hz0 hz1 hz2 rfl (by decide) v7 _ _ rfl (hown7.alloc _) _ _ 1 1 [.int .u8 y] rfl (reads_new1 _ _ _) (by simp [Value.oneCell']) (by unfold maxLen; omega) (by omega) (by have := hg7.size; simp at this; simp; omega) ?_; intro v8 w8 hown8 hg8 hat8))
  have b7 : Below w6.heap.size w6 w7 := ((Below.refl _ w6).alloc (Nat.le_refl _) _).grown hg7 (by simp) (fun k e => by simp [Value.ownBlock] at e; omega)
  have b8 : Below w6.heap.size w6 w8 := (b7.alloc b7.size _).grown hg8 (by have := b7.size; simp; omega) (fun g hg => (hown7.lt g hg).1)
  have hown9 : w8.ownsRow w6.heap.size 5 1 v8 (X ++ [UInt8.ofNat y.toNat]).length (cellsB (X ++ [UInt8.ofNat y.toNat])) := by
    rw [cellsB_append, List.length_append, ← HCY.out]
    rw [Nat.zero_add, List.nil_append] at hown8
    exact hown8
  obtain ⟨A9, c9, rfl, _⟩ := own_slice hown9
  have b18 : Below w.heap.size w w8 := b3.trans ((b16.trans (b8.mono b16.size)).mono b3.size)
  have hc := ReadRow_any A9 (X ++ [UInt8.ofNat y.toNat]) c9 w8 (by simp; omega) (HG.out.below b18 HG.out.lt) (Reads.of_own hown9)
  unfold ReadPost rowZs rowE at hc
  rw [Q3.out] at hc
  have HC9 := Lib.hid hc
  clear hc hown7 hown8 hown9 hg7 hg8 hat7 hat8
  refine HC9.out.mono ?_
  rintro e w10 ⟨A10, c10, he, _, _, b10⟩
  obtain rfl : e = .returned (.tuple #[.slice A10 0 c10, .int .i64 70]) := he
  have b110 := b18.trans (b10.mono b18.size)
  have HG10 := Lib.hid (HG.out.below b110 HG.out.lt)
  go_wp2_with fail
  refine (HWK.out _ HG10.out).mono ?_
  rintro e w11 ⟨rfl, b11⟩
  go_wp2_with fail
  go_ret
  exact ⟨rfl, b110.trans (b11.mono b110.size)⟩

set_option maxRecDepth 100000 in
set_option maxHeartbeats 1000000 in
theorem rowed_walk (A : Option Addr) (l : List Int) (c : Nat) (y : Int) (w : World) (hr : Reads w w.heap.size 1 A l.length (cellsI .i64 l)) (hl : l.length ≤ 140737488351232) (hg : HasErr w) (hy : 0 ≤ y) (hy2 : y < 256) :
    Calls Tryd.prog 8 #[.slice A l.length c, .int .u8 y] w fun e w' => e = .returned (.bool true) ∧ Below w.heap.size w w' := by
  by_cases h1 : 300 < l.length
  · have hd : decide ((300 : Int) < (l.length : Int)) = true := by simp; omega
    have HWK := Lib.hid (wakes_any w hg)
    clear hg hr
    go_enter Tryd.func8, Tryd.ntmps8
    go_wp2_with (go_at_call 9; refine HWK.out.mono ?_; rintro e w' ⟨rfl, hb⟩)
    go_ret
    exact ⟨rfl, hb⟩
  · by_cases hok : AllOk l
    · exact rowed_ok A l c y w hr (by omega) hg hok hy hy2
    · have hd : decide ((300 : Int) < (l.length : Int)) = false := by simp; omega
      have hrow : ∀ (w' : World) (e : Ending), RowPost l w e w' → BytesPost [] 2 w e w' := fun w' e hp => by
        rcases hp with ⟨hn, _⟩ | ⟨_, hp⟩
        · exact absurd hn hok
        · exact hp
      have HC1 := Lib.hid ((Row_any A l c w hr (by omega) hg).mono fun e w' => hrow w' e)
      have HG := Lib.hid hg
      have HWK := Lib.hid (fun W (h : HasErr W) => wakes_any W h)
      clear hr hg hrow hok
      go_enter Tryd.func8, Tryd.ntmps8
      go_wp2_with fail
      refine HC1.out.mono ?_
      rintro e w1 ⟨A3, c3, rfl, _, _, b3⟩
      go_wp2_with fail
      refine (HWK.out _ (HG.out.below b3 HG.out.lt)).mono ?_
      rintro e w11 ⟨rfl, b11⟩
      go_wp2_with fail
      go_ret
      exact ⟨rfl, b3.trans (b11.mono b3.size)⟩
end Go.Proofs.YtlojphajdefkdaaDoor
