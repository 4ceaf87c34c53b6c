/-
  Layer 9: the reply's writer.
  Layer 2, writing: numbers, texts, flags behind bytes; of the program and of the document.
  Layer 2, writing: flags; how long a text is.
-/
import Derived.Test.YtckdecodpjfcnaaDoorGrp08
import Derived.Test.YtckdecodpjfcnaaDoorGrp02
import Derived.Lib.AppendStr
import Derived.Lib.AppendZeros
import Derived.LoopN
import Derived.Outline
import Derived.Test.YtckdecodpjfcnaaDoorGrp16
import Derived.Deep.RegionLaw
import Derived.Deep.LoopGhost
import Derived.Deep.DeepCutAuto
import Derived.Deep.CutBlock
set_option linter.unusedVariables false
set_option linter.unusedSimpArgs false
namespace Go.Proofs.YtckdecodpjfcnaaDoor
open Go.RowKit

/-- A slice of bytes of the call's own. -/
def OwnVal (l : List UInt8) (w : World) (e : Ending) (w' : World) : Prop :=
  ∃ A c, e = .returned (.slice A l.length c) ∧ w'.ownsRow w.heap.size 5 1 (.slice A l.length c) l.length (cellsB l) ∧ l.length ≤ c ∧ Below w.heap.size w w'

theorem strCells_lb (s : ByteArray) : Lib.strCells s = cellsB (lb s) := rfl

theorem Number_no (A : Option Addr) (k c : Nat) (n : Int) (w : World) (h : n < 0 ∨ 1099511627776 < n) :
    Calls Tryd.prog 26 #[.slice A k c, .int .i64 n] w (BytesPost [] 2 w) := by
  have HP := Lib.hid (Put_no A k c n w h)
  clear h
  go_enter Tryd.func26, Tryd.ntmps26
  go_wp2_with (go_at_call 46; refine HP.out.mono ?_; rintro e w1 ⟨A1, c1, rfl, hr1, hc1, hb1⟩)
  go_ret2
  exact ⟨A1, c1, rfl, hr1, hc1, hb1⟩
theorem Number_ok (A : Option Addr) (l : List UInt8) (c : Nat) (n : Nat) (w : World) (hr : Reads w w.heap.size 1 A l.length (cellsB l)) (hl : l.length ≤ 90000) (hn : n ≤ maxNum) :
    Calls Tryd.prog 26 #[.slice A l.length c, .int .i64 n] w (BytesPost (l ++ enc n) 0 w) := by
  have HP := Lib.hid (Put_ok A l c n w hr hl hn)
  clear hr
  generalize l ++ enc n = L at *
  go_enter Tryd.func26, Tryd.ntmps26
  go_wp2_with (go_at_call 46; refine HP.out.mono ?_; rintro e w1 ⟨A1, c1, rfl, hr1, hc1, hb1⟩)
  go_ret2
  exact ⟨A1, c1, rfl, hr1, hc1, hb1⟩
theorem Text_no (A : Option Addr) (k c : Nat) (t : ByteArray) (w : World) (h : 1024 < t.size) :
    Calls Tryd.prog 61 #[.slice A k c, .string t] w (BytesPost [] 2 w) := by
  have hd : decide ((1024 : Int) < (t.size : Int)) = true := by simp; omega
  go_enter Tryd.func61, Tryd.ntmps61
  go_wp2_with fail
  go_ret2
  exact ⟨none, 0, rfl, Reads.none_, Nat.le_refl _, Below.refl _ _⟩
set_option maxHeartbeats 400000 in
theorem Text_ok (A : Option Addr) (l : List UInt8) (c : Nat) (t : ByteArray) (w : World) (hr : Reads w w.heap.size 1 A l.length (cellsB l)) (hl : l.length ≤ 80000) (ht : t.size ≤ 1024) :
    Calls Tryd.prog 61 #[.slice A l.length c, .string t] w (OwnPost (l ++ (cTxt 1024).e (lb t)) 0 w) := by
  obtain ⟨i0, hi, hz0, hz1, hz2⟩ := info_parts infoByte
  have HP := Lib.hid (Put_own A l c t.size w hr (by omega) (by unfold maxNum; omega))
  have hle := encLen_le t.size (by unfold maxNum; omega)
  have hll : (l ++ enc t.size).length = l.length + encLen t.size := by rw [List.length_append]; rfl
  have hlb : (l ++ enc t.size).length ≤ 80006 := by omega
  have hd : decide ((1024 : Int) < (t.size : Int)) = false := by simp; omega
  have hfin : l ++ enc t.size ++ lb t = l ++ (cTxt 1024).e (lb t) := by
    rw [List.append_assoc]; show l ++ (enc t.size ++ lb t) = l ++ (enc (lb t).length ++ lb t); rw [length_lb]
  have HF := Lib.hid hfin
  clear hr hll hfin
  generalize l ++ enc t.size = L at *
  generalize l ++ (cTxt 1024).e (lb t) = M at *
  go_enter Tryd.func61, Tryd.ntmps61
  go_wp2_with (first | (go_at_call 46; refine HP.out.mono ?_; rintro e w1 ⟨A1, c1, rfl, ho1, hc1, hb1⟩) | (at_builtin; refine Lib.wpList_append_own_string _ rfl (.tmp 21) (.tmp 22) 27 9 rfl w.heap.size 5 i0 Tryd.underlying27 Tryd.underlying9 hi hz0 hz1 hz2 _ _ _ rfl ho1 t rfl (by unfold maxLen; omega) (by omega) hb1.size ?_; intro v2 w2 ho2 hg2 hat2))
  have hb2 : Below w.heap.size w w2 := hb1.grown hg2 hb1.size (fun g hg => (ho1.lt g hg).1)
  rw [strCells_lb, ← cellsB_append, ← length_lb t, ← List.length_append, HF.out] at ho2
  obtain ⟨A3, c3, rfl, hc3⟩ := own_slice ho2
  go_ret2
  exact ⟨A3, c3, rfl, ho2, hc3, hb2⟩

end Go.Proofs.YtckdecodpjfcnaaDoor
namespace Go.Proofs.YtckdecodpjfcnaaDoor
open Go.RowKit

/-- How long a text is as a field. -/
def sizeT (n : Nat) : Int := if 1024 < n then 0 else (encLen n : Int) + n
end Go.Proofs.YtckdecodpjfcnaaDoor
namespace Go.Proofs.YtckdecodpjfcnaaDoor
open Go.RowKit
attribute [local go_sem ↓] Go.wp_at_zero Go.wp_at_succ

/-- The writer: what is written; no error; blocks that stay as they are. -/
def WpSt (g K : Nat) (F : Nat → Prop) (l : List UInt8) (W : World) : Prop :=
  ∃ A c, Blk W g 43 #[.slice A l.length c, .nilIface] ∧ W.ownsRow K 5 1 (.slice A l.length c) l.length (cellsB l) ∧ K ≤ W.heap.size ∧ g < K ∧ (∀ x, (Value.slice A l.length c).ownBlock = some x → ¬ F x) ∧ ¬ F g ∧ (∀ x, F x → x < W.heap.size)
section
variable {g K : Nat} {F F' : Nat → Prop} {l : List UInt8} {w w' : World}
theorem WpSt.below (h : WpSt g K F l w) (hb : Below w.heap.size w w') : WpSt g K F l w' := by
  obtain ⟨A, c, h1, h2, h3, h4, h5, h6, h7⟩ := h
  exact ⟨A, c, h1.below hb h1.lt, own_below h2 hb, Nat.le_trans h3 hb.size, h4, h5, h6, fun x hx => Nat.lt_of_lt_of_le (h7 x hx) hb.size⟩
theorem WpSt.lt (h : WpSt g K F l w) : g < w.heap.size := by
  obtain ⟨A, c, h1, _⟩ := h
  exact h1.lt
/-- A new block stays too. -/
theorem WpSt.add (h : WpSt g K F l w) (o : Obj) : WpSt g K (fun x => F x ∨ x = w.heap.size) l (w.alloc o) := by
  obtain ⟨A, c, h1, h2, h3, h4, h5, h6, h7⟩ := h
  refine ⟨A, c, h1.alloc o, h2.alloc o, by simp; omega, h4, ?_, ?_, ?_⟩
  · rintro x hx (hf | rfl)
    · exact h5 x hx hf
    · exact absurd (h2.lt _ hx).2 (Nat.lt_irrefl _)
  · rintro (hf | rfl)
    · exact h6 hf
    · exact absurd h1.lt (Nat.lt_irrefl _)
  · rintro x (hf | rfl)
    · have := h7 x hf; simp; omega
    · simp
theorem WpSt.sub (h : WpSt g K F l w) (hF : ∀ x, F' x → F x) : WpSt g K F' l w := by
  obtain ⟨A, c, h1, h2, h3, h4, h5, h6, h7⟩ := h
  exact ⟨A, c, h1, h2, h3, h4, fun x hx hf => h5 x hx (hF x hf), fun hf => h6 (hF g hf), fun x hf => h7 x (hF x hf)⟩
end
def WpOk (g K : Nat) (F : Nat → Prop) (l : List UInt8) (w : World) (e : Ending) (w' : World) : Prop := e = .returned (.tuple #[]) ∧ WpSt g K F l w' ∧ Only (fun x => ¬ F x) w w'

theorem Number_none (n : Nat) (w : World) (hn : n ≤ maxNum) :
    Calls Tryd.prog 26 #[.slice none 0 0, .int .i64 n] w (OwnPost (enc n) 0 w) := by
  have HP := Lib.hid (Put_own none [] 0 n w Reads.none_ (by decide) hn)
  generalize enc n = L at *
  rw [List.nil_append] at HP
  go_enter Tryd.func26, Tryd.ntmps26
  go_wp2_with (go_at_call 46; refine HP.out.mono ?_; rintro e w1 ⟨A1, c1, rfl, hr1, hc1, hb1⟩)
  go_ret2
  exact ⟨A1, c1, rfl, hr1, hc1, hb1⟩
theorem Text_none (t : ByteArray) (w : World) (ht : t.size ≤ 1024) :
    Calls Tryd.prog 61 #[.slice none 0 0, .string t] w (OwnPost ((cTxt 1024).e (lb t)) 0 w) := by
  have := Text_ok none [] 0 t w Reads.none_ (by decide) ht
  rw [List.nil_append] at this
  exact this
theorem enc_len3x (n : Nat) (h : n < 2097152) : (enc n).length ≤ 3 := by
  have h1 : enc n = encF 2 n := encF_more 2 8 n (by have : (128 : Nat) ^ (2 + 1) = 2097152 := by decide
                                                    rw [this]; omega) (by omega)
  rw [h1]; exact (encF_len 2 n).2
set_option maxRecDepth 100000 in
set_option maxHeartbeats 2000000 in
theorem wnum_any (g K : Nat) (F : Nat → Prop) (l : List UInt8) (n : Int) (nm : ByteArray) (w : World) (h : WpSt g K F l w) (hl : l.length ≤ 20000) (hn : 0 ≤ n ∧ n ≤ 1048577) :
    Calls Tryd.prog 13 #[.pointer (some ⟨g, 0, none⟩), .string nm, .int .i64 n] w (WpOk g K F (l ++ enc n.toNat) w) := by
  obtain ⟨A, c, h1, h2, h3, h4, h5, h6, h7⟩ := h
  have H5 := Lib.hid h5
  have H6 := Lib.hid h6
  have H7 := Lib.hid h7
  clear h5 h6 h7
  obtain ⟨m, rfl⟩ := Int.eq_ofNat_of_zero_le hn.1
  have N1 := Lib.hid (Number_none m w (by unfold maxNum; omega))
  have hle : (enc m).length ≤ 10 := Nat.le_trans (enc_len3x m (by omega)) (by omega)
  rw [Int.toNat_natCast]
  generalize enc m = L at *
  have x0 := h1.cell 0
  have x1 := h1.cell 1
  have H1 := Lib.hid h1
  have H2 := Lib.hid h2
  obtain ⟨i0, hi, hi0, hi1, hi2⟩ := info_parts infoByte
  clear h1 h2
  go_enter Tryd.func13, Tryd.ntmps13
  go_wp2_with (first
    | (go_at_call 26; refine N1.out.mono ?_; rintro e w1 ⟨A1, c1, rfl, o1, hc1, b1⟩; have k1 := H1.out.below b1 H1.out.lt; have y0 := k1.cell 0; have y1 := k1.cell 1; have R1 := Lib.hid (Reads.of_own o1); have O0 := Lib.hid (own_below H2.out b1); have hs1 := b1.size; have hg1 := k1.lt; have KH := Lib.hid k1; have B1 := Lib.hid b1; clear x0 x1 b1 k1)
    | (at_builtin; refine wpList_append_any _ rfl (.tmp 32) (.tmp 33) 27 rfl K 5 i0 (.int .u8 0) 1 1 Tryd.underlying27 hi hi0 hi1 hi2 rfl (by decide) (.slice A l.length c) l.length (cellsB l) rfl O0.out w1.heap.size A1 L.length c1 (cellsB L) rfl R1.out (cellsB_one L) (by unfold maxLen; omega) (by omega) (by omega) ?_; intro v' w8 hown hgrow hat; obtain ⟨A8, c8, rfl, hc8⟩ := own_slice hown; have z0 := (KH.out.grown hgrow (fun e => by have := (O0.out.lt _ e.symm).1; omega)).frozen 0; have z2 := (KH.out.grown hgrow (fun e => by have := (O0.out.lt _ e.symm).1; omega)).cell 0))
  go_end0
  have kg := KH.out.grown hgrow (fun e => by have := (O0.out.lt _ e.symm).1; omega)
  have hlen : l.length + L.length = (l ++ L).length := by rw [List.length_append]
  have oo : Only (fun x => ¬ F x) w w8 := (Only.of_below _ B1.out).grown hgrow (fun k hk _ => H5.out k hk)
  have hs8 := oo.size
  refine ⟨rfl, ⟨A8, c8, ?_, ?_, ?_, h4, ?_, H6.out, ?_⟩, ?_⟩
  · rw [← hlen]; exact kg.set_ 0 _
  · rw [← hlen, cellsB_append]; exact own_set hown h4 _
  · simp; omega
  · intro x hx hf
    rw [← hlen] at hx
    rcases hat with e | e
    · exact H5.out x (e ▸ hx) hf
    · rw [e] at hx
      injection hx with hx
      have := H7.out x hf
      omega
  · intro x hf
    have := H7.out x hf
    simp; omega
  · exact oo.set (.inl H6.out) _
set_option maxRecDepth 100000 in
set_option maxHeartbeats 2000000 in
theorem wtxt_any (g K : Nat) (F : Nat → Prop) (l : List UInt8) (t : ByteArray) (nm : ByteArray) (w : World) (h : WpSt g K F l w) (hl : l.length ≤ 20000) (hn : t.size ≤ 16) :
    Calls Tryd.prog 47 #[.pointer (some ⟨g, 0, none⟩), .string nm, .string t] w (WpOk g K F (l ++ (cTxt 1024).e (lb t)) w) := by
  obtain ⟨A, c, h1, h2, h3, h4, h5, h6, h7⟩ := h
  have H5 := Lib.hid h5
  have H6 := Lib.hid h6
  have H7 := Lib.hid h7
  clear h5 h6 h7
  have N1 := Lib.hid (Text_none t w (by omega))
  have hle : ((cTxt 1024).e (lb t)).length ≤ 17 := (encT_len t hn).1
  generalize (cTxt 1024).e (lb t) = L at *
  have x0 := h1.cell 0
  have x1 := h1.cell 1
  have H1 := Lib.hid h1
  have H2 := Lib.hid h2
  obtain ⟨i0, hi, hi0, hi1, hi2⟩ := info_parts infoByte
  clear h1 h2
  go_enter Tryd.func47, Tryd.ntmps47
  go_wp2_with (first
    | (go_at_call 61; refine N1.out.mono ?_; rintro e w1 ⟨A1, c1, rfl, o1, hc1, b1⟩; have k1 := H1.out.below b1 H1.out.lt; have y0 := k1.cell 0; have y1 := k1.cell 1; have R1 := Lib.hid (Reads.of_own o1); have O0 := Lib.hid (own_below H2.out b1); have hs1 := b1.size; have hg1 := k1.lt; have KH := Lib.hid k1; have B1 := Lib.hid b1; clear x0 x1 b1 k1)
    | (at_builtin; refine wpList_append_any _ rfl (.tmp 32) (.tmp 33) 27 rfl K 5 i0 (.int .u8 0) 1 1 Tryd.underlying27 hi hi0 hi1 hi2 rfl (by decide) (.slice A l.length c) l.length (cellsB l) rfl O0.out w1.heap.size A1 L.length c1 (cellsB L) rfl R1.out (cellsB_one L) (by unfold maxLen; omega) (by omega) (by omega) ?_; intro v' w8 hown hgrow hat; obtain ⟨A8, c8, rfl, hc8⟩ := own_slice hown; have z0 := (KH.out.grown hgrow (fun e => by have := (O0.out.lt _ e.symm).1; omega)).frozen 0; have z2 := (KH.out.grown hgrow (fun e => by have := (O0.out.lt _ e.symm).1; omega)).cell 0))
  go_end0
  have kg := KH.out.grown hgrow (fun e => by have := (O0.out.lt _ e.symm).1; omega)
  have hlen : l.length + L.length = (l ++ L).length := by rw [List.length_append]
  have oo : Only (fun x => ¬ F x) w w8 := (Only.of_below _ B1.out).grown hgrow (fun k hk _ => H5.out k hk)
  have hs8 := oo.size
  refine ⟨rfl, ⟨A8, c8, ?_, ?_, ?_, h4, ?_, H6.out, ?_⟩, ?_⟩
  · rw [← hlen]; exact kg.set_ 0 _
  · rw [← hlen, cellsB_append]; exact own_set hown h4 _
  · simp; omega
  · intro x hx hf
    rw [← hlen] at hx
    rcases hat with e | e
    · exact H5.out x (e ▸ hx) hf
    · rw [e] at hx
      injection hx with hx
      have := H7.out x hf
      omega
  · intro x hf
    have := H7.out x hf
    simp; omega
  · exact oo.set (.inl H6.out) _
end Go.Proofs.YtckdecodpjfcnaaDoor
