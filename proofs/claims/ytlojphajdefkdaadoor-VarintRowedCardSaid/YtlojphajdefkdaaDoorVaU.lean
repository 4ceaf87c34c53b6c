/-
  The document's ReadRow; the walks of VarintRows, VarintRowed.
-/
import Derived.Test.YtlojphajdefkdaaDoorVaT
import Derived.Test.YtlojphajdefkdaaDoorVaN
namespace Go.Proofs.YtlojphajdefkdaaDoor
open Go.RowKit

/-- What stands in the loop of the document's ReadRow. -/
def RrInv (L : List UInt8) (n0 m0 i at_ : Nat) (done : List Int) (v : Value) (w wr : World) : Prop :=
  done.length = i ∧ m0 ≤ at_ ∧ at_ ≤ L.length ∧ wr.ownsRow w.heap.size 3 1 v i (cellsI .i64 done) ∧ Below w.heap.size w wr ∧ decs n0 (L.drop m0) = cont done (at_ - m0) (decs (n0 - i) (L.drop at_))

set_option maxRecDepth 100000 in
set_option maxHeartbeats 1000000 in
theorem rReadRow_any (A : Option Addr) (L : List UInt8) (c : Nat) (w : World) (hL : L.length ≤ 100000) (hr : Reads w w.heap.size 1 A L.length (cellsB L)) :
    Calls Tryd.prog 19 #[.slice A L.length c] w (ReadPost L w) := by
  obtain ⟨i0, hi, hz0, hz1, hz2⟩ := info_parts infoInt
  have HR := Lib.hid hr
  have hget := rGet_any A L c w.heap.size 0 w hL hr
  cases hd : dec L with
  | none =>
    rw [show getOf L 0 = (0, 0, 70) from getOf_bad L 0 (by rw [List.drop_zero]; exact hd) (by omega)] at hget
    have HGET := Lib.hid hget
    have HF := Lib.hid (readPost_no (readOf_bad0 hd) (Below.refl w.heap.size w))
    clear hget hr hd
    go_enter Tryd.func19, Tryd.ntmps19
    go_wp2_with (go_at_call 13; refine HGET.out.mono ?_; rintro e w1 ⟨rfl, rfl⟩)
    go_ret2
    exact HF.out
  | some r =>
    obtain ⟨n0, m0⟩ := r
    obtain ⟨hn0, _, _, hm, _⟩ := dec_only _ _ _ hd
    unfold maxNum at hn0
    rw [show getOf L 0 = ((n0 : Int), (m0 : Int), 0) from by have := getOf_ok L 0 n0 m0 (by rw [List.drop_zero]; exact hd) (by omega); simpa using this] at hget
    have HGET := Lib.hid hget
    have HRO := Lib.hid (readOf_of hd)
    clear hget hr
    by_cases hbig : L.length < n0
    · have hno : readOf L = none := by
        rw [HRO.out, decs_short n0 _ (by rw [List.length_drop]; omega)]
      have HF := Lib.hid (readPost_no hno (Below.refl w.heap.size w))
      have d1 : decide ((L.length : Int) < (n0 : Int)) = true := by simp; omega
      clear hno hd
      go_enter Tryd.func19, Tryd.ntmps19
      go_wp2_with (go_at_call 13; refine HGET.out.mono ?_; rintro e w1 ⟨rfl, rfl⟩)
      go_ret2
      exact HF.out
    · have d1 : decide ((L.length : Int) < (n0 : Int)) = false := by simp; omega
      clear hd
      go_enter Tryd.func19, Tryd.ntmps19
      go_wp2_with (go_at_call 13; refine HGET.out.mono ?_; rintro e w1 ⟨rfl, rfl⟩)
      go_loopw [5, 7, 8] (fun y v x wr => ∃ (i at_ : Nat) (done : List Int), i ≤ n0 ∧ x = .int .i64 i ∧ y = .int .i64 at_ ∧ RrInv L n0 m0 i at_ done v w wr) (fun _ _ x _ => n0 - (intOf x).toNat)
      case atStart => exact ⟨0, m0, [], Nat.zero_le _, rfl, rfl, rfl, Nat.le_refl _, hm, World.ownsRow_nil _ _ _ _, Below.refl _ _, by rw [Nat.sub_self, cont_nil, Nat.sub_zero]⟩
      case round =>
        obtain ⟨i, at_, done, hin, rfl, rfl, hlen, hma, hal, hown, hbel, hdec⟩ := hrel
        have HOWN := Lib.hid hown
        have HBEL := Lib.hid hbel
        have HDEC := Lib.hid hdec
        have HLEN := Lib.hid hlen
        obtain ⟨AV, cv, rfl, hcv⟩ := own_slice hown
        clear hown hbel hdec hlen
        by_cases hlt : i < n0
        · have d2 : decide ((i : Int) < (n0 : Int)) = true := by simp; omega
          have hgx := rGet_any A L c w.heap.size (at_ : Int) wr hL (HR.out.below HBEL.out)
          obtain ⟨f, hf⟩ : ∃ f, n0 - i = f + 1 := ⟨n0 - i - 1, by omega⟩
          cases hdd : dec (L.drop at_) with
          | none =>
            rw [getOf_bad L at_ hdd hal] at hgx
            have hno : readOf L = none := by
              rw [HRO.out, HDEC.out, hf, decs_stop f _ hdd]; rfl
            have HF := Lib.hid (readPost_no hno HBEL.out)
            have HGX := Lib.hid hgx
            clear hgx hno hdd hf
            go_wp2_with (go_at_call 13; refine HGX.out.mono ?_; rintro e w1 ⟨rfl, rfl⟩)
            go_ret2
            exact HF.out
          | some r =>
            obtain ⟨n, m⟩ := r
            rw [getOf_ok L at_ n m hdd hal] at hgx
            obtain ⟨hnm, hm0, _, hml, _⟩ := dec_only _ _ _ hdd
            rw [List.length_drop] at hml
            have hst := decs_step f L at_ n m hdd
            rw [← hf] at hst
            have HST := Lib.hid hst
            have HGX := Lib.hid hgx
            have HF1 := Lib.hid hf
            clear hst hgx hdd hf
            go_wp2_with (first | (go_at_call 13; refine HGX.out.mono ?_; rintro e w1 ⟨rfl, rfl⟩) | (at_builtin; refine wpList_append_any _ rfl (.tmp 41) (.tmp 43) 34 rfl w.heap.size 3 i0 (.int .i64 0) 1 8 Tryd.underlying34 hi hz0 hz1 hz2 rfl (by decide) (.slice AV i cv) i (cellsI .i64 done) rfl (HOWN.out.alloc _) _ _ 1 1 [.int .i64 n] rfl (reads_new1 _ _ _) (by simp [Value.oneCell']) (by unfold maxLen; omega) (by omega) (by have := HBEL.out.size; simp; omega) ?_; intro v' w4 hown' hgrow hat'))
            go_roundw
            case rel =>
              refine ⟨i + 1, at_ + m, done ++ [(n : Int)], by omega, by go_num, by go_num, ?_, by omega, by omega, ?_, ?_, ?_⟩
              · rw [List.length_append, HLEN.out]; rfl
              · rw [cellsI_snoc]; exact hown'
              · exact (HBEL.out.alloc HBEL.out.size _).grown hgrow (by have := HBEL.out.size; simp; omega) (fun g hg => (HOWN.out.lt g hg).1)
              · rw [HDEC.out, HST.out, cont_cont, show at_ - m0 + m = at_ + m - m0 by omega, show n0 - (i + 1) = f by have := HF1.out; omega]
            case measure => simp [intOf]; omega
        · obtain rfl : i = n0 := by omega
          have d2 : decide ((i : Int) < (i : Int)) = false := by simp
          have hro : readOf L = if m0 + (at_ - m0) = L.length then some done else none := by
            rw [HRO.out, HDEC.out, Nat.sub_self]
            simp [decs, cont]
          by_cases he : at_ = L.length
          · have d3 : ((at_ : Int) != (L.length : Int)) = false := by rw [he]; simp
            rw [if_pos (by omega)] at hro
            have HF := Lib.hid (readPost_ok hro HLEN.out HOWN.out HBEL.out)
            clear hro he
            go_wp2_with fail
            go_ret2
            exact HF.out
          · have d3 : ((at_ : Int) != (L.length : Int)) = true := by simp; omega
            rw [if_neg (by omega)] at hro
            have HF := Lib.hid (readPost_no hro HBEL.out)
            clear hro he
            go_wp2_with fail
            go_ret2
            exact HF.out
end Go.Proofs.YtlojphajdefkdaaDoor
