/-
  Package frame's All: the loads with which some bytes begin, and how many bytes are torn.
-/
import Derived.RangeFuncBox
import Derived.Test.YtlojphajdefkdaaFrD
namespace Go.Proofs.Ytlojphajdefkdaa
open Go.RowKit Go.Shelf

attribute [local go_sem] Oper.semAt_some wide_fn

theorem frames_any (a : Option Addr) (len cap : Nat) (w : World) :
    Calls Try.prog 19 #[.slice a len cap] w fun e w' => e = .returned (.func (.func 22) #[] #[.pointer (some ⟨w.heap.size, 0, none⟩)]) ∧ w.alloc (.cells #[.slice a len cap] 41) = w' := by
  go_enter Try.func19, Try.ntmps19
  go_wp2
  go_ret
  exact ⟨rfl, rfl⟩

theorem frames_stops (Bs b cap : Nat) (L : List UInt8) (hL : L.length ≤ 100000) (hcap : L.length ≤ cap) (w : World) (hb : b < w.heap.size) (hBs : Bs < w.heap.size)
    (hBc : w.cell? ⟨Bs, 0, none⟩ = some (.slice (some ⟨b, 0, none⟩) L.length cap)) (hc : ∀ j, j < L.length → w.cell? ⟨b, j, none⟩ = some (.int .u8 (byteAt L j))) :
    SeqStopsK Fence.wide 4 Try.prog 22 #[.pointer (some ⟨Bs, 0, none⟩)] (fun x : Span L => #[win b x.1.1 x.1.2, .int .i64 (x.1.2 : Int)]) (KeepTwo b Bs) (fun ys => ys = spans L 0) (fun pre => pre <+: spans L 0) L.length w :=
  fun l J Jx W hW hJ _ hY h0 =>
    frames1_in l Bs b cap L hL hcap J Jx W (Nat.lt_of_lt_of_le hb hW.size) (Nat.lt_of_lt_of_le hBs hW.size) hJ hY ((hW.cell (p := ⟨Bs, 0, none⟩) hBs).trans hBc) (fun j hj => (hW.cell (p := ⟨b, j, none⟩) hb).trans (hc j hj)) h0

/-- Loads as strings. -/
def loadsV (L : List UInt8) (ps : List (Span L)) : List Value := ps.map fun p => Value.string (bs (loadOf L p))

/-- A slice of strings: what frame.All gives. -/
def AllPost (L : List UInt8) (w : World) (e : Ending) (w' : World) : Prop :=
  ∃ A c, e = .returned (.tuple #[.slice A (spans L 0).length c, .int .i64 ((L.length : Int) - (endOf L 0 (spans L 0) : Int))]) ∧ Reads w' w'.heap.size 1 A (spans L 0).length (loadsV L (spans L 0)) ∧ (spans L 0).length ≤ c ∧ Below w.heap.size w w'

theorem infoStr : (Try.prog.info? 9).map (fun i => (i.zero, i.size, i.bytes)) = some (some (.string ⟨#[]⟩), 1, 16) := by kernel_rfl

theorem reads_win {w : World} {b lo hi : Nat} {L : List UInt8} (h1 : lo ≤ hi) (h2 : hi ≤ L.length) (hc : ∀ j, j < L.length → w.cell? ⟨b, j, none⟩ = some (.int .u8 (byteAt L j))) :
    Reads w (b + 1) 1 (some (if hi = lo then ⟨b, 0, none⟩ else ⟨b, lo, none⟩)) (hi - lo) (cellsB ((L.drop lo).take (hi - lo))) := by
  refine ⟨by rw [length_cellsB]; simp; omega, fun hn => ?_⟩
  rw [if_neg (by omega)]
  refine ⟨_, rfl, Nat.lt_succ_self _, fun j u hu => ?_⟩
  have hadd : (⟨b, lo, none⟩ : Addr).add j = ⟨b, lo + j, none⟩ := by unfold Addr.add; split <;> simp_all
  rw [hadd]
  rw [getElem?_cellsB] at hu
  have hj : j < hi - lo := by
    rcases Nat.lt_or_ge j (hi - lo) with h | h
    · exact h
    · rw [List.getElem?_eq_none (by simp; omega)] at hu; cases hu
  rw [hc (lo + j) (by omega)]
  rw [List.getElem?_take_of_lt hj, List.getElem?_drop, List.getElem?_eq_getElem (by omega)] at hu
  rw [← hu]
  simp [byteAt, List.getElem?_eq_getElem (show lo + j < L.length by omega)]

theorem conv_win {w : World} {b : Nat} {L : List UInt8} (p : Span L) (hc : ∀ j, j < L.length → w.cell? ⟨b, j, none⟩ = some (.int .u8 (byteAt L j))) :
    (convert 41 9 (win b p.1.1 p.1.2)).run Try.prog w = .ok (.string (bs (loadOf L p))) w :=
  run_string_of Try.underlying41 Try.underlying5 Try.underlying9 (reads_win p.2.1 p.2.2 hc)

set_option maxRecDepth 100000 in
set_option maxHeartbeats 1000000 in
theorem all_any (s : ByteArray) (w : World) (hs : s.size ≤ 100000) :
    Calls Try.prog 8 #[.string s] w (AllPost (lb s) w) := by
  obtain ⟨i0, hi, hz0, hz1, hz2⟩ := info_parts infoStr
  obtain ⟨cap, W1, hcv, hcap, hbytes, hsz1, hg1⟩ := bytes_of_ex Try.underlying9 Try.underlying41 Try.underlying5 (((w.alloc (.cells #[.string s] 9)).alloc (.cells #[.slice none 0 0] 23)).alloc (.cells #[.int .i64 s.size] 3)) s
  simp only [World.size_alloc] at hsz1 hbytes
  have hlL : (lb s).length = s.size := length_lb s
  have b1 : Boxed W1 w.heap.size 9 (.string s) := (((Boxed.new w _ _).alloc _).alloc _).kept hg1 (by simp)
  have b2 : Boxed W1 (w.heap.size + 1) 23 (.slice none 0 0) := by
    have := ((Boxed.new (w.alloc (.cells #[.string s] 9)) 23 (.slice none 0 0)).alloc (.cells #[.int .i64 s.size] 3)).kept hg1 (by simp)
    simpa using this
  have b3 : Boxed W1 (w.heap.size + 1 + 1) 3 (.int .i64 s.size) := by
    have := (Boxed.new ((w.alloc (.cells #[.string s] 9)).alloc (.cells #[.slice none 0 0] 23)) 3 (.int .i64 s.size)).kept hg1 (by simp)
    simpa using this
  have hB1 : Below w.heap.size w W1 := ((((Below.refl _ w).alloc (Nat.le_refl _) _).alloc (by simp) _).alloc (by simp; omega) _).grown hg1 (by simp; omega) (fun k e => by cases e)
  have H1 := Lib.hid hsz1
  have H2 := Lib.hid hbytes
  have H3 := Lib.hid hlL
  have H4 := Lib.hid b1
  have H5 := Lib.hid b2
  have H6 := Lib.hid b3
  clear hsz1 hbytes hlL b1 b2 b3 hg1
  refine (callsIn_wide (n := 5)).1 ?_
  refine callsIn_of_wp_marks Try.func8 rfl trivial ?_ rfl
  simp only [Try.ntmps8, List.size_toArray, List.length_cons, List.length_nil, Nat.reduceAdd, Nat.reduceSub, Array.replicate_succ, Array.replicate_zero, List.push_toArray, List.append_toArray, List.nil_append, List.cons_append]
  gi_wp2_with (gi_at_call 19; refine (callsIn_wide.2 (frames_any _ _ _ _)).mono ?_; rintro e w' ⟨rfl, rfl⟩)
  have hsz1 := H1.out
  have hlL := H3.out
  have hsb : ((W1.alloc (.cells #[.slice (some ⟨w.heap.size + 1 + 1 + 1, 0, none⟩) s.size cap] 41)).cell? ⟨W1.heap.size, 0, none⟩) = some (.slice (some ⟨w.heap.size + 1 + 1 + 1, 0, none⟩) (lb s).length cap) := by
    rw [hlL]; exact (Boxed.new W1 _ _).cell
  have hby : ∀ j, j < (lb s).length → (W1.alloc (.cells #[.slice (some ⟨w.heap.size + 1 + 1 + 1, 0, none⟩) s.size cap] 41)).cell? ⟨w.heap.size + 1 + 1 + 1, j, none⟩ = some (.int .u8 (byteAt (lb s) j)) := fun j hj =>
    (World.cell?_of_block (Below.heap_alloc W1 _ _ (by show w.heap.size + 1 + 1 + 1 < _; omega))).trans (H2.out j (by omega))
  refine wpIn_rangeFunc_ownG rfl (by omega) (gf := 22) (lb := #[.pointer (some ⟨W1.heap.size, 0, none⟩)]) rfl trivial (enters_of Try.func22 (by kernel_rfl) rfl)
    (frames_stops W1.heap.size (w.heap.size + 1 + 1 + 1) cap (lb s) (by omega) (by omega) _ (by simp; omega) (by simp) hsb hby) KeepTwo.trans (keepTwo_b (by simp; omega) (by simp)) (Below.refl _ _) (fun _ => rfl)
    (fun pre W => ((∃ v, Boxed W (w.heap.size + 1) 23 v ∧ W.ownsRow (w.heap.size + 5) 9 1 v pre.length (loadsV (lb s) pre) ∧ True) ∧ Boxed W w.heap.size 9 (.string s) ∧ Boxed W (w.heap.size + 1 + 1) 3 (.int .i64 ((s.size : Int) - (endOf (lb s) 0 pre : Int))) ∧ (∀ j, j < (lb s).length → W.cell? ⟨w.heap.size + 1 + 1 + 1, j, none⟩ = some (.int .u8 (byteAt (lb s) j)))) ∧ Below w.heap.size w W ∧ w.heap.size + 5 ≤ W.heap.size)
    (fun _ _ _ => False)
    ?own (fun _ _ _ _ _ hs _ _ => hs) ?start
    (fun x => { tmps := #[.string s, .pointer (some ⟨w.heap.size, 0, none⟩), .pointer (some ⟨w.heap.size + 1, 0, none⟩), .pointer (some ⟨w.heap.size + 1 + 1, 0, none⟩), win (w.heap.size + 1 + 1 + 1) x.1.1 x.1.2, .int .i64 (x.1.2 : Int), .string s, .int .i64 s.size, .string s, .slice (some ⟨w.heap.size + 1 + 1 + 1, 0, none⟩) s.size cap, .func (.func 22) #[] #[.pointer (some ⟨W1.heap.size, 0, none⟩)], win (w.heap.size + 1 + 1 + 1) x.1.1 x.1.2, .int .i64 (x.1.2 : Int), undef, undef, undef, undef, undef, undef, undef, undef, undef, undef, undef], defers := [] }) ?assign ?body ?done ?stop
  case own =>
    refine OwnFrom.and (Own.from (fun pre W W' row hs hg hr => ?_) _) (OwnFrom.and (ownFrom_below (Nat.le_refl _) (by simp; omega)) (fun _ _ _ _ hs hg _ => Nat.le_trans hs hg.size))
    exact ⟨holdsRow_own _ _ 23 9 1 (fun pre => pre.length) (fun pre => loadsV (lb s) pre) (fun _ _ => True) pre W W' row hs.1 hg hr, boxed_own _ _ (fun _ => _) pre W W' row hs.2.1 hg hr, boxed_own _ _ (fun pre => _) pre W W' row hs.2.2.1 hg hr, fun j hj => cell_kept (hs.2.2.2 j hj) hg hr⟩
  case start =>
    refine ⟨⟨⟨_, H5.out.alloc _, World.ownsRow_nil _ _ _ _, trivial⟩, H4.out.alloc _, ?_, hby⟩, hB1.alloc hB1.size _, by simp; omega⟩
    rw [endOf_nil]
    simpa using H6.out.alloc _
  case assign =>
    clear hsz1 hlL
    intro l x W K hK
    gi_wp2
    exact hK
  case body =>
    rintro l pre x W ⟨⟨⟨v, hv, hrow, _⟩, hS, hT, hby1⟩, hB, hszW⟩ hlt
    have hcw := conv_win (b := w.heap.size + 1 + 1 + 1) x hby1
    have hx := x.2
    have hle : (lb s).length ≤ s.size := by omega
    have hc := hv.cell
    have HR := Lib.hid hrow
    have HBy := Lib.hid hby1
    clear hsz1 hlL hby hsb hby1 hrow hcv hcap H2 H4 H5 H6
    gi_wp2_with (gi_at_builtin; refine wpListIn_append_own _ rfl _ _ 23 rfl (w.heap.size + 5) 9 i0 (.string ⟨#[]⟩) 1 16 Try.underlying23 hi hz0 hz1 hz2 rfl (by decide) _ _ _ rfl (HR.out.alloc _) ⟨W.heap.size, 0, none⟩ 1 1 [.string (bs (loadOf (lb s) x))] rfl rfl (cell_one_new _ _ _) (by simp [Value.oneCell']) (by unfold maxLen; omega) (by omega) (by simp; omega) ?_; intro v' w1 hown' hgrow _; obtain ⟨g', cap', rfl⟩ := ownsRow_succ hown'; obtain ⟨hv1, hv2, hr2, hk2, hb2⟩ := hv.appended (by decide) (own_base HR.out (base' := w.heap.size) (by omega)) hB.size (by omega) (own_base hown' (base' := w.heap.size) (by omega)) hgrow; have hS1 := (hS.alloc _).kept hgrow (own_ge HR.out (by omega)); have hT1 := (hT.alloc _).kept hgrow (own_ge HR.out (by omega)); have hc1 := hv1.cell; have hf1 := hv1.frozen; have hc2 := hS1.cell; have hc3 := hT1.cell; have hf3 := hT1.frozen)
    have hT2 := (hT1.other (B' := w.heap.size + 1) (by omega) (.slice (some ⟨g', 0, none⟩) (pre.length + 1) cap'))
    have e3 : w.heap.size + 1 + 1 + 1 < (W.alloc (.cells #[.string (bs (loadOf (lb s) x))] 9)).heap.size := by simp; omega
    have e4 : w.heap.size + 4 < (W.alloc (.cells #[.string (bs (loadOf (lb s) x))] 9)).heap.size := by simp; omega
    have hk3 : KeepTwo (w.heap.size + 1 + 1 + 1) (w.heap.size + 4) W w1 := (KeepTwo.of_below ((Below.refl _ W).alloc (Nat.le_refl _) _) (by omega) (by omega)).trans (KeepTwo.of_grown hgrow e3 e4 (own_ge HR.out (by omega)) (own_ge HR.out (by omega)))
    have hset : ∀ (X : World) (k : Nat) (u : Value), k < w.heap.size + 1 + 1 + 1 → KeepTwo (w.heap.size + 1 + 1 + 1) (w.heap.size + 4) X (X.setCell ⟨k, 0, none⟩ u) := fun X k u hk => ⟨Below.heap_setCell X _ u _ (by show _ ≠ k; omega), Below.heap_setCell X _ u _ (by show _ ≠ k; omega)⟩
    have hk4 := (hk3.trans (hset w1 (w.heap.size + 1) (.slice (some ⟨g', 0, none⟩) (pre.length + 1) cap') (by omega))).trans (hset _ (w.heap.size + 1 + 1) (.int .i64 ((s.size : Int) - (x.1.2 : Int))) (by omega))
    have hsz1 : W1.heap.size = w.heap.size + 4 := H1.out
    refine ⟨((hk2.trans (KeepsOthers.setCell _ _ _)).from _), by rw [hsz1]; exact hk4, ⟨⟨_, hv2.other (by omega) _, ?_, trivial⟩, ?_, ?_, ?_⟩, ?_, ?_⟩
    · have h1 := hown'.kept (grownBy_setCell' w1 (w.heap.size + 1) (.slice (some ⟨g', 0, none⟩) (pre.length + 1) cap')) (.inr (hv1.not_row (by decide) hown').symm)
      have h2 := h1.kept (grownBy_setCell' _ (w.heap.size + 1 + 1) (.int .i64 ((s.size : Int) - (x.1.2 : Int)))) (.inr (hT2.not_row (by decide) h1).symm)
      simpa [loadsV] using h2
    · exact (hS1.other (by omega) _).other (by omega) _
    · rw [endOf_snoc]; exact hT2.set _
    · exact fun j hj => (World.cell?_of_block hk4.1).trans (HBy.out j hj)
    · exact (hB.trans hb2).setCell (p := ⟨w.heap.size + 1 + 1, 0, none⟩) (by show w.heap.size ≤ w.heap.size + 1 + 1; omega) _
    · exact Nat.le_trans hszW (hb2.setCell (p := ⟨w.heap.size + 1 + 1, 0, none⟩) (by show w.heap.size ≤ w.heap.size + 1 + 1; omega) (.int .i64 ((s.size : Int) - (x.1.2 : Int)))).size
  case done =>
    rintro D ys W hD rfl ⟨⟨⟨v, hv, hrow, _⟩, hS, hT, _⟩, hB, hszW⟩ hK
    obtain ⟨A, c, rfl, hnc⟩ := own_slice hrow
    generalize hn : (spans (lb s) 0).length = n at *
    generalize hm : (s.size : Int) - (endOf (lb s) 0 (spans (lb s) 0) : Int) = m at *
    have HN := Lib.hid hn
    have HM := Lib.hid hm
    clear hn hm
    have hc := hv.cell
    have hf := hv.frozen
    have hc2 := hT.cell
    have hf2 := hT.frozen
    have HR := Lib.hid hrow
    clear hsz1 hlL hby hsb hrow hcv hcap H2 H4 H5 H6 H1 H3
    gi_wp2
    gi_region
    have hK1 := (KeepsOthers.setCell W ⟨w.heap.size + 1, 0, none⟩ (.slice A n c)).same D _ hK rfl
    have hK2 : (((W.setCell ⟨w.heap.size + 1, 0, none⟩ (.slice A n c)).setCell ⟨w.heap.size + 1 + 1, 0, none⟩ (.int .i64 m)).drew).heap[D]? = some (.deferred (some [])) := (KeepsOthers.setCell _ ⟨w.heap.size + 1 + 1, 0, none⟩ (.int .i64 m)).same D _ hK1 rfl
    have v2 := (hv.set (.slice A n c)).other (B' := w.heap.size + 1 + 1) (by omega) (.int .i64 m)
    have t2 := (hT.other (B' := w.heap.size + 1) (by omega) (.slice A n c)).set (.int .i64 m)
    have h1 := HR.out.kept (grownBy_setCell' W (w.heap.size + 1) (.slice A n c)) (.inr (hv.not_row (by decide) HR.out).symm)
    have h2 := h1.kept (grownBy_setCell' _ (w.heap.size + 1 + 1) (.int .i64 m)) (.inr ((hT.other (B' := w.heap.size + 1) (by omega) (.slice A n c)).not_row (by decide) h1).symm)
    have hB2 : Below w.heap.size w ((W.setCell ⟨w.heap.size + 1, 0, none⟩ (.slice A n c)).setCell ⟨w.heap.size + 1 + 1, 0, none⟩ (.int .i64 m)).drew :=
      ((hB.setCell (p := ⟨w.heap.size + 1, 0, none⟩) (by show w.heap.size ≤ w.heap.size + 1; omega) _).setCell (p := ⟨w.heap.size + 1 + 1, 0, none⟩) (by show w.heap.size ≤ w.heap.size + 1 + 1; omega) _).drew
    generalize hWf : (((W.setCell ⟨w.heap.size + 1, 0, none⟩ (.slice A n c)).setCell ⟨w.heap.size + 1 + 1, 0, none⟩ (.int .i64 m)).drew) = Wf at *
    replace v2 : Boxed Wf (w.heap.size + 1) 23 (.slice A n c) := by rw [← hWf]; exact v2
    replace t2 : Boxed Wf (w.heap.size + 1 + 1) 3 (.int .i64 m) := by rw [← hWf]; exact t2
    replace h2 : Wf.ownsRow (w.heap.size + 5) 9 1 (.slice A n c) n (loadsV (lb s) (spans (lb s) 0)) := by rw [← hWf]; exact h2.drew
    clear hWf h1 hK1 hv hT hc hf hc2 hf2 HR
    gi_wp2
    refine ⟨by simp, .inl ⟨_, _, rfl, run_takeDeferred hK2, ?_⟩⟩
    have c2 := cell_kept v2.cell (grownBy_putObj' Wf D (.deferred none)) (fun r e => by cases e; exact ⟨_, hK2, rfl⟩)
    have c3 := cell_kept t2.cell (grownBy_putObj' Wf D (.deferred none)) (fun r e => by cases e; exact ⟨_, hK2, rfl⟩)
    have hlb := (length_lb s)
    refine ⟨.tuple #[.slice A n c, .int .i64 m], (by simp [results, Try.results8, go_sem, c2, c3]), A, c, ?_, ?_, by rw [HN.out]; exact hnc, ?_⟩
    · rw [HN.out, hlb, HM.out]
    · rw [HN.out]
      have h3 := ownsRow_putObj h2 (.deferred none) hK2 rfl
      exact Reads.of_own h3
    · exact hB2.trans (belowK_b (w := w) (Nat.le_refl _) Wf D _ _ (by simp at hD; have := hB1.size; omega) hK2 rfl rfl)
  case stop =>
    rintro D c pre W _ _ h _
    exact h.elim
end Go.Proofs.Ytlojphajdefkdaa
