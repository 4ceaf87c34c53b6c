/-
  Package frame's First: the first frame of some bytes.
-/
import Derived.Test.YtlojphajdefkdaaFrL
import Derived.Test.YtlojphajdefkdaaFrR
namespace Go.Proofs.Ytlojphajdefkdaa
open Go.RowKit Go.Shelf

attribute [local go_sem] Oper.semAt_some wide_fn

/-- A window of 1028 bytes is enough for the first frame. -/
theorem window_frame (L : List UInt8) : (FrameAt (L.take 1028) 0 ↔ FrameAt L 0) ∧ lenAt (L.take 1028) 0 = lenAt L 0 := by
  have h := lenAt_take L 1028 (by omega)
  refine ⟨?_, h⟩
  unfold FrameAt
  rw [h, List.length_take]
  omega

/-- What frame.First gives. -/
def FirstPost (L : List UInt8) (w : World) (e : Ending) (w' : World) : Prop :=
  (FrameAt L 0 → e = .returned (.tuple #[.string (bs ((L.drop 4).take (lenAt L 0))), .int .i64 (4 + (lenAt L 0 : Int)), .bool true])) ∧
  (¬ FrameAt L 0 → e = .returned (.tuple #[.string ⟨#[]⟩, .int .i64 0, .bool false])) ∧ Below w.heap.size w w'

set_option maxRecDepth 100000 in
set_option maxHeartbeats 1000000 in
theorem first_long (s t : ByteArray) (w : World) (hs : s.size ≤ 100000) (hcase : 1028 < s.size) (ht : s.extract 0 1028 = t) :
    Calls Try.prog 14 #[.string s] w (FirstPost (lb s) w) := by
  have hlt : lb t = (lb s).take 1028 := by rw [← ht, lb_extract, List.drop_zero]
  have hst : t.size ≤ 1028 := by rw [← length_lb, hlt, List.length_take]; omega
  have hsz : frSize 1024 = 1028 := by decide
  have HSZ := Lib.hid hsz
  clear hsz
  obtain ⟨cap, W1, hcv, hcap, hbytes, hsz1, hg1⟩ := bytes_of_ex Try.underlying9 Try.underlying41 Try.underlying5 (((w.alloc (.cells #[.string ⟨#[]⟩] 9)).alloc (.cells #[.int .i64 0] 3)).alloc (.cells #[.bool false] 4)) t
  simp only [World.size_alloc] at hsz1 hbytes
  have hlL : (lb t).length = t.size := length_lb _
  have b1 : Boxed W1 w.heap.size 9 (.string ⟨#[]⟩) := (((Boxed.new w _ _).alloc _).alloc _).kept hg1 (by simp)
  have b2 : Boxed W1 (w.heap.size + 1) 3 (.int .i64 0) := by
    have := ((Boxed.new (w.alloc (.cells #[.string ⟨#[]⟩] 9)) 3 (.int .i64 0)).alloc (.cells #[.bool false] 4)).kept hg1 (by simp)
    simpa using this
  have b3 : Boxed W1 (w.heap.size + 1 + 1) 4 (.bool false) := by
    have := (Boxed.new ((w.alloc (.cells #[.string ⟨#[]⟩] 9)).alloc (.cells #[.int .i64 0] 3)) 4 (.bool false)).kept hg1 (by simp)
    simpa using this
  have hB1 : Below w.heap.size w W1 := ((((Below.refl _ w).alloc (Nat.le_refl _) _).alloc (by simp) _).alloc (by simp; omega) _).grown hg1 (by simp; omega) (fun k e => by cases e)
  have H1 := Lib.hid hsz1
  have H2 := Lib.hid hbytes
  have H3 := Lib.hid hlL
  have H4 := Lib.hid b1
  have H5 := Lib.hid b2
  have H6 := Lib.hid b3
  have HLT := Lib.hid hlt
  clear hsz1 hbytes hlL b1 b2 b3 hg1 hlt
  refine (callsIn_wide (n := 5)).1 ?_
  refine callsIn_of_wp_marks Try.func14 rfl trivial ?_ rfl
  simp only [Try.ntmps14, List.size_toArray, List.length_cons, List.length_nil, Nat.reduceAdd, Nat.reduceSub, Array.replicate_succ, Array.replicate_zero, List.push_toArray, List.append_toArray, List.nil_append, List.cons_append]
  gi_wp2_with (first | (gi_at_call 11; refine (callsIn_wide.2 (size_any _ _)).mono ?_; rw [HSZ.out]; rintro e w' ⟨rfl, rfl⟩) | (gi_at_call 19; refine (callsIn_wide.2 (frames_any _ _ _ _)).mono ?_; rintro e w' ⟨rfl, rfl⟩))
  have hsz1 := H1.out
  have hlL := H3.out
  have hsb : ((W1.alloc (.cells #[.slice (some ⟨w.heap.size + 1 + 1 + 1, 0, none⟩) t.size cap] 41)).cell? ⟨W1.heap.size, 0, none⟩) = some (.slice (some ⟨w.heap.size + 1 + 1 + 1, 0, none⟩) (lb t).length cap) := by
    rw [hlL]; exact (Boxed.new W1 _ _).cell
  have hby : ∀ j, j < (lb t).length → (W1.alloc (.cells #[.slice (some ⟨w.heap.size + 1 + 1 + 1, 0, none⟩) t.size cap] 41)).cell? ⟨w.heap.size + 1 + 1 + 1, j, none⟩ = some (.int .u8 (byteAt (lb t) j)) := fun j hj =>
    (World.cell?_of_block (Below.heap_alloc W1 _ _ (by show w.heap.size + 1 + 1 + 1 < _; omega))).trans (H2.out j (by omega))
  refine wpIn_rangeFunc_ownG rfl (by omega) (gf := 22) (lb := #[.pointer (some ⟨W1.heap.size, 0, none⟩)]) rfl trivial (enters_of Try.func22 (by kernel_rfl) rfl)
    (frames_stops W1.heap.size (w.heap.size + 1 + 1 + 1) cap (lb t) (by omega) (by omega) _ (by simp; omega) (by simp) hsb hby) KeepTwo.trans (keepTwo_b (by simp; omega) (by simp)) (Below.refl _ _) (fun _ => rfl)
    (fun pre W => pre = [] ∧ (Boxed W w.heap.size 9 (.string ⟨#[]⟩) ∧ Boxed W (w.heap.size + 1) 3 (.int .i64 0) ∧ Boxed W (w.heap.size + 1 + 1) 4 (.bool false) ∧ (∀ j, j < (lb t).length → W.cell? ⟨w.heap.size + 1 + 1 + 1, j, none⟩ = some (.int .u8 (byteAt (lb t) j)))) ∧ Below w.heap.size w W)
    (fun c pre W => c = .ret ∧ ∃ x, pre = [x] ∧ (Boxed W w.heap.size 9 (.string (bs (loadOf (lb t) x))) ∧ Boxed W (w.heap.size + 1) 3 (.int .i64 (x.1.2 : Int)) ∧ Boxed W (w.heap.size + 1 + 1) 4 (.bool true)) ∧ Below w.heap.size w W)
    ?own ?ownx ?start
    (fun x => { tmps := #[.string s, undef, .pointer (some ⟨w.heap.size, 0, none⟩), .pointer (some ⟨w.heap.size + 1, 0, none⟩), .pointer (some ⟨w.heap.size + 1 + 1, 0, none⟩), .slice (some ⟨w.heap.size + 1 + 1 + 1, 0, none⟩) t.size cap, win (w.heap.size + 1 + 1 + 1) x.1.1 x.1.2, .int .i64 (x.1.2 : Int), .string s, .string s, .int .i64 s.size, .int .i64 1028, .int .i64 1028, .string t, .slice (some ⟨w.heap.size + 1 + 1 + 1, 0, none⟩) t.size cap, .slice (some ⟨w.heap.size + 1 + 1 + 1, 0, none⟩) t.size cap, .func (.func 22) #[] #[.pointer (some ⟨W1.heap.size, 0, none⟩)], win (w.heap.size + 1 + 1 + 1) x.1.1 x.1.2, .int .i64 (x.1.2 : Int), undef, undef, undef], defers := [] }) ?assign ?body ?done ?stop
  case own =>
    refine OwnFrom.and (ownFrom_pure _ _) (OwnFrom.and (Own.from (fun pre W W' row hs hg hr => ?_) _) (ownFrom_below (Nat.le_refl _) (by simp; omega)))
    exact ⟨boxed_own _ _ (fun _ => _) pre W W' row hs.1 hg hr, boxed_own _ _ (fun _ => _) pre W W' row hs.2.1 hg hr, boxed_own _ _ (fun _ => _) pre W W' row hs.2.2.1 hg hr, fun j hj => cell_kept (hs.2.2.2 j hj) hg hr⟩
  case ownx =>
    rintro c pre W W' row ⟨hc, x, hp, ⟨h1, h2, h3⟩, hb⟩ hg hr
    refine ⟨hc, x, hp, ⟨boxed_own _ _ (fun _ => _) pre W W' row h1 hg (fun r e => (hr r e).2), boxed_own _ _ (fun _ => _) pre W W' row h2 hg (fun r e => (hr r e).2), boxed_own _ _ (fun _ => _) pre W W' row h3 hg (fun r e => (hr r e).2)⟩, ?_⟩
    exact ownFrom_below (Nat.le_refl _) (by simp; omega) pre W W' row hb hg hr
  case start => exact ⟨rfl, ⟨H4.out.alloc _, H5.out.alloc _, H6.out.alloc _, hby⟩, hB1.alloc hB1.size _⟩
  case assign =>
    clear hsz1 hlL
    intro l x W K hK
    gi_wp2
    exact hK
  case body =>
    rintro l pre x W ⟨hpre, ⟨h1, h2, h3, hby1⟩, hB⟩ hlt
    have hcw := conv_win (b := w.heap.size + 1 + 1 + 1) x hby1
    have c1 := h1.cell
    have c2 := h2.cell
    have c3 := h3.cell
    have f1 := h1.frozen
    have f2 := h2.frozen
    have f3 := h3.frozen
    clear hsz1 hlL hby hsb hby1 hcv hcap H2 H4 H5 H6
    gi_wp2
    refine ⟨(((KeepsOthers.setCell _ _ _).trans (KeepsOthers.setCell _ _ _)).trans (KeepsOthers.setCell _ _ _)).from _, rfl, x, by rw [hpre]; rfl, ⟨?_, ?_, ?_⟩, ?_⟩
    · exact ((h1.set _).other (by omega) _).other (by omega) _
    · exact ((h2.other (by omega) _).set _).other (by omega) _
    · exact ((h3.other (by omega) _).other (by omega) _).set _
    · exact ((hB.setCell (p := ⟨w.heap.size, 0, none⟩) (Nat.le_refl _) _).setCell (p := ⟨w.heap.size + 1, 0, none⟩) (by show w.heap.size ≤ w.heap.size + 1; omega) _).setCell (p := ⟨w.heap.size + 1 + 1, 0, none⟩) (by show w.heap.size ≤ w.heap.size + 1 + 1; omega) _
  case done =>
    rintro D ys W hD rfl ⟨hnil, ⟨h1, h2, h3, _⟩, hB⟩ hK
    have c1 := h1.cell
    have c2 := h2.cell
    have c3 := h3.cell
    have f1 := h1.frozen
    have f2 := h2.frozen
    have f3 := h3.frozen
    have hnf : ¬ FrameAt (lb s) 0 := fun h => by
      have h' := (window_frame (lb s)).1.2 h
      rw [← HLT.out] at h'
      rw [spans_frame _ _ h'] at hnil
      cases hnil
    have HNF := Lib.hid hnf
    clear hsz1 hlL hby hsb hcv hcap H1 H2 H3 H4 H5 H6 hnil hnf
    gi_wp2
    have hK1 := (KeepsOthers.setCell W ⟨w.heap.size, 0, none⟩ (.string ⟨#[]⟩)).same D _ hK rfl
    have hK2 := (KeepsOthers.setCell _ ⟨w.heap.size + 1, 0, none⟩ (.int .i64 0)).same D _ hK1 rfl
    have hK3 := (KeepsOthers.setCell _ ⟨w.heap.size + 1 + 1, 0, none⟩ (.bool false)).same D _ hK2 rfl
    have g1 := ((h1.set (.string ⟨#[]⟩)).other (B' := w.heap.size + 1) (by omega) (.int .i64 0)).other (B' := w.heap.size + 1 + 1) (by omega) (.bool false)
    have g2 := ((h2.other (B' := w.heap.size) (by omega) (.string ⟨#[]⟩)).set (.int .i64 0)).other (B' := w.heap.size + 1 + 1) (by omega) (.bool false)
    have g3 := ((h3.other (B' := w.heap.size) (by omega) (.string ⟨#[]⟩)).other (B' := w.heap.size + 1) (by omega) (.int .i64 0)).set (.bool false)
    have hB2 := ((hB.setCell (p := ⟨w.heap.size, 0, none⟩) (Nat.le_refl _) (.string ⟨#[]⟩)).setCell (p := ⟨w.heap.size + 1, 0, none⟩) (by show w.heap.size ≤ w.heap.size + 1; omega) (.int .i64 0)).setCell (p := ⟨w.heap.size + 1 + 1, 0, none⟩) (by show w.heap.size ≤ w.heap.size + 1 + 1; omega) (.bool false)
    generalize (((W.setCell ⟨w.heap.size, 0, none⟩ (.string ⟨#[]⟩)).setCell ⟨w.heap.size + 1, 0, none⟩ (.int .i64 0)).setCell ⟨w.heap.size + 1 + 1, 0, none⟩ (.bool false)) = Wf at hK3 g1 g2 g3 hB2 ⊢
    refine ⟨by simp, .inl ⟨_, _, rfl, run_takeDeferred hK3, ?_⟩⟩
    have d1 := cell_kept g1.cell (grownBy_putObj' Wf D (.deferred none)) (fun r e => by cases e; exact ⟨_, hK3, rfl⟩)
    have d2 := cell_kept g2.cell (grownBy_putObj' Wf D (.deferred none)) (fun r e => by cases e; exact ⟨_, hK3, rfl⟩)
    have d3 := cell_kept g3.cell (grownBy_putObj' Wf D (.deferred none)) (fun r e => by cases e; exact ⟨_, hK3, rfl⟩)
    refine ⟨.tuple #[.string ⟨#[]⟩, .int .i64 0, .bool false], (by simp [results, Try.results14, go_sem, d1, d2, d3]), fun h => absurd h HNF.out, fun _ => rfl, ?_⟩
    exact hB2.trans (belowK_b (w := w) (Nat.le_refl _) Wf D _ _ (by simp at hD; have := hB1.size; omega) hK3 rfl rfl)
  case stop =>
    rintro D c pre W hD hpr ⟨rfl, x, rfl, ⟨h1, h2, h3⟩, hB⟩ hK
    have hfr : FrameAt (lb t) 0 := by
      rcases Classical.em (FrameAt (lb t) 0) with h | h
      · exact h
      · rw [spans_none _ _ h] at hpr
        obtain ⟨r, hr⟩ := hpr
        cases hr
    rw [spans_frame _ _ hfr] at hpr
    obtain ⟨r, hr⟩ := hpr
    simp only [List.cons_append, List.nil_append, List.cons.injEq] at hr
    have hx := hr.1
    have hwf := window_frame (lb s)
    rw [← HLT.out] at hwf
    have hfs : FrameAt (lb s) 0 := hwf.1.1 hfr
    have hend : (x.1.2 : Int) = 4 + (lenAt (lb s) 0 : Int) := by rw [hx, ← hwf.2]; simp
    have hload : loadOf (lb t) x = ((lb s).drop 4).take (lenAt (lb s) 0) := by
      have hfs2 := hfs
      unfold FrameAt at hfs2
      rw [hx, ← hwf.2]
      unfold loadOf
      simp only [Nat.zero_add, Nat.add_sub_cancel_left]
      rw [HLT.out, List.drop_take, List.take_take, Nat.min_eq_left (by rw [lenAt_take _ _ (by omega)]; omega)]
    rw [hend] at h2
    rw [hload] at h1
    clear hsz1 hlL hby hsb hcv hcap H1 H2 H3 H4 H5 H6 hr hx hwf hend hload
    gi_wp2
    refine ⟨by simp, .inl ⟨_, _, rfl, run_takeDeferred hK, ?_⟩⟩
    have d1 := cell_kept h1.cell (grownBy_putObj' W D (.deferred none)) (fun r e => by cases e; exact ⟨_, hK, rfl⟩)
    have d2 := cell_kept h2.cell (grownBy_putObj' W D (.deferred none)) (fun r e => by cases e; exact ⟨_, hK, rfl⟩)
    have d3 := cell_kept h3.cell (grownBy_putObj' W D (.deferred none)) (fun r e => by cases e; exact ⟨_, hK, rfl⟩)
    refine ⟨.tuple #[.string (bs (((lb s).drop 4).take (lenAt (lb s) 0))), .int .i64 (4 + (lenAt (lb s) 0 : Int)), .bool true], (by simp [results, Try.results14, go_sem, d1, d2, d3]), fun _ => rfl, fun h => absurd hfs h, ?_⟩
    exact hB.trans (belowK_b (w := w) (Nat.le_refl _) W D _ _ (by simp at hD; have := hB1.size; omega) hK rfl rfl)

set_option maxRecDepth 100000 in
set_option maxHeartbeats 1000000 in
theorem first_short (s : ByteArray) (w : World) (hs : s.size ≤ 100000) (hcase : s.size ≤ 1028) :
    Calls Try.prog 14 #[.string s] w (FirstPost (lb s) w) := by
  have hlt : lb s = (lb s).take 1028 := by rw [List.take_of_length_le (by rw [length_lb]; exact hcase)]
  have hst : s.size ≤ 1028 := hcase
  have hsz : frSize 1024 = 1028 := by decide
  have HSZ := Lib.hid hsz
  clear hsz
  obtain ⟨cap, W1, hcv, hcap, hbytes, hsz1, hg1⟩ := bytes_of_ex Try.underlying9 Try.underlying41 Try.underlying5 (((w.alloc (.cells #[.string ⟨#[]⟩] 9)).alloc (.cells #[.int .i64 0] 3)).alloc (.cells #[.bool false] 4)) s
  simp only [World.size_alloc] at hsz1 hbytes
  have hlL : (lb s).length = s.size := length_lb _
  have b1 : Boxed W1 w.heap.size 9 (.string ⟨#[]⟩) := (((Boxed.new w _ _).alloc _).alloc _).kept hg1 (by simp)
  have b2 : Boxed W1 (w.heap.size + 1) 3 (.int .i64 0) := by
    have := ((Boxed.new (w.alloc (.cells #[.string ⟨#[]⟩] 9)) 3 (.int .i64 0)).alloc (.cells #[.bool false] 4)).kept hg1 (by simp)
    simpa using this
  have b3 : Boxed W1 (w.heap.size + 1 + 1) 4 (.bool false) := by
    have := (Boxed.new ((w.alloc (.cells #[.string ⟨#[]⟩] 9)).alloc (.cells #[.int .i64 0] 3)) 4 (.bool false)).kept hg1 (by simp)
    simpa using this
  have hB1 : Below w.heap.size w W1 := ((((Below.refl _ w).alloc (Nat.le_refl _) _).alloc (by simp) _).alloc (by simp; omega) _).grown hg1 (by simp; omega) (fun k e => by cases e)
  have H1 := Lib.hid hsz1
  have H2 := Lib.hid hbytes
  have H3 := Lib.hid hlL
  have H4 := Lib.hid b1
  have H5 := Lib.hid b2
  have H6 := Lib.hid b3
  have HLT := Lib.hid hlt
  clear hsz1 hbytes hlL b1 b2 b3 hg1 hlt
  refine (callsIn_wide (n := 5)).1 ?_
  refine callsIn_of_wp_marks Try.func14 rfl trivial ?_ rfl
  simp only [Try.ntmps14, List.size_toArray, List.length_cons, List.length_nil, Nat.reduceAdd, Nat.reduceSub, Array.replicate_succ, Array.replicate_zero, List.push_toArray, List.append_toArray, List.nil_append, List.cons_append]
  gi_wp2_with (first | (gi_at_call 11; refine (callsIn_wide.2 (size_any _ _)).mono ?_; rw [HSZ.out]; rintro e w' ⟨rfl, rfl⟩) | (gi_at_call 19; refine (callsIn_wide.2 (frames_any _ _ _ _)).mono ?_; rintro e w' ⟨rfl, rfl⟩))
  have hsz1 := H1.out
  have hlL := H3.out
  have hsb : ((W1.alloc (.cells #[.slice (some ⟨w.heap.size + 1 + 1 + 1, 0, none⟩) s.size cap] 41)).cell? ⟨W1.heap.size, 0, none⟩) = some (.slice (some ⟨w.heap.size + 1 + 1 + 1, 0, none⟩) (lb s).length cap) := by
    rw [hlL]; exact (Boxed.new W1 _ _).cell
  have hby : ∀ j, j < (lb s).length → (W1.alloc (.cells #[.slice (some ⟨w.heap.size + 1 + 1 + 1, 0, none⟩) s.size cap] 41)).cell? ⟨w.heap.size + 1 + 1 + 1, j, none⟩ = some (.int .u8 (byteAt (lb s) j)) := fun j hj =>
    (World.cell?_of_block (Below.heap_alloc W1 _ _ (by show w.heap.size + 1 + 1 + 1 < _; omega))).trans (H2.out j (by omega))
  refine wpIn_rangeFunc_ownG rfl (by omega) (gf := 22) (lb := #[.pointer (some ⟨W1.heap.size, 0, none⟩)]) rfl trivial (enters_of Try.func22 (by kernel_rfl) rfl)
    (frames_stops W1.heap.size (w.heap.size + 1 + 1 + 1) cap (lb s) (by omega) (by omega) _ (by simp; omega) (by simp) hsb hby) KeepTwo.trans (keepTwo_b (by simp; omega) (by simp)) (Below.refl _ _) (fun _ => rfl)
    (fun pre W => pre = [] ∧ (Boxed W w.heap.size 9 (.string ⟨#[]⟩) ∧ Boxed W (w.heap.size + 1) 3 (.int .i64 0) ∧ Boxed W (w.heap.size + 1 + 1) 4 (.bool false) ∧ (∀ j, j < (lb s).length → W.cell? ⟨w.heap.size + 1 + 1 + 1, j, none⟩ = some (.int .u8 (byteAt (lb s) j)))) ∧ Below w.heap.size w W)
    (fun c pre W => c = .ret ∧ ∃ x, pre = [x] ∧ (Boxed W w.heap.size 9 (.string (bs (loadOf (lb s) x))) ∧ Boxed W (w.heap.size + 1) 3 (.int .i64 (x.1.2 : Int)) ∧ Boxed W (w.heap.size + 1 + 1) 4 (.bool true)) ∧ Below w.heap.size w W)
    ?own ?ownx ?start
    (fun x => { tmps := #[.string s, undef, .pointer (some ⟨w.heap.size, 0, none⟩), .pointer (some ⟨w.heap.size + 1, 0, none⟩), .pointer (some ⟨w.heap.size + 1 + 1, 0, none⟩), .slice (some ⟨w.heap.size + 1 + 1 + 1, 0, none⟩) s.size cap, win (w.heap.size + 1 + 1 + 1) x.1.1 x.1.2, .int .i64 (x.1.2 : Int), .string s, .string s, .int .i64 s.size, .int .i64 1028, .int .i64 s.size, .string s, .slice (some ⟨w.heap.size + 1 + 1 + 1, 0, none⟩) s.size cap, .slice (some ⟨w.heap.size + 1 + 1 + 1, 0, none⟩) s.size cap, .func (.func 22) #[] #[.pointer (some ⟨W1.heap.size, 0, none⟩)], win (w.heap.size + 1 + 1 + 1) x.1.1 x.1.2, .int .i64 (x.1.2 : Int), undef, undef, undef], defers := [] }) ?assign ?body ?done ?stop
  case own =>
    refine OwnFrom.and (ownFrom_pure _ _) (OwnFrom.and (Own.from (fun pre W W' row hs hg hr => ?_) _) (ownFrom_below (Nat.le_refl _) (by simp; omega)))
    exact ⟨boxed_own _ _ (fun _ => _) pre W W' row hs.1 hg hr, boxed_own _ _ (fun _ => _) pre W W' row hs.2.1 hg hr, boxed_own _ _ (fun _ => _) pre W W' row hs.2.2.1 hg hr, fun j hj => cell_kept (hs.2.2.2 j hj) hg hr⟩
  case ownx =>
    rintro c pre W W' row ⟨hc, x, hp, ⟨h1, h2, h3⟩, hb⟩ hg hr
    refine ⟨hc, x, hp, ⟨boxed_own _ _ (fun _ => _) pre W W' row h1 hg (fun r e => (hr r e).2), boxed_own _ _ (fun _ => _) pre W W' row h2 hg (fun r e => (hr r e).2), boxed_own _ _ (fun _ => _) pre W W' row h3 hg (fun r e => (hr r e).2)⟩, ?_⟩
    exact ownFrom_below (Nat.le_refl _) (by simp; omega) pre W W' row hb hg hr
  case start => exact ⟨rfl, ⟨H4.out.alloc _, H5.out.alloc _, H6.out.alloc _, hby⟩, hB1.alloc hB1.size _⟩
  case assign =>
    clear hsz1 hlL
    intro l x W K hK
    gi_wp2
    exact hK
  case body =>
    rintro l pre x W ⟨hpre, ⟨h1, h2, h3, hby1⟩, hB⟩ hlt
    have hcw := conv_win (b := w.heap.size + 1 + 1 + 1) x hby1
    have c1 := h1.cell
    have c2 := h2.cell
    have c3 := h3.cell
    have f1 := h1.frozen
    have f2 := h2.frozen
    have f3 := h3.frozen
    clear hsz1 hlL hby hsb hby1 hcv hcap H2 H4 H5 H6
    gi_wp2
    refine ⟨(((KeepsOthers.setCell _ _ _).trans (KeepsOthers.setCell _ _ _)).trans (KeepsOthers.setCell _ _ _)).from _, rfl, x, by rw [hpre]; rfl, ⟨?_, ?_, ?_⟩, ?_⟩
    · exact ((h1.set _).other (by omega) _).other (by omega) _
    · exact ((h2.other (by omega) _).set _).other (by omega) _
    · exact ((h3.other (by omega) _).other (by omega) _).set _
    · exact ((hB.setCell (p := ⟨w.heap.size, 0, none⟩) (Nat.le_refl _) _).setCell (p := ⟨w.heap.size + 1, 0, none⟩) (by show w.heap.size ≤ w.heap.size + 1; omega) _).setCell (p := ⟨w.heap.size + 1 + 1, 0, none⟩) (by show w.heap.size ≤ w.heap.size + 1 + 1; omega) _
  case done =>
    rintro D ys W hD rfl ⟨hnil, ⟨h1, h2, h3, _⟩, hB⟩ hK
    have c1 := h1.cell
    have c2 := h2.cell
    have c3 := h3.cell
    have f1 := h1.frozen
    have f2 := h2.frozen
    have f3 := h3.frozen
    have hnf : ¬ FrameAt (lb s) 0 := fun h => by
      have h' := h
      rw [spans_frame _ _ h'] at hnil
      cases hnil
    have HNF := Lib.hid hnf
    clear hsz1 hlL hby hsb hcv hcap H1 H2 H3 H4 H5 H6 hnil hnf
    gi_wp2
    have hK1 := (KeepsOthers.setCell W ⟨w.heap.size, 0, none⟩ (.string ⟨#[]⟩)).same D _ hK rfl
    have hK2 := (KeepsOthers.setCell _ ⟨w.heap.size + 1, 0, none⟩ (.int .i64 0)).same D _ hK1 rfl
    have hK3 := (KeepsOthers.setCell _ ⟨w.heap.size + 1 + 1, 0, none⟩ (.bool false)).same D _ hK2 rfl
    have g1 := ((h1.set (.string ⟨#[]⟩)).other (B' := w.heap.size + 1) (by omega) (.int .i64 0)).other (B' := w.heap.size + 1 + 1) (by omega) (.bool false)
    have g2 := ((h2.other (B' := w.heap.size) (by omega) (.string ⟨#[]⟩)).set (.int .i64 0)).other (B' := w.heap.size + 1 + 1) (by omega) (.bool false)
    have g3 := ((h3.other (B' := w.heap.size) (by omega) (.string ⟨#[]⟩)).other (B' := w.heap.size + 1) (by omega) (.int .i64 0)).set (.bool false)
    have hB2 := ((hB.setCell (p := ⟨w.heap.size, 0, none⟩) (Nat.le_refl _) (.string ⟨#[]⟩)).setCell (p := ⟨w.heap.size + 1, 0, none⟩) (by show w.heap.size ≤ w.heap.size + 1; omega) (.int .i64 0)).setCell (p := ⟨w.heap.size + 1 + 1, 0, none⟩) (by show w.heap.size ≤ w.heap.size + 1 + 1; omega) (.bool false)
    generalize (((W.setCell ⟨w.heap.size, 0, none⟩ (.string ⟨#[]⟩)).setCell ⟨w.heap.size + 1, 0, none⟩ (.int .i64 0)).setCell ⟨w.heap.size + 1 + 1, 0, none⟩ (.bool false)) = Wf at hK3 g1 g2 g3 hB2 ⊢
    refine ⟨by simp, .inl ⟨_, _, rfl, run_takeDeferred hK3, ?_⟩⟩
    have d1 := cell_kept g1.cell (grownBy_putObj' Wf D (.deferred none)) (fun r e => by cases e; exact ⟨_, hK3, rfl⟩)
    have d2 := cell_kept g2.cell (grownBy_putObj' Wf D (.deferred none)) (fun r e => by cases e; exact ⟨_, hK3, rfl⟩)
    have d3 := cell_kept g3.cell (grownBy_putObj' Wf D (.deferred none)) (fun r e => by cases e; exact ⟨_, hK3, rfl⟩)
    refine ⟨.tuple #[.string ⟨#[]⟩, .int .i64 0, .bool false], (by simp [results, Try.results14, go_sem, d1, d2, d3]), fun h => absurd h HNF.out, fun _ => rfl, ?_⟩
    exact hB2.trans (belowK_b (w := w) (Nat.le_refl _) Wf D _ _ (by simp at hD; have := hB1.size; omega) hK3 rfl rfl)
  case stop =>
    rintro D c pre W hD hpr ⟨rfl, x, rfl, ⟨h1, h2, h3⟩, hB⟩ hK
    have hfr : FrameAt (lb s) 0 := by
      rcases Classical.em (FrameAt (lb s) 0) with h | h
      · exact h
      · rw [spans_none _ _ h] at hpr
        obtain ⟨r, hr⟩ := hpr
        cases hr
    rw [spans_frame _ _ hfr] at hpr
    obtain ⟨r, hr⟩ := hpr
    simp only [List.cons_append, List.nil_append, List.cons.injEq] at hr
    have hx := hr.1
    have hfs : FrameAt (lb s) 0 := hfr
    have hend : (x.1.2 : Int) = 4 + (lenAt (lb s) 0 : Int) := by rw [hx]; simp
    have hload : loadOf (lb s) x = ((lb s).drop 4).take (lenAt (lb s) 0) := by
      rw [hx]
      unfold loadOf
      simp only [Nat.zero_add, Nat.add_sub_cancel_left]
    rw [hend] at h2
    rw [hload] at h1
    clear hsz1 hlL hby hsb hcv hcap H1 H2 H3 H4 H5 H6 hr hx hend hload
    gi_wp2
    refine ⟨by simp, .inl ⟨_, _, rfl, run_takeDeferred hK, ?_⟩⟩
    have d1 := cell_kept h1.cell (grownBy_putObj' W D (.deferred none)) (fun r e => by cases e; exact ⟨_, hK, rfl⟩)
    have d2 := cell_kept h2.cell (grownBy_putObj' W D (.deferred none)) (fun r e => by cases e; exact ⟨_, hK, rfl⟩)
    have d3 := cell_kept h3.cell (grownBy_putObj' W D (.deferred none)) (fun r e => by cases e; exact ⟨_, hK, rfl⟩)
    refine ⟨.tuple #[.string (bs (((lb s).drop 4).take (lenAt (lb s) 0))), .int .i64 (4 + (lenAt (lb s) 0 : Int)), .bool true], (by simp [results, Try.results14, go_sem, d1, d2, d3]), fun _ => rfl, fun h => absurd hfs h, ?_⟩
    exact hB.trans (belowK_b (w := w) (Nat.le_refl _) W D _ _ (by simp at hD; have := hB1.size; omega) hK rfl rfl)

theorem first_any (s : ByteArray) (w : World) (hs : s.size ≤ 100000) : Calls Try.prog 14 #[.string s] w (FirstPost (lb s) w) := by
  rcases Nat.lt_or_ge 1028 s.size with h | h
  · exact first_long s _ w hs h rfl
  · exact first_short s w hs h
end Go.Proofs.Ytlojphajdefkdaa
