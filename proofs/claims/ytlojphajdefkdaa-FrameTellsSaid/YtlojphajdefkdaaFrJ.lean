/-
  Package frame's Whole: whether nothing is torn.
-/
import Derived.Test.YtlojphajdefkdaaFrH
namespace Go.Proofs.Ytlojphajdefkdaa
open Go.RowKit Go.Shelf

attribute [local go_sem] Oper.semAt_some wide_fn

set_option maxRecDepth 100000 in
set_option maxHeartbeats 1000000 in
theorem whole_any (s : ByteArray) (w : World) (hs : s.size ≤ 100000) :
    Calls Try.prog 12 #[.string s] w fun e w' => e = .returned (.bool ((endFrom (lb s) 0 : Int) == (s.size : Int))) ∧ Below w.heap.size w w' := by
  obtain ⟨cap, W1, hcv, hcap, hbytes, hsz1, hg1⟩ := bytes_of_ex Try.underlying9 Try.underlying41 Try.underlying5 (w.alloc (.cells #[.int .i64 0] 3)) s
  simp only [World.size_alloc] at hsz1 hbytes
  have hlL : (lb s).length = s.size := length_lb s
  have b1 : Boxed W1 w.heap.size 3 (.int .i64 0) := (Boxed.new w _ _).kept hg1 (by simp)
  have hB1 : Below w.heap.size w W1 := ((Below.refl _ w).alloc (Nat.le_refl _) _).grown hg1 (by simp) (fun k e => by cases e)
  have H1 := Lib.hid hsz1
  have H2 := Lib.hid hbytes
  have H3 := Lib.hid hlL
  have H4 := Lib.hid b1
  clear hsz1 hbytes hlL b1 hg1
  refine (callsIn_wide (n := 5)).1 ?_
  refine callsIn_of_wp_marks Try.func12 rfl trivial ?_ rfl
  simp only [Try.ntmps12, List.size_toArray, List.length_cons, List.length_nil, Nat.reduceAdd, Nat.reduceSub, Array.replicate_succ, Array.replicate_zero, List.push_toArray, List.append_toArray, List.nil_append, List.cons_append]
  gi_wp2_with (gi_at_call 19; refine (callsIn_wide.2 (frames_any _ _ _ _)).mono ?_; rintro e w' ⟨rfl, rfl⟩)
  have hsz1 := H1.out
  have hlL := H3.out
  have hsb : ((W1.alloc (.cells #[.slice (some ⟨w.heap.size + 1, 0, none⟩) s.size cap] 41)).cell? ⟨W1.heap.size, 0, none⟩) = some (.slice (some ⟨w.heap.size + 1, 0, none⟩) (lb s).length cap) := by
    rw [hlL]; exact (Boxed.new W1 _ _).cell
  have hby : ∀ j, j < (lb s).length → (W1.alloc (.cells #[.slice (some ⟨w.heap.size + 1, 0, none⟩) s.size cap] 41)).cell? ⟨w.heap.size + 1, j, none⟩ = some (.int .u8 (byteAt (lb s) j)) := fun j hj =>
    (World.cell?_of_block (Below.heap_alloc W1 _ _ (by show w.heap.size + 1 < _; omega))).trans (H2.out j (by omega))
  refine wpIn_rangeFunc_ownG rfl (by omega) (gf := 22) (lb := #[.pointer (some ⟨W1.heap.size, 0, none⟩)]) rfl trivial (enters_of Try.func22 (by kernel_rfl) rfl)
    (frames_stops W1.heap.size (w.heap.size + 1) cap (lb s) (by omega) (by omega) _ (by simp; omega) (by simp) hsb hby) KeepTwo.trans (keepTwo_b (by simp; omega) (by simp)) (Below.refl _ _) (fun _ => rfl)
    (fun pre W => Boxed W w.heap.size 3 (.int .i64 (endOf (lb s) 0 pre : Int)) ∧ Below w.heap.size w W)
    (fun _ _ _ => False)
    ?own (fun _ _ _ _ _ hs _ _ => hs) ?start
    (fun x => { tmps := #[.string s, undef, .bool false, .pointer (some ⟨w.heap.size, 0, none⟩), undef, .int .i64 (x.1.2 : Int), .string s, .slice (some ⟨w.heap.size + 1, 0, none⟩) s.size cap, .func (.func 22) #[] #[.pointer (some ⟨W1.heap.size, 0, none⟩)], win (w.heap.size + 1) x.1.1 x.1.2, .int .i64 (x.1.2 : Int), undef, undef, undef, undef, undef], defers := [] }) ?assign ?body ?done ?stop
  case own =>
    exact OwnFrom.and (Own.from (boxed_own _ _ (fun pre => _)) _) (ownFrom_below (Nat.le_refl _) (by simp; omega))
  case start => exact ⟨H4.out.alloc _, hB1.alloc hB1.size _⟩
  case assign =>
    clear hsz1 hlL
    intro l x W K hK
    gi_wp2
    exact hK
  case body =>
    rintro l pre x W ⟨hT, hB⟩ hlt
    have hc := hT.cell
    have hf := hT.frozen
    clear hsz1 hlL hby hsb hcv hcap H2 H4
    gi_wp2
    have hsz1 := H1.out
    refine ⟨(KeepsOthers.setCell _ _ _).from _, ⟨Below.heap_setCell W _ _ _ (by show _ ≠ w.heap.size; omega), Below.heap_setCell W _ _ _ (by show _ ≠ w.heap.size; omega)⟩, ?_, hB.setCell (p := ⟨w.heap.size, 0, none⟩) (Nat.le_refl _) _⟩
    rw [endOf_snoc]
    exact hT.set _
  case done =>
    rintro D ys W hD rfl ⟨hT, hB⟩ hK
    have hc := hT.cell
    clear hsz1 hlL hby hsb hcv hcap H2 H4
    gi_wp2
    refine ⟨by simp, .inl ⟨_, _, rfl, run_takeDeferred hK, ?_⟩⟩
    exact ⟨_, results_tmp rfl _ _ _, rfl, hB.trans (belowK_b (w := w) (Nat.le_refl _) W D _ _ (by simp at hD; have := hB1.size; omega) hK rfl rfl)⟩
  case stop =>
    rintro D c pre W _ _ h _
    exact h.elim
end Go.Proofs.Ytlojphajdefkdaa
