/-
  The statements' own example (wakes) holds.
-/
import Derived.Test.YtlojphajdefkdaaFrE
import Derived.Test.YtlojphajdefkdaaFrF
namespace Go.Proofs.Ytlojphajdefkdaa
open Go.RowKit

theorem wake_spans : (spans (lb ⟨#[1, 0, 0, 0, 97, 2]⟩) 0).map (fun p => (p.1, loadOf _ p)) = [((4, 5), [97])] := by decide +kernel
theorem wake_end : endOf (lb ⟨#[1, 0, 0, 0, 97, 2]⟩) 0 (spans (lb ⟨#[1, 0, 0, 0, 97, 2]⟩) 0) = 5 := by decide +kernel

set_option maxHeartbeats 400000 in
theorem wakes_any (w : World) : Calls Try.prog 7 #[] w fun e w' => e = .returned (.bool true) ∧ Below w.heap.size w w' := by
  have h3 : frSize 3 = 7 := by decide
  have H3 := Lib.hid h3; clear h3
  go_enter Try.func7, Try.ntmps7
  go_wp2_with fail
  refine (all_any ⟨#[1, 0, 0, 0, 97, 2]⟩ w (by decide)).mono ?_
  rintro e w1 ⟨A, c, rfl, hr, _, hb⟩
  have hn : (spans (lb ⟨#[1, 0, 0, 0, 97, 2]⟩) 0).length = 1 := by rw [← List.length_map (f := fun p => (p.1, loadOf _ p)), wake_spans]; rfl
  have hl : loadsV (lb ⟨#[1, 0, 0, 0, 97, 2]⟩) (spans (lb ⟨#[1, 0, 0, 0, 97, 2]⟩) 0) = [.string ⟨#[97]⟩] := by
    have h1 : loadsV (lb ⟨#[1, 0, 0, 0, 97, 2]⟩) (spans (lb ⟨#[1, 0, 0, 0, 97, 2]⟩) 0) = ((spans (lb ⟨#[1, 0, 0, 0, 97, 2]⟩) 0).map (fun p => (p.1, loadOf _ p))).map (fun q => Value.string (bs q.2)) := by simp [loadsV]
    rw [h1, wake_spans]; rfl
  have hll : (lb ⟨#[1, 0, 0, 0, 97, 2]⟩).length = 6 := rfl
  rw [hn, hl] at hr
  rw [hn, wake_end, hll]
  obtain ⟨b, off, rfl, hbb, hc⟩ := hr.plain (by omega)
  have hc0 := hc 0 _ rfl
  rw [Nat.add_zero] at hc0
  have hd : ((1 : Int) == 1) = true := rfl
  clear hc hr hn hl hll
  go_wp2_with (go_at_call 11; refine (size_any _ _).mono ?_; rintro e w' ⟨rfl, rfl⟩; rw [H3.out])
  go_ret
  exact ⟨rfl, hb⟩
end Go.Proofs.Ytlojphajdefkdaa
