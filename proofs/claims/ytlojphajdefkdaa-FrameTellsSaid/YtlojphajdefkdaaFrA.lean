/-
  Package frame's leaves: Size, head, load: what each call gives.
-/
import Derived.Test.YtlojphajdefkdaaRows
import Derived.Test.YtlojphajdefkdaaBits
import Derived.Test.YtlojphajdefkdaaWords
import Derived.WalkKit
import Derived.WalkSpells
import Derived.Lib.Hide
import Derived.WalkLawsBesides
namespace Go.Proofs.Ytlojphajdefkdaa
open Go.RowKit

/-- frame.Size, plainly. -/
def frSize (n : Int) : Int := if n < 0 ∨ 1024 < n then 0 else 4 + n

set_option maxHeartbeats 400000 in
theorem size_any (n : Int) (w : World) :
    Calls Try.prog 11 #[.int .i64 n] w fun e w' => e = .returned (.int .i64 (frSize n)) ∧ w = w' := by
  by_cases h1 : n < 0
  · go_enter Try.func11, Try.ntmps11
    go_wp2
    go_ret
    exact ⟨by simp [frSize, h1], rfl⟩
  · by_cases h2 : 1024 < n
    · go_enter Try.func11, Try.ntmps11
      go_wp2
      go_ret
      exact ⟨by simp [frSize, h2], rfl⟩
    · go_enter Try.func11, Try.ntmps11
      go_wp2
      go_ret
      exact ⟨by rw [frSize, if_neg (by omega)]; rfl, rfl⟩

set_option maxHeartbeats 400000 in
theorem head_any (n : Int) (w : World) (h0 : 0 ≤ n) (h1 : n ≤ 1024) :
    Calls Try.prog 24 #[.int .i64 n] w fun e w' => e = .returned (.agg #[.int .u8 (n % 256), .int .u8 (n / 256), .int .u8 0, .int .u8 0]) ∧ Below w.heap.size w w' := by
  go_enter Try.func24, Try.ntmps24
  go_wp2
  refine wp_loop_rounds 5 ?_
  iterate 5 (rw [rounds_succ]; go_wp2)
  rw [show n / 65536 = 0 by omega, show n / 16777216 = 0 by omega]
  refine bodyPost_ret (v := .agg #[.int .u8 (n % 256), .int .u8 (n / 256), .int .u8 0, .int .u8 0]) (by simp [results, Try.results24, go_sem]) rfl ⟨rfl, ?_⟩
  exact ((Below.refl _ _).alloc (Nat.le_refl _) _).alloc (by simp) _

set_option maxHeartbeats 400000 in
theorem load_any (a b c d : Int) (w : World) (ha : 0 ≤ a) (ha' : a < 256) (hb : 0 ≤ b) (hb' : b < 256) (hc : 0 ≤ c) (hc' : c < 256) (hd : 0 ≤ d) (hd' : d < 256) :
    Calls Try.prog 23 #[.agg #[.int .u8 a, .int .u8 b, .int .u8 c, .int .u8 d]] w fun e w' => e = .returned (.int .i64 (le4 a b c d)) ∧ Below w.heap.size w w' := by
  go_enter Try.func23, Try.ntmps23
  go_wp2
  refine wp_loop_rounds 5 ?_
  iterate 5 (rw [rounds_succ]; go_wp2)
  rw [or_le4 a b c d ha ha' hb hb' hc hc' hd hd']
  go_ret
  exact ⟨rfl, (Below.refl _ _).alloc (Nat.le_refl _) _⟩
end Go.Proofs.Ytlojphajdefkdaa
