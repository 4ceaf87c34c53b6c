/-
  Layer 2, the document's reader: Text, Flag; New, End, Wrong.
  Layer 2, the document's reader: Number.
-/
import Derived.Test.YtckdecodpjfcnaaDoorGrp11
import Derived.Deep.RegionHeld
namespace Go.Proofs.YtckdecodpjfcnaaDoor
open Go.RowKit

/-- The document's Get of a text's bytes. -/
def rGetPost (z : Int × Int × Int) (w : World) (e : Ending) (w' : World) : Prop := e = .returned (.tuple #[.int .i64 z.1, .int .i64 z.2.1, .int .i64 z.2.2]) ∧ w = w'
theorem getOf_nat (l : List UInt8) (i : Nat) (hi : i ≤ l.length) :
    getOf l i = match dec (l.drop i) with | none => (0, 0, 70) | some (n, m) => ((n : Int), (i : Int) + m, 0) := by
  unfold getOf
  rw [if_neg (by omega), Int.toNat_natCast]
  rfl

end Go.Proofs.YtckdecodpjfcnaaDoor
namespace Go.Proofs.YtckdecodpjfcnaaDoor
open Go.RowKit

theorem extract_eq (s : ByteArray) (i n : Nat) : s.extract i (i + n) = bs (((lb s).drop i).take n) := by
  apply lb_inj
  rw [lb_extract, lb_bs, List.drop_take]
  congr 1
  omega

theorem idx_text (s : ByteArray) (i : Nat) (c : UInt8) (hc : (lb s)[i]? = some c) (W : World) : (Instr.index 9 (.string s) (.int .i64 (i : Int))).run Tryd.prog W = .ok (.int .u8 (c.toNat : Int)) W := by
  have hlt : i < s.size := by rw [← length_lb]; exact (List.getElem?_eq_some_iff.1 hc).1
  rw [run_index_string W 9 s .i64 i Tryd.underlying9, dif_pos ⟨by omega, by omega⟩]
  have h2 := (List.getElem?_eq_some_iff.1 hc).2
  have : s[(i : Int).toNat]'(by simpa using hlt) = c := by rw [← h2]; rfl
  rw [this]

end Go.Proofs.YtckdecodpjfcnaaDoor
