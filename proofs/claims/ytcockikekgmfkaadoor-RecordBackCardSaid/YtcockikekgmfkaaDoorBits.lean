/-
  Plain facts on Go's bit operations at int and byte: or of two numbers whose bits lie apart is their sum; and with 127 is the rest by 128.
-/
import Derived.WalkKit
import Derived.LaidEql
namespace Go.Proofs.YtcockikekgmfkaaDoor

theorem wraps_i64 (n : Int) (h0 : 0 ≤ n) (h1 : n < 2 ^ 62) : IntKind.i64.wrap n = n := by rw [IntKind.wrap_i64]; omega

theorem bits_or_comm (k : IntKind) (x y : Int) : bits .or k x y = bits .or k y x := by
  simp only [bits, BitVec.or_comm]

/-- The lower bits are x's, the higher ones y's. -/
theorem or_i64 (i : Nat) (x y : Int) (hy0 : 0 ≤ y) (hy : y % 2 ^ i = 0) (hy1 : y < 2 ^ 62) (hx0 : 0 ≤ x) (hx : x < 2 ^ i) (hx1 : x < 2 ^ 62) :
    bits .or .i64 x y = x + y := by
  rw [bits_or_comm, bits_join .i64 62 (by decide) wraps_i64 i y x hy0 hy hy1 hx0 hx hx1]; omega

theorem and_i64_127 (x : Int) (h0 : 0 ≤ x) (h1 : x < 2 ^ 62) : bits .and .i64 x 127 = x % 128 :=
  bits_mask .i64 62 (by decide) wraps_i64 7 (by decide) x h0 h1

theorem and_u8_127 (x : Int) (h0 : 0 ≤ x) (h1 : x < 256) : bits .and .u8 x 127 = x % 128 :=
  bits_mask .u8 8 (by decide) wraps_u8 7 (by decide) x h0 h1

theorem or_i64_128 (x : Int) (h0 : 0 ≤ x) (h1 : x < 128) : bits .or .i64 x 128 = x + 128 :=
  or_i64 7 x 128 (by decide) (by decide) (by decide) h0 h1 (by omega)

/-- The highest bit of a byte. -/
theorem and_u8_128 (x : Int) (h0 : 0 ≤ x) (h1 : x < 256) : bits .and .u8 x 128 = if x < 128 then 0 else 128 := by
  obtain ⟨a, rfl⟩ := Int.eq_ofNat_of_zero_le h0
  have ha : a < 256 := by omega
  rw [show (128 : Int) = ((128 : Nat) : Int) from rfl, u8_and_nat a 128 ha (by decide)]
  have : ∀ a : Fin 256, ((a.val &&& 128 : Nat) : Int) = if (a.val : Int) < ((128 : Nat) : Int) then 0 else ((128 : Nat) : Int) := by decide +kernel
  exact this ⟨a, ha⟩

/-- Four bytes, the lowest first, put together by or. -/
def le4 (a b c d : Int) : Int := a + 256 * b + 65536 * c + 16777216 * d

theorem or_le4 (a b c d : Int) (ha : 0 ≤ a) (ha' : a < 256) (hb : 0 ≤ b) (hb' : b < 256) (hc : 0 ≤ c) (hc' : c < 256) (hd : 0 ≤ d) (hd' : d < 256) :
    bits .or .i64 (bits .or .i64 (bits .or .i64 (bits .or .i64 0 a) (b * 256)) (c * 65536)) (d * 16777216) = le4 a b c d := by
  rw [or_i64 0 0 a (by omega) (by omega) (by omega) (by omega) (by omega) (by omega)]
  rw [or_i64 8 (0 + a) (b * 256) (by omega) (by omega) (by omega) (by omega) (by omega) (by omega)]
  rw [or_i64 16 (0 + a + b * 256) (c * 65536) (by omega) (by omega) (by omega) (by omega) (by omega) (by omega)]
  rw [or_i64 24 (0 + a + b * 256 + c * 65536) (d * 16777216) (by omega) (by omega) (by omega) (by omega) (by omega) (by omega)]
  unfold le4; omega

section
variable {P : Program} (w : World)

theorem run_equalIn_iface_int (d : Nat) {ti tn : TypeId} {ms : Array (String × TypeId)} {i : TypeInfo} {k : IntKind} (a b : Int)
    (hi : P.underlying ti = some (.interface ms)) (hn : P.underlying tn = some (.int k)) (hinfo : P.info? tn = some i) (hcomp : i.comparable = true) :
    (Op.equalIn (d + 2) ti (.iface tn (.int k a)) (.iface tn (.int k b))).run P w = .ok (a == b) w := by
  simp [Op.equalIn, run_underlying hi, run_underlying hn, typeInfo, hinfo, hcomp]

/-- Two interface values of one integer type are the same if the numbers are. -/
theorem run_eql_iface_int {ti tn : TypeId} {ms : Array (String × TypeId)} {i : TypeInfo} {k : IntKind} (a b : Int)
    (hi : P.underlying ti = some (.interface ms)) (hn : P.underlying tn = some (.int k)) (hinfo : P.info? tn = some i) (hcomp : i.comparable = true) :
    (binOp .eql ti (.iface tn (.int k a)) (.iface tn (.int k b))).run P w = .ok (.bool (a == b)) w := by
  simp only [binOp]
  simp [Op.equal, Op.maxDepth, run_equalIn_iface_int w 9998 a b hi hn hinfo hcomp]
end
end Go.Proofs.YtcockikekgmfkaaDoor
