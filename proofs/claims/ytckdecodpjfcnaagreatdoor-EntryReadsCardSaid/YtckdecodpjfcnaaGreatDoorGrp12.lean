/-
  Layer 6: record.Rows.
-/
import Derived.Test.YtckdecodpjfcnaaGreatDoorGrp11
set_option linter.unusedVariables false
set_option linter.unusedSimpArgs false
namespace Go.Proofs.YtckdecodpjfcnaaGreatDoor
open Go.RowKit

abbrev Rw := Int × Int × Int × ByteArray × ByteArray
def cellsW (l : List Rw) : List Value := l.flatMap fun p => [.int .i64 p.1, .int .i64 p.2.1, .int .i64 p.2.2.1, .string p.2.2.2.1, .string p.2.2.2.2]
theorem cellsW_cons (p : Rw) (l : List Rw) : cellsW (p :: l) = .int .i64 p.1 :: .int .i64 p.2.1 :: .int .i64 p.2.2.1 :: .string p.2.2.2.1 :: .string p.2.2.2.2 :: cellsW l := by simp [cellsW]
theorem cellsW_append (l m : List Rw) : cellsW (l ++ m) = cellsW l ++ cellsW m := by simp [cellsW]
theorem length_cellsW : ∀ l : List Rw, (cellsW l).length = l.length * 5
  | [] => rfl
  | p :: l => by rw [cellsW_cons, List.length_cons, List.length_cons, List.length_cons, List.length_cons, List.length_cons, length_cellsW l, List.length_cons]; omega
theorem cellsW_at : ∀ (l : List Rw) (i : Nat) (p : Rw), l[i]? = some p → (cellsW l)[i * 5]? = some (.int .i64 p.1) ∧ (cellsW l)[i * 5 + 1]? = some (.int .i64 p.2.1) ∧ (cellsW l)[i * 5 + 2]? = some (.int .i64 p.2.2.1) ∧ (cellsW l)[i * 5 + 3]? = some (.string p.2.2.2.1) ∧ (cellsW l)[i * 5 + 4]? = some (.string p.2.2.2.2)
  | [], i, p, h => by simp at h
  | q :: l, 0, p, h => by
    simp at h
    subst h
    rw [cellsW_cons]
    exact ⟨rfl, rfl, rfl, rfl, rfl⟩
  | q :: l, i + 1, p, h => by
    have := cellsW_at l i p (by simpa using h)
    rw [cellsW_cons, show (i + 1) * 5 = i * 5 + 1 + 1 + 1 + 1 + 1 by omega]
    simpa using this
theorem cellsW_one (l : List Rw) : ∀ u ∈ cellsW l, u.oneCell' = true := by
  intro u hu
  simp only [cellsW, List.mem_flatMap] at hu
  obtain ⟨p, _, hu⟩ := hu
  simp at hu
  rcases hu with rfl | rfl | rfl | rfl | rfl <;> rfl
theorem Reads.plain5 {w : World} {B n : Nat} {A : Option Addr} {l : List Rw} (h : Reads w B 5 A n (cellsW l)) (hn : 0 < n) :
    ∃ b off, A = some ⟨b, off, none⟩ ∧ b < B ∧ ∀ i p, l[i]? = some p → w.cell? ⟨b, off + i * 5, none⟩ = some (.int .i64 p.1) ∧ w.cell? ⟨b, off + i * 5 + 1, none⟩ = some (.int .i64 p.2.1) ∧ w.cell? ⟨b, off + i * 5 + 2, none⟩ = some (.int .i64 p.2.2.1) ∧ w.cell? ⟨b, off + i * 5 + 3, none⟩ = some (.string p.2.2.2.1) ∧ w.cell? ⟨b, off + i * 5 + 4, none⟩ = some (.string p.2.2.2.2) := by
  obtain ⟨ad, rfl, hb, hc⟩ := h.2 hn
  obtain ⟨b, off, spot⟩ := ad
  have hl : 0 < (cellsW l).length := by have := h.1; omega
  have h0 := hc 0 _ (List.getElem?_eq_getElem hl)
  have hs : spot = none := by simpa [Addr.add] using World.cell?_spot h0
  subst hs
  refine ⟨b, off, rfl, hb, fun i p hp => ?_⟩
  obtain ⟨h1, h2, h3, h4, h5⟩ := cellsW_at l i p hp
  have k1 := hc _ _ h1
  have k2 := hc _ _ h2
  have k3 := hc _ _ h3
  have k4 := hc _ _ h4
  have k5 := hc _ _ h5
  rw [add_none] at k1 k2 k3 k4 k5
  exact ⟨k1, by rw [Nat.add_assoc]; exact k2, by rw [Nat.add_assoc]; exact k3, by rw [Nat.add_assoc]; exact k4, by rw [Nat.add_assoc]; exact k5⟩

/-- A record as a row. -/
def rowAt (b : Bat) (off : Int) (i : Nat) (r : Rec) : Rw := (if off = -1 then -1 else wrap64 (off + (i : Int)), b.pid, wrap64 (b.seq + (i : Int)), r.1, r.2)
def rowsTo (b : Bat) (off : Int) : Nat → List Rw
  | 0 => []
  | k + 1 => rowsTo b off k ++ (match b.rs[k]? with | some r => [rowAt b off k r] | none => [])
theorem rowsTo_succ (b : Bat) (off : Int) (k : Nat) (r : Rec) (h : b.rs[k]? = some r) : rowsTo b off (k + 1) = rowsTo b off k ++ [rowAt b off k r] := by rw [rowsTo, h]
theorem rowsTo_len (b : Bat) (off : Int) : ∀ k, k ≤ b.rs.length → (rowsTo b off k).length = k
  | 0, _ => rfl
  | k + 1, h => by
    have hk : b.rs[k]? = some b.rs[k] := List.getElem?_eq_getElem (by omega)
    rw [rowsTo_succ b off k _ hk, List.length_append, rowsTo_len b off k (by omega)]; rfl
def rowsBt (b : Bat) (off : Int) : List Rw := rowsTo b off b.rs.length
theorem rowsBt_len (b : Bat) (off : Int) : (rowsBt b off).length = b.rs.length := rowsTo_len b off _ (Nat.le_refl _)
theorem rowsTo_at (b : Bat) (off : Int) : ∀ (n k : Nat) (r : Rec), n ≤ b.rs.length → k < n → b.rs[k]? = some r → (rowsTo b off n)[k]? = some (rowAt b off k r)
  | 0, k, r, _, h, _ => by omega
  | n + 1, k, r, hn, h, hr => by
    have hk : b.rs[n]? = some b.rs[n] := List.getElem?_eq_getElem (by omega)
    rw [rowsTo_succ b off n _ hk]
    have hl := rowsTo_len b off n (by omega)
    rcases Nat.lt_or_ge k n with h1 | h1
    · rw [List.getElem?_append_left (by omega)]
      exact rowsTo_at b off n k r (by omega) h1 hr
    · obtain rfl : k = n := by omega
      rw [List.getElem?_append_right (by omega), hl, Nat.sub_self]
      rw [hk] at hr
      injection hr with hr
      rw [hr]; rfl

theorem infoW : (Tryz.prog.info? 27).map (fun i => (i.zero, i.size, i.bytes)) = some (some (.agg #[.int .i64 0, .int .i64 0, .int .i64 0, .string ByteArray.empty, .string ByteArray.empty]), 5, 56) := by kernel_rfl
theorem reads_newW (w : World) (t : TypeId) (p : Rw) (g : Nat) (hg : w.heap.size = g) : Reads (w.alloc (.cells #[.int .i64 p.1, .int .i64 p.2.1, .int .i64 p.2.2.1, .string p.2.2.2.1, .string p.2.2.2.2] t)) (g + 1) 5 (some ⟨g, 0, none⟩) 1 (cellsW [p]) := by
  subst hg
  refine ⟨by rw [length_cellsW]; rfl, fun _ => ⟨_, rfl, Nat.lt_succ_self _, fun j u hu => ?_⟩⟩
  rw [add_none, Nat.zero_add]
  rw [(Blk.new w t _).cell j]
  have e : cellsW [p] = (#[.int .i64 p.1, .int .i64 p.2.1, .int .i64 p.2.2.1, .string p.2.2.2.1, .string p.2.2.2.2] : Array Value).toList := by rw [cellsW_cons]; rfl
  rw [e] at hu
  simpa using hu

/-- A list of rows, in new memory. -/
def RowsPost (l : List Rw) (w : World) (e : Ending) (w' : World) : Prop :=
  ∃ A c, e = .returned (.slice A l.length c) ∧ Reads w' w'.heap.size 5 A l.length (cellsW l) ∧ l.length ≤ c ∧ Below w.heap.size w w'

end Go.Proofs.YtckdecodpjfcnaaGreatDoor
