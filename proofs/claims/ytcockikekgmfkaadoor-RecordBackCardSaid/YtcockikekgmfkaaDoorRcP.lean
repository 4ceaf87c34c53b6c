/-
  Layer 6, the plain part: records and batches; which may be; their bytes, and that these tell them apart.
-/
import Derived.Test.YtcockikekgmfkaaDoorCd
namespace Go.Proofs.YtcockikekgmfkaaDoor
open Go.RowKit

abbrev Rec := ByteArray × ByteArray
def cellsR (l : List Rec) : List Value := l.flatMap fun p => [.string p.1, .string p.2]
theorem cellsR_cons (p : Rec) (l : List Rec) : cellsR (p :: l) = .string p.1 :: .string p.2 :: cellsR l := by simp [cellsR]
theorem cellsR_append (l m : List Rec) : cellsR (l ++ m) = cellsR l ++ cellsR m := by simp [cellsR]
theorem length_cellsR : ∀ l : List Rec, (cellsR l).length = l.length * 2
  | [] => rfl
  | p :: l => by rw [cellsR_cons, List.length_cons, List.length_cons, length_cellsR l, List.length_cons]; omega
theorem cellsR_at : ∀ (l : List Rec) (i : Nat) (p : Rec), l[i]? = some p → (cellsR l)[i * 2]? = some (.string p.1) ∧ (cellsR l)[i * 2 + 1]? = some (.string p.2)
  | [], i, p, h => by simp at h
  | q :: l, 0, p, h => by
    simp at h
    subst h
    rw [cellsR_cons]
    exact ⟨rfl, rfl⟩
  | q :: l, i + 1, p, h => by
    have := cellsR_at l i p (by simpa using h)
    rw [cellsR_cons, show (i + 1) * 2 = i * 2 + 1 + 1 by omega]
    simpa using this
theorem cellsR_one (l : List Rec) : ∀ u ∈ cellsR l, u.oneCell' = true := by
  intro u hu
  simp only [cellsR, List.mem_flatMap] at hu
  obtain ⟨p, _, hu⟩ := hu
  simp at hu
  rcases hu with rfl | rfl <;> rfl
theorem Reads.plain2 {w : World} {B n : Nat} {A : Option Addr} {l : List Rec} (h : Reads w B 2 A n (cellsR l)) (hn : 0 < n) :
    ∃ b off, A = some ⟨b, off, none⟩ ∧ b < B ∧ ∀ i p, l[i]? = some p → w.cell? ⟨b, off + i * 2, none⟩ = some (.string p.1) ∧ w.cell? ⟨b, off + i * 2 + 1, none⟩ = some (.string p.2) := by
  obtain ⟨ad, rfl, hb, hc⟩ := h.2 hn
  obtain ⟨b, off, spot⟩ := ad
  have hl : 0 < (cellsR l).length := by have := h.1; omega
  have h0 := hc 0 _ (List.getElem?_eq_getElem hl)
  have hs : spot = none := by simpa [Addr.add] using World.cell?_spot h0
  subst hs
  refine ⟨b, off, rfl, hb, fun i p hp => ?_⟩
  obtain ⟨h1, h2⟩ := cellsR_at l i p hp
  have k1 := hc _ _ h1
  have k2 := hc _ _ h2
  rw [add_none] at k1 k2
  exact ⟨k1, by rw [Nat.add_assoc]; exact k2⟩

structure Bat where
  pid : Int
  ep : Int
  seq : Int
  txn : Bool
  rs : List Rec
theorem Bat.ext' {a b : Bat} (h1 : a.pid = b.pid) (h2 : a.ep = b.ep) (h3 : a.seq = b.seq) (h4 : a.txn = b.txn) (h5 : a.rs = b.rs) : a = b := by
  obtain ⟨_, _, _, _, _⟩ := a
  obtain ⟨_, _, _, _, _⟩ := b
  simp only at h1 h2 h3 h4 h5
  subst h1; subst h2; subst h3; subst h4; subst h5
  rfl
def Bat0 : Bat := ⟨0, 0, 0, false, []⟩

def badR (r : Rec) : Bool := decide (16 < r.1.size) || decide (16 < r.2.size)
def headB (b : Bat) : Bool := decide (1 ≤ b.pid ∧ b.pid ≤ 8 ∧ 0 ≤ b.ep ∧ b.ep ≤ 100 ∧ 1 ≤ b.rs.length ∧ b.rs.length ≤ 4 ∧ 0 ≤ b.seq ∧ b.seq + b.rs.length ≤ 1048576)
def mayBt (b : Bat) : Bool := headB b && !(b.rs.any badR)
theorem mayBt_iff (b : Bat) : mayBt b = true ↔ (1 ≤ b.pid ∧ b.pid ≤ 8 ∧ 0 ≤ b.ep ∧ b.ep ≤ 100 ∧ 1 ≤ b.rs.length ∧ b.rs.length ≤ 4 ∧ 0 ≤ b.seq ∧ b.seq + b.rs.length ≤ 1048576) ∧ ∀ r ∈ b.rs, r.1.size ≤ 16 ∧ r.2.size ≤ 16 := by
  unfold mayBt headB badR
  rw [Bool.and_eq_true, decide_eq_true_eq, Bool.not_eq_true', List.any_eq_false]
  refine and_congr Iff.rfl (forall_congr' fun r => forall_congr' fun hr => ?_)
  simp

/-- A record's way of writing. -/
def cRec : Cd Rec := ((cTxt 16).bind fun _ => cTxt 16).iso (fun z => (bs z.1, bs z.2)) (fun r => (lb r.1, lb r.2)) (fun _ => True) (fun y => by simp [bs_lb]) (fun x => by simp [lb_bs])
theorem cRec_e (r : Rec) : cRec.e r = (cTxt 1024).e (lb r.1) ++ (cTxt 1024).e (lb r.2) := rfl
theorem cRec_v (r : Rec) : cRec.v r ↔ r.1.size ≤ 16 ∧ r.2.size ≤ 16 := by
  show (((lb r.1).length ≤ 16 ∧ (lb r.1).length ≤ maxNum) ∧ ((lb r.2).length ≤ 16 ∧ (lb r.2).length ≤ maxNum)) ∧ True ↔ _
  rw [length_lb, length_lb, and_true]
  unfold maxNum
  omega
/-- A batch's way of writing. -/
def batOf (z : Nat × Nat × Nat × Bool × Nat × List Rec) : Bat := ⟨z.1, z.2.1, z.2.2.1, z.2.2.2.1, z.2.2.2.2.2⟩
def ofBat (b : Bat) : Nat × Nat × Nat × Bool × Nat × List Rec := (b.pid.toNat, b.ep.toNat, b.seq.toNat, b.txn, b.rs.length, b.rs)
def cBatRaw : Cd (Nat × Nat × Nat × Bool × Nat × List Rec) :=
  (cNum 1 8).bind fun _ => (cNum 0 100).bind fun _ => (cNum 0 1048576).bind fun _ => cFlag.bind fun _ => (cNum 1 4).bind fun n => cRec.rep n
/-- What is read of bytes as a batch, and what is left. -/
def takeBt (l : List UInt8) : Option (Bat × List UInt8) :=
  match cBatRaw.p l with
  | some (z, r) => if mayBt (batOf z) = true then some (batOf z, r) else none
  | none => none
def encBt (b : Bat) : List UInt8 := cBatRaw.e (ofBat b)
theorem encBt_eq (b : Bat) : encBt b = enc b.pid.toNat ++ (enc b.ep.toNat ++ (enc b.seq.toNat ++ (encY b.txn ++ (enc b.rs.length ++ b.rs.flatMap cRec.e)))) := rfl
theorem raw_v {b : Bat} (h : mayBt b = true) : cBatRaw.v (ofBat b) ∧ batOf (ofBat b) = b := by
  obtain ⟨h1, h2⟩ := (mayBt_iff b).1 h
  refine ⟨⟨?_, ?_, ?_, trivial, ?_, ⟨rfl, fun r hr => (cRec_v r).2 (h2 r hr)⟩⟩, ?_⟩
  · show 1 ≤ b.pid.toNat ∧ b.pid.toNat ≤ 8 ∧ b.pid.toNat ≤ maxNum
    unfold maxNum; omega
  · show 0 ≤ b.ep.toNat ∧ b.ep.toNat ≤ 100 ∧ b.ep.toNat ≤ maxNum
    unfold maxNum; omega
  · show 0 ≤ b.seq.toNat ∧ b.seq.toNat ≤ 1048576 ∧ b.seq.toNat ≤ maxNum
    unfold maxNum; omega
  · show 1 ≤ b.rs.length ∧ b.rs.length ≤ 4 ∧ b.rs.length ≤ maxNum
    unfold maxNum; omega
  · refine Bat.ext' ?_ ?_ ?_ rfl rfl
    · show ((b.pid.toNat : Nat) : Int) = b.pid
      omega
    · show ((b.ep.toNat : Nat) : Int) = b.ep
      omega
    · show ((b.seq.toNat : Nat) : Int) = b.seq
      omega
theorem raw_of {z : Nat × Nat × Nat × Bool × Nat × List Rec} (h : cBatRaw.v z) : ofBat (batOf z) = z := by
  obtain ⟨a, b, c, d, n, rs⟩ := z
  obtain ⟨_, _, _, _, _, h6, _⟩ := h
  have h6' : rs.length = n := h6
  simp [ofBat, batOf, h6']
def cBat : Cd Bat where
  p := takeBt
  e := encBt
  v b := mayBt b = true
  law l b r := by
    unfold takeBt
    constructor
    · intro h
      split at h
      · rename_i z r' hz
        split at h
        · rename_i hm
          injection h with h
          injection h with h1 h2
          subst h1; subst h2
          obtain ⟨hv, rfl⟩ := cBatRaw.only hz
          refine ⟨hm, ?_⟩
          unfold encBt
          rw [raw_of hv]
        · cases h
      · cases h
    · rintro ⟨hm, rfl⟩
      obtain ⟨hv, he⟩ := raw_v hm
      unfold encBt
      rw [cBatRaw.back hv]
      simp only [he]
      rw [if_pos hm]

theorem encT_len (s : ByteArray) (h : s.size ≤ 16) : ((cTxt 1024).e (lb s)).length ≤ 17 ∧ 1 ≤ ((cTxt 1024).e (lb s)).length := by
  show (enc (lb s).length ++ lb s).length ≤ 17 ∧ 1 ≤ (enc (lb s).length ++ lb s).length
  rw [List.length_append, length_lb, enc_small _ (by omega)]
  simp; omega
theorem encR_len (r : Rec) (h : r.1.size ≤ 16 ∧ r.2.size ≤ 16) : (cRec.e r).length ≤ 34 := by
  rw [cRec_e, List.length_append]
  have h1 := encT_len r.1 h.1
  have h2 := encT_len r.2 h.2
  omega
theorem encRs_len : ∀ (l : List Rec), (∀ r ∈ l, r.1.size ≤ 16 ∧ r.2.size ≤ 16) → (l.flatMap cRec.e).length ≤ 34 * l.length
  | [], _ => by simp
  | r :: l, h => by
    rw [List.flatMap_cons, List.length_append, List.length_cons]
    have h1 := encR_len r (h r (List.mem_cons_self ..))
    have h2 := encRs_len l fun x hx => h x (List.mem_cons_of_mem _ hx)
    omega
theorem enc_len3 (n : Nat) (h : n ≤ 1048576) : (enc n).length ≤ 3 := by
  have h1 : enc n = encF 2 n := encF_more 2 8 n (by have : (128 : Nat) ^ (2 + 1) = 2097152 := by decide
                                                    rw [this]; omega) (by omega)
  rw [h1]; exact (encF_len 2 n).2
/-- A batch's bytes are few, and there are some. -/
theorem encBt_len (b : Bat) (h : mayBt b = true) : (encBt b).length ≤ 160 ∧ 1 ≤ (encBt b).length := by
  obtain ⟨h1, h2⟩ := (mayBt_iff b).1 h
  rw [encBt_eq]
  simp only [List.length_append]
  have e1 : (enc b.pid.toNat).length = 1 := by rw [enc_small _ (by omega)]; rfl
  have e2 : (enc b.ep.toNat).length = 1 := by rw [enc_small _ (by omega)]; rfl
  have e3 := enc_len3 b.seq.toNat (by omega)
  have e4 : (encY b.txn).length = 1 := rfl
  have e5 : (enc b.rs.length).length = 1 := by rw [enc_small _ (by omega)]; rfl
  have e6 := encRs_len b.rs h2
  omega

/-- How great a batch is. -/
def greatS : List Rec → Nat
  | [] => 0
  | r :: l => min r.1.size 5000 + min r.2.size 5000 + greatS l
theorem greatS_append (l m : List Rec) : greatS (l ++ m) = greatS l + greatS m := by
  induction l with
  | nil => simp [greatS]
  | cons r l ih => simp only [List.cons_append, greatS, ih]; omega
theorem greatS_le (l : List Rec) : greatS l ≤ 10000 * l.length := by
  induction l with
  | nil => simp [greatS]
  | cons r l ih => simp only [greatS, List.length_cons]; omega
def greatBt (b : Bat) : Bool := decide (60 < b.rs.length) || decide (4000 < greatS b.rs)
theorem greatS_mem {l : List Rec} {r : Rec} (h : r ∈ l) (hs : greatS l ≤ 4000) : r.1.size ≤ 4000 ∧ r.2.size ≤ 4000 := by
  induction l with
  | nil => cases h
  | cons x l ih =>
    simp only [greatS] at hs
    rcases List.mem_cons.1 h with rfl | h
    · omega
    · exact ih h (by omega)
theorem not_great {b : Bat} (h : greatBt b = false) : b.rs.length ≤ 60 ∧ ∀ r ∈ b.rs, r.1.size ≤ 4000 ∧ r.2.size ≤ 4000 := by
  unfold greatBt at h
  simp only [Bool.or_eq_false_iff, decide_eq_false_iff_not] at h
  exact ⟨by omega, fun r hr => greatS_mem hr (by omega)⟩
end Go.Proofs.YtcockikekgmfkaaDoor
