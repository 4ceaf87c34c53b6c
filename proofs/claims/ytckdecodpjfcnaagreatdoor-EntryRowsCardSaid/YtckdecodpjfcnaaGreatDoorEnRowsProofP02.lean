/-
  Package varint's place.next: what it gives.
  Layer 6, the plain part: records and batches; which may be; their bytes, and that these tell them apart.
  A batch, read field by field, plainly. No program in sight.
  Requests, plainly: their fields, which may be, their bytes; bytes are read as what was written. No program in sight.
  errors.As, errors.Is at an error that wraps its code: what the library's entries give. (After the guide's worked text for errors.As at a concrete target.)
  errors.As and errors.Is at an error of type varint.broken, which wraps its code.
  The code that an error of package varint wraps.
  Package varint's Len, put, Put: what each call gives.
  Package varint's Put: what it gives.
-/
import Derived.Test.YtckdecodpjfcnaaGreatDoorEnRowsProofP01
import Derived.Test.YtckdecodpjfcnaaGreatDoorRows
import Derived.WalkKit
import Derived.LaidEql
import Derived.Stop.Asserts
import Derived.RowKitTokens
import Derived.Lib.Hide
import Derived.LoopN
import Derived.Laws.CopyRow
import Derived.Laws.CopyOwn
set_option linter.unusedVariables false
set_option linter.unusedSimpArgs false
namespace Go.Proofs.YtckdecodpjfcnaaGreatDoor
open Go.RowKit

abbrev Rec := ByteArray × ByteArray
def cellsR (l : List Rec) : List Value := l.flatMap fun p => [.string p.1, .string p.2]
theorem cellsR_cons (p : Rec) (l : List Rec) : cellsR (p :: l) = .string p.1 :: .string p.2 :: cellsR l := by simp [cellsR]
theorem cellsR_append (l m : List Rec) : cellsR (l ++ m) = cellsR l ++ cellsR m := by simp [cellsR]
theorem length_cellsR : ∀ l : List Rec, (cellsR l).length = l.length * 2
  | [] => rfl
  | p :: l => by rw [cellsR_cons, List.length_cons, List.length_cons, length_cellsR l, List.length_cons]; omega
theorem cellsR_at : ∀ (l : List Rec) (i : Nat) (p : Rec), l[i]? = some p → (cellsR l)[i * 2]? = some (.string p.1) ∧ (cellsR l)[i * 2 + 1]? = some (.string p.2)
  | [], i, p, h => by simp at h
  | q :: l, 0, p, h => by
    simp at h
    subst h
    rw [cellsR_cons]
    exact ⟨rfl, rfl⟩
  | q :: l, i + 1, p, h => by
    have := cellsR_at l i p (by simpa using h)
    rw [cellsR_cons, show (i + 1) * 2 = i * 2 + 1 + 1 by omega]
    simpa using this
theorem cellsR_one (l : List Rec) : ∀ u ∈ cellsR l, u.oneCell' = true := by
  intro u hu
  simp only [cellsR, List.mem_flatMap] at hu
  obtain ⟨p, _, hu⟩ := hu
  simp at hu
  rcases hu with rfl | rfl <;> rfl
theorem Reads.plain2 {w : World} {B n : Nat} {A : Option Addr} {l : List Rec} (h : Reads w B 2 A n (cellsR l)) (hn : 0 < n) :
    ∃ b off, A = some ⟨b, off, none⟩ ∧ b < B ∧ ∀ i p, l[i]? = some p → w.cell? ⟨b, off + i * 2, none⟩ = some (.string p.1) ∧ w.cell? ⟨b, off + i * 2 + 1, none⟩ = some (.string p.2) := by
  obtain ⟨ad, rfl, hb, hc⟩ := h.2 hn
  obtain ⟨b, off, spot⟩ := ad
  have hl : 0 < (cellsR l).length := by have := h.1; omega
  have h0 := hc 0 _ (List.getElem?_eq_getElem hl)
  have hs : spot = none := by simpa [Addr.add] using World.cell?_spot h0
  subst hs
  refine ⟨b, off, rfl, hb, fun i p hp => ?_⟩
  obtain ⟨h1, h2⟩ := cellsR_at l i p hp
  have k1 := hc _ _ h1
  have k2 := hc _ _ h2
  rw [add_none] at k1 k2
  exact ⟨k1, by rw [Nat.add_assoc]; exact k2⟩

structure Bat where
  pid : Int
  ep : Int
  seq : Int
  txn : Bool
  rs : List Rec
theorem Bat.ext' {a b : Bat} (h1 : a.pid = b.pid) (h2 : a.ep = b.ep) (h3 : a.seq = b.seq) (h4 : a.txn = b.txn) (h5 : a.rs = b.rs) : a = b := by
  obtain ⟨_, _, _, _, _⟩ := a
  obtain ⟨_, _, _, _, _⟩ := b
  simp only at h1 h2 h3 h4 h5
  subst h1; subst h2; subst h3; subst h4; subst h5
  rfl
def Bat0 : Bat := ⟨0, 0, 0, false, []⟩

def badR (r : Rec) : Bool := decide (16 < r.1.size) || decide (16 < r.2.size)
def headB (b : Bat) : Bool := decide (1 ≤ b.pid ∧ b.pid ≤ 8 ∧ 0 ≤ b.ep ∧ b.ep ≤ 100 ∧ 1 ≤ b.rs.length ∧ b.rs.length ≤ 4 ∧ 0 ≤ b.seq ∧ b.seq + b.rs.length ≤ 1048576)
def mayBt (b : Bat) : Bool := headB b && !(b.rs.any badR)
theorem mayBt_iff (b : Bat) : mayBt b = true ↔ (1 ≤ b.pid ∧ b.pid ≤ 8 ∧ 0 ≤ b.ep ∧ b.ep ≤ 100 ∧ 1 ≤ b.rs.length ∧ b.rs.length ≤ 4 ∧ 0 ≤ b.seq ∧ b.seq + b.rs.length ≤ 1048576) ∧ ∀ r ∈ b.rs, r.1.size ≤ 16 ∧ r.2.size ≤ 16 := by
  unfold mayBt headB badR
  rw [Bool.and_eq_true, decide_eq_true_eq, Bool.not_eq_true', List.any_eq_false]
  refine and_congr Iff.rfl (forall_congr' fun r => forall_congr' fun hr => ?_)
  simp

/-- A record's way of writing. -/
def cRec : Cd Rec := ((cTxt 16).bind fun _ => cTxt 16).iso (fun z => (bs z.1, bs z.2)) (fun r => (lb r.1, lb r.2)) (fun _ => True) (fun y => by simp [bs_lb]) (fun x => by simp [lb_bs])
theorem cRec_e (r : Rec) : cRec.e r = (cTxt 1024).e (lb r.1) ++ (cTxt 1024).e (lb r.2) := rfl
theorem cRec_v (r : Rec) : cRec.v r ↔ r.1.size ≤ 16 ∧ r.2.size ≤ 16 := by
  show (((lb r.1).length ≤ 16 ∧ (lb r.1).length ≤ maxNum) ∧ ((lb r.2).length ≤ 16 ∧ (lb r.2).length ≤ maxNum)) ∧ True ↔ _
  rw [length_lb, length_lb, and_true]
  unfold maxNum
  omega
/-- A batch's way of writing. -/
def batOf (z : Nat × Nat × Nat × Bool × Nat × List Rec) : Bat := ⟨z.1, z.2.1, z.2.2.1, z.2.2.2.1, z.2.2.2.2.2⟩
def ofBat (b : Bat) : Nat × Nat × Nat × Bool × Nat × List Rec := (b.pid.toNat, b.ep.toNat, b.seq.toNat, b.txn, b.rs.length, b.rs)
def cBatRaw : Cd (Nat × Nat × Nat × Bool × Nat × List Rec) :=
  (cNum 1 8).bind fun _ => (cNum 0 100).bind fun _ => (cNum 0 1048576).bind fun _ => cFlag.bind fun _ => (cNum 1 4).bind fun n => cRec.rep n
/-- What is read of bytes as a batch, and what is left. -/
def takeBt (l : List UInt8) : Option (Bat × List UInt8) :=
  match cBatRaw.p l with
  | some (z, r) => if mayBt (batOf z) = true then some (batOf z, r) else none
  | none => none
def encBt (b : Bat) : List UInt8 := cBatRaw.e (ofBat b)
theorem encBt_eq (b : Bat) : encBt b = enc b.pid.toNat ++ (enc b.ep.toNat ++ (enc b.seq.toNat ++ (encY b.txn ++ (enc b.rs.length ++ b.rs.flatMap cRec.e)))) := rfl
theorem raw_v {b : Bat} (h : mayBt b = true) : cBatRaw.v (ofBat b) ∧ batOf (ofBat b) = b := by
  obtain ⟨h1, h2⟩ := (mayBt_iff b).1 h
  refine ⟨⟨?_, ?_, ?_, trivial, ?_, ⟨rfl, fun r hr => (cRec_v r).2 (h2 r hr)⟩⟩, ?_⟩
  · show 1 ≤ b.pid.toNat ∧ b.pid.toNat ≤ 8 ∧ b.pid.toNat ≤ maxNum
    unfold maxNum; omega
  · show 0 ≤ b.ep.toNat ∧ b.ep.toNat ≤ 100 ∧ b.ep.toNat ≤ maxNum
    unfold maxNum; omega
  · show 0 ≤ b.seq.toNat ∧ b.seq.toNat ≤ 1048576 ∧ b.seq.toNat ≤ maxNum
    unfold maxNum; omega
  · show 1 ≤ b.rs.length ∧ b.rs.length ≤ 4 ∧ b.rs.length ≤ maxNum
    unfold maxNum; omega
  · refine Bat.ext' ?_ ?_ ?_ rfl rfl
    · show ((b.pid.toNat : Nat) : Int) = b.pid
      omega
    · show ((b.ep.toNat : Nat) : Int) = b.ep
      omega
    · show ((b.seq.toNat : Nat) : Int) = b.seq
      omega
theorem raw_of {z : Nat × Nat × Nat × Bool × Nat × List Rec} (h : cBatRaw.v z) : ofBat (batOf z) = z := by
  obtain ⟨a, b, c, d, n, rs⟩ := z
  obtain ⟨_, _, _, _, _, h6, _⟩ := h
  have h6' : rs.length = n := h6
  simp [ofBat, batOf, h6']
def cBat : Cd Bat where
  p := takeBt
  e := encBt
  v b := mayBt b = true
  law l b r := by
    unfold takeBt
    constructor
    · intro h
      split at h
      · rename_i z r' hz
        split at h
        · rename_i hm
          injection h with h
          injection h with h1 h2
          subst h1; subst h2
          obtain ⟨hv, rfl⟩ := cBatRaw.only hz
          refine ⟨hm, ?_⟩
          unfold encBt
          rw [raw_of hv]
        · cases h
      · cases h
    · rintro ⟨hm, rfl⟩
      obtain ⟨hv, he⟩ := raw_v hm
      unfold encBt
      rw [cBatRaw.back hv]
      simp only [he]
      rw [if_pos hm]

theorem encT_len (s : ByteArray) (h : s.size ≤ 16) : ((cTxt 1024).e (lb s)).length ≤ 17 ∧ 1 ≤ ((cTxt 1024).e (lb s)).length := by
  show (enc (lb s).length ++ lb s).length ≤ 17 ∧ 1 ≤ (enc (lb s).length ++ lb s).length
  rw [List.length_append, length_lb, enc_small _ (by omega)]
  simp; omega
theorem encR_len (r : Rec) (h : r.1.size ≤ 16 ∧ r.2.size ≤ 16) : (cRec.e r).length ≤ 34 := by
  rw [cRec_e, List.length_append]
  have h1 := encT_len r.1 h.1
  have h2 := encT_len r.2 h.2
  omega
theorem encRs_len : ∀ (l : List Rec), (∀ r ∈ l, r.1.size ≤ 16 ∧ r.2.size ≤ 16) → (l.flatMap cRec.e).length ≤ 34 * l.length
  | [], _ => by simp
  | r :: l, h => by
    rw [List.flatMap_cons, List.length_append, List.length_cons]
    have h1 := encR_len r (h r (List.mem_cons_self ..))
    have h2 := encRs_len l fun x hx => h x (List.mem_cons_of_mem _ hx)
    omega
theorem enc_len3 (n : Nat) (h : n ≤ 1048576) : (enc n).length ≤ 3 := by
  have h1 : enc n = encF 2 n := encF_more 2 8 n (by have : (128 : Nat) ^ (2 + 1) = 2097152 := by decide
                                                    rw [this]; omega) (by omega)
  rw [h1]; exact (encF_len 2 n).2
/-- A batch's bytes are few, and there are some. -/
theorem encBt_len (b : Bat) (h : mayBt b = true) : (encBt b).length ≤ 160 ∧ 1 ≤ (encBt b).length := by
  obtain ⟨h1, h2⟩ := (mayBt_iff b).1 h
  rw [encBt_eq]
  simp only [List.length_append]
  have e1 : (enc b.pid.toNat).length = 1 := by rw [enc_small _ (by omega)]; rfl
  have e2 : (enc b.ep.toNat).length = 1 := by rw [enc_small _ (by omega)]; rfl
  have e3 := enc_len3 b.seq.toNat (by omega)
  have e4 : (encY b.txn).length = 1 := rfl
  have e5 : (enc b.rs.length).length = 1 := by rw [enc_small _ (by omega)]; rfl
  have e6 := encRs_len b.rs h2
  omega

end Go.Proofs.YtckdecodpjfcnaaGreatDoor
namespace Go.Proofs.YtckdecodpjfcnaaGreatDoor
open Go.RowKit

def rdRec : Rdr Rec := fun l i b => ((bs (rdTxt l i b 16).1, bs (rdTxt l (rdTxt l i b 16).2.1 (rdTxt l i b 16).2.2 16).1), (rdTxt l (rdTxt l i b 16).2.1 (rdTxt l i b 16).2.2 16).2)
theorem fol_rec : Fol rdRec cRec id := by
  have h := ((fol_txt 16).bind (k := fun x => rdMap (fun l i b => rdTxt l i b 16) (fun y => (x, y))) (d := fun _ => cTxt 16) (g := fun x y => (x, y)) (fun y => (fol_txt 16).map (fun z => (y, z))) (fun _ l i => (fol_txt 16).stop l i) (fun _ l i b hi => (fol_txt 16).le l i b hi))
  have h2 := (h.map (fun z => ((bs z.1, bs z.2) : Rec))).iso (fun z => (bs z.1, bs z.2)) (fun r : Rec => (lb r.1, lb r.2)) (fun _ => True) (fun y => by simp [bs_lb]) (fun x => by simp [lb_bs]) (fun _ => trivial)
  exact h2.congr (fun _ _ _ => rfl) (fun y => by simp only [id, bs_lb])

def rdRecs (n : Int) : Rdr (List Rec) := rdRep rdRec n.toNat
def rdBatRaw : Rdr Bat :=
  rdBind (fun l i b => rdNum l i b 1 8) fun pid => rdBind (fun l i b => rdNum l i b 0 100) fun ep => rdBind (fun l i b => rdNum l i b 0 1048576) fun sq =>
    rdBind rdFlag fun t => rdBind (fun l i b => rdNum l i b 1 4) fun n => rdMap (rdRecs n) fun rs => ⟨pid, ep, sq, t, rs⟩
theorem rdRecs_stop (n : Int) (l : List UInt8) (i : Nat) : (rdRecs n l i true).2.2 = true := rdRep_stop fol_rec.stop _ l i
theorem rdRecs_le (n : Int) (l : List UInt8) (i : Nat) (b : Bool) (h : i ≤ l.length) : (rdRecs n l i b).2.1 ≤ l.length := rdRep_le fol_rec.le _ l i b h
theorem fol_raw : Fol rdBatRaw cBatRaw batOf := by
  have s1 : ∀ (pid ep sq : Int) (t : Bool) (n : Int) l i, (rdMap (rdRecs n) (fun rs => (⟨pid, ep, sq, t, rs⟩ : Bat)) l i true).2.2 = true := fun _ _ _ _ n l i => rdRecs_stop n l i
  have e1 : ∀ (pid ep sq : Int) (t : Bool) (n : Int) l i b, i ≤ l.length → (rdMap (rdRecs n) (fun rs => (⟨pid, ep, sq, t, rs⟩ : Bat)) l i b).2.1 ≤ l.length := fun _ _ _ _ n l i b h => rdRecs_le n l i b h
  have f1 : ∀ (pid ep sq : Int) (t : Bool), Fol (rdBind (fun l i b => rdNum l i b 1 4) fun n => rdMap (rdRecs n) fun rs => (⟨pid, ep, sq, t, rs⟩ : Bat)) ((cNum 1 4).bind fun n => cRec.rep n) (fun z => (⟨pid, ep, sq, t, z.2⟩ : Bat)) := by
    intro pid ep sq t
    refine (fol_num 1 4).bind (g := fun _ rs => (⟨pid, ep, sq, t, rs⟩ : Bat)) (fun n => ?_) (s1 pid ep sq t) (e1 pid ep sq t)
    have := (fol_rec.rep n).map (fun rs => (⟨pid, ep, sq, t, rs⟩ : Bat))
    simp only [List.map_id] at this
    show Fol (rdMap (rdRep rdRec (Int.toNat (n : Int))) _) _ _
    rw [Int.toNat_natCast]
    exact this
  have f2 : ∀ (pid ep sq : Int), Fol (rdBind rdFlag fun t => rdBind (fun l i b => rdNum l i b 1 4) fun n => rdMap (rdRecs n) fun rs => (⟨pid, ep, sq, t, rs⟩ : Bat)) (cFlag.bind fun _ => (cNum 1 4).bind fun n => cRec.rep n) (fun z => (⟨pid, ep, sq, z.1, z.2.2⟩ : Bat)) := fun pid ep sq =>
    fol_flag.bind (g := fun t (z : Nat × List Rec) => (⟨pid, ep, sq, t, z.2⟩ : Bat)) (fun t => f1 pid ep sq t) (fun t => (f1 pid ep sq t).stop) (fun t => (f1 pid ep sq t).le)
  have f3 : ∀ (pid ep : Int), Fol (rdBind (fun l i b => rdNum l i b 0 1048576) fun sq => rdBind rdFlag fun t => rdBind (fun l i b => rdNum l i b 1 4) fun n => rdMap (rdRecs n) fun rs => (⟨pid, ep, sq, t, rs⟩ : Bat)) ((cNum 0 1048576).bind fun _ => cFlag.bind fun _ => (cNum 1 4).bind fun n => cRec.rep n) (fun z => (⟨pid, ep, z.1, z.2.1, z.2.2.2⟩ : Bat)) := fun pid ep =>
    (fol_num 0 1048576).bind (g := fun (sq : Nat) (z : Bool × Nat × List Rec) => (⟨pid, ep, sq, z.1, z.2.2⟩ : Bat)) (fun sq => f2 pid ep sq) (fun sq => (f2 pid ep sq).stop) (fun sq => (f2 pid ep sq).le)
  have f4 : ∀ (pid : Int), Fol (rdBind (fun l i b => rdNum l i b 0 100) fun ep => rdBind (fun l i b => rdNum l i b 0 1048576) fun sq => rdBind rdFlag fun t => rdBind (fun l i b => rdNum l i b 1 4) fun n => rdMap (rdRecs n) fun rs => (⟨pid, ep, sq, t, rs⟩ : Bat)) ((cNum 0 100).bind fun _ => (cNum 0 1048576).bind fun _ => cFlag.bind fun _ => (cNum 1 4).bind fun n => cRec.rep n) (fun z => (⟨pid, z.1, z.2.1, z.2.2.1, z.2.2.2.2⟩ : Bat)) := fun pid =>
    (fol_num 0 100).bind (g := fun (ep : Nat) (z : Nat × Bool × Nat × List Rec) => (⟨pid, ep, z.1, z.2.1, z.2.2.2⟩ : Bat)) (fun ep => f3 pid ep) (fun ep => (f3 pid ep).stop) (fun ep => (f3 pid ep).le)
  exact (fol_num 1 8).bind (g := fun (pid : Nat) (z : Nat × Nat × Bool × Nat × List Rec) => (⟨pid, z.1, z.2.1, z.2.2.1, z.2.2.2.2⟩ : Bat)) (fun pid => f4 pid) (fun pid => (f4 pid).stop) (fun pid => (f4 pid).le)

/-- A batch that may be, or the reader is stopped. -/
def rdBat : Rdr Bat := fun l i b => if (rdBatRaw l i b).2.2 = true ∨ mayBt (rdBatRaw l i b).1 = false then (Bat0, (rdBatRaw l i b).2.1, true) else rdBatRaw l i b
theorem fol_bat : Fol rdBat cBat id where
  stop l i := by unfold rdBat; rw [if_pos (.inl (fol_raw.stop l i))]
  le l i b hi := by
    have := fol_raw.le l i b hi
    unfold rdBat
    split
    · exact this
    · exact this
  ok l i y r hi hp := by
    have e : cBat.p (l.drop i) = match cBatRaw.p (l.drop i) with
      | some (z, r) => if mayBt (batOf z) = true then some (batOf z, r) else none
      | none => none := rfl
    rw [e] at hp
    split at hp
    · rename_i z r' hz
      split at hp
      · rename_i hm
        injection hp with hp
        injection hp with h1 h2
        subst h1; subst h2
        obtain ⟨j, hj, e1, e2⟩ := fol_raw.ok l i z r' hi hz
        refine ⟨j, hj, ?_, e2⟩
        unfold rdBat
        rw [e1, if_neg (by simp [hm])]
        rfl
      · cases hp
    · cases hp
  no l i hi hp := by
    have e : cBat.p (l.drop i) = match cBatRaw.p (l.drop i) with
      | some (z, r) => if mayBt (batOf z) = true then some (batOf z, r) else none
      | none => none := rfl
    rw [e] at hp
    unfold rdBat
    split at hp
    · rename_i z r' hz
      split at hp
      · cases hp
      · rename_i hm
        obtain ⟨j, hj, e1, e2⟩ := fol_raw.ok l i z r' hi hz
        rw [if_pos (.inr (by rw [e1]; simpa using hm))]
    · rename_i hz
      rw [if_pos (.inl (fol_raw.no l i hi hz))]
theorem rdBat_may {l : List UInt8} {i : Nat} {b : Bool} (h : (rdBat l i b).2.2 = false) : mayBt (rdBat l i b).1 = true := by
  unfold rdBat at *
  split at h
  · cases h
  · rename_i hh
    rw [if_neg hh]
    cases hm : mayBt (rdBatRaw l i b).1
    · exact absurd (.inr hm) hh
    · rfl
theorem rdBat_rs (l : List UInt8) (i : Nat) (b : Bool) : (rdBat l i b).1.rs.length ≤ 4 := by
  cases h : (rdBat l i b).2.2
  · have := ((mayBt_iff _).1 (rdBat_may h)).1
    omega
  · unfold rdBat at *
    split
    · exact Nat.zero_le _
    · rename_i hh
      rw [if_neg hh] at h
      exact absurd (.inl h) hh

end Go.Proofs.YtckdecodpjfcnaaGreatDoor
namespace Go.Proofs.YtckdecodpjfcnaaGreatDoor
open Go.RowKit

/-- The fields of a request but its kind. -/
inductive Fl where
  | tid | tm | pid | ep | part | grp | off | most | yes | bat
instance : DecidableEq Fl := fun a b => by cases a <;> cases b <;> first | exact isTrue rfl | exact isFalse (fun h => by cases h)
def FV : Fl → Type
  | .yes => Bool
  | .bat => Bat
  | _ => Int
structure Rq where
  kd : Int
  tid : Int
  tm : Int
  pid : Int
  ep : Int
  part : Int
  grp : Int
  off : Int
  most : Int
  yes : Bool
  b : Bat
def Rq.of (k : Int) (a : (f : Fl) → FV f) : Rq := ⟨k, a .tid, a .tm, a .pid, a .ep, a .part, a .grp, a .off, a .most, a .yes, a .bat⟩
/-- A number, as Go has it. -/
def cI (lo hi : Nat) : Cd Int where
  p l := match (cNum lo hi).p l with
    | some (n, r) => some ((n : Int), r)
    | none => none
  e x := enc x.toNat
  v x := 0 ≤ x ∧ (cNum lo hi).v x.toNat
  law l x r := by
    constructor
    · intro h
      split at h
      · rename_i n r' hn
        injection h with h
        injection h with h1 h2
        subst h1; subst h2
        obtain ⟨h3, h4⟩ := (cNum lo hi).only hn
        rw [Int.toNat_natCast]
        exact ⟨⟨by omega, h3⟩, h4⟩
      · cases h
    · rintro ⟨⟨h1, h2⟩, rfl⟩
      have : (cNum lo hi).p (enc x.toNat ++ r) = some (x.toNat, r) := (cNum lo hi).back h2 r
      rw [this]
      simp only
      rw [Int.toNat_of_nonneg h1]
theorem fol_I (lo hi : Nat) : Fol (fun l i b => rdNum l i b lo hi) (cI lo hi) id where
  stop := (fol_num lo hi).stop
  le := (fol_num lo hi).le
  ok l i y r hil h := by
    have e : (cI lo hi).p (l.drop i) = match (cNum lo hi).p (l.drop i) with
      | some (n, r) => some ((n : Int), r)
      | none => none := rfl
    rw [e] at h
    split at h
    · rename_i n r' hn
      injection h with h
      injection h with h1 h2
      subst h1; subst h2
      exact (fol_num lo hi).ok l i n _ hil hn
    · cases h
  no l i hil h := by
    have e : (cI lo hi).p (l.drop i) = match (cNum lo hi).p (l.drop i) with
      | some (n, r) => some ((n : Int), r)
      | none => none := rfl
    rw [e] at h
    split at h
    · cases h
    · rename_i hn
      exact (fol_num lo hi).no l i hil hn
section
variable (c : (f : Fl) → Cd (FV f)) (rd : (f : Fl) → Rdr (FV f))
end
end Go.Proofs.YtckdecodpjfcnaaGreatDoor
namespace Go.Proofs.YtckdecodpjfcnaaGreatDoor
open Go.RowKit Go.Stop Go.Extern

/-! The model's entries for internal/reflectlite at this program's types. -/
theorem asValueOf (t : Addr) (w : World) : (callFunc 103 #[.iface 125 (.pointer (some t))]).run Tryz.prog w
    = .ok (.value (.agg #[.pointer (some ⟨1, 125, none⟩), .pointer (some ⟨w.heap.size, 0, none⟩), .int .u64 150])) (w.alloc (.cells #[.pointer (some t)] 125)) := by kernel_rfl
theorem asType (a : Addr) (w : World) : (callFunc 104 #[.agg #[.pointer (some ⟨1, 125, none⟩), .pointer (some a), .int .u64 150]]).run Tryz.prog w
    = .ok (.value (.iface 162 (.agg #[.pointer (some ⟨1, 125, none⟩)]))) w := by kernel_rfl
theorem asMethodKind (k : Nat) (h : Value) (w : World) : (Go.method (k + 1) 162 (.agg #[h]) "Kind").run Tryz.prog w = .ok (138, h) w := by kernel_rfl
theorem asKindP (w : World) : (callFunc 138 #[.pointer (some ⟨1, 125, none⟩)]).run Tryz.prog w = .ok (.value (.int .u8 22)) w := by kernel_rfl
theorem asKindE (w : World) : (callFunc 138 #[.pointer (some ⟨1, 35, none⟩)]).run Tryz.prog w = .ok (.value (.int .u8 2)) w := by kernel_rfl
theorem asMethodElem (k : Nat) (h : Value) (w : World) : (Go.method (k + 1) 162 (.agg #[h]) "Elem").run Tryz.prog w = .ok (152, .agg #[h]) w := by kernel_rfl
theorem asMethodImplements (k : Nat) (h : Value) (w : World) : (Go.method (k + 1) 162 (.agg #[h]) "Implements").run Tryz.prog w = .ok (153, .agg #[h]) w := by kernel_rfl
theorem asMethodAssignable (k : Nat) (h : Value) (w : World) : (Go.method (k + 1) 162 (.agg #[h]) "AssignableTo").run Tryz.prog w = .ok (150, .agg #[h]) w := by kernel_rfl
theorem asElem (w : World) : (callFunc 152 #[.agg #[.pointer (some ⟨1, 125, none⟩)]]).run Tryz.prog w = .ok (.value (.iface 162 (.agg #[.pointer (some ⟨1, 35, none⟩)]))) w := by kernel_rfl
theorem asImplements (w : World) : (callFunc 153 #[.agg #[.pointer (some ⟨1, 35, none⟩)], .iface 162 (.agg #[.pointer (some ⟨1, 99, none⟩)])]).run Tryz.prog w = .ok (.value (.bool true)) w := by kernel_rfl
theorem asTypeOfE (v : Value) (w : World) : (callFunc 97 #[.iface 35 v]).run Tryz.prog w = .ok (.value (.iface 162 (.agg #[.pointer (some ⟨1, 35, none⟩)]))) w := by kernel_rfl
theorem asAssignE (w : World) : (callFunc 150 #[.agg #[.pointer (some ⟨1, 35, none⟩)], .iface 162 (.agg #[.pointer (some ⟨1, 35, none⟩)])]).run Tryz.prog w = .ok (.value (.bool true)) w := by kernel_rfl
theorem asValueOfE (n : Int) (w : World) : (callFunc 103 #[.iface 35 (.int .i64 n)]).run Tryz.prog w
    = .ok (.value (.agg #[.pointer (some ⟨1, 35, none⟩), .pointer (some ⟨w.heap.size, 0, none⟩), .int .u64 130])) (w.alloc (.cells #[.int .i64 n] 35)) := by kernel_rfl

/-! The entries that read or write memory. -/
-- (a line of the guide's worked text for errors.As)
theorem rlm (z : Sem Value) (f : TypeId → Addr → Nat → Nat → Sem Value) (v : Value) :
    ReflectliteValue.method z f #[v] = (do match ← ReflectliteValue.parts v with | none => z | some (t, a, fl) => f t a fl (fl % 32)) := rfl
theorem asPartsP (a : Addr) (w : World) : (ReflectliteValue.parts (.agg #[.pointer (some ⟨1, 125, none⟩), .pointer (some a), .int .u64 150])).run Tryz.prog w = .ok (some (125, a, 150)) w := by kernel_rfl
theorem asIsNil (a p : Addr) (W : World) (ha : W.cell? a = some (.pointer (some p))) :
    (callFunc 105 #[.agg #[.pointer (some ⟨1, 125, none⟩), .pointer (some a), .int .u64 150]]).run Tryz.prog W = .ok (.value (.bool false)) W := by
  rw [@run_callFunc_extern Tryz.prog 105 _ (ReflectliteValue.method (ReflectliteValue.valueError "reflectlite.Value.IsNil" 0) ReflectliteValue.isNil) Tryz.func105 (by kernel_rfl) (by kernel_rfl) (by kernel_rfl) (by kernel_rfl), rlm]
  simp only [Sem.run_bind, asPartsP, Result.andThen]
  simp [ReflectliteValue.isNil, loadVar, isAgg, underlying, Tryz.underlying125, ha, Result.andThen]
theorem asElemOf (w : World) : (Rtype.elem? 125).run Tryz.prog w = .ok (some 35) w := by kernel_rfl
theorem asMk (p : Addr) (w : World) : (ReflectliteValue.mk 35 p ReflectliteValue.flagAddr).run Tryz.prog w = .ok (.agg #[.pointer (some ⟨1, 35, none⟩), .pointer (some p), .int .u64 386]) w := by kernel_rfl
theorem asElemV (a p : Addr) (W : World) (ha : W.cell? a = some (.pointer (some p))) :
    (callFunc 117 #[.agg #[.pointer (some ⟨1, 125, none⟩), .pointer (some a), .int .u64 150]]).run Tryz.prog W
      = .ok (.value (.agg #[.pointer (some ⟨1, 35, none⟩), .pointer (some p), .int .u64 386])) W := by
  rw [@run_callFunc_extern Tryz.prog 117 _ (ReflectliteValue.method (ReflectliteValue.valueError "reflectlite.Value.Elem" 0) ReflectliteValue.elem) Tryz.func117 (by kernel_rfl) (by kernel_rfl) (by kernel_rfl) (by kernel_rfl), rlm]
  simp only [Sem.run_bind, asPartsP, Result.andThen]
  simp [ReflectliteValue.elem, loadVar, isAgg, underlying, Tryz.underlying125, ha, Result.andThen, asElemOf, asMk]

theorem asPartsD (a : Addr) (w : World) : (ReflectliteValue.parts (.agg #[.pointer (some ⟨1, 35, none⟩), .pointer (some a), .int .u64 386])).run Tryz.prog w = .ok (some (35, a, 386)) w := by kernel_rfl
theorem asPartsS (a : Addr) (w : World) : (ReflectliteValue.parts (.agg #[.pointer (some ⟨1, 35, none⟩), .pointer (some a), .int .u64 130])).run Tryz.prog w = .ok (some (35, a, 130)) w := by kernel_rfl
theorem asDirect (w : World) : (Rtype.directlyAssignable 35 35).run Tryz.prog w = .ok true w := by kernel_rfl
-- (a line of the guide's worked text for errors.As)
theorem rls (v x : Value) : ReflectliteValue.set #[v, x] = (do
    let (some (dst, a, fl), some (src, b, _)) := (← ReflectliteValue.parts v, ← ReflectliteValue.parts x)
      | unsupported (.noEntry "extern/(internal/reflectlite.Value).Set.zeroValue")
    if fl / ReflectliteValue.flagAddr % 2 == 0 then unsupported (.noEntry "extern/(internal/reflectlite.Value).Set.unaddressable")
    let val ← loadVar src b
    if ← Rtype.directlyAssignable dst src then storeVar dst a val
    else if ← Rtype.implements dst src then
      if (← Rtype.kind src) == 20 then
        match val with
        | .nilIface => unsupported (.noEntry "extern/reflectlite: a nil value of one interface type handed on as a value of another")
        | _ => storeVar dst a val
      else storeVar dst a (.iface src val)
    else panicString ("reflectlite.Set: value of type " ++ (← Rtype.spelt src) ++ " is not assignable to type " ++ (← Rtype.spelt dst))
    pure (.tuple #[])) := rfl
theorem asSet (ta b : Addr) (n : Int) (old : Value) (W : World) (hb : W.cell? b = some (.int .i64 n)) (ht : W.cell? ta = some old) (hf : W.frozen? ta = false) :
    (callFunc 118 #[.agg #[.pointer (some ⟨1, 35, none⟩), .pointer (some ta), .int .u64 386], .agg #[.pointer (some ⟨1, 35, none⟩), .pointer (some b), .int .u64 130]]).run Tryz.prog W
      = .ok (.value (.tuple #[])) (W.setCell ta (.int .i64 n)) := by
  rw [@run_callFunc_extern Tryz.prog 118 _ ReflectliteValue.set Tryz.func118 (by kernel_rfl) (by kernel_rfl) (by kernel_rfl) (by kernel_rfl), rls]
  simp only [Sem.run_bind, asPartsD, asPartsS, Result.andThen]
  simp [ReflectliteValue.flagAddr, loadVar, isAgg, underlying, Tryz.underlying35, hb, Result.andThen, asDirect, storeVar, Value.cells, storeCells, Addr.add]
  rw [run_store Tryz.prog W ta _ _ (by rfl)]
  simp [ht, hf]

/-- The world that errors.As leaves behind: four new blocks, and what the target points to is set. -/
def asWorld (w : World) (t : Nat) (n : Int) : World :=
  ((((w.alloc (.cells #[.pointer (some ⟨t, 0, none⟩)] 125)).alloc (.cells #[.pointer (some ⟨1, 125, none⟩), .pointer (some ⟨w.heap.size, 0, none⟩), .int .u64 150] 146)).alloc (.cells #[.pointer (some ⟨1, 125, none⟩), .pointer (some ⟨w.heap.size, 0, none⟩), .int .u64 150] 146)).alloc (.cells #[.int .i64 n] 35)).setCell ⟨t, 0, none⟩ (.int .i64 n)


theorem isMethodComparable (k : Nat) (h : Value) (w : World) : (Go.method (k + 1) 162 (.agg #[h]) "Comparable").run Tryz.prog w = .ok (151, .agg #[h]) w := by kernel_rfl
theorem isComparableE (w : World) : (callFunc 151 #[.agg #[.pointer (some ⟨1, 35, none⟩)]]).run Tryz.prog w = .ok (.value (.bool true)) w := by kernel_rfl
theorem isNoIsE (v : Value) (xT : TypeId) (w : World) : (Instr.typeAssert (.iface 35 v) xT 164 true).run Tryz.prog w = .ok (.tuple #[.nilIface, .bool false]) w := run_typeAssert_lacksB Tryz.underlying164 (by kernel_rfl) (by kernel_rfl) v xT w
theorem isNoUnwrapE (v : Value) (xT : TypeId) (w : World) : (Instr.typeAssert (.iface 35 v) xT 167 true).run Tryz.prog w = .ok (.tuple #[.nilIface, .bool false]) w := run_typeAssert_lacksB Tryz.underlying167 (by kernel_rfl) (by kernel_rfl) v xT w
theorem isNoUnwrapsE (v : Value) (xT : TypeId) (w : World) : (Instr.typeAssert (.iface 35 v) xT 169 true).run Tryz.prog w = .ok (.tuple #[.nilIface, .bool false]) w := run_typeAssert_lacksB Tryz.underlying169 (by kernel_rfl) (by kernel_rfl) v xT w

theorem run_equalIn_ifc {P : Program} (w : World) (d : Nat) {ti tn : TypeId} {ms : Array (String × TypeId)} {i : TypeInfo} {k : IntKind} (a b : Int)
    (hi : P.underlying ti = some (.interface ms)) (hn : P.underlying tn = some (.int k)) (hinfo : P.info? tn = some i) (hcomp : i.comparable = true) :
    (Op.equalIn (d + 2) ti (.iface tn (.int k a)) (.iface tn (.int k b))).run P w = .ok (a == b) w := by
  simp [Op.equalIn, run_underlying hi, run_underlying hn, typeInfo, hinfo, hcomp]
theorem eqErrno (a b : Int) (w : World) : (binOp .eql 99 (.iface 35 (.int .i64 a)) (.iface 35 (.int .i64 b))).run Tryz.prog w = .ok (.bool (a == b)) w := by
  obtain ⟨i, hi, hc⟩ : ∃ i, Tryz.prog.info? 35 = some i ∧ i.comparable = true := by
    have h : (Tryz.prog.info? 35).map (·.comparable) = some true := by kernel_rfl
    cases hx : Tryz.prog.info? 35 with
    | none => rw [hx] at h; cases h
    | some i => rw [hx] at h; exact ⟨i, rfl, by simpa using h⟩
  simp only [binOp]
  simp [Op.equal, Op.maxDepth, run_equalIn_ifc w 9998 a b Tryz.underlying99 Tryz.underlying35 hi hc]
end Go.Proofs.YtckdecodpjfcnaaGreatDoor
namespace Go.Proofs.YtckdecodpjfcnaaGreatDoor.ErVa
open Go.RowKit Go.Stop Go.Extern

theorem asTypeOfB (v : Value) (w : World) : (callFunc 97 #[.iface 184 v]).run Tryz.prog w = .ok (.value (.iface 162 (.agg #[.pointer (some ⟨1, 184, none⟩)]))) w := by kernel_rfl
theorem asAssignB (w : World) : (callFunc 150 #[.agg #[.pointer (some ⟨1, 184, none⟩)], .iface 162 (.agg #[.pointer (some ⟨1, 35, none⟩)])]).run Tryz.prog w = .ok (.value (.bool false)) w := by kernel_rfl
theorem asNoAs (v : Value) (xT : TypeId) (w : World) : (Instr.typeAssert (.iface 184 v) xT 174 true).run Tryz.prog w = .ok (.tuple #[.nilIface, .bool false]) w := run_typeAssert_lacksB Tryz.underlying174 (by kernel_rfl) (by kernel_rfl) v xT w
theorem asHasUnwrap (v : Value) (xT : TypeId) (w : World) : (Instr.typeAssert (.iface 184 v) xT 167 true).run Tryz.prog w = .ok (.tuple #[.iface 184 v, .bool true]) w := run_typeAssert_hasB Tryz.underlying167 (by kernel_rfl) v xT w
theorem asMethodUnwrap (k : Nat) (v : Value) (w : World) : (Go.method (k + 1) 184 v "Unwrap").run Tryz.prog w = .ok (163, v) w := by kernel_rfl
set_option maxHeartbeats 4000000 in
/-- errors.As(&error{.., n}, &e): true, and e is n. -/
theorem as_any (b t : Nat) (n : Int) (old : Value) (w : World) (hg : w.cell? ⟨0, 0, none⟩ = some (.iface 162 (.agg #[.pointer (some ⟨1, 99, none⟩)])))
    (hb1 : w.cell? ⟨b, 1, none⟩ = some (.int .i64 n)) (ht0 : w.cell? ⟨t, 0, none⟩ = some old) (hf0 : w.frozen? ⟨t, 0, none⟩ = false) :
    Calls Tryz.prog 87 #[.iface 184 (.pointer (some ⟨b, 0, none⟩)), .iface 125 (.pointer (some ⟨t, 0, none⟩))] w fun ev w' => ev = .returned (.bool true) ∧ asWorld w t n = w' := by
  have hlt : 0 < w.heap.size := by
    rcases Nat.lt_or_ge 0 w.heap.size with h | h
    · exact h
    · simp [World.cell?, Array.getElem?_eq_none h] at hg
  have hbl : b < w.heap.size := by
    rcases Nat.lt_or_ge b w.heap.size with h | h
    · exact h
    · simp [World.cell?, Array.getElem?_eq_none h] at hb1
  have htl : t < w.heap.size := by
    rcases Nat.lt_or_ge t w.heap.size with h | h
    · exact h
    · simp [World.cell?, Array.getElem?_eq_none h] at ht0
  have f1 := asValueOf
  have f2 := asType
  have f3 := asMethodKind
  have f4 := asKindP
  have f5 := asKindE
  have f6 := asMethodElem
  have f7 := asMethodImplements
  have f8 := asMethodAssignable
  have f9 := asElem
  have f10 := asImplements
  have f11 := asTypeOfB
  have f12 := asTypeOfE
  have f13 := asAssignB
  have f14 := asAssignE
  have f15 := asValueOfE
  have f16 := asNoAs
  have f17 := asHasUnwrap
  have f18 := asMethodUnwrap
  have n8 := asIsNil ⟨w.heap.size, 0, none⟩ ⟨t, 0, none⟩ ((w.alloc (.cells #[.pointer (some ⟨t, 0, none⟩)] 125)).alloc (.cells #[.pointer (some ⟨1, 125, none⟩), .pointer (some ⟨w.heap.size, 0, none⟩), .int .u64 150] 146)) (by simp)
  have hg2 : ((w.alloc (.cells #[.pointer (some ⟨t, 0, none⟩)] 125)).alloc (.cells #[.pointer (some ⟨1, 125, none⟩), .pointer (some ⟨w.heap.size, 0, none⟩), .int .u64 150] 146)).cell? ⟨0, 0, none⟩ = some (.iface 162 (.agg #[.pointer (some ⟨1, 99, none⟩)])) := by
    rw [World.cell?_alloc_lt _ _ ⟨0, 0, none⟩ (by simp only [World.size_alloc]; omega), World.cell?_alloc_lt _ _ ⟨0, 0, none⟩ hlt]; exact hg
  have hb2 : (((w.alloc (.cells #[.pointer (some ⟨t, 0, none⟩)] 125)).alloc (.cells #[.pointer (some ⟨1, 125, none⟩), .pointer (some ⟨w.heap.size, 0, none⟩), .int .u64 150] 146)).alloc (.cells #[.pointer (some ⟨1, 125, none⟩), .pointer (some ⟨w.heap.size, 0, none⟩), .int .u64 150] 146)).cell? ⟨b, 1, none⟩ = some (.int .i64 n) := by
    rw [World.cell?_alloc_lt _ _ ⟨b, 1, none⟩ (by simp only [World.size_alloc]; omega), World.cell?_alloc_lt _ _ ⟨b, 1, none⟩ (by simp only [World.size_alloc]; omega), World.cell?_alloc_lt _ _ ⟨b, 1, none⟩ hbl]; exact hb1
  have el := asElemV ⟨w.heap.size, 0, none⟩ ⟨t, 0, none⟩ (((w.alloc (.cells #[.pointer (some ⟨t, 0, none⟩)] 125)).alloc (.cells #[.pointer (some ⟨1, 125, none⟩), .pointer (some ⟨w.heap.size, 0, none⟩), .int .u64 150] 146)).alloc (.cells #[.pointer (some ⟨1, 125, none⟩), .pointer (some ⟨w.heap.size, 0, none⟩), .int .u64 150] 146)) (by rw [World.cell?_alloc_lt _ _ ⟨w.heap.size, 0, none⟩ (by simp only [World.size_alloc]; omega)]; simp)
  have st := asSet ⟨t, 0, none⟩ ⟨w.heap.size + 1 + 1 + 1, 0, none⟩ n old ((((w.alloc (.cells #[.pointer (some ⟨t, 0, none⟩)] 125)).alloc (.cells #[.pointer (some ⟨1, 125, none⟩), .pointer (some ⟨w.heap.size, 0, none⟩), .int .u64 150] 146)).alloc (.cells #[.pointer (some ⟨1, 125, none⟩), .pointer (some ⟨w.heap.size, 0, none⟩), .int .u64 150] 146)).alloc (.cells #[.int .i64 n] 35))
    (by rw [World.cell?_alloc_at _ _ _ _ (by simp)]; rfl)
    (by rw [World.cell?_alloc_lt _ _ ⟨t, 0, none⟩ (by simp only [World.size_alloc]; omega), World.cell?_alloc_lt _ _ ⟨t, 0, none⟩ (by simp only [World.size_alloc]; omega), World.cell?_alloc_lt _ _ ⟨t, 0, none⟩ (by simp only [World.size_alloc]; omega), World.cell?_alloc_lt _ _ ⟨t, 0, none⟩ htl]; exact ht0)
    (by rw [World.frozen?_alloc_old _ _ ⟨t, 0, none⟩ (by simp only [World.size_alloc]; omega), World.frozen?_alloc_old _ _ ⟨t, 0, none⟩ (by simp only [World.size_alloc]; omega), World.frozen?_alloc_old _ _ ⟨t, 0, none⟩ (by simp only [World.size_alloc]; omega), World.frozen?_alloc_old _ _ ⟨t, 0, none⟩ (Nat.ne_of_lt htl)]; exact hf0)
  go_enter Tryz.func87, Tryz.ntmps87
  go_wp2
  refine wp_loop_rounds 2 ?_
  iterate 2 (rw [rounds_succ]; go_wp2)
  go_ret
  exact ⟨rfl, rfl⟩

theorem isNoIs (v : Value) (xT : TypeId) (w : World) : (Instr.typeAssert (.iface 184 v) xT 164 true).run Tryz.prog w = .ok (.tuple #[.nilIface, .bool false]) w := run_typeAssert_lacksB Tryz.underlying164 (by kernel_rfl) (by kernel_rfl) v xT w
theorem eqOther (v : Value) (b : Int) (w : World) : (binOp .eql 99 (.iface 184 v) (.iface 35 (.int .i64 b))).run Tryz.prog w = .ok (.bool false) w := by kernel_rfl

set_option maxRecDepth 100000 in
set_option maxHeartbeats 4000000 in
/-- errors.Is(&error{.., n}, m): whether n is m. -/
theorem is_any (b : Nat) (n m : Int) (w : World) (hb1 : w.cell? ⟨b, 1, none⟩ = some (.int .i64 n)) :
    Calls Tryz.prog 77 #[.iface 184 (.pointer (some ⟨b, 0, none⟩)), .iface 35 (.int .i64 m)] w fun ev w' => ev = .returned (.bool (n == m)) ∧ w = w' := by
  have f6 := isMethodComparable
  have f7 := isComparableE
  have f8 := isNoIsE
  have f9 := isNoUnwrapE
  have f10 := isNoUnwrapsE
  have f11 := eqErrno
  have f12 := asTypeOfE
  have f16 := isNoIs
  have f17 := asHasUnwrap
  have f18 := asMethodUnwrap
  have f19 := eqOther
  by_cases hnm : n = m
  · subst hnm
    go_enter Tryz.func77, Tryz.ntmps77
    go_wp2
    refine wp_loop_rounds 2 ?_
    iterate 2 (rw [rounds_succ]; go_wp2)
    go_ret
    exact ⟨by simp, rfl⟩
  · have d1 : (n == m) = false := beq_eq_false_iff_ne.2 hnm
    have D1 := Lib.hid d1
    go_enter Tryz.func77, Tryz.ntmps77
    go_wp2
    refine wp_loop_rounds 2 ?_
    iterate 2 (rw [rounds_succ]; go_wp2)
    go_ret
    exact ⟨by rw [D1.out]; rfl, rfl⟩
end Go.Proofs.YtckdecodpjfcnaaGreatDoor.ErVa
namespace Go.Proofs.YtckdecodpjfcnaaGreatDoor
open Go.RowKit

theorem asWorld_cell (w : World) (n : Int) : (asWorld (w.alloc (.cells #[.int .i64 0] 35)) w.heap.size n).cell? ⟨w.heap.size, 0, none⟩ = some (.int .i64 n) := by
  unfold asWorld
  refine World.cell?_setCell_same' _ _ _ ?_
  rw [World.cell?_alloc_lt _ _ ⟨w.heap.size, 0, none⟩ (by simp only [World.size_alloc]; omega), World.cell?_alloc_lt _ _ ⟨w.heap.size, 0, none⟩ (by simp only [World.size_alloc]; omega), World.cell?_alloc_lt _ _ ⟨w.heap.size, 0, none⟩ (by simp only [World.size_alloc]; omega), World.cell?_alloc_lt _ _ ⟨w.heap.size, 0, none⟩ (by simp only [World.size_alloc]; omega)]
  simp

set_option maxHeartbeats 1000000 in
/-- varint.code(&broken{.., n}) is n. -/
theorem code_broken (b : Nat) (n : Int) (w : World) (hg : w.cell? ⟨0, 0, none⟩ = some (.iface 162 (.agg #[.pointer (some ⟨1, 99, none⟩)])))
    (hb1 : w.cell? ⟨b, 1, none⟩ = some (.int .i64 n)) :
    Calls Tryz.prog 113 #[.iface 184 (.pointer (some ⟨b, 0, none⟩))] w fun e w' => e = .returned (.int .i64 n) ∧ Below w.heap.size w w' := by
  have hg1 := (World.cell?_alloc_lt w (.cells #[.int .i64 0] 35) ⟨0, 0, none⟩ (by
    rcases Nat.lt_or_ge 0 w.heap.size with h | h
    · exact h
    · simp [World.cell?, Array.getElem?_eq_none h] at hg)).trans hg
  have hbl : b < w.heap.size := by
    rcases Nat.lt_or_ge b w.heap.size with h | h
    · exact h
    · simp [World.cell?, Array.getElem?_eq_none h] at hb1
  have hb2 := (World.cell?_alloc_lt w (.cells #[.int .i64 0] 35) ⟨b, 1, none⟩ hbl).trans hb1
  have HAS := Lib.hid (ErVa.as_any b w.heap.size n (.int .i64 0) (w.alloc (.cells #[.int .i64 0] 35)) hg1 hb2 (by simp) (by simp))
  clear hg1 hb2 hb1 hg
  go_enter Tryz.func113, Tryz.ntmps113
  go_wp2_with (go_at_call 87; refine HAS.out.mono ?_; rintro e w1 ⟨rfl, hw1⟩; have hc1 : w1.cell? ⟨w.heap.size, 0, none⟩ = some (.int .i64 n) := (by rw [← hw1]; exact asWorld_cell w n); have HW1 := Lib.hid hw1; clear hw1)
  go_ret
  refine ⟨rfl, ?_⟩
  rw [← HW1.out, asWorld]
  refine Below.setCell (p := ⟨w.heap.size, 0, none⟩) ?_ (Nat.le_refl _) _
  exact ((((((Below.refl _ w).alloc (Nat.le_refl _) _).alloc (by simp) _).alloc (by simp only [World.size_alloc]; omega) _).alloc (by simp only [World.size_alloc]; omega) _).alloc (by simp only [World.size_alloc]; omega) _)
end Go.Proofs.YtckdecodpjfcnaaGreatDoor
namespace Go.Proofs.YtckdecodpjfcnaaGreatDoor
open Go.RowKit

set_option maxHeartbeats 400000 in
theorem len_ok (n : Nat) (w : World) (h : n ≤ maxNum) :
    Calls Tryz.prog 96 #[.int .i64 n] w fun e w' => e = .returned (.int .i64 (encLen n : Nat)) ∧ w = w' := by
  have h' : n ≤ 1099511627776 := h
  have hd : decide ((n : Int) < 0) = false := by simp
  have hd2 : decide ((1099511627776 : Int) < (n : Int)) = false := by simp; omega
  go_enter Tryz.func96, Tryz.ntmps96
  go_wp2
  go_loop [0, 3] (fun x i => ∃ m k : Nat, m ≤ 1099511627776 ∧ k ≤ 10 ∧ x = .int .i64 m ∧ i = .int .i64 k ∧ encLen n + 1 = k + encLen m) (fun x _ => (intOf x).toNat)
  case atStart => exact ⟨n, 1, h', by omega, rfl, rfl, by omega⟩
  case round =>
    obtain ⟨m, k, hm, hk, rfl, rfl, he⟩ := hrel
    have hle := encLen_le n h
    have HE := Lib.hid he
    clear he
    by_cases hb : 127 < m
    · have hbig := encLen_big m (by omega) hm
      have hk2 : k + 1 ≤ 10 := by
        have h1 := HE.out
        have h2 := encLen_pos (m / 128)
        omega
      have HB := Lib.hid hbig
      clear hbig
      have hd3 : decide ((127 : Int) < (m : Int)) = true := by simp; omega
      go_wp2
      go_round
      case rel => exact ⟨m / 128, k + 1, by omega, hk2, by go_num, by go_num, by have := HE.out; have := HB.out; omega⟩
      case measure => simp [intOf]; omega
    · have hs := encLen_small m (by omega)
      have hkk : encLen n = k := by have := HE.out; omega
      have HK := Lib.hid hkk
      have hd3 : decide ((127 : Int) < (m : Int)) = false := by simp; omega
      clear hs hkk
      go_wp2
      go_ret
      exact ⟨by rw [HK.out]; rfl, rfl⟩

theorem infoByte : (Tryz.prog.info? 5).map (fun i => (i.zero, i.size, i.bytes)) = some (some (.int .u8 0), 1, 1) := by kernel_rfl

/-- What put leaves: the bytes behind what was there; nothing but the slice's own block has turned. -/
def PutPost (base : Nat) (v : Value) (l : List UInt8) (n : Nat) (w : World) (e : Ending) (w' : World) : Prop :=
  ∃ v', e = .returned v' ∧ w'.ownsRow base 5 1 v' (l.length + encLen n) (cellsB (l ++ enc n)) ∧ w.grownBy w' v.ownBlock ∧ (v'.ownBlock = v.ownBlock ∨ ∃ g, v'.ownBlock = some g ∧ w.heap.size ≤ g)

theorem bits_put (m : Nat) (h : m ≤ 1099511627776) : bits .or .i64 (bits .and .i64 (m : Int) 127) 128 = ((m % 128 + 128 : Nat) : Int) := by
  rw [and_i64_127 _ (by omega) (by omega), or_i64_128 _ (by omega) (by omega)]; omega

set_option maxRecDepth 100000 in
set_option maxHeartbeats 1000000 in
theorem put_any (base : Nat) (v : Value) (l : List UInt8) (n : Nat) (w : World) (hn : n ≤ maxNum) (hown : w.ownsRow base 5 1 v l.length (cellsB l)) (hl : l.length ≤ 100000) (hbase : base ≤ w.heap.size) :
    Calls Tryz.prog 123 #[v, .int .i64 n] w (PutPost base v l n w) := by
  obtain ⟨i0, hi, hz0, hz1, hz2⟩ := info_parts infoByte
  have hn' : n ≤ 1099511627776 := hn
  obtain ⟨A, c, rfl, hlc⟩ := own_slice hown
  go_enter Tryz.func123, Tryz.ntmps123
  go_wp2
  go_loopw [0, 1] (fun x y wr => ∃ (m : Nat) (done : List UInt8), m ≤ 1099511627776 ∧ y = .int .i64 m ∧ wr.ownsRow base 5 1 x (l.length + done.length) (cellsB (l ++ done)) ∧ enc n = done ++ enc m ∧ w.grownBy wr (Value.slice A l.length c).ownBlock ∧ (x.ownBlock = (Value.slice A l.length c).ownBlock ∨ ∃ g, x.ownBlock = some g ∧ w.heap.size ≤ g)) (fun _ y _ => (intOf y).toNat)
  case atStart => exact ⟨n, [], hn', rfl, by simpa using hown, rfl, World.grownBy.refl _ _, .inl rfl⟩
  case round =>
    obtain ⟨m, done, hm, rfl, hox, hen, hg, hat⟩ := hrel
    have hlen : done.length + encLen m = encLen n := by unfold encLen; rw [hen, List.length_append]
    have hle := encLen_le n hn
    have hpos := encLen_pos m
    have hbp := bits_put m hm
    have HO := Lib.hid hox
    have HE := Lib.hid hen
    have HG := Lib.hid hg
    have HA := Lib.hid hat
    have HL := Lib.hid hlen
    have hdl : done.length ≤ 6 := by omega
    clear hox hen hg hat hlen hown hpos
    by_cases hb : 127 < m
    · have hd3 : decide ((127 : Int) < (m : Int)) = true := by simp; omega
      go_wp2_with (at_builtin; refine wpList_append_any _ rfl _ _ 46 rfl base 5 i0 (.int .u8 0) 1 1 Tryz.underlying46 hi hz0 hz1 hz2 rfl (by decide) _ _ _ rfl (HO.out.alloc _) _ _ 1 1 [.int .u8 _] rfl (reads_new1 _ _ _) (by simp [Value.oneCell']) (by unfold maxLen; omega) (by omega) (by have := HG.out.size; simp; omega) ?_; intro v' w4 hown' hgrow hat')
      go_roundw
      case rel =>
        refine ⟨m / 128, done ++ [UInt8.ofNat (m % 128 + 128)], by omega, by go_num, ?_, ?_, ?_, ?_⟩
        · rw [← List.append_assoc, cellsB_append, cellsB_high, List.length_append, ← Nat.add_assoc]
          exact hown'
        · rw [HE.out, enc_big m (by omega) hm]; simp
        · exact grown_step (only_alloc HG.out _) hgrow (by
            rcases HA.out with h | ⟨g, h, hge⟩
            · exact .inl h
            · exact .inr (.inr ⟨g, h, hge⟩))
        · rcases hat' with h | h
          · rcases HA.out with h2 | h2
            · exact .inl (h.trans h2)
            · obtain ⟨g, h2, hge⟩ := h2
              exact .inr ⟨g, h.trans h2, hge⟩
          · exact .inr ⟨_, h, by have := HG.out.size; simp; omega⟩
      case measure => simp [intOf]; omega
    · have hd3 : decide ((127 : Int) < (m : Int)) = false := by simp; omega
      go_wp2_with (at_builtin; refine wpList_append_any _ rfl _ _ 46 rfl base 5 i0 (.int .u8 0) 1 1 Tryz.underlying46 hi hz0 hz1 hz2 rfl (by decide) _ _ _ rfl (HO.out.alloc _) _ _ 1 1 [.int .u8 _] rfl (reads_new1 _ _ _) (by simp [Value.oneCell']) (by unfold maxLen; omega) (by omega) (by have := HG.out.size; simp; omega) ?_; intro v' w4 hown' hgrow hat')
      go_ret
      refine ⟨v', rfl, ?_, ?_, ?_⟩
      · rw [← HL.out, encLen_small m (by omega), HE.out, enc_small m (by omega), ← List.append_assoc, cellsB_append, cellsB_low m (by omega), ← Nat.add_assoc]
        exact hown'
      · exact grown_step (only_alloc HG.out _) hgrow (by
          rcases HA.out with h | ⟨g, h, hge⟩
          · exact .inl h
          · exact .inr (.inr ⟨g, h, hge⟩))
      · rcases hat' with h | h
        · rcases HA.out with h2 | h2
          · exact .inl (h.trans h2)
          · obtain ⟨g, h2, hge⟩ := h2
            exact .inr ⟨g, h.trans h2, hge⟩
        · exact .inr ⟨_, h, by have := HG.out.size; simp; omega⟩
end Go.Proofs.YtckdecodpjfcnaaGreatDoor
namespace Go.Proofs.YtckdecodpjfcnaaGreatDoor
open Go.RowKit

/-- A slice of bytes beside a code. -/
def BytesPost (l : List UInt8) (code : Int) (w : World) (e : Ending) (w' : World) : Prop :=
  ∃ A c, e = .returned (.tuple #[.slice A l.length c, .int .i64 code]) ∧ Reads w' w'.heap.size 1 A l.length (cellsB l) ∧ l.length ≤ c ∧ Below w.heap.size w w'

/-- The same, of the call's own. -/
def OwnPost (l : List UInt8) (code : Int) (w : World) (e : Ending) (w' : World) : Prop :=
  ∃ A c, e = .returned (.tuple #[.slice A l.length c, .int .i64 code]) ∧ w'.ownsRow w.heap.size 5 1 (.slice A l.length c) l.length (cellsB l) ∧ l.length ≤ c ∧ Below w.heap.size w w'
theorem OwnPost.bytes {l : List UInt8} {code : Int} {w : World} {e : Ending} {w' : World} (h : OwnPost l code w e w') : BytesPost l code w e w' := by
  obtain ⟨A, c, he, ho, hc, hb⟩ := h
  exact ⟨A, c, he, Reads.of_own ho, hc, hb⟩

theorem made_len (n : Nat) : (madeCells (Value.int .u8 0).cells (n * 1)).toList.length = n := by
  simp [madeCells, Value.cells]

theorem sizeByte : (Tryz.prog.info? 5).map (·.size) = some 1 := by kernel_rfl

set_option maxRecDepth 100000 in
set_option maxHeartbeats 400000 in
theorem Put_own (A : Option Addr) (l : List UInt8) (c : Nat) (n : Nat) (w : World) (hr : Reads w w.heap.size 1 A l.length (cellsB l)) (hl : l.length ≤ 90000) (hn : n ≤ maxNum) :
    Calls Tryz.prog 121 #[.slice A l.length c, .int .i64 n] w (OwnPost (l ++ enc n) 0 w) := by
  obtain ⟨i0, hi, hz0, hz1, hz2⟩ := info_parts infoByte
  have hn' : n ≤ 1099511627776 := hn
  have HL := Lib.hid (len_ok n w hn)
  have hle := encLen_le n hn
  have hpos := encLen_pos n
  have hd : (((encLen n : Nat) : Int) == 0) = false := beq_eq_false_iff_ne.2 (by omega)
  have hmk : (Instr.makeSlice 46 (.int .i64 (l.length : Int)) (.int .i64 ((l.length : Int) + (encLen n : Int)))).run Tryz.prog w = .ok (.slice (some ⟨w.heap.size, 0, none⟩) l.length (l.length + encLen n)) (w.alloc (.cells (madeCells (Value.int .u8 0).cells ((l.length + encLen n) * 1)) 5)) := by
    have := run_make_rowN (P := Tryz.prog) 46 5 i0 _ Tryz.underlying46 hi hz0 .i64 .i64 l.length (l.length + encLen n) (by omega) (by rw [hz2]; omega) (by omega) w
    rw [hz1] at this
    exact this
  have hml := made_len (l.length + encLen n)
  generalize hmc : madeCells (Value.int .u8 0).cells ((l.length + encLen n) * 1) = mc at hmk hml
  obtain ⟨mcl⟩ := mc
  have HML := Lib.hid hml
  clear hml
  have hb0 : Below w.heap.size w (w.alloc (.cells ⟨mcl⟩ 5)) := (Below.refl _ _).alloc (Nat.le_refl _) _
  have hraw := hr.alloc (Nat.le_refl _) (.cells ⟨mcl⟩ 5)
  obtain ⟨W2, hcp, hblk, hg2⟩ := copy_ex (P := Tryz.prog) (sT := 46) 3 Tryz.underlying46 sizeByte (dLen := l.length) (l.length + encLen n) c (heap_alloc_new w (.cells ⟨mcl⟩ 5)) hraw (cellsB_one l) (Nat.le_refl _) (by rw [HML.out]; omega)
  have hown : W2.ownsRow w.heap.size 5 1 (.slice (some ⟨w.heap.size, 0, none⟩) l.length (l.length + encLen n)) l.length (cellsB l) := by
    refine ⟨by rw [length_cellsB]; omega, .inr ⟨w.heap.size, _, _, rfl, Nat.le_refl _, hblk, by omega, by unfold maxLen; omega, ?_, ?_⟩⟩
    · simp [length_cellsB, HML.out]
    · simp [length_cellsB]
  have hb2 : Below w.heap.size w W2 := hb0.grown hg2 (by simp) (fun k e => by cases e; exact Nat.le_refl _)
  have HP := Lib.hid (put_any w.heap.size _ l n W2 hn hown (by omega) hb2.size)
  clear hmc hr hraw hblk hg2 hown hb0
  go_enter Tryz.func121, Tryz.ntmps121
  go_wp2_with (first | (go_at_call 96; refine HL.out.mono ?_; rintro e w1 ⟨rfl, rfl⟩) | (go_at_call 123; refine HP.out.mono ?_; rintro e w3 ⟨v', rfl, ho3, hg3, _⟩; obtain ⟨A3, c3, rfl, hc3⟩ := own_slice ho3))
  go_ret2
  refine ⟨A3, c3, by rw [List.length_append]; rfl, ?_, by rw [List.length_append]; exact hc3, ?_⟩
  · rw [List.length_append]; exact ho3
  · exact hb2.grown hg3 hb2.size (fun k e => by simp [Value.ownBlock] at e; omega)
end Go.Proofs.YtckdecodpjfcnaaGreatDoor
namespace Go.Proofs.YtckdecodpjfcnaaGreatDoor
open Go.RowKit

theorem decF_step (f i acc : Nat) (c : UInt8) (r : List UInt8) (h : 128 ≤ c.toNat) : decF (f + 1) i acc (c :: r) = decF f (i + 1) (acc + c.toNat % 128 * 128 ^ i) r := by
  rw [decF, if_pos h]
theorem decF_stop (f i acc : Nat) (c : UInt8) (r : List UInt8) (h : c.toNat < 128) : decF (f + 1) i acc (c :: r) = if (c.toNat = 0 ∧ 0 < i) ∨ maxNum < acc + c.toNat % 128 * 128 ^ i then none else some (acc + c.toNat % 128 * 128 ^ i, i + 1) := by
  rw [decF, if_neg (by omega)]

/-- The world behind a call that has failed: one error more. -/
def Broken (w : World) (e : Ending) (w' : World) : Prop :=
  ∃ b, e = .returned (.tuple #[.int .i64 0, .iface 184 (.pointer (some ⟨b, 0, none⟩))]) ∧ w'.cell? ⟨b, 1, none⟩ = some (.int .i64 70) ∧ w.heap.size ≤ b ∧ Below w.heap.size w w'
theorem broken_of (w : World) (k : Int) (q : Nat) : Broken w (.returned (.tuple #[.int .i64 0, .iface 184 (.pointer (some ⟨w.heap.size, 0, none⟩))])) ((w.drewN q).alloc (.cells #[.int .i64 k, .int .i64 70] 186)) :=
  ⟨_, rfl, (Blk.new (w.drewN q) 186 #[.int .i64 k, .int .i64 70]).cell 1, Nat.le_refl _, (below_drewN (Below.refl _ _) q).alloc (Nat.le_refl _) _⟩

set_option maxRecDepth 100000 in
set_option maxHeartbeats 1000000 in
theorem next_out (p : Nat) (A : Option Addr) (L : List UInt8) (c : Nat) (k : Int) (w : World) (h0 : w.cell? ⟨p, 0, none⟩ = some (.slice A L.length c)) (h1 : w.cell? ⟨p, 1, none⟩ = some (.int .i64 k)) (hk : k < 0 ∨ (L.length : Int) < k) :
    Calls Tryz.prog 112 #[.pointer (some ⟨p, 0, none⟩)] w (Broken w) := by
  rcases hk with hk | hk
  · have hd : decide (k < 0) = true := by simpa using hk
    go_enter Tryz.func112, Tryz.ntmps112
    go_wp2
    go_quiet (fail)
    go_wp2
    go_region
    go_wp2
    go_ret2
    exact broken_of w k _
  · have hd : decide (k < 0) = false := by simp; omega
    have hd2 : decide ((L.length : Int) < k) = true := by simpa using hk
    go_enter Tryz.func112, Tryz.ntmps112
    go_wp2
    go_quiet (fail)
    go_wp2
    go_region
    go_wp2
    go_ret2
    exact broken_of w k _

/-- What place.next gives at a place within its bytes. -/
def NextPost (p : Nat) (L : List UInt8) (k : Nat) (w : World) (e : Ending) (w' : World) : Prop :=
  match dec (L.drop k) with
  | none => Broken w e w'
  | some (n, m) => e = .returned (.tuple #[.int .i64 (n : Int), .nilIface]) ∧ ∃ q, w' = (w.drewN q).setCell ⟨p, 1, none⟩ (.int .i64 ((k : Int) + ((m : Int))))

set_option maxRecDepth 100000 in
set_option maxHeartbeats 1000000 in
theorem next_in (p : Nat) (A : Option Addr) (L : List UInt8) (c k B : Nat) (w : World) (h0 : w.cell? ⟨p, 0, none⟩ = some (.slice A L.length c)) (h1 : w.cell? ⟨p, 1, none⟩ = some (.int .i64 k)) (hf1 : w.frozen? ⟨p, 1, none⟩ = false) (hk : k ≤ L.length) (hL : L.length ≤ 100000)
    (hr : Reads w B 1 A L.length (cellsB L)) :
    Calls Tryz.prog 112 #[.pointer (some ⟨p, 0, none⟩)] w (NextPost p L k w) := by
  have hd : decide ((k : Int) < 0) = false := by simp
  have hd2 : decide (L.length < k) = false := by simp; omega
  have hmin : (if (L.length : Int) - (k : Int) < 6 then (L.length : Int) - (k : Int) else 6) = ((min (L.length - k) 6 : Nat) : Int) := by
    split <;> omega
  have HMIN := Lib.hid hmin
  clear hmin
  go_enter Tryz.func112, Tryz.ntmps112
  go_wp2
  go_quiet (fail)
  go_wp2
  go_region
  rw [HMIN.out]
  obtain ⟨mx, hmx⟩ : ∃ mx, min (L.length - k) 6 = mx := ⟨_, rfl⟩
  rw [hmx]
  have hmx1 : mx ≤ 6 := by omega
  have hmx2 : k + mx ≤ L.length := by omega
  have hmx3 : mx < 6 → k + mx = L.length := by omega
  have HMX3 := Lib.hid hmx3
  clear hmx HMIN hmx3
  go_wp2_with fail
  go_loopw [4, 42] (fun x y wr => ∃ i acc q : Nat, i ≤ mx ∧ y = .int .i64 i ∧ x = .int .i64 acc ∧ acc < 128 ^ i ∧ wr = w.drewN q ∧ dec (L.drop k) = decF (6 - i) i acc (L.drop (k + i))) (fun _ y _ => mx - (intOf y).toNat)
  case atStart => exact ⟨0, 0, _, Nat.zero_le _, rfl, rfl, by decide, rfl, rfl⟩
  case round =>
    obtain ⟨i, acc, q, hi, rfl, rfl, hacc, rfl, hdec⟩ := hrel
    have HD := Lib.hid hdec
    clear hdec
    by_cases hlt : i < mx
    · obtain ⟨b1, o1, rfl, _, hc1⟩ := hr.plain (by omega)
      obtain ⟨ch, hch⟩ : ∃ ch, L[k + i]? = some ch := ⟨_, List.getElem?_eq_getElem (by omega)⟩
      have g1 := hc1 (k + i) _ (by rw [getElem?_cellsB, hch]; rfl)
      have hcl : ch.toNat < 256 := UInt8.toNat_lt ch
      have hd3 : decide ((i : Int) < (mx : Int)) = true := by simp; omega
      have hi5 : i ≤ 5 := by omega
      have hdr : L.drop (k + i) = ch :: L.drop (k + (i + 1)) := by
        rw [List.drop_eq_getElem_cons (by omega : k + i < L.length)]
        congr 1
        exact (List.getElem?_eq_some_iff.1 hch).2
      have hf6 : ∃ f, 6 - i = f + 1 ∧ 6 - (i + 1) = f := ⟨5 - i, by omega, by omega⟩
      obtain ⟨f, hf6, hf7⟩ := hf6
      have hb7 : bits .and .u8 (ch.toNat : Int) 127 = (ch.toNat : Int) % 128 := and_u8_127 _ (by omega) (by omega)
      have hor := or_acc acc (ch.toNat % 128) i hacc (by omega) hi5
      have hacc2 : acc + ch.toNat % 128 * 128 ^ i < 128 ^ (i + 1) := by
        have h1 : ch.toNat % 128 * 128 ^ i ≤ 127 * 128 ^ i := Nat.mul_le_mul_right _ (by omega)
        rw [Nat.pow_succ]; omega
      have hpw : (128 : Nat) ^ (i + 1) ≤ 4398046511104 := by
        have := Nat.pow_le_pow_right (show 0 < 128 by omega) (show i + 1 ≤ 6 by omega)
        have e6 : (128 : Nat) ^ 6 = 4398046511104 := by decide
        omega
      have HD2 := HD.out
      rw [hdr, hf6] at HD2
      generalize hA : acc + ch.toNat % 128 * 128 ^ i = acc2 at hor hacc2
      have hor2 : bits .or .i64 (acc : Int) (wrap64 ((ch.toNat : Int) % 128 * 2 ^ (7 * i))) = (acc2 : Int) := by rw [← hor]; norm_cast
      have ha2 : acc2 ≤ 4398046511104 := by omega
      have HACC := Lib.hid hacc2
      have hzero : ch.toNat = 0 → i = 0 → acc2 = 0 := fun h1 h2 => by
        rw [← hA, h1]
        rw [h2] at hacc
        simp at hacc ⊢
        omega
      have HZERO := Lib.hid hzero
      clear hzero
      have HF7 := Lib.hid hf7
      clear hor hch hc1 hr hdr hf6 hf7 hacc2 hpw hacc HD
      by_cases h128 : 128 ≤ ch.toNat
      · have hst := decF_step f i acc ch (L.drop (k + (i + 1))) h128
        rw [hA] at hst
        rw [hst] at HD2
        have HDN := Lib.hid HD2
        have h8 : bits .and .u8 (ch.toNat : Int) 128 = 128 := by rw [and_u8_128 _ (by omega) (by omega), if_neg (by omega)]
        clear hst HD2 hA
        go_wp2
        go_quiet (fail)
        go_wp2
        go_roundw
        case rel => exact ⟨i + 1, acc2, _, by omega, by go_num, rfl, HACC.out, rfl, by rw [HF7.out]; exact HDN.out⟩
        case measure => simp [intOf]; omega
      · have hst := decF_stop f i acc ch (L.drop (k + (i + 1))) (by omega)
        rw [hA] at hst
        rw [hst] at HD2
        have h8 : bits .and .u8 (ch.toNat : Int) 128 = 0 := by rw [and_u8_128 _ (by omega) (by omega), if_pos (by omega)]
        clear hst hA
        by_cases hbad : (ch.toNat = 0 ∧ 0 < i) ∨ maxNum < acc2
        · rw [if_pos hbad] at HD2
          have hfin : ∀ q, NextPost p L k w (.returned (.tuple #[.int .i64 0, .iface 184 (.pointer (some ⟨w.heap.size, 0, none⟩))])) ((w.drewN q).alloc (.cells #[.int .i64 k, .int .i64 70] 186)) := fun q => by
            unfold NextPost
            rw [HD2]
            exact broken_of w k q
          have HFIN := Lib.hid hfin
          clear HD2 hfin
          unfold maxNum at hbad
          by_cases hz : ch.toNat = 0 ∧ 0 < i
          · obtain ⟨hz0, hz3⟩ := hz
            have g2 : w.cell? ⟨b1, o1 + (k + i), none⟩ = some (.int .u8 0) := by
              rw [g1]
              show some (Value.int .u8 (ch.toNat : Int)) = _
              rw [hz0]; rfl
            have hz2 : decide ((0 : Int) < (i : Int)) = true := by simp; omega
            have h7z : bits .and .u8 0 127 = 0 := by decide
            have h8z : bits .and .u8 0 128 = 0 := by decide
            clear hbad hz0 g1 hb7 hor2 h8 h128 hcl HZERO
            go_wp2
            go_quiet (fail)
            go_wp2
            go_region
            go_wp2
            go_ret2
            exact HFIN.out _
          · have hm : decide ((1099511627776 : Int) < (acc2 : Int)) = true := by simp; omega
            by_cases hz0 : ch.toNat = 0
            · have h9 := HZERO.out hz0 (by omega)
              omega
            · have hz1 : ((ch.toNat : Int) == 0) = false := beq_eq_false_iff_ne.2 (by omega)
              clear hbad hz
              go_wp2
              go_quiet (fail)
              go_wp2
              go_region
              go_wp2
              go_ret2
              exact HFIN.out _
        · rw [if_neg hbad] at HD2
          have hfin : ∀ q, NextPost p L k w (.returned (.tuple #[.int .i64 (acc2 : Int), .nilIface])) ((w.drewN q).setCell ⟨p, 1, none⟩ (.int .i64 ((k : Int) + ((i : Int) + 1)))) := fun q => by
            unfold NextPost
            rw [HD2]
            exact ⟨rfl, q, rfl⟩
          have HFIN := Lib.hid hfin
          clear HD2 hfin
          unfold maxNum at hbad
          have hm : decide ((1099511627776 : Int) < (acc2 : Int)) = false := by simp; omega
          by_cases hz0 : ch.toNat = 0
          · have hz1 : ((ch.toNat : Int) == 0) = true := beq_iff_eq.2 (by omega)
            have hz2 : decide ((0 : Int) < (i : Int)) = false := by simp; omega
            have hi0 : i = 0 := by omega
            have HI0 := Lib.hid hi0
            clear hbad hz0 hi0
            go_wp2
            go_quiet (fail)
            go_wp2
            go_ret2
            have e : (k : Int) + 1 = (k : Int) + ((i : Int) + 1) := by have := HI0.out; omega
            first | (rw [e]; exact HFIN.out _) | exact HFIN.out _
          · have hz1 : ((ch.toNat : Int) == 0) = false := beq_eq_false_iff_ne.2 (by omega)
            clear hbad
            go_wp2
            go_quiet (fail)
            go_wp2
            go_ret2
            exact HFIN.out _
    · obtain rfl : i = mx := by omega
      have hd3 : decide ((i : Int) < (i : Int)) = false := by simp
      have hnone : dec (L.drop k) = none := by
        rw [HD.out]
        rcases Nat.lt_or_ge i 6 with h6 | h6
        · have h7 := HMX3.out h6
          rw [List.drop_eq_nil_of_le (by omega)]
          obtain ⟨f, hf⟩ : ∃ f, 6 - i = f + 1 := ⟨5 - i, by omega⟩
          rw [hf]; rfl
        · rw [show 6 - i = 0 by omega]; rfl
      have hfin : ∀ q, NextPost p L k w (.returned (.tuple #[.int .i64 0, .iface 184 (.pointer (some ⟨w.heap.size, 0, none⟩))])) ((w.drewN q).alloc (.cells #[.int .i64 k, .int .i64 70] 186)) := fun q => by
        unfold NextPost
        rw [hnone]
        exact broken_of w k q
      have HFIN := Lib.hid hfin
      clear hfin hnone HD hacc hr
      go_wp2
      go_region
      go_wp2
      go_ret2
      exact HFIN.out _
end Go.Proofs.YtckdecodpjfcnaaGreatDoor
