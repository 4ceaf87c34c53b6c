/-
  Requests, plainly: their fields, which may be, their bytes; bytes are read as what was written. No program in sight.
  A batch, read field by field, plainly. No program in sight.
-/
import Derived.Test.YtckdecodpjfcnaaGreatDoorGrp03
set_option linter.unusedVariables false
set_option linter.unusedSimpArgs false
namespace Go.Proofs.YtckdecodpjfcnaaGreatDoor
open Go.RowKit

def rdRec : Rdr Rec := fun l i b => ((bs (rdTxt l i b 16).1, bs (rdTxt l (rdTxt l i b 16).2.1 (rdTxt l i b 16).2.2 16).1), (rdTxt l (rdTxt l i b 16).2.1 (rdTxt l i b 16).2.2 16).2)
theorem fol_rec : Fol rdRec cRec id := by
  have h := ((fol_txt 16).bind (k := fun x => rdMap (fun l i b => rdTxt l i b 16) (fun y => (x, y))) (d := fun _ => cTxt 16) (g := fun x y => (x, y)) (fun y => (fol_txt 16).map (fun z => (y, z))) (fun _ l i => (fol_txt 16).stop l i) (fun _ l i b hi => (fol_txt 16).le l i b hi))
  have h2 := (h.map (fun z => ((bs z.1, bs z.2) : Rec))).iso (fun z => (bs z.1, bs z.2)) (fun r : Rec => (lb r.1, lb r.2)) (fun _ => True) (fun y => by simp [bs_lb]) (fun x => by simp [lb_bs]) (fun _ => trivial)
  exact h2.congr (fun _ _ _ => rfl) (fun y => by simp only [id, bs_lb])

def rdRecs (n : Int) : Rdr (List Rec) := rdRep rdRec n.toNat
def rdBatRaw : Rdr Bat :=
  rdBind (fun l i b => rdNum l i b 1 8) fun pid => rdBind (fun l i b => rdNum l i b 0 100) fun ep => rdBind (fun l i b => rdNum l i b 0 1048576) fun sq =>
    rdBind rdFlag fun t => rdBind (fun l i b => rdNum l i b 1 4) fun n => rdMap (rdRecs n) fun rs => ⟨pid, ep, sq, t, rs⟩
theorem rdRecs_stop (n : Int) (l : List UInt8) (i : Nat) : (rdRecs n l i true).2.2 = true := rdRep_stop fol_rec.stop _ l i
theorem rdRecs_le (n : Int) (l : List UInt8) (i : Nat) (b : Bool) (h : i ≤ l.length) : (rdRecs n l i b).2.1 ≤ l.length := rdRep_le fol_rec.le _ l i b h
theorem fol_raw : Fol rdBatRaw cBatRaw batOf := by
  have s1 : ∀ (pid ep sq : Int) (t : Bool) (n : Int) l i, (rdMap (rdRecs n) (fun rs => (⟨pid, ep, sq, t, rs⟩ : Bat)) l i true).2.2 = true := fun _ _ _ _ n l i => rdRecs_stop n l i
  have e1 : ∀ (pid ep sq : Int) (t : Bool) (n : Int) l i b, i ≤ l.length → (rdMap (rdRecs n) (fun rs => (⟨pid, ep, sq, t, rs⟩ : Bat)) l i b).2.1 ≤ l.length := fun _ _ _ _ n l i b h => rdRecs_le n l i b h
  have f1 : ∀ (pid ep sq : Int) (t : Bool), Fol (rdBind (fun l i b => rdNum l i b 1 4) fun n => rdMap (rdRecs n) fun rs => (⟨pid, ep, sq, t, rs⟩ : Bat)) ((cNum 1 4).bind fun n => cRec.rep n) (fun z => (⟨pid, ep, sq, t, z.2⟩ : Bat)) := by
    intro pid ep sq t
    refine (fol_num 1 4).bind (g := fun _ rs => (⟨pid, ep, sq, t, rs⟩ : Bat)) (fun n => ?_) (s1 pid ep sq t) (e1 pid ep sq t)
    have := (fol_rec.rep n).map (fun rs => (⟨pid, ep, sq, t, rs⟩ : Bat))
    simp only [List.map_id] at this
    show Fol (rdMap (rdRep rdRec (Int.toNat (n : Int))) _) _ _
    rw [Int.toNat_natCast]
    exact this
  have f2 : ∀ (pid ep sq : Int), Fol (rdBind rdFlag fun t => rdBind (fun l i b => rdNum l i b 1 4) fun n => rdMap (rdRecs n) fun rs => (⟨pid, ep, sq, t, rs⟩ : Bat)) (cFlag.bind fun _ => (cNum 1 4).bind fun n => cRec.rep n) (fun z => (⟨pid, ep, sq, z.1, z.2.2⟩ : Bat)) := fun pid ep sq =>
    fol_flag.bind (g := fun t (z : Nat × List Rec) => (⟨pid, ep, sq, t, z.2⟩ : Bat)) (fun t => f1 pid ep sq t) (fun t => (f1 pid ep sq t).stop) (fun t => (f1 pid ep sq t).le)
  have f3 : ∀ (pid ep : Int), Fol (rdBind (fun l i b => rdNum l i b 0 1048576) fun sq => rdBind rdFlag fun t => rdBind (fun l i b => rdNum l i b 1 4) fun n => rdMap (rdRecs n) fun rs => (⟨pid, ep, sq, t, rs⟩ : Bat)) ((cNum 0 1048576).bind fun _ => cFlag.bind fun _ => (cNum 1 4).bind fun n => cRec.rep n) (fun z => (⟨pid, ep, z.1, z.2.1, z.2.2.2⟩ : Bat)) := fun pid ep =>
    (fol_num 0 1048576).bind (g := fun (sq : Nat) (z : Bool × Nat × List Rec) => (⟨pid, ep, sq, z.1, z.2.2⟩ : Bat)) (fun sq => f2 pid ep sq) (fun sq => (f2 pid ep sq).stop) (fun sq => (f2 pid ep sq).le)
  have f4 : ∀ (pid : Int), Fol (rdBind (fun l i b => rdNum l i b 0 100) fun ep => rdBind (fun l i b => rdNum l i b 0 1048576) fun sq => rdBind rdFlag fun t => rdBind (fun l i b => rdNum l i b 1 4) fun n => rdMap (rdRecs n) fun rs => (⟨pid, ep, sq, t, rs⟩ : Bat)) ((cNum 0 100).bind fun _ => (cNum 0 1048576).bind fun _ => cFlag.bind fun _ => (cNum 1 4).bind fun n => cRec.rep n) (fun z => (⟨pid, z.1, z.2.1, z.2.2.1, z.2.2.2.2⟩ : Bat)) := fun pid =>
    (fol_num 0 100).bind (g := fun (ep : Nat) (z : Nat × Bool × Nat × List Rec) => (⟨pid, ep, z.1, z.2.1, z.2.2.2⟩ : Bat)) (fun ep => f3 pid ep) (fun ep => (f3 pid ep).stop) (fun ep => (f3 pid ep).le)
  exact (fol_num 1 8).bind (g := fun (pid : Nat) (z : Nat × Nat × Bool × Nat × List Rec) => (⟨pid, z.1, z.2.1, z.2.2.1, z.2.2.2.2⟩ : Bat)) (fun pid => f4 pid) (fun pid => (f4 pid).stop) (fun pid => (f4 pid).le)

/-- A batch that may be, or the reader is stopped. -/
def rdBat : Rdr Bat := fun l i b => if (rdBatRaw l i b).2.2 = true ∨ mayBt (rdBatRaw l i b).1 = false then (Bat0, (rdBatRaw l i b).2.1, true) else rdBatRaw l i b
theorem fol_bat : Fol rdBat cBat id where
  stop l i := by unfold rdBat; rw [if_pos (.inl (fol_raw.stop l i))]
  le l i b hi := by
    have := fol_raw.le l i b hi
    unfold rdBat
    split
    · exact this
    · exact this
  ok l i y r hi hp := by
    have e : cBat.p (l.drop i) = match cBatRaw.p (l.drop i) with
      | some (z, r) => if mayBt (batOf z) = true then some (batOf z, r) else none
      | none => none := rfl
    rw [e] at hp
    split at hp
    · rename_i z r' hz
      split at hp
      · rename_i hm
        injection hp with hp
        injection hp with h1 h2
        subst h1; subst h2
        obtain ⟨j, hj, e1, e2⟩ := fol_raw.ok l i z r' hi hz
        refine ⟨j, hj, ?_, e2⟩
        unfold rdBat
        rw [e1, if_neg (by simp [hm])]
        rfl
      · cases hp
    · cases hp
  no l i hi hp := by
    have e : cBat.p (l.drop i) = match cBatRaw.p (l.drop i) with
      | some (z, r) => if mayBt (batOf z) = true then some (batOf z, r) else none
      | none => none := rfl
    rw [e] at hp
    unfold rdBat
    split at hp
    · rename_i z r' hz
      split at hp
      · cases hp
      · rename_i hm
        obtain ⟨j, hj, e1, e2⟩ := fol_raw.ok l i z r' hi hz
        rw [if_pos (.inr (by rw [e1]; simpa using hm))]
    · rename_i hz
      rw [if_pos (.inl (fol_raw.no l i hi hz))]
theorem rdBat_may {l : List UInt8} {i : Nat} {b : Bool} (h : (rdBat l i b).2.2 = false) : mayBt (rdBat l i b).1 = true := by
  unfold rdBat at *
  split at h
  · cases h
  · rename_i hh
    rw [if_neg hh]
    cases hm : mayBt (rdBatRaw l i b).1
    · exact absurd (.inr hm) hh
    · rfl
theorem rdBat_rs (l : List UInt8) (i : Nat) (b : Bool) : (rdBat l i b).1.rs.length ≤ 4 := by
  cases h : (rdBat l i b).2.2
  · have := ((mayBt_iff _).1 (rdBat_may h)).1
    omega
  · unfold rdBat at *
    split
    · exact Nat.zero_le _
    · rename_i hh
      rw [if_neg hh] at h
      exact absurd (.inl h) hh

/-- Bytes as a batch, or ErrCode. -/
def readBt (l : List UInt8) : Bat × Int := if (rdBat l 0 false).2.2 = true ∨ (rdBat l 0 false).2.1 ≠ l.length then (Bat0, 70) else ((rdBat l 0 false).1, 0)
theorem readBt_ok {b : Bat} (h : mayBt b = true) : readBt (encBt b) = (b, 0) := by
  have h1 : rdBat (encBt b) 0 false = (b, (encBt b).length, false) := fol_bat.all.2 ⟨b, h, rfl, rfl⟩
  unfold readBt
  rw [h1, if_neg (by simp)]
theorem readBt_only {l : List UInt8} (h : (readBt l).2 = 0) : mayBt (readBt l).1 = true ∧ l = encBt (readBt l).1 := by
  unfold readBt at *
  split at h
  · cases h
  · rename_i hh
    rw [if_neg hh]
    have h1 : (rdBat l 0 false).2.2 = false := by
      cases hb : (rdBat l 0 false).2.2
      · rfl
      · exact absurd (.inl hb) hh
    have h2 : (rdBat l 0 false).2.1 = l.length := Classical.byContradiction fun hn => hh (.inr hn)
    have h3 : rdBat l 0 false = ((rdBat l 0 false).1, l.length, false) := Prod.ext rfl (Prod.ext h2 h1)
    obtain ⟨y, hv, he, hy⟩ := fol_bat.all.1 h3
    simp only [id] at hy
    rw [hy] at he hv
    exact ⟨hv, he⟩
theorem readBt_code (l : List UInt8) : (readBt l).2 = 0 ∨ readBt l = (Bat0, 70) := by
  unfold readBt
  split
  · exact .inr rfl
  · exact .inl rfl
/-- No beginning of a batch's bytes, and nothing longer, is a batch. -/
theorem readBt_other {b : Bat} {l t : List UInt8} (h : mayBt b = true) (hl : l ++ t = encBt b ∨ encBt b ++ t = l) (ht : t ≠ []) : readBt l = (Bat0, 70) := by
  rcases readBt_code l with h0 | h0
  · exfalso
    obtain ⟨h1, h2⟩ := readBt_only h0
    rcases hl with hl | hl
    · rw [h2] at hl
      have := cBat.inj (x := (readBt l).1) (y := b) (r := t) (s := []) h1 h (by rw [List.append_nil]; exact hl)
      exact ht this.2
    · rw [h2] at hl
      have := cBat.inj (x := b) (y := (readBt l).1) (r := t) (s := []) h h1 (by rw [List.append_nil]; exact hl)
      exact ht this.2
  · exact h0
theorem readBt_rs (l : List UInt8) : (readBt l).1.rs.length ≤ 4 := by
  unfold readBt
  split
  · exact Nat.zero_le _
  · exact rdBat_rs _ _ _
end Go.Proofs.YtckdecodpjfcnaaGreatDoor
namespace Go.Proofs.YtckdecodpjfcnaaGreatDoor
open Go.RowKit

/-- The fields of a request but its kind. -/
inductive Fl where
  | tid | tm | pid | ep | part | grp | off | most | yes | bat
instance : DecidableEq Fl := fun a b => by cases a <;> cases b <;> first | exact isTrue rfl | exact isFalse (fun h => by cases h)
def FV : Fl → Type
  | .yes => Bool
  | .bat => Bat
  | _ => Int
structure Rq where
  kd : Int
  tid : Int
  tm : Int
  pid : Int
  ep : Int
  part : Int
  grp : Int
  off : Int
  most : Int
  yes : Bool
  b : Bat
def Rq0 : Rq := ⟨0, 0, 0, 0, 0, 0, 0, 0, 0, false, Bat0⟩
def Rq.get (q : Rq) : (f : Fl) → FV f
  | .tid => q.tid
  | .tm => q.tm
  | .pid => q.pid
  | .ep => q.ep
  | .part => q.part
  | .grp => q.grp
  | .off => q.off
  | .most => q.most
  | .yes => q.yes
  | .bat => q.b
def Rq.of (k : Int) (a : (f : Fl) → FV f) : Rq := ⟨k, a .tid, a .tm, a .pid, a .ep, a .part, a .grp, a .off, a .most, a .yes, a .bat⟩
theorem of_get (q : Rq) : Rq.of q.kd q.get = q := rfl
theorem get_of (k : Int) (a : (f : Fl) → FV f) : (Rq.of k a).get = a := by funext f; cases f <;> rfl
def zeroF : (f : Fl) → FV f
  | .yes => false
  | .bat => Bat0
  | .tid | .tm | .pid | .ep | .part | .grp | .off | .most => (0 : Int)
theorem get_zero : Rq0.get = zeroF := by funext f; cases f <;> rfl
def upd (a : (f : Fl) → FV f) (f : Fl) (x : FV f) : (g : Fl) → FV g := fun g => if h : f = g then h ▸ x else a g
theorem upd_same (a : (f : Fl) → FV f) (f : Fl) (x : FV f) : upd a f x f = x := by unfold upd; rw [dif_pos rfl]
theorem upd_ne (a : (f : Fl) → FV f) {f g : Fl} (x : FV f) (h : f ≠ g) : upd a f x g = a g := by unfold upd; rw [dif_neg h]

/-- Which fields a kind has. -/
def flOf (k : Int) : List Fl :=
  if k = 1 then [.tid, .tm] else if k = 2 then [.part, .bat] else if k = 3 then [.pid, .ep, .grp, .part, .off] else if k = 4 then [.pid, .ep, .yes]
  else if k = 5 then [.part, .off, .most, .yes] else if k = 6 then [.grp, .part, .off] else if k = 7 then [.grp, .part] else if k = 8 then [.part, .off] else []
theorem flOf_nodup (k : Int) : (flOf k).Nodup := by
  unfold flOf
  repeat' split
  all_goals decide

/-- A number, as Go has it. -/
def cI (lo hi : Nat) : Cd Int where
  p l := match (cNum lo hi).p l with
    | some (n, r) => some ((n : Int), r)
    | none => none
  e x := enc x.toNat
  v x := 0 ≤ x ∧ (cNum lo hi).v x.toNat
  law l x r := by
    constructor
    · intro h
      split at h
      · rename_i n r' hn
        injection h with h
        injection h with h1 h2
        subst h1; subst h2
        obtain ⟨h3, h4⟩ := (cNum lo hi).only hn
        rw [Int.toNat_natCast]
        exact ⟨⟨by omega, h3⟩, h4⟩
      · cases h
    · rintro ⟨⟨h1, h2⟩, rfl⟩
      have : (cNum lo hi).p (enc x.toNat ++ r) = some (x.toNat, r) := (cNum lo hi).back h2 r
      rw [this]
      simp only
      rw [Int.toNat_of_nonneg h1]
theorem fol_I (lo hi : Nat) : Fol (fun l i b => rdNum l i b lo hi) (cI lo hi) id where
  stop := (fol_num lo hi).stop
  le := (fol_num lo hi).le
  ok l i y r hil h := by
    have e : (cI lo hi).p (l.drop i) = match (cNum lo hi).p (l.drop i) with
      | some (n, r) => some ((n : Int), r)
      | none => none := rfl
    rw [e] at h
    split at h
    · rename_i n r' hn
      injection h with h
      injection h with h1 h2
      subst h1; subst h2
      exact (fol_num lo hi).ok l i n _ hil hn
    · cases h
  no l i hil h := by
    have e : (cI lo hi).p (l.drop i) = match (cNum lo hi).p (l.drop i) with
      | some (n, r) => some ((n : Int), r)
      | none => none := rfl
    rw [e] at h
    split at h
    · cases h
    · rename_i hn
      exact (fol_num lo hi).no l i hil hn
/-- A batch's bytes, as a text. -/
def cBt : Cd Bat where
  p l := match (cTxt 1024).p l with
    | some (t, r) => if (readBt t).2 = 0 then some ((readBt t).1, r) else none
    | none => none
  e b := (cTxt 1024).e (encBt b)
  v b := mayBt b = true
  law l x r := by
    constructor
    · intro h
      split at h
      · rename_i t r' ht
        split at h
        · rename_i h0
          injection h with h
          injection h with h1 h2
          subst h1; subst h2
          obtain ⟨h3, h4⟩ := readBt_only h0
          obtain ⟨h5, h6⟩ := (cTxt 1024).only ht
          rw [← h4]
          exact ⟨h3, h6⟩
        · cases h
      · cases h
    · rintro ⟨h1, rfl⟩
      have hl := (encBt_len x h1).1
      have hv : (cTxt 1024).v (encBt x) := ⟨by omega, by unfold maxNum; omega⟩
      rw [(cTxt 1024).back hv r]
      simp only [readBt_ok h1, if_true]
def rdBt : Rdr Bat := fun l i b => if (readBt (rdTxt l i b 1024).1).2 = 0 then ((readBt (rdTxt l i b 1024).1).1, (rdTxt l i b 1024).2) else (Bat0, (rdTxt l i b 1024).2.1, true)
theorem fol_bt : Fol rdBt cBt id where
  stop l i := by
    unfold rdBt
    split
    · exact (fol_txt 1024).stop l i
    · rfl
  le l i b h := by
    unfold rdBt
    split
    · exact (fol_txt 1024).le l i b h
    · exact (fol_txt 1024).le l i b h
  ok l i y r hi h := by
    have e : cBt.p (l.drop i) = match (cTxt 1024).p (l.drop i) with
      | some (t, r) => if (readBt t).2 = 0 then some ((readBt t).1, r) else none
      | none => none := rfl
    rw [e] at h
    split at h
    · rename_i t r' ht
      split at h
      · rename_i h0
        injection h with h
        injection h with h1 h2
        subst h1; subst h2
        obtain ⟨j, hj, e1, e2⟩ := (fol_txt 1024).ok l i t _ hi ht
        simp only [id] at e1
        refine ⟨j, hj, ?_, e2⟩
        unfold rdBt
        have e1' : rdTxt l i false 1024 = (t, j, false) := e1
        rw [e1', if_pos h0]
        rfl
      · cases h
    · cases h
  no l i hi h := by
    have e : cBt.p (l.drop i) = match (cTxt 1024).p (l.drop i) with
      | some (t, r) => if (readBt t).2 = 0 then some ((readBt t).1, r) else none
      | none => none := rfl
    rw [e] at h
    unfold rdBt
    split at h
    · rename_i t r' ht
      split at h
      · cases h
      · rename_i h0
        obtain ⟨j, hj, e1, e2⟩ := (fol_txt 1024).ok l i t _ hi ht
        have e1' : rdTxt l i false 1024 = (t, j, false) := e1
        rw [e1', if_neg h0]
    · rename_i hn
      have := (fol_txt 1024).no l i hi hn
      split
      · exact this
      · rfl
/-- From, to. -/
def loF : Fl → Nat
  | .tm | .pid | .most => 1
  | _ => 0
def hiF : Fl → Nat
  | .tid | .part => 2
  | .tm => 20
  | .pid => 8
  | .ep => 100
  | .grp => 1
  | .most => 64
  | _ => 1048576
def cF : (f : Fl) → Cd (FV f)
  | .yes => cFlag
  | .bat => cBt
  | .tid => cI (loF .tid) (hiF .tid)
  | .tm => cI (loF .tm) (hiF .tm)
  | .pid => cI (loF .pid) (hiF .pid)
  | .ep => cI (loF .ep) (hiF .ep)
  | .part => cI (loF .part) (hiF .part)
  | .grp => cI (loF .grp) (hiF .grp)
  | .off => cI (loF .off) (hiF .off)
  | .most => cI (loF .most) (hiF .most)
def rdF : (f : Fl) → Rdr (FV f)
  | .yes => rdFlag
  | .bat => rdBt
  | .tid => fun l i b => rdNum l i b (loF .tid) (hiF .tid)
  | .tm => fun l i b => rdNum l i b (loF .tm) (hiF .tm)
  | .pid => fun l i b => rdNum l i b (loF .pid) (hiF .pid)
  | .ep => fun l i b => rdNum l i b (loF .ep) (hiF .ep)
  | .part => fun l i b => rdNum l i b (loF .part) (hiF .part)
  | .grp => fun l i b => rdNum l i b (loF .grp) (hiF .grp)
  | .off => fun l i b => rdNum l i b (loF .off) (hiF .off)
  | .most => fun l i b => rdNum l i b (loF .most) (hiF .most)
theorem fol_F : (f : Fl) → Fol (rdF f) (cF f) id
  | .yes => fol_flag
  | .bat => fol_bt
  | .tid => fol_I _ _
  | .tm => fol_I _ _
  | .pid => fol_I _ _
  | .ep => fol_I _ _
  | .part => fol_I _ _
  | .grp => fol_I _ _
  | .off => fol_I _ _
  | .most => fol_I _ _

section
variable (c : (f : Fl) → Cd (FV f)) (rd : (f : Fl) → Rdr (FV f))
/-- Fields, one behind the other. -/
def pFs : List Fl → ((f : Fl) → FV f) → List UInt8 → Option (((f : Fl) → FV f) × List UInt8)
  | [], a, l => some (a, l)
  | f :: fs, a, l => match (c f).p l with
    | some (x, r) => pFs fs (upd a f x) r
    | none => none
def eFs (fs : List Fl) (a : (f : Fl) → FV f) : List UInt8 := fs.flatMap fun f => (c f).e (a f)
theorem pFs_law : ∀ (fs : List Fl), fs.Nodup → ∀ (a a' : (f : Fl) → FV f) (l r : List UInt8),
    pFs c fs a l = some (a', r) ↔ (∀ f ∈ fs, (c f).v (a' f)) ∧ (∀ f, f ∉ fs → a' f = a f) ∧ l = eFs c fs a' ++ r
  | [], _, a, a', l, r => by
    unfold pFs eFs
    constructor
    · intro h
      injection h with h
      injection h with h1 h2
      subst h1; subst h2
      exact ⟨by simp, by simp, by simp⟩
    · rintro ⟨_, h2, h3⟩
      have : a' = a := funext fun f => h2 f (by simp)
      rw [this, h3]; rfl
  | f :: fs, hn, a, a', l, r => by
    have hnf := (List.nodup_cons.1 hn).1
    have hns := (List.nodup_cons.1 hn).2
    rw [pFs]
    show _ ↔ _ ∧ _ ∧ l = ((c f).e (a' f) ++ eFs c fs a') ++ r
    constructor
    · intro h
      split at h
      · rename_i x r1 hx
        obtain ⟨h1, h2, h3⟩ := (pFs_law fs hns _ _ _ _).1 h
        obtain ⟨h4, h5⟩ := (c f).only hx
        have hf : a' f = x := by rw [h2 f hnf, upd_same]
        refine ⟨?_, ?_, ?_⟩
        · intro g hg
          rcases List.mem_cons.1 hg with rfl | hg
          · rw [hf]; exact h4
          · exact h1 g hg
        · intro g hg
          rw [h2 g (fun h => hg (List.mem_cons_of_mem _ h)), upd_ne _ _ (fun e => hg (by rw [← e]; exact List.mem_cons_self ..))]
        · rw [h5, h3, hf, List.append_assoc]
      · cases h
    · rintro ⟨h1, h2, rfl⟩
      rw [List.append_assoc, (c f).back (h1 f (List.mem_cons_self ..))]
      simp only
      refine (pFs_law fs hns _ _ _ _).2 ⟨fun g hg => h1 g (List.mem_cons_of_mem _ hg), fun g hg => ?_, rfl⟩
      by_cases e : f = g
      · subst e; rw [upd_same]
      · rw [upd_ne _ _ e]
        exact h2 g (fun h => (List.mem_cons.1 h).elim (fun h => e h.symm) hg)
/-- Fields, read one behind the other. -/
def rdFs : List Fl → ((f : Fl) → FV f) → Rdr ((f : Fl) → FV f)
  | [], a, _, i, b => (a, i, b)
  | f :: fs, a, l, i, b => rdFs fs (upd a f (rd f l i b).1) l (rd f l i b).2.1 (rd f l i b).2.2
theorem rdFs_stop (h : ∀ f, Fol (rd f) (c f) id) : ∀ fs a l i, (rdFs rd fs a l i true).2.2 = true
  | [], _, _, _ => rfl
  | f :: fs, a, l, i => by rw [rdFs, (h f).stop]; exact rdFs_stop h fs _ l _
theorem rdFs_fol (h : ∀ f, Fol (rd f) (c f) id) : ∀ fs a l i, i ≤ l.length →
    (∀ a' r, pFs c fs a (l.drop i) = some (a', r) → ∃ j, j ≤ l.length ∧ rdFs rd fs a l i false = (a', j, false) ∧ l.drop j = r) ∧ (pFs c fs a (l.drop i) = none → (rdFs rd fs a l i false).2.2 = true)
  | [], a, l, i, hi => ⟨fun a' r hp => by
      rw [pFs] at hp
      injection hp with hp
      injection hp with h1 h2
      subst h1
      exact ⟨i, hi, rfl, h2⟩, fun hp => by rw [pFs] at hp; cases hp⟩
  | f :: fs, a, l, i, hi => by
    rw [pFs, rdFs]
    cases hx : (c f).p (l.drop i) with
    | none =>
      have := (h f).no l i hi hx
      rw [this]
      exact ⟨fun _ _ hp => (by cases hp), fun _ => rdFs_stop c rd h fs _ l _⟩
    | some z =>
      obtain ⟨x, r1⟩ := z
      obtain ⟨j, hj, e1, e2⟩ := (h f).ok l i x r1 hi hx
      rw [e1]
      simp only [id]
      rw [← e2]
      exact rdFs_fol h fs _ l j hj
end
/-- Which request may be. -/
def mayRq (q : Rq) : Prop := (0 ≤ q.kd ∧ q.kd ≤ 9) ∧ (∀ f ∈ flOf q.kd, (cF f).v (q.get f)) ∧ ∀ f, f ∉ flOf q.kd → q.get f = zeroF f
def encRq (q : Rq) : List UInt8 := enc q.kd.toNat ++ eFs cF (flOf q.kd) q.get
def cRq : Cd Rq where
  p l := match (cI 0 9).p l with
    | some (k, r) => match pFs cF (flOf k) zeroF r with
      | some (a, s) => some (Rq.of k a, s)
      | none => none
    | none => none
  e := encRq
  v := mayRq
  law l q r := by
    constructor
    · intro h
      split at h
      · rename_i k r1 hk
        split at h
        · rename_i a s hs
          injection h with h
          injection h with h1 h2
          subst h1; subst h2
          obtain ⟨h3, h4⟩ := (cI 0 9).only hk
          obtain ⟨h5, h6, h7⟩ := (pFs_law cF _ (flOf_nodup k) _ _ _ _).1 hs
          have h3' : 0 ≤ k ∧ (0 ≤ k.toNat ∧ k.toNat ≤ 9 ∧ k.toNat ≤ maxNum) := h3
          have hk9 : k ≤ 9 := by omega
          refine ⟨⟨⟨h3'.1, hk9⟩, ?_, ?_⟩, ?_⟩
          · show ∀ f ∈ flOf k, _
            rw [get_of]; exact h5
          · show ∀ f, f ∉ flOf k → _
            rw [get_of]; exact h6
          · show _ = (enc k.toNat ++ eFs cF (flOf k) (Rq.of k a).get) ++ _
            rw [get_of, h4, h7, List.append_assoc]; rfl
        · cases h
      · cases h
    · rintro ⟨⟨h1, h2, h3⟩, rfl⟩
      have hk : (cI 0 9).p (encRq q ++ r) = some (q.kd, eFs cF (flOf q.kd) q.get ++ r) := by
        have hv : (cI 0 9).v q.kd := ⟨h1.1, show 0 ≤ q.kd.toNat ∧ q.kd.toNat ≤ 9 ∧ q.kd.toNat ≤ maxNum by unfold maxNum; omega⟩
        have := (cI 0 9).back hv (eFs cF (flOf q.kd) q.get ++ r)
        rw [← this]
        unfold encRq
        rw [List.append_assoc]; rfl
      rw [hk]
      simp only
      rw [(pFs_law cF _ (flOf_nodup q.kd) zeroF q.get _ r).2 ⟨h2, h3, rfl⟩]
      rfl
/-- Bytes as a request, or ErrCode. -/
def readRq (l : List UInt8) : Rq × Int := match cRq.p l with
  | some (q, []) => (q, 0)
  | _ => (Rq0, 70)
theorem readRq_ok {q : Rq} (h : mayRq q) : readRq (encRq q) = (q, 0) := by
  unfold readRq
  have : cRq.p (encRq q) = some (q, []) := cRq.back0 h
  rw [this]
theorem readRq_cases (l : List UInt8) : (∃ q, readRq l = (q, 0) ∧ mayRq q ∧ l = encRq q) ∨ readRq l = (Rq0, 70) := by
  unfold readRq
  split
  · rename_i q hq
    obtain ⟨h1, h2⟩ := cRq.only hq
    rw [List.append_nil] at h2
    exact .inl ⟨q, rfl, h1, h2⟩
  · exact .inr rfl
/-- What the program's reading tells. -/
def rdRqRaw (l : List UInt8) : Rq × Nat × Bool :=
  (Rq.of (rdNum l 0 false 0 9).1 (rdFs rdF (flOf (rdNum l 0 false 0 9).1) zeroF l (rdNum l 0 false 0 9).2.1 (rdNum l 0 false 0 9).2.2).1, (rdFs rdF (flOf (rdNum l 0 false 0 9).1) zeroF l (rdNum l 0 false 0 9).2.1 (rdNum l 0 false 0 9).2.2).2)
theorem readRq_raw (l : List UInt8) : readRq l = if (rdRqRaw l).2.2 = true ∨ (rdRqRaw l).2.1 ≠ l.length then (Rq0, 70) else ((rdRqRaw l).1, 0) := by
  have hp : cRq.p l = match (cI 0 9).p l with
    | some (k, r) => match pFs cF (flOf k) zeroF r with
      | some (a, s) => some (Rq.of k a, s)
      | none => none
    | none => none := rfl
  unfold readRq
  have hd : l = l.drop 0 := rfl
  cases hk : (cI 0 9).p l with
  | none =>
    have := (fol_I 0 9).no l 0 (Nat.zero_le _) hk
    have h0 : (rdNum l 0 false 0 9).2.2 = true := this
    have hst : (rdRqRaw l).2.2 = true := by
      unfold rdRqRaw
      rw [h0]
      exact rdFs_stop cF rdF fol_F _ _ l _
    rw [hp, hk, if_pos (.inl hst)]
  | some z =>
    obtain ⟨k, r⟩ := z
    obtain ⟨j, hj, e1, e2⟩ := (fol_I 0 9).ok l 0 k r (Nat.zero_le _) hk
    have e1' : rdNum l 0 false 0 9 = (k, j, false) := e1
    have hraw : rdRqRaw l = (Rq.of k (rdFs rdF (flOf k) zeroF l j false).1, (rdFs rdF (flOf k) zeroF l j false).2) := by unfold rdRqRaw; rw [e1']
    obtain ⟨g1, g2⟩ := rdFs_fol cF rdF fol_F (flOf k) zeroF l j hj
    rw [e2] at g1 g2
    rw [hp, hk]
    simp only
    cases hs : pFs cF (flOf k) zeroF r with
    | none =>
      have h2 := g2 hs
      rw [hraw, if_pos (.inl h2)]
    | some y =>
      obtain ⟨a, s⟩ := y
      obtain ⟨j', hj', e3, e4⟩ := g1 a s hs
      rw [hraw, e3]
      simp only
      cases s with
      | nil =>
        have : j' = l.length := by
          have := congrArg List.length e4
          rw [List.length_drop] at this
          have h0 : l.length - j' = 0 := this
          omega
        rw [if_neg (by simp [this])]
      | cons c s =>
        have : j' ≠ l.length := by
          intro h
          rw [h, List.drop_length] at e4
          cases e4
        rw [if_pos (.inr this)]
end Go.Proofs.YtckdecodpjfcnaaGreatDoor
