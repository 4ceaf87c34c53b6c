/-
  Layer 2, reading: field lets one read; what it hands back, where the reader is.
  Entries, plainly: their fields, which may be, their bytes; bytes are read as what was written, by the program's ranges or by the document's. No program in sight.
  A region that draws its order, whose first operations only read (or call what leaves the world as it was): these are walked once, in the order of the text, by the cheap step of the quiet walk; the rest stands in one forced order.
  A region that draws its order, whose operations only read what was there and whose callees may make memory but leave what was there as it was: walked once, in the order of the text, over the class of all such worlds.
  Layer 2, reading: the bytes ahead of a reader, a number read there, or a stop.
  Layer 2, reading: what a reader's deferred closure does: it recovers a stop, and stops the reader where it was.
-/
import Derived.Test.YtckdecodpjfcnaaGreatDoorEnRowsProofP04
import Derived.StillTailTactics
import Derived.Deep.QuietTactic
import Derived.BigQuiet
import Derived.Below
import Derived.Defers
import Derived.Recover
import Derived.Laws.Pointers
set_option linter.unusedVariables false
set_option linter.unusedSimpArgs false
namespace Go.Proofs.YtckdecodpjfcnaaGreatDoor
open Go.RowKit

section
variable {α β γ δ : Type}
/-- A way of writing of some things alone. -/
def Cd.emb (c : Cd α) (f : α → β) (g : β → α) (h : ∀ x, c.v x → g (f x) = x) : Cd β where
  p l := match c.p l with
    | some (x, r) => some (f x, r)
    | none => none
  e y := c.e (g y)
  v y := f (g y) = y ∧ c.v (g y)
  law l y r := by
    constructor
    · intro hp
      split at hp
      · rename_i x r' hx
        injection hp with hp
        injection hp with h1 h2
        subst h1; subst h2
        obtain ⟨v1, e1⟩ := c.only hx
        rw [h x v1]
        exact ⟨⟨rfl, v1⟩, e1⟩
      · cases hp
    · rintro ⟨⟨h1, h2⟩, rfl⟩
      rw [c.back h2]
      simp only [h1]
theorem Fol.emb {rd : Rdr α} {c : Cd γ} {k : γ → α} (h : Fol rd c k) (f : γ → β) (g : β → γ) (hg : ∀ x, c.v x → g (f x) = x) (m : α → δ) (n : β → δ) (hm : ∀ x, m (k x) = n (f x)) : Fol (rdMap rd m) (c.emb f g hg) n where
  stop l i := h.stop l i
  le l i b hi := h.le l i b hi
  ok l i y r hi hp := by
    have e : (c.emb f g hg).p (l.drop i) = match c.p (l.drop i) with
      | some (x, r) => some (f x, r)
      | none => none := rfl
    rw [e] at hp
    split at hp
    · rename_i x r1 hx
      injection hp with hp
      injection hp with h3 h4
      subst h3; subst h4
      obtain ⟨j, hj, e1, e2⟩ := h.ok l i x _ hi hx
      exact ⟨j, hj, by unfold rdMap; rw [e1, hm], e2⟩
    · cases hp
  no l i hi hp := by
    have e : (c.emb f g hg).p (l.drop i) = match c.p (l.drop i) with
      | some (x, r) => some (f x, r)
      | none => none := rfl
    rw [e] at hp
    split at hp
    · cases hp
    · rename_i hx
      exact h.no l i hi hx
end

theorem cI_v (lo hi : Nat) (x : Int) (h : hi ≤ 1048577) : (cI lo hi).v x ↔ (lo : Int) ≤ x ∧ x ≤ hi := by
  show 0 ≤ x ∧ (lo ≤ x.toNat ∧ x.toNat ≤ hi ∧ x.toNat ≤ maxNum) ↔ _
  unfold maxNum
  omega

/-- A batch that a producer has been seen with: sequence, count, base. -/
abbrev Sn := Int × Int × Int
def cellsN (l : List Sn) : List Value := l.flatMap fun p => [.int .i64 p.1, .int .i64 p.2.1, .int .i64 p.2.2]
theorem cellsN_cons (p : Sn) (l : List Sn) : cellsN (p :: l) = .int .i64 p.1 :: .int .i64 p.2.1 :: .int .i64 p.2.2 :: cellsN l := by simp [cellsN]
theorem cellsN_append (l m : List Sn) : cellsN (l ++ m) = cellsN l ++ cellsN m := by simp [cellsN]
theorem length_cellsN : ∀ l : List Sn, (cellsN l).length = l.length * 3
  | [] => rfl
  | p :: l => by rw [cellsN_cons, List.length_cons, List.length_cons, List.length_cons, length_cellsN l, List.length_cons]; omega
theorem cellsN_at : ∀ (l : List Sn) (i : Nat) (p : Sn), l[i]? = some p → (cellsN l)[i * 3]? = some (.int .i64 p.1) ∧ (cellsN l)[i * 3 + 1]? = some (.int .i64 p.2.1) ∧ (cellsN l)[i * 3 + 2]? = some (.int .i64 p.2.2)
  | [], i, p, h => by simp at h
  | q :: l, 0, p, h => by
    simp at h
    subst h
    rw [cellsN_cons]
    exact ⟨rfl, rfl, rfl⟩
  | q :: l, i + 1, p, h => by
    have := cellsN_at l i p (by simpa using h)
    rw [cellsN_cons, show (i + 1) * 3 = i * 3 + 1 + 1 + 1 by omega]
    simpa using this
theorem cellsN_one (l : List Sn) : ∀ u ∈ cellsN l, u.oneCell' = true := by
  intro u hu
  simp only [cellsN, List.mem_flatMap] at hu
  obtain ⟨p, _, hu⟩ := hu
  simp at hu
  rcases hu with rfl | rfl | rfl <;> rfl
theorem Reads.plain3 {w : World} {B n : Nat} {A : Option Addr} {l : List Sn} (h : Reads w B 3 A n (cellsN l)) (hn : 0 < n) :
    ∃ b off, A = some ⟨b, off, none⟩ ∧ b < B ∧ ∀ i p, l[i]? = some p → w.cell? ⟨b, off + i * 3, none⟩ = some (.int .i64 p.1) ∧ w.cell? ⟨b, off + i * 3 + 1, none⟩ = some (.int .i64 p.2.1) ∧ w.cell? ⟨b, off + i * 3 + 2, none⟩ = some (.int .i64 p.2.2) := by
  obtain ⟨ad, rfl, hb, hc⟩ := h.2 hn
  obtain ⟨b, off, spot⟩ := ad
  have hl : 0 < (cellsN l).length := by have := h.1; omega
  have h0 := hc 0 _ (List.getElem?_eq_getElem hl)
  have hs : spot = none := by simpa [Addr.add] using World.cell?_spot h0
  subst hs
  refine ⟨b, off, rfl, hb, fun i p hp => ?_⟩
  obtain ⟨h1, h2, h3⟩ := cellsN_at l i p hp
  have k1 := hc _ _ h1
  have k2 := hc _ _ h2
  have k3 := hc _ _ h3
  rw [add_none] at k1 k2 k3
  exact ⟨k1, by rw [Nat.add_assoc]; exact k2, by rw [Nat.add_assoc]; exact k3⟩

structure Pd where
  pid : Int
  ep : Int
  nx : Int
  seen : List Sn
def Pd0 : Pd := ⟨0, 0, 0, []⟩
def Rw0 : Rw := (0, 0, 0, ByteArray.empty, ByteArray.empty)
structure En where
  kd : Int
  b : Bat
  yes : Bool
  nx : Int
  off : Int
  row : Rw
  prod : Pd
def En0 : En := ⟨0, Bat0, false, 0, 0, Rw0, Pd0⟩
def baseEn (kd : Int) : En := ⟨kd, Bat0, false, 0, 0, Rw0, Pd0⟩
theorem En.ext' {a b : En} (h1 : a.kd = b.kd) (h2 : a.b = b.b) (h3 : a.yes = b.yes) (h4 : a.nx = b.nx) (h5 : a.off = b.off) (h6 : a.row = b.row) (h7 : a.prod = b.prod) : a = b := by
  cases a; cases b; simp_all
theorem Pd.ext' {a b : Pd} (h1 : a.pid = b.pid) (h2 : a.ep = b.ep) (h3 : a.nx = b.nx) (h4 : a.seen = b.seen) : a = b := by
  cases a; cases b; simp_all
/-- The sequence that stands next. -/
def behindS (nx : Int) : List Sn → Int
  | [] => nx
  | s :: _ => s.1
def okS (s : Sn) : Bool := decide (0 ≤ s.1) && (decide (1 ≤ s.2.1 ∧ s.2.1 ≤ 4) && decide (-1 ≤ s.2.2 ∧ s.2.2 ≤ 1048576))
def seenB (nx : Int) : List Sn → Bool
  | [] => true
  | s :: l => (okS s && decide (s.1 ≤ behindS nx l - s.2.1)) && seenB nx l
/-- Which producers are valid. -/
def prodB (pid ep : Int) : Bool := decide (1 ≤ pid ∧ pid ≤ 8) && decide (0 ≤ ep ∧ ep ≤ 100)
def seqB (n : Int) : Bool := decide (0 ≤ n ∧ n ≤ 1048576)
def knownB (p : Pd) : Bool := prodB p.pid p.ep && (seqB p.nx && (decide (p.seen.length ≤ 3) && seenB p.nx p.seen))
def rowB (r : Rw) : Bool := decide (r.1 = 0) && (decide (1 ≤ r.2.1 ∧ r.2.1 ≤ 8) && (decide (0 ≤ r.2.2.1 ∧ r.2.2.1 < 1048576) && (decide (r.2.2.2.1.size ≤ 16) && decide (r.2.2.2.2.size ≤ 16))))

/-- What is asked of the fields of a kind. -/
def okEn (x : En) : Bool :=
  if x.kd = 3 then (x.b.txn && (!x.yes || seqB x.nx)) && mayBt x.b
  else if x.kd = 0 then mayBt x.b
  else if x.kd = 4 then (!x.yes && seqB x.nx) && prodB x.b.pid x.b.ep
  else if x.kd = 1 then prodB x.b.pid x.b.ep
  else if x.kd = 2 then seqB x.off
  else if x.kd = 5 then rowB x.row
  else if x.kd = 6 then knownB x.prod
  else false
/-- An entry without the fields of its kind. -/
def restEn (x : En) : En :=
  if x.kd = 3 then (if x.yes then { x with yes := false, nx := 0, b := Bat0 } else { x with b := Bat0 })
  else if x.kd = 0 then { x with b := Bat0 }
  else if x.kd = 4 then { x with nx := 0, b := { x.b with pid := 0, ep := 0 }, yes := false }
  else if x.kd = 1 then { x with b := { x.b with pid := 0, ep := 0 }, yes := false }
  else if x.kd = 2 then { x with off := 0 }
  else if x.kd = 5 then { x with row := Rw0 }
  else if x.kd = 6 then { x with prod := Pd0 }
  else x
def samePd (a b : Pd) : Bool := decide (a.pid = b.pid) && (decide (a.ep = b.ep) && (decide (a.nx = b.nx) && decide (a.seen = b.seen)))
theorem samePd_iff (a b : Pd) : samePd a b = true ↔ a = b := by
  unfold samePd
  simp only [Bool.and_eq_true, decide_eq_true_eq]
  exact ⟨fun ⟨h1, h2, h3, h4⟩ => Pd.ext' h1 h2 h3 h4, fun h => by subst h; exact ⟨rfl, rfl, rfl, rfl⟩⟩
def sameEn (a b : En) : Bool := decide (a.kd = b.kd) && (sameBt a.b b.b && ((a.yes == b.yes) && (decide (a.nx = b.nx) && (decide (a.off = b.off) && (decide (a.row = b.row) && samePd a.prod b.prod)))))
theorem sameEn_iff (a b : En) : sameEn a b = true ↔ a = b := by
  unfold sameEn
  simp only [Bool.and_eq_true, decide_eq_true_eq, samePd_iff, sameBt_iff, beq_iff_eq]
  exact ⟨fun ⟨h1, h2, h3, h4, h5, h6, h7⟩ => En.ext' h1 h2 h3 h4 h5 h6 h7, fun h => by subst h; exact ⟨rfl, rfl, rfl, rfl, rfl, rfl, rfl⟩⟩
/-- Which entries may be. -/
def mayEn (x : En) : Bool := okEn x && sameEn (restEn x) (baseEn x.kd)

/-- Ways of writing, by the least number of a producer (and of records) and the greatest sequence of a row. -/
def cSn (z : Nat) : Cd Sn := ((cI 0 1048576).bind fun _ => (cI z 4).bind fun _ => cI 0 1048577).emb (fun t => (t.1, t.2.1, t.2.2 - 1)) (fun y => (y.1, y.2.1, y.2.2 + 1)) (fun x _ => by simp)
def rdSn (z : Nat) : Rdr Sn := rdMap (rdBind (fun l i b => rdNum l i b 0 1048576) fun s => rdBind (fun l i b => rdNum l i b z 4) fun c => rdMap (fun l i b => rdNum l i b 0 1048577) fun o => (s, c, o)) (fun t => (t.1, t.2.1, t.2.2 - 1))
theorem fol_sn (z : Nat) : Fol (rdSn z) (cSn z) id := by
  have f2 : ∀ (s : Int), Fol (rdBind (fun l i b => rdNum l i b z 4) fun c => rdMap (fun l i b => rdNum l i b 0 1048577) fun o => (s, c, o)) ((cI z 4).bind fun _ => cI 0 1048577) (fun t => (s, t.1, t.2)) := fun s =>
    (fol_I z 4).bind (g := fun c o => (s, c, o)) (fun c => (fol_I 0 1048577).map (fun o => (s, c, o))) (fun _ l i => (fol_I 0 1048577).stop l i) (fun _ l i b hi => (fol_I 0 1048577).le l i b hi)
  have f1 := (fol_I 0 1048576).bind (g := fun (s : Int) (t : Int × Int) => (s, t.1, t.2)) (fun s => f2 s) (fun s => (f2 s).stop) (fun s => (f2 s).le)
  exact f1.emb _ _ _ (fun t => ((t.1, t.2.1, t.2.2 - 1) : Sn)) id (fun _ => rfl)
def cPd (z : Nat) : Cd Pd := ((cI z 8).bind fun _ => (cI 0 100).bind fun _ => (cI 0 1048576).bind fun _ => (cI 0 3).bind fun n => (cSn z).rep n.toNat).emb (fun t => ⟨t.1, t.2.1, t.2.2.1, t.2.2.2.2⟩) (fun p => (p.pid, p.ep, p.nx, (p.seen.length : Int), p.seen)) (fun x hx => by
  obtain ⟨a, b, c, n, l⟩ := x
  have h1 : 0 ≤ n := hx.2.2.2.1.1
  have h2 : l.length = n.toNat := hx.2.2.2.2.1
  simp only [Prod.mk.injEq, and_true, true_and]
  omega)
def rdPd (z : Nat) : Rdr Pd := rdMap (rdBind (fun l i b => rdNum l i b z 8) fun p => rdBind (fun l i b => rdNum l i b 0 100) fun e => rdBind (fun l i b => rdNum l i b 0 1048576) fun x => rdBind (fun l i b => rdNum l i b 0 3) fun n => rdMap (rdRep (rdSn z) n.toNat) fun rs => (p, e, x, n, rs)) (fun t => ⟨t.1, t.2.1, t.2.2.1, t.2.2.2.2⟩)
theorem fol_pd (z : Nat) : Fol (rdPd z) (cPd z) id := by
  have g1 : ∀ (p e x n : Int), Fol (rdMap (rdRep (rdSn z) n.toNat) fun rs => (p, e, x, n, rs)) ((cSn z).rep n.toNat) (fun rs => (p, e, x, n, rs)) := fun p e x n => by
    have := ((fol_sn z).rep n.toNat).map (fun rs => (p, e, x, n, rs))
    simp only [List.map_id] at this
    exact this
  have g2 : ∀ (p e x : Int), Fol (rdBind (fun l i b => rdNum l i b 0 3) fun n => rdMap (rdRep (rdSn z) n.toNat) fun rs => (p, e, x, n, rs)) ((cI 0 3).bind fun n => (cSn z).rep n.toNat) (fun t => (p, e, x, t.1, t.2)) := fun p e x =>
    (fol_I 0 3).bind (g := fun (n : Int) (rs : List Sn) => (p, e, x, n, rs)) (fun n => g1 p e x n) (fun n => (g1 p e x n).stop) (fun n => (g1 p e x n).le)
  have g3 : ∀ (p e : Int), Fol (rdBind (fun l i b => rdNum l i b 0 1048576) fun x => rdBind (fun l i b => rdNum l i b 0 3) fun n => rdMap (rdRep (rdSn z) n.toNat) fun rs => (p, e, x, n, rs)) ((cI 0 1048576).bind fun _ => (cI 0 3).bind fun n => (cSn z).rep n.toNat) (fun t => (p, e, t.1, t.2.1, t.2.2)) := fun p e =>
    (fol_I 0 1048576).bind (g := fun (x : Int) (t : Int × List Sn) => (p, e, x, t.1, t.2)) (fun x => g2 p e x) (fun x => (g2 p e x).stop) (fun x => (g2 p e x).le)
  have g4 : ∀ (p : Int), Fol (rdBind (fun l i b => rdNum l i b 0 100) fun e => rdBind (fun l i b => rdNum l i b 0 1048576) fun x => rdBind (fun l i b => rdNum l i b 0 3) fun n => rdMap (rdRep (rdSn z) n.toNat) fun rs => (p, e, x, n, rs)) ((cI 0 100).bind fun _ => (cI 0 1048576).bind fun _ => (cI 0 3).bind fun n => (cSn z).rep n.toNat) (fun t => (p, t.1, t.2.1, t.2.2.1, t.2.2.2)) := fun p =>
    (fol_I 0 100).bind (g := fun (e : Int) (t : Int × Int × List Sn) => (p, e, t.1, t.2.1, t.2.2)) (fun e => g3 p e) (fun e => (g3 p e).stop) (fun e => (g3 p e).le)
  have g5 := (fol_I z 8).bind (g := fun (p : Int) (t : Int × Int × Int × List Sn) => (p, t.1, t.2.1, t.2.2.1, t.2.2.2)) (fun p => g4 p) (fun p => (g4 p).stop) (fun p => (g4 p).le)
  exact g5.emb _ _ _ (fun t => (⟨t.1, t.2.1, t.2.2.1, t.2.2.2.2⟩ : Pd)) id (fun _ => rfl)

abbrev Eb := Bat × Bool × Int × Int × Rw × Pd
def Eb0 : Eb := (Bat0, false, 0, 0, Rw0, Pd0)
def enOf (kd : Int) (y : Eb) : En := ⟨kd, y.1, y.2.1, y.2.2.1, y.2.2.2.1, y.2.2.2.2.1, y.2.2.2.2.2⟩
def wh (pid ep : Int) : Bat := ⟨pid, ep, 0, false, []⟩
def cE0 : Cd Eb := cBat.emb (fun b => (b, false, 0, 0, Rw0, Pd0)) (fun y => y.1) (fun _ _ => rfl)
def rdE0 : Rdr Eb := rdMap rdBat (fun b => (b, false, 0, 0, Rw0, Pd0))
def cE1 (z : Nat) : Cd Eb := ((cI z 8).bind fun _ => (cI 0 100).bind fun _ => cFlag).emb (fun t => (wh t.1 t.2.1, t.2.2, 0, 0, Rw0, Pd0)) (fun y => (y.1.pid, y.1.ep, y.2.1)) (fun _ _ => rfl)
def rdE1 (z : Nat) : Rdr Eb := rdMap (rdBind (fun l i b => rdNum l i b z 8) fun p => rdBind (fun l i b => rdNum l i b 0 100) fun e => rdMap rdFlag fun t => (p, e, t)) (fun t => (wh t.1 t.2.1, t.2.2, 0, 0, Rw0, Pd0))
def cE2 : Cd Eb := (cI 0 1048576).emb (fun o => (Bat0, false, 0, o, Rw0, Pd0)) (fun y => y.2.2.2.1) (fun _ _ => rfl)
def rdE2 : Rdr Eb := rdMap (fun l i b => rdNum l i b 0 1048576) (fun o => (Bat0, false, 0, o, Rw0, Pd0))
/-- A number that stands there just if the flag is set. -/
def cIf (t : Bool) : Cd Int := if t then cI 0 1048576 else cNil.emb (fun _ => 0) (fun _ => ()) (fun _ _ => rfl)
def rdIf (t : Bool) : Rdr Int := if t then (fun l i b => rdNum l i b 0 1048576) else rdMap (fun _ i b => ((), i, b)) (fun _ => 0)
def cE3 : Cd Eb := (cBat.bind fun _ => cFlag.bind fun t => cIf t).emb (fun t => (t.1, t.2.1, t.2.2, 0, Rw0, Pd0)) (fun y => (y.1, y.2.1, y.2.2.1)) (fun _ _ => rfl)
def rdE3 : Rdr Eb := rdMap (rdBind rdBat fun b => rdBind rdFlag fun t => rdMap (rdIf t) fun n => (b, t, n)) (fun t => (t.1, t.2.1, t.2.2, 0, Rw0, Pd0))
def cE4 (z : Nat) : Cd Eb := ((cI z 8).bind fun _ => (cI 0 100).bind fun _ => cI 0 1048576).emb (fun t => (wh t.1 t.2.1, false, t.2.2, 0, Rw0, Pd0)) (fun y => (y.1.pid, y.1.ep, y.2.2.1)) (fun _ _ => rfl)
def rdE4 (z : Nat) : Rdr Eb := rdMap (rdBind (fun l i b => rdNum l i b z 8) fun p => rdBind (fun l i b => rdNum l i b 0 100) fun e => rdMap (fun l i b => rdNum l i b 0 1048576) fun t => (p, e, t)) (fun t => (wh t.1 t.2.1, false, t.2.2, 0, Rw0, Pd0))
def cE5 (z m : Nat) : Cd Eb := ((cI z 8).bind fun _ => (cI 0 m).bind fun _ => (cTxt 16).bind fun _ => cTxt 16).emb (fun t => (Bat0, false, 0, 0, (0, t.1, t.2.1, bs t.2.2.1, bs t.2.2.2), Pd0)) (fun y => (y.2.2.2.2.1.2.1, y.2.2.2.2.1.2.2.1, lb y.2.2.2.2.1.2.2.2.1, lb y.2.2.2.2.1.2.2.2.2)) (fun x _ => by simp [lb_bs])
def rdE5 (z m : Nat) : Rdr Eb := rdMap (rdBind (fun l i b => rdNum l i b z 8) fun p => rdBind (fun l i b => rdNum l i b 0 m) fun s => rdBind (fun l i b => rdTxt l i b 16) fun k => rdMap (fun l i b => rdTxt l i b 16) fun v => (p, s, k, v)) (fun t => (Bat0, false, 0, 0, (0, t.1, t.2.1, bs t.2.2.1, bs t.2.2.2), Pd0))
def cE6 (z : Nat) : Cd Eb := (cPd z).emb (fun p => (Bat0, false, 0, 0, Rw0, p)) (fun y => y.2.2.2.2.2) (fun _ _ => rfl)
def rdE6 (z : Nat) : Rdr Eb := rdMap (rdPd z) (fun p => (Bat0, false, 0, 0, Rw0, p))
def cE9 : Cd Eb := cNil.emb (fun _ => Eb0) (fun _ => ()) (fun _ _ => rfl)
def rdE9 : Rdr Eb := rdMap (fun _ i b => ((), i, b)) fun _ => Eb0
def cE (z m : Nat) (kd : Int) : Cd Eb := if kd = 0 then cE0 else if kd = 1 then cE1 z else if kd = 2 then cE2 else if kd = 3 then cE3 else if kd = 4 then cE4 z else if kd = 5 then cE5 z m else if kd = 6 then cE6 z else cE9
def rdE (z m : Nat) (kd : Int) : Rdr Eb := if kd = 0 then rdE0 else if kd = 1 then rdE1 z else if kd = 2 then rdE2 else if kd = 3 then rdE3 else if kd = 4 then rdE4 z else if kd = 5 then rdE5 z m else if kd = 6 then rdE6 z else rdE9
theorem fol_E0 : Fol rdE0 cE0 id := fol_bat.emb _ _ _ (fun b => ((b, false, 0, 0, Rw0, Pd0) : Eb)) id (fun _ => rfl)
theorem fol_E1 (z : Nat) : Fol (rdE1 z) (cE1 z) id := by
  have f2 : ∀ (p : Int), Fol (rdBind (fun l i b => rdNum l i b 0 100) fun e => rdMap rdFlag fun t => (p, e, t)) ((cI 0 100).bind fun _ => cFlag) (fun t => (p, t.1, t.2)) := fun p =>
    (fol_I 0 100).bind (g := fun e t => (p, e, t)) (fun e => fol_flag.map (fun t => (p, e, t))) (fun _ l i => fol_flag.stop l i) (fun _ l i b hi => fol_flag.le l i b hi)
  exact ((fol_I z 8).bind (g := fun (p : Int) (t : Int × Bool) => (p, t.1, t.2)) (fun p => f2 p) (fun p => (f2 p).stop) (fun p => (f2 p).le)).emb _ _ _ (fun t => ((wh t.1 t.2.1, t.2.2, 0, 0, Rw0, Pd0) : Eb)) id (fun _ => rfl)
theorem fol_E2 : Fol rdE2 cE2 id := (fol_I 0 1048576).emb _ _ _ (fun o => ((Bat0, false, 0, o, Rw0, Pd0) : Eb)) id (fun _ => rfl)
theorem fol_if (t : Bool) : Fol (rdIf t) (cIf t) id := by
  cases t
  · exact (fol_nil ()).emb (fun _ => (0 : Int)) (fun _ => ()) (fun _ _ => rfl) (fun _ => (0 : Int)) id (fun _ => rfl)
  · exact fol_I 0 1048576
theorem fol_E3 : Fol rdE3 cE3 id := by
  have f1 : ∀ (b : Bat) (t : Bool), Fol (rdMap (rdIf t) fun n => (b, t, n)) (cIf t) (fun n => (b, t, n)) := fun b t => (fol_if t).map (fun n => (b, t, n))
  have f2 : ∀ (b : Bat), Fol (rdBind rdFlag fun t => rdMap (rdIf t) fun n => (b, t, n)) (cFlag.bind fun t => cIf t) (fun t => (b, t.1, t.2)) := fun b =>
    fol_flag.bind (g := fun t n => (b, t, n)) (fun t => f1 b t) (fun t => (f1 b t).stop) (fun t => (f1 b t).le)
  exact (fol_bat.bind (g := fun (b : Bat) (t : Bool × Int) => (b, t.1, t.2)) (fun b => f2 b) (fun b => (f2 b).stop) (fun b => (f2 b).le)).emb _ _ _ (fun t => ((t.1, t.2.1, t.2.2, 0, Rw0, Pd0) : Eb)) id (fun _ => rfl)
theorem fol_E4 (z : Nat) : Fol (rdE4 z) (cE4 z) id := by
  have f2 : ∀ (p : Int), Fol (rdBind (fun l i b => rdNum l i b 0 100) fun e => rdMap (fun l i b => rdNum l i b 0 1048576) fun t => (p, e, t)) ((cI 0 100).bind fun _ => cI 0 1048576) (fun t => (p, t.1, t.2)) := fun p =>
    (fol_I 0 100).bind (g := fun e t => (p, e, t)) (fun e => (fol_I 0 1048576).map (fun t => (p, e, t))) (fun _ l i => (fol_I 0 1048576).stop l i) (fun _ l i b hi => (fol_I 0 1048576).le l i b hi)
  exact ((fol_I z 8).bind (g := fun (p : Int) (t : Int × Int) => (p, t.1, t.2)) (fun p => f2 p) (fun p => (f2 p).stop) (fun p => (f2 p).le)).emb _ _ _ (fun t => ((wh t.1 t.2.1, false, t.2.2, 0, Rw0, Pd0) : Eb)) id (fun _ => rfl)
theorem fol_E5 (z m : Nat) : Fol (rdE5 z m) (cE5 z m) id := by
  have f4 : ∀ (p s : Int), Fol (rdBind (fun l i b => rdTxt l i b 16) fun k => rdMap (fun l i b => rdTxt l i b 16) fun v => (p, s, k, v)) ((cTxt 16).bind fun _ => cTxt 16) (fun t => (p, s, t.1, t.2)) := fun p s =>
    (fol_txt 16).bind (g := fun k v => (p, s, k, v)) (fun k => (fol_txt 16).map (fun v => (p, s, k, v))) (fun _ l i => (fol_txt 16).stop l i) (fun _ l i b hi => (fol_txt 16).le l i b hi)
  have f3 : ∀ (p : Int), Fol (rdBind (fun l i b => rdNum l i b 0 m) fun s => rdBind (fun l i b => rdTxt l i b 16) fun k => rdMap (fun l i b => rdTxt l i b 16) fun v => (p, s, k, v)) ((cI 0 m).bind fun _ => (cTxt 16).bind fun _ => cTxt 16) (fun t => (p, t.1, t.2.1, t.2.2)) := fun p =>
    (fol_I 0 m).bind (g := fun (s : Int) (t : List UInt8 × List UInt8) => (p, s, t.1, t.2)) (fun s => f4 p s) (fun s => (f4 p s).stop) (fun s => (f4 p s).le)
  exact ((fol_I z 8).bind (g := fun (p : Int) (t : Int × List UInt8 × List UInt8) => (p, t.1, t.2.1, t.2.2)) (fun p => f3 p) (fun p => (f3 p).stop) (fun p => (f3 p).le)).emb _ _ _ (fun t => ((Bat0, false, 0, 0, (0, t.1, t.2.1, bs t.2.2.1, bs t.2.2.2), Pd0) : Eb)) id (fun _ => rfl)
theorem fol_E6 (z : Nat) : Fol (rdE6 z) (cE6 z) id := (fol_pd z).emb _ _ _ (fun p => ((Bat0, false, 0, 0, Rw0, p) : Eb)) id (fun _ => rfl)
theorem fol_E9 : Fol rdE9 cE9 id := (fol_nil ()).emb _ _ _ (fun _ => Eb0) id (fun _ => rfl)
theorem fol_E (z m : Nat) (kd : Int) : Fol (rdE z m kd) (cE z m kd) id := by
  unfold rdE cE
  repeat' split
  all_goals first | exact fol_E0 | exact fol_E1 z | exact fol_E2 | exact fol_E3 | exact fol_E4 z | exact fol_E5 z m | exact fol_E6 z | exact fol_E9
/-- The way of writing of entries: kinds to K. -/
def cEn (z m K : Nat) : Cd En := ((cI 0 K).bind fun kd => cE z m kd).emb (fun t => enOf t.1 t.2) (fun x => (x.kd, x.b, x.yes, x.nx, x.off, x.row, x.prod)) (fun _ _ => rfl)
def rdEn (z m K : Nat) : Rdr En := rdMap (rdBind (fun l i b => rdNum l i b 0 K) fun kd => rdMap (rdE z m kd) fun y => (kd, y)) fun t => enOf t.1 t.2
theorem fol_en (z m K : Nat) : Fol (rdEn z m K) (cEn z m K) id := by
  have g1 : ∀ (kd : Int), Fol (rdMap (rdE z m kd) fun y => (kd, y)) (cE z m kd) (fun y => (kd, y)) := fun kd => (fol_E z m kd).map (fun y => (kd, y))
  exact ((fol_I 0 K).bind (g := fun (kd : Int) (y : Eb) => (kd, y)) (fun kd => g1 kd) (fun kd => (g1 kd).stop) (fun kd => (g1 kd).le)).emb _ _ _ (fun t => enOf t.1 t.2) id (fun _ => rfl)

/-- The bytes of an entry. -/
def encE (x : En) : List UInt8 := (cE 1 1048575 x.kd).e (x.b, x.yes, x.nx, x.off, x.row, x.prod)
def encEn (x : En) : List UInt8 := enc x.kd.toNat ++ encE x
theorem cEn_e (z m K : Nat) (x : En) : (cEn z m K).e x = encEn x := by
  show enc x.kd.toNat ++ (cE z m x.kd).e (x.b, x.yes, x.nx, x.off, x.row, x.prod) = _
  unfold encEn encE cE
  repeat' split
  all_goals rfl

theorem cPd_v {z : Nat} (hz : z ≤ 1) {p : Pd} (h : knownB p = true) : (cPd z).v p := by
  unfold knownB prodB seqB at h
  simp only [Bool.and_eq_true, decide_eq_true_eq] at h
  obtain ⟨⟨h1, h2⟩, h3, h4, h5⟩ := h
  have hs : ∀ (nx : Int) (l : List Sn), nx ≤ 1048576 → seenB nx l = true → ∀ s ∈ l, (0 ≤ s.1 ∧ s.1 ≤ 1048576) ∧ (1 ≤ s.2.1 ∧ s.2.1 ≤ 4) ∧ (-1 ≤ s.2.2 ∧ s.2.2 ≤ 1048576) := by
    intro nx l hnx
    induction l with
    | nil => intro _ s hs; cases hs
    | cons t l ih =>
      intro ht s hs
      rw [seenB, Bool.and_eq_true, Bool.and_eq_true] at ht
      obtain ⟨⟨h1, h2⟩, h3⟩ := ht
      have hl := ih h3
      unfold okS at h1
      simp only [Bool.and_eq_true, decide_eq_true_eq] at h1 h2
      rcases List.mem_cons.1 hs with rfl | hs
      · have hb : behindS nx l ≤ 1048576 := by
          cases l with
          | nil => exact hnx
          | cons u l => exact (hl u (List.mem_cons_self ..)).1.2
        exact ⟨⟨h1.1, by omega⟩, h1.2.1, h1.2.2⟩
      · exact hl s hs
  have e : (cPd z).v p ↔ (p = p) ∧ (cI z 8).v p.pid ∧ (cI 0 100).v p.ep ∧ (cI 0 1048576).v p.nx ∧ (cI 0 3).v (p.seen.length : Int) ∧ (p.seen.length = (p.seen.length : Int).toNat ∧ ∀ s ∈ p.seen, (cSn z).v s) := Iff.rfl
  rw [e, cI_v _ _ _ (by decide), cI_v _ _ _ (by decide), cI_v _ _ _ (by decide), cI_v _ _ _ (by decide)]
  refine ⟨rfl, by omega, by omega, by omega, by omega, by omega, fun s hm => ?_⟩
  have := hs p.nx p.seen h3.2 h5 s hm
  have e2 : (cSn z).v s ↔ ((s.1, s.2.1, s.2.2 + 1 - 1) = s) ∧ (cI 0 1048576).v s.1 ∧ (cI z 4).v s.2.1 ∧ (cI 0 1048577).v (s.2.2 + 1) := Iff.rfl
  rw [e2, cI_v _ _ _ (by decide), cI_v _ _ _ (by decide), cI_v _ _ _ (by decide)]
  obtain ⟨a, b, c⟩ := s
  simp only [Int.add_sub_cancel, true_and] at this ⊢
  omega
/-- What may be is written and read, by the program's ranges and by the document's. -/
theorem cEn_v {z m K : Nat} (hz : z ≤ 1) (hm : 1048575 ≤ m) (hm2 : m ≤ 1048577) (hK : 6 ≤ K) (hK2 : K ≤ 1048577) {x : En} (h : mayEn x = true) : (cEn z m K).v x := by
  unfold mayEn at h
  rw [Bool.and_eq_true, sameEn_iff] at h
  obtain ⟨h1, h2⟩ := h
  obtain ⟨kd, b, yes, nx, off, row, prod⟩ := x
  have e : (cEn z m K).v ⟨kd, b, yes, nx, off, row, prod⟩ ↔ (enOf kd (b, yes, nx, off, row, prod) = ⟨kd, b, yes, nx, off, row, prod⟩) ∧ (cI 0 K).v kd ∧ (cE z m kd).v (b, yes, nx, off, row, prod) := Iff.rfl
  rw [e, cI_v _ _ _ hK2]
  refine ⟨rfl, ?_⟩
  unfold okEn restEn at *
  simp only at h1 h2
  by_cases k3 : kd = 3
  · subst k3
    simp only [if_true, Bool.and_eq_true, Bool.or_eq_true, Bool.not_eq_true'] at h1 h2
    refine ⟨by omega, ?_⟩
    show ((b, yes, nx, 0, Rw0, Pd0) : Eb) = (b, yes, nx, off, row, prod) ∧ cBat.v b ∧ cFlag.v yes ∧ (cIf yes).v nx
    cases yes
    · simp only [if_false, Bool.false_eq_true, baseEn] at h2
      injection h2 with _ e1 e2 e3 e4 e5 e6
      subst e3; subst e4; subst e5; subst e6
      exact ⟨rfl, h1.2, trivial, rfl, trivial⟩
    · simp only [if_true, baseEn] at h2
      injection h2 with _ e1 e2 e3 e4 e5 e6
      subst e4; subst e5; subst e6
      have h3 : seqB nx = true := by
        rcases h1.1.2 with h | h
        · cases h
        · exact h
      unfold seqB at h3
      rw [decide_eq_true_eq] at h3
      refine ⟨rfl, h1.2, trivial, ?_⟩
      show (cI 0 1048576).v nx
      rw [cI_v _ _ _ (by decide)]
      exact h3
  rw [if_neg k3] at h1 h2
  by_cases k0 : kd = 0
  · subst k0
    simp only [if_true] at h1 h2
    refine ⟨by omega, ?_⟩
    injection h2 with _ e1 e2 e3 e4 e5 e6
    subst e2; subst e3; subst e4; subst e5; subst e6
    exact ⟨rfl, h1⟩
  rw [if_neg k0] at h1 h2
  by_cases k4 : kd = 4
  · subst k4
    simp only [if_true, Bool.and_eq_true, Bool.not_eq_true', prodB, seqB, decide_eq_true_eq] at h1 h2
    refine ⟨by omega, ?_⟩
    injection h2 with _ e1 e2 e3 e4 e5 e6
    obtain ⟨⟨ey, h3⟩, h4, h5⟩ := h1
    subst ey; subst e4; subst e5; subst e6
    obtain ⟨bp, be, bs', bt, br⟩ := b
    injection e1 with _ _ f1 f2 f3
    subst f1; subst f2; subst f3
    simp only at h4 h5 h3
    refine ⟨rfl, ?_⟩
    show (cI z 8).v bp ∧ (cI 0 100).v be ∧ (cI 0 1048576).v nx
    rw [cI_v _ _ _ (by decide), cI_v _ _ _ (by decide), cI_v _ _ _ (by decide)]
    omega
  rw [if_neg k4] at h1 h2
  by_cases k1 : kd = 1
  · subst k1
    simp only [if_true, Bool.and_eq_true, prodB, decide_eq_true_eq] at h1 h2
    refine ⟨by omega, ?_⟩
    injection h2 with _ e1 e2 e3 e4 e5 e6
    subst e3; subst e4; subst e5; subst e6
    obtain ⟨bp, be, bs', bt, br⟩ := b
    injection e1 with _ _ f1 f2 f3
    subst f1; subst f2; subst f3
    simp only at h1
    refine ⟨rfl, ?_⟩
    show (cI z 8).v bp ∧ (cI 0 100).v be ∧ cFlag.v yes
    rw [cI_v _ _ _ (by decide), cI_v _ _ _ (by decide)]
    exact ⟨by omega, by omega, trivial⟩
  rw [if_neg k1] at h1 h2
  by_cases k2 : kd = 2
  · subst k2
    simp only [if_true, seqB, decide_eq_true_eq] at h1 h2
    refine ⟨by omega, ?_⟩
    injection h2 with _ e1 e2 e3 e4 e5 e6
    subst e1; subst e2; subst e3; subst e5; subst e6
    refine ⟨rfl, ?_⟩
    show (cI 0 1048576).v off
    rw [cI_v _ _ _ (by decide)]
    omega
  rw [if_neg k2] at h1 h2
  by_cases k5 : kd = 5
  · subst k5
    simp only [if_true, rowB, Bool.and_eq_true, decide_eq_true_eq] at h1 h2
    refine ⟨by omega, ?_⟩
    injection h2 with _ e1 e2 e3 e4 e5 e6
    subst e1; subst e2; subst e3; subst e4; subst e6
    obtain ⟨ro, rp, rs, rk, rv⟩ := row
    simp only at h1
    obtain ⟨f1, f2, f3, f4, f5⟩ := h1
    subst f1
    show ((Bat0, false, 0, 0, (0, rp, rs, bs (lb rk), bs (lb rv)), Pd0) : Eb) = (Bat0, false, 0, 0, (0, rp, rs, rk, rv), Pd0) ∧ (cI z 8).v rp ∧ (cI 0 m).v rs ∧ ((lb rk).length ≤ 16 ∧ (lb rk).length ≤ maxNum) ∧ ((lb rv).length ≤ 16 ∧ (lb rv).length ≤ maxNum)
    rw [cI_v _ _ _ (by decide), cI_v _ _ _ hm2, bs_lb, bs_lb, length_lb, length_lb]
    unfold maxNum
    exact ⟨rfl, by omega, by omega, by omega, by omega⟩
  rw [if_neg k5] at h1 h2
  by_cases k6 : kd = 6
  · subst k6
    simp only [if_true] at h1 h2
    refine ⟨by omega, ?_⟩
    injection h2 with _ e1 e2 e3 e4 e5 e6
    subst e1; subst e2; subst e3; subst e4; subst e5
    exact ⟨rfl, cPd_v hz h1⟩
  · rw [if_neg k6] at h1
    cases h1

/-- Bytes as an entry, or ErrCode. -/
def readE (z m K : Nat) (l : List UInt8) : En × Int := if (rdEn z m K l 0 false).2.2 = true ∨ (rdEn z m K l 0 false).2.1 ≠ l.length ∨ mayEn (rdEn z m K l 0 false).1 = false then (En0, 70) else ((rdEn z m K l 0 false).1, 0)
theorem readE_ok {z m K : Nat} (hz : z ≤ 1) (hm : 1048575 ≤ m) (hm2 : m ≤ 1048577) (hK : 6 ≤ K) (hK2 : K ≤ 1048577) {x : En} (h : mayEn x = true) : readE z m K (encEn x) = (x, 0) := by
  have hv := cEn_v hz hm hm2 hK hK2 h
  have h1 : rdEn z m K (encEn x) 0 false = (x, (encEn x).length, false) := by
    rw [← cEn_e z m K]
    exact (fol_en z m K).all.2 ⟨x, hv, rfl, rfl⟩
  unfold readE
  rw [h1, if_neg (by simp [h])]
theorem readE_cases (z m K : Nat) (l : List UInt8) : (∃ x, readE z m K l = (x, 0) ∧ mayEn x = true ∧ l = encEn x) ∨ readE z m K l = (En0, 70) := by
  unfold readE
  split
  · exact .inr rfl
  · rename_i hh
    have h1 : (rdEn z m K l 0 false).2.2 = false := by
      cases hb : (rdEn z m K l 0 false).2.2
      · rfl
      · exact absurd (.inl hb) hh
    have h2 : (rdEn z m K l 0 false).2.1 = l.length := Classical.byContradiction fun hn => hh (.inr (.inl hn))
    have h4 : mayEn (rdEn z m K l 0 false).1 = true := by
      cases hb : mayEn (rdEn z m K l 0 false).1
      · exact absurd (.inr (.inr hb)) hh
      · rfl
    have h3 : rdEn z m K l 0 false = ((rdEn z m K l 0 false).1, l.length, false) := Prod.ext rfl (Prod.ext h2 h1)
    obtain ⟨y, hv, he, hy⟩ := (fol_en z m K).all.1 h3
    simp only [id] at hy
    rw [hy, cEn_e] at he
    exact .inl ⟨_, rfl, h4, he⟩
/-- The program's reading and the document's tell the same. -/
theorem readE_same {z m K z' m' K' : Nat} (hz : z ≤ 1) (hm : 1048575 ≤ m) (hm2 : m ≤ 1048577) (hK : 6 ≤ K) (hK2 : K ≤ 1048577) (hz' : z' ≤ 1) (hm' : 1048575 ≤ m') (hm2' : m' ≤ 1048577) (hK' : 6 ≤ K') (hK2' : K' ≤ 1048577) (l : List UInt8) : readE z m K l = readE z' m' K' l := by
  rcases readE_cases z m K l with ⟨x, h1, h2, h3⟩ | h1
  · rw [h1, h3, readE_ok hz' hm' hm2' hK' hK2' h2]
  · rcases readE_cases z' m' K' l with ⟨x, h2, h3, h4⟩ | h2
    · rw [h4, readE_ok hz hm hm2 hK hK2 h3] at h1
      injection h1 with _ h
      cases h
    · rw [h1, h2]
end Go.Proofs.YtckdecodpjfcnaaGreatDoor
namespace Go.Proofs.YtckdecodpjfcnaaGreatDoor
open Go.RowKit

theorem still_of_quiet {P : Program} {o : Oper} {a : Act} {w : World} {K : Act → Prop} (h : o.quiet P a (fun W => W = w) K) : o.still P a w K := by
  obtain ⟨v, h1, h2⟩ := h
  have h3 := h1 w rfl
  unfold Oper.quietAt at h3
  unfold Oper.still
  generalize (execOp a.eval o).run P w = r at *
  cases r with
  | ok n w' =>
    cases n <;> simp only [Oper.quietUpon] at h3 <;> simp only [Oper.stillUpon]
    case value u =>
      obtain ⟨e1, e2⟩ := h3
      rw [e2]
      exact ⟨e1, h2⟩
    case skip =>
      obtain ⟨e1, e2⟩ := h3
      rw [← e2]
      exact ⟨e1, h2⟩
    case enter f args =>
      obtain ⟨e1, hc⟩ := h3
      exact ⟨e1, v, hc, h2⟩
  | halt x w' => simp only [Oper.quietUpon] at h3

theorem wpStill_of_quiet {P : Program} {ops : Array Oper} {w : World} {Q : Act → Prop} : ∀ (l : List Oper) (a : Act), wpQuiet P ops (fun W => W = w) Q l a → wpStill P ops w Q l a
  | [], _, h => h
  | o :: rest, a, h => by
    unfold wpQuiet at h
    unfold wpStill
    split
    · rename_i hw
      rw [if_pos hw] at h
      exact Oper.still_mono (fun a' h' => wpStill_of_quiet rest a' h') (still_of_quiet h)
    · rename_i hw
      rw [if_neg hw] at h
      exact wpStill_of_quiet rest _ h

theorem wp_region_qtail {P : Program} {id : Nat} {Q : Exit → Act → World → Prop} {a : Act} {w : World} {l : List Oper} (n : Nat) (hm : P.follows .mixedOrders = true) (hB : Region.lexTailB .any l.toArray n = true)
    (h : wpQuiet P l.toArray (fun W => W = w.drew) (fun a' => wpList P l.toArray Q (l.drop n) a' w.drew) (l.take n) a) : (Code.region id l.toArray true).wp P Q a w :=
  wp_region_still_tail n hm hB (wpStill_of_quiet _ _ h)
end Go.Proofs.YtckdecodpjfcnaaGreatDoor
namespace Go.Proofs.YtckdecodpjfcnaaGreatDoor
open Go.RowKit

/-- The worlds that are as w was below block B. -/
def BW (B : Nat) (w : World) : Type := { W : World // Below B w W }
instance nonempty_BW (B : Nat) (w : World) : Nonempty (BW B w) := ⟨⟨w, Below.refl _ _⟩⟩
theorem wp_region_bq {P : Program} {id : Nat} {Q : Exit → Act → World → Prop} {a : Act} {w : World} {l : List Oper} (B : Nat) (hm : P.follows .mixedOrders = true) (hB : Region.lexB .any l.toArray = true)
    (h : wpQuiet P l.toArray (fun W => ∃ n : BW B w, W = n.1) (fun a' => ∀ W, (∃ n : BW B w, W = n.1) → Q .normal a' W) l a) : (Code.region id l.toArray true).wp P Q a w :=
  wp_region_quiet (C := fun W => ∃ n : BW B w, W = n.1) hm hB ⟨⟨w.drew, (Below.refl _ _).drew⟩, rfl⟩ (by simpa using h)
theorem bw_call {P : Program} {f : FuncId} {args : Array Value} {B : Nat} {w : World} (hB : B ≤ w.heap.size) {n : BW B w} {v : Value} (h : Calls P f args n.1 fun e w' => e = .returned v ∧ Below n.1.heap.size n.1 w') :
    Calls P f args n.1 fun e w'' => e = .returned v ∧ ∃ m : BW B w, w'' = m.1 :=
  h.mono fun _ w' ⟨he, hb⟩ => ⟨he, ⟨w', n.2.trans (hb.mono (Nat.le_trans hB n.2.size))⟩, rfl⟩
end Go.Proofs.YtckdecodpjfcnaaGreatDoor
namespace Go.Proofs.YtckdecodpjfcnaaGreatDoor
open Go.RowKit

/-- A reader in memory. -/
abbrev RdB (w : World) (g : Nat) (s : ByteArray) (i : Nat) (bad : Bool) : Prop := Blk w g 113 #[.string s, .int .i64 (i : Int), .bool bad]

/-- The bytes from a place on, at most so many. -/
def winL (s : ByteArray) (i n : Nat) : List UInt8 := ((lb s).drop i).take n
theorem winL_eq (s : ByteArray) (i n m : Nat) (hm : m = min n (s.size - i)) : lb (s.extract i (i + m)) = winL s i n := by
  rw [lb_extract, List.drop_take, show i + m - i = m by omega, hm]
  unfold winL
  rw [← length_lb]
  rcases Nat.le_total n ((lb s).length - i) with h | h
  · rw [Nat.min_eq_left h]
  · rw [Nat.min_eq_right h, List.take_of_length_le (by simp), List.take_of_length_le (by simpa using h)]

set_option maxRecDepth 100000 in
set_option maxHeartbeats 1000000 in
theorem window_any (g : Nat) (s : ByteArray) (i n : Nat) (bad : Bool) (w : World) (h : RdB w g s i bad) (hs : s.size ≤ 1000000) (hi : i ≤ s.size) (hn : n ≤ 1099511627776) :
    Calls Tryz.prog 95 #[.pointer (some ⟨g, 0, none⟩), .int .i64 (n : Int)] w fun e w' => ∃ A c, e = .returned (.slice A (winL s i n).length c) ∧ Reads w' w'.heap.size 1 A (winL s i n).length (cellsB (winL s i n)) ∧ (winL s i n).length ≤ c ∧ Below w.heap.size w w' := by
  obtain ⟨d, hd⟩ : ∃ d : Nat, d = s.size - i := ⟨_, rfl⟩
  obtain ⟨m, hm⟩ : ∃ m : Nat, m = min n d := ⟨_, rfl⟩
  have hw := winL_eq s i n m (by omega)
  obtain ⟨L, hL⟩ : ∃ L, L = winL s i n := ⟨_, rfl⟩
  rw [← hL] at hw ⊢
  have x0 := h.cell 0
  have x1 := h.cell 1
  have e1 : decide ((i : Int) < 0) = false := by simp
  have e2 : decide ((s.size : Int) < (i : Int)) = false := by simp; omega
  have v1 : IntKind.i64.wrap ((s.size : Int) - (i : Int)) = (d : Int) := by rw [IntWalk.i64_in _ (by omega)]; omega
  have v2 : (if d < n then (d : Int) else (n : Int)) = (m : Int) := by split <;> omega
  have v3 : IntKind.i64.wrap ((i : Int) + (m : Int)) = (i : Int) + (m : Int) := IntWalk.i64_in _ (by omega)
  have hsl : ∀ W : World, (Instr.slice 9 (.string s) (some (.int .i64 (i : Int))) (some (.int .i64 ((i : Int) + (m : Int)))) none).run Tryz.prog W = .ok (.string (s.extract i (i + m))) W := by
    intro W
    rw [run_slice_string_if W 9 s .i64 .i64 _ _ Tryz.underlying9, if_pos (by omega), if_pos (by omega)]
    rw [show ((i : Int) + (m : Int)).toNat = i + m by omega, Int.toNat_natCast]
  have hsz : (s.extract i (i + m)).size = L.length := by rw [← hw, length_lb]
  have HW := Lib.hid hw
  have HSZ := Lib.hid hsz
  have HL := Lib.hid hL
  clear hw hsz hL hd hm h
  go_enter Tryz.func95, Tryz.ntmps95
  go_wp2_with fail
  go_quiet (fail)
  go_wp2_with fail
  refine wp_region_qtail 26 (by kernel_rfl) (by kernel_rfl) ?_
  simp only [List.take_succ_cons, List.take_zero, List.drop_succ_cons, List.drop_zero]
  repeat (go_big_quiet_step (fail))
  refine wpQuiet_nil ?_
  obtain ⟨cap, W', hrun, hcap, hcell, hsize, hgrow⟩ := bytes_of_ex (P := Tryz.prog) Tryz.underlying9 Tryz.underlying46 Tryz.underlying5 (w.drewN (nq + 1)) (s.extract i (i + m))
  rw [HSZ.out] at hrun hcap hcell
  have HCELL := Lib.hid hcell
  have HSIZE := Lib.hid hsize
  clear hcell hsize v1 v2 v3 hsl
  go_wp2_with fail
  go_ret
  refine ⟨_, cap, rfl, ⟨by rw [length_cellsB]; omega, fun _ => ⟨_, rfl, by rw [HSIZE.out]; exact Nat.lt_succ_self _, fun j u hu => ?_⟩⟩, hcap, ?_⟩
  · rw [getElem?_cellsB, Option.map_eq_some_iff] at hu
    obtain ⟨c, hc, rfl⟩ := hu
    have hj := (List.getElem?_eq_some_iff.1 hc).1
    rw [add_none, Nat.zero_add]
    have := HCELL.out j hj
    rw [HW.out, List.getD_eq_getElem?_getD, hc] at this
    exact this
  · exact (below_drewN (Below.refl _ _) (nq + 1)).grown hgrow (Nat.le_refl _) (fun k hk => by cases hk)

/-- A stop that goes through a call. -/
def PanPost (w : World) (e : Ending) (w' : World) : Prop :=
  ∃ b, e = .panicked [{ v := .iface 129 (.pointer (some ⟨b, 0, none⟩)), recovered := false }] ∧ w.heap.size ≤ b ∧ w'.cell? ⟨b, 1, none⟩ = some (.int .i64 70) ∧ Below w.heap.size w w'
theorem len6 (w : World) : Calls Tryz.prog 96 #[.int .i64 1099511627776] w fun e w' => e = .returned (.int .i64 6) ∧ w = w' := len_ok 1099511627776 w (Nat.le_refl _)

theorem winL_dec (s : ByteArray) (i : Nat) : dec (winL s i 6) = dec ((lb s).drop i) := dec_take _
theorem winL_len (s : ByteArray) (i n : Nat) : (winL s i n).length ≤ n := by unfold winL; rw [List.length_take]; omega

set_option maxRecDepth 100000 in
set_option maxHeartbeats 1000000 in
theorem number_no (g : Nat) (s : ByteArray) (i : Nat) (bad : Bool) (lo hi : Int) (w : World) (h : RdB w g s i bad) (hg : HasET w) (hs : s.size ≤ 1000000) (hat : i ≤ s.size)
    (hno : dec ((lb s).drop i) = none ∨ ∃ n k, dec ((lb s).drop i) = some (n, k) ∧ ¬ (lo ≤ (n : Int) ∧ (n : Int) ≤ hi)) :
    Calls Tryz.prog 76 #[.pointer (some ⟨g, 0, none⟩), .int .i64 lo, .int .i64 hi] w (PanPost w) := by
  have HWN := Lib.hid (window_any g s i 6 bad w h hs hat (by omega))
  have HG := Lib.hid hg
  have hlen := winL_len s i 6
  have hgo : getOf (winL s i 6) 0 = (0, 0, 70) ∨ ∃ n k : Nat, getOf (winL s i 6) 0 = ((n : Int), (k : Int), 0) ∧ ¬ (lo ≤ (n : Int) ∧ (n : Int) ≤ hi) := by
    rcases hno with hd | ⟨n, k, hd, hr⟩
    · exact .inl (getOf_bad _ 0 (by rw [List.drop_zero, winL_dec]; exact hd) (Nat.zero_le _))
    · have := getOf_ok (winL s i 6) 0 n k (by rw [List.drop_zero, winL_dec]; exact hd) (Nat.zero_le _)
      exact .inr ⟨n, k, by rw [show ((0 : Nat) : Int) + (k : Int) = (k : Int) by omega] at this; exact this, hr⟩
  generalize winL s i 6 = L at *
  have HGO := Lib.hid hgo
  clear h hg hno hgo
  go_enter Tryz.func76, Tryz.ntmps76
  go_wp2_with fail
  refine (len6 _).mono ?_
  rintro e w0 ⟨rfl, rfl⟩
  go_wp2_with fail
  refine HWN.out.mono ?_
  rintro e w1 ⟨A1, c1, rfl, r1, hc1, b1⟩
  have HGT := Lib.hid (Get_any A1 L c1 0 w1 (by omega) (HG.out.up b1) r1)
  clear r1
  go_wp2_with fail
  refine HGT.out.mono ?_
  rintro e w2 ⟨rfl, b2⟩
  have bf := btrans b1 b2
  have BF := Lib.hid bf
  rcases HGO.out with hgo | ⟨n, k, hgo, hr⟩
  · rw [hgo]
    clear hgo b1 b2 bf
    go_wp2_with fail
    exact ⟨rfl, w2.heap.size, rfl, BF.out.size, by simp, bal BF.out _⟩
  · rw [hgo]
    have HR := Lib.hid hr
    clear hgo hr b1 b2 bf
    by_cases h1 : (n : Int) < lo
    · have d1 : decide ((n : Int) < lo) = true := decide_eq_true h1
      go_wp2_with fail
      exact ⟨rfl, w2.heap.size, rfl, BF.out.size, by simp, bal BF.out _⟩
    · have d1 : decide ((n : Int) < lo) = false := decide_eq_false h1
      have d2 : decide (hi < (n : Int)) = true := decide_eq_true (by have := HR.out; omega)
      go_wp2_with fail
      exact ⟨rfl, w2.heap.size, rfl, BF.out.size, by simp, bal BF.out _⟩

/-- Behind a reading: the reader's place; but for the reader all is as it was. -/
def RdPost (g : Nat) (s : ByteArray) (v : Value) (i : Nat) (bad : Bool) (w : World) (e : Ending) (w' : World) : Prop :=
  e = .returned v ∧ RdB w' g s i bad ∧ Only (fun x => x = g) w w'

set_option maxRecDepth 100000 in
set_option maxHeartbeats 1000000 in
theorem number_ok (g : Nat) (s : ByteArray) (i : Nat) (bad : Bool) (lo hi : Int) (n k : Nat) (w : World) (h : RdB w g s i bad) (hg : HasET w) (hs : s.size ≤ 1000000) (hat : i ≤ s.size)
    (hd : dec ((lb s).drop i) = some (n, k)) (hr : lo ≤ (n : Int) ∧ (n : Int) ≤ hi) :
    Calls Tryz.prog 76 #[.pointer (some ⟨g, 0, none⟩), .int .i64 lo, .int .i64 hi] w (RdPost g s (.int .i64 n) (i + k) bad w) := by
  have HWN := Lib.hid (window_any g s i 6 bad w h hs hat (by omega))
  have HG := Lib.hid hg
  have HK := Lib.hid h
  have hlen := winL_len s i 6
  have hk6 := (dec_le hd).2.2
  have hgo : getOf (winL s i 6) 0 = ((n : Int), (k : Int), 0) := by
    have := getOf_ok (winL s i 6) 0 n k (by rw [List.drop_zero, winL_dec]; exact hd) (Nat.zero_le _)
    rw [show ((0 : Nat) : Int) + (k : Int) = (k : Int) by omega] at this; exact this
  generalize winL s i 6 = L at *
  have HGO := Lib.hid hgo
  obtain ⟨r1, r2⟩ := hr
  have d1 : decide ((n : Int) < lo) = false := decide_eq_false (by omega)
  have d2 : decide (hi < (n : Int)) = false := decide_eq_false (by omega)
  clear h hg hgo hd
  go_enter Tryz.func76, Tryz.ntmps76
  go_wp2_with fail
  refine (len6 _).mono ?_
  rintro e w0 ⟨rfl, rfl⟩
  go_wp2_with fail
  refine HWN.out.mono ?_
  rintro e w1 ⟨A1, c1, rfl, rd1, hc1, b1⟩
  have HGT := Lib.hid (Get_any A1 L c1 0 w1 (by omega) (HG.out.up b1) rd1)
  clear rd1
  go_wp2_with fail
  refine HGT.out.mono ?_
  rintro e w2 ⟨rfl, b2⟩
  have BF := Lib.hid (btrans b1 b2)
  have k2 := HK.out.below (btrans b1 b2) HK.out.lt
  have x1 := k2.cell 1
  have x2 := k2.frozen 1
  have K2 := Lib.hid k2
  rw [HGO.out]
  clear b1 b2 k2
  go_wp2_with fail
  go_ret
  refine ⟨rfl, ?_, (Only.of_below (fun x => x = g) BF.out).set (.inl rfl) _⟩
  have := K2.out.set_ 1 (.int .i64 ((i : Int) + (k : Int)))
  rw [show ((i : Int) + (k : Int)) = ((i + k : Nat) : Int) by omega] at this ⊢
  exact this
end Go.Proofs.YtckdecodpjfcnaaGreatDoor
namespace Go.Proofs.YtckdecodpjfcnaaGreatDoor
open Go.RowKit

theorem skip_then {P : Program} {y : Code} {Q : Exit → Act → List Frame → World → Prop} {a : Act} {cs : List Frame} {w : World} (h : y.wpS P Q a cs w) : Code.skip.wpS P (Exit.thenS (y.wpS P Q) Q) a cs w := wpS_of_wp (wp_skip h)

theorem catch_idle (ba br be : Nat) (w : World) :
    CallsD Tryz.prog 93 #[.pointer (some ⟨ba, 0, none⟩), .pointer (some ⟨br, 0, none⟩), .pointer (some ⟨be, 0, none⟩)] .returning w fun e u' w' => e = .returned (.tuple #[]) ∧ u' = .returning ∧ w' = w := by
  refine callsD_of_wpS Tryz.func93 rfl fun c₀ cs hu => ?_
  apply wpS_seq
  apply wpS_region
  simp [wpOpsS, go_sem, recoverD, hu, Tryz.ntmps93, Exit.thenS]
  apply wpS_seq
  apply wpS_seq
  apply wpS_region
  simp [wpOpsS, go_sem, Exit.thenS]
  refine wpS_cond (t := true) (by simp [Act.eval, Array.replicate]) ?_
  simp only [if_true]
  refine wpS_of_wp (wp_ret ?_)
  cases c₀
  simp_all [bodyPostS, results, Tryz.results93, Exit.thenS]

set_option maxRecDepth 100000 in
set_option maxHeartbeats 1000000 in
theorem catch_stop (ba br be g b : Nat) (s : ByteArray) (i j : Nat) (bad : Bool) (x : Value) (w : World) (h : RdB w g s j bad) (ha : Blk w ba 3 #[.int .i64 (i : Int)]) (hr : Blk w br 86 #[.pointer (some ⟨g, 0, none⟩)]) (he : Blk w be 99 #[x]) :
    CallsD Tryz.prog 93 #[.pointer (some ⟨ba, 0, none⟩), .pointer (some ⟨br, 0, none⟩), .pointer (some ⟨be, 0, none⟩)] (.panicking [{ v := .iface 129 (.pointer (some ⟨b, 0, none⟩)), recovered := false }]) w fun e u' w' => e = .returned (.tuple #[]) ∧ u' = .panicking [{ v := .iface 129 (.pointer (some ⟨b, 0, none⟩)), recovered := true }] ∧
      Blk w' be 99 #[.iface 129 (.pointer (some ⟨b, 0, none⟩))] ∧ RdB w' g s i true ∧ Only (fun y => y = g ∨ y = be) w w' := by
  have x1 := h.frozen 1
  have x2 := h.frozen 2
  have x3 := h.cell 1
  have x4 := h.cell 2
  have y1 := ha.cell 0
  have y2 := hr.cell 0
  have y3 := he.cell 0
  have y4 := he.frozen 0
  have n1 : ¬ g = be := h.ne_ he (by decide)
  have n2 : ¬ be = g := fun h' => n1 h'.symm
  have n3 : be < w.heap.size := he.lt
  have n4 : ¬ be = w.heap.size := by omega
  have H := Lib.hid h
  have HE := Lib.hid he
  have hta : ∀ W : World, (Instr.typeAssert (.iface 129 (.pointer (some ⟨b, 0, none⟩))) 20 129 true).run Tryz.prog W = .ok (.tuple #[.pointer (some ⟨b, 0, none⟩), .bool true]) W := fun _ => by kernel_rfl
  clear h ha hr he
  refine callsD_of_wpS Tryz.func93 rfl fun c₀ cs hu => ?_
  apply wpS_seq
  apply wpS_region
  simp [wpOpsS, go_sem, recoverD, hu, Tryz.ntmps93, Exit.thenS]
  apply wpS_seq
  apply wpS_seq
  apply wpS_region
  simp [wpOpsS, go_sem, Exit.thenS]
  refine wpS_cond (t := false) (by simp [Act.eval, Array.replicate]) ?_
  simp only [Bool.false_eq_true, if_false]
  refine skip_then ?_
  refine wpS_of_wp ?_
  have hT : (#[Value.pointer (some ⟨ba, 0, none⟩), Value.pointer (some ⟨br, 0, none⟩), Value.pointer (some ⟨be, 0, none⟩)] ++ ((((Array.replicate 24 undef).setIfInBounds 3 (Value.iface 129 (.pointer (some ⟨b, 0, none⟩)))).setIfInBounds 0 (Value.iface 129 (.pointer (some ⟨b, 0, none⟩)))).setIfInBounds 4 (Value.iface 129 (.pointer (some ⟨b, 0, none⟩)))).setIfInBounds 5 (Value.bool false) : Array Value) = #[Value.pointer (some ⟨ba, 0, none⟩), Value.pointer (some ⟨br, 0, none⟩), Value.pointer (some ⟨be, 0, none⟩), Value.iface 129 (.pointer (some ⟨b, 0, none⟩)), undef, undef, Value.iface 129 (.pointer (some ⟨b, 0, none⟩)), Value.iface 129 (.pointer (some ⟨b, 0, none⟩)), .bool false, undef, undef, undef, undef, undef, undef, undef, undef, undef, undef, undef, undef, undef, undef, undef, undef, undef, undef] := by kernel_rfl
  rw [hT]
  clear hT
  go_wp2_with fail
  refine ⟨rfl, _, rfl, .tuple #[], by simp [results, Tryz.results93], rfl, rfl, ?_, ?_, ?_⟩
  · exact ((((HE.out.far n2 _).far n2 _).set_ 0 _).set_ 0 _).alloc _
  · exact ((((H.out.set_ 1 _).set_ 2 _).far n1 _).far n1 _).alloc _
  · exact (((((Only.refl (fun y => y = g ∨ y = be) w).set (.inl (.inl rfl)) _).set (.inl (.inl rfl)) _).set (.inl (.inr rfl)) _).set (.inl (.inr rfl)) _).alloc _
end Go.Proofs.YtckdecodpjfcnaaGreatDoor
namespace Go.Proofs.YtckdecodpjfcnaaGreatDoor
open Go.RowKit

theorem blk_new (w : World) (t : TypeId) (cs : Array Value) {g : Nat} (hg : w.heap.size = g) : Blk (w.alloc (.cells cs t)) g t cs := hg ▸ Blk.new w t cs
/-- Behind a field that was read: what the reading left, but for new blocks. -/
def FieldOk (Q : World → World → Prop) (w : World) (e : Ending) (w' : World) : Prop :=
  e = .returned .nilIface ∧ ∃ W w1, Below w.heap.size w W ∧ Q W w1 ∧ Below w.heap.size w1 w'
/-- Behind one that was not: a stop's error; the reader stands where it was, stopped. -/
def FieldNo (g : Nat) (s : ByteArray) (i : Nat) (w : World) (e : Ending) (w' : World) : Prop :=
  ∃ b, e = .returned (.iface 129 (.pointer (some ⟨b, 0, none⟩))) ∧ w'.cell? ⟨b, 1, none⟩ = some (.int .i64 70) ∧ RdB w' g s i true ∧ Only (fun x => x = g) w w'

set_option maxRecDepth 100000 in
set_option maxHeartbeats 1000000 in
theorem field_ok (g : Nat) (s : ByteArray) (i : Nat) (K : FuncId) (cap : Array Value) (S : Nat → Prop) (Q : World → World → Prop) (w : World) (h : RdB w g s i false)
    (hcf : ∀ (args : Array Value) (W : World), (callFunc K args).run Tryz.prog W = .ok (.enter K args) W)
    (hQ : ∀ W w', Q W w' → Only S W w') (hS : ∀ x, S x → x < w.heap.size)
    (hone : ∀ W, RdB W g s i false → Below w.heap.size w W → Calls Tryz.prog K (#[.pointer (some ⟨g, 0, none⟩)] ++ cap) W fun e w' => e = .returned (.tuple #[]) ∧ Q W w') :
    Calls Tryz.prog 74 #[.pointer (some ⟨g, 0, none⟩), .func (.func K) #[] cap] w (FieldOk Q w) := by
  have hmf : ∀ (fn : Fn) (first cap : Array Value) (w : World), (Instr.makeFunc fn first cap).run Tryz.prog w = .ok (.func fn first cap) w := fun _ _ _ _ => rfl
  have x1 := h.cell 1
  have x2 := h.cell 2
  have hl := h.lt
  have b3 := ((h.alloc (.cells #[.pointer (some ⟨g, 0, none⟩)] 86)).alloc (.cells #[.nilIface] 99)).alloc (.cells #[.int .i64 (i : Int)] 3)
  have l3 := (((Below.refl w.heap.size w).alloc (Nat.le_refl _) (.cells #[.pointer (some ⟨g, 0, none⟩)] 86)).alloc (by simp) (.cells #[.nilIface] 99)).alloc (by simp; omega) (.cells #[.int .i64 (i : Int)] 3)
  have y2 := b3.cell 2
  have B3 := Lib.hid b3
  have L3 := Lib.hid l3
  have hl1 : ¬ g = w.heap.size := by omega
  have hl2 : ¬ g = w.heap.size + 1 := by omega
  have H := Lib.hid h
  have HO := Lib.hid hone
  have HQ := Lib.hid hQ
  have HS := Lib.hid hS
  clear h hone hQ hS b3 l3
  go_enter_defers Tryz.func74, Tryz.ntmps74
  go_wp2_with fail
  refine (HO.out _ B3.out L3.out).mono ?_
  rintro e w1 ⟨rfl, q1⟩
  have o1 := HQ.out _ _ q1
  have be : Blk w1 (w.heap.size + 1) 99 #[.nilIface] := o1.blk ((blk_new (w.alloc (.cells #[.pointer (some ⟨g, 0, none⟩)] 86)) 99 #[.nilIface] (by simp)).alloc _) (fun hs => by have := HS.out _ hs; omega)
  have z1 := be.cell 0
  have z2 := be.frozen 0
  have Q1 := Lib.hid q1
  have BE := Lib.hid be
  clear o1 q1 be
  go_wp2_with fail
  refine leaves_cons (f := 93) (args := #[.pointer (some ⟨w.heap.size + 1 + 1, 0, none⟩), .pointer (some ⟨w.heap.size, 0, none⟩), .pointer (some ⟨w.heap.size + 1, 0, none⟩)]) (by simp) (by simp [go_sem]) ?_
  refine (catch_idle _ _ _ _).mono ?_
  rintro e u' w2 ⟨rfl, rfl, rfl⟩
  exact ⟨.nilIface, by simp [results, Tryz.results74, go_sem, z1], rfl, _, w1, L3.out, Q1.out, (Below.refl _ _).setCell (by simp) _⟩

set_option maxRecDepth 100000 in
set_option maxHeartbeats 1000000 in
theorem field_no (g : Nat) (s : ByteArray) (i : Nat) (K : FuncId) (cap : Array Value) (w : World) (h : RdB w g s i false)
    (hcf : ∀ (args : Array Value) (W : World), (callFunc K args).run Tryz.prog W = .ok (.enter K args) W)
    (hone : ∀ W, RdB W g s i false → Below w.heap.size w W → Calls Tryz.prog K (#[.pointer (some ⟨g, 0, none⟩)] ++ cap) W fun e w' => ∃ W', Only (fun x => x = g) W W' ∧ (∃ j, RdB W' g s j false) ∧ PanPost W' e w') :
    Calls Tryz.prog 74 #[.pointer (some ⟨g, 0, none⟩), .func (.func K) #[] cap] w (FieldNo g s i w) := by
  have hmf : ∀ (fn : Fn) (first cap : Array Value) (w : World), (Instr.makeFunc fn first cap).run Tryz.prog w = .ok (.func fn first cap) w := fun _ _ _ _ => rfl
  have x1 := h.cell 1
  have x2 := h.cell 2
  have hl := h.lt
  have a0 := blk_new w 86 #[.pointer (some ⟨g, 0, none⟩)] rfl
  have a1 := blk_new (w.alloc (.cells #[.pointer (some ⟨g, 0, none⟩)] 86)) 99 #[.nilIface] (g := w.heap.size + 1) (by simp)
  have a2 := blk_new ((w.alloc (.cells #[.pointer (some ⟨g, 0, none⟩)] 86)).alloc (.cells #[.nilIface] 99)) 3 #[.int .i64 (i : Int)] (g := w.heap.size + 1 + 1) (by simp)
  have b3 := ((h.alloc (.cells #[.pointer (some ⟨g, 0, none⟩)] 86)).alloc (.cells #[.nilIface] 99)).alloc (.cells #[.int .i64 (i : Int)] 3)
  have l3 := (((Below.refl w.heap.size w).alloc (Nat.le_refl _) (.cells #[.pointer (some ⟨g, 0, none⟩)] 86)).alloc (by simp) (.cells #[.nilIface] 99)).alloc (by simp; omega) (.cells #[.int .i64 (i : Int)] 3)
  have y2 := b3.cell 2
  have A0 := Lib.hid ((a0.alloc (.cells #[.nilIface] 99)).alloc (.cells #[.int .i64 (i : Int)] 3))
  have A1 := Lib.hid (a1.alloc (.cells #[.int .i64 (i : Int)] 3))
  have A2 := Lib.hid a2
  have B3 := Lib.hid b3
  have L3 := Lib.hid l3
  have hl1 : ¬ g = w.heap.size := by omega
  have hl2 : ¬ g = w.heap.size + 1 := by omega
  clear a0 a1 a2 b3 l3
  have HO := Lib.hid hone
  clear h hone
  go_enter_defers Tryz.func74, Tryz.ntmps74
  go_wp2_with fail
  refine (HO.out _ B3.out L3.out).mono ?_
  rintro e w1 ⟨W', o1, ⟨j, k1⟩, b, rfl, hb, hc, hbel⟩
  have e0 := (o1.blk A0.out (by omega)).below hbel ((o1.blk A0.out (by omega)).lt)
  have e1 := (o1.blk A1.out (by omega)).below hbel ((o1.blk A1.out (by omega)).lt)
  have e2 := (o1.blk A2.out (by omega)).below hbel ((o1.blk A2.out (by omega)).lt)
  have e3 := k1.below hbel k1.lt
  have hlt := o1.size
  simp only [World.size_alloc] at hlt
  have ow : Only (fun x => x = g) w w1 := ((Only.of_below (fun x => x = g) L3.out).trans o1).then_below hbel
  refine leaves_cons (f := 93) (args := #[.pointer (some ⟨w.heap.size + 1 + 1, 0, none⟩), .pointer (some ⟨w.heap.size, 0, none⟩), .pointer (some ⟨w.heap.size + 1, 0, none⟩)]) (by simp) (by simp [go_sem]) ?_
  refine (catch_stop _ _ _ g b s i j false _ _ e3 e2 e0 e1).mono ?_
  rintro e u' w2 ⟨rfl, rfl, k2, k3, k4⟩
  have z1 := k2.cell 0
  refine ⟨.iface 129 (.pointer (some ⟨b, 0, none⟩)), by simp [results, Tryz.results74, go_sem, z1], b, rfl, ?_, k3, ow.step k4 (fun x hx hs => by omega)⟩
  rw [k4.cell (p := ⟨b, 1, none⟩) (cell_lt hc) (by simp; omega)]
  exact hc

set_option maxRecDepth 100000 in
set_option maxHeartbeats 1000000 in
theorem field_bad (g : Nat) (s : ByteArray) (i : Nat) (K : FuncId) (cap : Array Value) (w : World) (h : RdB w g s i true) :
    Calls Tryz.prog 74 #[.pointer (some ⟨g, 0, none⟩), .func (.func K) #[] cap] w (FieldNo g s i w) := by
  have hmf : ∀ (fn : Fn) (first cap : Array Value) (w : World), (Instr.makeFunc fn first cap).run Tryz.prog w = .ok (.func fn first cap) w := fun _ _ _ _ => rfl
  have x1 := h.cell 1
  have x2 := h.cell 2
  have hl := h.lt
  have a0 := blk_new w 86 #[.pointer (some ⟨g, 0, none⟩)] rfl
  have a1 := blk_new (w.alloc (.cells #[.pointer (some ⟨g, 0, none⟩)] 86)) 99 #[.nilIface] (g := w.heap.size + 1) (by simp)
  have a2 := blk_new ((w.alloc (.cells #[.pointer (some ⟨g, 0, none⟩)] 86)).alloc (.cells #[.nilIface] 99)) 3 #[.int .i64 (i : Int)] (g := w.heap.size + 1 + 1) (by simp)
  have b3 := ((h.alloc (.cells #[.pointer (some ⟨g, 0, none⟩)] 86)).alloc (.cells #[.nilIface] 99)).alloc (.cells #[.int .i64 (i : Int)] 3)
  have l3 := (((Below.refl w.heap.size w).alloc (Nat.le_refl _) (.cells #[.pointer (some ⟨g, 0, none⟩)] 86)).alloc (by simp) (.cells #[.nilIface] 99)).alloc (by simp; omega) (.cells #[.int .i64 (i : Int)] 3)
  have y2 := b3.cell 2
  have A0 := Lib.hid ((a0.alloc (.cells #[.nilIface] 99)).alloc (.cells #[.int .i64 (i : Int)] 3))
  have A1 := Lib.hid (a1.alloc (.cells #[.int .i64 (i : Int)] 3))
  have A2 := Lib.hid a2
  have B3 := Lib.hid b3
  have L3 := Lib.hid l3
  have hl1 : ¬ g = w.heap.size := by omega
  have hl2 : ¬ g = w.heap.size + 1 := by omega
  clear a0 a1 a2 b3 l3
  clear h
  go_enter_defers Tryz.func74, Tryz.ntmps74
  go_wp2_with fail
  refine leaves_cons (f := 93) (args := #[.pointer (some ⟨w.heap.size + 1 + 1, 0, none⟩), .pointer (some ⟨w.heap.size, 0, none⟩), .pointer (some ⟨w.heap.size + 1, 0, none⟩)]) (by simp) (by simp [go_sem]) ?_
  refine (catch_stop _ _ _ g (w.heap.size + 1 + 1 + 1) s i i true _ _ (B3.out.alloc _) (A2.out.alloc _) (A0.out.alloc _) (A1.out.alloc _)).mono ?_
  rintro e u' w2 ⟨rfl, rfl, k2, k3, k4⟩
  have z1 := k2.cell 0
  refine ⟨.iface 129 (.pointer (some ⟨w.heap.size + 1 + 1 + 1, 0, none⟩)), by simp [results, Tryz.results74, go_sem, z1], _, rfl, ?_, k3, ((Only.of_below (fun x => x = g) L3.out).alloc _).step k4 (fun x hx hs => by omega)⟩
  rw [k4.cell (p := ⟨w.heap.size + 1 + 1 + 1, 1, none⟩) (by simp) (by simp; omega)]
  exact (blk_new (((w.alloc (.cells #[.pointer (some ⟨g, 0, none⟩)] 86)).alloc (.cells #[.nilIface] 99)).alloc (.cells #[.int .i64 (i : Int)] 3)) 131 #[_, .int .i64 70] (by simp)).cell 1

end Go.Proofs.YtckdecodpjfcnaaGreatDoor
