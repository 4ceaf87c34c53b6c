/-
  A region that draws its order, whose operations only read what was there and whose callees may make memory but leave what was there as it was: walked once, in the order of the text, over the class of all such worlds.
  Replies, plainly: their fields, which may be, their bytes; bytes are read as what was written. No program in sight.
  Small lemmas that many texts use.
  A region that draws its order, whose first operations only read (or call what leaves the world as it was): these are walked once, in the order of the text, by the cheap step of the quiet walk; the rest stands in one forced order.
-/
import Derived.Test.YtckdecodpjfcnaaDoorGrp04
import Derived.Test.YtckdecodpjfcnaaDoorGrp01
import Derived.StillTailTactics
import Derived.Deep.QuietTactic
import Derived.BigQuiet
import Derived.Below
set_option linter.unusedVariables false
set_option linter.unusedSimpArgs false
namespace Go.Proofs.YtckdecodpjfcnaaDoor
open Go.RowKit

abbrev Rw := Int × Int × Int × ByteArray × ByteArray
def cellsW (l : List Rw) : List Value := l.flatMap fun p => [.int .i64 p.1, .int .i64 p.2.1, .int .i64 p.2.2.1, .string p.2.2.2.1, .string p.2.2.2.2]
theorem cellsW_cons (p : Rw) (l : List Rw) : cellsW (p :: l) = .int .i64 p.1 :: .int .i64 p.2.1 :: .int .i64 p.2.2.1 :: .string p.2.2.2.1 :: .string p.2.2.2.2 :: cellsW l := by simp [cellsW]
theorem cellsW_append (l m : List Rw) : cellsW (l ++ m) = cellsW l ++ cellsW m := by simp [cellsW]
theorem length_cellsW : ∀ l : List Rw, (cellsW l).length = l.length * 5
  | [] => rfl
  | p :: l => by rw [cellsW_cons, List.length_cons, List.length_cons, List.length_cons, List.length_cons, List.length_cons, length_cellsW l, List.length_cons]; omega
theorem cellsW_at : ∀ (l : List Rw) (i : Nat) (p : Rw), l[i]? = some p → (cellsW l)[i * 5]? = some (.int .i64 p.1) ∧ (cellsW l)[i * 5 + 1]? = some (.int .i64 p.2.1) ∧ (cellsW l)[i * 5 + 2]? = some (.int .i64 p.2.2.1) ∧ (cellsW l)[i * 5 + 3]? = some (.string p.2.2.2.1) ∧ (cellsW l)[i * 5 + 4]? = some (.string p.2.2.2.2)
  | [], i, p, h => by simp at h
  | q :: l, 0, p, h => by
    simp at h
    subst h
    rw [cellsW_cons]
    exact ⟨rfl, rfl, rfl, rfl, rfl⟩
  | q :: l, i + 1, p, h => by
    have := cellsW_at l i p (by simpa using h)
    rw [cellsW_cons, show (i + 1) * 5 = i * 5 + 1 + 1 + 1 + 1 + 1 by omega]
    simpa using this
theorem cellsW_one (l : List Rw) : ∀ u ∈ cellsW l, u.oneCell' = true := by
  intro u hu
  simp only [cellsW, List.mem_flatMap] at hu
  obtain ⟨p, _, hu⟩ := hu
  simp at hu
  rcases hu with rfl | rfl | rfl | rfl | rfl <;> rfl
theorem Reads.plain5 {w : World} {B n : Nat} {A : Option Addr} {l : List Rw} (h : Reads w B 5 A n (cellsW l)) (hn : 0 < n) :
    ∃ b off, A = some ⟨b, off, none⟩ ∧ b < B ∧ ∀ i p, l[i]? = some p → w.cell? ⟨b, off + i * 5, none⟩ = some (.int .i64 p.1) ∧ w.cell? ⟨b, off + i * 5 + 1, none⟩ = some (.int .i64 p.2.1) ∧ w.cell? ⟨b, off + i * 5 + 2, none⟩ = some (.int .i64 p.2.2.1) ∧ w.cell? ⟨b, off + i * 5 + 3, none⟩ = some (.string p.2.2.2.1) ∧ w.cell? ⟨b, off + i * 5 + 4, none⟩ = some (.string p.2.2.2.2) := by
  obtain ⟨ad, rfl, hb, hc⟩ := h.2 hn
  obtain ⟨b, off, spot⟩ := ad
  have hl : 0 < (cellsW l).length := by have := h.1; omega
  have h0 := hc 0 _ (List.getElem?_eq_getElem hl)
  have hs : spot = none := by simpa [Addr.add] using World.cell?_spot h0
  subst hs
  refine ⟨b, off, rfl, hb, fun i p hp => ?_⟩
  obtain ⟨h1, h2, h3, h4, h5⟩ := cellsW_at l i p hp
  have k1 := hc _ _ h1
  have k2 := hc _ _ h2
  have k3 := hc _ _ h3
  have k4 := hc _ _ h4
  have k5 := hc _ _ h5
  rw [add_none] at k1 k2 k3 k4 k5
  exact ⟨k1, by rw [Nat.add_assoc]; exact k2, by rw [Nat.add_assoc]; exact k3, by rw [Nat.add_assoc]; exact k4, by rw [Nat.add_assoc]; exact k5⟩


section
variable {α β γ δ : Type}
/-- A way of writing of some things alone. -/
def Cd.emb (c : Cd α) (f : α → β) (g : β → α) (h : ∀ x, c.v x → g (f x) = x) : Cd β where
  p l := match c.p l with
    | some (x, r) => some (f x, r)
    | none => none
  e y := c.e (g y)
  v y := f (g y) = y ∧ c.v (g y)
  law l y r := by
    constructor
    · intro hp
      split at hp
      · rename_i x r' hx
        injection hp with hp
        injection hp with h1 h2
        subst h1; subst h2
        obtain ⟨v1, e1⟩ := c.only hx
        rw [h x v1]
        exact ⟨⟨rfl, v1⟩, e1⟩
      · cases hp
    · rintro ⟨⟨h1, h2⟩, rfl⟩
      rw [c.back h2]
      simp only [h1]
theorem Fol.emb {rd : Rdr α} {c : Cd γ} {k : γ → α} (h : Fol rd c k) (f : γ → β) (g : β → γ) (hg : ∀ x, c.v x → g (f x) = x) (m : α → δ) (n : β → δ) (hm : ∀ x, m (k x) = n (f x)) : Fol (rdMap rd m) (c.emb f g hg) n where
  stop l i := h.stop l i
  le l i b hi := h.le l i b hi
  ok l i y r hi hp := by
    have e : (c.emb f g hg).p (l.drop i) = match c.p (l.drop i) with
      | some (x, r) => some (f x, r)
      | none => none := rfl
    rw [e] at hp
    split at hp
    · rename_i x r1 hx
      injection hp with hp
      injection hp with h3 h4
      subst h3; subst h4
      obtain ⟨j, hj, e1, e2⟩ := h.ok l i x _ hi hx
      exact ⟨j, hj, by unfold rdMap; rw [e1, hm], e2⟩
    · cases hp
  no l i hi hp := by
    have e : (c.emb f g hg).p (l.drop i) = match c.p (l.drop i) with
      | some (x, r) => some (f x, r)
      | none => none := rfl
    rw [e] at hp
    split at hp
    · cases hp
    · rename_i hx
      exact h.no l i hi hx
end

structure Rp where
  kd : Int
  er : Int
  pid : Int
  ep : Int
  off : Int
  rows : List Rw
def Rp0 : Rp := ⟨0, 0, 0, 0, 0, []⟩
theorem Rp.ext' {a b : Rp} (h1 : a.kd = b.kd) (h2 : a.er = b.er) (h3 : a.pid = b.pid) (h4 : a.ep = b.ep) (h5 : a.off = b.off) (h6 : a.rows = b.rows) : a = b := by
  cases a; cases b; simp_all
abbrev Bd := Int × Int × Int × List Rw

def cRow : Cd Rw := ((cI 0 1048577).bind fun _ => (cI 1 8).bind fun _ => (cI 0 1048575).bind fun _ => (cTxt 16).bind fun _ => cTxt 16).emb
  (fun z => (z.1 - 1, z.2.1, z.2.2.1, bs z.2.2.2.1, bs z.2.2.2.2)) (fun y => (y.1 + 1, y.2.1, y.2.2.1, lb y.2.2.2.1, lb y.2.2.2.2)) (fun x _ => by simp [lb_bs])
def rdRow : Rdr Rw := rdMap (rdBind (fun l i b => rdNum l i b 0 1048577) fun o => rdBind (fun l i b => rdNum l i b 1 8) fun p => rdBind (fun l i b => rdNum l i b 0 1048575) fun s => rdBind (fun l i b => rdTxt l i b 16) fun k => rdMap (fun l i b => rdTxt l i b 16) fun v => (o, p, s, k, v)) (fun z => (z.1 - 1, z.2.1, z.2.2.1, bs z.2.2.2.1, bs z.2.2.2.2))
theorem fol_row : Fol rdRow cRow id := by
  have f4 : ∀ (o p s : Int), Fol (rdBind (fun l i b => rdTxt l i b 16) fun k => rdMap (fun l i b => rdTxt l i b 16) fun v => (o, p, s, k, v)) ((cTxt 16).bind fun _ => cTxt 16) (fun z => (o, p, s, z.1, z.2)) := fun o p s =>
    (fol_txt 16).bind (g := fun k v => (o, p, s, k, v)) (fun k => (fol_txt 16).map (fun v => (o, p, s, k, v))) (fun _ l i => (fol_txt 16).stop l i) (fun _ l i b hi => (fol_txt 16).le l i b hi)
  have f3 : ∀ (o p : Int), Fol (rdBind (fun l i b => rdNum l i b 0 1048575) fun s => rdBind (fun l i b => rdTxt l i b 16) fun k => rdMap (fun l i b => rdTxt l i b 16) fun v => (o, p, s, k, v)) ((cI 0 1048575).bind fun _ => (cTxt 16).bind fun _ => cTxt 16) (fun z => (o, p, z.1, z.2.1, z.2.2)) := fun o p =>
    (fol_I 0 1048575).bind (g := fun (s : Int) (z : List UInt8 × List UInt8) => (o, p, s, z.1, z.2)) (fun s => f4 o p s) (fun s => (f4 o p s).stop) (fun s => (f4 o p s).le)
  have f2 : ∀ (o : Int), Fol (rdBind (fun l i b => rdNum l i b 1 8) fun p => rdBind (fun l i b => rdNum l i b 0 1048575) fun s => rdBind (fun l i b => rdTxt l i b 16) fun k => rdMap (fun l i b => rdTxt l i b 16) fun v => (o, p, s, k, v)) ((cI 1 8).bind fun _ => (cI 0 1048575).bind fun _ => (cTxt 16).bind fun _ => cTxt 16) (fun z => (o, z.1, z.2.1, z.2.2.1, z.2.2.2)) := fun o =>
    (fol_I 1 8).bind (g := fun (p : Int) (z : Int × List UInt8 × List UInt8) => (o, p, z.1, z.2.1, z.2.2)) (fun p => f3 o p) (fun p => (f3 o p).stop) (fun p => (f3 o p).le)
  have f1 := (fol_I 0 1048577).bind (g := fun (o : Int) (z : Int × Int × List UInt8 × List UInt8) => (o, z.1, z.2.1, z.2.2.1, z.2.2.2)) (fun o => f2 o) (fun o => (f2 o).stop) (fun o => (f2 o).le)
  exact f1.emb _ _ _ (fun z => ((z.1 - 1, z.2.1, z.2.2.1, bs z.2.2.2.1, bs z.2.2.2.2) : Rw)) id (fun _ => rfl)

def cB0 : Cd Bd := cNil.emb (fun _ => (0, 0, 0, [])) (fun _ => ()) (fun _ _ => rfl)
def cBp : Cd Bd := (cI 1 8).emb (fun p => (p, 0, 0, [])) (fun y => y.1) (fun _ _ => rfl)
def cBpe : Cd Bd := ((cI 1 8).bind fun _ => cI 0 100).emb (fun z => (z.1, z.2, 0, [])) (fun y => (y.1, y.2.1)) (fun _ _ => rfl)
def cBo : Cd Bd := (cI 0 1048577).emb (fun o => (0, 0, o - 1, [])) (fun y => y.2.2.1 + 1) (fun x _ => by simp)
def cBf : Cd Bd := ((cI 0 1048576).bind fun _ => (cI 0 64).bind fun n => cRow.rep n.toNat).emb (fun z => (0, 0, z.1, z.2.2)) (fun y => (y.2.2.1, (y.2.2.2.length : Int), y.2.2.2)) (fun x hx => by
  obtain ⟨o, n, l⟩ := x
  have h1 : 0 ≤ n := hx.2.1.1
  have h2 : l.length = n.toNat := hx.2.2.1
  simp only [Prod.mk.injEq, and_true, true_and]
  omega)
def cB (er kd : Int) : Cd Bd := if er ≠ 0 then cB0 else if kd = 0 then cBp else if kd = 1 then cBpe else if kd = 5 then cBf else if kd = 2 ∨ kd = 7 then cBo else cB0
def rdB0 : Rdr Bd := rdMap (fun _ i b => ((), i, b)) fun _ => (0, 0, 0, [])
def rdBp : Rdr Bd := rdMap (fun l i b => rdNum l i b 1 8) fun p => (p, 0, 0, [])
def rdBpe : Rdr Bd := rdMap (rdBind (fun l i b => rdNum l i b 1 8) fun p => rdMap (fun l i b => rdNum l i b 0 100) fun e => (p, e)) fun z => (z.1, z.2, 0, [])
def rdBo : Rdr Bd := rdMap (fun l i b => rdNum l i b 0 1048577) fun o => (0, 0, o - 1, [])
def rdBf : Rdr Bd := rdMap (rdBind (fun l i b => rdNum l i b 0 1048576) fun o => rdBind (fun l i b => rdNum l i b 0 64) fun n => rdMap (rdRep rdRow n.toNat) fun rs => (o, n, rs)) fun z => (0, 0, z.1, z.2.2)
def rdB (er kd : Int) : Rdr Bd := if er ≠ 0 then rdB0 else if kd = 0 then rdBp else if kd = 1 then rdBpe else if kd = 5 then rdBf else if kd = 2 ∨ kd = 7 then rdBo else rdB0
theorem fol_0 : Fol rdB0 cB0 id := (fol_nil ()).emb _ _ _ (fun _ => ((0, 0, 0, []) : Bd)) id (fun _ => rfl)
theorem fol_p : Fol rdBp cBp id := (fol_I 1 8).emb _ _ _ (fun p => ((p, 0, 0, []) : Bd)) id (fun _ => rfl)
theorem fol_pe : Fol rdBpe cBpe id := ((fol_I 1 8).bind (g := fun p e => (p, e)) (fun p => (fol_I 0 100).map (fun e => (p, e))) (fun _ l i => (fol_I 0 100).stop l i) (fun _ l i b hi => (fol_I 0 100).le l i b hi)).emb _ _ _ (fun z => ((z.1, z.2, 0, []) : Bd)) id (fun _ => rfl)
theorem fol_o : Fol rdBo cBo id := (fol_I 0 1048577).emb _ _ _ (fun o => ((0, 0, o - 1, []) : Bd)) id (fun _ => rfl)
theorem fol_f : Fol rdBf cBf id := by
  have g1 : ∀ (o n : Int), Fol (rdMap (rdRep rdRow n.toNat) fun rs => (o, n, rs)) (cRow.rep n.toNat) (fun rs => (o, n, rs)) := fun o n => by
    have := (fol_row.rep n.toNat).map (fun rs => (o, n, rs))
    simp only [List.map_id] at this
    exact this
  have g2 : ∀ (o : Int), Fol (rdBind (fun l i b => rdNum l i b 0 64) fun n => rdMap (rdRep rdRow n.toNat) fun rs => (o, n, rs)) ((cI 0 64).bind fun n => cRow.rep n.toNat) (fun z => (o, z.1, z.2)) := fun o =>
    (fol_I 0 64).bind (g := fun (n : Int) (rs : List Rw) => (o, n, rs)) (fun n => g1 o n) (fun n => (g1 o n).stop) (fun n => (g1 o n).le)
  exact ((fol_I 0 1048576).bind (g := fun (o : Int) (z : Int × List Rw) => (o, z.1, z.2)) (fun o => g2 o) (fun o => (g2 o).stop) (fun o => (g2 o).le)).emb _ _ _ (fun z => ((0, 0, z.1, z.2.2) : Bd)) id (fun _ => rfl)
theorem fol_B (er kd : Int) : Fol (rdB er kd) (cB er kd) id := by
  unfold rdB cB
  repeat' split
  all_goals first | exact fol_0 | exact fol_p | exact fol_pe | exact fol_f | exact fol_o

def rpOf (kd er : Int) (y : Bd) : Rp := ⟨kd, er, y.1, y.2.1, y.2.2.1, y.2.2.2⟩
def cRp : Cd Rp := ((cI 0 9).bind fun kd => (cI 0 400).bind fun er => cB er kd).emb (fun z => rpOf z.1 z.2.1 z.2.2) (fun q => (q.kd, q.er, q.pid, q.ep, q.off, q.rows)) (fun _ _ => rfl)
def rdRp : Rdr Rp := rdMap (rdBind (fun l i b => rdNum l i b 0 9) fun kd => rdBind (fun l i b => rdNum l i b 0 400) fun er => rdMap (rdB er kd) fun y => (kd, er, y)) fun z => rpOf z.1 z.2.1 z.2.2
theorem fol_rp : Fol rdRp cRp id := by
  have g1 : ∀ (kd er : Int), Fol (rdMap (rdB er kd) fun y => (kd, er, y)) (cB er kd) (fun y => (kd, er, y)) := fun kd er => (fol_B er kd).map (fun y => (kd, er, y))
  have g2 : ∀ (kd : Int), Fol (rdBind (fun l i b => rdNum l i b 0 400) fun er => rdMap (rdB er kd) fun y => (kd, er, y)) ((cI 0 400).bind fun er => cB er kd) (fun z => (kd, z.1, z.2)) := fun kd =>
    (fol_I 0 400).bind (g := fun (er : Int) (y : Bd) => (kd, er, y)) (fun er => g1 kd er) (fun er => (g1 kd er).stop) (fun er => (g1 kd er).le)
  exact ((fol_I 0 9).bind (g := fun (kd : Int) (z : Int × Bd) => (kd, z.1, z.2)) (fun kd => g2 kd) (fun kd => (g2 kd).stop) (fun kd => (g2 kd).le)).emb _ _ _ (fun z => rpOf z.1 z.2.1 z.2.2) id (fun _ => rfl)

/-- Bytes as a reply, or ErrCode. -/
def readRp (l : List UInt8) : Rp × Int := if (rdRp l 0 false).2.2 = true ∨ (rdRp l 0 false).2.1 ≠ l.length then (Rp0, 70) else ((rdRp l 0 false).1, 0)
theorem readRp_ok {q : Rp} (h : cRp.v q) : readRp (cRp.e q) = (q, 0) := by
  have h1 : rdRp (cRp.e q) 0 false = (q, (cRp.e q).length, false) := fol_rp.all.2 ⟨q, h, rfl, rfl⟩
  unfold readRp
  rw [h1, if_neg (by simp)]
theorem readRp_cases (l : List UInt8) : (∃ q, readRp l = (q, 0) ∧ cRp.v q ∧ l = cRp.e q) ∨ readRp l = (Rp0, 70) := by
  unfold readRp
  split
  · exact .inr rfl
  · rename_i hh
    have h1 : (rdRp l 0 false).2.2 = false := by
      cases hb : (rdRp l 0 false).2.2
      · rfl
      · exact absurd (.inl hb) hh
    have h2 : (rdRp l 0 false).2.1 = l.length := Classical.byContradiction fun hn => hh (.inr hn)
    have h3 : rdRp l 0 false = ((rdRp l 0 false).1, l.length, false) := Prod.ext rfl (Prod.ext h2 h1)
    obtain ⟨y, hv, he, hy⟩ := fol_rp.all.1 h3
    simp only [id] at hy
    rw [hy] at he hv
    exact .inl ⟨_, rfl, hv, he⟩

/-- Which row may stand in a reply. -/
def vis (w : Rw) : Bool := decide (-1 ≤ w.1 ∧ w.1 ≤ 1048576) && (decide (1 ≤ w.2.1 ∧ w.2.1 ≤ 8) && (decide (0 ≤ w.2.2.1 ∧ w.2.2.1 ≤ 1048575) && (decide (w.2.2.2.1.size ≤ 16) && decide (w.2.2.2.2.size ≤ 16))))
theorem cI_v (lo hi : Nat) (x : Int) (h : hi ≤ 1048577) : (cI lo hi).v x ↔ (lo : Int) ≤ x ∧ x ≤ hi := by
  show 0 ≤ x ∧ (lo ≤ x.toNat ∧ x.toNat ≤ hi ∧ x.toNat ≤ maxNum) ↔ _
  unfold maxNum
  omega
theorem cRow_v (w : Rw) : cRow.v w ↔ vis w = true := by
  obtain ⟨o, p, s, k, v⟩ := w
  have e : cRow.v (o, p, s, k, v) ↔ ((o + 1 - 1, p, s, bs (lb k), bs (lb v)) = ((o, p, s, k, v) : Rw)) ∧ (cI 0 1048577).v (o + 1) ∧ (cI 1 8).v p ∧ (cI 0 1048575).v s ∧ ((lb k).length ≤ 16 ∧ (lb k).length ≤ maxNum) ∧ ((lb v).length ≤ 16 ∧ (lb v).length ≤ maxNum) := Iff.rfl
  rw [e, cI_v _ _ _ (by decide), cI_v _ _ _ (by decide), cI_v _ _ _ (by decide), bs_lb, bs_lb]
  unfold vis
  simp only [Bool.and_eq_true, decide_eq_true_eq, Int.add_sub_cancel, length_lb, true_and, maxNum]
  omega
/-- What is asked of the fields of a kind, if there is no error. -/
def okB (q : Rp) : Bool :=
  if q.kd = 1 then decide (0 ≤ q.ep ∧ q.ep ≤ 100) && decide (1 ≤ q.pid ∧ q.pid ≤ 8)
  else if q.kd = 0 then decide (1 ≤ q.pid ∧ q.pid ≤ 8)
  else if q.kd = 5 then (decide (q.off ≠ -1) && (decide (q.rows.length ≤ 64) && q.rows.all vis)) && decide (-1 ≤ q.off ∧ q.off ≤ 1048576)
  else if q.kd = 2 ∨ q.kd = 7 then decide (-1 ≤ q.off ∧ q.off ≤ 1048576)
  else true
/-- A reply without the fields of its kind. -/
def restB (q : Rp) : Rp :=
  if q.kd = 1 then { q with ep := 0, pid := 0 } else if q.kd = 0 then { q with pid := 0 } else if q.kd = 5 then { q with rows := [], off := 0 } else if q.kd = 2 ∨ q.kd = 7 then { q with off := 0 } else q
def bareB (q : Rp) : Bool := decide (q.pid = 0 ∧ q.ep = 0 ∧ q.off = 0 ∧ q.rows.length = 0)
def mayB (q : Rp) : Bool := decide (0 ≤ q.kd ∧ q.kd ≤ 9) && (decide (0 ≤ q.er ∧ q.er ≤ 400) && (if q.er = 0 then okB q && bareB (restB q) else bareB q))
theorem cB_v0 (y : Bd) : cB0.v y ↔ y.1 = 0 ∧ y.2.1 = 0 ∧ y.2.2.1 = 0 ∧ y.2.2.2.length = 0 := by
  obtain ⟨a, b, c, l⟩ := y
  show (((0, 0, 0, []) : Bd) = (a, b, c, l)) ∧ True ↔ _
  simp only [Prod.mk.injEq, and_true, List.length_eq_zero_iff]
  constructor
  · rintro ⟨h1, h2, h3, h4⟩; exact ⟨h1.symm, h2.symm, h3.symm, h4.symm⟩
  · rintro ⟨h1, h2, h3, h4⟩; exact ⟨h1.symm, h2.symm, h3.symm, h4.symm⟩
theorem cB_vp (y : Bd) : cBp.v y ↔ (1 ≤ y.1 ∧ y.1 ≤ 8) ∧ y.2.1 = 0 ∧ y.2.2.1 = 0 ∧ y.2.2.2.length = 0 := by
  obtain ⟨a, b, c, l⟩ := y
  show (((a, 0, 0, []) : Bd) = (a, b, c, l)) ∧ (cI 1 8).v a ↔ _
  rw [cI_v _ _ _ (by decide)]
  simp only [Prod.mk.injEq, true_and, List.length_eq_zero_iff]
  constructor
  · rintro ⟨⟨h2, h3, h4⟩, h⟩; exact ⟨by omega, h2.symm, h3.symm, h4.symm⟩
  · rintro ⟨h, h2, h3, h4⟩; exact ⟨⟨h2.symm, h3.symm, h4.symm⟩, by omega⟩
theorem cB_vpe (y : Bd) : cBpe.v y ↔ (1 ≤ y.1 ∧ y.1 ≤ 8) ∧ (0 ≤ y.2.1 ∧ y.2.1 ≤ 100) ∧ y.2.2.1 = 0 ∧ y.2.2.2.length = 0 := by
  obtain ⟨a, b, c, l⟩ := y
  show (((a, b, 0, []) : Bd) = (a, b, c, l)) ∧ ((cI 1 8).v a ∧ (cI 0 100).v b) ↔ _
  rw [cI_v _ _ _ (by decide), cI_v _ _ _ (by decide)]
  simp only [Prod.mk.injEq, true_and, List.length_eq_zero_iff]
  constructor
  · rintro ⟨⟨h3, h4⟩, h, h'⟩; exact ⟨by omega, by omega, h3.symm, h4.symm⟩
  · rintro ⟨h, h', h3, h4⟩; exact ⟨⟨h3.symm, h4.symm⟩, by omega, by omega⟩
theorem cB_vo (y : Bd) : cBo.v y ↔ y.1 = 0 ∧ y.2.1 = 0 ∧ (-1 ≤ y.2.2.1 ∧ y.2.2.1 ≤ 1048576) ∧ y.2.2.2.length = 0 := by
  obtain ⟨a, b, c, l⟩ := y
  show (((0, 0, c + 1 - 1, []) : Bd) = (a, b, c, l)) ∧ (cI 0 1048577).v (c + 1) ↔ _
  rw [cI_v _ _ _ (by decide)]
  simp only [Prod.mk.injEq, List.length_eq_zero_iff]
  constructor
  · rintro ⟨⟨h1, h2, _, h4⟩, h⟩; exact ⟨h1.symm, h2.symm, by omega, h4.symm⟩
  · rintro ⟨h1, h2, h, h4⟩; exact ⟨⟨h1.symm, h2.symm, by omega, h4.symm⟩, by omega⟩
theorem cB_vf (y : Bd) : cBf.v y ↔ y.1 = 0 ∧ y.2.1 = 0 ∧ (0 ≤ y.2.2.1 ∧ y.2.2.1 ≤ 1048576) ∧ y.2.2.2.length ≤ 64 ∧ y.2.2.2.all vis = true := by
  obtain ⟨a, b, c, l⟩ := y
  show (((0, 0, c, l) : Bd) = (a, b, c, l)) ∧ ((cI 0 1048576).v c ∧ (cI 0 64).v (l.length : Int) ∧ (l.length = (l.length : Int).toNat ∧ ∀ x ∈ l, cRow.v x)) ↔ _
  rw [cI_v _ _ _ (by decide), cI_v _ _ _ (by decide)]
  simp only [Prod.mk.injEq, and_true, List.all_eq_true, cRow_v]
  constructor
  · rintro ⟨⟨h1, h2⟩, h3, h4, h5, h6⟩; exact ⟨h1.symm, h2.symm, by omega, by omega, h6⟩
  · rintro ⟨h1, h2, h3, h4, h5⟩; exact ⟨⟨h1.symm, h2.symm⟩, by omega, by omega, by omega, h5⟩
theorem mayB_iff (q : Rp) : mayB q = true ↔ cRp.v q := by
  have e : cRp.v q ↔ rpOf q.kd q.er (q.pid, q.ep, q.off, q.rows) = q ∧ ((cI 0 9).v q.kd ∧ (cI 0 400).v q.er ∧ (cB q.er q.kd).v (q.pid, q.ep, q.off, q.rows)) := Iff.rfl
  rw [e, cI_v _ _ _ (by decide), cI_v _ _ _ (by decide)]
  have e2 : rpOf q.kd q.er (q.pid, q.ep, q.off, q.rows) = q := rfl
  clear e
  rw [e2]
  unfold mayB
  simp only [true_and, Bool.and_eq_true, decide_eq_true_eq]
  refine and_congr Iff.rfl (and_congr Iff.rfl ?_)
  by_cases h0 : q.er = 0
  · rw [if_pos h0, h0]
    by_cases k1 : q.kd = 1
    · have hc : cB 0 q.kd = cBpe := by unfold cB; rw [k1]; rfl
      rw [hc, cB_vpe]
      unfold okB restB bareB
      simp only [k1, if_true, Bool.and_eq_true, decide_eq_true_eq, true_and]
      omega
    · by_cases k0 : q.kd = 0
      · have hc : cB 0 q.kd = cBp := by unfold cB; rw [k0]; rfl
        rw [hc, cB_vp]
        unfold okB restB bareB
        simp only [k0, if_true, if_false, Bool.and_eq_true, decide_eq_true_eq, true_and, show ¬ (0 : Int) = 1 by decide]
      · by_cases k5 : q.kd = 5
        · have hc : cB 0 q.kd = cBf := by unfold cB; rw [k5]; rfl
          rw [hc, cB_vf]
          unfold okB restB bareB
          simp only [k5, if_true, if_false, Bool.and_eq_true, decide_eq_true_eq, true_and, show ¬ (5 : Int) = 1 by decide, show ¬ (5 : Int) = 0 by decide, List.length_nil, and_true]
          constructor
          · rintro ⟨⟨⟨h1, h2, h3⟩, h4⟩, h5, h6⟩; exact ⟨h5, h6, by omega, h2, h3⟩
          · rintro ⟨h1, h2, h3, h4, h5⟩; exact ⟨⟨⟨by omega, h4, h5⟩, by omega⟩, h1, h2⟩
        · by_cases k2 : q.kd = 2 ∨ q.kd = 7
          · have hc : cB 0 q.kd = cBo := by unfold cB; rw [if_neg (by decide), if_neg k0, if_neg k1, if_neg k5, if_pos k2]
            rw [hc, cB_vo]
            unfold okB restB bareB
            rw [if_neg k1, if_neg k0, if_neg k5, if_pos k2, if_neg k1, if_neg k0, if_neg k5, if_pos k2]
            simp only [Bool.and_eq_true, decide_eq_true_eq]
            constructor
            · rintro ⟨h1, h2, h3, _, h5⟩; exact ⟨h2, h3, h1, h5⟩
            · rintro ⟨h1, h2, h3, h4⟩; exact ⟨h3, h1, h2, trivial, h4⟩
          · have hc : cB 0 q.kd = cB0 := by unfold cB; rw [if_neg (by decide), if_neg k0, if_neg k1, if_neg k5, if_neg k2]
            rw [hc, cB_v0]
            unfold okB restB bareB
            rw [if_neg k1, if_neg k0, if_neg k5, if_neg k2, if_neg k1, if_neg k0, if_neg k5, if_neg k2]
            simp only [Bool.and_eq_true, decide_eq_true_eq, true_and]
  · have hc : cB q.er q.kd = cB0 := by unfold cB; rw [if_pos h0]
    rw [if_neg h0, hc, cB_v0]
    unfold bareB
    simp only [decide_eq_true_eq]
end Go.Proofs.YtckdecodpjfcnaaDoor
namespace Go.Proofs.YtckdecodpjfcnaaDoor
open Go.RowKit

theorem ret_bool {a b : Bool} (h : a = b) : Ending.returned (.bool a) = .returned (.bool b) := by rw [h]
theorem ret_int {k : IntKind} {a b : Int} (h : a = b) : Ending.returned (.int k a) = .returned (.int k b) := by rw [h]
theorem bal {w w' : World} (h : Below w.heap.size w w') (o : Obj) : Below w.heap.size w (w'.alloc o) := h.alloc h.size o
theorem bset {w w' : World} (h : Below w.heap.size w w') {b o : Nat} (hb : w.heap.size ≤ b) (u : Value) : Below w.heap.size w (w'.setCell ⟨b, o, none⟩ u) := h.setCell (p := ⟨b, o, none⟩) hb u
theorem btrans {w w1 w2 : World} (h : Below w.heap.size w w1) (k : Below w1.heap.size w1 w2) : Below w.heap.size w w2 := h.trans (k.mono h.size)
theorem ne_true {a b : Int} (h : ¬ a = b) : (a != b) = true := by simpa using h
theorem ne_false {a b : Int} (h : a = b) : (a != b) = false := by simpa using h
theorem eqb_true {a b : Int} (h : a = b) : (a == b) = true := beq_iff_eq.2 h
theorem eqb_false {a b : Int} (h : ¬ a = b) : (a == b) = false := beq_eq_false_iff_ne.2 h
theorem dec_true {p : Prop} [Decidable p] (h : p) : decide p = true := decide_eq_true h
theorem dec_false {p : Prop} [Decidable p] (h : ¬ p) : decide p = false := decide_eq_false h
end Go.Proofs.YtckdecodpjfcnaaDoor
namespace Go.Proofs.YtckdecodpjfcnaaDoor
open Go.RowKit

theorem still_of_quiet {P : Program} {o : Oper} {a : Act} {w : World} {K : Act → Prop} (h : o.quiet P a (fun W => W = w) K) : o.still P a w K := by
  obtain ⟨v, h1, h2⟩ := h
  have h3 := h1 w rfl
  unfold Oper.quietAt at h3
  unfold Oper.still
  generalize (execOp a.eval o).run P w = r at *
  cases r with
  | ok n w' =>
    cases n <;> simp only [Oper.quietUpon] at h3 <;> simp only [Oper.stillUpon]
    case value u =>
      obtain ⟨e1, e2⟩ := h3
      rw [e2]
      exact ⟨e1, h2⟩
    case skip =>
      obtain ⟨e1, e2⟩ := h3
      rw [← e2]
      exact ⟨e1, h2⟩
    case enter f args =>
      obtain ⟨e1, hc⟩ := h3
      exact ⟨e1, v, hc, h2⟩
  | halt x w' => simp only [Oper.quietUpon] at h3

theorem wpStill_of_quiet {P : Program} {ops : Array Oper} {w : World} {Q : Act → Prop} : ∀ (l : List Oper) (a : Act), wpQuiet P ops (fun W => W = w) Q l a → wpStill P ops w Q l a
  | [], _, h => h
  | o :: rest, a, h => by
    unfold wpQuiet at h
    unfold wpStill
    split
    · rename_i hw
      rw [if_pos hw] at h
      exact Oper.still_mono (fun a' h' => wpStill_of_quiet rest a' h') (still_of_quiet h)
    · rename_i hw
      rw [if_neg hw] at h
      exact wpStill_of_quiet rest _ h

theorem wp_region_qtail {P : Program} {id : Nat} {Q : Exit → Act → World → Prop} {a : Act} {w : World} {l : List Oper} (n : Nat) (hm : P.follows .mixedOrders = true) (hB : Region.lexTailB .any l.toArray n = true)
    (h : wpQuiet P l.toArray (fun W => W = w.drew) (fun a' => wpList P l.toArray Q (l.drop n) a' w.drew) (l.take n) a) : (Code.region id l.toArray true).wp P Q a w :=
  wp_region_still_tail n hm hB (wpStill_of_quiet _ _ h)
end Go.Proofs.YtckdecodpjfcnaaDoor
namespace Go.Proofs.YtckdecodpjfcnaaDoor
open Go.RowKit

/-- The worlds that are as w was below block B. -/
def BW (B : Nat) (w : World) : Type := { W : World // Below B w W }
instance nonempty_BW (B : Nat) (w : World) : Nonempty (BW B w) := ⟨⟨w, Below.refl _ _⟩⟩
theorem wp_region_bq {P : Program} {id : Nat} {Q : Exit → Act → World → Prop} {a : Act} {w : World} {l : List Oper} (B : Nat) (hm : P.follows .mixedOrders = true) (hB : Region.lexB .any l.toArray = true)
    (h : wpQuiet P l.toArray (fun W => ∃ n : BW B w, W = n.1) (fun a' => ∀ W, (∃ n : BW B w, W = n.1) → Q .normal a' W) l a) : (Code.region id l.toArray true).wp P Q a w :=
  wp_region_quiet (C := fun W => ∃ n : BW B w, W = n.1) hm hB ⟨⟨w.drew, (Below.refl _ _).drew⟩, rfl⟩ (by simpa using h)
theorem bw_call {P : Program} {f : FuncId} {args : Array Value} {B : Nat} {w : World} (hB : B ≤ w.heap.size) {n : BW B w} {v : Value} (h : Calls P f args n.1 fun e w' => e = .returned v ∧ Below n.1.heap.size n.1 w') :
    Calls P f args n.1 fun e w'' => e = .returned v ∧ ∃ m : BW B w, w'' = m.1 :=
  h.mono fun _ w' ⟨he, hb⟩ => ⟨he, ⟨w', n.2.trans (hb.mono (Nat.le_trans hB n.2.size))⟩, rfl⟩
theorem bw_same {P : Program} {f : FuncId} {args : Array Value} {B : Nat} {w : World} {n : BW B w} {v : Value} (h : Calls P f args n.1 fun e w' => e = .returned v ∧ n.1 = w') :
    Calls P f args n.1 fun e w'' => e = .returned v ∧ ∃ m : BW B w, w'' = m.1 :=
  h.mono fun _ _ ⟨he, hb⟩ => ⟨he, n, hb.symm⟩
theorem bw_cell {B : Nat} {w : World} {b o : Nat} {v : Value} (h : w.cell? ⟨b, o, none⟩ = some v) (hb : b < B) (n : BW B w) : n.1.cell? ⟨b, o, none⟩ = some v := (n.2.cell (p := ⟨b, o, none⟩) hb).trans h
end Go.Proofs.YtckdecodpjfcnaaDoor
