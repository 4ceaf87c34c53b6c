/-
  A batch, read field by field, plainly. No program in sight.
-/
import Derived.Test.YtcockikekgmfkaaDoorRdF
import Derived.Test.YtcockikekgmfkaaDoorRcP
namespace Go.Proofs.YtcockikekgmfkaaDoor
open Go.RowKit

def rdRec : Rdr Rec := fun l i b => ((bs (rdTxt l i b 16).1, bs (rdTxt l (rdTxt l i b 16).2.1 (rdTxt l i b 16).2.2 16).1), (rdTxt l (rdTxt l i b 16).2.1 (rdTxt l i b 16).2.2 16).2)
theorem fol_rec : Fol rdRec cRec id := by
  have h := ((fol_txt 16).bind (k := fun x => rdMap (fun l i b => rdTxt l i b 16) (fun y => (x, y))) (d := fun _ => cTxt 16) (g := fun x y => (x, y)) (fun y => (fol_txt 16).map (fun z => (y, z))) (fun _ l i => (fol_txt 16).stop l i) (fun _ l i b hi => (fol_txt 16).le l i b hi))
  have h2 := (h.map (fun z => ((bs z.1, bs z.2) : Rec))).iso (fun z => (bs z.1, bs z.2)) (fun r : Rec => (lb r.1, lb r.2)) (fun _ => True) (fun y => by simp [bs_lb]) (fun x => by simp [lb_bs]) (fun _ => trivial)
  exact h2.congr (fun _ _ _ => rfl) (fun y => by simp only [id, bs_lb])

def rdRecs (n : Int) : Rdr (List Rec) := rdRep rdRec n.toNat
def rdBatRaw : Rdr Bat :=
  rdBind (fun l i b => rdNum l i b 1 8) fun pid => rdBind (fun l i b => rdNum l i b 0 100) fun ep => rdBind (fun l i b => rdNum l i b 0 1048576) fun sq =>
    rdBind rdFlag fun t => rdBind (fun l i b => rdNum l i b 1 4) fun n => rdMap (rdRecs n) fun rs => ⟨pid, ep, sq, t, rs⟩
theorem rdRecs_stop (n : Int) (l : List UInt8) (i : Nat) : (rdRecs n l i true).2.2 = true := rdRep_stop fol_rec.stop _ l i
theorem rdRecs_le (n : Int) (l : List UInt8) (i : Nat) (b : Bool) (h : i ≤ l.length) : (rdRecs n l i b).2.1 ≤ l.length := rdRep_le fol_rec.le _ l i b h
theorem fol_raw : Fol rdBatRaw cBatRaw batOf := by
  have s1 : ∀ (pid ep sq : Int) (t : Bool) (n : Int) l i, (rdMap (rdRecs n) (fun rs => (⟨pid, ep, sq, t, rs⟩ : Bat)) l i true).2.2 = true := fun _ _ _ _ n l i => rdRecs_stop n l i
  have e1 : ∀ (pid ep sq : Int) (t : Bool) (n : Int) l i b, i ≤ l.length → (rdMap (rdRecs n) (fun rs => (⟨pid, ep, sq, t, rs⟩ : Bat)) l i b).2.1 ≤ l.length := fun _ _ _ _ n l i b h => rdRecs_le n l i b h
  have f1 : ∀ (pid ep sq : Int) (t : Bool), Fol (rdBind (fun l i b => rdNum l i b 1 4) fun n => rdMap (rdRecs n) fun rs => (⟨pid, ep, sq, t, rs⟩ : Bat)) ((cNum 1 4).bind fun n => cRec.rep n) (fun z => (⟨pid, ep, sq, t, z.2⟩ : Bat)) := by
    intro pid ep sq t
    refine (fol_num 1 4).bind (g := fun _ rs => (⟨pid, ep, sq, t, rs⟩ : Bat)) (fun n => ?_) (s1 pid ep sq t) (e1 pid ep sq t)
    have := (fol_rec.rep n).map (fun rs => (⟨pid, ep, sq, t, rs⟩ : Bat))
    simp only [List.map_id] at this
    show Fol (rdMap (rdRep rdRec (Int.toNat (n : Int))) _) _ _
    rw [Int.toNat_natCast]
    exact this
  have f2 : ∀ (pid ep sq : Int), Fol (rdBind rdFlag fun t => rdBind (fun l i b => rdNum l i b 1 4) fun n => rdMap (rdRecs n) fun rs => (⟨pid, ep, sq, t, rs⟩ : Bat)) (cFlag.bind fun _ => (cNum 1 4).bind fun n => cRec.rep n) (fun z => (⟨pid, ep, sq, z.1, z.2.2⟩ : Bat)) := fun pid ep sq =>
    fol_flag.bind (g := fun t (z : Nat × List Rec) => (⟨pid, ep, sq, t, z.2⟩ : Bat)) (fun t => f1 pid ep sq t) (fun t => (f1 pid ep sq t).stop) (fun t => (f1 pid ep sq t).le)
  have f3 : ∀ (pid ep : Int), Fol (rdBind (fun l i b => rdNum l i b 0 1048576) fun sq => rdBind rdFlag fun t => rdBind (fun l i b => rdNum l i b 1 4) fun n => rdMap (rdRecs n) fun rs => (⟨pid, ep, sq, t, rs⟩ : Bat)) ((cNum 0 1048576).bind fun _ => cFlag.bind fun _ => (cNum 1 4).bind fun n => cRec.rep n) (fun z => (⟨pid, ep, z.1, z.2.1, z.2.2.2⟩ : Bat)) := fun pid ep =>
    (fol_num 0 1048576).bind (g := fun (sq : Nat) (z : Bool × Nat × List Rec) => (⟨pid, ep, sq, z.1, z.2.2⟩ : Bat)) (fun sq => f2 pid ep sq) (fun sq => (f2 pid ep sq).stop) (fun sq => (f2 pid ep sq).le)
  have f4 : ∀ (pid : Int), Fol (rdBind (fun l i b => rdNum l i b 0 100) fun ep => rdBind (fun l i b => rdNum l i b 0 1048576) fun sq => rdBind rdFlag fun t => rdBind (fun l i b => rdNum l i b 1 4) fun n => rdMap (rdRecs n) fun rs => (⟨pid, ep, sq, t, rs⟩ : Bat)) ((cNum 0 100).bind fun _ => (cNum 0 1048576).bind fun _ => cFlag.bind fun _ => (cNum 1 4).bind fun n => cRec.rep n) (fun z => (⟨pid, z.1, z.2.1, z.2.2.1, z.2.2.2.2⟩ : Bat)) := fun pid =>
    (fol_num 0 100).bind (g := fun (ep : Nat) (z : Nat × Bool × Nat × List Rec) => (⟨pid, ep, z.1, z.2.1, z.2.2.2⟩ : Bat)) (fun ep => f3 pid ep) (fun ep => (f3 pid ep).stop) (fun ep => (f3 pid ep).le)
  exact (fol_num 1 8).bind (g := fun (pid : Nat) (z : Nat × Nat × Bool × Nat × List Rec) => (⟨pid, z.1, z.2.1, z.2.2.1, z.2.2.2.2⟩ : Bat)) (fun pid => f4 pid) (fun pid => (f4 pid).stop) (fun pid => (f4 pid).le)

/-- A batch that may be, or the reader is stopped. -/
def rdBat : Rdr Bat := fun l i b => if (rdBatRaw l i b).2.2 = true ∨ mayBt (rdBatRaw l i b).1 = false then (Bat0, (rdBatRaw l i b).2.1, true) else rdBatRaw l i b
theorem fol_bat : Fol rdBat cBat id where
  stop l i := by unfold rdBat; rw [if_pos (.inl (fol_raw.stop l i))]
  le l i b hi := by
    have := fol_raw.le l i b hi
    unfold rdBat
    split
    · exact this
    · exact this
  ok l i y r hi hp := by
    have e : cBat.p (l.drop i) = match cBatRaw.p (l.drop i) with
      | some (z, r) => if mayBt (batOf z) = true then some (batOf z, r) else none
      | none => none := rfl
    rw [e] at hp
    split at hp
    · rename_i z r' hz
      split at hp
      · rename_i hm
        injection hp with hp
        injection hp with h1 h2
        subst h1; subst h2
        obtain ⟨j, hj, e1, e2⟩ := fol_raw.ok l i z r' hi hz
        refine ⟨j, hj, ?_, e2⟩
        unfold rdBat
        rw [e1, if_neg (by simp [hm])]
        rfl
      · cases hp
    · cases hp
  no l i hi hp := by
    have e : cBat.p (l.drop i) = match cBatRaw.p (l.drop i) with
      | some (z, r) => if mayBt (batOf z) = true then some (batOf z, r) else none
      | none => none := rfl
    rw [e] at hp
    unfold rdBat
    split at hp
    · rename_i z r' hz
      split at hp
      · cases hp
      · rename_i hm
        obtain ⟨j, hj, e1, e2⟩ := fol_raw.ok l i z r' hi hz
        rw [if_pos (.inr (by rw [e1]; simpa using hm))]
    · rename_i hz
      rw [if_pos (.inl (fol_raw.no l i hi hz))]
theorem rdBat_may {l : List UInt8} {i : Nat} {b : Bool} (h : (rdBat l i b).2.2 = false) : mayBt (rdBat l i b).1 = true := by
  unfold rdBat at *
  split at h
  · cases h
  · rename_i hh
    rw [if_neg hh]
    cases hm : mayBt (rdBatRaw l i b).1
    · exact absurd (.inr hm) hh
    · rfl
theorem rdBat_rs (l : List UInt8) (i : Nat) (b : Bool) : (rdBat l i b).1.rs.length ≤ 4 := by
  cases h : (rdBat l i b).2.2
  · have := ((mayBt_iff _).1 (rdBat_may h)).1
    omega
  · unfold rdBat at *
    split
    · exact Nat.zero_le _
    · rename_i hh
      rw [if_neg hh] at h
      exact absurd (.inl h) hh

/-- Bytes as a batch, or ErrCode. -/
def readBt (l : List UInt8) : Bat × Int := if (rdBat l 0 false).2.2 = true ∨ (rdBat l 0 false).2.1 ≠ l.length then (Bat0, 70) else ((rdBat l 0 false).1, 0)
theorem readBt_ok {b : Bat} (h : mayBt b = true) : readBt (encBt b) = (b, 0) := by
  have h1 : rdBat (encBt b) 0 false = (b, (encBt b).length, false) := fol_bat.all.2 ⟨b, h, rfl, rfl⟩
  unfold readBt
  rw [h1, if_neg (by simp)]
theorem readBt_only {l : List UInt8} (h : (readBt l).2 = 0) : mayBt (readBt l).1 = true ∧ l = encBt (readBt l).1 := by
  unfold readBt at *
  split at h
  · cases h
  · rename_i hh
    rw [if_neg hh]
    have h1 : (rdBat l 0 false).2.2 = false := by
      cases hb : (rdBat l 0 false).2.2
      · rfl
      · exact absurd (.inl hb) hh
    have h2 : (rdBat l 0 false).2.1 = l.length := Classical.byContradiction fun hn => hh (.inr hn)
    have h3 : rdBat l 0 false = ((rdBat l 0 false).1, l.length, false) := Prod.ext rfl (Prod.ext h2 h1)
    obtain ⟨y, hv, he, hy⟩ := fol_bat.all.1 h3
    simp only [id] at hy
    rw [hy] at he hv
    exact ⟨hv, he⟩
theorem readBt_code (l : List UInt8) : (readBt l).2 = 0 ∨ readBt l = (Bat0, 70) := by
  unfold readBt
  split
  · exact .inr rfl
  · exact .inl rfl
/-- No beginning of a batch's bytes, and nothing longer, is a batch. -/
theorem readBt_other {b : Bat} {l t : List UInt8} (h : mayBt b = true) (hl : l ++ t = encBt b ∨ encBt b ++ t = l) (ht : t ≠ []) : readBt l = (Bat0, 70) := by
  rcases readBt_code l with h0 | h0
  · exfalso
    obtain ⟨h1, h2⟩ := readBt_only h0
    rcases hl with hl | hl
    · rw [h2] at hl
      have := cBat.inj (x := (readBt l).1) (y := b) (r := t) (s := []) h1 h (by rw [List.append_nil]; exact hl)
      exact ht this.2
    · rw [h2] at hl
      have := cBat.inj (x := b) (y := (readBt l).1) (r := t) (s := []) h h1 (by rw [List.append_nil]; exact hl)
      exact ht this.2
  · exact h0
theorem readBt_rs (l : List UInt8) : (readBt l).1.rs.length ≤ 4 := by
  unfold readBt
  split
  · exact Nat.zero_le _
  · exact rdBat_rs _ _ _
end Go.Proofs.YtcockikekgmfkaaDoor
