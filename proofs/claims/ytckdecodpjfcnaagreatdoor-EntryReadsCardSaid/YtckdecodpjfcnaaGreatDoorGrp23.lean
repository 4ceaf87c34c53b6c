/-
  Layer 7: the entry's writer.
  The statement RecordTells: its walk.
-/
import Derived.Test.YtckdecodpjfcnaaGreatDoorGrp22
import Derived.Test.YtckdecodpjfcnaaGreatDoorGrp14
import Derived.Test.YtckdecodpjfcnaaGreatDoorGrp21
import Derived.Test.YtckdecodpjfcnaaGreatDoorGrp08
import Derived.Deep.RegionLaw
import Derived.Deep.LoopGhost
import Derived.Deep.DeepCutAuto
import Derived.Deep.CutBlock
set_option linter.unusedVariables false
set_option linter.unusedSimpArgs false
namespace Go.Proofs.YtckdecodpjfcnaaGreatDoor
open Go.RowKit

theorem keepB {w w' : World} {g o : Nat} {v : Value} (h : w.cell? ⟨g, o, none⟩ = some v) (hb : Below w.heap.size w w') : w'.cell? ⟨g, o, none⟩ = some v := (hb.cell (p := ⟨g, o, none⟩) (cell_lt h)).trans h

/-- What a batch's bytes are, or that it has none. -/
def bytesBt (b : Bat) : ByteArray × Int := if mayBt b = true then (bs (encBt b), 0) else (ByteArray.empty, 2)
theorem RcBytes_any (b : Bat) (A1 : Option Addr) (c1 : Nat) (w : World) (hr : Reads w w.heap.size 2 A1 b.rs.length (cellsR b.rs)) (hg : HasET w) :
    Calls Tryz.prog 88 #[(.agg #[.int .i64 b.pid, .int .i64 b.ep, .int .i64 b.seq, .bool b.txn, .slice A1 b.rs.length c1])] w fun e w' => e = .returned (.tuple #[.string (bytesBt b).1, .int .i64 (bytesBt b).2]) ∧ Below w.heap.size w w' := by
  unfold bytesBt
  cases hm : mayBt b
  · exact RcBytes_no b A1 c1 w hr hg hm
  · exact RcBytes_ok b A1 c1 w hr hm
theorem rRcBytes_any (b : Bat) (A1 : Option Addr) (c1 : Nat) (w : World) (hr : Reads w w.heap.size 2 A1 b.rs.length (cellsR b.rs)) :
    Calls Tryz.prog 31 #[(.agg #[.int .i64 b.pid, .int .i64 b.ep, .int .i64 b.seq, .bool b.txn, .slice A1 b.rs.length c1])] w fun e w' => e = .returned (.tuple #[.string (bytesBt b).1, .int .i64 (bytesBt b).2]) ∧ Below w.heap.size w w' := by
  unfold bytesBt
  cases hm : mayBt b
  · exact rRcBytes_no b A1 c1 w hr hm
  · exact rRcBytes_ok b A1 c1 w hr hm

/-- A batch's records in memory, however many. -/
def BtRaw (w : World) (b : Bat) (A : Option Addr) : Prop :=
  Reads w w.heap.size 2 A b.rs.length (cellsR b.rs) ∧ b.rs.length ≤ 9223372036854775807 ∧ ∀ r ∈ b.rs, r.1.size ≤ 9223372036854775807 ∧ r.2.size ≤ 9223372036854775807

end Go.Proofs.YtckdecodpjfcnaaGreatDoor
namespace Go.Proofs.YtckdecodpjfcnaaGreatDoor
open Go.RowKit
attribute [local go_sem ↓] Go.wp_at_zero Go.wp_at_succ
/-- The writer: what is written; no error; blocks that stay as they are. -/
def WeSt (g K : Nat) (F : Nat → Prop) (l : List UInt8) (W : World) : Prop :=
  ∃ A c, Blk W g 63 #[.slice A l.length c, .int .i64 0] ∧ W.ownsRow K 5 1 (.slice A l.length c) l.length (cellsB l) ∧ K ≤ W.heap.size ∧ (∀ x, (Value.slice A l.length c).ownBlock = some x → ¬ F x) ∧ ¬ F g ∧ (∀ x, F x → x < W.heap.size)
section
variable {g K : Nat} {F F' : Nat → Prop} {l : List UInt8} {w w' : World}
theorem WeSt.below (h : WeSt g K F l w) (hb : Below w.heap.size w w') : WeSt g K F l w' := by
  obtain ⟨A, c, h1, h2, h3, h5, h6, h7⟩ := h
  exact ⟨A, c, h1.below hb h1.lt, own_below h2 hb, Nat.le_trans h3 hb.size, h5, h6, fun x hx => Nat.lt_of_lt_of_le (h7 x hx) hb.size⟩
theorem WeSt.lt (h : WeSt g K F l w) : g < w.heap.size := by
  obtain ⟨A, c, h1, _⟩ := h
  exact h1.lt
/-- A new block stays too. -/
theorem WeSt.add (h : WeSt g K F l w) (o : Obj) : WeSt g K (fun x => F x ∨ x = w.heap.size) l (w.alloc o) := by
  obtain ⟨A, c, h1, h2, h3, h5, h6, h7⟩ := h
  refine ⟨A, c, h1.alloc o, h2.alloc o, by simp; omega, ?_, ?_, ?_⟩
  · rintro x hx (hf | rfl)
    · exact h5 x hx hf
    · exact absurd (h2.lt _ hx).2 (Nat.lt_irrefl _)
  · rintro (hf | rfl)
    · exact h6 hf
    · exact absurd h1.lt (Nat.lt_irrefl _)
  · rintro x (hf | rfl)
    · have := h7 x hf; simp; omega
    · simp
theorem WeSt.sub (h : WeSt g K F l w) (hF : ∀ x, F' x → F x) : WeSt g K F' l w := by
  obtain ⟨A, c, h1, h2, h3, h5, h6, h7⟩ := h
  exact ⟨A, c, h1, h2, h3, fun x hx hf => h5 x hx (hF x hf), fun hf => h6 (hF g hf), fun x hf => h7 x (hF x hf)⟩
end
def WeOk (g K : Nat) (F : Nat → Prop) (l : List UInt8) (w : World) (e : Ending) (w' : World) : Prop := e = .returned (.tuple #[]) ∧ WeSt g K F l w' ∧ Only (fun x => ¬ F x) w w'
theorem WeOk.alloc {g K : Nat} {F : Nat → Prop} {l : List UInt8} {w w' : World} {e : Ending} {o : Obj} (h : WeOk g K (fun x => F x ∨ x = w.heap.size) l (w.alloc o) e w') : WeOk g K F l w e w' :=
  ⟨h.1, h.2.1.sub (fun x hx => .inl hx), ((Only.refl (fun x => ¬ F x) w).alloc o).step h.2.2 (fun x _ hs hf => hs (.inl hf))⟩
theorem WeOk.trans {g K : Nat} {F : Nat → Prop} {l l' : List UInt8} {w w1 w2 : World} {e e' : Ending} (h : WeOk g K F l w e w1) (k : WeOk g K F l' w1 e' w2) : WeOk g K F l' w e' w2 :=
  ⟨k.1, k.2.1, h.2.2.trans k.2.2⟩
theorem enc_len3x (n : Nat) (h : n < 2097152) : (enc n).length ≤ 3 := by
  have h1 : enc n = encF 2 n := encF_more 2 8 n (by have : (128 : Nat) ^ (2 + 1) = 2097152 := by decide
                                                    rw [this]; omega) (by omega)
  rw [h1]; exact (encF_len 2 n).2
/-- What a call that hands back new bytes leaves, stored into the writer. -/
theorem WeSt.put {g K : Nat} {F : Nat → Prop} {l L : List UInt8} {w w1 : World} {A1 : Option Addr} {c1 : Nat} (h : WeSt g K F l w) (o1 : w1.ownsRow w.heap.size 5 1 (.slice A1 L.length c1) L.length (cellsB L)) (b1 : Below w.heap.size w w1) :
    WeSt g K F L ((w1.setCell ⟨g, 0, none⟩ (.slice A1 L.length c1)).setCell ⟨g, 1, none⟩ (.int .i64 0)) ∧ Only (fun x => ¬ F x) w ((w1.setCell ⟨g, 0, none⟩ (.slice A1 L.length c1)).setCell ⟨g, 1, none⟩ (.int .i64 0)) := by
  obtain ⟨A, c, h1, h2, h3, h5, h6, h7⟩ := h
  have oo : Only (fun x => ¬ F x) w ((w1.setCell ⟨g, 0, none⟩ (.slice A1 L.length c1)).setCell ⟨g, 1, none⟩ (.int .i64 0)) := (((Only.of_below _ b1).set (.inl h6) _).set (.inl h6) _)
  have hs := oo.size
  refine ⟨⟨A1, c1, ((h1.below b1 h1.lt).set_ 0 _).set_ 1 _, own_base (own_set (own_set o1 h1.lt _) h1.lt _) h3, by omega, fun x hx hf => ?_, h6, fun x hx => by have := h7 x hx; omega⟩, oo⟩
  have := (o1.lt x hx).1
  have := h7 x hf
  omega
theorem WeSt.put1 {g K : Nat} {F : Nat → Prop} {l L : List UInt8} {w w1 : World} {A1 : Option Addr} {c1 : Nat} (h : WeSt g K F l w) (o1 : w1.ownsRow w.heap.size 5 1 (.slice A1 L.length c1) L.length (cellsB L)) (b1 : Below w.heap.size w w1) :
    WeSt g K F L (w1.setCell ⟨g, 0, none⟩ (.slice A1 L.length c1)) ∧ Only (fun x => ¬ F x) w (w1.setCell ⟨g, 0, none⟩ (.slice A1 L.length c1)) := by
  obtain ⟨A, c, h1, h2, h3, h5, h6, h7⟩ := h
  have oo : Only (fun x => ¬ F x) w (w1.setCell ⟨g, 0, none⟩ (.slice A1 L.length c1)) := (Only.of_below _ b1).set (.inl h6) _
  have hs := oo.size
  refine ⟨⟨A1, c1, (h1.below b1 h1.lt).set_ 0 _, own_base (own_set o1 h1.lt _) h3, by omega, fun x hx hf => ?_, h6, fun x hx => by have := h7 x hx; omega⟩, oo⟩
  have := (o1.lt x hx).1
  have := h7 x hf
  omega

set_option maxRecDepth 100000 in
set_option maxHeartbeats 2000000 in
theorem wenums_any (g K : Nat) (F : Nat → Prop) (l : List UInt8) (b : Nat) (ns : List Int) (c : Nat) (w : World) (h : WeSt g K F l w) (hb : F b) (hc : ∀ j z, ns[j]? = some z → w.cell? ⟨b, j, none⟩ = some (.int .i64 z)) (hn : ∀ z ∈ ns, 0 ≤ z ∧ z ≤ 1048577) (hl : l.length + 3 * ns.length ≤ 20000) :
    Calls Tryz.prog 89 #[.pointer (some ⟨g, 0, none⟩), .slice (some ⟨b, 0, none⟩) ns.length c] w (WeOk g K F (l ++ ns.flatMap fun z => enc z.toNat) w) := by
  have HC := Lib.hid hc
  have HN := Lib.hid hn
  have HB := Lib.hid hb
  have HH := Lib.hid h
  have hlen : ∀ k, (l ++ (ns.take k).flatMap fun z => enc z.toNat).length ≤ l.length + 3 * ns.length := fun k => by
    rw [List.length_append]
    have : ∀ (m : List Int), (∀ z ∈ m, 0 ≤ z ∧ z ≤ 1048577) → (m.flatMap fun z => enc z.toNat).length ≤ 3 * m.length := by
      intro m
      induction m with
      | nil => intro _; exact Nat.le_refl _
      | cons z m ih =>
        intro hm
        rw [List.flatMap_cons, List.length_append, List.length_cons]
        have h1 := enc_len3x z.toNat (by have := hm z (List.mem_cons_self ..); omega)
        have h2 := ih fun y hy => hm y (List.mem_cons_of_mem _ hy)
        omega
    have := this (ns.take k) (fun z hz => hn z (List.mem_of_mem_take hz))
    have h2 : (ns.take k).length ≤ ns.length := by rw [List.length_take]; omega
    omega
  have HLEN := Lib.hid hlen
  clear h hc hn hb hlen
  go_enter Tryz.func89, Tryz.ntmps89
  go_wp2_with fail
  go_loopw [8] (fun x wr => ∃ k : Nat, k ≤ ns.length ∧ x = .int .i64 k ∧ WeSt g K F (l ++ (ns.take k).flatMap fun z => enc z.toNat) wr ∧ Only (fun x => ¬ F x) w wr) (fun x _ => ns.length - (intOf x).toNat)
  case atStart => exact ⟨0, Nat.zero_le _, rfl, by simpa using HH.out, Only.refl _ _⟩
  case round =>
    obtain ⟨k, hk, rfl, hst, hon⟩ := hrel
    have HST := Lib.hid hst
    have HON := Lib.hid hon
    by_cases hlt : k < ns.length
    · have d1 : decide ((k : Int) < (ns.length : Int)) = true := by simp; omega
      have i1 : (0 : Int) ≤ (k : Int) := by omega
      have i2 : (k : Int) < (ns.length : Int) := by omega
      obtain ⟨z, hz⟩ : ∃ z, ns[k]? = some z := ⟨_, List.getElem?_eq_getElem hlt⟩
      have hzr := HN.out z (List.mem_of_getElem? hz)
      have hcell := HC.out k z hz
      have hblt : b < w.heap.size := by
        obtain ⟨_, _, _, _, _, _, _, h7⟩ := HH.out
        exact h7 b HB.out
      have y0 : wr.cell? ⟨b, k, none⟩ = some (.int .i64 z) := (hon.cell (p := ⟨b, k, none⟩) hblt (fun hf => hf HB.out)).trans hcell
      obtain ⟨A, cc, k1, o1, hK, _, _, _⟩ := hst
      have x0 := k1.cell 0
      have x1 := k1.cell 1
      obtain ⟨m, rfl⟩ := Int.eq_ofNat_of_zero_le hzr.1
      have hle := HLEN.out k
      have HTK := Lib.hid (show (ns.take (k + 1)).flatMap (fun z => enc z.toNat) = (ns.take k).flatMap (fun z => enc z.toNat) ++ enc m by rw [List.take_add_one, hz]; simp)
      generalize hL : l ++ (ns.take k).flatMap (fun z => enc z.toNat) = L at *
      have nm := Number_own A L cc m wr ((Reads.of_own o1).more (Nat.le_refl _)) (by omega) (by unfold maxNum; omega)
      obtain ⟨LZ, hLZ⟩ : ∃ LZ, LZ = L ++ enc m := ⟨_, rfl⟩
      rw [← hLZ] at nm
      have NM := Lib.hid nm
      have HLZ := Lib.hid hLZ
      clear nm hLZ
      have f0 := k1.frozen 0
      have HLL := Lib.hid hL
      have K1 := Lib.hid k1
      clear hcell hz hon k1 o1 hK hL hblt
      go_wp2_with (go_at_call 109; refine NM.out.mono ?_; rintro e w1 ⟨A1, c1, rfl, ow, hcc, b1⟩; have k2 := K1.out.below b1 K1.out.lt; have u0 := k2.cell 0; have u1 := k2.cell 1; have v0 := k2.frozen 0; have v1 := k2.frozen 1)
      obtain ⟨s1, s2⟩ := HST.out.put ow b1
      go_roundw
      case rel => exact ⟨k + 1, by omega, by go_num, by rw [HTK.out, ← List.append_assoc, HLL.out, ← HLZ.out]; exact s1, HON.out.trans s2⟩
      case measure => simp [intOf]; omega
    · obtain rfl : k = ns.length := by omega
      have d1 : decide ((ns.length : Int) < (ns.length : Int)) = false := by simp
      clear hst hon
      go_wp2_with fail
      go_end0
      have h1 := HST.out
      rw [List.take_length] at h1
      exact ⟨rfl, h1, HON.out⟩
set_option maxRecDepth 100000 in
set_option maxHeartbeats 2000000 in
theorem wetext_any (g K : Nat) (F : Nat → Prop) (l : List UInt8) (t : ByteArray) (w : World) (h : WeSt g K F l w) (hl : l.length ≤ 20000) (ht : t.size ≤ 16) :
    Calls Tryz.prog 91 #[.pointer (some ⟨g, 0, none⟩), .string t] w (WeOk g K F (l ++ (cTxt 1024).e (lb t)) w) := by
  have HH := Lib.hid h
  obtain ⟨A, c, k1, o1, h3, h5, h6, h7⟩ := h
  have x0 := k1.cell 0
  have x1 := k1.cell 1
  have NM := Lib.hid (Text_ok A l c t w ((Reads.of_own o1).more (Nat.le_refl _)) (by omega) (by omega))
  generalize l ++ (cTxt 1024).e (lb t) = L at *
  have K1 := Lib.hid k1
  clear k1 o1 h3 h5 h6 h7
  go_enter Tryz.func91, Tryz.ntmps91
  go_wp2_with (go_at_call 111; refine NM.out.mono ?_; rintro e w1 ⟨A1, c1, rfl, ow, hcc, b1⟩; have k2 := K1.out.below b1 K1.out.lt; have u0 := k2.cell 0; have u1 := k2.cell 1; have v0 := k2.frozen 0; have v1 := k2.frozen 1)
  go_end0
  obtain ⟨s1, s2⟩ := HH.out.put ow b1
  exact ⟨rfl, s1, s2⟩
end Go.Proofs.YtckdecodpjfcnaaGreatDoor
