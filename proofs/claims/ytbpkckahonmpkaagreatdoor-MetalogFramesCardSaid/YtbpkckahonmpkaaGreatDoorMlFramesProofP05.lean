/-
  What errors.As leaves behind; the library's own variable.
  Package varint's Len, put, Put: what each call gives.
  Package varint's Put: what it gives.
  Package varint's place.next: what it gives.
  Package varint's Get: what it gives.
  The document's answers of layer 1 (rovingref01): what Put, Len give.
  The document's answer of layer 1, Get: what it gives.
  Layer 2, writing: numbers, texts, flags behind bytes; of the program and of the document.
  Layer 2, writing: flags; how long a text is.
  A world that is as another one was but for some blocks that were there.
-/
import Derived.Test.YtbpkckahonmpkaaGreatDoorMlFramesProofP04
import Derived.Laws.CopyRow
import Derived.Laws.CopyOwn
import Derived.Lib.AppendStr
import Derived.Lib.AppendZeros
import Derived.LoopN
import Derived.Outline
set_option linter.unusedVariables false
set_option linter.unusedSimpArgs false
namespace Go.Proofs.YtbpkckahonmpkaaGreatDoor
open Go.RowKit

set_option maxHeartbeats 400000 in
theorem len_ok (n : Nat) (w : World) (h : n ≤ maxNum) :
    Calls Tryz.prog 139 #[.int .i64 n] w fun e w' => e = .returned (.int .i64 (encLen n : Nat)) ∧ w = w' := by
  have h' : n ≤ 1099511627776 := h
  have hd : decide ((n : Int) < 0) = false := by simp
  have hd2 : decide ((1099511627776 : Int) < (n : Int)) = false := by simp; omega
  go_enter Tryz.func139, Tryz.ntmps139
  go_wp2
  go_loop [0, 3] (fun x i => ∃ m k : Nat, m ≤ 1099511627776 ∧ k ≤ 10 ∧ x = .int .i64 m ∧ i = .int .i64 k ∧ encLen n + 1 = k + encLen m) (fun x _ => (intOf x).toNat)
  case atStart => exact ⟨n, 1, h', by omega, rfl, rfl, by omega⟩
  case round =>
    obtain ⟨m, k, hm, hk, rfl, rfl, he⟩ := hrel
    have hle := encLen_le n h
    have HE := Lib.hid he
    clear he
    by_cases hb : 127 < m
    · have hbig := encLen_big m (by omega) hm
      have hk2 : k + 1 ≤ 10 := by
        have h1 := HE.out
        have h2 := encLen_pos (m / 128)
        omega
      have HB := Lib.hid hbig
      clear hbig
      have hd3 : decide ((127 : Int) < (m : Int)) = true := by simp; omega
      go_wp2
      go_round
      case rel => exact ⟨m / 128, k + 1, by omega, hk2, by go_num, by go_num, by have := HE.out; have := HB.out; omega⟩
      case measure => simp [intOf]; omega
    · have hs := encLen_small m (by omega)
      have hkk : encLen n = k := by have := HE.out; omega
      have HK := Lib.hid hkk
      have hd3 : decide ((127 : Int) < (m : Int)) = false := by simp; omega
      clear hs hkk
      go_wp2
      go_ret
      exact ⟨by rw [HK.out]; rfl, rfl⟩

theorem infoByte : (Tryz.prog.info? 5).map (fun i => (i.zero, i.size, i.bytes)) = some (some (.int .u8 0), 1, 1) := by kernel_rfl

/-- What put leaves: the bytes behind what was there; nothing but the slice's own block has turned. -/
def PutPost (base : Nat) (v : Value) (l : List UInt8) (n : Nat) (w : World) (e : Ending) (w' : World) : Prop :=
  ∃ v', e = .returned v' ∧ w'.ownsRow base 5 1 v' (l.length + encLen n) (cellsB (l ++ enc n)) ∧ w.grownBy w' v.ownBlock ∧ (v'.ownBlock = v.ownBlock ∨ ∃ g, v'.ownBlock = some g ∧ w.heap.size ≤ g)

theorem bits_put (m : Nat) (h : m ≤ 1099511627776) : bits .or .i64 (bits .and .i64 (m : Int) 127) 128 = ((m % 128 + 128 : Nat) : Int) := by
  rw [and_i64_127 _ (by omega) (by omega), or_i64_128 _ (by omega) (by omega)]; omega

set_option maxRecDepth 100000 in
set_option maxHeartbeats 1000000 in
theorem put_any (base : Nat) (v : Value) (l : List UInt8) (n : Nat) (w : World) (hn : n ≤ maxNum) (hown : w.ownsRow base 5 1 v l.length (cellsB l)) (hl : l.length ≤ 100000) (hbase : base ≤ w.heap.size) :
    Calls Tryz.prog 140 #[v, .int .i64 n] w (PutPost base v l n w) := by
  obtain ⟨i0, hi, hz0, hz1, hz2⟩ := info_parts infoByte
  have hn' : n ≤ 1099511627776 := hn
  obtain ⟨A, c, rfl, hlc⟩ := own_slice hown
  go_enter Tryz.func140, Tryz.ntmps140
  go_wp2
  go_loopw [0, 1] (fun x y wr => ∃ (m : Nat) (done : List UInt8), m ≤ 1099511627776 ∧ y = .int .i64 m ∧ wr.ownsRow base 5 1 x (l.length + done.length) (cellsB (l ++ done)) ∧ enc n = done ++ enc m ∧ w.grownBy wr (Value.slice A l.length c).ownBlock ∧ (x.ownBlock = (Value.slice A l.length c).ownBlock ∨ ∃ g, x.ownBlock = some g ∧ w.heap.size ≤ g)) (fun _ y _ => (intOf y).toNat)
  case atStart => exact ⟨n, [], hn', rfl, by simpa using hown, rfl, World.grownBy.refl _ _, .inl rfl⟩
  case round =>
    obtain ⟨m, done, hm, rfl, hox, hen, hg, hat⟩ := hrel
    have hlen : done.length + encLen m = encLen n := by unfold encLen; rw [hen, List.length_append]
    have hle := encLen_le n hn
    have hpos := encLen_pos m
    have hbp := bits_put m hm
    have HO := Lib.hid hox
    have HE := Lib.hid hen
    have HG := Lib.hid hg
    have HA := Lib.hid hat
    have HL := Lib.hid hlen
    have hdl : done.length ≤ 6 := by omega
    clear hox hen hg hat hlen hown hpos
    by_cases hb : 127 < m
    · have hd3 : decide ((127 : Int) < (m : Int)) = true := by simp; omega
      go_wp2_with (at_builtin; refine wpList_append_any _ rfl _ _ 75 rfl base 5 i0 (.int .u8 0) 1 1 Tryz.underlying75 hi hz0 hz1 hz2 rfl (by decide) _ _ _ rfl (HO.out.alloc _) _ _ 1 1 [.int .u8 _] rfl (reads_new1 _ _ _) (by simp [Value.oneCell']) (by unfold maxLen; omega) (by omega) (by have := HG.out.size; simp; omega) ?_; intro v' w4 hown' hgrow hat')
      go_roundw
      case rel =>
        refine ⟨m / 128, done ++ [UInt8.ofNat (m % 128 + 128)], by omega, by go_num, ?_, ?_, ?_, ?_⟩
        · rw [← List.append_assoc, cellsB_append, cellsB_high, List.length_append, ← Nat.add_assoc]
          exact hown'
        · rw [HE.out, enc_big m (by omega) hm]; simp
        · exact grown_step (only_alloc HG.out _) hgrow (by
            rcases HA.out with h | ⟨g, h, hge⟩
            · exact .inl h
            · exact .inr (.inr ⟨g, h, hge⟩))
        · rcases hat' with h | h
          · rcases HA.out with h2 | h2
            · exact .inl (h.trans h2)
            · obtain ⟨g, h2, hge⟩ := h2
              exact .inr ⟨g, h.trans h2, hge⟩
          · exact .inr ⟨_, h, by have := HG.out.size; simp; omega⟩
      case measure => simp [intOf]; omega
    · have hd3 : decide ((127 : Int) < (m : Int)) = false := by simp; omega
      go_wp2_with (at_builtin; refine wpList_append_any _ rfl _ _ 75 rfl base 5 i0 (.int .u8 0) 1 1 Tryz.underlying75 hi hz0 hz1 hz2 rfl (by decide) _ _ _ rfl (HO.out.alloc _) _ _ 1 1 [.int .u8 _] rfl (reads_new1 _ _ _) (by simp [Value.oneCell']) (by unfold maxLen; omega) (by omega) (by have := HG.out.size; simp; omega) ?_; intro v' w4 hown' hgrow hat')
      go_ret
      refine ⟨v', rfl, ?_, ?_, ?_⟩
      · rw [← HL.out, encLen_small m (by omega), HE.out, enc_small m (by omega), ← List.append_assoc, cellsB_append, cellsB_low m (by omega), ← Nat.add_assoc]
        exact hown'
      · exact grown_step (only_alloc HG.out _) hgrow (by
          rcases HA.out with h | ⟨g, h, hge⟩
          · exact .inl h
          · exact .inr (.inr ⟨g, h, hge⟩))
      · rcases hat' with h | h
        · rcases HA.out with h2 | h2
          · exact .inl (h.trans h2)
          · obtain ⟨g, h2, hge⟩ := h2
            exact .inr ⟨g, h.trans h2, hge⟩
        · exact .inr ⟨_, h, by have := HG.out.size; simp; omega⟩
end Go.Proofs.YtbpkckahonmpkaaGreatDoor
namespace Go.Proofs.YtbpkckahonmpkaaGreatDoor
open Go.RowKit

/-- A slice of bytes beside a code. -/
def BytesPost (l : List UInt8) (code : Int) (w : World) (e : Ending) (w' : World) : Prop :=
  ∃ A c, e = .returned (.tuple #[.slice A l.length c, .int .i64 code]) ∧ Reads w' w'.heap.size 1 A l.length (cellsB l) ∧ l.length ≤ c ∧ Below w.heap.size w w'

/-- The same, of the call's own. -/
def OwnPost (l : List UInt8) (code : Int) (w : World) (e : Ending) (w' : World) : Prop :=
  ∃ A c, e = .returned (.tuple #[.slice A l.length c, .int .i64 code]) ∧ w'.ownsRow w.heap.size 5 1 (.slice A l.length c) l.length (cellsB l) ∧ l.length ≤ c ∧ Below w.heap.size w w'
theorem OwnPost.bytes {l : List UInt8} {code : Int} {w : World} {e : Ending} {w' : World} (h : OwnPost l code w e w') : BytesPost l code w e w' := by
  obtain ⟨A, c, he, ho, hc, hb⟩ := h
  exact ⟨A, c, he, Reads.of_own ho, hc, hb⟩

theorem made_len (n : Nat) : (madeCells (Value.int .u8 0).cells (n * 1)).toList.length = n := by
  simp [madeCells, Value.cells]

theorem sizeByte : (Tryz.prog.info? 5).map (·.size) = some 1 := by kernel_rfl

set_option maxRecDepth 100000 in
set_option maxHeartbeats 400000 in
theorem Put_own (A : Option Addr) (l : List UInt8) (c : Nat) (n : Nat) (w : World) (hr : Reads w w.heap.size 1 A l.length (cellsB l)) (hl : l.length ≤ 90000) (hn : n ≤ maxNum) :
    Calls Tryz.prog 126 #[.slice A l.length c, .int .i64 n] w (OwnPost (l ++ enc n) 0 w) := by
  obtain ⟨i0, hi, hz0, hz1, hz2⟩ := info_parts infoByte
  have hn' : n ≤ 1099511627776 := hn
  have HL := Lib.hid (len_ok n w hn)
  have hle := encLen_le n hn
  have hpos := encLen_pos n
  have hd : (((encLen n : Nat) : Int) == 0) = false := beq_eq_false_iff_ne.2 (by omega)
  have hmk : (Instr.makeSlice 75 (.int .i64 (l.length : Int)) (.int .i64 ((l.length : Int) + (encLen n : Int)))).run Tryz.prog w = .ok (.slice (some ⟨w.heap.size, 0, none⟩) l.length (l.length + encLen n)) (w.alloc (.cells (madeCells (Value.int .u8 0).cells ((l.length + encLen n) * 1)) 5)) := by
    have := run_make_rowN (P := Tryz.prog) 75 5 i0 _ Tryz.underlying75 hi hz0 .i64 .i64 l.length (l.length + encLen n) (by omega) (by rw [hz2]; omega) (by omega) w
    rw [hz1] at this
    exact this
  have hml := made_len (l.length + encLen n)
  generalize hmc : madeCells (Value.int .u8 0).cells ((l.length + encLen n) * 1) = mc at hmk hml
  obtain ⟨mcl⟩ := mc
  have HML := Lib.hid hml
  clear hml
  have hb0 : Below w.heap.size w (w.alloc (.cells ⟨mcl⟩ 5)) := (Below.refl _ _).alloc (Nat.le_refl _) _
  have hraw := hr.alloc (Nat.le_refl _) (.cells ⟨mcl⟩ 5)
  obtain ⟨W2, hcp, hblk, hg2⟩ := copy_ex (P := Tryz.prog) (sT := 75) 3 Tryz.underlying75 sizeByte (dLen := l.length) (l.length + encLen n) c (heap_alloc_new w (.cells ⟨mcl⟩ 5)) hraw (cellsB_one l) (Nat.le_refl _) (by rw [HML.out]; omega)
  have hown : W2.ownsRow w.heap.size 5 1 (.slice (some ⟨w.heap.size, 0, none⟩) l.length (l.length + encLen n)) l.length (cellsB l) := by
    refine ⟨by rw [length_cellsB]; omega, .inr ⟨w.heap.size, _, _, rfl, Nat.le_refl _, hblk, by omega, by unfold maxLen; omega, ?_, ?_⟩⟩
    · simp [length_cellsB, HML.out]
    · simp [length_cellsB]
  have hb2 : Below w.heap.size w W2 := hb0.grown hg2 (by simp) (fun k e => by cases e; exact Nat.le_refl _)
  have HP := Lib.hid (put_any w.heap.size _ l n W2 hn hown (by omega) hb2.size)
  clear hmc hr hraw hblk hg2 hown hb0
  go_enter Tryz.func126, Tryz.ntmps126
  go_wp2_with (first | (go_at_call 139; refine HL.out.mono ?_; rintro e w1 ⟨rfl, rfl⟩) | (go_at_call 140; refine HP.out.mono ?_; rintro e w3 ⟨v', rfl, ho3, hg3, _⟩; obtain ⟨A3, c3, rfl, hc3⟩ := own_slice ho3))
  go_ret2
  refine ⟨A3, c3, by rw [List.length_append]; rfl, ?_, by rw [List.length_append]; exact hc3, ?_⟩
  · rw [List.length_append]; exact ho3
  · exact hb2.grown hg3 hb2.size (fun k e => by simp [Value.ownBlock] at e; omega)
end Go.Proofs.YtbpkckahonmpkaaGreatDoor
namespace Go.Proofs.YtbpkckahonmpkaaGreatDoor
open Go.RowKit

theorem decF_step (f i acc : Nat) (c : UInt8) (r : List UInt8) (h : 128 ≤ c.toNat) : decF (f + 1) i acc (c :: r) = decF f (i + 1) (acc + c.toNat % 128 * 128 ^ i) r := by
  rw [decF, if_pos h]
theorem decF_stop (f i acc : Nat) (c : UInt8) (r : List UInt8) (h : c.toNat < 128) : decF (f + 1) i acc (c :: r) = if (c.toNat = 0 ∧ 0 < i) ∨ maxNum < acc + c.toNat % 128 * 128 ^ i then none else some (acc + c.toNat % 128 * 128 ^ i, i + 1) := by
  rw [decF, if_neg (by omega)]

/-- The world behind a call that has failed: one error more. -/
def Broken (w : World) (e : Ending) (w' : World) : Prop :=
  ∃ b, e = .returned (.tuple #[.int .i64 0, .iface 212 (.pointer (some ⟨b, 0, none⟩))]) ∧ w'.cell? ⟨b, 1, none⟩ = some (.int .i64 70) ∧ w.heap.size ≤ b ∧ Below w.heap.size w w'
theorem broken_of (w : World) (k : Int) (q : Nat) : Broken w (.returned (.tuple #[.int .i64 0, .iface 212 (.pointer (some ⟨w.heap.size, 0, none⟩))])) ((w.drewN q).alloc (.cells #[.int .i64 k, .int .i64 70] 214)) :=
  ⟨_, rfl, (Blk.new (w.drewN q) 214 #[.int .i64 k, .int .i64 70]).cell 1, Nat.le_refl _, (below_drewN (Below.refl _ _) q).alloc (Nat.le_refl _) _⟩

set_option maxRecDepth 100000 in
set_option maxHeartbeats 1000000 in
theorem next_out (p : Nat) (A : Option Addr) (L : List UInt8) (c : Nat) (k : Int) (w : World) (h0 : w.cell? ⟨p, 0, none⟩ = some (.slice A L.length c)) (h1 : w.cell? ⟨p, 1, none⟩ = some (.int .i64 k)) (hk : k < 0 ∨ (L.length : Int) < k) :
    Calls Tryz.prog 147 #[.pointer (some ⟨p, 0, none⟩)] w (Broken w) := by
  rcases hk with hk | hk
  · have hd : decide (k < 0) = true := by simpa using hk
    go_enter Tryz.func147, Tryz.ntmps147
    go_wp2
    go_quiet (fail)
    go_wp2
    go_region
    go_wp2
    go_ret2
    exact broken_of w k _
  · have hd : decide (k < 0) = false := by simp; omega
    have hd2 : decide ((L.length : Int) < k) = true := by simpa using hk
    go_enter Tryz.func147, Tryz.ntmps147
    go_wp2
    go_quiet (fail)
    go_wp2
    go_region
    go_wp2
    go_ret2
    exact broken_of w k _

/-- What place.next gives at a place within its bytes. -/
def NextPost (p : Nat) (L : List UInt8) (k : Nat) (w : World) (e : Ending) (w' : World) : Prop :=
  match dec (L.drop k) with
  | none => Broken w e w'
  | some (n, m) => e = .returned (.tuple #[.int .i64 (n : Int), .nilIface]) ∧ ∃ q, w' = (w.drewN q).setCell ⟨p, 1, none⟩ (.int .i64 ((k : Int) + ((m : Int))))

set_option maxRecDepth 100000 in
set_option maxHeartbeats 1000000 in
theorem next_in (p : Nat) (A : Option Addr) (L : List UInt8) (c k B : Nat) (w : World) (h0 : w.cell? ⟨p, 0, none⟩ = some (.slice A L.length c)) (h1 : w.cell? ⟨p, 1, none⟩ = some (.int .i64 k)) (hf1 : w.frozen? ⟨p, 1, none⟩ = false) (hk : k ≤ L.length) (hL : L.length ≤ 100000)
    (hr : Reads w B 1 A L.length (cellsB L)) :
    Calls Tryz.prog 147 #[.pointer (some ⟨p, 0, none⟩)] w (NextPost p L k w) := by
  have hd : decide ((k : Int) < 0) = false := by simp
  have hd2 : decide (L.length < k) = false := by simp; omega
  have hmin : (if (L.length : Int) - (k : Int) < 6 then (L.length : Int) - (k : Int) else 6) = ((min (L.length - k) 6 : Nat) : Int) := by
    split <;> omega
  have HMIN := Lib.hid hmin
  clear hmin
  go_enter Tryz.func147, Tryz.ntmps147
  go_wp2
  go_quiet (fail)
  go_wp2
  go_region
  rw [HMIN.out]
  obtain ⟨mx, hmx⟩ : ∃ mx, min (L.length - k) 6 = mx := ⟨_, rfl⟩
  rw [hmx]
  have hmx1 : mx ≤ 6 := by omega
  have hmx2 : k + mx ≤ L.length := by omega
  have hmx3 : mx < 6 → k + mx = L.length := by omega
  have HMX3 := Lib.hid hmx3
  clear hmx HMIN hmx3
  go_wp2_with fail
  go_loopw [4, 42] (fun x y wr => ∃ i acc q : Nat, i ≤ mx ∧ y = .int .i64 i ∧ x = .int .i64 acc ∧ acc < 128 ^ i ∧ wr = w.drewN q ∧ dec (L.drop k) = decF (6 - i) i acc (L.drop (k + i))) (fun _ y _ => mx - (intOf y).toNat)
  case atStart => exact ⟨0, 0, _, Nat.zero_le _, rfl, rfl, by decide, rfl, rfl⟩
  case round =>
    obtain ⟨i, acc, q, hi, rfl, rfl, hacc, rfl, hdec⟩ := hrel
    have HD := Lib.hid hdec
    clear hdec
    by_cases hlt : i < mx
    · obtain ⟨b1, o1, rfl, _, hc1⟩ := hr.plain (by omega)
      obtain ⟨ch, hch⟩ : ∃ ch, L[k + i]? = some ch := ⟨_, List.getElem?_eq_getElem (by omega)⟩
      have g1 := hc1 (k + i) _ (by rw [getElem?_cellsB, hch]; rfl)
      have hcl : ch.toNat < 256 := UInt8.toNat_lt ch
      have hd3 : decide ((i : Int) < (mx : Int)) = true := by simp; omega
      have hi5 : i ≤ 5 := by omega
      have hdr : L.drop (k + i) = ch :: L.drop (k + (i + 1)) := by
        rw [List.drop_eq_getElem_cons (by omega : k + i < L.length)]
        congr 1
        exact (List.getElem?_eq_some_iff.1 hch).2
      have hf6 : ∃ f, 6 - i = f + 1 ∧ 6 - (i + 1) = f := ⟨5 - i, by omega, by omega⟩
      obtain ⟨f, hf6, hf7⟩ := hf6
      have hb7 : bits .and .u8 (ch.toNat : Int) 127 = (ch.toNat : Int) % 128 := and_u8_127 _ (by omega) (by omega)
      have hor := or_acc acc (ch.toNat % 128) i hacc (by omega) hi5
      have hacc2 : acc + ch.toNat % 128 * 128 ^ i < 128 ^ (i + 1) := by
        have h1 : ch.toNat % 128 * 128 ^ i ≤ 127 * 128 ^ i := Nat.mul_le_mul_right _ (by omega)
        rw [Nat.pow_succ]; omega
      have hpw : (128 : Nat) ^ (i + 1) ≤ 4398046511104 := by
        have := Nat.pow_le_pow_right (show 0 < 128 by omega) (show i + 1 ≤ 6 by omega)
        have e6 : (128 : Nat) ^ 6 = 4398046511104 := by decide
        omega
      have HD2 := HD.out
      rw [hdr, hf6] at HD2
      generalize hA : acc + ch.toNat % 128 * 128 ^ i = acc2 at hor hacc2
      have hor2 : bits .or .i64 (acc : Int) (wrap64 ((ch.toNat : Int) % 128 * 2 ^ (7 * i))) = (acc2 : Int) := by rw [← hor]; norm_cast
      have ha2 : acc2 ≤ 4398046511104 := by omega
      have HACC := Lib.hid hacc2
      have hzero : ch.toNat = 0 → i = 0 → acc2 = 0 := fun h1 h2 => by
        rw [← hA, h1]
        rw [h2] at hacc
        simp at hacc ⊢
        omega
      have HZERO := Lib.hid hzero
      clear hzero
      have HF7 := Lib.hid hf7
      clear hor hch hc1 hr hdr hf6 hf7 hacc2 hpw hacc HD
      by_cases h128 : 128 ≤ ch.toNat
      · have hst := decF_step f i acc ch (L.drop (k + (i + 1))) h128
        rw [hA] at hst
        rw [hst] at HD2
        have HDN := Lib.hid HD2
        have h8 : bits .and .u8 (ch.toNat : Int) 128 = 128 := by rw [and_u8_128 _ (by omega) (by omega), if_neg (by omega)]
        clear hst HD2 hA
        go_wp2
        go_quiet (fail)
        go_wp2
        go_roundw
        case rel => exact ⟨i + 1, acc2, _, by omega, by go_num, rfl, HACC.out, rfl, by rw [HF7.out]; exact HDN.out⟩
        case measure => simp [intOf]; omega
      · have hst := decF_stop f i acc ch (L.drop (k + (i + 1))) (by omega)
        rw [hA] at hst
        rw [hst] at HD2
        have h8 : bits .and .u8 (ch.toNat : Int) 128 = 0 := by rw [and_u8_128 _ (by omega) (by omega), if_pos (by omega)]
        clear hst hA
        by_cases hbad : (ch.toNat = 0 ∧ 0 < i) ∨ maxNum < acc2
        · rw [if_pos hbad] at HD2
          have hfin : ∀ q, NextPost p L k w (.returned (.tuple #[.int .i64 0, .iface 212 (.pointer (some ⟨w.heap.size, 0, none⟩))])) ((w.drewN q).alloc (.cells #[.int .i64 k, .int .i64 70] 214)) := fun q => by
            unfold NextPost
            rw [HD2]
            exact broken_of w k q
          have HFIN := Lib.hid hfin
          clear HD2 hfin
          unfold maxNum at hbad
          by_cases hz : ch.toNat = 0 ∧ 0 < i
          · obtain ⟨hz0, hz3⟩ := hz
            have g2 : w.cell? ⟨b1, o1 + (k + i), none⟩ = some (.int .u8 0) := by
              rw [g1]
              show some (Value.int .u8 (ch.toNat : Int)) = _
              rw [hz0]; rfl
            have hz2 : decide ((0 : Int) < (i : Int)) = true := by simp; omega
            have h7z : bits .and .u8 0 127 = 0 := by decide
            have h8z : bits .and .u8 0 128 = 0 := by decide
            clear hbad hz0 g1 hb7 hor2 h8 h128 hcl HZERO
            go_wp2
            go_quiet (fail)
            go_wp2
            go_region
            go_wp2
            go_ret2
            exact HFIN.out _
          · have hm : decide ((1099511627776 : Int) < (acc2 : Int)) = true := by simp; omega
            by_cases hz0 : ch.toNat = 0
            · have h9 := HZERO.out hz0 (by omega)
              omega
            · have hz1 : ((ch.toNat : Int) == 0) = false := beq_eq_false_iff_ne.2 (by omega)
              clear hbad hz
              go_wp2
              go_quiet (fail)
              go_wp2
              go_region
              go_wp2
              go_ret2
              exact HFIN.out _
        · rw [if_neg hbad] at HD2
          have hfin : ∀ q, NextPost p L k w (.returned (.tuple #[.int .i64 (acc2 : Int), .nilIface])) ((w.drewN q).setCell ⟨p, 1, none⟩ (.int .i64 ((k : Int) + ((i : Int) + 1)))) := fun q => by
            unfold NextPost
            rw [HD2]
            exact ⟨rfl, q, rfl⟩
          have HFIN := Lib.hid hfin
          clear HD2 hfin
          unfold maxNum at hbad
          have hm : decide ((1099511627776 : Int) < (acc2 : Int)) = false := by simp; omega
          by_cases hz0 : ch.toNat = 0
          · have hz1 : ((ch.toNat : Int) == 0) = true := beq_iff_eq.2 (by omega)
            have hz2 : decide ((0 : Int) < (i : Int)) = false := by simp; omega
            have hi0 : i = 0 := by omega
            have HI0 := Lib.hid hi0
            clear hbad hz0 hi0
            go_wp2
            go_quiet (fail)
            go_wp2
            go_ret2
            have e : (k : Int) + 1 = (k : Int) + ((i : Int) + 1) := by have := HI0.out; omega
            first | (rw [e]; exact HFIN.out _) | exact HFIN.out _
          · have hz1 : ((ch.toNat : Int) == 0) = false := beq_eq_false_iff_ne.2 (by omega)
            clear hbad
            go_wp2
            go_quiet (fail)
            go_wp2
            go_ret2
            exact HFIN.out _
    · obtain rfl : i = mx := by omega
      have hd3 : decide ((i : Int) < (i : Int)) = false := by simp
      have hnone : dec (L.drop k) = none := by
        rw [HD.out]
        rcases Nat.lt_or_ge i 6 with h6 | h6
        · have h7 := HMX3.out h6
          rw [List.drop_eq_nil_of_le (by omega)]
          obtain ⟨f, hf⟩ : ∃ f, 6 - i = f + 1 := ⟨5 - i, by omega⟩
          rw [hf]; rfl
        · rw [show 6 - i = 0 by omega]; rfl
      have hfin : ∀ q, NextPost p L k w (.returned (.tuple #[.int .i64 0, .iface 212 (.pointer (some ⟨w.heap.size, 0, none⟩))])) ((w.drewN q).alloc (.cells #[.int .i64 k, .int .i64 70] 214)) := fun q => by
        unfold NextPost
        rw [hnone]
        exact broken_of w k q
      have HFIN := Lib.hid hfin
      clear hfin hnone HD hacc hr
      go_wp2
      go_region
      go_wp2
      go_ret2
      exact HFIN.out _
end Go.Proofs.YtbpkckahonmpkaaGreatDoor
namespace Go.Proofs.YtbpkckahonmpkaaGreatDoor
open Go.RowKit

/-- The library's own variable holds the handle of the type error. -/
def HasErr (w : World) : Prop := w.cell? ⟨0, 0, none⟩ = some (.iface 178 (.agg #[.pointer (some ⟨1, 71, none⟩)]))
theorem HasErr.lt {w : World} (h : HasErr w) : 0 < w.heap.size := by
  rcases Nat.lt_or_ge 0 w.heap.size with h1 | h1
  · exact h1
  · unfold HasErr at h; simp [World.cell?, Array.getElem?_eq_none h1] at h
theorem HasErr.below {w w' : World} (h : HasErr w) {B : Nat} (hb : Below B w w') (hB : 0 < B) : HasErr w' := (hb.cell (p := ⟨0, 0, none⟩) hB).trans h

/-- What varint.Get says of bytes and a place. -/
def getOf (L : List UInt8) (k : Int) : Int × Int × Int :=
  if k < 0 ∨ (L.length : Int) < k then (0, 0, 70)
  else match dec (L.drop k.toNat) with
    | none => (0, 0, 70)
    | some (n, m) => (n, k + m, 0)

def GetPost (L : List UInt8) (k : Int) (w : World) (e : Ending) (w' : World) : Prop :=
  e = .returned (.tuple #[.int .i64 (getOf L k).1, .int .i64 (getOf L k).2.1, .int .i64 (getOf L k).2.2]) ∧ Below w.heap.size w w'

set_option maxRecDepth 100000 in
set_option maxHeartbeats 1000000 in
theorem Get_any (A : Option Addr) (L : List UInt8) (c : Nat) (k : Int) (w : World) (hL : L.length ≤ 100000) (hg : HasErr w) (hr : Reads w w.heap.size 1 A L.length (cellsB L)) :
    Calls Tryz.prog 143 #[.slice A L.length c, .int .i64 k] w (GetPost L k w) := by
  have hb0 : Below w.heap.size w (w.alloc (.cells #[.slice A L.length c, .int .i64 k] 208)) := (Below.refl _ _).alloc (Nat.le_refl _) _
  have hg1 := hg.below hb0 hg.lt
  have blk := Blk.new w 208 #[.slice A L.length c, .int .i64 k]
  have c0 := blk.cell 0
  have c1 := blk.cell 1
  have f1 := blk.frozen 1
  have hgl := hg.lt
  -- the ways on which it fails
  have bad : ∀ (hgo : getOf L k = (0, 0, 70)) (hn : Calls Tryz.prog 147 #[.pointer (some ⟨w.heap.size, 0, none⟩)] (w.alloc (.cells #[.slice A L.length c, .int .i64 k] 208)) (Broken (w.alloc (.cells #[.slice A L.length c, .int .i64 k] 208)))),
      Calls Tryz.prog 143 #[.slice A L.length c, .int .i64 k] w (GetPost L k w) := by
    intro hgo hn
    have HN := Lib.hid hn
    have HGO := Lib.hid hgo
    have HG1 := Lib.hid hg1
    clear hn hgo hg1 hg blk c0 c1 f1 hr
    go_enter Tryz.func143, Tryz.ntmps143
    go_wp2_with (first | (go_at_call 147; refine HN.out.mono ?_; rintro e w1 ⟨b, rfl, hc70, hbge, hb1⟩; have HC := Lib.hid (code_broken b 70 w1 (HG1.out.below hb1 (by simp only [World.size_alloc]; omega)) hc70)) | (go_at_call 148; refine HC.out.mono ?_; rintro e w2 ⟨rfl, hb2⟩))
    go_ret3
    unfold GetPost
    rw [HGO.out]
    refine ⟨rfl, ?_⟩
    have k1 := hb0.trans (hb1.mono (by simp))
    exact k1.trans (hb2.mono k1.size)
  by_cases hk : k < 0 ∨ (L.length : Int) < k
  · exact bad (by unfold getOf; rw [if_pos hk]) (next_out _ A L c k _ c0 c1 hk)
  · obtain ⟨n, rfl⟩ := Int.eq_ofNat_of_zero_le (show 0 ≤ k by omega)
    have hgo : getOf L (n : Int) = match dec (L.drop n) with
        | none => (0, 0, 70)
        | some (x, m) => ((x : Int), (n : Int) + m, 0) := by unfold getOf; rw [if_neg hk, Int.toNat_natCast]
    have hn := next_in w.heap.size A L c n w.heap.size _ c0 c1 f1 (by omega) hL (hr.alloc (Nat.le_refl _) _)
    unfold NextPost at hn
    cases hd : dec (L.drop n) with
    | none =>
      rw [hd] at hn hgo
      exact bad hgo hn
    | some r =>
      obtain ⟨x, m⟩ := r
      rw [hd] at hn hgo
      simp only at hn hgo
      have HN := Lib.hid hn
      have HGO := Lib.hid hgo
      clear bad hn hgo hg1 hg blk hr hd hk
      go_enter Tryz.func143, Tryz.ntmps143
      go_wp2_with (go_at_call 147; refine HN.out.mono ?_; rintro e w1 ⟨rfl, q, rfl⟩)
      go_quiet (fail)
      go_wp2
      go_ret3
      unfold GetPost
      rw [HGO.out]
      refine ⟨rfl, ?_⟩
      exact below_drewN ((below_drewN hb0 q).setCell (p := ⟨w.heap.size, 1, none⟩) (Nat.le_refl _) _) _
end Go.Proofs.YtbpkckahonmpkaaGreatDoor
namespace Go.Proofs.YtbpkckahonmpkaaGreatDoor
open Go.RowKit

theorem reads_new (w : World) (t : TypeId) (l : List UInt8) : Reads (w.alloc (.cells (cellsB l).toArray t)) (w.heap.size + 1) 1 (some ⟨w.heap.size, 0, none⟩) l.length (cellsB l) := by
  refine ⟨by rw [length_cellsB]; omega, fun _ => ⟨_, rfl, Nat.lt_succ_self _, fun j u hu => ?_⟩⟩
  rw [add_none, Nat.zero_add]
  have := (Blk.new w t (cellsB l).toArray).cell j
  rw [this]
  simpa using hu

end Go.Proofs.YtbpkckahonmpkaaGreatDoor
namespace Go.Proofs.YtbpkckahonmpkaaGreatDoor
open Go.RowKit

theorem getOf_bad (L : List UInt8) (k : Nat) (h : dec (L.drop k) = none) (hk : k ≤ L.length) : getOf L k = (0, 0, 70) := by
  unfold getOf
  rw [if_neg (by omega), Int.toNat_natCast, h]
theorem getOf_ok (L : List UInt8) (k n m : Nat) (h : dec (L.drop k) = some (n, m)) (hk : k ≤ L.length) : getOf L k = ((n : Int), (k : Int) + m, 0) := by
  unfold getOf
  rw [if_neg (by omega), Int.toNat_natCast, h]

end Go.Proofs.YtbpkckahonmpkaaGreatDoor
namespace Go.Proofs.YtbpkckahonmpkaaGreatDoor
open Go.RowKit

/-- A slice of bytes of the call's own. -/
def OwnVal (l : List UInt8) (w : World) (e : Ending) (w' : World) : Prop :=
  ∃ A c, e = .returned (.slice A l.length c) ∧ w'.ownsRow w.heap.size 5 1 (.slice A l.length c) l.length (cellsB l) ∧ l.length ≤ c ∧ Below w.heap.size w w'

set_option maxRecDepth 100000 in
set_option maxHeartbeats 400000 in
theorem Grow_any (n : Nat) (w : World) (h0 : 0 < n) (hn : n ≤ 200000) :
    Calls Tryz.prog 177 #[.slice none 0 0, .int .i64 n] w (OwnVal [] w) := by
  obtain ⟨i0, hi, hz0, hz1, hz2⟩ := info_parts infoByte
  have hrun := fun W => Lib.run_append_nil_zeros (P := Tryz.prog) W 75 3 75 5 i0 _ .i64 .i64 Tryz.underlying75 Tryz.underlying3 hi hz0 n h0 (by rw [hz1]; decide) (by omega) (by rw [hz2]; omega)
  have hcap := grownCap_ge w n 0 5
  have hcm := grownCap_le_maxLen w n 0 5 (by unfold maxLen; omega)
  have HRUN := Lib.hid (hrun w)
  generalize hgc : grownCap w n 0 5 = gc at *
  clear hrun
  have hnn : ¬ (n : Int) < 0 := by omega
  have hc2 := fun W => (cut_upto (P := Tryz.prog) (t := 75) (w := W) (B := W.heap.size) (A := none) (c := 0) (xs := []) Tryz.underlying75 (fun _ => by kernel_rfl) Reads.none_ 0 (Nat.le_refl _) (Nat.le_refl _)).1
  go_enter Tryz.func177, Tryz.ntmps177
  go_wp2_with (at_builtin; refine Lib.wpList_append_run _ rfl (.tmp 20) (.tmp 21) 75 3 rfl _ _ rfl rfl _ _ HRUN.out ?_)
  go_ret
  refine ⟨some ⟨w.heap.size, 0, none⟩, gc, rfl, ⟨by simp [cellsB], .inr ⟨w.heap.size, gc, _, rfl, Nat.le_refl _, heap_alloc_new w.drew _, Nat.zero_le _, hcm, ?_, by simp [cellsB]⟩⟩, Nat.zero_le _, (Below.refl _ w).drew.alloc (Nat.le_refl _) _⟩
  simp [size_zeroCells, Value.cells]
  omega

set_option maxRecDepth 100000 in
set_option maxHeartbeats 1000000 in
theorem Concat_any (b : Nat) (A A2 : Option Addr) (l l2 : List UInt8) (c c2 : Nat) (w : World) (h0 : w.cell? ⟨b, 0, none⟩ = some (.slice A l.length c)) (h1 : w.cell? ⟨b, 1, none⟩ = some (.slice A2 l2.length c2))
    (hr : Reads w w.heap.size 1 A l.length (cellsB l)) (hr2 : Reads w w.heap.size 1 A2 l2.length (cellsB l2)) (hl : l.length ≤ 90000) (hl2 : l2.length ≤ 90000) (hp : 0 < l2.length) :
    Calls Tryz.prog 176 #[.slice (some ⟨b, 0, none⟩) 2 2] w (OwnVal (l ++ l2) w) := by
  obtain ⟨i0, hi, hz0, hz1, hz2⟩ := info_parts infoByte
  have HG := Lib.hid (Grow_any (l.length + l2.length) w (by omega) (by omega))
  have HR := Lib.hid hr
  have HR2 := Lib.hid hr2
  have hbl := block_lt_of_cell h0
  have H0 := Lib.hid h0
  have H1 := Lib.hid h1
  clear hr hr2
  go_enter Tryz.func176, Tryz.ntmps176
  go_wp2_with fail
  refine wp_loop_rounds 3 ?_
  rw [rounds_succ]
  go_wp2_with fail
  rw [rounds_succ]
  go_wp2_with fail
  rw [rounds_succ]
  go_wp2_with fail
  refine HG.out.mono ?_
  rintro e w1 ⟨A1, c1, rfl, ho1, hc1, hb1⟩
  have hx0 := (hb1.cell (p := ⟨b, 0, none⟩) hbl).trans H0.out
  have hx1 := (hb1.cell (p := ⟨b, 1, none⟩) hbl).trans H1.out
  have hz3 := hb1.size
  clear h0 h1
  go_wp2_with fail
  refine wp_loop_rounds 3 ?_
  rw [rounds_succ]
  go_wp2_with (at_builtin; refine wpList_append_any _ rfl (.tmp 31) (.tmp 32) 75 rfl w.heap.size 5 i0 (.int .u8 0) 1 1 Tryz.underlying75 hi hz0 hz1 hz2 rfl (by decide) (.slice A1 0 c1) 0 ([]) rfl ho1 w1.heap.size A l.length c (cellsB l) rfl ((HR.out.below hb1).more hz3) (cellsB_one _) (by unfold maxLen; omega) (by omega) hz3 ?_; intro v2 w2 ho2 hg2 hat2)
  rw [Nat.zero_add, List.nil_append] at ho2
  have hb2 : Below w.heap.size w w2 := hb1.grown hg2 hz3 (fun g hg => (ho1.lt g hg).1)
  have hz4 := hb2.size
  have hy1 := (hb2.cell (p := ⟨b, 1, none⟩) hbl).trans H1.out
  have HO2 := Lib.hid ho2
  clear ho1 hg2 hat2 ho2 hx0 hx1
  rw [rounds_succ]
  go_wp2_with (at_builtin; refine wpList_append_any _ rfl (.tmp 31) (.tmp 32) 75 rfl w.heap.size 5 i0 (.int .u8 0) 1 1 Tryz.underlying75 hi hz0 hz1 hz2 rfl (by decide) (v2) l.length (cellsB l) rfl HO2.out w2.heap.size A2 l2.length c2 (cellsB l2) rfl ((HR2.out.below hb2).more hz4) (cellsB_one _) (by unfold maxLen; omega) (by omega) hz4 ?_; intro v3 w3 ho3 hg3 hat3)
  rw [rounds_succ]
  go_wp2_with fail
  have hb3 : Below w.heap.size w w3 := hb2.grown hg3 hz4 (fun g hg => (HO2.out.lt g hg).1)
  rw [← cellsB_append, ← List.length_append] at ho3
  obtain ⟨A3, c3, rfl, hc3⟩ := own_slice ho3
  go_ret
  exact ⟨A3, c3, rfl, ho3, hc3, hb3⟩

end Go.Proofs.YtbpkckahonmpkaaGreatDoor
namespace Go.Proofs.YtbpkckahonmpkaaGreatDoor
open Go.RowKit

set_option maxRecDepth 100000 in
set_option maxHeartbeats 400000 in
theorem Flag_any (A : Option Addr) (l : List UInt8) (c : Nat) (y : Bool) (w : World) (hr : Reads w w.heap.size 1 A l.length (cellsB l)) (hl : l.length ≤ 80000) :
    Calls Tryz.prog 175 #[.slice A l.length c, .bool y] w (OwnVal (l ++ encY y) w) := by
  cases y
  · have HC := Lib.hid (Concat_any (w.heap.size + 1) A (some ⟨w.heap.size, 0, none⟩) l [0] c 1 ((w.alloc (.cells #[.int .u8 0] 5)).alloc (.cells #[.slice A l.length c, .slice (some ⟨w.heap.size, 0, none⟩) 1 1] 75)) (by simp) (by simp) ((((hr.alloc (Nat.le_refl _) _).more (by simp)).alloc (Nat.le_refl _) _).more (by simp)) (((reads_new w 5 [0]).alloc (by simp) _).more (by simp)) (by omega) (by simp) (by simp))
    have HB := Lib.hid (fun x y => ((Below.refl w.heap.size w).alloc (Nat.le_refl _) x).alloc (by simp) y)
    clear hr
    show Calls _ _ _ w (OwnVal (l ++ [0]) w)
    generalize l ++ [0] = L at *
    go_enter Tryz.func175, Tryz.ntmps175
    go_wp2_with fail
    refine HC.out.mono ?_
    rintro e w1 ⟨A1, c1, rfl, ho1, hc1, hb1⟩
    go_wp2_with fail
    go_ret
    exact ⟨A1, c1, rfl, own_base ho1 (by simp; omega), hc1, (HB.out _ _).trans (hb1.mono (by simp; omega))⟩
  · have HC := Lib.hid (Concat_any (w.heap.size + 1) A (some ⟨w.heap.size, 0, none⟩) l [1] c 1 ((w.alloc (.cells #[.int .u8 1] 5)).alloc (.cells #[.slice A l.length c, .slice (some ⟨w.heap.size, 0, none⟩) 1 1] 75)) (by simp) (by simp) ((((hr.alloc (Nat.le_refl _) _).more (by simp)).alloc (Nat.le_refl _) _).more (by simp)) (((reads_new w 5 [1]).alloc (by simp) _).more (by simp)) (by omega) (by simp) (by simp))
    have HB := Lib.hid (fun x y => ((Below.refl w.heap.size w).alloc (Nat.le_refl _) x).alloc (by simp) y)
    clear hr
    show Calls _ _ _ w (OwnVal (l ++ [1]) w)
    generalize l ++ [1] = L at *
    go_enter Tryz.func175, Tryz.ntmps175
    go_wp2_with fail
    refine HC.out.mono ?_
    rintro e w1 ⟨A1, c1, rfl, ho1, hc1, hb1⟩
    go_wp2_with fail
    go_ret
    exact ⟨A1, c1, rfl, own_base ho1 (by simp; omega), hc1, (HB.out _ _).trans (hb1.mono (by simp; omega))⟩

end Go.Proofs.YtbpkckahonmpkaaGreatDoor
namespace Go.Proofs.YtbpkckahonmpkaaGreatDoor
open Go.RowKit

structure Only (S : Nat → Prop) (a w : World) : Prop where
  os : w.os = a.os
  tape : w.tape = a.tape
  output : w.output = a.output
  size : a.heap.size ≤ w.heap.size
  block : ∀ k, k < a.heap.size → ¬ S k → w.heap[k]? = a.heap[k]?

section
variable {S S' : Nat → Prop} {a b w w' : World}
theorem Only.refl (S : Nat → Prop) (w : World) : Only S w w := ⟨rfl, rfl, rfl, Nat.le_refl _, fun _ _ _ => rfl⟩
theorem Only.trans (h : Only S a b) (k : Only S b w) : Only S a w :=
  ⟨k.os.trans h.os, k.tape.trans h.tape, k.output.trans h.output, Nat.le_trans h.size k.size, fun i hi hn => (k.block i (Nat.lt_of_lt_of_le hi h.size) hn).trans (h.block i hi hn)⟩
theorem Only.mono (h : Only S a w) (hS : ∀ g, g < a.heap.size → S g → S' g) : Only S' a w := ⟨h.os, h.tape, h.output, h.size, fun i hi hn => h.block i hi fun hs => hn (hS i hi hs)⟩
/-- What the second step turns is the first step's, or new. -/
theorem Only.step (h : Only S a b) (k : Only S' b w) (hS : ∀ g, g < a.heap.size → S' g → S g) : Only S a w :=
  ⟨k.os.trans h.os, k.tape.trans h.tape, k.output.trans h.output, Nat.le_trans h.size k.size, fun i hi hn => (k.block i (Nat.lt_of_lt_of_le hi h.size) (fun hs => hn (hS i hi hs))).trans (h.block i hi hn)⟩
theorem Only.of_below (S : Nat → Prop) (h : Below a.heap.size a w) : Only S a w := ⟨h.os, h.tape, h.output, h.size, fun i hi _ => h.block i hi⟩
theorem Only.below {B : Nat} (h : Only S a w) (hB : B ≤ a.heap.size) (hS : ∀ g, S g → B ≤ g) : Below B a w := ⟨h.os, h.tape, h.output, h.size, fun i hi => h.block i (by omega) fun hs => by have := hS i hs; omega⟩
theorem Only.then_below (h : Only S a b) (k : Below b.heap.size b w) : Only S a w := h.trans (Only.of_below S k)
theorem Only.drew (h : Only S a w) : Only S a w.drew := ⟨h.os, h.tape, h.output, h.size, h.block⟩
theorem Only.alloc (h : Only S a w) (o : Obj) : Only S a (w.alloc o) :=
  ⟨h.os, h.tape, h.output, Nat.le_trans h.size (by simp), fun i hi hn => (Below.heap_alloc w o i (Nat.lt_of_lt_of_le hi h.size)).trans (h.block i hi hn)⟩
theorem Only.set (h : Only S a w) {g o : Nat} (hp : S g ∨ a.heap.size ≤ g) (u : Value) : Only S a (w.setCell ⟨g, o, none⟩ u) :=
  ⟨h.os, h.tape, h.output, by simpa [World.setCell] using h.size, fun i hi hn => (Below.heap_setCell w ⟨g, o, none⟩ u i (by
    rintro rfl
    rcases hp with hp | hp
    · exact hn hp
    · exact absurd hi (by simpa using hp))).trans (h.block i hi hn)⟩
theorem Only.grown {row : Option Nat} (h : Only S a b) (hg : b.grownBy w row) (hr : ∀ k, row = some k → k < a.heap.size → S k) : Only S a w :=
  ⟨hg.os.trans h.os, hg.tape.trans h.tape, hg.output.trans h.output, Nat.le_trans h.size hg.size, fun i hi hn => (hg.block i (Nat.lt_of_lt_of_le hi h.size) (fun e => hn (hr i e.symm hi))).trans (h.block i hi hn)⟩
theorem Only.blk {g : Nat} {t : TypeId} {cs : Array Value} (h : Only S a w) (k : Blk a g t cs) (hn : ¬ S g) : Blk w g t cs := (h.block g k.lt hn).trans k
theorem Only.cell {p : Addr} (h : Only S a w) (hp : p.block < a.heap.size) (hn : ¬ S p.block) : w.cell? p = a.cell? p := World.cell?_of_block (h.block _ hp hn)
theorem Only.reads {B size n : Nat} {A : Option Addr} {xs : List Value} (h : Only S a w) (k : Reads a B size A n xs) (hB : B ≤ a.heap.size) (hn : ∀ g, g < B → ¬ S g) : Reads w B size A n xs :=
  k.keep fun p hp => h.cell (by omega) (hn _ hp)
theorem Only.own {base : Nat} {e : TypeId} {size n : Nat} {v : Value} {xs : List Value} (h : Only S a w) (k : a.ownsRow base e size v n xs) (hn : ∀ g, base ≤ g → ¬ S g) : w.ownsRow base e size v n xs := by
  refine ⟨k.1, ?_⟩
  rcases k.2 with h0 | ⟨g, cap, cur, hv, hg, hh, hr⟩
  · exact .inl h0
  · refine .inr ⟨g, cap, cur, hv, hg, ?_, hr⟩
    have hlt : g < a.heap.size := by
      rcases Nat.lt_or_ge g a.heap.size with h1 | h1
      · exact h1
      · rw [Array.getElem?_eq_none h1] at hh; cases hh
    exact (h.block g hlt (hn g hg)).trans hh
end
/-- A row of the call's own from a place on, read. -/
theorem own_set {w : World} {base : Nat} {e : TypeId} {size n : Nat} {v : Value} {xs : List Value} (k : w.ownsRow base e size v n xs) {g o : Nat} (hg : g < base) (u : Value) : (w.setCell ⟨g, o, none⟩ u).ownsRow base e size v n xs :=
  ((Only.refl (fun x => x = g) w).set (.inl rfl) u).own k (fun x hx hs => by omega)
end Go.Proofs.YtbpkckahonmpkaaGreatDoor
namespace Go.Proofs.YtbpkckahonmpkaaGreatDoor
open Go.RowKit

/-- The library's own variable holds the handle of the type error. -/
def HasET (w : World) : Prop := w.cell? ⟨0, 0, none⟩ = some (.iface 178 (.agg #[.pointer (some ⟨1, 71, none⟩)]))
theorem HasET.lt {w : World} (h : HasET w) : 0 < w.heap.size := by
  rcases Nat.lt_or_ge 0 w.heap.size with h1 | h1
  · exact h1
  · unfold HasET at h; simp [World.cell?, Array.getElem?_eq_none h1] at h
theorem HasET.below {w w' : World} (h : HasET w) {B : Nat} (hb : Below B w w') (hB : 0 < B) : HasET w' := (hb.cell (p := ⟨0, 0, none⟩) hB).trans h
theorem HasET.up {w w' : World} (h : HasET w) (hb : Below w.heap.size w w') : HasET w' := h.below hb h.lt

theorem asW_cell (w : World) (n : Int) : (asWorld (w.alloc (.cells #[.int .i64 0] 35)) w.heap.size n).cell? ⟨w.heap.size, 0, none⟩ = some (.int .i64 n) := by
  unfold asWorld
  refine World.cell?_setCell_same' _ _ _ ?_
  rw [World.cell?_alloc_lt _ _ ⟨w.heap.size, 0, none⟩ (by simp only [World.size_alloc]; omega), World.cell?_alloc_lt _ _ ⟨w.heap.size, 0, none⟩ (by simp only [World.size_alloc]; omega), World.cell?_alloc_lt _ _ ⟨w.heap.size, 0, none⟩ (by simp only [World.size_alloc]; omega), World.cell?_alloc_lt _ _ ⟨w.heap.size, 0, none⟩ (by simp only [World.size_alloc]; omega)]
  simp
theorem asW_below (w : World) (n : Int) : Below w.heap.size w (asWorld (w.alloc (.cells #[.int .i64 0] 35)) w.heap.size n) := by
  rw [asWorld]
  refine Below.setCell (p := ⟨w.heap.size, 0, none⟩) ?_ (Nat.le_refl _) _
  exact ((((((Below.refl _ w).alloc (Nat.le_refl _) _).alloc (by simp) _).alloc (by simp only [World.size_alloc]; omega) _).alloc (by simp only [World.size_alloc]; omega) _).alloc (by simp only [World.size_alloc]; omega) _)
theorem cell_lt {w : World} {b o : Nat} {v : Value} (h : w.cell? ⟨b, o, none⟩ = some v) : b < w.heap.size := by
  rcases Nat.lt_or_ge b w.heap.size with h1 | h1
  · exact h1
  · simp [World.cell?, Array.getElem?_eq_none h1] at h
end Go.Proofs.YtbpkckahonmpkaaGreatDoor
