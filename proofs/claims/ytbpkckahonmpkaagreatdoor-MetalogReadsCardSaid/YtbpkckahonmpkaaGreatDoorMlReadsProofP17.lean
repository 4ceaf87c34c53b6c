/-
  Layer 19: wakes.
  Which transactional id is too great.
  Layer 19: rows of entries in memory; which entry is too great.
  Layer 19: loads read, one behind the other, by the program and by the document.
  Package frame's leaves: Size, head, load: what each call gives.
  errors.Is at what package frame hands it; framed, Bytes: what each call gives.
  Package frame's framed, Bytes: what each call gives.
  Layer 19: how entries are put, by the program and by the document.
-/
import Derived.Test.YtbpkckahonmpkaaGreatDoorMlReadsProofP16
import Derived.Test.YtbpkckahonmpkaaGreatDoorRows
import Derived.WalkKit
import Derived.WalkSpells
import Derived.Lib.Hide
import Derived.WalkLawsBesides
import Derived.LaidEql
import Derived.Stop.Asserts
import Derived.RowKitTokens
set_option linter.unusedVariables false
set_option linter.unusedSimpArgs false
namespace Go.Proofs.YtbpkckahonmpkaaGreatDoor
open Go.RowKit
def bigT (c : Co) : Bool := decide (40 < c.ps.length) || decide (40 < c.qs.length)
end Go.Proofs.YtbpkckahonmpkaaGreatDoor
namespace Go.Proofs.YtbpkckahonmpkaaGreatDoor
open Go.RowKit
structure MtM where
  x : Mt
  A : Option Addr
  D : Option Addr
  c : Nat
  e : Nat
def cE (y : MtM) : List Value := mtL y.x y.A y.D y.c y.e
def cellsE (l : List MtM) : List Value := l.flatMap cE
theorem cE_len (y : MtM) : (cE y).length = 17 := rfl
theorem cellsE_cons (y : MtM) (l : List MtM) : cellsE (y :: l) = cE y ++ cellsE l := by simp [cellsE]
theorem cellsE_at : ∀ (l : List MtM) (i : Nat) (m : MtM) (j : Nat), l[i]? = some m → j < 17 → (cellsE l)[i * 17 + j]? = (cE m)[j]?
  | [], i, m, j, h, _ => by simp at h
  | x :: l, 0, m, j, h, hj => by
    simp at h
    subst h
    rw [show (0 * 17 + j) = j by omega, cellsE_cons]
    exact List.getElem?_append_left (by rw [cE_len]; exact hj)
  | x :: l, i + 1, m, j, h, hj => by
    have := cellsE_at l i m j (by simpa using h) hj
    rw [cellsE_cons, List.getElem?_append_right (by rw [cE_len]; omega), ← this, cE_len]
    congr 1
    omega
theorem Reads.plainE {w : World} {B n : Nat} {A : Option Addr} {l : List MtM} (h : Reads w B 17 A n (cellsE l)) (hn : 0 < n) :
    ∃ b off, A = some ⟨b, off, none⟩ ∧ b < B ∧ ∀ i m, l[i]? = some m → (loadCells ⟨b, off + i * 17, none⟩ 17).run Tryz.prog w = .ok (mtX m.x m.A m.D m.c m.e) w := by
  obtain ⟨ad, rfl, hb, hc⟩ := h.2 hn
  obtain ⟨b, off, spot⟩ := ad
  have hl : 0 < (cellsE l).length := by have := h.1; omega
  have h0 := hc 0 _ (List.getElem?_eq_getElem hl)
  have hs : spot = none := by simpa [Addr.add] using World.cell?_spot h0
  subst hs
  refine ⟨b, off, rfl, hb, fun i m hm => ?_⟩
  exact run_loadCells_list (P := Tryz.prog) w ⟨b, off + i * 17, none⟩ (cE m) (fun j v hv => by
    have hj : j < 17 := (List.getElem?_eq_some_iff.1 hv).1
    have k1 := hc _ _ ((cellsE_at l i m j hm hj).trans hv)
    rw [add_none] at k1
    rw [add_none, Nat.add_assoc]; exact k1)
/-- What is known of the lists of a row of entries. -/
def MtsR (w : World) (B : Nat) (l : List MtM) : Prop := ∀ y ∈ l, CoR w B y.x.c y.A y.D
theorem MtsR.below {w w' : World} {B : Nat} {l : List MtM} (h : MtsR w B l) (hb : Below B w w') : MtsR w' B l := fun y hy => CoR.below (h y hy) hb
def MtRaw (w : World) (m : Mt) (A D : Option Addr) : Prop := Reads w w.heap.size 1 A m.c.ps.length (cellsI .i64 m.c.ps) ∧ Reads w w.heap.size 3 D m.c.qs.length (cellsP m.c.qs) ∧ -128 ≤ m.c.st ∧ m.c.st ≤ 127
theorem MtRaw.co {w : World} {m : Mt} {A D : Option Addr} (h : MtRaw w m A D) (hb : bigT m.c = false) : CoR w w.heap.size m.c A D := by
  unfold bigT at hb
  simp only [Bool.or_eq_false_iff, decide_eq_false_iff_not, Nat.not_lt] at hb
  exact ⟨h.1, h.2.1, by omega, by omega⟩
section
attribute [-go_sem] loadCells storeVar
end
end Go.Proofs.YtbpkckahonmpkaaGreatDoor
namespace Go.Proofs.YtbpkckahonmpkaaGreatDoor
open Go.RowKit
theorem infoMtFul : (Tryz.prog.info? 42).map (fun i => (i.zero, i.size, i.bytes)) = some (some (.agg #[.int .i8 0, .int .i64 0, .int .i64 0, .int .i64 0, .int .i64 0, .int .i64 0, .bool false, .int .i64 0, .int .i8 0, .int .i64 0, .int .i64 0, .int .i64 0, .int .i64 0, .slice none 0 0, .slice none 0 0, .int .i64 0, .int .i64 0]), 17, 168) := by kernel_rfl
theorem build_mtA (m : Mt) (A D : Option Addr) (c e : Nat) : Array.foldl (fun cs x => cs.setIfInBounds x.snd x.fst) #[.int .i8 0, .int .i64 0, .int .i64 0, .int .i64 0, .int .i64 0, .int .i64 0, .bool false, .int .i64 0, .int .i8 0, .int .i64 0, .int .i64 0, .int .i64 0, .int .i64 0, .slice none 0 0, .slice none 0 0, .int .i64 0, .int .i64 0] (mtX m A D c e).zipIdx 0 17 = mtX m A D c e := by
  simp [mtX, mtL, coL]
theorem cellsE_snoc (l : List MtM) (y : MtM) : cellsE (l ++ [y]) = cellsE l ++ cE y := by simp [cellsE]
theorem cE_one (y : MtM) : ∀ u ∈ cE y, u.oneCell' = true := by
  intro u hu
  have := mtX_one y.x y.A y.D y.c y.e
  rw [Array.all_eq_true_iff_forall_mem] at this
  exact this u (by unfold mtX; simpa [cE] using hu)
theorem reads_mt (w : World) (t : TypeId) (y : MtM) (g : Nat) (hg : w.heap.size = g) : Reads (w.alloc (.cells (mtX y.x y.A y.D y.c y.e) t)) (g + 1) 17 (some ⟨g, 0, none⟩) 1 (cE y) := by
  subst hg
  refine ⟨by rw [cE_len], fun _ => ⟨_, rfl, Nat.lt_succ_self _, fun j u hu => ?_⟩⟩
  rw [add_none, Nat.zero_add]
  rw [(Blk.new w t _).cell j]
  simpa [mtX, cE] using hu
noncomputable def rd1 (s : ByteArray) : Mt := (readM 7 6 (lb s)).1
open Classical in
noncomputable def allM (ss : List ByteArray) : List Mt × Int := if ∀ s ∈ ss, (readM 7 6 (lb s)).2 = 0 then (ss.map rd1, 0) else ([], 70)
def AlP (r : List Mt) (n : Int) (w : World) (e : Ending) (w' : World) : Prop := ∃ (l : List MtM) (A : Option Addr) (c : Nat), l.map (·.x) = r ∧ e = .returned (.tuple #[.slice A l.length c, .int .i64 n]) ∧ Reads w' w'.heap.size 17 A l.length (cellsE l) ∧ MtsR w' w'.heap.size l ∧ Below w.heap.size w w'
/-- What holds of the entries that are read so far. -/
def AlS (base : Nat) (l : List MtM) (v : Value) (W : World) : Prop :=
  W.ownsRow base 42 17 v l.length (cellsE l) ∧ ∀ y ∈ l, y.A = none ∧ CoR W W.heap.size y.x.c none y.D ∧ ∀ ad : Addr, 0 < y.x.c.qs.length → y.D = some ad → v.ownBlock ≠ some ad.block
theorem AlS.below {base : Nat} {l : List MtM} {v : Value} {W W' : World} (h : AlS base l v W) (k : Below W.heap.size W W') : AlS base l v W' :=
  ⟨own_below h.1 k, fun y hy => ⟨(h.2 y hy).1, (h.2 y hy).2.1.up k, (h.2 y hy).2.2⟩⟩
theorem coR_grown {w w' : World} {c : Co} {D : Option Addr} {row : Option Nat} (h : CoR w w.heap.size c none D) (k : w.grownBy w' row) (off : ∀ ad : Addr, 0 < c.qs.length → D = some ad → row ≠ some ad.block) : CoR w' w'.heap.size c none D := by
  refine ⟨⟨h.1.1, fun hn => ?_⟩, ⟨h.2.1.1, fun hn => ?_⟩, h.2.2⟩
  · obtain ⟨ad, hd, _⟩ := h.1.2 hn
    cases hd
  · obtain ⟨ad, hd, hb, hc⟩ := h.2.1.2 hn
    refine ⟨ad, hd, Nat.lt_of_lt_of_le hb k.size, fun j u hu => ?_⟩
    rw [← hc j u hu]
    exact World.cell?_of_block (by rw [block_of_add]; exact k.block _ hb (fun e => off ad hn hd e.symm))
theorem AlS.snoc {base : Nat} {l : List MtM} {v v' : Value} {W W' : World} {y : MtM} (h : AlS base l v W) (hA : y.A = none) (hc : CoR W W.heap.size y.x.c none y.D) (off : ∀ ad : Addr, 0 < y.x.c.qs.length → y.D = some ad → v.ownBlock ≠ some ad.block)
    (how : W'.ownsRow base 42 17 v' (l.length + 1) (cellsE l ++ cE y)) (hg : (W.alloc (.cells (mtX y.x y.A y.D y.c y.e) 42)).grownBy W' v.ownBlock) (hat : v'.ownBlock = v.ownBlock ∨ v'.ownBlock = some (W.alloc (.cells (mtX y.x y.A y.D y.c y.e) 42)).heap.size) : AlS base (l ++ [y]) v' W' := by
  have key : ∀ z : MtM, z.A = none → CoR W W.heap.size z.x.c none z.D → (∀ ad : Addr, 0 < z.x.c.qs.length → z.D = some ad → v.ownBlock ≠ some ad.block) → z.A = none ∧ CoR W' W'.heap.size z.x.c none z.D ∧ ∀ ad : Addr, 0 < z.x.c.qs.length → z.D = some ad → v'.ownBlock ≠ some ad.block := fun (z : MtM) hz1 hz2 hz3 => by
    refine ⟨hz1, coR_grown (hz2.up (bal (Below.refl _ _) _)) hg hz3, fun ad h0 hd => ?_⟩
    rcases hat with e | e
    · rw [e]; exact hz3 ad h0 hd
    · rw [e]
      intro e2
      injection e2 with e2
      obtain ⟨ad', hd', hb, _⟩ := hz2.2.1.2 h0
      rw [hd] at hd'
      injection hd' with hd'
      subst hd'
      rw [← e2] at hb
      simp at hb
      omega
  refine ⟨by rw [List.length_append, cellsE_snoc]; exact how, fun z hz => ?_⟩
  rcases List.mem_append.1 hz with h1 | h1
  · exact key z (h.2 z h1).1 (h.2 z h1).2.1 (h.2 z h1).2.2
  · simp only [List.mem_cons, List.not_mem_nil, or_false] at h1
    subst h1
    exact key _ hA hc off
section
attribute [-go_sem] loadCells storeVar
set_option maxRecDepth 100000 in
set_option maxHeartbeats 8000000 in
theorem mlAll_any (ss : List ByteArray) (A : Option Addr) (c : Nat) (w : World) (hg : HasET w) (hr : Reads w w.heap.size 1 A ss.length (cellsS ss)) (hs : ∀ s ∈ ss, s.size ≤ 100000) (hn : ss.length ≤ 1000) :
    Calls Tryz.prog 30 #[.slice A ss.length c] w (AlP (allM ss).1 (allM ss).2 w) := by
  obtain ⟨i0, hi, hi0, hi1, hi2⟩ := info_parts infoMtFul
  have HR := Lib.hid hr
  have HS := Lib.hid hs
  have HN := Lib.hid hn
  have HG := Lib.hid hg
  clear hr hs hn hg
  go_enter Tryz.func30, Tryz.ntmps30
  go_wp2_with fail
  go_loopg [4, 11] ss.length (fun mm v y wq => ∃ (k : Nat) (l : List MtM), k ≤ ss.length ∧ y = .int .i64 k ∧ mm = ss.length - k ∧ l.length = k ∧ (∀ s ∈ ss.take k, (readM 7 6 (lb s)).2 = 0) ∧ l.map (·.x) = (ss.take k).map rd1 ∧ AlS w.heap.size l v wq ∧ Below w.heap.size w wq)
  case atStart => exact ⟨0, [], Nat.zero_le _, rfl, rfl, rfl, fun s hs => by simp at hs, rfl, ⟨World.ownsRow_nil _ _ _ _, fun y hy => by cases hy⟩, Below.refl _ _⟩
  case round =>
    obtain ⟨k, l, hk, rfl, hmm, hll, hall, hmap, hst, hbw⟩ := hrel
    have HMM := Lib.hid hmm
    have HLL := Lib.hid hll
    have HALL := Lib.hid hall
    have HMAP := Lib.hid hmap
    have HST := Lib.hid hst
    have BW' := Lib.hid hbw
    clear hmm hll hall hmap hst hbw
    by_cases hlt : k < ss.length
    · have d1 : decide ((k : Int) < (ss.length : Int)) = true := decide_eq_true (by omega)
      have i1 : (0 : Int) ≤ (k : Int) := by omega
      have i2 : (k : Int) < (ss.length : Int) := by omega
      obtain ⟨s, hsk⟩ : ∃ s, ss[k]? = some s := ⟨_, List.getElem?_eq_getElem hlt⟩
      obtain ⟨b, off, hA, hbB, hcells⟩ := (HR.out.below BW'.out).plain (by omega)
      subst hA
      have ld : wr.cell? ⟨b, off + k, none⟩ = some (.string s) := hcells k _ (by rw [getElem?_cellsS, hsk]; rfl)
      have HSK := Lib.hid hsk
      have hsz := HS.out s (List.mem_of_getElem? hsk)
      have RA := Lib.hid (mlread_any s wr (HG.out.up BW'.out) hsz)
      clear hcells hsk hsz
      go_wp2_with fail
      refine RA.out.mono ?_
      rintro e w2 (⟨h0, D, e', rfl, hc, b2, hof⟩ | ⟨h7, _, fb, rfl, hf, b2⟩)
      · have X0 := Lib.hid h0
        obtain ⟨W3, st3, k3, b3, s3⟩ := bk_fresh (P := Tryz.prog) w2 42 #[.int .i8 0, .int .i64 0, .int .i64 0, .int .i64 0, .int .i64 0, .int .i64 0, .bool false, .int .i64 0, .int .i8 0, .int .i64 0, .int .i64 0, .int .i64 0, .int .i64 0, .slice none 0 0, .slice none 0 0, .int .i64 0, .int .i64 0] (mtX (readM 7 6 (lb s)).1 none D 0 e') 17 infoMt rfl (mtX_size ..) (mtX_one ..)
        have B3 := Lib.hid (BW'.out.trans ((b2.trans (b3.mono b2.size)).mono BW'.out.size))
        have S3 := Lib.hid (HST.out.below (b2.trans (b3.mono b2.size)))
        have C3 := Lib.hid (hc.up b3)
        have OF := Lib.hid (show ∀ ad, 0 < (readM 7 6 (lb s)).1.c.qs.length → D = some ad → u4.ownBlock ≠ some ad.block from fun ad h1 h2 e => by
          have := hof ad h1 h2
          have := (HST.out.1.lt _ e).2
          omega)
        have l3 := mt_load (P := Tryz.prog) k3
        have hn := HN.out
        have hsz3 := B3.out.size
        obtain ⟨Y, hY⟩ : ∃ Y : MtM, Y = ⟨(readM 7 6 (lb s)).1, none, D, 0, e'⟩ := ⟨_, rfl⟩
        have HYX := Lib.hid (show Y.x = rd1 s by rw [hY]; rfl)
        have HYA := Lib.hid (show Y.A = none by rw [hY])
        have C4 := Lib.hid (show CoR W3 W3.heap.size Y.x.c none Y.D by rw [hY]; exact C3.out)
        have O4 := Lib.hid (show ∀ ad, 0 < Y.x.c.qs.length → Y.D = some ad → u4.ownBlock ≠ some ad.block by rw [hY]; exact OF.out)
        have hl3 : (loadCells ⟨w2.heap.size, 0, none⟩ 17).run Tryz.prog W3 = .ok (mtX Y.x Y.A Y.D Y.c Y.e) W3 := by rw [hY]; exact l3
        have st3' : (storeVar 42 ⟨w2.heap.size, 0, none⟩ (.agg (mtX Y.x Y.A Y.D Y.c Y.e))).run Tryz.prog (w2.alloc (.cells #[.int .i8 0, .int .i64 0, .int .i64 0, .int .i64 0, .int .i64 0, .int .i64 0, .bool false, .int .i64 0, .int .i8 0, .int .i64 0, .int .i64 0, .int .i64 0, .int .i64 0, .slice none 0 0, .slice none 0 0, .int .i64 0, .int .i64 0] 42)) = .ok () W3 := by rw [hY]; exact st3
        have HXE : mtX (readM 7 6 (lb s)).1 none D 0 e' = mtX Y.x Y.A Y.D Y.c Y.e := by rw [hY]
        rw [HXE]
        have hsY : (mtX Y.x Y.A Y.D Y.c Y.e).size = 17 := mtX_size ..
        clear hc b2 k3 b3 s3 hof l3 st3 h0 hY HXE
        have hbY := build_mtA Y.x Y.A Y.D Y.c Y.e
        go_wp2_with (at_builtin; (refine wpList_append_any _ rfl (.tmp 24) (.tmp 26) 22 rfl w.heap.size 42 i0 _ 17 168 Tryz.underlying22 hi hi0 hi1 hi2 rfl (by decide) _ l.length _ (by rfl) (S3.out.1.alloc _) _ _ 1 1 (cE Y) (by rfl) (reads_mt W3 _ Y _ rfl) (cE_one Y) (by have := HLL.out; unfold maxLen; omega) (by have := HLL.out; omega) (by simp; omega) ?_; intro v' w8 hown' hgrow hat'))
        have R1 := Lib.hid (S3.out.snoc HYA.out C4.out O4.out hown' hgrow hat')
        have R2 := Lib.hid (show Below w.heap.size w w8 from (bal B3.out _).grown hgrow (by simp; omega) (fun x hx => (S3.out.1.lt x hx).1))
        clear hown' hgrow hat' hn hsz3
        go_wp2_with fail
        go_roundg (ss.length - k - 1)
        case measure => have := HMM.out; omega
        case rel =>
          have := HN.out
          refine ⟨k + 1, l ++ [Y], by omega, by (first | rfl | (rw [IntWalk.wrap64_in _ (by omega)]; rfl) | (rw [IntWalk.i64_in _ (by omega)]; rfl)), by omega, by rw [List.length_append, HLL.out]; rfl, fun z hz => ?_, ?_, R1.out, R2.out⟩
          · rw [List.take_add_one, HSK.out] at hz
            simp only [Option.toList_some, List.mem_append, List.mem_cons, List.not_mem_nil, or_false] at hz
            rcases hz with h | h
            · exact HALL.out z h
            · rw [h]; exact X0.out
          · rw [List.take_add_one, HSK.out, List.map_append, HMAP.out]
            simp [HYX.out]
      · have X7 := Lib.hid h7
        obtain ⟨W3, st3, k3, b3, s3⟩ := bk_fresh (P := Tryz.prog) w2 42 #[.int .i8 0, .int .i64 0, .int .i64 0, .int .i64 0, .int .i64 0, .int .i64 0, .bool false, .int .i64 0, .int .i8 0, .int .i64 0, .int .i64 0, .int .i64 0, .int .i64 0, .slice none 0 0, .slice none 0 0, .int .i64 0, .int .i64 0] (mtX MtNil none none 0 0) 17 infoMt rfl (mtX_size ..) (mtX_one ..)
        have B3 := Lib.hid (BW'.out.trans ((b2.trans (b3.mono b2.size)).mono BW'.out.size))
        have HA := Lib.hid (show allM ss = ([], 70) by
          unfold allM
          rw [if_neg]
          intro h
          have h2 := h s (List.mem_of_getElem? HSK.out)
          rw [X7.out] at h2
          cases h2)
        have MC := Lib.hid (mlcode_fault fb 70 W3 (HG.out.up B3.out) ((b3.cell (p := ⟨fb, 1, none⟩) (cell_lt hf)).trans hf))
        clear b2 k3 b3 s3 hf h7
        go_wp2_with fail
        refine MC.out.mono ?_
        rintro e w4 ⟨rfl, b4⟩
        have B4 := Lib.hid (B3.out.trans (b4.mono B3.out.size))
        clear b4
        go_wp2_with fail
        go_ret2
        rw [HA.out]
        exact ⟨[], none, 0, rfl, rfl, Reads.none_, (fun y hy => by cases hy), B4.out⟩
    · have hkn : k = ss.length := by omega
      have d1 : decide ((k : Int) < (ss.length : Int)) = false := decide_eq_false (by omega)
      have HA := Lib.hid (show allM ss = (ss.map rd1, 0) by
        have h := HALL.out
        rw [hkn, List.take_length] at h
        unfold allM
        rw [if_pos h])
      have HM2 := Lib.hid (show l.map (·.x) = ss.map rd1 by have h := HMAP.out; rw [hkn, List.take_length] at h; exact h)
      obtain ⟨A8, c8, rfl, hc8⟩ := own_slice HST.out.1
      go_wp2_with fail
      go_ret2
      rw [HA.out]
      exact ⟨l, A8, c8, HM2.out, rfl, Reads.of_own HST.out.1, fun y hy => by have h := HST.out.2 y hy; rw [h.1]; exact h.2.1, BW'.out⟩
set_option maxRecDepth 100000 in
set_option maxHeartbeats 8000000 in
theorem rAll19_any (ss : List ByteArray) (A : Option Addr) (c : Nat) (w : World) (hr : Reads w w.heap.size 1 A ss.length (cellsS ss)) (hs : ∀ s ∈ ss, s.size ≤ 100000) (hn : ss.length ≤ 1000) :
    Calls Tryz.prog 31 #[.slice A ss.length c] w (AlP (allM ss).1 (allM ss).2 w) := by
  obtain ⟨i0, hi, hi0, hi1, hi2⟩ := info_parts infoMtFul
  have HR := Lib.hid hr
  have HS := Lib.hid hs
  have HN := Lib.hid hn
  skip
  clear hr hs hn
  go_enter Tryz.func31, Tryz.ntmps31
  go_wp2_with fail
  go_loopg [4, 5] ss.length (fun mm v y wq => ∃ (k : Nat) (l : List MtM), k ≤ ss.length ∧ y = .int .i64 k ∧ mm = ss.length - k ∧ l.length = k ∧ (∀ s ∈ ss.take k, (readM 7 6 (lb s)).2 = 0) ∧ l.map (·.x) = (ss.take k).map rd1 ∧ AlS w.heap.size l v wq ∧ Below w.heap.size w wq)
  case atStart => exact ⟨0, [], Nat.zero_le _, rfl, rfl, rfl, fun s hs => by simp at hs, rfl, ⟨World.ownsRow_nil _ _ _ _, fun y hy => by cases hy⟩, Below.refl _ _⟩
  case round =>
    obtain ⟨k, l, hk, rfl, hmm, hll, hall, hmap, hst, hbw⟩ := hrel
    have HMM := Lib.hid hmm
    have HLL := Lib.hid hll
    have HALL := Lib.hid hall
    have HMAP := Lib.hid hmap
    have HST := Lib.hid hst
    have BW' := Lib.hid hbw
    clear hmm hll hall hmap hst hbw
    by_cases hlt : k < ss.length
    · have d1 : decide ((k : Int) < (ss.length : Int)) = true := decide_eq_true (by omega)
      have i1 : (0 : Int) ≤ (k : Int) := by omega
      have i2 : (k : Int) < (ss.length : Int) := by omega
      obtain ⟨s, hsk⟩ : ∃ s, ss[k]? = some s := ⟨_, List.getElem?_eq_getElem hlt⟩
      obtain ⟨b, off, hA, hbB, hcells⟩ := (HR.out.below BW'.out).plain (by omega)
      subst hA
      have ld : wr.cell? ⟨b, off + k, none⟩ = some (.string s) := hcells k _ (by rw [getElem?_cellsS, hsk]; rfl)
      have HSK := Lib.hid hsk
      have hsz := HS.out s (List.mem_of_getElem? hsk)
      have RA := rMtRead_new s wr hsz
      rw [← readM_same] at RA
      have RA := Lib.hid RA
      clear hcells hsk hsz
      go_wp2_with fail
      refine RA.out.mono ?_
      rintro e w2 ⟨D, e', rfl, hc, b2, hof⟩
      obtain ⟨W3, st3, k3, b3, s3⟩ := bk_fresh (P := Tryz.prog) w2 42 #[.int .i8 0, .int .i64 0, .int .i64 0, .int .i64 0, .int .i64 0, .int .i64 0, .bool false, .int .i64 0, .int .i8 0, .int .i64 0, .int .i64 0, .int .i64 0, .int .i64 0, .slice none 0 0, .slice none 0 0, .int .i64 0, .int .i64 0] (mtX (readM 7 6 (lb s)).1 none D 0 e') 17 infoMt rfl (mtX_size ..) (mtX_one ..)
      by_cases h0 : (readM 7 6 (lb s)).2 = 0
      · have X0 := Lib.hid h0
        rw [h0]
        have B3 := Lib.hid (BW'.out.trans ((b2.trans (b3.mono b2.size)).mono BW'.out.size))
        have S3 := Lib.hid (HST.out.below (b2.trans (b3.mono b2.size)))
        have C3 := Lib.hid (hc.up b3)
        have OF := Lib.hid (show ∀ ad, 0 < (readM 7 6 (lb s)).1.c.qs.length → D = some ad → u4.ownBlock ≠ some ad.block from fun ad h1 h2 e => by
          have := hof ad h1 h2
          have := (HST.out.1.lt _ e).2
          omega)
        have l3 := mt_load (P := Tryz.prog) k3
        have hn := HN.out
        have hsz3 := B3.out.size
        obtain ⟨Y, hY⟩ : ∃ Y : MtM, Y = ⟨(readM 7 6 (lb s)).1, none, D, 0, e'⟩ := ⟨_, rfl⟩
        have HYX := Lib.hid (show Y.x = rd1 s by rw [hY]; rfl)
        have HYA := Lib.hid (show Y.A = none by rw [hY])
        have C4 := Lib.hid (show CoR W3 W3.heap.size Y.x.c none Y.D by rw [hY]; exact C3.out)
        have O4 := Lib.hid (show ∀ ad, 0 < Y.x.c.qs.length → Y.D = some ad → u4.ownBlock ≠ some ad.block by rw [hY]; exact OF.out)
        have hl3 : (loadCells ⟨w2.heap.size, 0, none⟩ 17).run Tryz.prog W3 = .ok (mtX Y.x Y.A Y.D Y.c Y.e) W3 := by rw [hY]; exact l3
        have st3' : (storeVar 42 ⟨w2.heap.size, 0, none⟩ (.agg (mtX Y.x Y.A Y.D Y.c Y.e))).run Tryz.prog (w2.alloc (.cells #[.int .i8 0, .int .i64 0, .int .i64 0, .int .i64 0, .int .i64 0, .int .i64 0, .bool false, .int .i64 0, .int .i8 0, .int .i64 0, .int .i64 0, .int .i64 0, .int .i64 0, .slice none 0 0, .slice none 0 0, .int .i64 0, .int .i64 0] 42)) = .ok () W3 := by rw [hY]; exact st3
        have HXE : mtX (readM 7 6 (lb s)).1 none D 0 e' = mtX Y.x Y.A Y.D Y.c Y.e := by rw [hY]
        rw [HXE]
        have hsY : (mtX Y.x Y.A Y.D Y.c Y.e).size = 17 := mtX_size ..
        clear hc b2 k3 b3 s3 hof l3 st3 h0 hY HXE
        have hbY := build_mtA Y.x Y.A Y.D Y.c Y.e
        go_wp2_with (at_builtin; (refine wpList_append_any _ rfl (.tmp 25) (.tmp 27) 22 rfl w.heap.size 42 i0 _ 17 168 Tryz.underlying22 hi hi0 hi1 hi2 rfl (by decide) _ l.length _ (by rfl) (S3.out.1.alloc _) _ _ 1 1 (cE Y) (by rfl) (reads_mt W3 _ Y _ rfl) (cE_one Y) (by have := HLL.out; unfold maxLen; omega) (by have := HLL.out; omega) (by simp; omega) ?_; intro v' w8 hown' hgrow hat'))
        have R1 := Lib.hid (S3.out.snoc HYA.out C4.out O4.out hown' hgrow hat')
        have R2 := Lib.hid (show Below w.heap.size w w8 from (bal B3.out _).grown hgrow (by simp; omega) (fun x hx => (S3.out.1.lt x hx).1))
        clear hown' hgrow hat' hn hsz3
        go_wp2_with fail
        go_roundg (ss.length - k - 1)
        case measure => have := HMM.out; omega
        case rel =>
          have := HN.out
          refine ⟨k + 1, l ++ [Y], by omega, by (first | rfl | (rw [IntWalk.wrap64_in _ (by omega)]; rfl) | (rw [IntWalk.i64_in _ (by omega)]; rfl)), by omega, by rw [List.length_append, HLL.out]; rfl, fun z hz => ?_, ?_, R1.out, R2.out⟩
          · rw [List.take_add_one, HSK.out] at hz
            simp only [Option.toList_some, List.mem_append, List.mem_cons, List.not_mem_nil, or_false] at hz
            rcases hz with h | h
            · exact HALL.out z h
            · rw [h]; exact X0.out
          · rw [List.take_add_one, HSK.out, List.map_append, HMAP.out]
            simp [HYX.out]
      · have h70 : (readM 7 6 (lb s)).2 = 70 := by
          rcases readM_cases 7 6 (lb s) with ⟨z, h1, _⟩ | h1
          · rw [h1] at h0; exact absurd rfl h0
          · rw [h1]
        have X7 := Lib.hid h70
        rw [h70]
        have B3 := Lib.hid (BW'.out.trans ((b2.trans (b3.mono b2.size)).mono BW'.out.size))
        have HA := Lib.hid (show allM ss = ([], 70) by
          unfold allM
          rw [if_neg]
          intro h
          have h2 := h s (List.mem_of_getElem? HSK.out)
          rw [X7.out] at h2
          cases h2)
        clear b2 k3 b3 s3 h70 h0 hof hc
        go_wp2_with fail
        go_ret2
        rw [HA.out]
        exact ⟨[], none, 0, rfl, rfl, Reads.none_, (fun y hy => by cases hy), B3.out⟩
    · have hkn : k = ss.length := by omega
      have d1 : decide ((k : Int) < (ss.length : Int)) = false := decide_eq_false (by omega)
      have HA := Lib.hid (show allM ss = (ss.map rd1, 0) by
        have h := HALL.out
        rw [hkn, List.take_length] at h
        unfold allM
        rw [if_pos h])
      have HM2 := Lib.hid (show l.map (·.x) = ss.map rd1 by have h := HMAP.out; rw [hkn, List.take_length] at h; exact h)
      obtain ⟨A8, c8, rfl, hc8⟩ := own_slice HST.out.1
      go_wp2_with fail
      go_ret2
      rw [HA.out]
      exact ⟨l, A8, c8, HM2.out, rfl, Reads.of_own HST.out.1, fun y hy => by have h := HST.out.2 y hy; rw [h.1]; exact h.2.1, BW'.out⟩
end
end Go.Proofs.YtbpkckahonmpkaaGreatDoor
namespace Go.Proofs.YtbpkckahonmpkaaGreatDoor
open Go.RowKit

/-- frame.Size, plainly. -/
def frSize (n : Int) : Int := if n < 0 ∨ 1024 < n then 0 else 4 + n

set_option maxHeartbeats 400000 in
theorem size_any (n : Int) (w : World) :
    Calls Tryz.prog 117 #[.int .i64 n] w fun e w' => e = .returned (.int .i64 (frSize n)) ∧ w = w' := by
  by_cases h1 : n < 0
  · go_enter Tryz.func117, Tryz.ntmps117
    go_wp2
    go_ret
    exact ⟨by simp [frSize, h1], rfl⟩
  · by_cases h2 : 1024 < n
    · go_enter Tryz.func117, Tryz.ntmps117
      go_wp2
      go_ret
      exact ⟨by simp [frSize, h2], rfl⟩
    · go_enter Tryz.func117, Tryz.ntmps117
      go_wp2
      go_ret
      exact ⟨by rw [frSize, if_neg (by omega)]; rfl, rfl⟩

set_option maxHeartbeats 400000 in
theorem head_any (n : Int) (w : World) (h0 : 0 ≤ n) (h1 : n ≤ 1024) :
    Calls Tryz.prog 118 #[.int .i64 n] w fun e w' => e = .returned (.agg #[.int .u8 (n % 256), .int .u8 (n / 256), .int .u8 0, .int .u8 0]) ∧ Below w.heap.size w w' := by
  go_enter Tryz.func118, Tryz.ntmps118
  go_wp2
  refine wp_loop_rounds 5 ?_
  iterate 5 (rw [rounds_succ]; go_wp2)
  rw [show n / 65536 = 0 by omega, show n / 16777216 = 0 by omega]
  refine bodyPost_ret (v := .agg #[.int .u8 (n % 256), .int .u8 (n / 256), .int .u8 0, .int .u8 0]) (by simp [results, Tryz.results118, go_sem]) rfl ⟨rfl, ?_⟩
  exact ((Below.refl _ _).alloc (Nat.le_refl _) _).alloc (by simp) _

end Go.Proofs.YtbpkckahonmpkaaGreatDoor
namespace Go.Proofs.YtbpkckahonmpkaaGreatDoor
open Go.RowKit Go.Stop Go.Extern

set_option maxHeartbeats 400000 in
/-- errors.Is(nil, x). -/
theorem frIsNil (n : Int) (w : World) :
    Calls Tryz.prog 69 #[.nilIface, .iface 35 (.int .i64 n)] w fun e w' => e = .returned (.bool false) ∧ w = w' := by
  have hn := run_eql_iface_nil_left (P := Tryz.prog) w 35 (.int .i64 n) Tryz.underlying71
  go_enter Tryz.func69, Tryz.ntmps69
  go_wp2
  go_ret
  exact ⟨rfl, rfl⟩

end Go.Proofs.YtbpkckahonmpkaaGreatDoor
namespace Go.Proofs.YtbpkckahonmpkaaGreatDoor
open Go.RowKit

/-- The first bytes of a frame. -/
def headOf (n : Nat) : List UInt8 := [UInt8.ofNat (n % 256), UInt8.ofNat (n / 256), 0, 0]

theorem headOf_cells (n : Nat) (h : n ≤ 1024) : #[Value.int .u8 ((n : Int) % 256), Value.int .u8 ((n : Int) / 256), Value.int .u8 0, Value.int .u8 0] = (cellsB (headOf n)).toArray := by
  have h1 : (UInt8.ofNat (n % 256)).toNat = n % 256 := by simp
  have h2 : (UInt8.ofNat (n / 256)).toNat = n / 256 := by simp; omega
  simp only [headOf, cellsB, List.map_cons, List.map_nil, h1, h2]
  simp

theorem conv_head (n : Nat) (h : n ≤ 1024) (w : World) (t : TypeId) :
    (convert 75 9 (.slice (some ⟨w.heap.size, 0, none⟩) 4 4)).run Tryz.prog (w.alloc (.cells #[.int .u8 ((n : Int) % 256), .int .u8 ((n : Int) / 256), .int .u8 0, .int .u8 0] t)) =
      .ok (.string (bs (headOf n))) (w.alloc (.cells #[.int .u8 ((n : Int) % 256), .int .u8 ((n : Int) / 256), .int .u8 0, .int .u8 0] t)) := by
  refine run_string_of (B := w.heap.size + 1) Tryz.underlying75 Tryz.underlying5 Tryz.underlying9 ⟨rfl, fun _ => ⟨_, rfl, Nat.lt_succ_self _, fun j u hu => ?_⟩⟩
  rw [headOf_cells n h]
  have := (Blk.new w t (cellsB (headOf n)).toArray).cell j
  unfold Addr.add
  by_cases hj : j = 0
  · subst hj; simpa using this.trans (by simpa using hu)
  · simpa [hj] using this.trans (by simpa using hu)

set_option maxHeartbeats 400000 in
theorem framed_ok (s : ByteArray) (w : World) (hl : s.size ≤ 1024) :
    Calls Tryz.prog 81 #[.string s] w fun e w' => e = .returned (.tuple #[.string (bs (headOf s.size ++ lb s)), .nilIface]) ∧ Below w.heap.size w w' := by
  have hz : frSize s.size = 4 + s.size := by rw [frSize, if_neg (by omega)]
  have H := Lib.hid hz; clear hz
  have hne : ((4 + (s.size : Int)) == 0) = false := beq_eq_false_iff_ne.2 (by omega)
  have hns : (bs (headOf s.size)).size = 4 := by rw [size_bs]; rfl
  have hcv := fun w => conv_head s.size hl w 162
  go_enter Tryz.func81, Tryz.ntmps81
  go_wp2_with (first | (go_at_call 117; refine (size_any _ _).mono ?_; rintro e w' ⟨rfl, rfl⟩; rw [H.out]) | (go_at_call 118; refine (head_any _ _ (by omega) (by omega)).mono ?_; rintro e w' ⟨rfl, hb⟩))
  go_ret2
  refine ⟨?_, (hb.alloc hb.size _)⟩
  rw [← bs_append, bs_lb]
  rfl

set_option maxHeartbeats 400000 in
theorem bytes_ok (s : ByteArray) (w : World) (hl : s.size ≤ 1024) :
    Calls Tryz.prog 51 #[.string s] w fun e w' => e = .returned (.tuple #[.string (bs (headOf s.size ++ lb s)), .int .i64 0]) ∧ Below w.heap.size w w' := by
  go_enter Tryz.func51, Tryz.ntmps51
  go_wp2_with (first | (go_at_call 81; refine (framed_ok s _ hl).mono ?_; rintro e w' ⟨rfl, hb⟩) | (go_at_call 69; refine (frIsNil _ _).mono ?_; rintro e w' ⟨rfl, rfl⟩))
  go_ret2
  exact ⟨rfl, hb⟩
end Go.Proofs.YtbpkckahonmpkaaGreatDoor
namespace Go.Proofs.YtbpkckahonmpkaaGreatDoor
open Go.RowKit
def metaName (t : Int) : ByteArray := if t = 0 then ⟨#[105, 109]⟩ else if t = 1 then ⟨#[98, 109]⟩ else ⟨#[]⟩
theorem metaName_ne {t : Int} (h : ¬ metaName t = ⟨#[]⟩) : (metaName t).toList.isEmpty = false := by
  unfold metaName at *
  split at h
  · rw [if_pos (by assumption), toList_lb]; rfl
  · rename_i h0
    rw [if_neg h0]
    split at h
    · rw [if_pos (by assumption), toList_lb]; rfl
    · exact absurd rfl h
theorem nLetter_any (t : Int) (w : World) : Calls Tryz.prog 80 #[.int .i8 t] w fun e w' => e = .returned (.string (if t = 0 then ⟨#[105]⟩ else if t = 1 then ⟨#[98]⟩ else ⟨#[]⟩)) ∧ w = w' := by
  by_cases h0 : t = 0
  · subst h0
    go_enter Tryz.func80, Tryz.ntmps80
    go_wp2_with fail
    go_ret
    exact ⟨rfl, rfl⟩
  · have c0 : (t == 0) = false := by simpa using h0
    by_cases h1 : t = 1
    · subst h1
      go_enter Tryz.func80, Tryz.ntmps80
      go_wp2_with fail
      go_ret
      exact ⟨rfl, rfl⟩
    · have c1 : (t == 1) = false := by simpa using h1
      rw [if_neg h0, if_neg h1]
      clear h0 h1
      go_enter Tryz.func80, Tryz.ntmps80
      go_wp2_with fail
      go_ret
      exact ⟨rfl, rfl⟩
theorem nMeta_any (t : Int) (w : World) : Calls Tryz.prog 50 #[.int .i8 t] w fun e w' => e = .returned (.string (metaName t)) ∧ w = w' := by
  have HL := Lib.hid (fun W => nLetter_any t W)
  unfold metaName
  by_cases h0 : t = 0
  · rw [if_pos h0] at HL ⊢
    clear h0
    go_enter Tryz.func50, Tryz.ntmps50
    go_wp2_with (go_at_call 80; refine (HL.out _).mono ?_; rintro e w1 ⟨rfl, rfl⟩)
    go_ret
    exact ⟨rfl, rfl⟩
  rw [if_neg h0] at HL ⊢
  by_cases h1 : t = 1
  · rw [if_pos h1] at HL ⊢
    clear h0 h1
    go_enter Tryz.func50, Tryz.ntmps50
    go_wp2_with (go_at_call 80; refine (HL.out _).mono ?_; rintro e w1 ⟨rfl, rfl⟩)
    go_ret
    exact ⟨rfl, rfl⟩
  rw [if_neg h1] at HL ⊢
  clear h0 h1
  go_enter Tryz.func50, Tryz.ntmps50
  go_wp2_with (go_at_call 80; refine (HL.out _).mono ?_; rintro e w1 ⟨rfl, rfl⟩)
  go_ret
  exact ⟨rfl, rfl⟩
/-- Operations: what, the file's name, bytes. -/
abbrev Wr := Int × ByteArray × ByteArray
def cellsQ (l : List Wr) : List Value := l.flatMap fun p => [.int .i8 p.1, .string p.2.1, .string p.2.2, .int .i64 0]
theorem cellsQ_append (l m : List Wr) : cellsQ (l ++ m) = cellsQ l ++ cellsQ m := by simp [cellsQ]
theorem cellsQ_cons (p : Wr) (l : List Wr) : cellsQ (p :: l) = .int .i8 p.1 :: .string p.2.1 :: .string p.2.2 :: .int .i64 0 :: cellsQ l := by simp [cellsQ]
theorem length_cellsQ : ∀ l : List Wr, (cellsQ l).length = l.length * 4
  | [] => rfl
  | p :: l => by rw [cellsQ_cons, List.length_cons, List.length_cons, List.length_cons, List.length_cons, length_cellsQ l, List.length_cons]; omega
theorem cellsQ_one (l : List Wr) : ∀ u ∈ cellsQ l, u.oneCell' = true := by
  intro u hu
  simp only [cellsQ, List.mem_flatMap] at hu
  obtain ⟨p, _, hu⟩ := hu
  simp at hu
  rcases hu with rfl | rfl | rfl | rfl <;> rfl
theorem cellsQ_at : ∀ (l : List Wr) (i : Nat) (p : Wr), l[i]? = some p → (cellsQ l)[i * 4]? = some (.int .i8 p.1) ∧ (cellsQ l)[i * 4 + 1]? = some (.string p.2.1) ∧ (cellsQ l)[i * 4 + 2]? = some (.string p.2.2) ∧ (cellsQ l)[i * 4 + 3]? = some (.int .i64 0)
  | [], i, p, h => by simp at h
  | q :: l, 0, p, h => by
    simp at h
    subst h
    rw [cellsQ_cons]
    exact ⟨rfl, rfl, rfl, rfl⟩
  | q :: l, i + 1, p, h => by
    have := cellsQ_at l i p (by simpa using h)
    rw [cellsQ_cons, show (i + 1) * 4 = i * 4 + 1 + 1 + 1 + 1 by omega]
    simpa using this
theorem Reads.plainQ {w : World} {B n : Nat} {A : Option Addr} {l : List Wr} (h : Reads w B 4 A n (cellsQ l)) (hn : 0 < n) :
    ∃ b off, A = some ⟨b, off, none⟩ ∧ b < B ∧ ∀ i p, l[i]? = some p → w.cell? ⟨b, off + i * 4, none⟩ = some (.int .i8 p.1) ∧ w.cell? ⟨b, off + i * 4 + 1, none⟩ = some (.string p.2.1) ∧ w.cell? ⟨b, off + i * 4 + 2, none⟩ = some (.string p.2.2) ∧ w.cell? ⟨b, off + i * 4 + 3, none⟩ = some (.int .i64 0) := by
  obtain ⟨ad, rfl, hb, hc⟩ := h.2 hn
  obtain ⟨b, off, spot⟩ := ad
  have hl : 0 < (cellsQ l).length := by have := h.1; omega
  have h0 := hc 0 _ (List.getElem?_eq_getElem hl)
  have hs : spot = none := by simpa [Addr.add] using World.cell?_spot h0
  subst hs
  refine ⟨b, off, rfl, hb, fun i p hp => ?_⟩
  obtain ⟨h1, h2, h3, h4⟩ := cellsQ_at l i p hp
  have k1 := hc _ _ h1
  have k2 := hc _ _ h2
  have k3 := hc _ _ h3
  have k4 := hc _ _ h4
  rw [add_none] at k1 k2 k3 k4
  exact ⟨k1, by rw [Nat.add_assoc]; exact k2, by rw [Nat.add_assoc]; exact k3, by rw [Nat.add_assoc]; exact k4⟩
theorem reads_wr (w : World) (t : TypeId) (p : Wr) (g : Nat) (hg : w.heap.size = g) : Reads (w.alloc (.cells #[.int .i8 p.1, .string p.2.1, .string p.2.2, .int .i64 0] t)) (g + 1) 4 (some ⟨g, 0, none⟩) 1 (cellsQ [p]) := by
  subst hg
  refine ⟨by rw [length_cellsQ]; rfl, fun _ => ⟨_, rfl, Nat.lt_succ_self _, fun j u hu => ?_⟩⟩
  rw [add_none, Nat.zero_add]
  rw [(Blk.new w t _).cell j]
  simpa [cellsQ] using hu
theorem infoWr : (Tryz.prog.info? 57).map (fun i => (i.zero, i.size, i.bytes)) = some (some (.agg #[.int .i8 0, .string ⟨#[]⟩, .string ⟨#[]⟩, .int .i64 0]), 4, 48) := by kernel_rfl
def frOf (b : ByteArray) : ByteArray := bs (headOf b.size ++ lb b)
def rowsQ (nm : ByteArray) (l : List Mt) : List Wr := l.map fun m => (0, nm, frOf (bs (encM m)))
theorem rowsQ_len (nm : ByteArray) (l : List Mt) : (rowsQ nm l).length = l.length := by simp [rowsQ]
noncomputable def putM (t : Int) (l : List Mt) : List Wr × Int :=
  if metaName t = ⟨#[]⟩ ∨ l.length = 0 then ([], 2) else if l.all mayM = true then (rowsQ (metaName t) l ++ [(1, metaName t, ⟨#[]⟩)], 0) else ([], 2)
def PuP (r : List Wr) (n : Int) (w : World) (e : Ending) (w' : World) : Prop := ∃ A c, e = .returned (.tuple #[.slice A r.length c, .int .i64 n]) ∧ Reads w' w'.heap.size 4 A r.length (cellsQ r) ∧ Below w.heap.size w w'
theorem all_take {l : List MtM} {k : Nat} {y : MtM} (hy : l[k]? = some y) (h : ((l.take k).map (·.x)).all mayM = true) (hm : mayM y.x = true) : ((l.take (k + 1)).map (·.x)).all mayM = true := by
  rw [List.take_add_one, hy]
  simp only [Option.toList_some, List.map_append, List.map_cons, List.map_nil, List.all_append, h, List.all_cons, hm, List.all_nil, Bool.and_true]
theorem rowsQ_take {nm : ByteArray} {l : List MtM} {k : Nat} {y : MtM} (hy : l[k]? = some y) : rowsQ nm ((l.take k).map (·.x)) ++ [(0, nm, frOf (bs (encM y.x)))] = rowsQ nm ((l.take (k + 1)).map (·.x)) := by
  rw [List.take_add_one, hy]
  simp [rowsQ]
theorem putM_bad {t : Int} {l : List MtM} {k : Nat} {y : MtM} (hy : l[k]? = some y) (hm : mayM y.x = false) : putM t (l.map (·.x)) = ([], 2) := by
  unfold putM
  split
  · rfl
  · rw [if_neg]
    intro h
    have := List.all_eq_true.1 h y.x (List.mem_map_of_mem (List.mem_of_getElem? hy))
    rw [hm] at this
    cases this
theorem bs_enc_size {m : Mt} (h : mayM m = true) : (bs (encM m)).size ≤ 1024 := by rw [size_bs]; have := encM_len h; omega
section
attribute [-go_sem] loadCells storeVar
set_option maxRecDepth 100000 in
set_option maxHeartbeats 8000000 in
theorem mlPut_any (t : Int) (l : List MtM) (A : Option Addr) (c : Nat) (w : World) (hg : HasET w) (hr : Reads w w.heap.size 17 A l.length (cellsE l)) (hl : MtsR w w.heap.size l) (hn : l.length ≤ 1000) :
    Calls Tryz.prog 23 #[.int .i8 t, .slice A l.length c] w (PuP (putM t (l.map (·.x))).1 (putM t (l.map (·.x))).2 w) := by
  obtain ⟨i0, hi, hi0, hi1, hi2⟩ := info_parts infoWr
  have NM := Lib.hid (nMeta_any t w)
  have HR := Lib.hid hr
  have HL := Lib.hid hl
  have HN := Lib.hid hn
  have HG := Lib.hid hg
  obtain ⟨nm, hnm⟩ : ∃ nm, metaName t = nm := ⟨_, rfl⟩
  rw [hnm] at NM
  have HNM := Lib.hid hnm
  clear hr hl hn hg hnm
  by_cases hb : nm = ⟨#[]⟩ ∨ l.length = 0
  · have hP : putM t (l.map (·.x)) = ([], 2) := by unfold putM; rw [HNM.out, List.length_map, if_pos hb]
    rw [hP]
    clear hP
    by_cases h1 : nm = ⟨#[]⟩
    · subst h1
      clear hb
      go_enter Tryz.func23, Tryz.ntmps23
      go_wp2_with (go_at_call 50; refine NM.out.mono ?_; rintro e w1 ⟨rfl, rfl⟩)
      go_ret2
      exact ⟨none, 0, rfl, Reads.none_, Below.refl _ _⟩
    · have h2 : l.length = 0 := by rcases hb with h | h; exact absurd h h1; exact h
      have c1 : nm.toList.isEmpty = false := by rw [← HNM.out] at h1 ⊢; exact metaName_ne h1
      rw [h2]
      clear hb h1 h2
      go_enter Tryz.func23, Tryz.ntmps23
      go_wp2_with (go_at_call 50; refine NM.out.mono ?_; rintro e w1 ⟨rfl, rfl⟩)
      go_ret2
      exact ⟨none, 0, rfl, Reads.none_, Below.refl _ _⟩
  · have h1 : ¬ nm = ⟨#[]⟩ := fun h => hb (.inl h)
    have h2 : 0 < l.length := by rcases Nat.eq_zero_or_pos l.length with h | h; exact absurd (.inr h) hb; exact h
    have c1 : nm.toList.isEmpty = false := by have h := h1; rw [← HNM.out] at h ⊢; exact metaName_ne h
    have c2 : ((l.length : Int) == 0) = false := beq_eq_false_iff_ne.2 (by omega)
    have HB2 := Lib.hid hb
    obtain ⟨b, off, hA, hbB, hcells⟩ := HR.out.plainE h2
    have HC := Lib.hid hcells
    have HBB := Lib.hid hbB
    clear hb h1 hcells hbB
    subst hA
    go_enter Tryz.func23, Tryz.ntmps23
    go_wp2_with (go_at_call 50; refine NM.out.mono ?_; rintro e w1 ⟨rfl, rfl⟩)
    clear c1 c2
    go_loopg [7, 25] l.length (fun mm v y wq => ∃ k : Nat, k ≤ l.length ∧ y = .int .i64 k ∧ mm = l.length - k ∧ ((l.take k).map (·.x)).all mayM = true ∧ wq.ownsRow w.heap.size 57 4 v k (cellsQ (rowsQ nm ((l.take k).map (·.x)))) ∧ Below w.heap.size w wq)
    case atStart => exact ⟨0, Nat.zero_le _, rfl, rfl, rfl, World.ownsRow_nil _ _ _ _, Below.refl _ _⟩
    case round =>
      obtain ⟨k, hk, rfl, hmm, hall, how, hbw⟩ := hrel
      have HMM := Lib.hid hmm
      have HALL := Lib.hid hall
      have OW := Lib.hid how
      have BW' := Lib.hid hbw
      clear hmm hall how hbw
      by_cases hlt : k < l.length
      · have d1 : decide ((k : Int) < (l.length : Int)) = true := decide_eq_true (by omega)
        have i1 : (0 : Int) ≤ (k : Int) := by omega
        have i2 : (k : Int) < (l.length : Int) := by omega
        obtain ⟨y, hy⟩ : ∃ y, l[k]? = some y := ⟨_, List.getElem?_eq_getElem hlt⟩
        have HY := Lib.hid hy
        obtain ⟨b1, o1, hA1, _, hc1⟩ := (HR.out.below BW'.out).plainE (by omega)
        injection hA1 with hA1
        injection hA1 with e1 e2
        subst e1; subst e2
        have ld := hc1 k y hy
        clear hc1
        obtain ⟨W1, st1, k1, b1, s1⟩ := bk_fresh (P := Tryz.prog) wr 42 #[.int .i8 0, .int .i64 0, .int .i64 0, .int .i64 0, .int .i64 0, .int .i64 0, .bool false, .int .i64 0, .int .i8 0, .int .i64 0, .int .i64 0, .int .i64 0, .int .i64 0, .slice none 0 0, .slice none 0 0, .int .i64 0, .int .i64 0] (mtX y.x y.A y.D y.c y.e) 17 infoMt rfl (mtX_size ..) (mtX_one ..)
        have l1 := mt_load (P := Tryz.prog) k1
        have hcr : CoR W1 W1.heap.size y.x.c y.A y.D := (CoR.up (HL.out y (List.mem_of_getElem? hy)) (BW'.out.trans (b1.mono BW'.out.size)))
        have B1 := Lib.hid (BW'.out.trans (b1.mono BW'.out.size))
        have O1 := Lib.hid (own_below OW.out (b1.mono (Nat.le_refl _)))
        cases hmy : mayM y.x
        · have MW := Lib.hid (mlwrite_no y.x y.A y.D y.c y.e W1 hcr hmy)
          have HP := Lib.hid (putM_bad (t := t) hy hmy)
          clear hcr k1 b1 s1 hy hmy
          go_wp2_with fail
          refine MW.out.mono ?_
          rintro e w2 ⟨fb, rfl, hf, b2⟩
          have B2 := Lib.hid (B1.out.trans (b2.mono B1.out.size))
          have MC := Lib.hid (mlcode_fault fb 2 w2 (HG.out.up B2.out) hf)
          clear b2 hf l1 ld
          go_wp2_with fail
          refine MC.out.mono ?_
          rintro e w3 ⟨rfl, b3⟩
          have B3 := Lib.hid (B2.out.trans (b3.mono B2.out.size))
          clear b3
          go_wp2_with fail
          go_ret2
          rw [HP.out]
          exact ⟨none, 0, rfl, Reads.none_, B3.out⟩
        · have MW := Lib.hid (mlwrite_ok y.x y.A y.D y.c y.e W1 hcr hmy)
          have hsz := bs_enc_size hmy
          have HMY := Lib.hid hmy
          obtain ⟨Z, hZ⟩ : ∃ Z, bs (encM y.x) = Z := ⟨_, rfl⟩
          rw [hZ] at MW hsz
          have HZ := Lib.hid hZ
          have HSZ := Lib.hid hsz
          clear hcr k1 b1 s1 hy hmy hsz hZ
          go_wp2_with fail
          refine MW.out.mono ?_
          rintro e w2 ⟨rfl, b2⟩
          have B2 := Lib.hid (B1.out.trans (b2.mono B1.out.size))
          have O2 := Lib.hid (own_below O1.out b2)
          have FB := Lib.hid (bytes_ok Z w2 HSZ.out)
          clear b2 l1 ld
          go_wp2_with fail
          refine FB.out.mono ?_
          rintro e w3 ⟨rfl, b3⟩
          have B3 := Lib.hid (B2.out.trans (b3.mono B2.out.size))
          have O3 := Lib.hid (own_below O2.out b3)
          obtain ⟨F, hF⟩ : ∃ F, F = bs (headOf Z.size ++ lb Z) := ⟨_, rfl⟩
          rw [← hF]
          have HF := Lib.hid (show frOf (bs (encM y.x)) = F by rw [HZ.out, hF]; rfl)
          have hn := HN.out
          have hsz3 := B3.out.size
          clear b3 hF
          go_wp2_with (at_builtin; refine wpList_append_any _ rfl (.tmp 46) (.tmp 50) 47 rfl w.heap.size 57 i0 _ 4 48 Tryz.underlying47 hi hi0 hi1 hi2 rfl (by decide) _ k _ (by rfl) (O3.out.alloc _) _ _ 1 1 (cellsQ [(0, nm, F)]) (by rfl) (reads_wr w3 _ (0, nm, F) _ rfl) (cellsQ_one _) (by unfold maxLen; omega) (by omega) (by simp; omega) ?_; intro v' w8 hown' hgrow hat')
          have R1 := Lib.hid (show w8.ownsRow w.heap.size 57 4 v' (k + 1) (cellsQ (rowsQ nm ((l.take (k + 1)).map (·.x)))) from by
            rw [← rowsQ_take HY.out, cellsQ_append, HF.out]
            exact hown')
          have R2 := Lib.hid (show Below w.heap.size w w8 from (bal B3.out _).grown hgrow (by simp; omega) (fun x hx => (O3.out.lt x hx).1))
          have R3 := Lib.hid (all_take HY.out HALL.out HMY.out)
          clear hown' hgrow hat' hn hsz3
          go_wp2_with fail
          go_roundg (l.length - k - 1)
          case measure => have := HMM.out; omega
          case rel => have := HN.out; exact ⟨k + 1, by omega, by (first | rfl | (rw [IntWalk.wrap64_in _ (by omega)]; rfl) | (rw [IntWalk.i64_in _ (by omega)]; rfl)), by omega, R3.out, R1.out, R2.out⟩
      · have hkn : k = l.length := by omega
        have d1 : decide ((k : Int) < (l.length : Int)) = false := decide_eq_false (by omega)
        have HP := Lib.hid (show putM t (l.map (·.x)) = (rowsQ nm (l.map (·.x)) ++ [(1, nm, ⟨#[]⟩)], 0) from by
          have h := HALL.out
          rw [hkn, List.take_length] at h
          unfold putM
          rw [HNM.out, List.length_map, if_neg HB2.out, if_pos h])
        have OF := Lib.hid (show wr.ownsRow w.heap.size 57 4 _ l.length (cellsQ (rowsQ nm (l.map (·.x)))) from by
          have h := OW.out
          rw [hkn, List.take_length] at h
          exact h)
        have hn := HN.out
        have hsz3 := BW'.out.size
        go_wp2_with (at_builtin; refine wpList_append_any _ rfl (.tmp 53) (.tmp 56) 47 rfl w.heap.size 57 i0 _ 4 48 Tryz.underlying47 hi hi0 hi1 hi2 rfl (by decide) _ l.length _ (by rfl) (OF.out.alloc _) _ _ 1 1 (cellsQ [(1, nm, ⟨#[]⟩)]) (by rfl) (reads_wr wr _ (1, nm, ⟨#[]⟩) _ rfl) (cellsQ_one _) (by unfold maxLen; omega) (by omega) (by simp; omega) ?_; intro v' w8 hown' hgrow hat'; obtain ⟨A8, c8, rfl, hc8⟩ := own_slice hown')
        have R2 := Lib.hid (show Below w.heap.size w w8 from (bal BW'.out _).grown hgrow (by simp; omega) (fun x hx => (OF.out.lt x hx).1))
        have R1 := Lib.hid (Reads.of_own hown')
        go_wp2_with fail
        go_ret2
        rw [HP.out]
        refine ⟨A8, c8, ?_, ?_, R2.out⟩
        · simp [rowsQ_len]
        · have h := R1.out
          rw [← cellsQ_append] at h
          have e : (rowsQ nm (l.map fun y : MtM => y.x) ++ [(1, nm, (⟨#[]⟩ : ByteArray))]).length = l.length + 1 := by simp [rowsQ_len]
          show Reads _ _ 4 A8 (rowsQ nm (l.map fun y : MtM => y.x) ++ [(1, nm, (⟨#[]⟩ : ByteArray))]).length _
          rw [e]
          exact h
end
end Go.Proofs.YtbpkckahonmpkaaGreatDoor
namespace Go.Proofs.YtbpkckahonmpkaaGreatDoor
open Go.RowKit
def wk1 : Mt := ⟨1, 2, 5, Pd0, false, 0, Co0, 0⟩
theorem wk1_may : mayM wk1 = true := by
  unfold mayM fitM bareM sameM wk1
  simp [sameB, Co0, Pd0]
theorem wk1_enc : encM wk1 = [1, 2, 5] := by decide +kernel
theorem wk0_may : mayM MtNil = true := by
  unfold mayM fitM bareM sameM MtNil
  simp [sameB, Co0, Pd0]
theorem wk0_enc : encM MtNil = [0] := by decide +kernel
theorem wk_read : readM 7 6 (lb ⟨#[0]⟩) = (MtNil, 0) := by
  have : lb ⟨#[0]⟩ = encM MtNil := by rw [wk0_enc]; rfl
  rw [this]
  exact readM_ok (by decide) (by decide) (by decide) (by decide) wk0_may
section
attribute [-go_sem] loadCells storeVar
set_option maxRecDepth 100000 in
set_option maxHeartbeats 8000000 in
theorem wakes19 (w : World) (hg : HasET w) : Calls Tryz.prog 15 #[] w fun e w' => e = .returned (.bool true) ∧ Below w.heap.size w w' := by
  have MB := mlBytes_any wk1 none none 0 0 w hg (co0_R _ _)
  unfold bytesM at MB
  rw [if_pos wk1_may, wk1_enc] at MB
  have MB := Lib.hid (show Calls Tryz.prog 16 #[.agg #[.int .i8 1, .int .i64 2, .int .i64 5, .int .i64 0, .int .i64 0, .int .i64 0, .bool false, .int .i64 0, .int .i8 0, .int .i64 0, .int .i64 0, .int .i64 0, .int .i64 0, .slice none 0 0, .slice none 0 0, .int .i64 0, .int .i64 0]] w (MbPost ⟨#[1, 2, 5]⟩ 0 w) from MB)
  have HG := Lib.hid hg
  clear hg
  go_enter Tryz.func15, Tryz.ntmps15
  go_wp2_with fail
  refine MB.out.mono ?_
  rintro e w1 ⟨rfl, b1⟩
  have B1 := Lib.hid b1
  have RD := mlRead_any ⟨#[0]⟩ w1 (HG.out.up b1) (by decide)
  rw [wk_read] at RD
  have RD := Lib.hid RD
  clear b1
  go_wp2_with fail
  refine RD.out.mono ?_
  rintro e w2 ⟨D, e', rfl, hc, b2⟩
  obtain ⟨W3, st3, k3, b3, s3⟩ := bk_fresh (P := Tryz.prog) w2 42 #[.int .i8 0, .int .i64 0, .int .i64 0, .int .i64 0, .int .i64 0, .int .i64 0, .bool false, .int .i64 0, .int .i8 0, .int .i64 0, .int .i64 0, .int .i64 0, .int .i64 0, .slice none 0 0, .slice none 0 0, .int .i64 0, .int .i64 0] (mtX MtNil none D 0 e') 17 infoMt rfl (mtX_size ..) (mtX_one ..)
  have B3 := Lib.hid (B1.out.trans ((b2.trans (b3.mono b2.size)).mono B1.out.size))
  have K3 := Lib.hid k3
  obtain ⟨W4, hW4⟩ : ∃ W4, W4 = W3.alloc (.cells #[.int .i8 0, .int .i64 0, .int .i64 0, .int .i64 0, .int .i64 0, .int .i64 0, .bool false, .int .i64 0, .int .i8 0, .int .i64 0, .int .i64 0, .int .i64 0, .int .i64 0, .slice none 0 0, .slice none 0 0, .int .i64 0, .int .i64 0] 42) := ⟨_, rfl⟩
  have k4 : Blk W4 W3.heap.size 42 #[.int .i8 0, .int .i64 0, .int .i64 0, .int .i64 0, .int .i64 0, .int .i64 0, .bool false, .int .i64 0, .int .i8 0, .int .i64 0, .int .i64 0, .int .i64 0, .int .i64 0, .slice none 0 0, .slice none 0 0, .int .i64 0, .int .i64 0] := by rw [hW4]; exact Blk.new _ _ _
  have B4 := Lib.hid (show Below w.heap.size w W4 by rw [hW4]; exact bal B3.out _)
  have K34 := Lib.hid (show Blk W4 w2.heap.size 42 (mtX MtNil none D 0 e') by rw [hW4]; exact K3.out.alloc _)
  have hr : Reads W4 W4.heap.size 17 (some ⟨W3.heap.size, 0, none⟩) [(⟨MtNil, none, none, 0, 0⟩ : MtM)].length (cellsE [⟨MtNil, none, none, 0, 0⟩]) := ⟨rfl, fun _ => ⟨_, rfl, k4.lt, fun j u hu => by
    rw [add_none, Nat.zero_add, k4.cell]
    have : (cellsE [(⟨MtNil, none, none, 0, 0⟩ : MtM)]) = #[.int .i8 0, .int .i64 0, .int .i64 0, .int .i64 0, .int .i64 0, .int .i64 0, .bool false, .int .i64 0, .int .i8 0, .int .i64 0, .int .i64 0, .int .i64 0, .int .i64 0, .slice none 0 0, .slice none 0 0, .int .i64 0, .int .i64 0].toList := rfl
    rw [this] at hu
    simpa using hu⟩⟩
  have PU := mlPut_any 1 [⟨MtNil, none, none, 0, 0⟩] (some ⟨W3.heap.size, 0, none⟩) 1 W4 (HG.out.up B4.out) hr (fun y hy => by simp only [List.mem_cons, List.not_mem_nil, or_false] at hy; subst hy; exact co0_R _ _) (by decide)
  have hp : putM 1 ([(⟨MtNil, none, none, 0, 0⟩ : MtM)].map (·.x)) = ([(0, ⟨#[98, 109]⟩, frOf (bs (encM MtNil))), (1, ⟨#[98, 109]⟩, ⟨#[]⟩)], 0) := by
    have hn : metaName 1 = ⟨#[98, 109]⟩ := rfl
    unfold putM
    rw [hn, if_neg (by rintro (h | h); exact absurd (congrArg ByteArray.data h) (by simp); cases h), if_pos (by simp [wk0_may])]
    rfl
  rw [hp] at PU
  have PU := Lib.hid PU
  have HW4 := Lib.hid hW4
  clear hr hp k4 hc b2 k3 b3 s3 hW4
  go_wp2_with fail
  rw [← HW4.out]
  refine PU.out.mono ?_
  rintro e w5 ⟨A5, c5, rfl, r5, b5⟩
  have B5 := Lib.hid (B4.out.trans (b5.mono B4.out.size))
  obtain ⟨b, off, rfl, hb, hcells⟩ := r5.plainQ (by decide)
  have q0 := (hcells 0 _ rfl).2.1
  have q1 := (hcells 1 _ rfl).1
  have x0 : w5.cell? ⟨w2.heap.size, 0, none⟩ = some (.int .i8 0) := mt_cell (K34.out.below b5 K34.out.lt) (j := 0) rfl
  clear r5 b5 hcells st3
  go_wp2_with fail
  go_ret
  exact ⟨rfl, B5.out⟩
end
end Go.Proofs.YtbpkckahonmpkaaGreatDoor
