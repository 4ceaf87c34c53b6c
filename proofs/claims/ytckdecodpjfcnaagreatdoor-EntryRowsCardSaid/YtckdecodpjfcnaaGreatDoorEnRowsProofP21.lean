/-
  Arguments that are slices of entries, opened.
  Layer 7: loads read, one behind the other, by the program and by the document.
  The statement EntryRows: its walk.
  Arguments that are structs and slices of structs, opened. (After the guide's page on structs.)
  Arguments that are batches, opened.
  Arguments that are requests, and slices of requests, opened.
  Arguments that are entries, producers, opened.
-/
import Derived.Test.YtckdecodpjfcnaaGreatDoorEnRowsProofP20
import Derived.Deep.Slices
import Derived.Deep.Fields
import Derived.ChangeSame
import Derived.Lib.SmallJoins
set_option linter.unusedVariables false
set_option linter.unusedSimpArgs false
namespace Go.Proofs.YtckdecodpjfcnaaGreatDoor
open Go.RowKit
theorem infoEnFul : (Tryz.prog.info? 32).map (fun i => (i.zero, i.size, i.bytes)) = some (some (.agg ezero), 18, 192) := by kernel_rfl
theorem build_enA (x : En) (A D : Option Addr) (c e : Nat) : Array.foldl (fun cs x => cs.setIfInBounds x.snd x.fst) #[.int .i8 0, .int .i64 0, .int .i64 0, .int .i64 0, .bool false, .slice none 0 0, .bool false, .int .i64 0, .int .i64 0, .int .i64 0, .int .i64 0, .int .i64 0, .string ⟨#[]⟩, .string ⟨#[]⟩, .int .i64 0, .int .i64 0, .int .i64 0, .slice none 0 0] (enX x A D c e).zipIdx 0 18 = enX x A D c e := by
  simp [enX, enL]
theorem reads_en (w : World) (t : TypeId) (y : EnM) (g : Nat) (hg : w.heap.size = g) : Reads (w.alloc (.cells (enX y.x y.A y.D y.c y.e) t)) (g + 1) 18 (some ⟨g, 0, none⟩) 1 (cE7 y) := by
  subst hg
  refine ⟨by rw [cE7_len], fun _ => ⟨_, rfl, Nat.lt_succ_self _, fun j u hu => ?_⟩⟩
  rw [add_none, Nat.zero_add]
  rw [(Blk.new w t _).cell j]
  simpa [enX, cE7] using hu
def ErX (x : En) (n : Int) (w : World) (e : Ending) (w' : World) : Prop :=
  ∃ A D c e', e = .returned (.tuple #[.agg (enX x A D c e'), .int .i64 n]) ∧ EnR w' x A D ∧ Below w.heap.size w w' ∧ NwE w.heap.size A D
theorem ErRn.x {x : En} {n : Int} {w : World} {e : Ending} {w' : World} (h : ErRn x n w e w') : ErX x n w e w' := h
theorem enRead_X (s : ByteArray) (w : World) (hl : s.size ≤ 100000) (hg : HasET w) :
    Calls Tryz.prog 21 #[.string s] w (ErX (readE 1 1048575 6 (lb s)).1 (readE 1 1048575 6 (lb s)).2 w) :=
  (EnRead_new s w hl hg).mono fun _ _ h => h.x
theorem rEnRead_X (s : ByteArray) (w : World) (hl : s.size ≤ 100000) :
    Calls Tryz.prog 22 #[.string s] w (ErX (readE 1 1048575 6 (lb s)).1 (readE 1 1048575 6 (lb s)).2 w) := by
  have h := rEnRead_new s w hl
  rw [readE_same (z := 0) (m := 1048576) (K := 127) (z' := 1) (m' := 1048575) (K' := 6) (by decide) (by decide) (by decide) (by decide) (by decide) (by decide) (by decide) (by decide) (by decide) (by decide)] at h
  exact h.mono fun _ _ h => h.x
noncomputable def enS (s : ByteArray) : En := (readE 1 1048575 6 (lb s)).1
theorem readE_two (s : ByteArray) : (readE 1 1048575 6 (lb s)).2 = 0 ∨ (readE 1 1048575 6 (lb s)).2 = 70 := by
  rcases readE_cases 1 1048575 6 (lb s) with ⟨x, h, _⟩ | h
  · exact .inl (by rw [h])
  · exact .inr (by rw [h])
open Classical in
noncomputable def allE (ss : List ByteArray) : List En × Int := if ∀ s ∈ ss, (readE 1 1048575 6 (lb s)).2 = 0 then (ss.map enS, 0) else ([], 70)
def AlP7 (r : List En) (n : Int) (w : World) (e : Ending) (w' : World) : Prop := ∃ (l : List EnM) (A : Option Addr) (c : Nat), l.map (·.x) = r ∧ e = .returned (.tuple #[.slice A l.length c, .int .i64 n]) ∧ Reads w' w'.heap.size 18 A l.length (cellsE7 l) ∧ EnsR w' l ∧ Below w.heap.size w w'
/-- What each leaves. -/
def EaP7 (r : List En) (n : Int) (w : World) (e : Ending) (w' : World) : Prop :=
  (n = 0 ∧ ∃ (l : List EnM) (A : Option Addr) (c : Nat), l.map (·.x) = r ∧ e = .returned (.tuple #[.slice A l.length c, .nilIface]) ∧ Reads w' w'.heap.size 18 A l.length (cellsE7 l) ∧ EnsR w' l ∧ Below w.heap.size w w') ∨
  (r = [] ∧ ∃ fb, e = .returned (.tuple #[.slice none 0 0, .iface 121 (.pointer (some ⟨fb, 0, none⟩))]) ∧ w'.cell? ⟨fb, 1, none⟩ = some (.int .i64 n) ∧ Below w.heap.size w w')
/-- What holds of the entries that are read so far. -/
def OffE (v : Value) (y : EnM) : Prop := (∀ ad, 0 < y.x.b.rs.length → y.A = some ad → v.ownBlock ≠ some ad.block) ∧ ∀ ad, 0 < y.x.prod.seen.length → y.D = some ad → v.ownBlock ≠ some ad.block
def AlS7 (base : Nat) (l : List EnM) (v : Value) (W : World) : Prop :=
  W.ownsRow base 32 18 v l.length (cellsE7 l) ∧ ∀ y ∈ l, EnR W y.x y.A y.D ∧ OffE v y
theorem AlS7.below {base : Nat} {l : List EnM} {v : Value} {W W' : World} (h : AlS7 base l v W) (k : Below W.heap.size W W') : AlS7 base l v W' :=
  ⟨own_below h.1 k, fun y hy => ⟨(h.2 y hy).1.up k, (h.2 y hy).2⟩⟩
theorem reads_grown7 {w w' : World} {size n : Nat} {xs : List Value} {D : Option Addr} {row : Option Nat} (h : Reads w w.heap.size size D n xs) (k : w.grownBy w' row) (off : ∀ ad : Addr, 0 < n → D = some ad → row ≠ some ad.block) : Reads w' w'.heap.size size D n xs := by
  refine ⟨h.1, fun hn => ?_⟩
  obtain ⟨ad, hd, hb, hc⟩ := h.2 hn
  refine ⟨ad, hd, Nat.lt_of_lt_of_le hb k.size, fun j u hu => ?_⟩
  rw [← hc j u hu]
  exact World.cell?_of_block (by rw [block_of_add]; exact k.block _ hb (fun e => off ad hn hd e.symm))
theorem reads_lt7 {w : World} {B size n : Nat} {xs : List Value} {D : Option Addr} {ad : Addr} (h : Reads w B size D n xs) (hn : 0 < n) (hd : D = some ad) : ad.block < B := by
  obtain ⟨ad', hd', hb, _⟩ := h.2 hn
  rw [hd] at hd'
  injection hd' with hd'
  subst hd'
  exact hb
theorem AlS7.snoc {base : Nat} {l : List EnM} {v v' : Value} {W W' : World} {y : EnM} (h : AlS7 base l v W) (hc : EnR W y.x y.A y.D) (off : OffE v y)
    (how : W'.ownsRow base 32 18 v' (l.length + 1) (cellsE7 l ++ cE7 y)) (hg : (W.alloc (.cells (enX y.x y.A y.D y.c y.e) 32)).grownBy W' v.ownBlock) (hat : v'.ownBlock = v.ownBlock ∨ v'.ownBlock = some (W.alloc (.cells (enX y.x y.A y.D y.c y.e) 32)).heap.size) : AlS7 base (l ++ [y]) v' W' := by
  have key : ∀ z : EnM, EnR W z.x z.A z.D → OffE v z → EnR W' z.x z.A z.D ∧ OffE v' z := fun z h2 h3 => by
    have h4 := h2.up (bal (Below.refl _ _) (.cells (enX y.x y.A y.D y.c y.e) 32))
    refine ⟨⟨reads_grown7 h4.1 hg h3.1, reads_grown7 h4.2.1 hg h3.2, h2.2.2⟩, fun ad h0 hd => ?_, fun ad h0 hd => ?_⟩
    · rcases hat with e | e
      · rw [e]; exact h3.1 ad h0 hd
      · rw [e]
        intro e2
        injection e2 with e2
        have := reads_lt7 h4.1 h0 hd
        omega
    · rcases hat with e | e
      · rw [e]; exact h3.2 ad h0 hd
      · rw [e]
        intro e2
        injection e2 with e2
        have := reads_lt7 h4.2.1 h0 hd
        omega
  refine ⟨by rw [List.length_append, cellsE7_snoc]; exact how, fun z hz => ?_⟩
  rcases List.mem_append.1 hz with h1 | h1
  · exact key z (h.2 z h1).1 (h.2 z h1).2
  · simp only [List.mem_cons, List.not_mem_nil, or_false] at h1
    subst h1
    exact key _ hc off
theorem allE_no {ss : List ByteArray} {k : Nat} {s : ByteArray} (hs : ss[k]? = some s) (h : (readE 1 1048575 6 (lb s)).2 = 70) : allE ss = ([], 70) := by
  unfold allE
  rw [if_neg]
  intro h2
  have := h2 s (List.mem_of_getElem? hs)
  rw [h] at this
  cases this
theorem allE_ok {ss : List ByteArray} (h : ∀ s ∈ ss, (readE 1 1048575 6 (lb s)).2 = 0) : allE ss = (ss.map enS, 0) := by
  unfold allE
  rw [if_pos h]
theorem made_en (n : Nat) : (madeCells (Value.agg ezero).cells (n * 18)).size = n * 18 := by simp [madeCells, ezero]
theorem own_madeE (w : World) (n : Nat) (hn : n ≤ 1000000) : (w.alloc (.cells (madeCells (Value.agg ezero).cells (n * 18)) 32)).ownsRow w.heap.size 32 18 (.slice (some ⟨w.heap.size, 0, none⟩) 0 n) 0 [] := by
  refine ⟨rfl, .inr ⟨w.heap.size, n, _, rfl, Nat.le_refl _, heap_alloc_new w _, by omega, by unfold maxLen; omega, made_en n, by simp⟩⟩
section
attribute [-go_sem] loadCells storeVar
set_option maxRecDepth 100000 in
set_option maxHeartbeats 8000000 in
theorem eachR_any (ss : List ByteArray) (A : Option Addr) (c : Nat) (w : World) (hg : HasET w) (hr : Reads w w.heap.size 1 A ss.length (cellsS ss)) (hs : ∀ s ∈ ss, s.size ≤ 100000) (hn : ss.length ≤ 1000) :
    Calls Tryz.prog 60 #[.slice A ss.length c, .func (.func 21) #[] #[]] w (EaP7 (allE ss).1 (allE ss).2 w) := by
  obtain ⟨i0, hi, hi0, hi1, hi2⟩ := info_parts infoEnFul
  have HR := Lib.hid hr
  have HS := Lib.hid hs
  have HN := Lib.hid hn
  have HG := Lib.hid hg
  have hmk := run_make_rowN (P := Tryz.prog) 49 32 i0 _ Tryz.underlying49 hi hi0 .i64 .i64 0 ss.length (by omega) (by rw [hi2]; omega) (by omega) w
  rw [hi1] at hmk
  obtain ⟨W1, hW1⟩ : ∃ W1, W1 = w.alloc (.cells (madeCells (Value.agg ezero).cells (ss.length * 18)) 32) := ⟨_, rfl⟩
  have O1 : W1.ownsRow w.heap.size 32 18 (.slice (some ⟨w.heap.size, 0, none⟩) 0 ss.length) 0 [] := by rw [hW1]; exact own_madeE w _ (by omega)
  have B1 : Below w.heap.size w W1 := by rw [hW1]; exact bal (Below.refl _ _) _
  rw [show ((0 : Nat) : Int) = 0 from rfl, ← hW1] at hmk
  have O1' := Lib.hid O1
  have B1' := Lib.hid B1
  clear hg hr hs hn hW1 O1 B1
  go_enter Tryz.func60, Tryz.ntmps60
  go_wp2_with fail
  go_loopg [6, 16] ss.length (fun mm v y wq => ∃ (k : Nat) (l : List EnM), k ≤ ss.length ∧ y = .int .i64 k ∧ mm = ss.length - k ∧ l.length = k ∧ (∀ s ∈ ss.take k, (readE 1 1048575 6 (lb s)).2 = 0) ∧ l.map (·.x) = (ss.take k).map enS ∧ AlS7 w.heap.size l v wq ∧ Below w.heap.size w wq)
  case atStart => exact ⟨0, [], Nat.zero_le _, rfl, rfl, rfl, fun s hs => by simp at hs, rfl, ⟨O1'.out, fun y hy => by cases hy⟩, B1'.out⟩
  case round =>
    obtain ⟨k, l, hk, rfl, hmm, hll, hall, hmap, hst, hbw⟩ := hrel
    have HMM := Lib.hid hmm
    have HLL := Lib.hid hll
    have HALL := Lib.hid hall
    have HMAP := Lib.hid hmap
    have HST := Lib.hid hst
    have BW' := Lib.hid hbw
    clear hmm hll hall hmap hst hbw hmk
    by_cases hlt : k < ss.length
    · have d1 : decide ((k : Int) < (ss.length : Int)) = true := decide_eq_true (by omega)
      have i1 : (0 : Int) ≤ (k : Int) := by omega
      have i2 : (k : Int) < (ss.length : Int) := by omega
      obtain ⟨s, hsk⟩ : ∃ s, ss[k]? = some s := ⟨_, List.getElem?_eq_getElem hlt⟩
      obtain ⟨b, off, hA, hbB, hcells⟩ := (HR.out.below BW'.out).plain (by omega)
      subst hA
      have ld : wr.cell? ⟨b, off + k, none⟩ = some (.string s) := hcells k _ (by rw [getElem?_cellsS, hsk]; rfl)
      have HSK := Lib.hid hsk
      have hsz := HS.out s (List.mem_of_getElem? hsk)
      have RA := enRead_X s wr hsz (HG.out.up BW'.out)
      have HES := Lib.hid (show enS s = (readE 1 1048575 6 (lb s)).1 from rfl)
      have hn2 : Hid ((readE 1 1048575 6 (lb s)).2 = 0 ∨ (readE 1 1048575 6 (lb s)).2 = 70) := Lib.hid (readE_two s)
      obtain ⟨x, hx⟩ : ∃ x, (readE 1 1048575 6 (lb s)).1 = x := ⟨_, rfl⟩
      obtain ⟨n, hnn⟩ : ∃ n, (readE 1 1048575 6 (lb s)).2 = n := ⟨_, rfl⟩
      rw [hx, hnn] at RA
      have RA := Lib.hid RA
      have HX := Lib.hid hx
      have HNN := Lib.hid hnn
      clear hcells hsk hsz hx hnn
      go_wp2_with fail
      refine RA.out.mono ?_
      rintro e w2 ⟨A2, D2, c2, e2, rfl, er, b2, nw⟩
      obtain ⟨W3, st3, k3, b3⟩ := fresh_enX w2 x A2 D2 c2 e2
      have l3 := en_load k3
      have B3 := Lib.hid (BW'.out.trans ((b2.trans (b3.mono b2.size)).mono BW'.out.size))
      obtain ⟨Y, hY⟩ : ∃ Y : EnM, Y = ⟨x, A2, D2, c2, e2⟩ := ⟨_, rfl⟩
      rcases (show n = 0 ∨ n = 70 by have := hn2.out; rw [HNN.out] at this; exact this) with rfl | rfl
      · have S3 := Lib.hid (HST.out.below (b2.trans (b3.mono b2.size)))
        have HYX := Lib.hid (show Y.x = enS s by rw [hY, HES.out, HX.out])
        have C4 := Lib.hid (show EnR W3 Y.x Y.A Y.D by rw [hY]; exact er.up b3)
        have O4 := Lib.hid (show OffE u6 Y by
          rw [hY]
          refine ⟨fun ad _ h2 e => ?_, fun ad _ h2 e => ?_⟩
          · have := nw.1 ad h2
            have := (HST.out.1.lt _ e).2
            omega
          · have := nw.2 ad h2
            have := (HST.out.1.lt _ e).2
            omega)
        have HXE : enX x A2 D2 c2 e2 = enX Y.x Y.A Y.D Y.c Y.e := by rw [hY]
        rw [HXE] at st3 l3
        rw [HXE]
        have hsY : (enX Y.x Y.A Y.D Y.c Y.e).size = 18 := enX_size ..
        have hbY := build_enA Y.x Y.A Y.D Y.c Y.e
        have hn := HN.out
        have hsz3 := B3.out.size
        clear er b2 k3 b3 nw hY HXE
        go_wp2_with (at_builtin; refine wpList_append_any _ rfl (.tmp 34) (.tmp 36) 49 rfl w.heap.size 32 i0 _ 18 192 Tryz.underlying49 hi hi0 hi1 hi2 rfl (by decide) _ l.length _ (by rfl) (S3.out.1.alloc _) _ _ 1 1 (cE7 Y) (by rfl) (reads_en W3 _ Y _ rfl) (cE7_one Y) (by have := HLL.out; unfold maxLen; omega) (by have := HLL.out; omega) (by simp; omega) ?_; intro v' w8 hown' hgrow hat')
        have R1 := Lib.hid (S3.out.snoc C4.out O4.out hown' hgrow hat')
        have R2 := Lib.hid (show Below w.heap.size w w8 from (bal B3.out _).grown hgrow (by simp; omega) (fun x hx => (S3.out.1.lt x hx).1))
        clear hown' hgrow hat' hn hsz3
        go_wp2_with fail
        go_roundg (ss.length - k - 1)
        case measure => have := HMM.out; omega
        case rel =>
          have := HN.out
          refine ⟨k + 1, l ++ [Y], by omega, by (first | rfl | (rw [IntWalk.wrap64_in _ (by omega)]; rfl) | (rw [IntWalk.i64_in _ (by omega)]; rfl)), by omega, by rw [List.length_append, HLL.out]; rfl, all_snoc HSK.out HALL.out HNN.out, ?_, R1.out, R2.out⟩
          rw [map_snoc enS HSK.out, List.map_append, HMAP.out]
          simp [HYX.out]
      · have HA := Lib.hid (allE_no HSK.out HNN.out)
        clear er b2 k3 b3 nw hY
        go_wp2_with fail
        go_ret2
        rw [HA.out]
        refine .inr ⟨rfl, _, rfl, ?_, ?_⟩
        · go_simp
        · exact bal B3.out _
    · have hkn : k = ss.length := by omega
      have d1 : decide ((k : Int) < (ss.length : Int)) = false := decide_eq_false (by omega)
      have HA := Lib.hid (allE_ok (ss := ss) (by
        have h := HALL.out
        rw [hkn, List.take_length] at h
        exact h))
      have HM2 := Lib.hid (show l.map (·.x) = ss.map enS by have h := HMAP.out; rw [hkn, List.take_length] at h; exact h)
      obtain ⟨A8, c8, rfl, hc8⟩ := own_slice HST.out.1
      go_wp2_with fail
      go_ret2
      rw [HA.out]
      exact .inl ⟨rfl, l, A8, c8, HM2.out, rfl, Reads.of_own HST.out.1, fun y hy => (HST.out.2 y hy).1, BW'.out⟩
set_option maxRecDepth 100000 in
set_option maxHeartbeats 8000000 in
theorem rAll07_any (ss : List ByteArray) (A : Option Addr) (c : Nat) (w : World) (hr : Reads w w.heap.size 1 A ss.length (cellsS ss)) (hs : ∀ s ∈ ss, s.size ≤ 100000) (hn : ss.length ≤ 1000) :
    Calls Tryz.prog 27 #[.slice A ss.length c] w (AlP7 (allE ss).1 (allE ss).2 w) := by
  obtain ⟨i0, hi, hi0, hi1, hi2⟩ := info_parts infoEnFul
  have HR := Lib.hid hr
  have HS := Lib.hid hs
  have HN := Lib.hid hn
  skip
  clear hr hs hn
  go_enter Tryz.func27, Tryz.ntmps27
  go_wp2_with fail
  go_loopg [4, 5] ss.length (fun mm v y wq => ∃ (k : Nat) (l : List EnM), k ≤ ss.length ∧ y = .int .i64 k ∧ mm = ss.length - k ∧ l.length = k ∧ (∀ s ∈ ss.take k, (readE 1 1048575 6 (lb s)).2 = 0) ∧ l.map (·.x) = (ss.take k).map enS ∧ AlS7 w.heap.size l v wq ∧ Below w.heap.size w wq)
  case atStart => exact ⟨0, [], Nat.zero_le _, rfl, rfl, rfl, fun s hs => by simp at hs, rfl, ⟨World.ownsRow_nil _ _ _ _, fun y hy => by cases hy⟩, Below.refl _ _⟩
  case round =>
    obtain ⟨k, l, hk, rfl, hmm, hll, hall, hmap, hst, hbw⟩ := hrel
    have HMM := Lib.hid hmm
    have HLL := Lib.hid hll
    have HALL := Lib.hid hall
    have HMAP := Lib.hid hmap
    have HST := Lib.hid hst
    have BW' := Lib.hid hbw
    clear hmm hll hall hmap hst hbw
    by_cases hlt : k < ss.length
    · have d1 : decide ((k : Int) < (ss.length : Int)) = true := decide_eq_true (by omega)
      have i1 : (0 : Int) ≤ (k : Int) := by omega
      have i2 : (k : Int) < (ss.length : Int) := by omega
      obtain ⟨s, hsk⟩ : ∃ s, ss[k]? = some s := ⟨_, List.getElem?_eq_getElem hlt⟩
      obtain ⟨b, off, hA, hbB, hcells⟩ := (HR.out.below BW'.out).plain (by omega)
      subst hA
      have ld : wr.cell? ⟨b, off + k, none⟩ = some (.string s) := hcells k _ (by rw [getElem?_cellsS, hsk]; rfl)
      have HSK := Lib.hid hsk
      have hsz := HS.out s (List.mem_of_getElem? hsk)
      have RA := rEnRead_X s wr hsz
      have HES := Lib.hid (show enS s = (readE 1 1048575 6 (lb s)).1 from rfl)
      have hn2 : Hid ((readE 1 1048575 6 (lb s)).2 = 0 ∨ (readE 1 1048575 6 (lb s)).2 = 70) := Lib.hid (readE_two s)
      obtain ⟨x, hx⟩ : ∃ x, (readE 1 1048575 6 (lb s)).1 = x := ⟨_, rfl⟩
      obtain ⟨n, hnn⟩ : ∃ n, (readE 1 1048575 6 (lb s)).2 = n := ⟨_, rfl⟩
      rw [hx, hnn] at RA
      have RA := Lib.hid RA
      have HX := Lib.hid hx
      have HNN := Lib.hid hnn
      clear hcells hsk hsz hx hnn
      go_wp2_with fail
      refine RA.out.mono ?_
      rintro e w2 ⟨A2, D2, c2, e2, rfl, er, b2, nw⟩
      obtain ⟨W3, st3, k3, b3⟩ := fresh_enX w2 x A2 D2 c2 e2
      have l3 := en_load k3
      have B3 := Lib.hid (BW'.out.trans ((b2.trans (b3.mono b2.size)).mono BW'.out.size))
      obtain ⟨Y, hY⟩ : ∃ Y : EnM, Y = ⟨x, A2, D2, c2, e2⟩ := ⟨_, rfl⟩
      rcases (show n = 0 ∨ n = 70 by have := hn2.out; rw [HNN.out] at this; exact this) with rfl | rfl
      · have S3 := Lib.hid (HST.out.below (b2.trans (b3.mono b2.size)))
        have HYX := Lib.hid (show Y.x = enS s by rw [hY, HES.out, HX.out])
        have C4 := Lib.hid (show EnR W3 Y.x Y.A Y.D by rw [hY]; exact er.up b3)
        have O4 := Lib.hid (show OffE u4 Y by
          rw [hY]
          refine ⟨fun ad _ h2 e => ?_, fun ad _ h2 e => ?_⟩
          · have := nw.1 ad h2
            have := (HST.out.1.lt _ e).2
            omega
          · have := nw.2 ad h2
            have := (HST.out.1.lt _ e).2
            omega)
        have HXE : enX x A2 D2 c2 e2 = enX Y.x Y.A Y.D Y.c Y.e := by rw [hY]
        rw [HXE] at st3 l3
        rw [HXE]
        have hsY : (enX Y.x Y.A Y.D Y.c Y.e).size = 18 := enX_size ..
        have hbY := build_enA Y.x Y.A Y.D Y.c Y.e
        have hn := HN.out
        have hsz3 := B3.out.size
        clear er b2 k3 b3 nw hY HXE
        go_wp2_with (at_builtin; refine wpList_append_any _ rfl (.tmp 25) (.tmp 27) 49 rfl w.heap.size 32 i0 _ 18 192 Tryz.underlying49 hi hi0 hi1 hi2 rfl (by decide) _ l.length _ (by rfl) (S3.out.1.alloc _) _ _ 1 1 (cE7 Y) (by rfl) (reads_en W3 _ Y _ rfl) (cE7_one Y) (by have := HLL.out; unfold maxLen; omega) (by have := HLL.out; omega) (by simp; omega) ?_; intro v' w8 hown' hgrow hat')
        have R1 := Lib.hid (S3.out.snoc C4.out O4.out hown' hgrow hat')
        have R2 := Lib.hid (show Below w.heap.size w w8 from (bal B3.out _).grown hgrow (by simp; omega) (fun x hx => (S3.out.1.lt x hx).1))
        clear hown' hgrow hat' hn hsz3
        go_wp2_with fail
        go_roundg (ss.length - k - 1)
        case measure => have := HMM.out; omega
        case rel =>
          have := HN.out
          refine ⟨k + 1, l ++ [Y], by omega, by (first | rfl | (rw [IntWalk.wrap64_in _ (by omega)]; rfl) | (rw [IntWalk.i64_in _ (by omega)]; rfl)), by omega, by rw [List.length_append, HLL.out]; rfl, all_snoc HSK.out HALL.out HNN.out, ?_, R1.out, R2.out⟩
          rw [map_snoc enS HSK.out, List.map_append, HMAP.out]
          simp [HYX.out]
      · have HA := Lib.hid (allE_no HSK.out HNN.out)
        clear er b2 k3 b3 nw hY
        go_wp2_with fail
        go_ret2
        rw [HA.out]
        exact ⟨[], none, 0, rfl, rfl, Reads.none_, (fun y hy => by cases hy), B3.out⟩
    · have hkn : k = ss.length := by omega
      have d1 : decide ((k : Int) < (ss.length : Int)) = false := decide_eq_false (by omega)
      have HA := Lib.hid (allE_ok (ss := ss) (by
        have h := HALL.out
        rw [hkn, List.take_length] at h
        exact h))
      have HM2 := Lib.hid (show l.map (·.x) = ss.map enS by have h := HMAP.out; rw [hkn, List.take_length] at h; exact h)
      obtain ⟨A8, c8, rfl, hc8⟩ := own_slice HST.out.1
      go_wp2_with fail
      go_ret2
      rw [HA.out]
      exact ⟨l, A8, c8, HM2.out, rfl, Reads.of_own HST.out.1, fun y hy => (HST.out.2 y hy).1, BW'.out⟩
set_option maxRecDepth 100000 in
set_option maxHeartbeats 2000000 in
theorem All07_any (ss : List ByteArray) (A : Option Addr) (c : Nat) (w : World) (hg : HasET w) (hr : Reads w w.heap.size 1 A ss.length (cellsS ss)) (hs : ∀ s ∈ ss, s.size ≤ 100000) (hn : ss.length ≤ 1000) :
    Calls Tryz.prog 26 #[.slice A ss.length c] w (AlP7 (allE ss).1 (allE ss).2 w) := by
  have EB := Lib.hid (eachR_any ss A c w hg hr hs hn)
  have HG := Lib.hid hg
  clear hg hr hs hn
  generalize allE ss = R at EB ⊢
  obtain ⟨r, n⟩ := R
  go_enter Tryz.func26, Tryz.ntmps26
  go_wp2_with fail
  refine EB.out.mono ?_
  rintro e w2 (⟨h0, l, A2, c2, hm, rfl, r2, er2, b2⟩ | ⟨h0, fb, rfl, hf, b2⟩)
  · have R2 := Lib.hid r2
    have E2 := Lib.hid er2
    have B2 := Lib.hid b2
    have H0 := Lib.hid h0
    have HM := Lib.hid hm
    have CN := Lib.hid (code_nil w2)
    clear r2 b2 h0 er2 hm
    go_wp2_with fail
    refine CN.out.mono ?_
    rintro e w3 ⟨rfl, b3⟩
    have B3 := Lib.hid (B2.out.trans (b3.mono B2.out.size))
    have R3 := Lib.hid ((R2.out.below b3).more b3.size)
    have E3 := Lib.hid (E2.out.up b3)
    clear b3
    go_wp2_with fail
    go_ret2
    exact ⟨l, A2, c2, HM.out, (by rw [show n = 0 from H0.out]; rfl), R3.out, E3.out, B3.out⟩
  · have B2 := Lib.hid b2
    have H0 := Lib.hid h0
    have CN := Lib.hid (code_en fb n w2 (HG.out.up b2) hf)
    clear b2 hf h0
    go_wp2_with fail
    refine CN.out.mono ?_
    rintro e w3 ⟨rfl, b3⟩
    have B3 := Lib.hid (B2.out.trans (b3.mono B2.out.size))
    clear b3
    go_wp2_with fail
    go_ret2
    have hr0 : r = [] := H0.out
    subst hr0
    exact ⟨[], none, 0, rfl, rfl, Reads.none_, (fun y hy => by cases hy), B3.out⟩
end
end Go.Proofs.YtckdecodpjfcnaaGreatDoor
namespace Go.Proofs.YtckdecodpjfcnaaGreatDoor
open Go.RowKit
theorem loadsE_len (l : List En) : (loadsE l).1.length ≤ l.length := by
  unfold loadsE
  split
  · rw [List.length_map]; exact Nat.le_refl _
  · exact Nat.zero_le _
theorem allE_len (ss : List ByteArray) : (allE ss).1.length ≤ ss.length := by
  unfold allE
  split
  · rw [List.length_map]; exact Nat.le_refl _
  · exact Nat.zero_le _
section
attribute [-go_sem] loadCells storeVar
set_option maxRecDepth 100000 in
set_option maxHeartbeats 8000000 in
theorem erows_walk (l : List EnM) (ss : List ByteArray) (A A2 : Option Addr) (c c2 : Nat) (w : World) (hg : HasET w) (hr : Reads w w.heap.size 18 A l.length (cellsE7 l)) (hm : ∀ y ∈ l, EnRaw w y.x y.A y.D) (hr2 : Reads w w.heap.size 1 A2 ss.length (cellsS ss)) :
    Calls Tryz.prog 8 #[.slice A l.length c, .slice A2 ss.length c2] w fun e w' => e = .returned (.bool true) ∧ Below w.heap.size w w' := by
  have HG := Lib.hid hg
  have HR := Lib.hid hr
  have HM := Lib.hid hm
  have HR2 := Lib.hid hr2
  have GR := great07_any l A c w hr hm
  clear hg hr hm hr2
  cases hb : bigLE l
  case true =>
    rw [hb] at GR
    have GR := Lib.hid GR
    clear hb
    go_enter Tryz.func8, Tryz.ntmps8
    go_wp2_with fail
    refine GR.out.mono ?_
    rintro e w1 ⟨rfl, b1⟩
    have B1 := Lib.hid b1
    clear b1
    have WK := Lib.hid (wakes07 w1 (HG.out.up B1.out))
    go_wp2_with fail
    refine WK.out.mono ?_
    rintro e w99 ⟨rfl, b99⟩
    have B99 := Lib.hid ((B1.out).trans (b99.mono (B1.out).size))
    clear b99
    go_wp2_with fail
    go_ret
    exact ⟨rfl, B99.out⟩
  rw [hb] at GR
  have GR := Lib.hid GR
  obtain ⟨hl, hbig⟩ := bigLE_no hb
  have HL := Lib.hid hl
  have HC := Lib.hid (show EnsR w l from fun y hy => (HM.out y hy).en (hbig y hy))
  clear hb hl hbig
  by_cases hnn : 200 < ss.length
  · have dn : decide ((200 : Int) < (ss.length : Int)) = true := decide_eq_true (by omega)
    clear hnn
    go_enter Tryz.func8, Tryz.ntmps8
    go_wp2_with fail
    refine GR.out.mono ?_
    rintro e w1 ⟨rfl, b1⟩
    have B1 := Lib.hid b1
    clear b1
    have WK := Lib.hid (wakes07 w1 (HG.out.up B1.out))
    go_wp2_with fail
    refine WK.out.mono ?_
    rintro e w99 ⟨rfl, b99⟩
    have B99 := Lib.hid ((B1.out).trans (b99.mono (B1.out).size))
    clear b99
    go_wp2_with fail
    go_ret
    exact ⟨rfl, B99.out⟩
  have dn : decide ((200 : Int) < (ss.length : Int)) = false := decide_eq_false (by omega)
  have HN := Lib.hid (show ss.length ≤ 200 by omega)
  clear hnn
  go_enter Tryz.func8, Tryz.ntmps8
  go_wp2_with fail
  refine GR.out.mono ?_
  rintro e w1 ⟨rfl, b1⟩
  have B1 := Lib.hid b1
  clear b1
  go_wp2_with fail
  go_loopg [25] ss.length (fun mm y wq => ∃ k : Nat, k ≤ ss.length ∧ y = .int .i64 k ∧ mm = ss.length - k ∧ (∀ z ∈ ss.take k, z.size ≤ 2000) ∧ Below w.heap.size w wq)
  case atStart => exact ⟨0, Nat.zero_le _, rfl, rfl, fun y hy => by simp at hy, B1.out⟩
  case round =>
    obtain ⟨k, hk, rfl, hmm, hno, hbw⟩ := hrel
    have HMM := Lib.hid hmm
    have HNO := Lib.hid hno
    have BW' := Lib.hid hbw
    clear hmm hno hbw
    by_cases hlt : k < ss.length
    · have d1 : decide ((k : Int) < (ss.length : Int)) = true := decide_eq_true (by omega)
      have i1 : (0 : Int) ≤ (k : Int) := by omega
      have i2 : (k : Int) < (ss.length : Int) := by omega
      obtain ⟨u, hu⟩ : ∃ u, ss[k]? = some u := ⟨_, List.getElem?_eq_getElem hlt⟩
      obtain ⟨b, off, hA, hbB, hcells⟩ := (HR2.out.below BW'.out).plain (by omega)
      subst hA
      have ld : wr.cell? ⟨b, off + k, none⟩ = some (.string u) := hcells k _ (by rw [getElem?_cellsS, hu]; rfl)
      have HU := Lib.hid hu
      clear hcells hu
      by_cases hz : 2000 < u.size
      · have dz : decide ((2000 : Int) < (u.size : Int)) = true := decide_eq_true (by omega)
        have WK := Lib.hid (wakes07 wr (HG.out.up BW'.out))
        clear hz
        go_wp2_with fail
        refine WK.out.mono ?_
        rintro e w99 ⟨rfl, b99⟩
        have B99 := Lib.hid ((BW'.out).trans (b99.mono (BW'.out).size))
        clear b99
        go_wp2_with fail
        go_ret
        exact ⟨rfl, B99.out⟩
      · have dz : decide ((2000 : Int) < (u.size : Int)) = false := decide_eq_false (by omega)
        have HZ := Lib.hid (show u.size ≤ 2000 by omega)
        clear hz
        go_wp2_with fail
        go_roundg (ss.length - k - 1)
        case measure => have := HMM.out; omega
        case rel =>
          have := HN.out
          refine ⟨k + 1, by omega, by (first | rfl | (rw [IntWalk.wrap64_in _ (by omega)]; rfl) | (rw [IntWalk.i64_in _ (by omega)]; rfl)), by omega, all_snoc HU.out HNO.out HZ.out, BW'.out⟩
    · have hkn : k = ss.length := by omega
      have d1 : decide ((k : Int) < (ss.length : Int)) = false := decide_eq_false (by omega)
      have HALL := Lib.hid (show ∀ z ∈ ss, z.size ≤ 100000 by
        have h := HNO.out
        rw [hkn, List.take_length] at h
        exact fun z hz => by have := h z hz; omega)
      clear hkn
      have hLL := loadsE_len (l.map (·.x))
      rw [List.length_map] at hLL
      have LP := Loads_any l A c wr (HG.out.up BW'.out) ((HR.out.below BW'.out).more BW'.out.size) (HC.out.up BW'.out) (by have := HL.out; omega)
      have LR := fun W (h : Below w.heap.size w W) => rLoads_any l A c W ((HR.out.below h).more h.size) (HC.out.up h) (by have := HL.out; omega)
      generalize loadsE (l.map (·.x)) = R1 at LP LR hLL
      obtain ⟨r1, n1⟩ := R1
      have LP := Lib.hid LP
      have LR := Lib.hid LR
      have HLL := Lib.hid (show r1.length ≤ 10000 by have := HL.out; exact Nat.le_trans hLL (by omega))
      have nn1 : (n1 == n1) = true := beq_self_eq_true n1
      clear hLL
      go_wp2_with fail
      refine LP.out.mono ?_
      rintro e w2 ⟨A3, c3, rfl, r3, b2⟩
      have B2 := Lib.hid (BW'.out.trans (b2.mono BW'.out.size))
      have R3 := Lib.hid r3
      clear b2 r3
      go_wp2_with fail
      refine (LR.out _ B2.out).mono ?_
      rintro e w3 ⟨A4, c4, rfl, r4, b3⟩
      have B3 := Lib.hid (B2.out.trans (b3.mono B2.out.size))
      have R3' := Lib.hid ((R3.out.below b3).more b3.size)
      have R4 := Lib.hid r4
      clear b3 r4
      have hAL := allE_len ss
      have AP := All07_any ss A2 c2 w3 (HG.out.up B3.out) ((HR2.out.below B3.out).more B3.out.size) HALL.out (by have := HN.out; omega)
      have AR := fun W (h : Below w.heap.size w W) => rAll07_any ss A2 c2 W ((HR2.out.below h).more h.size) HALL.out (by have := HN.out; omega)
      generalize allE ss = R2 at AP AR hAL
      obtain ⟨r2, n2⟩ := R2
      have AP := Lib.hid AP
      have AR := Lib.hid AR
      have HAL := Lib.hid (show r2.length ≤ 10000 by have := HN.out; exact Nat.le_trans hAL (by omega))
      have nn2 : (n2 == n2) = true := beq_self_eq_true n2
      clear hAL
      go_wp2_with fail
      refine AP.out.mono ?_
      rintro e w4 ⟨l5, A5, c5, hm5, he5, r5, e5, b4⟩
      obtain ⟨N, hN5⟩ : ∃ N, l5.length = N := ⟨_, rfl⟩
      rw [hN5] at he5 r5
      subst he5
      have B4 := Lib.hid (B3.out.trans (b4.mono B3.out.size))
      have R34 := Lib.hid ((R3'.out.below b4).more b4.size)
      have R44 := Lib.hid ((R4.out.below b4).more b4.size)
      have R5 := Lib.hid r5
      have E5 := Lib.hid e5
      have HM5 := Lib.hid hm5
      have HN5 := Lib.hid hN5
      have HNle := Lib.hid (show N ≤ 10000 by have h := congrArg List.length HM5.out; rw [List.length_map, HN5.out] at h; rw [h]; exact HAL.out)
      clear b4 r5 e5 hm5 hN5
      go_wp2_with fail
      refine (AR.out _ B4.out).mono ?_
      rintro e w5 ⟨l6, A6, c6, hm6, he6, r6, e6, b5⟩
      have hN6 : l6.length = N := by
        have h := congrArg List.length (hm6.trans HM5.out.symm)
        rw [List.length_map, List.length_map] at h
        rw [h]; exact HN5.out
      rw [hN6] at he6 r6
      subst he6
      have B5 := Lib.hid (B4.out.trans (b5.mono B4.out.size))
      have R55 := Lib.hid ((R5.out.below b5).more b5.size)
      have E55 := Lib.hid (E5.out.up b5)
      have R6 := Lib.hid r6
      have E6 := Lib.hid e6
      have HM6 := Lib.hid (show l5.map (·.x) = l6.map (·.x) by rw [hm6, HM5.out])
      have TX := Lib.hid (texts_self r1 A3 A4 c3 c4 w5 ((R34.out.below b5).more b5.size) ((R44.out.below b5).more b5.size) HLL.out)
      clear b5 r6 e6 hm6 hN6 dn d1
      go_wp2_with fail
      refine TX.out.mono ?_
      rintro e w6 ⟨rfl, b6⟩
      have B6 := Lib.hid (B5.out.trans (b6.mono B5.out.size))
      have SM := Lib.hid (sameAll07 l5 l6 N HN5.out HM6.out A5 A6 c5 c6 w6 ((R55.out.below b6).more b6.size) ((R6.out.below b6).more b6.size) (E55.out.up b6) (E6.out.up b6) HNle.out)
      clear b6
      go_wp2_with fail
      refine SM.out.mono ?_
      rintro e w7 ⟨rfl, b7⟩
      have B7 := Lib.hid (B6.out.trans (b7.mono B6.out.size))
      clear b7
      have WK := Lib.hid (wakes07 w7 (HG.out.up B7.out))
      go_wp2_with fail
      refine WK.out.mono ?_
      rintro e w99 ⟨rfl, b99⟩
      have B99 := Lib.hid ((B7.out).trans (b99.mono (B7.out).size))
      clear b99
      go_wp2_with fail
      go_ret
      exact ⟨rfl, B99.out⟩
end
end Go.Proofs.YtckdecodpjfcnaaGreatDoor
namespace Go.Proofs.YtckdecodpjfcnaaGreatDoor
open Go.Joins Go.ChangeShapes Go.WideShapes Go.RowKit Go.Deep

section
variable {H : Type} {enc : TypeId × Value → H} {P : Program} {w : World} {base : Nat} {spare : Nat → Bool} {held : Bool}
theorem open_slice_fields {t e : TypeId} {fs : Array Field} {fuel : Nat} {cs : List Value} {x : DataW H × List MemPlace} (ht : P.underlying t = some (.slice e)) (he : P.underlying e = some (.struct fs))
    (hone : oneCellFields P fs = true) (hC : P.cellsOf e = fs.size) (h : DataW.trod enc P w base spare held fuel t cs = some x) :
    (cs = [.slice none 0 0] ∧ x = (.nil, [])) ∨
    ∃ (a : Addr) (len cap m : Nat) (D : Nat → DataW H) (Pl : Nat → List MemPlace), cs = [.slice (some a) len cap] ∧ base ≤ a.block ∧ len ≤ cap ∧ cap ≤ maxLen ∧ m = (if spare a.block then cap else len) ∧
      x = (.slice ((List.range len).map D) ((List.range (m - len)).map fun j => D (len + j)), MemPlace.row a (m * fs.size) ++ (List.range m).flatMap Pl) ∧
      ∀ i, i < m → ∃ (ys : List (DataW H × List MemPlace)) (n : Nat), D i = .agg (ys.map (·.1)) ∧ Pl i = ys.flatMap (·.2) ∧ ys.length = fs.size ∧
        ∀ (j : Nat) (f : Field), fs[j]? = some f → ∃ (v : Value) (y : DataW H × List MemPlace), w.cell? (a.add (i * fs.size + j)) = some v ∧ ys[j]? = some y ∧ DataW.trod enc P w base spare held n f.type [v] = some y := by
  rcases open_slice ht h with h0 | ⟨a, len, cap, m, n, D, Pl, hcs, hb, hl, hm, hmm, hx, hi⟩
  · exact .inl h0
  · refine .inr ⟨a, len, cap, m, D, Pl, hcs, hb, hl, hm, hmm, by rw [hC] at hx; exact hx, fun i him => ?_⟩
    obtain ⟨cs', hc, ht'⟩ := hi i him
    rw [hC] at hc
    obtain ⟨ys, n', hn', hy, hlen, hyl, hf⟩ := DataW.trod_struct he ht'
    obtain ⟨_, hcl, hat⟩ := World.cells?_some hc
    simp only [Prod.mk.injEq] at hy
    refine ⟨ys, n', hy.1, hy.2, hyl, fun j f hj => ?_⟩
    obtain ⟨ho, hk⟩ := hone_of hone j f hj
    have hjl : j < fs.size := (Array.getElem?_eq_some_iff.1 hj).1
    have hcell := hat j hjl
    have hv : cs'[j]? = some (cs'[j]'(by omega)) := List.getElem?_eq_getElem (by omega)
    have h1 := hf j f hj
    rw [ho, hk] at h1
    have hone' : (cs'.drop j).take 1 = [cs'[j]'(by omega)] := by
      rw [List.drop_eq_getElem_cons (by omega)]
      rfl
    rw [hone'] at h1
    have hys : ys[j]? = some (ys[j]'(by omega)) := List.getElem?_eq_getElem (by omega)
    refine ⟨_, _, ?_, hys, h1.trans hys⟩
    rw [← Go.Deep.add_add, hcell, hv]
end

section
variable {H : Type} {enc : TypeId × Value → H} {W : World}
theorem cell_block {a : Addr} {k : Nat} {v : Value} (h : W.cell? (a.add k) = some v) : a.block < W.heap.size := by
  have := block_lt_of_cell h
  rwa [block_of_add] at this
end
end Go.Proofs.YtckdecodpjfcnaaGreatDoor
namespace Go.Proofs.YtckdecodpjfcnaaGreatDoor
open Go.Joins Go.ChangeShapes Go.WideShapes Go.RowKit Go.Deep

theorem cellsR_get : ∀ (l : List Rec) (j : Nat) (u : Value), (cellsR l)[j]? = some u → ∃ i k p, j = i * 2 + k ∧ k < 2 ∧ l[i]? = some p ∧ u = (if k = 0 then .string p.1 else .string p.2) := by
  intro l j u hu
  have hj : j < l.length * 2 := by
    have := (List.getElem?_eq_some_iff.1 hu).1
    rwa [length_cellsR] at this
  have hi : j / 2 < l.length := by omega
  obtain ⟨p, hp⟩ : ∃ p, l[j / 2]? = some p := ⟨_, List.getElem?_eq_getElem hi⟩
  obtain ⟨h0, h1⟩ := cellsR_at l (j / 2) p hp
  refine ⟨j / 2, j % 2, p, by omega, by omega, hp, ?_⟩
  have hk : j % 2 = 0 ∨ j % 2 = 1 := by omega
  rcases hk with hk | hk
  · rw [show j = j / 2 * 2 by omega, h0] at hu
    rw [if_pos hk]
    exact (Option.some.inj hu).symm
  · rw [show j = j / 2 * 2 + 1 by omega, h1] at hu
    rw [if_neg (by omega)]
    exact (Option.some.inj hu).symm

section
variable {H : Type} {enc : TypeId × Value → H} {W : World}
theorem field_recs {fuel : Nat} {v : Value} {x : DataW H × List MemPlace} (h : DataW.trod enc Tryz.prog W 0 (fun _ => true) true fuel 23 [v] = some x) :
    ∃ (A : Option Addr) (c : Nat) (l : List Rec), v = .slice A l.length c ∧ l.length ≤ c ∧ c ≤ maxLen ∧ Reads W W.heap.size 2 A l.length (cellsR l) ∧ ∀ r ∈ l, r.1.size ≤ maxLen ∧ r.2.size ≤ maxLen := by
  rcases open_slice_fields Tryz.underlying23 Tryz.underlying60 (by kernel_rfl) (by kernel_rfl) h with ⟨hcs, _⟩ | ⟨a, len, cap, m, D, Pl, hcs, _, hl, hm, hmm, hx, hi⟩
  · simp at hcs
    subst hcs
    exact ⟨none, 0, [], rfl, Nat.le_refl _, Nat.zero_le _, Reads.none_, by simp⟩
  · simp at hcs
    subst hcs
    simp only [if_true] at hmm
    subst hmm
    have hp : ∀ i, ∃ p : Rec, (p.1.size ≤ maxLen ∧ p.2.size ≤ maxLen) ∧ (i < len → W.cell? (a.add (i * 2 + 0)) = some (.string p.1) ∧ W.cell? (a.add (i * 2 + 1)) = some (.string p.2)) := by
      intro i
      by_cases hlt : i < len
      · obtain ⟨ys, n, _, _, _, hf⟩ := hi i (by omega)
        obtain ⟨v0, y0, hc0, _, t0⟩ := hf 0 _ rfl
        obtain ⟨v1, y1, hc1, _, t1⟩ := hf 1 _ rfl
        obtain ⟨z0, e0, _, m0⟩ := DataW.trod_string Tryz.underlying9 t0
        obtain ⟨z1, e1, _, m1⟩ := DataW.trod_string Tryz.underlying9 t1
        simp at e0 e1
        subst e0; subst e1
        exact ⟨(z0, z1), ⟨m0, m1⟩, fun _ => ⟨hc0, hc1⟩⟩
      · exact ⟨(ByteArray.empty, ByteArray.empty), ⟨Nat.zero_le _, Nat.zero_le _⟩, fun h => absurd h hlt⟩
    refine ⟨some a, m, (List.range len).map fun i => Classical.choose (hp i), by simp, by simpa using hl, hm, ⟨by rw [length_cellsR], fun hn => ⟨a, rfl, ?_, fun j u hu => ?_⟩⟩, fun r hr => ?_⟩
    · simp at hn
      exact cell_block ((Classical.choose_spec (hp 0)).2 hn).1
    · obtain ⟨i, k, p, rfl, hk, hpi, rfl⟩ := cellsR_get _ j u hu
      rw [List.getElem?_map, Option.map_eq_some_iff] at hpi
      obtain ⟨i', hi', rfl⟩ := hpi
      have hlt : i < len := by
        have := (List.getElem?_eq_some_iff.1 hi').1
        simpa using this
      rw [List.getElem?_range hlt] at hi'
      obtain rfl : i = i' := by simpa using hi'
      obtain ⟨q0, q1⟩ := (Classical.choose_spec (hp i)).2 hlt
      have hk3 : k = 0 ∨ k = 1 := by omega
      rcases hk3 with rfl | rfl
      · exact q0
      · exact q1
    · obtain ⟨i, _, rfl⟩ := List.mem_map.1 hr
      exact (Classical.choose_spec (hp i)).1

end
end Go.Proofs.YtckdecodpjfcnaaGreatDoor
namespace Go.Proofs.YtckdecodpjfcnaaGreatDoor
open Go.Joins Go.ChangeShapes Go.WideShapes Go.RowKit Go.Deep

def i64In (x : Int) : Prop := -9223372036854775808 ≤ x ∧ x ≤ 9223372036854775807
section
variable {H : Type} {enc : TypeId × Value → H} {W : World}
set_option maxRecDepth 100000 in
theorem trod_bt {fuel : Nat} {cs : List Value} {x : DataW H × List MemPlace} (h : DataW.trod enc Tryz.prog W 0 (fun _ => true) true fuel 25 cs = some x) :
    ∃ (b : Bat) (A1 : Option Addr) (c1 : Nat), cs = [.int .i64 b.pid, .int .i64 b.ep, .int .i64 b.seq, .bool b.txn, .slice A1 b.rs.length c1] ∧ BtRaw W b A1 ∧ i64In b.pid ∧ i64In b.ep ∧ i64In b.seq := by
  obtain ⟨xs, n, _, _, hl, hlen, hg⟩ := DataW.trod_struct Tryz.underlying25 h
  have hC : Tryz.prog.cellsOf 25 = 5 := by kernel_rfl
  have ki : Tryz.prog.cellsOf 3 = 1 := by kernel_rfl
  have kb : Tryz.prog.cellsOf 4 = 1 := by kernel_rfl
  have kr : Tryz.prog.cellsOf 23 = 1 := by kernel_rfl
  rw [hC] at hl
  match cs, hl with
  | [c0, c1, c2, c3, c4], _ =>
    match xs, hlen with
    | [y0, y1, y2, y3, y4], _ =>
      have t0 := hg 0 _ rfl
      have t1 := hg 1 _ rfl
      have t2 := hg 2 _ rfl
      have t3 := hg 3 _ rfl
      have t4 := hg 4 _ rfl
      simp [ki] at t0 t1 t2
      simp [kb] at t3
      simp [kr] at t4
      obtain ⟨z0, e0, _, w0⟩ := DataW.trod_int Tryz.underlying3 t0
      obtain ⟨z1, e1, _, w1⟩ := DataW.trod_int Tryz.underlying3 t1
      obtain ⟨z2, e2, _, w2⟩ := DataW.trod_int Tryz.underlying3 t2
      obtain ⟨z3, e3, _⟩ := DataW.trod_bool Tryz.underlying4 t3
      obtain ⟨A1, cc, l1, rfl, k1, hm1, r1, s1⟩ := field_recs t4
      simp at e0 e1 e2 e3
      subst e0; subst e1; subst e2; subst e3
      simp only [Lit.wf, Bool.and_eq_true, decide_eq_true_eq] at w0 w1 w2
      unfold maxLen at hm1 s1
      exact ⟨⟨z0, z1, z2, z3, l1⟩, A1, cc, rfl, ⟨r1, by show l1.length ≤ _; omega, s1⟩, w0, w1, w2⟩
end
end Go.Proofs.YtckdecodpjfcnaaGreatDoor
namespace Go.Proofs.YtckdecodpjfcnaaGreatDoor
open Go.Joins Go.ChangeShapes Go.WideShapes Go.RowKit Go.Deep

theorem cellsN_get : ∀ (l : List Sn) (j : Nat) (u : Value), (cellsN l)[j]? = some u → ∃ i k p, j = i * 3 + k ∧ k < 3 ∧ l[i]? = some p ∧ u = (if k = 0 then .int .i64 p.1 else if k = 1 then .int .i64 p.2.1 else .int .i64 p.2.2) := by
  intro l j u hu
  have hj : j < l.length * 3 := by
    have := (List.getElem?_eq_some_iff.1 hu).1
    rwa [length_cellsN] at this
  have hi : j / 3 < l.length := by omega
  obtain ⟨p, hp⟩ : ∃ p, l[j / 3]? = some p := ⟨_, List.getElem?_eq_getElem hi⟩
  obtain ⟨h0, h1, h2⟩ := cellsN_at l (j / 3) p hp
  refine ⟨j / 3, j % 3, p, by omega, by omega, hp, ?_⟩
  have hk : j % 3 = 0 ∨ j % 3 = 1 ∨ j % 3 = 2 := by omega
  rcases hk with hk | hk | hk
  · rw [show j = j / 3 * 3 by omega, h0] at hu
    rw [if_pos hk]
    exact (Option.some.inj hu).symm
  · rw [show j = j / 3 * 3 + 1 by omega, h1] at hu
    rw [if_neg (by omega), if_pos hk]
    exact (Option.some.inj hu).symm
  · rw [show j = j / 3 * 3 + 2 by omega, h2] at hu
    rw [if_neg (by omega), if_neg (by omega)]
    exact (Option.some.inj hu).symm

section
variable {H : Type} {enc : TypeId × Value → H} {W : World}
theorem field_seen {fuel : Nat} {v : Value} {x : DataW H × List MemPlace} (h : DataW.trod enc Tryz.prog W 0 (fun _ => true) true fuel 28 [v] = some x) :
    ∃ (A : Option Addr) (c : Nat) (l : List Sn), v = .slice A l.length c ∧ l.length ≤ c ∧ Reads W W.heap.size 3 A l.length (cellsN l) := by
  rcases open_slice_fields Tryz.underlying28 Tryz.underlying73 (by kernel_rfl) (by kernel_rfl) h with ⟨hcs, _⟩ | ⟨a, len, cap, m, D, Pl, hcs, _, hl, hm, hmm, hx, hi⟩
  · simp at hcs
    subst hcs
    exact ⟨none, 0, [], rfl, Nat.le_refl _, Reads.none_⟩
  · simp at hcs
    subst hcs
    simp only [if_true] at hmm
    subst hmm
    have hp : ∀ i, ∃ p : Sn, (i < len → W.cell? (a.add (i * 3 + 0)) = some (.int .i64 p.1) ∧ W.cell? (a.add (i * 3 + 1)) = some (.int .i64 p.2.1) ∧ W.cell? (a.add (i * 3 + 2)) = some (.int .i64 p.2.2)) := by
      intro i
      by_cases hlt : i < len
      · obtain ⟨ys, n, _, _, _, hf⟩ := hi i (by omega)
        obtain ⟨v0, y0, hc0, _, t0⟩ := hf 0 _ rfl
        obtain ⟨v1, y1, hc1, _, t1⟩ := hf 1 _ rfl
        obtain ⟨v2, y2, hc2, _, t2⟩ := hf 2 _ rfl
        obtain ⟨z0, e0, _, _⟩ := DataW.trod_int Tryz.underlying3 t0
        obtain ⟨z1, e1, _, _⟩ := DataW.trod_int Tryz.underlying3 t1
        obtain ⟨z2, e2, _, _⟩ := DataW.trod_int Tryz.underlying3 t2
        simp at e0 e1 e2
        subst e0; subst e1; subst e2
        exact ⟨(z0, z1, z2), fun _ => ⟨hc0, hc1, hc2⟩⟩
      · exact ⟨(0, 0, 0), fun h => absurd h hlt⟩
    refine ⟨some a, m, (List.range len).map fun i => Classical.choose (hp i), by simp, by simpa using hl, ⟨by rw [length_cellsN], fun hn => ⟨a, rfl, ?_, fun j u hu => ?_⟩⟩⟩
    · simp at hn
      exact cell_block ((Classical.choose_spec (hp 0)) hn).1
    · obtain ⟨i, k, p, rfl, hk, hpi, rfl⟩ := cellsN_get _ j u hu
      rw [List.getElem?_map, Option.map_eq_some_iff] at hpi
      obtain ⟨i', hi', rfl⟩ := hpi
      have hlt : i < len := by
        have := (List.getElem?_eq_some_iff.1 hi').1
        simpa using this
      rw [List.getElem?_range hlt] at hi'
      obtain rfl : i = i' := by simpa using hi'
      obtain ⟨q0, q1, q2⟩ := (Classical.choose_spec (hp i)) hlt
      have hk3 : k = 0 ∨ k = 1 ∨ k = 2 := by omega
      rcases hk3 with rfl | rfl | rfl
      · exact q0
      · exact q1
      · exact q2
set_option maxRecDepth 100000 in
theorem trod_row {fuel : Nat} {cs : List Value} {x : DataW H × List MemPlace} (h : DataW.trod enc Tryz.prog W 0 (fun _ => true) true fuel 27 cs = some x) :
    ∃ r : Rw, cs = [.int .i64 r.1, .int .i64 r.2.1, .int .i64 r.2.2.1, .string r.2.2.2.1, .string r.2.2.2.2] := by
  obtain ⟨xs, n, _, _, hl, hlen, hg⟩ := DataW.trod_struct Tryz.underlying27 h
  have hC : Tryz.prog.cellsOf 27 = 5 := by kernel_rfl
  have ki : Tryz.prog.cellsOf 3 = 1 := by kernel_rfl
  have ks : Tryz.prog.cellsOf 9 = 1 := by kernel_rfl
  rw [hC] at hl
  match cs, hl with
  | [c0, c1, c2, c3, c4], _ =>
    match xs, hlen with
    | [y0, y1, y2, y3, y4], _ =>
      have t0 := hg 0 _ rfl
      have t1 := hg 1 _ rfl
      have t2 := hg 2 _ rfl
      have t3 := hg 3 _ rfl
      have t4 := hg 4 _ rfl
      simp [ki] at t0 t1 t2
      simp [ks] at t3 t4
      obtain ⟨z0, e0, _, _⟩ := DataW.trod_int Tryz.underlying3 t0
      obtain ⟨z1, e1, _, _⟩ := DataW.trod_int Tryz.underlying3 t1
      obtain ⟨z2, e2, _, _⟩ := DataW.trod_int Tryz.underlying3 t2
      obtain ⟨z3, e3, _, _⟩ := DataW.trod_string Tryz.underlying9 t3
      obtain ⟨z4, e4, _, _⟩ := DataW.trod_string Tryz.underlying9 t4
      simp at e0 e1 e2 e3 e4
      subst e0; subst e1; subst e2; subst e3; subst e4
      exact ⟨(z0, z1, z2, z3, z4), rfl⟩
set_option maxRecDepth 100000 in
theorem trod_pd {fuel : Nat} {cs : List Value} {x : DataW H × List MemPlace} (h : DataW.trod enc Tryz.prog W 0 (fun _ => true) true fuel 30 cs = some x) :
    ∃ (p : Pd) (D1 : Option Addr) (e1 : Nat), cs = #[.int .i64 p.pid, .int .i64 p.ep, .int .i64 p.nx, .slice D1 p.seen.length e1].toList ∧ Reads W W.heap.size 3 D1 p.seen.length (cellsN p.seen) ∧ p.seen.length ≤ e1 := by
  obtain ⟨xs, n, _, _, hl, hlen, hg⟩ := DataW.trod_struct Tryz.underlying30 h
  have hC : Tryz.prog.cellsOf 30 = 4 := by kernel_rfl
  have ki : Tryz.prog.cellsOf 3 = 1 := by kernel_rfl
  have ks : Tryz.prog.cellsOf 28 = 1 := by kernel_rfl
  rw [hC] at hl
  match cs, hl with
  | [c0, c1, c2, c3], _ =>
    match xs, hlen with
    | [y0, y1, y2, y3], _ =>
      have t0 := hg 0 _ rfl
      have t1 := hg 1 _ rfl
      have t2 := hg 2 _ rfl
      have t3 := hg 3 _ rfl
      simp [ki] at t0 t1 t2
      simp [ks] at t3
      obtain ⟨z0, e0, _, _⟩ := DataW.trod_int Tryz.underlying3 t0
      obtain ⟨z1, e1, _, _⟩ := DataW.trod_int Tryz.underlying3 t1
      obtain ⟨z2, e2, _, _⟩ := DataW.trod_int Tryz.underlying3 t2
      obtain ⟨D1, cc, l, rfl, hle, hr⟩ := field_seen t3
      simp at e0 e1 e2
      subst e0; subst e1; subst e2
      exact ⟨⟨z0, z1, z2, l⟩, D1, cc, rfl, hr, hle⟩
set_option maxRecDepth 100000 in
theorem trod_en {fuel : Nat} {cs : List Value} {x : DataW H × List MemPlace} (h : DataW.trod enc Tryz.prog W 0 (fun _ => true) true fuel 32 cs = some x) :
    ∃ (q : En) (A1 D1 : Option Addr) (c1 e1 : Nat), cs = #[.int .i8 q.kd, .int .i64 q.b.pid, .int .i64 q.b.ep, .int .i64 q.b.seq, .bool q.b.txn, .slice A1 q.b.rs.length c1, .bool q.yes, .int .i64 q.nx, .int .i64 q.off, .int .i64 q.row.1, .int .i64 q.row.2.1, .int .i64 q.row.2.2.1, .string q.row.2.2.2.1, .string q.row.2.2.2.2, .int .i64 q.prod.pid, .int .i64 q.prod.ep, .int .i64 q.prod.nx, .slice D1 q.prod.seen.length e1].toList ∧ Reads W W.heap.size 2 A1 q.b.rs.length (cellsR q.b.rs) ∧ Reads W W.heap.size 3 D1 q.prod.seen.length (cellsN q.prod.seen) := by
  obtain ⟨xs, n, _, _, hl, hlen, hg⟩ := DataW.trod_struct Tryz.underlying32 h
  have hC : Tryz.prog.cellsOf 32 = 18 := by kernel_rfl
  have k8 : Tryz.prog.cellsOf 22 = 1 := by kernel_rfl
  have ki : Tryz.prog.cellsOf 3 = 1 := by kernel_rfl
  have kb : Tryz.prog.cellsOf 4 = 1 := by kernel_rfl
  have kB : Tryz.prog.cellsOf 25 = 5 := by kernel_rfl
  have kR : Tryz.prog.cellsOf 27 = 5 := by kernel_rfl
  have kP : Tryz.prog.cellsOf 30 = 4 := by kernel_rfl
  rw [hC] at hl
  match cs, hl with
  | [c0, c1, c2, c3, c4, c5, c6, c7, c8, c9, c10, c11, c12, c13, c14, c15, c16, c17], _ =>
    match xs, hlen with
    | [y0, y1, y2, y3, y4, y5, y6], _ =>
      have t0 := hg 0 _ rfl
      have t1 := hg 1 _ rfl
      have t2 := hg 2 _ rfl
      have t3 := hg 3 _ rfl
      have t4 := hg 4 _ rfl
      have t5 := hg 5 _ rfl
      have t6 := hg 6 _ rfl
      clear hg
      simp [k8] at t0
      simp [kB] at t1
      simp [kb] at t2
      simp [ki] at t3 t4
      simp [kR] at t5
      simp [kP] at t6
      obtain ⟨z0, e0, _, _⟩ := DataW.trod_int Tryz.underlying22 t0
      obtain ⟨b, A1, cc, eb, hb, _, _, _⟩ := trod_bt t1
      obtain ⟨z2, e2, _⟩ := DataW.trod_bool Tryz.underlying4 t2
      obtain ⟨z3, e3, _, _⟩ := DataW.trod_int Tryz.underlying3 t3
      obtain ⟨z4, e4, _, _⟩ := DataW.trod_int Tryz.underlying3 t4
      obtain ⟨r, er⟩ := trod_row t5
      obtain ⟨p, D1, ee, ep, hp, _⟩ := trod_pd t6
      simp at e0 e2 e3 e4 eb er ep
      obtain ⟨rfl, rfl, rfl, rfl, rfl⟩ := eb
      obtain ⟨rfl, rfl, rfl, rfl, rfl⟩ := er
      obtain ⟨rfl, rfl, rfl, rfl⟩ := ep
      subst e0; subst e2; subst e3; subst e4
      exact ⟨⟨z0, b, z2, z3, z4, r, p⟩, A1, D1, cc, ee, rfl, hb.1, hp⟩
end
end Go.Proofs.YtckdecodpjfcnaaGreatDoor
namespace Go.Proofs.YtckdecodpjfcnaaGreatDoor
open Go.Joins Go.ChangeShapes Go.WideShapes Go.RowKit Go.Deep
section
variable {H : Type} {enc : TypeId × Value → H} {W : World}
set_option maxRecDepth 100000 in
theorem open_ens {r : Reach} {base : Nat} {v : Value} {d : DataW H} {p : List MemPlace} (hv : Value.okWide Tryz.prog W r base 49 v) (h : DataW.Trod enc Tryz.prog W 0 (fun _ => true) true 49 v d p) :
    ∃ (A : Option Addr) (c : Nat) (l : List EnM), v = .slice A l.length c ∧ Reads W W.heap.size 18 A l.length (cellsE7 l) ∧ ∀ m ∈ l, EnRaw W m.x m.A m.D := by
  obtain ⟨a0, len, cap, rfl⟩ := okWide_slice Tryz.underlying49 hv
  obtain ⟨fuel, hf⟩ := h
  have hf' : DataW.trod enc Tryz.prog W 0 (fun _ => true) true fuel 49 [.slice a0 len cap] = some (d, p) := hf
  rcases open_slice Tryz.underlying49 hf' with ⟨hcs, _⟩ | ⟨a, len', cap', m, n, D, Pl, hcs, _, hl, hm, hmm, hx, hi⟩
  · simp at hcs
    obtain ⟨rfl, rfl, rfl⟩ := hcs
    exact ⟨none, 0, [], rfl, Reads.none_, by simp⟩
  · simp at hcs
    obtain ⟨rfl, rfl, rfl⟩ := hcs
    simp only [if_true] at hmm
    subst hmm
    have hC : Tryz.prog.cellsOf 32 = 18 := by kernel_rfl
    rw [hC] at hi
    have hp : ∀ i, ∃ x : EnM, EnRaw W x.x x.A x.D ∧ (i < len → ∀ j u, (cE7 x)[j]? = some u → W.cell? (a.add (i * 18 + j)) = some u) := by
      intro i
      by_cases hlt : i < len
      · obtain ⟨cs', hc, ht⟩ := hi i (by omega)
        obtain ⟨ym, yA, yD, yc, ye, e, hq⟩ := trod_en ht
        obtain ⟨y, hy⟩ : ∃ y : EnM, y = ⟨ym, yA, yD, yc, ye⟩ := ⟨_, rfl⟩
        have hq : EnRaw W y.x y.A y.D := by rw [hy]; exact hq
        have e : cs' = cE7 y := by rw [hy]; exact e
        obtain ⟨_, hcl, hat⟩ := World.cells?_some hc
        refine ⟨y, hq, fun _ j u hu => ?_⟩
        have hj : j < 18 := (List.getElem?_eq_some_iff.1 hu).1
        have h1 := hat j hj
        rw [e] at h1
        rw [← Go.Deep.add_add, h1]
        exact hu
      · exact ⟨⟨En0, none, none, 0, 0⟩, ⟨Reads.none_, Reads.none_⟩, fun h => absurd h hlt⟩
    have hget : ∀ i x, ((List.range len).map fun i => Classical.choose (hp i))[i]? = some x → i < len ∧ x = Classical.choose (hp i) := by
      intro i x hx
      rw [List.getElem?_map, Option.map_eq_some_iff] at hx
      obtain ⟨i', hi', rfl⟩ := hx
      have hlt : i < len := by
        have := (List.getElem?_eq_some_iff.1 hi').1
        simpa using this
      rw [List.getElem?_range hlt] at hi'
      obtain rfl : i = i' := by simpa using hi'
      exact ⟨hlt, rfl⟩
    refine ⟨some a, m, (List.range len).map fun i => Classical.choose (hp i), by simp, ⟨by rw [length_cellsE7], fun hn => ⟨a, rfl, ?_, fun j u hu => ?_⟩⟩, fun x hx => ?_⟩
    · have hn' : 0 < len := by simpa using hn
      exact cell_block ((Classical.choose_spec (hp 0)).2 hn' 0 _ rfl)
    · have hlj : j < len * 18 := by
        have := (List.getElem?_eq_some_iff.1 hu).1
        rw [length_cellsE7] at this
        simpa using this
      have hi15 : j / 18 < len := by omega
      have hg : ((List.range len).map fun i => Classical.choose (hp i))[j / 18]? = some (Classical.choose (hp (j / 18))) := by
        rw [List.getElem?_map, List.getElem?_range hi15]; rfl
      have h1 := cellsE7_at _ (j / 18) _ (j % 18) hg (by omega)
      have e1 : j / 18 * 18 + j % 18 = j := by omega
      rw [e1, hu] at h1
      have h2 := (Classical.choose_spec (hp (j / 18))).2 hi15 (j % 18) u h1.symm
      rw [e1] at h2
      exact h2
    · obtain ⟨i, _, rfl⟩ := List.mem_map.1 hx
      exact (Classical.choose_spec (hp i)).1
end
end Go.Proofs.YtckdecodpjfcnaaGreatDoor
