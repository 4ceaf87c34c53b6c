/-
  Readings that follow a way of writing, plainly: a number, a text, a flag, one behind the other, lists. No program in sight.
  Words for memory: a slice that reads as a list, a block known whole, an append onto a row of the call's own (after the guide's pages on words and small lemmas, which are there to be copied); and what []byte(s), string(b) give in these words.
  Plain facts on Go's bit operations at int and byte: or of two numbers whose bits lie apart is their sum; and with 127 is the rest by 128.
  Numbers as bytes, plainly: no program in sight.
  Ways of writing that are read back, plainly: a number, a text, a flag, one behind the other, lists. No program in sight.
  A reader, plainly: what each reading tells, and where the reader is behind it. No program in sight.
-/
import Derived.WalkKit
import Derived.WalkSpells
import Derived.WalkLawsBesides
import Derived.Lib.Hide
import Derived.Laws.OwnMore
import Derived.Deep.AppendLies
import Derived.Deep.Draws
import Derived.Deep.QuietTactic
import Derived.BigQuiet
import Derived.Laws.Rows
import Derived.Laws.MakeOwn
import Derived.Laws.IdiomStrings
import Derived.Maps.AppendAt
import Derived.RegionTactic
import Derived.OwnWalk
import Derived.Deep.OwnRows
import Derived.Lib.Strings
import Derived.Laws.CopyRow
import Derived.Laws.IdiomCopy
import Derived.Laws.Tables
import Derived.LaidEql
set_option linter.unusedVariables false
set_option linter.unusedSimpArgs false
namespace Go.Proofs.YtckdecodpjfcnaaGreatDoor
open Go.RowKit

theorem block_of_add (a : Addr) (n : Nat) : (a.add n).block = a.block := by unfold Addr.add; split <;> rfl
def Reads (w : World) (B size : Nat) (A : Option Addr) (n : Nat) (xs : List Value) : Prop :=
  xs.length = n * size ∧ (0 < n → ∃ ad, A = some ad ∧ ad.block < B ∧ ∀ j u, xs[j]? = some u → w.cell? (ad.add j) = some u)

section
variable {w w' : World} {B B' size n : Nat} {A : Option Addr} {xs : List Value}
theorem Reads.none_ : Reads w B size A 0 [] := ⟨by simp, fun h => absurd h (by omega)⟩
theorem Reads.keep (h : Reads w B size A n xs) (hk : ∀ p : Addr, p.block < B → w'.cell? p = w.cell? p) : Reads w' B size A n xs :=
  ⟨h.1, fun hn => by
    obtain ⟨ad, e, hb, hc⟩ := h.2 hn
    exact ⟨ad, e, hb, fun j u hu => (hk _ (by rw [block_of_add]; exact hb)).trans (hc j u hu)⟩⟩
theorem Reads.more (h : Reads w B size A n xs) (hB : B ≤ B') : Reads w B' size A n xs :=
  ⟨h.1, fun hn => by
    obtain ⟨ad, e, hb, hc⟩ := h.2 hn
    exact ⟨ad, e, by omega, hc⟩⟩
theorem Reads.below (h : Reads w B size A n xs) (hb : Below B w w') : Reads w' B size A n xs := h.keep fun _ hp => hb.cell hp
theorem Reads.drew (h : Reads w B size A n xs) : Reads w.drew B size A n xs := h
theorem Reads.drewN (h : Reads w B size A n xs) (k : Nat) : Reads (w.drewN k) B size A n xs := h
theorem Reads.alloc (h : Reads w B size A n xs) (hB : B ≤ w.heap.size) (o : Obj) : Reads (w.alloc o) B size A n xs := h.keep fun p hp => World.cell?_alloc_lt w o p (by omega)
theorem Reads.setCell (h : Reads w B size A n xs) {p : Addr} (hB : B ≤ p.block) (u : Value) : Reads (w.setCell p u) B size A n xs :=
  h.keep fun q hq => World.cell?_setCell_other w p q u (fun e => by subst e; omega)
theorem Reads.grown (h : Reads w B size A n xs) {row : Option Nat} (hg : w.grownBy w' row) (hB : B ≤ w.heap.size) (hr : ∀ g, row = some g → B ≤ g) : Reads w' B size A n xs :=
  h.keep fun p hp => World.cell?_of_block (hg.block p.block (by omega) (fun e => by have := hr _ e.symm; omega))
theorem Reads.of_own {base : Nat} {e : TypeId} {c : Nat} (h : w.ownsRow base e size (.slice A n c) n xs) : Reads w w.heap.size size A n xs := by
  refine ⟨h.1, fun hn => ?_⟩
  obtain ⟨g, cap, hv, _, hlt⟩ := h.form hn
  have hA : A = some ⟨g, 0, none⟩ := by injection hv
  subst hA
  exact ⟨_, rfl, hlt, h.cells (g := g) rfl⟩
end

def Blk (w : World) (g : Nat) (t : TypeId) (cs : Array Value) : Prop := w.heap[g]? = some (.cells cs t (0, 0))

section
variable {w w' : World} {g : Nat} {t : TypeId} {cs : Array Value}
theorem Blk.lt (h : Blk w g t cs) : g < w.heap.size := by
  rcases Nat.lt_or_ge g w.heap.size with hlt | hge
  · exact hlt
  · unfold Blk at h; rw [Array.getElem?_eq_none hge] at h; cases h
theorem Blk.cell (h : Blk w g t cs) (i : Nat) : w.cell? ⟨g, i, none⟩ = cs[i]? := cell_of_row w g i cs t (0, 0) h
theorem Blk.frozen (h : Blk w g t cs) (i : Nat) : w.frozen? ⟨g, i, none⟩ = false := by
  unfold Blk at h
  simp [World.frozen?, h]
theorem Blk.new (w : World) (t : TypeId) (cs : Array Value) : Blk (w.alloc (.cells cs t)) w.heap.size t cs := heap_alloc_new w _
theorem Blk.drew (h : Blk w g t cs) : Blk w.drew g t cs := h
theorem Blk.drewN (h : Blk w g t cs) (n : Nat) : Blk (w.drewN n) g t cs := h
theorem Blk.alloc (h : Blk w g t cs) (o : Obj) : Blk (w.alloc o) g t cs := (Below.heap_alloc w o g h.lt).trans h
theorem Blk.set_ (h : Blk w g t cs) (i : Nat) (u : Value) : Blk (w.setCell ⟨g, i, none⟩ u) g t (cs.setIfInBounds i u) := by
  unfold Blk at h ⊢
  simp [World.setCell, Array.getElem?_modify, h]
theorem Blk.far (h : Blk w g t cs) {p : Addr} (hp : g ≠ p.block) (u : Value) : Blk (w.setCell p u) g t cs := (Below.heap_setCell w p u g hp).trans h
theorem Blk.below {B : Nat} (h : Blk w g t cs) (hb : Below B w w') (hg : g < B) : Blk w' g t cs := (hb.block g hg).trans h
theorem Blk.grown {row : Option Nat} (h : Blk w g t cs) (hb : w.grownBy w' row) (hg : some g ≠ row) : Blk w' g t cs := (hb.block g h.lt hg).trans h
theorem Blk.ne_ {g' : Nat} {t' : TypeId} {cs' : Array Value} (h : Blk w g t cs) (h' : Blk w g' t' cs') (hne : t ≠ t') : g ≠ g' := by
  rintro rfl
  unfold Blk at h h'
  rw [h] at h'
  injection h' with h'
  injection h' with _ ht
  exact hne ht
end

section
variable {P : Program} (w : World)

theorem run_append_of_nil (base : Nat) (t ty e : TypeId) (i : TypeInfo) (size : Nat) (ht : P.underlying t = some (.slice e)) (hi : P.info? e = some i)
    (v : Value) (n : Nat) (xs : List Value) (hown : w.ownsRow base e size v n xs) (c : Nat) : (Builtin.append_ #[t, t] ty #[v, .slice none 0 c]).run P w = .ok v w := by
  rcases hown.2 with ⟨rfl, rfl⟩ | ⟨g, cap, cur, rfl, _, _, hnc, _⟩
  · simp [Builtin.append_, run_underlying ht, sizeOf, typeInfo, hi, Builtin.lenOf, Builtin.firstCells]
  · simp [Builtin.append_, run_underlying ht, sizeOf, typeInfo, hi, Builtin.lenOf, Builtin.firstCells, hnc, storeCells]

theorem run_append_any (base : Nat) (t ty e : TypeId) (i : TypeInfo) (z : Value) (size bytes : Nat) (ht : P.underlying t = some (.slice e)) (hi : P.info? e = some i) (hz : i.zero = some z)
    (hsize : i.size = size) (hby : i.bytes = bytes) (hzs : z.cells.size = size) (hsz : 0 < size)
    (v : Value) (n : Nat) (xs : List Value) (hown : w.ownsRow base e size v n xs)
    (B : Nat) (A : Option Addr) (m c : Nat) (news : List Value) (hr : Reads w B size A m news) (h1 : ∀ u ∈ news, u.oneCell' = true)
    (h63 : n + m ≤ maxLen) (hbytes : (n + m) * bytes ≤ 140737488355328) (hbase : base ≤ w.heap.size) :
    ∃ v' w', (Builtin.append_ #[t, t] ty #[v, .slice A m c]).run P w = .ok v' w' ∧ w'.ownsRow base e size v' (n + m) (xs ++ news) ∧ w.grownBy w' v.ownBlock ∧
      (v'.ownBlock = v.ownBlock ∨ v'.ownBlock = some w.heap.size) := by
  rcases A with _ | ad
  · have hm : m = 0 := by
      rcases Nat.eq_zero_or_pos m with h0 | h0
      · exact h0
      · obtain ⟨ad, h, _⟩ := hr.2 h0
        cases h
    subst hm
    have hn : news = [] := List.eq_nil_of_length_eq_zero (by simpa using hr.1)
    subst hn
    exact ⟨v, w, run_append_of_nil w base t ty e i size ht hi v n xs hown c, by simpa using hown, World.grownBy.refl w _, .inl rfl⟩
  · have hcells : ∀ j u, news[j]? = some u → w.cell? (ad.add j) = some u := by
      intro j u hu
      rcases Nat.eq_zero_or_pos m with h0 | h0
      · subst h0
        have hn : news = [] := List.eq_nil_of_length_eq_zero (by simpa using hr.1)
        subst hn
        simp at hu
      · obtain ⟨ad', h, _, hc⟩ := hr.2 h0
        injection h with h
        subst h
        exact hc j u hu
    obtain ⟨v', w', hrun, h2, h3, _, h5⟩ := run_append_own_at (P := P) w base t ty e i z size bytes ht hi hz hsize hby hzs hsz v n xs hown ad m c news hr.1 hcells h1 h63 hbytes hbase
    exact ⟨v', w', hrun, h2, h3, h5⟩

theorem wp_append_any {o : Oper} {a : Act} {K : Act → World → Prop} {Q : Exit → Act → World → Prop} (s x : Operand) (t : TypeId)
    (ho : o.op = .call { callee := .builtin .append, args := #[s, x], argTypes := #[t, t] })
    (base : Nat) (e : TypeId) (i : TypeInfo) (z : Value) (size bytes : Nat) (ht : P.underlying t = some (.slice e)) (hi : P.info? e = some i) (hz : i.zero = some z)
    (hsize : i.size = size) (hby : i.bytes = bytes) (hzs : z.cells.size = size) (hsz : 0 < size)
    (v : Value) (n : Nat) (xs : List Value) (hs : a.eval s = v) (hown : w.ownsRow base e size v n xs)
    (B : Nat) (A : Option Addr) (m c : Nat) (news : List Value) (hx : a.eval x = .slice A m c) (hr : Reads w B size A m news) (h1 : ∀ u ∈ news, u.oneCell' = true)
    (h63 : n + m ≤ maxLen) (hbytes : (n + m) * bytes ≤ 140737488355328) (hbase : base ≤ w.heap.size)
    (h : ∀ v' w', w'.ownsRow base e size v' (n + m) (xs ++ news) → w.grownBy w' v.ownBlock → (v'.ownBlock = v.ownBlock ∨ v'.ownBlock = some w.heap.size) → K (a.put o.dst v') w') : o.wp P a w K Q := by
  obtain ⟨v', w', hrun, h2, h3, h4⟩ := run_append_any (P := P) w base t o.type e i z size bytes ht hi hz hsize hby hzs hsz v n xs hown B A m c news hr h1 h63 hbytes hbase
  unfold Oper.wp execOp
  simp only [ho, resolve, invoke, builtin, Sem.run_bind, Sem.run_pure, Result.andThen_ok, List.map_toArray, List.map_cons, List.map_nil, hs, hx, hrun]
  exact h v' w' h2 h3 h4

theorem wpList_append_any {ops : Array Oper} {rest : List Oper} {o : Oper} {a : Act} {Q : Exit → Act → World → Prop} (hgd : o.guard = none) (s x : Operand) (t : TypeId)
    (ho : o.op = .call { callee := .builtin .append, args := #[s, x], argTypes := #[t, t] })
    (base : Nat) (e : TypeId) (i : TypeInfo) (z : Value) (size bytes : Nat) (ht : P.underlying t = some (.slice e)) (hi : P.info? e = some i) (hz : i.zero = some z)
    (hsize : i.size = size) (hby : i.bytes = bytes) (hzs : z.cells.size = size) (hsz : 0 < size)
    (v : Value) (n : Nat) (xs : List Value) (hs : a.eval s = v) (hown : w.ownsRow base e size v n xs)
    (B : Nat) (A : Option Addr) (m c : Nat) (news : List Value) (hx : a.eval x = .slice A m c) (hr : Reads w B size A m news) (h1 : ∀ u ∈ news, u.oneCell' = true)
    (h63 : n + m ≤ maxLen) (hbytes : (n + m) * bytes ≤ 140737488355328) (hbase : base ≤ w.heap.size)
    (h : ∀ v' w', w'.ownsRow base e size v' (n + m) (xs ++ news) → w.grownBy w' v.ownBlock → (v'.ownBlock = v.ownBlock ∨ v'.ownBlock = some w.heap.size) → wpList P ops Q rest (a.put o.dst v') w') : wpList P ops Q (o :: rest) a w :=
  wpList_plain hgd fun _ hK => wp_append_any w s x t ho base e i z size bytes ht hi hz hsize hby hzs hsz v n xs hs hown B A m c news hx hr h1 h63 hbytes hbase fun v' w' h2 h3 h4 => hK _ _ (h v' w' h2 h3 h4)

theorem step_append_any {ops : Array Oper} {o : Oper} {a : Act} {K : Act → World → Prop} {Q : Exit → Act → World → Prop} {E : Prop} (hgd : o.guard = none) (s x : Operand) (t : TypeId)
    (ho : o.op = .call { callee := .builtin .append, args := #[s, x], argTypes := #[t, t] })
    (base : Nat) (e : TypeId) (i : TypeInfo) (z : Value) (size bytes : Nat) (ht : P.underlying t = some (.slice e)) (hi : P.info? e = some i) (hz : i.zero = some z)
    (hsize : i.size = size) (hby : i.bytes = bytes) (hzs : z.cells.size = size) (hsz : 0 < size)
    (v : Value) (n : Nat) (xs : List Value) (hs : a.eval s = v) (hown : w.ownsRow base e size v n xs)
    (B : Nat) (A : Option Addr) (m c : Nat) (news : List Value) (hx : a.eval x = .slice A m c) (hr : Reads w B size A m news) (h1 : ∀ u ∈ news, u.oneCell' = true)
    (h63 : n + m ≤ maxLen) (hbytes : (n + m) * bytes ≤ 140737488355328) (hbase : base ≤ w.heap.size)
    (h : ∀ v' w', w'.ownsRow base e size v' (n + m) (xs ++ news) → w.grownBy w' v.ownBlock → (v'.ownBlock = v.ownBlock ∨ v'.ownBlock = some w.heap.size) → K (a.put o.dst v') w') :
    if Region.wanted o (yielded ops a.tmps) = true then Oper.wp P o a w K Q else E := by
  have hw : Region.wanted o (yielded ops a.tmps) = true := by simp [Region.wanted, hgd]
  rw [if_pos hw]
  exact wp_append_any w s x t ho base e i z size bytes ht hi hz hsize hby hzs hsz v n xs hs hown B A m c news hx hr h1 h63 hbytes hbase h
end

theorem below_drewN {B : Nat} {a w : World} (h : Below B a w) (n : Nat) : Below B a (w.drewN n) := ⟨h.os, h.tape, h.output, h.size, h.block⟩
theorem only_drew {a w : World} {row : Option Nat} (h : a.grownBy w row) : a.grownBy w.drew row := ⟨h.os, h.tape, h.output, h.size, h.block⟩
theorem only_alloc {a w : World} {row : Option Nat} (h : a.grownBy w row) (o : Obj) : a.grownBy (w.alloc o) row :=
  ⟨h.os, h.tape, h.output, Nat.le_trans h.size (by simp), fun i hi hne => (Below.heap_alloc w o i (Nat.lt_of_lt_of_le hi h.size)).trans (h.block i hi hne)⟩
theorem only_of_below {a w : World} (h : Below a.heap.size a w) (row : Option Nat) : a.grownBy w row := ⟨h.os, h.tape, h.output, h.size, fun i hi _ => h.block i hi⟩

theorem run_make_rowN {P : Program} (t e : TypeId) (i : TypeInfo) (z : Value) (ht : P.underlying t = some (.slice e)) (hi : P.info? e = some i) (hz : i.zero = some z)
    (kl kc : IntKind) (n c : Nat) (hnc : n ≤ c) (hbytes : i.bytes * c ≤ 281474976710656) (h63 : c ≤ 9223372036854775807) (w : World) :
    (Instr.makeSlice t (.int kl (n : Int)) (.int kc (c : Int))).run P w = .ok (.slice (some ⟨w.heap.size, 0, none⟩) n c) (w.alloc (.cells (madeCells z.cells (c * i.size)) e)) := by
  have hb : (i.bytes : Int) * (c : Int) ≤ 281474976710656 := by
    have h : ((i.bytes * c : Nat) : Int) ≤ 281474976710656 := by omega
    rwa [Int.natCast_mul] at h
  have hr := run_make (P := P) w t e i z ht hi hz kl kc n c (by omega) (by omega) hb (by omega)
  simp only [Int.toNat_natCast] at hr
  exact hr
/-- A byte's cell. -/
def cellsB (l : List UInt8) : List Value := l.map fun b => Value.int .u8 (b.toNat : Int)
theorem length_cellsB (l : List UInt8) : (cellsB l).length = l.length := by simp [cellsB]
theorem getElem?_cellsB (l : List UInt8) (j : Nat) : (cellsB l)[j]? = (l[j]?).map fun b => Value.int .u8 (b.toNat : Int) := by simp [cellsB]
theorem cellsB_append (l m : List UInt8) : cellsB (l ++ m) = cellsB l ++ cellsB m := by simp [cellsB]
theorem cellsB_one (l : List UInt8) : ∀ u ∈ cellsB l, u.oneCell' = true := by
  intro u hu
  simp only [cellsB, List.mem_map] at hu
  obtain ⟨b, _, rfl⟩ := hu
  rfl

/-- The string of some bytes; the bytes of a string. -/
def bs (l : List UInt8) : ByteArray := ⟨l.toArray⟩
def lb (s : ByteArray) : List UInt8 := s.data.toList
theorem lb_bs (l : List UInt8) : lb (bs l) = l := by simp [lb, bs]
theorem bs_lb (s : ByteArray) : bs (lb s) = s := by simp [lb, bs]
theorem size_bs (l : List UInt8) : (bs l).size = l.length := by unfold bs ByteArray.size; simp
theorem length_lb (s : ByteArray) : (lb s).length = s.size := by unfold lb; rw [Array.length_toList]; rfl
theorem lb_extract (s : ByteArray) (i j : Nat) : lb (s.extract i j) = ((lb s).take j).drop i := by
  simp [lb, List.extract_eq_take_drop]
  rw [List.drop_take]

/-- string(b), b a slice of bytes that reads as l. -/
theorem run_string_of {P : Program} {src dst e : TypeId} (hs : P.underlying src = some (.slice e)) (he : P.underlying e = some (.int .u8)) (hd : P.underlying dst = some .string)
    {w : World} {B n c : Nat} {A : Option Addr} {l : List UInt8} (h : Reads w B 1 A n (cellsB l)) : (convert src dst (.slice A n c)).run P w = .ok (.string (bs l)) w := by
  have hn : l.length = n := by have := h.1; rw [length_cellsB] at this; omega
  subst hn
  cases A with
  | none =>
    have hl : l = [] := by
      rcases Nat.eq_zero_or_pos l.length with h0 | h0
      · exact List.eq_nil_of_length_eq_zero h0
      · obtain ⟨ad, hx, _⟩ := h.2 h0
        cases hx
    subst hl
    rw [run_convert_bytes_nil w src e hs he _ c dst hd]
    rfl
  | some a =>
    refine run_convert_bytes_back w src dst e a c l hs he hd fun j hj => ?_
    obtain ⟨ad, hx, _, hc⟩ := h.2 (by omega)
    injection hx with hx
    subst hx
    exact hc j _ (by rw [getElem?_cellsB, List.getElem?_eq_getElem hj]; rfl)

theorem bytesRow_cell (s : ByteArray) (cap j : Nat) (hj : j < s.size) : (bytesRow s cap)[j]? = some (.int .u8 (((lb s).getD j 0).toNat : Int)) := by
  have h1 : j < s.data.size := hj
  rw [bytesRow, Array.getElem?_append_left (by simpa using h1)]
  simp [lb, Array.getElem?_eq_getElem h1]

/-- []byte(s): a new block that holds the bytes of s; nothing else has turned. -/
theorem bytes_of_ex {P : Program} {src dst e : TypeId} (hs : P.underlying src = some .string) (hd : P.underlying dst = some (.slice e)) (he : P.underlying e = some (.int .u8)) (W : World) (s : ByteArray) :
    ∃ (cap : Nat) (W' : World), (convert src dst (.string s)).run P W = .ok (.slice (some ⟨W.heap.size, 0, none⟩) s.size cap) W' ∧ s.size ≤ cap ∧
      (∀ j, j < s.size → W'.cell? ⟨W.heap.size, j, none⟩ = some (.int .u8 (((lb s).getD j 0).toNat : Int))) ∧ W'.heap.size = W.heap.size + 1 ∧ W.grownBy W' none := by
  refine ⟨grownCap W s.size 0 e, _, run_bytes_of_string W src dst e s hs hd he, grownCap_ge _ _ _ _, fun j hj => ?_, by simp, ?_⟩
  · have h := cell_of_row (W.drew.alloc (.cells (bytesRow s (grownCap W s.size 0 e)) e ((bytesRow s (grownCap W s.size 0 e)).size, (bytesRow s (grownCap W s.size 0 e)).size + 1))) W.heap.size j (bytesRow s (grownCap W s.size 0 e)) e _ (heap_alloc_new W.drew _)
    rw [h, bytesRow_cell s _ j hj]
  · exact only_alloc (only_drew (World.grownBy.refl W none)) _

/-- A row from a place on is one from an earlier place on. -/
theorem own_base {w : World} {base base' : Nat} {e : TypeId} {size n : Nat} {v : Value} {xs : List Value} (h : w.ownsRow base e size v n xs) (hb : base' ≤ base) : w.ownsRow base' e size v n xs := by
  refine ⟨h.1, ?_⟩
  rcases h.2 with h0 | ⟨g, cap, cur, hv, hg, hr⟩
  · exact .inl h0
  · exact .inr ⟨g, cap, cur, hv, by omega, hr⟩
theorem own_slice {w : World} {base : Nat} {e : TypeId} {size n : Nat} {v : Value} {xs : List Value} (h : w.ownsRow base e size v n xs) : ∃ A c, v = .slice A n c ∧ n ≤ c := by
  rcases h.2 with ⟨rfl, rfl⟩ | ⟨g, cap, cur, rfl, _, _, hnc, _⟩
  · exact ⟨_, _, rfl, Nat.le_refl _⟩
  · exact ⟨_, _, rfl, hnc⟩

/-- A slice up to a place. -/
theorem cut_upto {P : Program} {t : TypeId} {w : World} {B n c : Nat} {A : Option Addr} {xs : List Value} (ht : P.underlying t = some (.slice (P.elem t))) (hs : ∀ W, (Go.sizeOf (P.elem t)).run P W = .ok 1 W)
    (h : Reads w B 1 A n xs) (k : Nat) (hk : k ≤ n) (hc : n ≤ c) :
    (∀ (x : Int) (W : World), x = k → (Instr.slice t (.slice A n c) none (some (.int .i64 x)) none).run P W = .ok (.slice A k c) W) ∧ Reads w B 1 A k (xs.take k) := by
  refine ⟨fun x W hx => ?_, by rw [List.length_take, h.1]; omega, fun hk0 => ?_⟩
  · subst hx
    rw [run_slice_h W t A n c ht .i64 _ (by omega) (by omega), hs]
    simp only [Result.andThen_ok, sliced, Int.toNat_natCast]
    cases A <;> simp [Addr.add]
  · obtain ⟨ad, rfl, hb, hcell⟩ := h.2 (by omega)
    refine ⟨ad, rfl, hb, fun j u hu => hcell j u ?_⟩
    rw [List.getElem?_take] at hu
    split at hu
    · exact hu
    · cases hu

theorem add_none (b off k : Nat) : (⟨b, off, none⟩ : Addr).add k = ⟨b, off + k, none⟩ := by unfold Addr.add; split <;> simp_all
/-- The address of a slice that has an element, written out. -/
theorem Reads.plain {w : World} {B n : Nat} {A : Option Addr} {xs : List Value} (h : Reads w B 1 A n xs) (hn : 0 < n) :
    ∃ b off, A = some ⟨b, off, none⟩ ∧ b < B ∧ ∀ j u, xs[j]? = some u → w.cell? ⟨b, off + j, none⟩ = some u := by
  obtain ⟨ad, rfl, hb, hc⟩ := h.2 hn
  obtain ⟨b, off, spot⟩ := ad
  have hl : 0 < xs.length := by have := h.1; omega
  have h0 := hc 0 _ (List.getElem?_eq_getElem hl)
  have hs : spot = none := by simpa [Addr.add] using World.cell?_spot h0
  subst hs
  exact ⟨b, off, rfl, hb, fun j u hu => by rw [← add_none]; exact hc j u hu⟩

/-- Strings as cells. -/
def cellsS (l : List ByteArray) : List Value := l.map Value.string
theorem length_cellsS (l : List ByteArray) : (cellsS l).length = l.length := by simp [cellsS]
theorem getElem?_cellsS (l : List ByteArray) (j : Nat) : (cellsS l)[j]? = (l[j]?).map Value.string := by simp [cellsS]
theorem toList_lb (s : ByteArray) : s.toList = lb s := Lib.toList_data s
theorem lb_inj {s t : ByteArray} (h : lb s = lb t) : s = t := by rw [← bs_lb s, h, bs_lb]
theorem take_snoc_eq {α : Type} {a b : List α} {k : Nat} {x y : α} (h : a.take k = b.take k) (hx : a[k]? = some x) (hy : b[k]? = some y) : a.take (k + 1) = b.take (k + 1) ↔ x = y := by
  rw [List.take_add_one, List.take_add_one, hx, hy, h]
  simp
theorem ne_of_at {α : Type} {a b : List α} {k : Nat} {x y : α} (hx : a[k]? = some x) (hy : b[k]? = some y) (h : x ≠ y) : a ≠ b := by
  rintro rfl
  rw [hx] at hy
  exact h (Option.some.inj hy)

theorem own_below {B : Nat} {e : TypeId} {k : Nat} {v : Value} {n : Nat} {xs : List Value} {w w' : World} (h : w.ownsRow B e k v n xs) (hb : Below w.heap.size w w') : w'.ownsRow B e k v n xs :=
  h.kept (only_of_below hb none) (by
    cases hv : v.ownBlock with
    | none => exact .inl rfl
    | some g => exact .inr (by simp))

/-- A new block of one cell, read as a slice. -/
theorem reads_new1 (w : World) (x : Value) (t : TypeId) : Reads (w.alloc (.cells #[x] t)) (w.heap.size + 1) 1 (some ⟨w.heap.size, 0, none⟩) 1 [x] := by
  refine ⟨rfl, fun _ => ⟨_, rfl, Nat.lt_succ_self _, fun j u hu => ?_⟩⟩
  have hj : j = 0 := by
    have := (List.getElem?_eq_some_iff.1 hu).1
    simp at this; omega
  subst hj
  simp at hu
  subst hu
  simp [Addr.add]
/-- Two steps of growth: the second one's row is the first one's, or is new. -/
theorem grown_step {a b c : World} {row row' : Option Nat} (h : a.grownBy b row) (k : b.grownBy c row') (hr : row' = row ∨ row' = none ∨ ∃ g, row' = some g ∧ a.heap.size ≤ g) : a.grownBy c row :=
  ⟨k.os.trans h.os, k.tape.trans h.tape, k.output.trans h.output, Nat.le_trans h.size k.size, fun i hi hn => by
    rw [k.block i (Nat.lt_of_lt_of_le hi h.size) (by
      rcases hr with rfl | rfl | ⟨g, rfl, hg⟩
      · exact hn
      · simp
      · simp; omega)]
    exact h.block i hi hn⟩

/-- copy(dst, src), dst the head of a block known whole. -/
theorem copy_ex {P : Program} {dT sT elem : TypeId} (ty : TypeId) (hu : P.underlying dT = some (.slice elem)) (hsz : (P.info? elem).map (·.size) = some 1) {w : World} {B g dLen sLen : Nat} (dCap sCap : Nat) {A : Option Addr} {cur cs : List Value} {t : TypeId}
    (hg : w.heap[g]? = some (.cells cur.toArray t (0, 0))) (hr : Reads w B 1 A sLen cs) (h1 : ∀ u ∈ cs, u.oneCell' = true) (hle : sLen ≤ dLen) (hfit : sLen ≤ cur.length) :
    ∃ w', (Builtin.copy_ #[dT, sT] ty #[.slice (some ⟨g, 0, none⟩) dLen dCap, .slice A sLen sCap]).run P w = .ok (.int .i64 (sLen : Int)) w' ∧ w'.heap[g]? = some (.cells (cs ++ cur.drop sLen).toArray t (0, 0)) ∧ w.grownBy w' (some g) := by
  have hl : cs.length = sLen := by have := hr.1; omega
  rcases Nat.eq_zero_or_pos sLen with h0 | h0
  · subst h0
    have : cs = [] := List.eq_nil_of_length_eq_zero hl
    subst this
    exact ⟨w, run_copy_none (P := P) w dT sT ty elem _ A dLen dCap 0 sCap hu hsz (Nat.zero_min _), by simpa using hg, World.grownBy.refl _ _⟩
  · obtain ⟨ad, rfl, _, hc⟩ := hr.2 h0
    have hmin : cs.length = Nat.min sLen dLen := by rw [hl]; exact (Nat.min_eq_left hle).symm
    have hrun := run_copy_row (P := P) w dT sT ty elem g 0 dLen dCap ad sLen sCap cur.toArray t cs hu hsz hg hmin hc (by simp; omega) h1
    rw [show (cur.toArray.toList.take 0 ++ cs ++ cur.toArray.toList.drop (0 + cs.length)).toArray = (cs ++ cur.drop sLen).toArray by simp [hl], hl] at hrun
    exact ⟨w.setRow g (cs ++ cur.drop sLen).toArray, hrun, setRow_heap w g cur.toArray _ t (0, 0) hg, ⟨rfl, rfl, rfl, by simp, fun i _ hn => setRow_other w g i _ (fun e => hn (by rw [e]))⟩⟩
end Go.Proofs.YtckdecodpjfcnaaGreatDoor
namespace Go.Proofs.YtckdecodpjfcnaaGreatDoor

theorem wraps_i64 (n : Int) (h0 : 0 ≤ n) (h1 : n < 2 ^ 62) : IntKind.i64.wrap n = n := by rw [IntKind.wrap_i64]; omega

theorem bits_or_comm (k : IntKind) (x y : Int) : bits .or k x y = bits .or k y x := by
  simp only [bits, BitVec.or_comm]

/-- The lower bits are x's, the higher ones y's. -/
theorem or_i64 (i : Nat) (x y : Int) (hy0 : 0 ≤ y) (hy : y % 2 ^ i = 0) (hy1 : y < 2 ^ 62) (hx0 : 0 ≤ x) (hx : x < 2 ^ i) (hx1 : x < 2 ^ 62) :
    bits .or .i64 x y = x + y := by
  rw [bits_or_comm, bits_join .i64 62 (by decide) wraps_i64 i y x hy0 hy hy1 hx0 hx hx1]; omega

theorem and_i64_127 (x : Int) (h0 : 0 ≤ x) (h1 : x < 2 ^ 62) : bits .and .i64 x 127 = x % 128 :=
  bits_mask .i64 62 (by decide) wraps_i64 7 (by decide) x h0 h1

theorem and_u8_127 (x : Int) (h0 : 0 ≤ x) (h1 : x < 256) : bits .and .u8 x 127 = x % 128 :=
  bits_mask .u8 8 (by decide) wraps_u8 7 (by decide) x h0 h1

theorem or_i64_128 (x : Int) (h0 : 0 ≤ x) (h1 : x < 128) : bits .or .i64 x 128 = x + 128 :=
  or_i64 7 x 128 (by decide) (by decide) (by decide) h0 h1 (by omega)

/-- The highest bit of a byte. -/
theorem and_u8_128 (x : Int) (h0 : 0 ≤ x) (h1 : x < 256) : bits .and .u8 x 128 = if x < 128 then 0 else 128 := by
  obtain ⟨a, rfl⟩ := Int.eq_ofNat_of_zero_le h0
  have ha : a < 256 := by omega
  rw [show (128 : Int) = ((128 : Nat) : Int) from rfl, u8_and_nat a 128 ha (by decide)]
  have : ∀ a : Fin 256, ((a.val &&& 128 : Nat) : Int) = if (a.val : Int) < ((128 : Nat) : Int) then 0 else ((128 : Nat) : Int) := by decide +kernel
  exact this ⟨a, ha⟩

section
variable {P : Program} (w : World)

end
end Go.Proofs.YtckdecodpjfcnaaGreatDoor
namespace Go.Proofs.YtckdecodpjfcnaaGreatDoor
open Go.RowKit

/-- The greatest number. -/
def maxNum : Nat := 1099511627776

/-- The bytes of a number, 7 bits each, the lowest first. -/
def encF : Nat → Nat → List UInt8
  | 0, n => [UInt8.ofNat n]
  | f + 1, n => if n < 128 then [UInt8.ofNat n] else UInt8.ofNat (n % 128 + 128) :: encF f (n / 128)
def enc (n : Nat) : List UInt8 := encF 8 n

theorem encF_small (f n : Nat) (h : n < 128) : encF f n = [UInt8.ofNat n] := by
  cases f with
  | zero => rfl
  | succ f => simp [encF, h]
theorem encF_big (f n : Nat) (h : 128 ≤ n) : encF (f + 1) n = UInt8.ofNat (n % 128 + 128) :: encF f (n / 128) := by
  rw [encF, if_neg (by omega)]
theorem encF_more : ∀ (f g n : Nat), n < 128 ^ (f + 1) → f ≤ g → encF g n = encF f n
  | 0, g, n, h, _ => by rw [encF_small g n (by simpa using h), encF_small 0 n (by simpa using h)]
  | f + 1, 0, n, _, hg => by omega
  | f + 1, g + 1, n, h, hg => by
    by_cases hn : n < 128
    · rw [encF_small _ _ hn, encF_small _ _ hn]
    · rw [encF_big _ _ (by omega), encF_big _ _ (by omega), encF_more f g (n / 128) (by
        rw [Nat.pow_succ] at h
        exact Nat.div_lt_of_lt_mul (by rw [Nat.mul_comm]; exact h)) (by omega)]
theorem enc_small (n : Nat) (h : n < 128) : enc n = [UInt8.ofNat n] := encF_small 8 n h
theorem enc_big (n : Nat) (h : 128 ≤ n) (hm : n ≤ maxNum) : enc n = UInt8.ofNat (n % 128 + 128) :: enc (n / 128) := by
  unfold enc
  rw [encF_big 7 n h, encF_more 7 8 (n / 128) (by unfold maxNum at hm; have : (128 : Nat) ^ (7 + 1) = 72057594037927936 := by decide
                                                  rw [this]; omega) (by omega)]

/-- How many bytes a number has. -/
def encLen (n : Nat) : Nat := (enc n).length
theorem encLen_small (n : Nat) (h : n < 128) : encLen n = 1 := by unfold encLen; rw [enc_small n h]; rfl
theorem encLen_big (n : Nat) (h : 128 ≤ n) (hm : n ≤ maxNum) : encLen n = encLen (n / 128) + 1 := by
  unfold encLen; rw [enc_big n h hm]; rfl
theorem encF_len : ∀ f n, 1 ≤ (encF f n).length ∧ (encF f n).length ≤ f + 1
  | 0, n => by simp [encF]
  | f + 1, n => by
    by_cases h : n < 128
    · rw [encF_small _ _ h]; simp
    · rw [encF_big _ _ (by omega)]
      have := encF_len f (n / 128)
      simp only [List.length_cons]; omega
theorem encLen_pos (n : Nat) : 1 ≤ encLen n := (encF_len 8 n).1
theorem encLen_le (n : Nat) (h : n ≤ maxNum) : encLen n ≤ 6 := by
  have h1 : enc n = encF 5 n := encF_more 5 8 n (by unfold maxNum at h; have : (128 : Nat) ^ (5 + 1) = 4398046511104 := by decide
                                                    rw [this]; omega) (by omega)
  unfold encLen; rw [h1]; exact (encF_len 5 n).2

/-- What bytes say: the number, and how many bytes it has. i: how many bytes have been read; acc: their number. -/
def decF : Nat → Nat → Nat → List UInt8 → Option (Nat × Nat)
  | 0, _, _, _ => none
  | _ + 1, _, _, [] => none
  | f + 1, i, acc, c :: r =>
    if 128 ≤ c.toNat then decF f (i + 1) (acc + c.toNat % 128 * 128 ^ i) r
    else if (c.toNat = 0 ∧ 0 < i) ∨ maxNum < acc + c.toNat % 128 * 128 ^ i then none
    else some (acc + c.toNat % 128 * 128 ^ i, i + 1)
def dec (l : List UInt8) : Option (Nat × Nat) := decF 6 0 0 l

theorem toNat_low (n : Nat) (h : n < 128) : (UInt8.ofNat n).toNat = n := by simp; omega
theorem toNat_high (n : Nat) : (UInt8.ofNat (n % 128 + 128)).toNat = n % 128 + 128 := by simp; omega

theorem cellsB_high (m : Nat) : cellsB [UInt8.ofNat (m % 128 + 128)] = [Value.int .u8 ((m : Int) % 128 + 128)] := by
  unfold cellsB
  rw [List.map_cons, toNat_high]
  simp
theorem cellsB_low (m : Nat) (h : m < 128) : cellsB [UInt8.ofNat m] = [Value.int .u8 (m : Int)] := by
  unfold cellsB
  rw [List.map_cons, toNat_low m h]
  simp

/-- What was written is read, whatever stands behind it. -/
theorem decF_enc : ∀ (f i acc n : Nat) (r : List UInt8), acc + n * 128 ^ i ≤ maxNum → n < 128 ^ f → (n = 0 → i = 0) → 0 < f →
    decF f i acc (encF 8 n ++ r) = some (acc + n * 128 ^ i, i + (encF 8 n).length)
  | 0, _, _, _, _, _, _, _, hf => absurd hf (by omega)
  | f + 1, i, acc, n, r, hm, hn, hz, _ => by
    by_cases h : n < 128
    · rw [encF_small _ _ h, List.cons_append, List.nil_append, decF, toNat_low n h, if_neg (by omega), Nat.mod_eq_of_lt h, if_neg (by omega)]
      rfl
    · have hp : 0 < 128 ^ i := Nat.pow_pos (by omega)
      have hnm : n ≤ maxNum := by
        have : n ≤ n * 128 ^ i := Nat.le_mul_of_pos_right n hp
        omega
      have hb : encF 8 n = UInt8.ofNat (n % 128 + 128) :: encF 8 (n / 128) := enc_big n (by omega) hnm
      have e1 : n * 128 ^ i = n % 128 * 128 ^ i + n / 128 * 128 ^ (i + 1) := by
        rw [Nat.pow_succ, Nat.mul_comm (128 ^ i) 128, ← Nat.mul_assoc, ← Nat.add_mul]
        congr 1
        omega
      rw [hb, List.cons_append, decF, toNat_high, if_pos (by omega), Nat.add_mod_right, Nat.mod_mod]
      rw [decF_enc f (i + 1) _ (n / 128) r (by omega) (by
        rw [Nat.pow_succ] at hn
        exact Nat.div_lt_of_lt_mul (by rw [Nat.mul_comm]; exact hn)) (by omega) (by
        rcases Nat.eq_zero_or_pos f with h0 | h0
        · subst h0; simp at hn; omega
        · exact h0)]
      rw [List.length_cons]
      congr 1
      ext1
      · show acc + n % 128 * 128 ^ i + n / 128 * 128 ^ (i + 1) = acc + n * 128 ^ i
        omega
      · show i + 1 + (encF 8 (n / 128)).length = i + ((encF 8 (n / 128)).length + 1)
        omega

theorem dec_enc (n : Nat) (r : List UInt8) (h : n ≤ maxNum) : dec (enc n ++ r) = some (n, encLen n) := by
  unfold dec enc encLen
  rw [decF_enc 6 0 0 n r (by omega) (by unfold maxNum at h; have : (128 : Nat) ^ 6 = 4398046511104 := by decide
                                        rw [this]; omega) (fun _ => rfl) (by omega)]
  simp [enc]

/-- What reads as a number is written as just those bytes. -/
theorem decF_only : ∀ (f i acc : Nat) (l : List UInt8) (n k : Nat), decF f i acc l = some (n, k) →
    ∃ m, n = acc + m * 128 ^ i ∧ i < k ∧ k ≤ i + f ∧ k ≤ i + l.length ∧ n ≤ maxNum ∧ (m = 0 → i = 0) ∧ l.take (k - i) = encF 8 m
  | 0, _, _, _, _, _, h => by simp [decF] at h
  | _ + 1, _, _, [], _, _, h => by simp [decF] at h
  | f + 1, i, acc, c :: r, n, k, h => by
    rw [decF] at h
    by_cases hc : 128 ≤ c.toNat
    · rw [if_pos hc] at h
      obtain ⟨m, hn, h1, h2, h3, h4, h5, h6⟩ := decF_only f (i + 1) _ r n k h
      have hcl : c.toNat < 256 := UInt8.toNat_lt c
      have hm0 : 0 < m := by
        rcases Nat.eq_zero_or_pos m with h0 | h0
        · have := h5 h0; omega
        · exact h0
      refine ⟨c.toNat % 128 + m * 128, ?_, by omega, by omega, by rw [List.length_cons]; omega, h4, by omega, ?_⟩
      · rw [hn, Nat.add_mul, Nat.pow_succ, Nat.mul_comm (128 ^ i) 128, ← Nat.mul_assoc]; omega
      · have hp : 0 < 128 ^ i := Nat.pow_pos (by omega)
        have hle : c.toNat % 128 + m * 128 ≤ maxNum := by
          have e : n = acc + (c.toNat % 128 + m * 128) * 128 ^ i := by
            rw [hn, Nat.add_mul, Nat.pow_succ, Nat.mul_comm (128 ^ i) 128, ← Nat.mul_assoc]; omega
          have : c.toNat % 128 + m * 128 ≤ (c.toNat % 128 + m * 128) * 128 ^ i := Nat.le_mul_of_pos_right _ hp
          omega
        have hb := enc_big (c.toNat % 128 + m * 128) (by omega) hle
        unfold enc at hb
        rw [hb, show k - i = (k - (i + 1)) + 1 by omega, List.take_succ_cons, h6]
        congr 1
        · rw [show (c.toNat % 128 + m * 128) % 128 + 128 = c.toNat by omega]
          exact (UInt8.ofNat_toNat).symm
        · rw [show (c.toNat % 128 + m * 128) / 128 = m by omega]
    · rw [if_neg hc] at h
      split at h
      · cases h
      · rename_i hno
        simp only [Option.some.injEq, Prod.mk.injEq] at h
        obtain ⟨rfl, rfl⟩ := h
        have hlow : c.toNat % 128 = c.toNat := by omega
        refine ⟨c.toNat, by rw [hlow], by omega, by omega, by rw [List.length_cons]; omega, by omega, by omega, ?_⟩
        rw [show i + 1 - i = 1 by omega, encF_small 8 c.toNat (by omega)]
        simp

theorem dec_only (l : List UInt8) (n k : Nat) (h : dec l = some (n, k)) : n ≤ maxNum ∧ 0 < k ∧ k ≤ 6 ∧ k ≤ l.length ∧ l.take k = enc n := by
  obtain ⟨m, hn, h1, h2, h3, h4, _, h6⟩ := decF_only 6 0 0 l n k h
  have : n = m := by simpa using hn
  subst this
  exact ⟨h4, h1, by omega, by omega, by unfold enc; simpa using h6⟩

/-- A number's next seven bits put to the lower ones. -/
theorem or_acc (acc x i : Nat) (hacc : acc < 128 ^ i) (hx : x < 128) (hi : i ≤ 5) : bits .or .i64 (acc : Int) (wrap64 ((x : Int) * 2 ^ (7 * i))) = ((acc + x * 128 ^ i : Nat) : Int) := by
  have hp : (2 : Int) ^ (7 * i) = ((128 ^ i : Nat) : Int) := by rw [Int.pow_mul]; norm_cast
  have h5 : 128 ^ i ≤ 128 ^ 5 := Nat.pow_le_pow_right (by omega) hi
  have e5 : (128 : Nat) ^ 5 = 34359738368 := by decide
  have hm : x * 128 ^ i ≤ 127 * 128 ^ i := Nat.mul_le_mul_right _ (by omega)
  have hmod : ((x : Int) * ((128 ^ i : Nat) : Int)) % ((128 ^ i : Nat) : Int) = 0 := Int.mul_emod_left _ _
  have hcast : (x : Int) * ((128 ^ i : Nat) : Int) = ((x * 128 ^ i : Nat) : Int) := by push_cast; rfl
  rw [hp, IntWalk.wrap64_in _ ⟨by rw [hcast]; omega, by rw [hcast]; omega⟩]
  rw [or_i64 (7 * i) _ _ (by rw [hcast]; omega) (by rw [hp]; exact hmod) (by rw [hcast]; omega) (by omega) (by rw [hp]; omega) (by omega), hcast]
  push_cast
  rfl
end Go.Proofs.YtckdecodpjfcnaaGreatDoor
namespace Go.Proofs.YtckdecodpjfcnaaGreatDoor
open Go.RowKit

theorem dec_iff (l : List UInt8) (n k : Nat) : dec l = some (n, k) ↔ n ≤ maxNum ∧ k = encLen n ∧ ∃ r, l = enc n ++ r := by
  constructor
  · intro h
    obtain ⟨h1, h2, h3, h4, h5⟩ := dec_only l n k h
    refine ⟨h1, ?_, l.drop k, ?_⟩
    · unfold encLen; rw [← h5, List.length_take]; omega
    · rw [← h5, List.take_append_drop]
  · rintro ⟨h1, rfl, r, rfl⟩
    exact dec_enc n r h1

theorem drop_enc (n : Nat) (r : List UInt8) : (enc n ++ r).drop (encLen n) = r := List.drop_left' rfl
/-- A way of writing: what reads it, what writes it, which things can be written; it is read just if it was written. -/
structure Cd (α : Type) where
  p : List UInt8 → Option (α × List UInt8)
  e : α → List UInt8
  v : α → Prop
  law : ∀ l x r, p l = some (x, r) ↔ v x ∧ l = e x ++ r

section
variable {α β : Type}
theorem Cd.back (c : Cd α) {x : α} (h : c.v x) (r : List UInt8) : c.p (c.e x ++ r) = some (x, r) := (c.law _ _ _).2 ⟨h, rfl⟩
theorem Cd.back0 (c : Cd α) {x : α} (h : c.v x) : c.p (c.e x) = some (x, []) := by
  have := c.back h []
  rwa [List.append_nil] at this
theorem Cd.only (c : Cd α) {l r : List UInt8} {x : α} (h : c.p l = some (x, r)) : c.v x ∧ l = c.e x ++ r := (c.law _ _ _).1 h
theorem Cd.inj (c : Cd α) {x y : α} {r s : List UInt8} (hx : c.v x) (hy : c.v y) (h : c.e x ++ r = c.e y ++ s) : x = y ∧ r = s := by
  have h1 := c.back hx r
  rw [h, c.back hy s] at h1
  injection h1 with h1
  injection h1 with h1 h2
  exact ⟨h1.symm, h2.symm⟩
/-- A number from least to most. -/
def cNum (lo hi : Nat) : Cd Nat where
  p l := match dec l with
    | some (n, k) => if lo ≤ n ∧ n ≤ hi then some (n, l.drop k) else none
    | none => none
  e := enc
  v n := lo ≤ n ∧ n ≤ hi ∧ n ≤ maxNum
  law l x r := by
    constructor
    · intro h
      split at h
      · rename_i n k hd
        split at h
        · rename_i hr
          injection h with h
          injection h with h1 h2
          subst h1; subst h2
          obtain ⟨g1, rfl, r, rfl⟩ := (dec_iff _ _ _).1 hd
          exact ⟨⟨hr.1, hr.2, g1⟩, by rw [drop_enc]⟩
        · cases h
      · cases h
    · rintro ⟨⟨h1, h2, h3⟩, rfl⟩
      rw [dec_enc x r h3]
      simp only
      rw [if_pos ⟨h1, h2⟩, drop_enc]

/-- A text of at most so many bytes. -/
def cTxt (most : Nat) : Cd (List UInt8) where
  p l := match dec l with
    | some (n, k) => if n ≤ most ∧ n ≤ (l.drop k).length then some ((l.drop k).take n, (l.drop k).drop n) else none
    | none => none
  e s := enc s.length ++ s
  v s := s.length ≤ most ∧ s.length ≤ maxNum
  law l x r := by
    constructor
    · intro h
      split at h
      · rename_i n k hd
        split at h
        · rename_i hr
          injection h with h
          injection h with h1 h2
          obtain ⟨g1, rfl, r', rfl⟩ := (dec_iff _ _ _).1 hd
          rw [drop_enc] at h1 h2 hr
          have hl : x.length = n := by rw [← h1, List.length_take]; omega
          refine ⟨⟨by omega, by omega⟩, ?_⟩
          rw [hl, ← h1, ← h2, List.append_assoc, List.take_append_drop]
        · cases h
      · cases h
    · rintro ⟨⟨h1, h2⟩, rfl⟩
      rw [List.append_assoc, dec_enc _ _ h2]
      simp only
      rw [drop_enc, if_pos ⟨h1, by simp⟩]
      simp

def encY (y : Bool) : List UInt8 := [if y then 1 else 0]
/-- A flag. -/
def cFlag : Cd Bool where
  p
    | c :: r => if c = 0 then some (false, r) else if c = 1 then some (true, r) else none
    | [] => none
  e := encY
  v _ := True
  law l x r := by
    constructor
    · intro h
      split at h
      · split at h
        · rename_i hc
          injection h with h
          injection h with h1 h2
          subst h1; subst h2; subst hc
          exact ⟨trivial, rfl⟩
        · split at h
          · rename_i hc
            injection h with h
            injection h with h1 h2
            subst h1; subst h2; subst hc
            exact ⟨trivial, rfl⟩
          · cases h
      · cases h
    · rintro ⟨_, rfl⟩
      cases x <;> rfl

/-- Nothing. -/
def cNil : Cd Unit where
  p l := some ((), l)
  e _ := []
  v _ := True
  law l x r := by
    constructor
    · intro h; injection h with h; injection h with _ h; subst h; exact ⟨trivial, rfl⟩
    · rintro ⟨_, rfl⟩; rfl

/-- One, and what it says comes behind it. -/
def Cd.bind (c : Cd α) (d : α → Cd β) : Cd (α × β) where
  p l := match c.p l with
    | some (x, r) => match (d x).p r with
      | some (y, s) => some ((x, y), s)
      | none => none
    | none => none
  e z := c.e z.1 ++ (d z.1).e z.2
  v z := c.v z.1 ∧ (d z.1).v z.2
  law l z r := by
    obtain ⟨x, y⟩ := z
    constructor
    · intro h
      split at h
      · rename_i x' r' h1
        split at h
        · rename_i y' s' h2
          injection h with h
          injection h with h3 h4
          injection h3 with h5 h6
          subst h5; subst h6; subst h4
          obtain ⟨v1, rfl⟩ := c.only h1
          obtain ⟨v2, rfl⟩ := (d x').only h2
          exact ⟨⟨v1, v2⟩, by rw [List.append_assoc]⟩
        · cases h
      · cases h
    · rintro ⟨⟨v1, v2⟩, rfl⟩
      simp only [List.append_assoc]
      rw [c.back v1]
      simp only
      rw [(d x).back v2]
/-- Another thing that stands for it. -/
def Cd.iso (c : Cd α) (f : α → β) (g : β → α) (q : β → Prop) [DecidablePred q] (h1 : ∀ y, f (g y) = y) (h2 : ∀ x, g (f x) = x) : Cd β where
  p l := match c.p l with
    | some (x, r) => if q (f x) then some (f x, r) else none
    | none => none
  e y := c.e (g y)
  v y := c.v (g y) ∧ q y
  law l y r := by
    constructor
    · intro h
      split at h
      · rename_i x r' hx
        split at h
        · rename_i hq
          injection h with h
          injection h with h3 h4
          subst h3; subst h4
          obtain ⟨v1, rfl⟩ := c.only hx
          rw [h2]
          exact ⟨⟨v1, hq⟩, rfl⟩
        · cases h
      · cases h
    · rintro ⟨⟨v1, hq⟩, rfl⟩
      rw [c.back v1]
      simp only [h1]
      rw [if_pos hq]
/-- So many of them. -/
def repP (c : Cd α) : Nat → List UInt8 → Option (List α × List UInt8)
  | 0, l => some ([], l)
  | n + 1, l => match c.p l with
    | some (x, r) => match repP c n r with
      | some (xs, s) => some (x :: xs, s)
      | none => none
    | none => none
theorem repP_law (c : Cd α) : ∀ n l z r, repP c n l = some (z, r) ↔ (z.length = n ∧ ∀ x ∈ z, c.v x) ∧ l = z.flatMap c.e ++ r
  | 0, l, z, r => by
    constructor
    · intro h; rw [repP] at h; injection h with h; injection h with h h'; subst h; subst h'; exact ⟨⟨rfl, by simp⟩, rfl⟩
    · rintro ⟨⟨h, _⟩, rfl⟩
      obtain rfl := List.eq_nil_of_length_eq_zero h
      rfl
  | n + 1, l, z, r => by
    constructor
    · intro h
      rw [repP] at h
      split at h
      · rename_i x' r' h1
        split at h
        · rename_i xs s' h2
          injection h with h
          injection h with h3 h4
          subst h3; subst h4
          obtain ⟨v1, rfl⟩ := c.only h1
          obtain ⟨⟨v3, v4⟩, rfl⟩ := (repP_law c n _ _ _).1 h2
          refine ⟨⟨by simp [v3], ?_⟩, by simp⟩
          intro x hx
          rcases List.mem_cons.1 hx with rfl | hx
          · exact v1
          · exact v4 x hx
        · cases h
      · cases h
    · rintro ⟨⟨v1, v2⟩, rfl⟩
      match z, v1 with
      | x :: xs, v1 =>
        rw [repP, List.flatMap_cons, List.append_assoc, c.back (v2 x (List.mem_cons_self ..))]
        simp only
        rw [(repP_law c n _ xs r).2 ⟨⟨by simpa using v1, fun y hy => v2 y (List.mem_cons_of_mem _ hy)⟩, rfl⟩]
def Cd.rep (c : Cd α) (n : Nat) : Cd (List α) where
  p := repP c n
  e xs := xs.flatMap c.e
  v xs := xs.length = n ∧ ∀ x ∈ xs, c.v x
  law := repP_law c n
end
end Go.Proofs.YtckdecodpjfcnaaGreatDoor
namespace Go.Proofs.YtckdecodpjfcnaaGreatDoor
open Go.RowKit

/-- A number from lo to hi: the number, the place, whether the reader is stopped. -/
def rdNum (l : List UInt8) (i : Nat) (bad : Bool) (lo hi : Int) : Int × Nat × Bool :=
  if bad = true then (0, i, true) else
  match dec (l.drop i) with
  | some (n, k) => if lo ≤ (n : Int) ∧ (n : Int) ≤ hi then ((n : Int), i + k, false) else (0, i, true)
  | none => (0, i, true)
/-- A text of at most so many bytes. -/
def rdTxt (l : List UInt8) (i : Nat) (bad : Bool) (most : Int) : List UInt8 × Nat × Bool :=
  if bad = true then ([], i, true) else
  match dec (l.drop i) with
  | some (n, k) => if (n : Int) ≤ most ∧ n ≤ (l.drop (i + k)).length then ((l.drop (i + k)).take n, i + k + n, false) else ([], i, true)
  | none => ([], i, true)
/-- A flag. -/
def rdFlag (l : List UInt8) (i : Nat) (bad : Bool) : Bool × Nat × Bool :=
  if bad = true then (false, i, true) else
  match l[i]? with
  | some c => if c = 0 then (false, i + 1, false) else if c = 1 then (true, i + 1, false) else (false, i, true)
  | none => (false, i, true)

theorem decF_take : ∀ (f i acc m : Nat) (l : List UInt8), f ≤ m → decF f i acc (l.take m) = decF f i acc l
  | 0, _, _, _, _, _ => by simp [decF]
  | f + 1, i, acc, m, l, h => by
    match m, h with
    | m + 1, h =>
      cases l with
      | nil => rfl
      | cons c l =>
        rw [List.take_succ_cons, decF, decF]
        simp only [decF_take f (i + 1) _ m l (by omega)]
theorem dec_take (l : List UInt8) : dec (l.take 6) = dec l := decF_take 6 0 0 6 l (Nat.le_refl _)

theorem dec_le {l : List UInt8} {n k : Nat} (h : dec l = some (n, k)) : k ≤ l.length ∧ n ≤ maxNum ∧ k ≤ 6 := by
  obtain ⟨h1, h2, h3, h4, h5⟩ := dec_only l n k h
  exact ⟨h4, h1, h3⟩
theorem rdNum_le {l : List UInt8} {i : Nat} (bad : Bool) (lo hi : Int) (h : i ≤ l.length) : (rdNum l i bad lo hi).2.1 ≤ l.length := by
  unfold rdNum
  split
  · exact h
  · split
    · rename_i n k hd
      split
      · have := (dec_le hd).1
        rw [List.length_drop] at this
        show i + k ≤ _
        omega
      · exact h
    · exact h
theorem rdTxt_le {l : List UInt8} {i : Nat} (bad : Bool) (most : Int) (h : i ≤ l.length) : (rdTxt l i bad most).2.1 ≤ l.length := by
  unfold rdTxt
  split
  · exact h
  · split
    · rename_i n k hd
      split
      · rename_i hc
        have h2 := (dec_le hd).1
        have h3 := hc.2
        rw [List.length_drop] at h2 h3
        show i + k + n ≤ _
        omega
      · exact h
    · exact h
theorem rdFlag_le {l : List UInt8} {i : Nat} (bad : Bool) (h : i ≤ l.length) : (rdFlag l i bad).2.1 ≤ l.length := by
  unfold rdFlag
  split
  · exact h
  · split
    · rename_i c hc
      have := (List.getElem?_eq_some_iff.1 hc).1
      split
      · show i + 1 ≤ _; omega
      · split
        · show i + 1 ≤ _; omega
        · exact h
    · exact h
end Go.Proofs.YtckdecodpjfcnaaGreatDoor
namespace Go.Proofs.YtckdecodpjfcnaaGreatDoor
open Go.RowKit

abbrev Rdr (α : Type) := List UInt8 → Nat → Bool → α × Nat × Bool

section
variable {α β γ δ : Type}
/-- A reading tells what a way of writing tells, or stops the reader. -/
structure Fol (rd : Rdr α) (c : Cd β) (f : β → α) : Prop where
  stop : ∀ l i, (rd l i true).2.2 = true
  le : ∀ l i b, i ≤ l.length → (rd l i b).2.1 ≤ l.length
  ok : ∀ l i y r, i ≤ l.length → c.p (l.drop i) = some (y, r) → ∃ j, j ≤ l.length ∧ rd l i false = (f y, j, false) ∧ l.drop j = r
  no : ∀ l i, i ≤ l.length → c.p (l.drop i) = none → (rd l i false).2.2 = true

theorem fol_num (lo hi : Nat) : Fol (fun l i b => rdNum l i b lo hi) (cNum lo hi) (fun n => (n : Int)) where
  stop l i := by unfold rdNum; rw [if_pos rfl]
  le l i b h := rdNum_le b _ _ h
  ok l i y r hil h := by
    have hp : (cNum lo hi).p (l.drop i) = match dec (l.drop i) with
      | some (n, k) => if lo ≤ n ∧ n ≤ hi then some (n, (l.drop i).drop k) else none
      | none => none := rfl
    rw [hp] at h
    split at h
    · rename_i n k hd
      split at h
      · rename_i hr
        injection h with h
        injection h with h1 h2
        subst h1; subst h2
        have hl := (dec_le hd).1
        rw [List.length_drop] at hl
        refine ⟨i + k, by omega, ?_, by rw [List.drop_drop]⟩
        unfold rdNum
        rw [if_neg (by simp), hd]
        simp only
        rw [if_pos ⟨by omega, by omega⟩]
      · cases h
    · cases h
  no l i hil h := by
    have hp : (cNum lo hi).p (l.drop i) = match dec (l.drop i) with
      | some (n, k) => if lo ≤ n ∧ n ≤ hi then some (n, (l.drop i).drop k) else none
      | none => none := rfl
    rw [hp] at h
    unfold rdNum
    rw [if_neg (by simp)]
    split at h
    · rename_i n k hd
      split at h
      · cases h
      · rename_i hr
        first | rw [hd] | skip
        try simp only
        rw [if_neg (fun hh => hr ⟨by omega, by omega⟩)]
    · rename_i hd
      first | rw [hd] | rfl
theorem fol_txt (most : Nat) : Fol (fun l i b => rdTxt l i b most) (cTxt most) id where
  stop l i := by unfold rdTxt; rw [if_pos rfl]
  le l i b h := rdTxt_le b _ h
  ok l i y r hi h := by
    have hp : (cTxt most).p (l.drop i) = match dec (l.drop i) with
      | some (n, k) => if n ≤ most ∧ n ≤ ((l.drop i).drop k).length then some (((l.drop i).drop k).take n, ((l.drop i).drop k).drop n) else none
      | none => none := rfl
    rw [hp] at h
    split at h
    · rename_i n k hd
      split at h
      · rename_i hr
        injection h with h
        injection h with h1 h2
        subst h1; subst h2
        have hl := (dec_le hd).1
        rw [List.length_drop] at hl
        rw [List.drop_drop] at hr ⊢
        have h3 := hr.2
        rw [List.length_drop] at h3
        refine ⟨i + k + n, by omega, ?_, by rw [List.drop_drop]⟩
        unfold rdTxt
        rw [if_neg (by simp), hd]
        simp only
        rw [if_pos ⟨by omega, hr.2⟩]
        rfl
      · cases h
    · cases h
  no l i hi h := by
    have hp : (cTxt most).p (l.drop i) = match dec (l.drop i) with
      | some (n, k) => if n ≤ most ∧ n ≤ ((l.drop i).drop k).length then some (((l.drop i).drop k).take n, ((l.drop i).drop k).drop n) else none
      | none => none := rfl
    rw [hp] at h
    unfold rdTxt
    rw [if_neg (by simp)]
    clear hp
    cases hd : dec (l.drop i) with
    | some p =>
      obtain ⟨n, k⟩ := p
      (try rw [hd] at h)
      (try simp only at h)
      (try simp only)
      by_cases hr : n ≤ most ∧ n ≤ ((l.drop i).drop k).length
      · rw [if_pos hr] at h
        cases h
      · rw [List.drop_drop] at hr
        rw [if_neg (fun hh => hr ⟨by omega, hh.2⟩)]
    | none => rfl
theorem fol_flag : Fol rdFlag cFlag id where
  stop l i := by unfold rdFlag; rw [if_pos rfl]
  le l i b h := rdFlag_le b h
  ok l i y r hi h := by
    unfold rdFlag
    rw [if_neg (by simp)]
    cases hd : l.drop i with
    | nil => rw [hd] at h; cases h
    | cons c t =>
      rw [hd] at h
      have hc : l[i]? = some c := by
        have : (l.drop i)[0]? = some c := by rw [hd]; rfl
        rwa [List.getElem?_drop, Nat.add_zero] at this
      have hlt := (List.getElem?_eq_some_iff.1 hc).1
      have ht : l.drop (i + 1) = t := by rw [← List.drop_drop, hd]; rfl
      have hp : cFlag.p (c :: t) = if c = 0 then some (false, t) else if c = 1 then some (true, t) else none := rfl
      rw [hp] at h
      rw [hc]
      simp only
      split at h
      · rename_i h0
        injection h with h
        injection h with h1 h2
        subst h1; subst h2
        exact ⟨i + 1, by omega, by rw [if_pos h0]; rfl, ht⟩
      · rename_i h0
        split at h
        · rename_i h1'
          injection h with h
          injection h with h1 h2
          subst h1; subst h2
          exact ⟨i + 1, by omega, by rw [if_neg h0, if_pos h1']; rfl, ht⟩
        · cases h
  no l i hi h := by
    unfold rdFlag
    rw [if_neg (by simp)]
    cases hd : l.drop i with
    | nil =>
      have hc : l[i]? = none := by
        have : (l.drop i)[0]? = none := by rw [hd]; rfl
        rwa [List.getElem?_drop, Nat.add_zero] at this
      rw [hc]
    | cons c t =>
      rw [hd] at h
      have hc : l[i]? = some c := by
        have : (l.drop i)[0]? = some c := by rw [hd]; rfl
        rwa [List.getElem?_drop, Nat.add_zero] at this
      have hp : cFlag.p (c :: t) = if c = 0 then some (false, t) else if c = 1 then some (true, t) else none := rfl
      rw [hp] at h
      rw [hc]
      simp only
      split at h
      · cases h
      · rename_i h0
        split at h
        · cases h
        · rename_i h1
          rw [if_neg h0, if_neg h1]

/-- One reading behind the other. -/
def rdBind (rd : Rdr α) (k : α → Rdr γ) : Rdr γ := fun l i b => k (rd l i b).1 l (rd l i b).2.1 (rd l i b).2.2
/-- What was read, turned. -/
def rdMap (rd : Rdr α) (f : α → γ) : Rdr γ := fun l i b => (f (rd l i b).1, (rd l i b).2)
theorem Fol.bind {rd : Rdr α} {c : Cd β} {f : β → α} (h : Fol rd c f) {k : α → Rdr γ} {d : β → Cd δ} {g : β → δ → γ} (hk : ∀ y, Fol (k (f y)) (d y) (g y))
    (hs : ∀ a l i, (k a l i true).2.2 = true) (hle : ∀ a l i b, i ≤ l.length → (k a l i b).2.1 ≤ l.length) : Fol (rdBind rd k) (c.bind d) (fun z => g z.1 z.2) where
  stop l i := by unfold rdBind; rw [h.stop]; exact hs _ _ _
  le l i b hi := hle _ _ _ _ (h.le l i b hi)
  ok l i z r hi hp := by
    have e : (c.bind d).p (l.drop i) = match c.p (l.drop i) with
      | some (x, r) => match (d x).p r with
        | some (y, s) => some ((x, y), s)
        | none => none
      | none => none := rfl
    rw [e] at hp
    split at hp
    · rename_i x r1 h1
      split at hp
      · rename_i y s h2
        injection hp with hp
        injection hp with h3 h4
        subst h3; subst h4
        obtain ⟨j, hj, e1, e2⟩ := h.ok l i x r1 hi h1
        rw [← e2] at h2
        obtain ⟨j', hj', e3, e4⟩ := (hk x).ok l j y s hj h2
        exact ⟨j', hj', by unfold rdBind; rw [e1]; exact e3, e4⟩
      · cases hp
    · cases hp
  no l i hi hp := by
    have e : (c.bind d).p (l.drop i) = match c.p (l.drop i) with
      | some (x, r) => match (d x).p r with
        | some (y, s) => some ((x, y), s)
        | none => none
      | none => none := rfl
    rw [e] at hp
    split at hp
    · rename_i x r1 h1
      split at hp
      · cases hp
      · rename_i h2
        obtain ⟨j, hj, e1, e2⟩ := h.ok l i x r1 hi h1
        rw [← e2] at h2
        unfold rdBind
        rw [e1]
        exact (hk x).no l j hj h2
    · rename_i h1
      have := h.no l i hi h1
      unfold rdBind
      rw [this]
      exact hs _ _ _
theorem Fol.map {rd : Rdr α} {c : Cd β} {f : β → α} (h : Fol rd c f) (g : α → γ) : Fol (rdMap rd g) c (fun y => g (f y)) where
  stop l i := h.stop l i
  le l i b hi := h.le l i b hi
  ok l i y r hi hp := by
    obtain ⟨j, hj, e1, e2⟩ := h.ok l i y r hi hp
    exact ⟨j, hj, by unfold rdMap; rw [e1], e2⟩
  no l i hi hp := h.no l i hi hp
theorem fol_nil (a : α) : Fol (fun _ i b => (a, i, b)) cNil (fun _ => a) where
  stop _ _ := rfl
  le _ _ _ h := h
  ok l i y r hi h := by
    injection h with h
    injection h with _ h
    exact ⟨i, hi, rfl, h⟩
  no l i hi h := by cases h
/-- What stands for it is read likewise. -/
theorem Fol.iso {ε : Type} {rd : Rdr α} {c : Cd β} {f : β → α} (h : Fol rd c f) (F : β → ε) (G : ε → β) (q : ε → Prop) [DecidablePred q] (h1 : ∀ y, F (G y) = y) (h2 : ∀ x, G (F x) = x) (hq : ∀ x, q x) : Fol rd (c.iso F G q h1 h2) (fun y => f (G y)) where
  stop := h.stop
  le := h.le
  ok l i y r hi hp := by
    have e : (c.iso F G q h1 h2).p (l.drop i) = match c.p (l.drop i) with
      | some (x, r) => if q (F x) then some (F x, r) else none
      | none => none := rfl
    rw [e] at hp
    split at hp
    · rename_i x r1 hx
      rw [if_pos (hq _)] at hp
      injection hp with hp
      injection hp with h3 h4
      subst h3; subst h4
      rw [h2]
      exact h.ok l i x _ hi hx
    · cases hp
  no l i hi hp := by
    have e : (c.iso F G q h1 h2).p (l.drop i) = match c.p (l.drop i) with
      | some (x, r) => if q (F x) then some (F x, r) else none
      | none => none := rfl
    rw [e] at hp
    split at hp
    · rw [if_pos (hq _)] at hp; cases hp
    · rename_i hx
      exact h.no l i hi hx
theorem Fol.congr {rd rd' : Rdr α} {c : Cd β} {f f' : β → α} (h : Fol rd c f) (h1 : ∀ l i b, rd' l i b = rd l i b) (h2 : ∀ y, f' y = f y) : Fol rd' c f' := by
  obtain rfl : rd' = rd := funext fun l => funext fun i => funext fun b => h1 l i b
  obtain rfl : f' = f := funext h2
  exact h
/-- So many readings. -/
def rdRep (rd : Rdr α) : Nat → Rdr (List α)
  | 0, _, i, b => ([], i, b)
  | n + 1, l, i, b => ((rd l i b).1 :: (rdRep rd n l (rd l i b).2.1 (rd l i b).2.2).1, (rdRep rd n l (rd l i b).2.1 (rd l i b).2.2).2)
theorem rdRep_stop {rd : Rdr α} (hs : ∀ l i, (rd l i true).2.2 = true) : ∀ n l i, (rdRep rd n l i true).2.2 = true
  | 0, _, _ => rfl
  | n + 1, l, i => by
    rw [rdRep]
    show (rdRep rd n l _ (rd l i true).2.2).2.2 = true
    rw [hs]
    exact rdRep_stop hs n l _
theorem rdRep_le {rd : Rdr α} (hle : ∀ l i b, i ≤ l.length → (rd l i b).2.1 ≤ l.length) : ∀ n l i b, i ≤ l.length → (rdRep rd n l i b).2.1 ≤ l.length
  | 0, _, _, _, h => h
  | n + 1, l, i, b, h => rdRep_le hle n l _ _ (hle l i b h)
theorem Fol.rep_ok {rd : Rdr α} {c : Cd β} {f : β → α} (h : Fol rd c f) : ∀ n l i y r, i ≤ l.length → repP c n (l.drop i) = some (y, r) → ∃ j, j ≤ l.length ∧ rdRep rd n l i false = (y.map f, j, false) ∧ l.drop j = r
  | 0, l, i, y, r, hi, hp => by
    rw [repP] at hp
    injection hp with hp
    injection hp with h1 h2
    subst h1
    exact ⟨i, hi, rfl, h2⟩
  | n + 1, l, i, y, r, hi, hp => by
    rw [repP] at hp
    split at hp
    · rename_i x r1 h1
      split at hp
      · rename_i xs s h2
        injection hp with hp
        injection hp with h3 h4
        subst h3; subst h4
        obtain ⟨j, hj, e1, e2⟩ := h.ok l i x r1 hi h1
        rw [← e2] at h2
        obtain ⟨j', hj', e3, e4⟩ := Fol.rep_ok h n l j xs s hj h2
        exact ⟨j', hj', by rw [rdRep, e1]; simp only; rw [e3]; rfl, e4⟩
      · cases hp
    · cases hp
theorem Fol.rep_no {rd : Rdr α} {c : Cd β} {f : β → α} (h : Fol rd c f) : ∀ n l i, i ≤ l.length → repP c n (l.drop i) = none → (rdRep rd n l i false).2.2 = true
  | 0, l, i, hi, hp => by rw [repP] at hp; cases hp
  | n + 1, l, i, hi, hp => by
    rw [repP] at hp
    rw [rdRep]
    split at hp
    · rename_i x r1 h1
      split at hp
      · cases hp
      · rename_i h2
        obtain ⟨j, hj, e1, e2⟩ := h.ok l i x r1 hi h1
        rw [← e2] at h2
        rw [e1]
        exact Fol.rep_no h n l j hj h2
    · rename_i h1
      have h2 := h.no l i hi h1
      show (rdRep rd n l _ (rd l i false).2.2).2.2 = true
      rw [h2]
      exact rdRep_stop h.stop n l _
theorem Fol.rep {rd : Rdr α} {c : Cd β} {f : β → α} (h : Fol rd c f) (n : Nat) : Fol (rdRep rd n) (c.rep n) (List.map f) where
  stop l i := rdRep_stop h.stop n l i
  le l i b hi := rdRep_le h.le n l i b hi
  ok l i y r hi hp := h.rep_ok n l i y r hi hp
  no l i hi hp := h.rep_no n l i hi hp
/-- From the front, so many taken, so many left. -/
theorem rdRep_add (rd : Rdr α) : ∀ n m l i b, rdRep rd (n + m) l i b = ((rdRep rd n l i b).1 ++ (rdRep rd m l (rdRep rd n l i b).2.1 (rdRep rd n l i b).2.2).1, (rdRep rd m l (rdRep rd n l i b).2.1 (rdRep rd n l i b).2.2).2)
  | 0, m, l, i, b => by simp [rdRep]
  | n + 1, m, l, i, b => by
    rw [show n + 1 + m = (n + m) + 1 by omega, rdRep, rdRep, rdRep_add rd n m]
    rfl
theorem rdRep_len (rd : Rdr α) : ∀ n l i b, (rdRep rd n l i b).1.length = n
  | 0, _, _, _ => rfl
  | n + 1, l, i, b => by rw [rdRep]; simp [rdRep_len rd n]
theorem rdRep_snoc (rd : Rdr α) (n : Nat) (l : List UInt8) (i : Nat) (b : Bool) :
    rdRep rd (n + 1) l i b = ((rdRep rd n l i b).1 ++ [(rd l (rdRep rd n l i b).2.1 (rdRep rd n l i b).2.2).1], (rd l (rdRep rd n l i b).2.1 (rdRep rd n l i b).2.2).2) := by
  rw [rdRep_add rd n 1]; rfl

/-- All bytes read, and nothing left: just what was written. -/
theorem Fol.all {rd : Rdr α} {c : Cd β} {f : β → α} (h : Fol rd c f) {l : List UInt8} {x : α} : rd l 0 false = (x, l.length, false) ↔ ∃ y, c.v y ∧ l = c.e y ∧ f y = x := by
  constructor
  · intro hr
    cases hp : c.p (l.drop 0) with
    | none =>
      have := h.no l 0 (Nat.zero_le _) hp
      rw [hr] at this
      cases this
    | some z =>
      obtain ⟨y, r⟩ := z
      obtain ⟨j, hj, e1, e2⟩ := h.ok l 0 y r (Nat.zero_le _) hp
      rw [hr] at e1
      injection e1 with e3 e4
      injection e4 with e4 _
      subst e4
      rw [List.drop_length] at e2
      subst e2
      obtain ⟨hv, he⟩ := c.only hp
      exact ⟨y, hv, by simpa using he, e3.symm⟩
  · rintro ⟨y, hv, rfl, rfl⟩
    have hp : c.p ((c.e y).drop 0) = some (y, []) := c.back0 hv
    obtain ⟨j, hj, e1, e2⟩ := h.ok _ 0 y [] (Nat.zero_le _) hp
    have : j = (c.e y).length := by
      have h3 := congrArg List.length e2
      rw [List.length_drop] at h3
      have h4 : (c.e y).length - j = 0 := h3
      omega
    rw [e1, this]
end
end Go.Proofs.YtckdecodpjfcnaaGreatDoor
