/-
  Layer 18: equal lists; copies of lists; the document's rise.
  A range over a function, where what is yielded is told something of: each round's element brings a fact of the world in which it is yielded.
  Words for memory: a slice that reads as a list, a block known whole, an append onto a row of the call's own (after the guide's pages on words and small lemmas, which are there to be copied); and what []byte(s), string(b) give in these words.
  Arguments of a statement opened: strings, slices of strings, of bytes, of ints: what they hold, in the words of Reads; and that each is within the form's reach.
  Small lemmas that many texts use.
  Layer 18, the plain part: pends as cells; the Bools that the small functions compute.
  A region that draws its order, whose first operations only read (or call what leaves the world as it was): these are walked once, in the order of the text, by the cheap step of the quiet walk; the rest stands in one forced order.
  Layer 18: the small functions, of the program and of the document.
  Layer 18: lists that rise; equal lists; copies of lists.
-/
import Derived.RangeFuncNested
import Derived.RangeFuncBound
import Derived.RangeFuncCalls
import Derived.RangeFuncLeaves
import Derived.RangeFuncBox
import Derived.WalkKit
import Derived.WalkSpells
import Derived.WalkLawsBesides
import Derived.Lib.Hide
import Derived.Laws.OwnMore
import Derived.Deep.AppendLies
import Derived.Deep.Draws
import Derived.Deep.QuietTactic
import Derived.BigQuiet
import Derived.Laws.Rows
import Derived.Laws.MakeOwn
import Derived.Laws.IdiomStrings
import Derived.Maps.AppendAt
import Derived.RegionTactic
import Derived.OwnWalk
import Derived.Deep.OwnRows
import Derived.Lib.Strings
import Derived.Laws.CopyRow
import Derived.Laws.IdiomCopy
import Derived.Laws.Tables
import Derived.ProofKit
import Derived.OpenShut
import Derived.ShutString
import Derived.ChangeOld
import Derived.Below
import Derived.SizedLaws
import Derived.SliceStrings
import Derived.StillTailTactics
import Derived.Test.YtbpkckahonmpkaaDoorChecked
import Derived.Outline
set_option linter.unusedVariables false
set_option linter.unusedSimpArgs false
namespace Go.Proofs.YtbpkckahonmpkaaDoor
open Go.RowKit

/-- What a function that is ranged over gives, none stopping it: each element with a fact T of it. -/
def SeqTold {α : Type} (F : Fence) (n : Nat) (P : Program) (g : Nat) (lb : Array Value) (encs : α → Array Value) (T : α → World → Prop) (Kp : World → World → Prop) (S : List α → Prop) (N : Nat) (w : World) : Prop :=
  ∀ (l : Nat) (J : List α → World → Prop) (W : World), Below w.heap.size w W → AbidesFrom W.heap.size J →
    (∀ pre x V, J pre V → T x V → pre.length < N → YieldAt F (n - 1) P l (encs x) V fun e V' => e = .returned (.bool true) ∧ J (pre ++ [x]) V' ∧ Kp V V') →
    J [] W → CallsIn F n P g (#[.func (.yield l) #[] #[]] ++ lb) W fun e V => (∃ v, e = .returned v) ∧ ∃ xs, S xs ∧ J xs V
def toldPost (B : Nat) (Kp : World → World → Prop) (R : World → Prop) (W : World) : Exit → Act → World → Prop
  | .normal, _, W' => KeepsFrom B W W' ∧ Kp W W' ∧ R W'
  | _, _, _ => False

theorem wpIn_rangeFunc_told {α : Type} {F : Fence} {n : Nat} {P : Program} {g : Operand} {ps : Array Tmp} {assign body : Code} {Q : Exit → Act → World → Prop} {a : Act} {w : World}
    (hro : F.round = none) (h1 : 1 ≤ n) {gf : Nat} {lb : Array Value} (hg : a.eval g = .func (.func gf) #[] lb) (hFg : F.fn gf) (eg : ∀ args w, (callFunc gf args).run P w = .ok (.enter gf args) w)
    {encs : α → Array Value} {T : α → World → Prop} {Kp : World → World → Prop} {S : List α → Prop} {N : Nat} {w0 : World} (hseq : SeqTold F (n - 1) P gf lb encs T Kp S N w0)
    (hKt : ∀ {A B C : World}, Kp A B → Kp B C → Kp A C) (hKb : ∀ (W : World) (l : Nat) (o o' : Obj), w.heap.size ≤ l → W.heap[l]? = some o → o.isCells = false → o.isWalk = false → Kp W (W.putObj l o'))
    (hb0 : Below w0.heap.size w0 w) (hps : ∀ x, (encs x).size = ps.size)
    (I : List α → World → Prop) (hI : OwnFrom w.heap.size I) (h0 : I [] w)
    (Ax : α → Act → World → Prop) (hAx : ∀ x a', OwnFrom w.heap.size (fun (_ : Unit) W => Ax x a' W))
    (hassign : ∀ (l : Nat) (pre : List α) (x : α) (W : World) (K : Act → World → Prop), I pre W → T x W → (∀ a' W', KeepsFrom w.heap.size W W' → Kp W W' → I pre W' → Ax x a' W' → K a' W') →
      assign.wpIn (F.inRound l) (n - 1 - 1) P (Exit.then K (fun _ _ _ => False)) { tmps := (ps.zip (encs x)).foldl (fun t (p, v) => t.setIfInBounds p v) a.tmps, defers := [] } W)
    (hbody : ∀ (l : Nat) (pre : List α) (x : α) (a' : Act) (W : World), I pre W → Ax x a' W → pre.length < N → body.wpIn (F.inRound l) (n - 1 - 1) P (toldPost w.heap.size Kp (I (pre ++ [x])) W) a' W)
    (hdone : ∀ (D : Nat) (xs : List α) (W : World), w.heap.size ≤ D → S xs → I xs W → W.heap[D]? = some (.deferred (some [])) → Q .normal { a with defers := { target := .collected D, args := #[] } :: a.defers } W) :
    (Code.rangeFunc g ps assign body).wpIn F n P Q a w := by
  obtain ⟨m, hm⟩ : ∃ m, m = w.heap.size := ⟨_, rfl⟩
  rw [← hm] at hKb hI hAx hassign hbody hdone
  refine wpIn_rangeFunc fun fn hfn => ?_
  rw [hro]
  obtain ⟨rc, hrc⟩ : ∃ rc : LoopState → Loop, rc = fun st => { state := st, pending := none, fn, tmps := a.tmps, params := ps, assign, body, defers := m } := ⟨_, rfl⟩
  have hz1 : (w.alloc (.deferred (some []))).heap.size = m + 1 := by rw [World.size_alloc, hm]
  have hz2 : ((w.alloc (.deferred (some []))).alloc (.loop (rc .ready))).heap.size = m + 2 := by rw [World.size_alloc, hz1]
  have hl0 : ((w.alloc (.deferred (some []))).alloc (.loop (rc .ready))).heap[m + 1]? = some (.loop (rc .ready)) := by
    have := World.alloc_heap_new (w.alloc (.deferred (some []))) (.loop (rc .ready))
    rwa [hz1] at this
  have hd0 : ((w.alloc (.deferred (some []))).alloc (.loop (rc .ready))).heap[m]? = some (.deferred (some [])) := by
    have := World.alloc_heap_new w (.deferred (some []))
    rw [← hm] at this
    exact (Below.heap_alloc _ _ _ (by rw [hz1]; omega)).trans this
  have hB : Below w0.heap.size w0 ((w.alloc (.deferred (some []))).alloc (.loop (rc .ready))) :=
    hb0.trans ((((Below.refl w.heap.size w).alloc (Nat.le_refl _) _).alloc (by simp) _).mono hb0.size)
  have hI0 : I [] ((w.alloc (.deferred (some []))).alloc (.loop (rc .ready))) := hI.alloc _ (hI.alloc _ h0)
  have he : (Instr.enterLoop fn a.tmps ps assign body none).run P w = .ok (m + 1, [{ target := .collected m, args := #[] }]) ((w.alloc (.deferred (some []))).alloc (.loop (rc .ready))) := by
    rw [hrc, hm]; exact run_enterLoop_outer _ _ _ _ _
  revert hl0 hd0 hB hI0 he hz2
  generalize (w.alloc (.deferred (some []))).alloc (.loop (rc .ready)) = V0
  intro hz2 hl0 hd0 hB hI0 he
  refine ⟨m + 1, _, V0, { target := .fn (.func gf) lb, args := #[.func (.yield (m + 1)) #[] #[]] }, V0, gf, #[.func (.yield (m + 1)) #[] #[]] ++ lb, V0, he, ?_, ?_, ?_, fun _ => h1, ?_⟩
  · simp only [resolve, hg]
    simp [go_sem]
  · intro f' hf'
    simp [Target.leads] at hf'
    subst hf'
    exact hFg
  · simp [invoke, go_sem, eg]
  have hwalk : ∀ {A : World} {row : Option Nat}, (∀ r, row = some r → V0.heap.size ≤ r ∧ ∃ o : Obj, A.heap[r]? = some o ∧ o.isWalk = true) → ∀ r, row = some r → m ≤ r ∧ ∃ o : Obj, A.heap[r]? = some o ∧ o.isCells = false := fun hr r e => by
    obtain ⟨k1, o, k2, k3⟩ := hr r e
    exact ⟨by omega, o, k2, Obj.not_cells_of_walk k3⟩
  refine (hseq (m + 1) (fun pre V => I pre V ∧ V.heap[m + 1]? = some (.loop (rc .ready)) ∧ V.heap[m]? = some (.deferred (some []))) V0 hB ?_ ?_ ⟨hI0, hl0, hd0⟩).mono ?_
  · rintro s A C row ⟨k1, k2, k3⟩ hgr hr
    exact ⟨hI s A C row k1 hgr (hwalk hr), (grownBy_keeps hgr (fun r e => (hr r e).2) k2 rfl).trans k2, (grownBy_keeps hgr (fun r e => (hr r e).2) k3 rfl).trans k3⟩
  · rintro pre x V ⟨hi, hl, hk⟩ hT hlen
    have hy := run_yield (P := P) (args := encs x) hl (by rw [hrc]; exact hps x)
    rw [hrc] at hy
    refine ⟨fn, _, assign, body, hy, roundIn_of_wpIn hfn (hassign _ pre x V _ hi hT ?_)⟩
    clear hy
    intro a' V1 q1 q2 q3 q4
    have l1 := q1.same _ _ (by omega) hl rfl
    have d1 := q1.same _ _ (Nat.le_refl _) hk rfl
    have lt1 : m + 1 < V1.heap.size := (Array.getElem?_eq_some_iff.1 l1).1
    refine ⟨_, run_beginRound l1 (by rw [hrc]), ?_⟩
    have e2 : ({ rc .ready with state := .busy } : Loop) = rc .busy := by rw [hrc]
    rw [e2]
    have l2 : (V1.putObj (m + 1) (.loop (rc .busy))).heap[m + 1]? = some (.loop (rc .busy)) := World.putObj_heap_same lt1
    have d2 : (V1.putObj (m + 1) (.loop (rc .busy))).heap[m]? = some (.deferred (some [])) := (World.putObj_heap_other (by omega)).trans d1
    refine wpIn_mono (hbody _ pre x a' _ (hI.putObj _ q3 (by omega) l1 rfl) ((hAx x a').putObj (s := ()) _ q4 (by omega) l1 rfl) hlen) ?_
    intro e a3 V3 hp
    cases e with
    | normal =>
      obtain ⟨p1, p2, p3⟩ := hp
      have l3 := p1.same _ _ (by omega) l2 rfl
      have d3 := p1.same _ _ (Nat.le_refl _) d2 rfl
      have lt3 : m + 1 < V3.heap.size := (Array.getElem?_eq_some_iff.1 l3).1
      have hr := run_endRound (P := P) none l3
      have e4 : ({ rc .busy with state := if (none : Option Code).isNone then .ready else .done, pending := none } : Loop) = rc .ready := by rw [hrc]; rfl
      refine ⟨_, _, hr, rfl, ⟨?_, ?_, ?_⟩, ?_⟩
      · exact hI.putObj _ p3 (by omega) l3 rfl
      · rw [World.putObj_heap_same lt3]
        exact congrArg (fun z => some (Obj.loop z)) e4
      · exact (World.putObj_heap_other (by omega)).trans d3
      · exact hKt q2 (hKt (hKb _ _ _ _ (by omega) l1 rfl rfl) (hKt p2 (hKb _ _ _ _ (by omega) l3 rfl rfl)))
    | ret => exact hp.elim
    | exit id => exact hp.elim
    | goto t => exact hp.elim
    | panic c => exact hp.elim
    | outgrown => exact hp.elim
  · rintro e V ⟨⟨v, rfl⟩, xs, hS, hi, hl, hk⟩
    have := run_endLoop (P := P) hl (by rw [hrc]; simp)
    rw [hrc] at this
    refine ⟨none, _, this, ?_⟩
    exact hdone m xs _ (Nat.le_refl _) hS (hI.putObj _ hi (by omega) hl rfl) ((World.putObj_heap_other (by omega)).trans hk)
end Go.Proofs.YtbpkckahonmpkaaDoor
namespace Go.Proofs.YtbpkckahonmpkaaDoor
open Go.RowKit

theorem block_of_add (a : Addr) (n : Nat) : (a.add n).block = a.block := by unfold Addr.add; split <;> rfl
def Reads (w : World) (B size : Nat) (A : Option Addr) (n : Nat) (xs : List Value) : Prop :=
  xs.length = n * size ∧ (0 < n → ∃ ad, A = some ad ∧ ad.block < B ∧ ∀ j u, xs[j]? = some u → w.cell? (ad.add j) = some u)

section
variable {w w' : World} {B B' size n : Nat} {A : Option Addr} {xs : List Value}
theorem Reads.none_ : Reads w B size A 0 [] := ⟨by simp, fun h => absurd h (by omega)⟩
theorem Reads.keep (h : Reads w B size A n xs) (hk : ∀ p : Addr, p.block < B → w'.cell? p = w.cell? p) : Reads w' B size A n xs :=
  ⟨h.1, fun hn => by
    obtain ⟨ad, e, hb, hc⟩ := h.2 hn
    exact ⟨ad, e, hb, fun j u hu => (hk _ (by rw [block_of_add]; exact hb)).trans (hc j u hu)⟩⟩
theorem Reads.more (h : Reads w B size A n xs) (hB : B ≤ B') : Reads w B' size A n xs :=
  ⟨h.1, fun hn => by
    obtain ⟨ad, e, hb, hc⟩ := h.2 hn
    exact ⟨ad, e, by omega, hc⟩⟩
theorem Reads.below (h : Reads w B size A n xs) (hb : Below B w w') : Reads w' B size A n xs := h.keep fun _ hp => hb.cell hp
theorem Reads.drew (h : Reads w B size A n xs) : Reads w.drew B size A n xs := h
theorem Reads.drewN (h : Reads w B size A n xs) (k : Nat) : Reads (w.drewN k) B size A n xs := h
theorem Reads.alloc (h : Reads w B size A n xs) (hB : B ≤ w.heap.size) (o : Obj) : Reads (w.alloc o) B size A n xs := h.keep fun p hp => World.cell?_alloc_lt w o p (by omega)
theorem Reads.setCell (h : Reads w B size A n xs) {p : Addr} (hB : B ≤ p.block) (u : Value) : Reads (w.setCell p u) B size A n xs :=
  h.keep fun q hq => World.cell?_setCell_other w p q u (fun e => by subst e; omega)
theorem Reads.grown (h : Reads w B size A n xs) {row : Option Nat} (hg : w.grownBy w' row) (hB : B ≤ w.heap.size) (hr : ∀ g, row = some g → B ≤ g) : Reads w' B size A n xs :=
  h.keep fun p hp => World.cell?_of_block (hg.block p.block (by omega) (fun e => by have := hr _ e.symm; omega))
theorem Reads.of_own {base : Nat} {e : TypeId} {c : Nat} (h : w.ownsRow base e size (.slice A n c) n xs) : Reads w w.heap.size size A n xs := by
  refine ⟨h.1, fun hn => ?_⟩
  obtain ⟨g, cap, hv, _, hlt⟩ := h.form hn
  have hA : A = some ⟨g, 0, none⟩ := by injection hv
  subst hA
  exact ⟨_, rfl, hlt, h.cells (g := g) rfl⟩
end

def Blk (w : World) (g : Nat) (t : TypeId) (cs : Array Value) : Prop := w.heap[g]? = some (.cells cs t (0, 0))

section
variable {w w' : World} {g : Nat} {t : TypeId} {cs : Array Value}
theorem Blk.lt (h : Blk w g t cs) : g < w.heap.size := by
  rcases Nat.lt_or_ge g w.heap.size with hlt | hge
  · exact hlt
  · unfold Blk at h; rw [Array.getElem?_eq_none hge] at h; cases h
theorem Blk.cell (h : Blk w g t cs) (i : Nat) : w.cell? ⟨g, i, none⟩ = cs[i]? := cell_of_row w g i cs t (0, 0) h
theorem Blk.frozen (h : Blk w g t cs) (i : Nat) : w.frozen? ⟨g, i, none⟩ = false := by
  unfold Blk at h
  simp [World.frozen?, h]
theorem Blk.new (w : World) (t : TypeId) (cs : Array Value) : Blk (w.alloc (.cells cs t)) w.heap.size t cs := heap_alloc_new w _
theorem Blk.drew (h : Blk w g t cs) : Blk w.drew g t cs := h
theorem Blk.drewN (h : Blk w g t cs) (n : Nat) : Blk (w.drewN n) g t cs := h
theorem Blk.alloc (h : Blk w g t cs) (o : Obj) : Blk (w.alloc o) g t cs := (Below.heap_alloc w o g h.lt).trans h
theorem Blk.set_ (h : Blk w g t cs) (i : Nat) (u : Value) : Blk (w.setCell ⟨g, i, none⟩ u) g t (cs.setIfInBounds i u) := by
  unfold Blk at h ⊢
  simp [World.setCell, Array.getElem?_modify, h]
theorem Blk.far (h : Blk w g t cs) {p : Addr} (hp : g ≠ p.block) (u : Value) : Blk (w.setCell p u) g t cs := (Below.heap_setCell w p u g hp).trans h
theorem Blk.below {B : Nat} (h : Blk w g t cs) (hb : Below B w w') (hg : g < B) : Blk w' g t cs := (hb.block g hg).trans h
theorem Blk.grown {row : Option Nat} (h : Blk w g t cs) (hb : w.grownBy w' row) (hg : some g ≠ row) : Blk w' g t cs := (hb.block g h.lt hg).trans h
theorem Blk.ne_ {g' : Nat} {t' : TypeId} {cs' : Array Value} (h : Blk w g t cs) (h' : Blk w g' t' cs') (hne : t ≠ t') : g ≠ g' := by
  rintro rfl
  unfold Blk at h h'
  rw [h] at h'
  injection h' with h'
  injection h' with _ ht
  exact hne ht
theorem own_blk_ne {base : Nat} {e : TypeId} {size n : Nat} {v : Value} {xs : List Value} (h : w.ownsRow base e size v n xs) (hg : Blk w g t cs) (hne : e ≠ t) : v.ownBlock ≠ some g := by
  rcases h.2 with ⟨rfl, _⟩ | ⟨g', cap, cur, rfl, _, hh, _⟩
  · simp [Value.ownBlock]
  · intro he
    have : g' = g := by simpa [Value.ownBlock] using he
    subst this
    exact Blk.ne_ (t := e) hh hg hne rfl
end

section
variable {P : Program} (w : World)

theorem run_append_of_nil (base : Nat) (t ty e : TypeId) (i : TypeInfo) (size : Nat) (ht : P.underlying t = some (.slice e)) (hi : P.info? e = some i)
    (v : Value) (n : Nat) (xs : List Value) (hown : w.ownsRow base e size v n xs) (c : Nat) : (Builtin.append_ #[t, t] ty #[v, .slice none 0 c]).run P w = .ok v w := by
  rcases hown.2 with ⟨rfl, rfl⟩ | ⟨g, cap, cur, rfl, _, _, hnc, _⟩
  · simp [Builtin.append_, run_underlying ht, sizeOf, typeInfo, hi, Builtin.lenOf, Builtin.firstCells]
  · simp [Builtin.append_, run_underlying ht, sizeOf, typeInfo, hi, Builtin.lenOf, Builtin.firstCells, hnc, storeCells]

theorem run_append_any (base : Nat) (t ty e : TypeId) (i : TypeInfo) (z : Value) (size bytes : Nat) (ht : P.underlying t = some (.slice e)) (hi : P.info? e = some i) (hz : i.zero = some z)
    (hsize : i.size = size) (hby : i.bytes = bytes) (hzs : z.cells.size = size) (hsz : 0 < size)
    (v : Value) (n : Nat) (xs : List Value) (hown : w.ownsRow base e size v n xs)
    (B : Nat) (A : Option Addr) (m c : Nat) (news : List Value) (hr : Reads w B size A m news) (h1 : ∀ u ∈ news, u.oneCell' = true)
    (h63 : n + m ≤ maxLen) (hbytes : (n + m) * bytes ≤ 140737488355328) (hbase : base ≤ w.heap.size) :
    ∃ v' w', (Builtin.append_ #[t, t] ty #[v, .slice A m c]).run P w = .ok v' w' ∧ w'.ownsRow base e size v' (n + m) (xs ++ news) ∧ w.grownBy w' v.ownBlock ∧
      (v'.ownBlock = v.ownBlock ∨ v'.ownBlock = some w.heap.size) := by
  rcases A with _ | ad
  · have hm : m = 0 := by
      rcases Nat.eq_zero_or_pos m with h0 | h0
      · exact h0
      · obtain ⟨ad, h, _⟩ := hr.2 h0
        cases h
    subst hm
    have hn : news = [] := List.eq_nil_of_length_eq_zero (by simpa using hr.1)
    subst hn
    exact ⟨v, w, run_append_of_nil w base t ty e i size ht hi v n xs hown c, by simpa using hown, World.grownBy.refl w _, .inl rfl⟩
  · have hcells : ∀ j u, news[j]? = some u → w.cell? (ad.add j) = some u := by
      intro j u hu
      rcases Nat.eq_zero_or_pos m with h0 | h0
      · subst h0
        have hn : news = [] := List.eq_nil_of_length_eq_zero (by simpa using hr.1)
        subst hn
        simp at hu
      · obtain ⟨ad', h, _, hc⟩ := hr.2 h0
        injection h with h
        subst h
        exact hc j u hu
    obtain ⟨v', w', hrun, h2, h3, _, h5⟩ := run_append_own_at (P := P) w base t ty e i z size bytes ht hi hz hsize hby hzs hsz v n xs hown ad m c news hr.1 hcells h1 h63 hbytes hbase
    exact ⟨v', w', hrun, h2, h3, h5⟩

theorem wp_append_any {o : Oper} {a : Act} {K : Act → World → Prop} {Q : Exit → Act → World → Prop} (s x : Operand) (t : TypeId)
    (ho : o.op = .call { callee := .builtin .append, args := #[s, x], argTypes := #[t, t] })
    (base : Nat) (e : TypeId) (i : TypeInfo) (z : Value) (size bytes : Nat) (ht : P.underlying t = some (.slice e)) (hi : P.info? e = some i) (hz : i.zero = some z)
    (hsize : i.size = size) (hby : i.bytes = bytes) (hzs : z.cells.size = size) (hsz : 0 < size)
    (v : Value) (n : Nat) (xs : List Value) (hs : a.eval s = v) (hown : w.ownsRow base e size v n xs)
    (B : Nat) (A : Option Addr) (m c : Nat) (news : List Value) (hx : a.eval x = .slice A m c) (hr : Reads w B size A m news) (h1 : ∀ u ∈ news, u.oneCell' = true)
    (h63 : n + m ≤ maxLen) (hbytes : (n + m) * bytes ≤ 140737488355328) (hbase : base ≤ w.heap.size)
    (h : ∀ v' w', w'.ownsRow base e size v' (n + m) (xs ++ news) → w.grownBy w' v.ownBlock → (v'.ownBlock = v.ownBlock ∨ v'.ownBlock = some w.heap.size) → K (a.put o.dst v') w') : o.wp P a w K Q := by
  obtain ⟨v', w', hrun, h2, h3, h4⟩ := run_append_any (P := P) w base t o.type e i z size bytes ht hi hz hsize hby hzs hsz v n xs hown B A m c news hr h1 h63 hbytes hbase
  unfold Oper.wp execOp
  simp only [ho, resolve, invoke, builtin, Sem.run_bind, Sem.run_pure, Result.andThen_ok, List.map_toArray, List.map_cons, List.map_nil, hs, hx, hrun]
  exact h v' w' h2 h3 h4

theorem wpList_append_any {ops : Array Oper} {rest : List Oper} {o : Oper} {a : Act} {Q : Exit → Act → World → Prop} (hgd : o.guard = none) (s x : Operand) (t : TypeId)
    (ho : o.op = .call { callee := .builtin .append, args := #[s, x], argTypes := #[t, t] })
    (base : Nat) (e : TypeId) (i : TypeInfo) (z : Value) (size bytes : Nat) (ht : P.underlying t = some (.slice e)) (hi : P.info? e = some i) (hz : i.zero = some z)
    (hsize : i.size = size) (hby : i.bytes = bytes) (hzs : z.cells.size = size) (hsz : 0 < size)
    (v : Value) (n : Nat) (xs : List Value) (hs : a.eval s = v) (hown : w.ownsRow base e size v n xs)
    (B : Nat) (A : Option Addr) (m c : Nat) (news : List Value) (hx : a.eval x = .slice A m c) (hr : Reads w B size A m news) (h1 : ∀ u ∈ news, u.oneCell' = true)
    (h63 : n + m ≤ maxLen) (hbytes : (n + m) * bytes ≤ 140737488355328) (hbase : base ≤ w.heap.size)
    (h : ∀ v' w', w'.ownsRow base e size v' (n + m) (xs ++ news) → w.grownBy w' v.ownBlock → (v'.ownBlock = v.ownBlock ∨ v'.ownBlock = some w.heap.size) → wpList P ops Q rest (a.put o.dst v') w') : wpList P ops Q (o :: rest) a w :=
  wpList_plain hgd fun _ hK => wp_append_any w s x t ho base e i z size bytes ht hi hz hsize hby hzs hsz v n xs hs hown B A m c news hx hr h1 h63 hbytes hbase fun v' w' h2 h3 h4 => hK _ _ (h v' w' h2 h3 h4)

end

theorem quiet_add_left {P : Program} {f : FuncId} {args : Array Value} {w : World} {a n : Nat} {v : Value}
    (h : Calls P f args (w.drewN (a + n)) fun e w' => e = .returned v ∧ w.drewN (a + n) = w') :
    Calls P f args (w.drewN (a + n)) fun e w'' => e = .returned v ∧ ∃ m, w'' = w.drewN (a + m) :=
  h.mono fun _ _ ⟨he, hm⟩ => ⟨he, n, hm.symm⟩
theorem below_drewN {B : Nat} {a w : World} (h : Below B a w) (n : Nat) : Below B a (w.drewN n) := ⟨h.os, h.tape, h.output, h.size, h.block⟩
theorem only_of_below {a w : World} (h : Below a.heap.size a w) (row : Option Nat) : a.grownBy w row := ⟨h.os, h.tape, h.output, h.size, fun i hi _ => h.block i hi⟩

/-- The string of some bytes; the bytes of a string. -/
def bs (l : List UInt8) : ByteArray := ⟨l.toArray⟩
def lb (s : ByteArray) : List UInt8 := s.data.toList
/-- A row from a place on is one from an earlier place on. -/
theorem own_base {w : World} {base base' : Nat} {e : TypeId} {size n : Nat} {v : Value} {xs : List Value} (h : w.ownsRow base e size v n xs) (hb : base' ≤ base) : w.ownsRow base' e size v n xs := by
  refine ⟨h.1, ?_⟩
  rcases h.2 with h0 | ⟨g, cap, cur, hv, hg, hr⟩
  · exact .inl h0
  · exact .inr ⟨g, cap, cur, hv, by omega, hr⟩
theorem own_slice {w : World} {base : Nat} {e : TypeId} {size n : Nat} {v : Value} {xs : List Value} (h : w.ownsRow base e size v n xs) : ∃ A c, v = .slice A n c ∧ n ≤ c := by
  rcases h.2 with ⟨rfl, rfl⟩ | ⟨g, cap, cur, rfl, _, _, hnc, _⟩
  · exact ⟨_, _, rfl, Nat.le_refl _⟩
  · exact ⟨_, _, rfl, hnc⟩

theorem add_none (b off k : Nat) : (⟨b, off, none⟩ : Addr).add k = ⟨b, off + k, none⟩ := by unfold Addr.add; split <;> simp_all
/-- The address of a slice that has an element, written out. -/
theorem Reads.plain {w : World} {B n : Nat} {A : Option Addr} {xs : List Value} (h : Reads w B 1 A n xs) (hn : 0 < n) :
    ∃ b off, A = some ⟨b, off, none⟩ ∧ b < B ∧ ∀ j u, xs[j]? = some u → w.cell? ⟨b, off + j, none⟩ = some u := by
  obtain ⟨ad, rfl, hb, hc⟩ := h.2 hn
  obtain ⟨b, off, spot⟩ := ad
  have hl : 0 < xs.length := by have := h.1; omega
  have h0 := hc 0 _ (List.getElem?_eq_getElem hl)
  have hs : spot = none := by simpa [Addr.add] using World.cell?_spot h0
  subst hs
  exact ⟨b, off, rfl, hb, fun j u hu => by rw [← add_none]; exact hc j u hu⟩

theorem take_snoc_eq {α : Type} {a b : List α} {k : Nat} {x y : α} (h : a.take k = b.take k) (hx : a[k]? = some x) (hy : b[k]? = some y) : a.take (k + 1) = b.take (k + 1) ↔ x = y := by
  rw [List.take_add_one, List.take_add_one, hx, hy, h]
  simp
theorem ne_of_at {α : Type} {a b : List α} {k : Nat} {x y : α} (hx : a[k]? = some x) (hy : b[k]? = some y) (h : x ≠ y) : a ≠ b := by
  rintro rfl
  rw [hx] at hy
  exact h (Option.some.inj hy)

theorem own_below {B : Nat} {e : TypeId} {k : Nat} {v : Value} {n : Nat} {xs : List Value} {w w' : World} (h : w.ownsRow B e k v n xs) (hb : Below w.heap.size w w') : w'.ownsRow B e k v n xs :=
  h.kept (only_of_below hb none) (by
    cases hv : v.ownBlock with
    | none => exact .inl rfl
    | some g => exact .inr (by simp))

end Go.Proofs.YtbpkckahonmpkaaDoor
namespace Go.Proofs.YtbpkckahonmpkaaDoor
open Go.ChangeShapes Go.WideShapes Go.ChangeAt Go.RowKit

/-- Ints as cells. -/
def cellsI (k : IntKind) (l : List Int) : List Value := l.map (Value.int k)
theorem length_cellsI (k : IntKind) (l : List Int) : (cellsI k l).length = l.length := by simp [cellsI]
theorem getElem?_cellsI (k : IntKind) (l : List Int) (j : Nat) : (cellsI k l)[j]? = (l[j]?).map (Value.int k) := by simp [cellsI]

section
variable {H : Type} {enc : TypeId × Value → H} {P : Program} {W : World} {base : Nat}

theorem block_lt_of_cell {w : World} {a : Addr} {v : Value} (h : w.cell? a = some v) : a.block < w.heap.size := by
  rcases Nat.lt_or_ge a.block w.heap.size with hlt | hge
  · exact hlt
  · unfold World.cell? at h
    rw [Array.getElem?_eq_none hge] at h
    simp at h

end
end Go.Proofs.YtbpkckahonmpkaaDoor
namespace Go.Proofs.YtbpkckahonmpkaaDoor
open Go.RowKit

theorem ret_bool {a b : Bool} (h : a = b) : Ending.returned (.bool a) = .returned (.bool b) := by rw [h]
theorem ret_int {k : IntKind} {a b : Int} (h : a = b) : Ending.returned (.int k a) = .returned (.int k b) := by rw [h]
theorem bal {w w' : World} (h : Below w.heap.size w w') (o : Obj) : Below w.heap.size w (w'.alloc o) := h.alloc h.size o
theorem bset {w w' : World} (h : Below w.heap.size w w') {b o : Nat} (hb : w.heap.size ≤ b) (u : Value) : Below w.heap.size w (w'.setCell ⟨b, o, none⟩ u) := h.setCell (p := ⟨b, o, none⟩) hb u
theorem btrans {w w1 w2 : World} (h : Below w.heap.size w w1) (k : Below w1.heap.size w1 w2) : Below w.heap.size w w2 := h.trans (k.mono h.size)
theorem ne_true {a b : Int} (h : ¬ a = b) : (a != b) = true := by simpa using h
theorem ne_false {a b : Int} (h : a = b) : (a != b) = false := by simpa using h
theorem eqb_true {a b : Int} (h : a = b) : (a == b) = true := beq_iff_eq.2 h
theorem eqb_false {a b : Int} (h : ¬ a = b) : (a == b) = false := beq_eq_false_iff_ne.2 h
end Go.Proofs.YtbpkckahonmpkaaDoor
namespace Go.Proofs.YtbpkckahonmpkaaDoor
open Go.RowKit

abbrev Pd := Int × Int × Int
def cellsP (l : List Pd) : List Value := l.flatMap fun p => [.int .i64 p.1, .int .i64 p.2.1, .int .i64 p.2.2]
theorem cellsP_cons (p : Pd) (l : List Pd) : cellsP (p :: l) = .int .i64 p.1 :: .int .i64 p.2.1 :: .int .i64 p.2.2 :: cellsP l := by simp [cellsP]
theorem cellsP_append (l m : List Pd) : cellsP (l ++ m) = cellsP l ++ cellsP m := by simp [cellsP]
theorem length_cellsP : ∀ l : List Pd, (cellsP l).length = l.length * 3
  | [] => rfl
  | p :: l => by rw [cellsP_cons, List.length_cons, List.length_cons, List.length_cons, length_cellsP l, List.length_cons]; omega
theorem cellsP_at : ∀ (l : List Pd) (i : Nat) (p : Pd), l[i]? = some p → (cellsP l)[i * 3]? = some (.int .i64 p.1) ∧ (cellsP l)[i * 3 + 1]? = some (.int .i64 p.2.1) ∧ (cellsP l)[i * 3 + 2]? = some (.int .i64 p.2.2)
  | [], i, p, h => by simp at h
  | q :: l, 0, p, h => by
    simp at h
    subst h
    rw [cellsP_cons]
    exact ⟨rfl, rfl, rfl⟩
  | q :: l, i + 1, p, h => by
    have := cellsP_at l i p (by simpa using h)
    rw [cellsP_cons, show (i + 1) * 3 = i * 3 + 1 + 1 + 1 by omega]
    simpa using this
theorem cellsP_one (l : List Pd) : ∀ u ∈ cellsP l, u.oneCell' = true := by
  intro u hu
  simp only [cellsP, List.mem_flatMap] at hu
  obtain ⟨p, _, hu⟩ := hu
  simp at hu
  rcases hu with rfl | rfl | rfl <;> rfl
theorem cellsI_one (l : List Int) : ∀ u ∈ cellsI .i64 l, u.oneCell' = true := by
  intro u hu
  simp only [cellsI, List.mem_map] at hu
  obtain ⟨b, _, rfl⟩ := hu
  rfl

theorem Reads.plain3 {w : World} {B n : Nat} {A : Option Addr} {l : List Pd} (h : Reads w B 3 A n (cellsP l)) (hn : 0 < n) :
    ∃ b off, A = some ⟨b, off, none⟩ ∧ b < B ∧ ∀ i p, l[i]? = some p → w.cell? ⟨b, off + i * 3, none⟩ = some (.int .i64 p.1) ∧ w.cell? ⟨b, off + i * 3 + 1, none⟩ = some (.int .i64 p.2.1) ∧ w.cell? ⟨b, off + i * 3 + 2, none⟩ = some (.int .i64 p.2.2) := by
  obtain ⟨ad, rfl, hb, hc⟩ := h.2 hn
  obtain ⟨b, off, spot⟩ := ad
  have hl : 0 < (cellsP l).length := by have := h.1; omega
  have h0 := hc 0 _ (List.getElem?_eq_getElem hl)
  have hs : spot = none := by simpa [Addr.add] using World.cell?_spot h0
  subst hs
  refine ⟨b, off, rfl, hb, fun i p hp => ?_⟩
  obtain ⟨h1, h2, h3⟩ := cellsP_at l i p hp
  have k1 := hc _ _ h1
  have k2 := hc _ _ h2
  have k3 := hc _ _ h3
  rw [add_none] at k1 k2 k3
  exact ⟨k1, by rw [Nat.add_assoc]; exact k2, by rw [Nat.add_assoc]; exact k3⟩

/-- Small tests. -/
def inB (n a b : Int) : Bool := decide (a ≤ n) && decide (n ≤ b)
def partB (q : Int) : Bool := decide (0 ≤ q) && decide (q < 3)
def pendB (p : Pd) : Bool := decide (0 ≤ p.1) && (decide (p.1 < 2) && (partB p.2.1 && (decide (0 ≤ p.2.2) && decide (p.2.2 ≤ 1048576))))
def aheadB (a b : Pd) : Bool := decide (a.1 < b.1) || (decide (a.1 = b.1) && decide (a.2.1 < b.2.1))
def cmpI (a b : Int) : Int := if a < b then -1 else if b < a then 1 else 0
def orI : List Int → Int
  | [] => 0
  | z :: r => if z = 0 then orI r else z
def plI (a b : Pd) : Int := orI [cmpI a.1 b.1, cmpI a.2.1 b.2.1]
theorem cmpI_neg (a b : Int) : cmpI a b < 0 ↔ a < b := by unfold cmpI; split <;> (try split) <;> omega
theorem cmpI_zero (a b : Int) : cmpI a b = 0 ↔ a = b := by unfold cmpI; split <;> (try split) <;> omega
theorem plI_neg (a b : Pd) : plI a b < 0 ↔ aheadB a b = true := by
  have h1 := cmpI_neg a.1 b.1
  have h2 := cmpI_zero a.1 b.1
  have h3 := cmpI_neg a.2.1 b.2.1
  have h4 := cmpI_zero a.2.1 b.2.1
  simp only [plI, orI, aheadB, Bool.or_eq_true, Bool.and_eq_true, decide_eq_true_eq]
  by_cases h : cmpI a.1 b.1 = 0
  · rw [if_pos h]
    by_cases h' : cmpI a.2.1 b.2.1 = 0
    · rw [if_pos h']; omega
    · rw [if_neg h']; omega
  · rw [if_neg h]; omega

/-- Each item and the next one. -/
def Adj {α : Type} (R : α → α → Prop) (l : List α) (n : Nat) : Prop := ∀ j a b, j + 1 < n → l[j]? = some a → l[j + 1]? = some b → R a b
theorem Adj.one {α : Type} {R : α → α → Prop} {l : List α} {n : Nat} (h : n ≤ 1) : Adj R l n := fun j _ _ hj => by omega
theorem Adj.step {α : Type} {R : α → α → Prop} {l : List α} {n : Nat} {a b : α} (h : Adj R l n) (hn : 1 ≤ n) (ha : l[n - 1]? = some a) (hb : l[n]? = some b) (hr : R a b) : Adj R l (n + 1) := by
  intro j x y hj hx hy
  rcases Nat.lt_or_ge (j + 1) n with h' | h'
  · exact h j x y h' hx hy
  · obtain rfl : j = n - 1 := by omega
    rw [show n - 1 + 1 = n by omega] at hy
    rw [ha] at hx
    rw [hb] at hy
    injection hx with hx
    injection hy with hy
    subst hx; subst hy
    exact hr
theorem Adj.not {α : Type} {R : α → α → Prop} {l : List α} {n : Nat} {a b : α} (hn : 1 ≤ n) (hl : n < l.length) (ha : l[n - 1]? = some a) (hb : l[n]? = some b) (hr : ¬ R a b) : ¬ Adj R l l.length :=
  fun h => hr (h (n - 1) a b (by omega) ha (by rw [show n - 1 + 1 = n by omega]; exact hb))

open Classical in
noncomputable def adjB {α : Type} (R : α → α → Prop) (l : List α) : Bool := decide (Adj R l l.length)
theorem adjB_true {α : Type} {R : α → α → Prop} {l : List α} (h : Adj R l l.length) : adjB R l = true := by unfold adjB; simpa using h
theorem adjB_false {α : Type} {R : α → α → Prop} {l : List α} (h : ¬ Adj R l l.length) : adjB R l = false := by unfold adjB; simpa using h
def ltP (a b : Int) : Prop := a < b
def aheadP (a b : Pd) : Prop := aheadB a b = true
/-- Partitions: rising, the first and the last within bounds. -/
noncomputable def partsB (l : List Int) : Bool := adjB ltP l && (decide (l.length = 0) || (partB (l.getD 0 0) && partB (l.getD (l.length - 1) 0)))
end Go.Proofs.YtbpkckahonmpkaaDoor
namespace Go.Proofs.YtbpkckahonmpkaaDoor
open Go.RowKit

theorem still_of_quiet {P : Program} {o : Oper} {a : Act} {w : World} {K : Act → Prop} (h : o.quiet P a (fun W => W = w) K) : o.still P a w K := by
  obtain ⟨v, h1, h2⟩ := h
  have h3 := h1 w rfl
  unfold Oper.quietAt at h3
  unfold Oper.still
  generalize (execOp a.eval o).run P w = r at *
  cases r with
  | ok n w' =>
    cases n <;> simp only [Oper.quietUpon] at h3 <;> simp only [Oper.stillUpon]
    case value u =>
      obtain ⟨e1, e2⟩ := h3
      rw [e2]
      exact ⟨e1, h2⟩
    case skip =>
      obtain ⟨e1, e2⟩ := h3
      rw [← e2]
      exact ⟨e1, h2⟩
    case enter f args =>
      obtain ⟨e1, hc⟩ := h3
      exact ⟨e1, v, hc, h2⟩
  | halt x w' => simp only [Oper.quietUpon] at h3

theorem wpStill_of_quiet {P : Program} {ops : Array Oper} {w : World} {Q : Act → Prop} : ∀ (l : List Oper) (a : Act), wpQuiet P ops (fun W => W = w) Q l a → wpStill P ops w Q l a
  | [], _, h => h
  | o :: rest, a, h => by
    unfold wpQuiet at h
    unfold wpStill
    split
    · rename_i hw
      rw [if_pos hw] at h
      exact Oper.still_mono (fun a' h' => wpStill_of_quiet rest a' h') (still_of_quiet h)
    · rename_i hw
      rw [if_neg hw] at h
      exact wpStill_of_quiet rest _ h

theorem wp_region_qtail {P : Program} {id : Nat} {Q : Exit → Act → World → Prop} {a : Act} {w : World} {l : List Oper} (n : Nat) (hm : P.follows .mixedOrders = true) (hB : Region.lexTailB .any l.toArray n = true)
    (h : wpQuiet P l.toArray (fun W => W = w.drew) (fun a' => wpList P l.toArray Q (l.drop n) a' w.drew) (l.take n) a) : (Code.region id l.toArray true).wp P Q a w :=
  wp_region_still_tail n hm hB (wpStill_of_quiet _ _ h)
end Go.Proofs.YtbpkckahonmpkaaDoor
namespace Go.Proofs.YtbpkckahonmpkaaDoor
open Go.RowKit

set_option maxHeartbeats 400000 in
theorem isPart_any (q : Int) (w : World) : Calls Tryd.prog 81 #[.int .i64 q] w fun e w' => e = .returned (.bool (partB q)) ∧ w = w' := by
  go_enter Tryd.func81, Tryd.ntmps81
  go_wp2
  all_goals (go_ret; exact ⟨ret_bool (by unfold partB; rw [Bool.eq_iff_iff]; simp; try omega), rfl⟩)

set_option maxHeartbeats 400000 in
theorem in_any (n a b : Int) (w : World) : Calls Tryd.prog 52 #[.int .i64 n, .int .i64 a, .int .i64 b] w fun e w' => e = .returned (.bool (inB n a b)) ∧ w = w' := by
  go_enter Tryd.func52, Tryd.ntmps52
  go_wp2
  all_goals (go_ret; exact ⟨ret_bool (by unfold inB; rw [Bool.eq_iff_iff]; simp; try omega), rfl⟩)

set_option maxHeartbeats 400000 in
theorem isPend_any (p : Pd) (w : World) : Calls Tryd.prog 66 #[.agg #[.int .i64 p.1, .int .i64 p.2.1, .int .i64 p.2.2]] w fun e w' => e = .returned (.bool (pendB p)) ∧ Below w.heap.size w w' := by
  have HB := Lib.hid (fun x => (Below.refl w.heap.size w).alloc (Nat.le_refl _) x)
  go_enter Tryd.func66, Tryd.ntmps66
  go_wp2_with (go_at_call 81; refine (isPart_any _ _).mono ?_; rintro e w1 ⟨rfl, rfl⟩)
  all_goals (go_ret; exact ⟨ret_bool (by unfold pendB; rw [Bool.eq_iff_iff]; simp [*]; try omega), HB.out _⟩)

set_option maxHeartbeats 400000 in
theorem pend_any (p : Pd) (w : World) : Calls Tryd.prog 57 #[.agg #[.int .i64 p.1, .int .i64 p.2.1, .int .i64 p.2.2]] w fun e w' => e = .returned (.bool (pendB p)) ∧ Below w.heap.size w w' := by
  have HB := Lib.hid (fun x => (Below.refl w.heap.size w).alloc (Nat.le_refl _) x)
  go_enter Tryd.func57, Tryd.ntmps57
  go_wp2_with (go_at_call 52; refine (in_any _ _ _ _).mono ?_; rintro e w1 ⟨rfl, rfl⟩)
  all_goals (go_ret; exact ⟨ret_bool (by simp only [inB, Bool.and_eq_true, decide_eq_true_eq] at *; unfold pendB partB; rw [Bool.eq_iff_iff]; simp; try omega), HB.out _⟩)

set_option maxHeartbeats 400000 in
theorem ahead_any (a b : Pd) (w : World) : Calls Tryd.prog 58 #[.agg #[.int .i64 a.1, .int .i64 a.2.1, .int .i64 a.2.2], .agg #[.int .i64 b.1, .int .i64 b.2.1, .int .i64 b.2.2]] w fun e w' => e = .returned (.bool (aheadB a b)) ∧ Below w.heap.size w w' := by
  have HB := Lib.hid (fun x y => ((Below.refl w.heap.size w).alloc (Nat.le_refl _) x).alloc (by simp) y)
  go_enter Tryd.func58, Tryd.ntmps58
  go_wp2
  all_goals (go_ret; exact ⟨ret_bool (by unfold aheadB; rw [Bool.eq_iff_iff]; simp; try omega), HB.out _ _⟩)

set_option maxHeartbeats 400000 in
theorem isNaN_any (a : Int) (w : World) : Calls Tryd.prog 90 #[.int .i64 a] w fun e w' => e = .returned (.bool false) ∧ w = w' := by
  go_enter Tryd.func90, Tryd.ntmps90
  go_wp2
  all_goals (go_ret; exact ⟨ret_bool (by simp), rfl⟩)

set_option maxHeartbeats 400000 in
theorem Compare_any (a b : Int) (w : World) : Calls Tryd.prog 84 #[.int .i64 a, .int .i64 b] w fun e w' => e = .returned (.int .i64 (cmpI a b)) ∧ w = w' := by
  go_enter Tryd.func84, Tryd.ntmps84
  go_wp2_with (go_at_call 90; refine (isNaN_any _ _).mono ?_; rintro e w1 ⟨rfl, rfl⟩)
  all_goals (go_ret; exact ⟨ret_int (by unfold cmpI; split <;> (try split) <;> omega), rfl⟩)

set_option maxHeartbeats 400000 in
theorem Or_any (A : Option Addr) (l : List Int) (c B : Nat) (w : World) (hr : Reads w B 1 A l.length (cellsI .i64 l)) (hl : l.length ≤ 1000) :
    Calls Tryd.prog 83 #[.slice A l.length c] w fun e w' => e = .returned (.int .i64 (orI l)) ∧ w = w' := by
  have HR := Lib.hid hr
  clear hr
  go_enter Tryd.func83, Tryd.ntmps83
  go_wp2
  go_loop [8] (fun x => ∃ k : Nat, k ≤ l.length ∧ x = .int .i64 k ∧ orI l = orI (l.drop k)) (fun x => l.length - (intOf x).toNat)
  case atStart => exact ⟨0, Nat.zero_le _, rfl, rfl⟩
  case round =>
    obtain ⟨k, hk, rfl, he⟩ := hrel
    have HE := Lib.hid he
    clear he
    by_cases hlt : k < l.length
    · have d1 : decide ((k : Int) < (l.length : Int)) = true := by simp; omega
      obtain ⟨b1, o1, rfl, _, hc1⟩ := HR.out.plain (by omega)
      obtain ⟨z, hz⟩ : ∃ z, l[k]? = some z := ⟨_, List.getElem?_eq_getElem hlt⟩
      have g1 := hc1 k _ (by rw [getElem?_cellsI, hz]; rfl)
      have hdr : l.drop k = z :: l.drop (k + 1) := by
        rw [List.drop_eq_getElem_cons hlt]
        congr 1
        exact (List.getElem?_eq_some_iff.1 hz).2
      have HD := Lib.hid hdr
      clear hc1 hz hdr
      by_cases h0 : z = 0
      · subst h0
        go_wp2
        go_round
        case rel => exact ⟨k + 1, by omega, by go_num, by rw [HE.out, HD.out]; simp [orI]⟩
        case measure => simp [intOf]; omega
      · have d2 : (z != 0) = true := by simpa using h0
        have hfin : orI l = z := by rw [HE.out, HD.out]; simp [orI, h0]
        have HF := Lib.hid hfin
        clear hfin
        go_wp2
        go_ret
        exact ⟨ret_int HF.out.symm, rfl⟩
    · have d1 : decide ((k : Int) < (l.length : Int)) = false := by simp; omega
      have hfin : orI l = 0 := by rw [HE.out, List.drop_eq_nil_of_le (by omega)]; rfl
      have HF := Lib.hid hfin
      clear hfin
      go_wp2
      go_ret
      exact ⟨ret_int HF.out.symm, rfl⟩

theorem reads_newI (w : World) (t : TypeId) (l : List Int) : Reads (w.alloc (.cells (cellsI .i64 l).toArray t)) (w.heap.size + 1) 1 (some ⟨w.heap.size, 0, none⟩) l.length (cellsI .i64 l) := by
  refine ⟨by rw [length_cellsI]; omega, fun _ => ⟨_, rfl, Nat.lt_succ_self _, fun j u hu => ?_⟩⟩
  rw [add_none, Nat.zero_add]
  have := (Blk.new w t (cellsI .i64 l).toArray).cell j
  rw [this]
  simpa using hu

set_option maxRecDepth 100000 in
set_option maxHeartbeats 400000 in
theorem byPlace_any (a b : Pd) (w : World) : Calls Tryd.prog 70 #[.agg #[.int .i64 a.1, .int .i64 a.2.1, .int .i64 a.2.2], .agg #[.int .i64 b.1, .int .i64 b.2.1, .int .i64 b.2.2]] w fun e w' => e = .returned (.int .i64 (plI a b)) ∧ Below w.heap.size w w' := by
  have HB := Lib.hid (fun x y z => (bal (bal (bal (Below.refl w.heap.size w) x) y) z).drew)
  go_enter Tryd.func70, Tryd.ntmps70
  go_wp2_with fail
  refine wp_region_qtail 10 (by kernel_rfl) (by kernel_rfl) ?_
  simp only [List.take_succ_cons, List.take_zero, List.drop_succ_cons, List.drop_zero]
  repeat (go_big_quiet_step (fail))
  go_big_quiet_want
  go_big_quiet_op
  refine ⟨_, (Compare_any _ _ _).mono (fun _ _ ⟨he, hw⟩ => ⟨he, hw.symm⟩), ?_⟩
  go_big_quiet_on
  repeat (go_big_quiet_step (fail))
  go_big_quiet_want
  go_big_quiet_op
  refine ⟨_, (Compare_any _ _ _).mono (fun _ _ ⟨he, hw⟩ => ⟨he, hw.symm⟩), ?_⟩
  go_big_quiet_on
  repeat (go_big_quiet_step (fail))
  refine wpQuiet_nil ?_
  go_wp2_with fail
  refine (Or_any _ [cmpI a.1 b.1, cmpI a.2.1 b.2.1] 2 _ _ (by simpa [cellsI] using (reads_newI ((w.alloc (.cells #[.int .i64 a.1, .int .i64 a.2.1, .int .i64 a.2.2] 33)).alloc (.cells #[.int .i64 b.1, .int .i64 b.2.1, .int .i64 b.2.2] 33)) 3 [cmpI a.1 b.1, cmpI a.2.1 b.2.1]).drew) (by simp)).mono ?_
  rintro e w1 ⟨rfl, rfl⟩
  go_wp2_with fail
  go_ret
  exact ⟨rfl, HB.out _ _ _⟩
end Go.Proofs.YtbpkckahonmpkaaDoor
namespace Go.Proofs.YtbpkckahonmpkaaDoor
open Go.RowKit

set_option maxRecDepth 100000 in
set_option maxHeartbeats 1000000 in
theorem risingI_any (A : Option Addr) (l : List Int) (c B : Nat) (w : World) (hr : Reads w B 1 A l.length (cellsI .i64 l)) (hl : l.length ≤ 1000000) :
    Calls Tryd.prog 87 #[.slice A l.length c, .func (.func 84) #[] #[]] w fun e w' => e = .returned (.bool (adjB ltP l)) ∧ ∃ q, w' = w.drewN q := by
  have HR := Lib.hid hr
  clear hr
  go_enter Tryd.func87, Tryd.ntmps87
  go_wp2_with fail
  go_loopw [5] (fun x wr => ∃ k q : Nat, 1 ≤ k ∧ (k ≤ l.length ∨ k = 1) ∧ x = .int .i64 k ∧ wr = w.drewN q ∧ Adj ltP l k) (fun x _ => l.length - (intOf x).toNat)
  case atStart => exact ⟨1, 0, Nat.le_refl _, .inr rfl, rfl, rfl, Adj.one (Nat.le_refl _)⟩
  case round =>
    obtain ⟨k, q, hk1, hk, rfl, rfl, hadj⟩ := hrel
    have HADJ := Lib.hid hadj
    clear hadj
    by_cases hlt : k < l.length
    · have d1 : decide ((k : Int) < (l.length : Int)) = true := by simp; omega
      obtain ⟨b1, o1, rfl, _, hc1⟩ := HR.out.plain (by omega)
      obtain ⟨j, rfl⟩ : ∃ j, k = j + 1 := ⟨k - 1, by omega⟩
      obtain ⟨x, hx⟩ : ∃ z, l[j]? = some z := ⟨_, List.getElem?_eq_getElem (by omega)⟩
      obtain ⟨y, hy⟩ : ∃ z, l[j + 1]? = some z := ⟨_, List.getElem?_eq_getElem hlt⟩
      have g1 := hc1 j _ (by rw [getElem?_cellsI, hx]; rfl)
      have g2 := hc1 (j + 1) _ (by rw [getElem?_cellsI, hy]; rfl)
      have e1 : IntKind.i64.wrap (((j + 1 : Nat) : Int) - 1) = (j : Int) := by rw [show ((j + 1 : Nat) : Int) - 1 = (j : Int) by omega]; exact IntWalk.i64_in _ (by omega)
      have i1 : (0 : Int) ≤ (j : Int) := by omega
      have i2 : (j : Int) < (l.length : Int) := by omega
      have i3 : (0 : Int) ≤ ((j + 1 : Nat) : Int) := by omega
      have i4 : ((j + 1 : Nat) : Int) < (l.length : Int) := by omega
      have hstep : ltP x y → Adj ltP l (j + 1 + 1) := fun h => HADJ.out.step (by omega) hx hy h
      have hnot : ¬ ltP x y → adjB ltP l = false := fun h => adjB_false (Adj.not (n := j + 1) (by omega) hlt hx hy h)
      have HST := Lib.hid hstep
      have HNO := Lib.hid hnot
      clear hc1 hx hy hstep hnot
      have hcm := cmpI_neg x y
      by_cases hxy : x < y
      · have d2 : decide (0 ≤ cmpI x y) = false := by simp; omega
        clear hcm
        go_wp2_with fail
        go_quiet ((go_at_call 84; exact quiet_add_left (Compare_any _ _ _)))
        go_wp2_with fail
        go_roundw
        case rel => exact ⟨j + 1 + 1, _, by omega, by omega, by go_num, rfl, HST.out hxy⟩
        case measure => simp [intOf]; omega
      · have d2 : decide (0 ≤ cmpI x y) = true := by simp; omega
        clear hcm
        go_wp2_with fail
        go_quiet ((go_at_call 84; exact quiet_add_left (Compare_any _ _ _)))
        go_wp2_with fail
        go_ret
        exact ⟨ret_bool (HNO.out (by unfold ltP; omega)).symm, _, World.drewN_drewN ..⟩
    · have d1 : decide ((k : Int) < (l.length : Int)) = false := by simp; omega
      have hfin : adjB ltP l = true := adjB_true (by
        rcases hk with hk | hk
        · obtain rfl : k = l.length := by omega
          exact HADJ.out
        · exact Adj.one (by omega))
      have HF := Lib.hid hfin
      clear hfin
      go_wp2_with fail
      go_ret
      exact ⟨ret_bool HF.out.symm, _, rfl⟩

set_option maxRecDepth 100000 in
set_option maxHeartbeats 1000000 in
theorem risingP_any (A : Option Addr) (l : List Pd) (c : Nat) (w : World) (hr : Reads w w.heap.size 3 A l.length (cellsP l)) (hl : l.length ≤ 1000000) :
    Calls Tryd.prog 79 #[.slice A l.length c, .func (.func 70) #[] #[]] w fun e w' => e = .returned (.bool (adjB aheadP l)) ∧ Below w.heap.size w w' := by
  have HR := Lib.hid hr
  clear hr
  go_enter Tryd.func79, Tryd.ntmps79
  go_wp2_with fail
  go_loopw [5] (fun x wr => ∃ k : Nat, 1 ≤ k ∧ (k ≤ l.length ∨ k = 1) ∧ x = .int .i64 k ∧ Below w.heap.size w wr ∧ Adj aheadP l k) (fun x _ => l.length - (intOf x).toNat)
  case atStart => exact ⟨1, Nat.le_refl _, .inr rfl, rfl, Below.refl _ _, Adj.one (Nat.le_refl _)⟩
  case round =>
    obtain ⟨k, hk1, hk, rfl, hbel, hadj⟩ := hrel
    have HADJ := Lib.hid hadj
    have HBEL := Lib.hid hbel
    clear hadj hbel
    by_cases hlt : k < l.length
    · have d1 : decide ((k : Int) < (l.length : Int)) = true := by simp; omega
      obtain ⟨b1, o1, rfl, _, hc1⟩ := (HR.out.below HBEL.out).plain3 (by omega)
      obtain ⟨j, rfl⟩ : ∃ j, k = j + 1 := ⟨k - 1, by omega⟩
      obtain ⟨x, hx⟩ : ∃ z, l[j]? = some z := ⟨_, List.getElem?_eq_getElem (by omega)⟩
      obtain ⟨y, hy⟩ : ∃ z, l[j + 1]? = some z := ⟨_, List.getElem?_eq_getElem hlt⟩
      obtain ⟨g1, g2, g3⟩ := hc1 j _ hx
      obtain ⟨g4, g5, g6⟩ := hc1 (j + 1) _ hy
      have e1 : IntKind.i64.wrap (((j + 1 : Nat) : Int) - 1) = (j : Int) := by rw [show ((j + 1 : Nat) : Int) - 1 = (j : Int) by omega]; exact IntWalk.i64_in _ (by omega)
      have i1 : (0 : Int) ≤ (j : Int) := by omega
      have i2 : (j : Int) < (l.length : Int) := by omega
      have i3 : (0 : Int) ≤ ((j + 1 : Nat) : Int) := by omega
      have i4 : ((j + 1 : Nat) : Int) < (l.length : Int) := by omega
      have hstep : aheadP x y → Adj aheadP l (j + 1 + 1) := fun h => HADJ.out.step (by omega) hx hy h
      have hnot : ¬ aheadP x y → adjB aheadP l = false := fun h => adjB_false (Adj.not (n := j + 1) (by omega) hlt hx hy h)
      have HST := Lib.hid hstep
      have HNO := Lib.hid hnot
      have HBP := Lib.hid (fun W => byPlace_any x y W)
      clear hc1 hx hy hstep hnot
      have hcm := plI_neg x y
      by_cases hxy : aheadB x y = true
      · have d2 : decide (0 ≤ plI x y) = false := by
          have := hcm.2 hxy
          simp; omega
        have HXY := Lib.hid hxy
        clear hcm hxy
        go_wp2_with fail
        refine wp_region_qtail 10 (by kernel_rfl) (by kernel_rfl) ?_
        simp only [List.take_succ_cons, List.take_zero, List.drop_succ_cons, List.drop_zero]
        repeat (go_big_quiet_step (fail))
        refine wpQuiet_nil ?_
        go_wp2_with (go_at_call 70; refine (HBP.out _).mono ?_; rintro e w2 ⟨rfl, hb2⟩)
        go_roundw
        case rel => exact ⟨j + 1 + 1, by omega, by omega, by go_num, btrans HBEL.out.drew hb2, HST.out HXY.out⟩
        case measure => simp [intOf]; omega
      · have d2 : decide (0 ≤ plI x y) = true := by
          have h2 : ¬ plI x y < 0 := fun h => hxy (hcm.1 h)
          simp; omega
        have HXY := Lib.hid hxy
        clear hcm hxy
        go_wp2_with fail
        refine wp_region_qtail 10 (by kernel_rfl) (by kernel_rfl) ?_
        simp only [List.take_succ_cons, List.take_zero, List.drop_succ_cons, List.drop_zero]
        repeat (go_big_quiet_step (fail))
        refine wpQuiet_nil ?_
        go_wp2_with (go_at_call 70; refine (HBP.out _).mono ?_; rintro e w2 ⟨rfl, hb2⟩)
        go_ret
        exact ⟨ret_bool (HNO.out HXY.out).symm, btrans HBEL.out.drew hb2⟩
    · have d1 : decide ((k : Int) < (l.length : Int)) = false := by simp; omega
      have hfin : adjB aheadP l = true := adjB_true (by
        rcases hk with hk | hk
        · obtain rfl : k = l.length := by omega
          exact HADJ.out
        · exact Adj.one (by omega))
      have HF := Lib.hid hfin
      clear hfin
      go_wp2_with fail
      go_ret
      exact ⟨ret_bool HF.out.symm, HBEL.out⟩

set_option maxRecDepth 100000 in
set_option maxHeartbeats 1000000 in
theorem areParts_any (A : Option Addr) (l : List Int) (c B : Nat) (w : World) (hr : Reads w B 1 A l.length (cellsI .i64 l)) (hl : l.length ≤ 1000000) :
    Calls Tryd.prog 78 #[.slice A l.length c] w fun e w' => e = .returned (.bool (partsB l)) ∧ ∃ q, w' = w.drewN q := by
  have HRI := Lib.hid (risingI_any A l c B w hr hl)
  have HR := Lib.hid hr
  clear hr
  by_cases h0 : l.length = 0
  · have hfin : partsB l = adjB ltP l := by unfold partsB; simp [h0]
    have d0 : ((l.length : Int) == 0) = true := by rw [h0]; rfl
    have HF := Lib.hid hfin
    clear hfin h0
    go_enter Tryd.func78, Tryd.ntmps78
    go_wp2_with (go_at_call 87; refine HRI.out.mono ?_; rintro e w1 ⟨rfl, q, rfl⟩)
    all_goals (go_ret; exact ⟨ret_bool (by rw [HF.out]; simp [*]), _, rfl⟩)
  · have d0 : ((l.length : Int) == 0) = false := beq_eq_false_iff_ne.2 (by omega)
    obtain ⟨b1, o1, rfl, _, hc1⟩ := HR.out.plain (by omega)
    have hx : l[0]? = some (l.getD 0 0) := by rw [List.getD_eq_getElem?_getD, List.getElem?_eq_getElem (by omega)]; rfl
    have hy : l[l.length - 1]? = some (l.getD (l.length - 1) 0) := by rw [List.getD_eq_getElem?_getD, List.getElem?_eq_getElem (by omega)]; rfl
    have g1 := hc1 0 _ (by rw [getElem?_cellsI, hx]; rfl)
    rw [Nat.add_zero] at g1
    have g2 := hc1 (l.length - 1) _ (by rw [getElem?_cellsI, hy]; rfl)
    have hfin : partsB l = (adjB ltP l && (partB (l.getD 0 0) && partB (l.getD (l.length - 1) 0))) := by unfold partsB; simp [h0]
    have hlp : 0 < l.length := by omega
    have HF := Lib.hid hfin
    obtain ⟨n, hn⟩ : ∃ n, n = l.length - 1 := ⟨_, rfl⟩
    have hn2 : (l.length : Int) - 1 = (n : Int) := by omega
    rw [← hn] at g2 HF
    have hnl : n < l.length := by omega
    generalize l.getD 0 0 = x at *
    generalize l.getD n 0 = y at *
    generalize adjB ltP l = ab at *
    clear hfin h0 hc1 hx hy hn HR
    have P1 := Lib.hid (fun W => isPart_any x W)
    have P2 := Lib.hid (fun W => isPart_any y W)
    cases hab : ab
    · subst hab
      go_enter Tryd.func78, Tryd.ntmps78
      go_wp2_with (go_at_call 87; refine HRI.out.mono ?_; rintro e w1 ⟨rfl, q, rfl⟩)
      go_ret
      exact ⟨ret_bool (by rw [HF.out]; rfl), _, rfl⟩
    · subst hab
      go_enter Tryd.func78, Tryd.ntmps78
      go_wp2_with (go_at_call 87; refine HRI.out.mono ?_; rintro e w1 ⟨rfl, q, rfl⟩)
      refine (P1.out _).mono ?_
      rintro e w1 ⟨rfl, rfl⟩
      cases hpx : partB x
      · go_wp2_with fail
        go_ret
        exact ⟨ret_bool (by rw [HF.out]; simp [hpx]), _, rfl⟩
      · go_wp2_with fail
        refine (P2.out _).mono ?_
        rintro e w1 ⟨rfl, rfl⟩
        go_wp2_with fail
        go_ret
        exact ⟨ret_bool (by rw [HF.out]; simp [hpx]), _, rfl⟩
end Go.Proofs.YtbpkckahonmpkaaDoor
namespace Go.Proofs.YtbpkckahonmpkaaDoor
open Go.RowKit

theorem eqPend (a b : Pd) (w : World) : (Op.equalIn 10000 33 (.agg #[.int .i64 a.1, .int .i64 a.2.1, .int .i64 a.2.2]) (.agg #[.int .i64 b.1, .int .i64 b.2.1, .int .i64 b.2.2])).run Tryd.prog w = .ok (decide (a = b)) w := by
  have u3 := Tryd.underlying3
  have hS : Tryd.prog.underlying 33 = some (.struct (Tryd.prog.fieldsOf 33)) := by kernel_rfl
  have hp : Tryd.prog.stoodInHeld 33 = false := by kernel_rfl
  have a3 := Tryd.isAgg3
  have z3 := Tryd.sizeOf3
  obtain ⟨a1, a2, a4⟩ := a
  obtain ⟨b1, b2, b4⟩ := b
  rw [show (10000 : Nat) = 9999 + 1 from rfl, run_equalIn_agg w 9999 33 _ _ hS hp]
  simp only [Program.fieldsOf, Tryd.underlying33]
  go_simp
  by_cases h1 : a1 = b1 <;> by_cases h2 : a2 = b2 <;> by_cases h3 : a4 = b4 <;> simp [h1, h2, h3]

set_option maxRecDepth 100000 in
set_option maxHeartbeats 1000000 in
theorem EqualI_any (A1 A2 : Option Addr) (l1 l2 : List Int) (c1 c2 B1 B2 : Nat) (w : World) (h1 : Reads w B1 1 A1 l1.length (cellsI .i64 l1)) (h2 : Reads w B2 1 A2 l2.length (cellsI .i64 l2)) (hl : l1.length ≤ 1000000) :
    Calls Tryd.prog 60 #[.slice A1 l1.length c1, .slice A2 l2.length c2] w fun e w' => e = .returned (.bool (decide (l1 = l2))) ∧ ∃ q, w' = w.drewN q := by
  by_cases hlen : l1.length = l2.length
  · have d0 : ((l1.length : Int) != (l2.length : Int)) = false := by rw [hlen]; simp
    have HH1 := Lib.hid h1
    have HH2 := Lib.hid h2
    have HLEN := Lib.hid hlen
    have hl2 : l1.length ≤ l2.length := by omega
    have hl3 : l2.length ≤ l1.length := by omega
    clear h1 h2 hlen
    go_enter Tryd.func60, Tryd.ntmps60
    go_wp2_with fail
    go_loopw [13] (fun y wr => ∃ k q : Nat, k ≤ l1.length ∧ y = .int .i64 k ∧ wr = w.drewN q ∧ l1.take k = l2.take k) (fun y _ => l1.length - (intOf y).toNat)
    case atStart => exact ⟨0, 0, Nat.zero_le _, rfl, rfl, by simp⟩
    case round =>
      obtain ⟨k, q, hk, rfl, rfl, htk⟩ := hrel
      have HTK := Lib.hid htk
      clear htk
      by_cases hlt : k < l1.length
      · have d1 : decide ((k : Int) < (l1.length : Int)) = true := by simp; omega
        obtain ⟨b1, o1, rfl, _, hc1⟩ := HH1.out.plain (by omega)
        obtain ⟨b2, o2, rfl, _, hc2⟩ := HH2.out.plain (by omega)
        obtain ⟨x, hx⟩ : ∃ z, l1[k]? = some z := ⟨_, List.getElem?_eq_getElem hlt⟩
        obtain ⟨y, hy⟩ : ∃ z, l2[k]? = some z := ⟨_, List.getElem?_eq_getElem (by omega)⟩
        have g1 := hc1 k _ (by rw [getElem?_cellsI, hx]; rfl)
        have g2 := hc2 k _ (by rw [getElem?_cellsI, hy]; rfl)
        have i1 : (0 : Int) ≤ (k : Int) := by omega
        have i2 : (k : Int) < (l1.length : Int) := by omega
        have i3 : (k : Int) < (l2.length : Int) := by omega
        have hts := take_snoc_eq HTK.out hx hy
        have HTS := Lib.hid hts
        have HX := Lib.hid hx
        have HY := Lib.hid hy
        clear hc1 hc2 hx hy hts
        by_cases hxy : x = y
        · subst hxy
          have d2 : (x != x) = false := by simp
          go_wp2_with fail
          go_quiet (fail)
          go_wp2_with fail
          go_roundw
          case rel => exact ⟨k + 1, _, by omega, by go_num, rfl, HTS.out.2 trivial⟩
          case measure => simp [intOf]; omega
        · have d2 : (x != y) = true := by simpa using hxy
          have hne : l1 ≠ l2 := ne_of_at HX.out HY.out hxy
          have hf : decide (l1 = l2) = false := by simpa using hne
          have HF := Lib.hid hf
          clear hne hf hxy
          go_wp2_with fail
          go_quiet (fail)
          go_wp2_with fail
          go_ret
          exact ⟨by rw [HF.out]; rfl, _, World.drewN_drewN ..⟩
      · obtain rfl : k = l1.length := by omega
        have d1 : decide ((l1.length : Int) < (l1.length : Int)) = false := by simp
        have he : l1 = l2 := by
          have h3 := HTK.out
          rw [List.take_length, HLEN.out, List.take_length] at h3
          exact h3
        have hf : decide (l1 = l2) = true := by simpa using he
        have HF := Lib.hid hf
        clear he hf
        go_wp2_with fail
        go_ret
        exact ⟨by rw [HF.out]; rfl, _, rfl⟩
  · have d0 : ((l1.length : Int) != (l2.length : Int)) = true := by simp; omega
    have hne : ¬ l1 = l2 := fun h => hlen (by rw [h])
    have hf : decide (l1 = l2) = false := by simpa using hne
    have HF := Lib.hid hf
    clear hf hne hlen h1 h2
    go_enter Tryd.func60, Tryd.ntmps60
    go_wp2_with fail
    go_ret
    exact ⟨by rw [HF.out]; rfl, 0, rfl⟩

set_option maxRecDepth 100000 in
set_option maxHeartbeats 1000000 in
theorem EqualP_any (A1 A2 : Option Addr) (l1 l2 : List Pd) (c1 c2 B1 B2 : Nat) (w : World) (h1 : Reads w B1 3 A1 l1.length (cellsP l1)) (h2 : Reads w B2 3 A2 l2.length (cellsP l2)) (hl : l1.length ≤ 1000000) :
    Calls Tryd.prog 61 #[.slice A1 l1.length c1, .slice A2 l2.length c2] w fun e w' => e = .returned (.bool (decide (l1 = l2))) ∧ ∃ q, w' = w.drewN q := by
  have hm : Tryd.prog.eqGuardType Tryd.prog.depth 33 = false := by kernel_rfl
  by_cases hlen : l1.length = l2.length
  · have d0 : ((l1.length : Int) != (l2.length : Int)) = false := by rw [hlen]; simp
    have HH1 := Lib.hid h1
    have HH2 := Lib.hid h2
    have HLEN := Lib.hid hlen
    have hl2 : l1.length ≤ l2.length := by omega
    have hl3 : l2.length ≤ l1.length := by omega
    clear h1 h2 hlen
    go_enter Tryd.func61, Tryd.ntmps61
    go_wp2_with fail
    go_loopw [13] (fun y wr => ∃ k q : Nat, k ≤ l1.length ∧ y = .int .i64 k ∧ wr = w.drewN q ∧ l1.take k = l2.take k) (fun y _ => l1.length - (intOf y).toNat)
    case atStart => exact ⟨0, 0, Nat.zero_le _, rfl, rfl, by simp⟩
    case round =>
      obtain ⟨k, q, hk, rfl, rfl, htk⟩ := hrel
      have HTK := Lib.hid htk
      clear htk
      by_cases hlt : k < l1.length
      · have d1 : decide ((k : Int) < (l1.length : Int)) = true := by simp; omega
        obtain ⟨b1, o1, rfl, _, hc1⟩ := HH1.out.plain3 (by omega)
        obtain ⟨b2, o2, rfl, _, hc2⟩ := HH2.out.plain3 (by omega)
        obtain ⟨x, hx⟩ : ∃ z, l1[k]? = some z := ⟨_, List.getElem?_eq_getElem hlt⟩
        obtain ⟨y, hy⟩ : ∃ z, l2[k]? = some z := ⟨_, List.getElem?_eq_getElem (by omega)⟩
        obtain ⟨g1, g2, g3⟩ := hc1 k _ hx
        obtain ⟨g4, g5, g6⟩ := hc2 k _ hy
        have heq := fun W => eqPend x y W
        have i1 : (0 : Int) ≤ (k : Int) := by omega
        have i2 : (k : Int) < (l1.length : Int) := by omega
        have i3 : (k : Int) < (l2.length : Int) := by omega
        have hts := take_snoc_eq HTK.out hx hy
        have HTS := Lib.hid hts
        have HX := Lib.hid hx
        have HY := Lib.hid hy
        clear hc1 hc2 hx hy hts
        by_cases hxy : x = y
        · have HXY := Lib.hid hxy
          rw [decide_eq_true hxy] at heq
          clear hxy
          go_wp2_with fail
          go_quiet (fail)
          go_wp2_with fail
          go_roundw
          case rel => exact ⟨k + 1, _, by omega, by go_num, rfl, HTS.out.2 HXY.out⟩
          case measure => simp [intOf]; omega
        · rw [decide_eq_false hxy] at heq
          have hne : l1 ≠ l2 := ne_of_at HX.out HY.out hxy
          have hf : decide (l1 = l2) = false := by simpa using hne
          have HF := Lib.hid hf
          clear hne hf hxy
          go_wp2_with fail
          go_quiet (fail)
          go_wp2_with fail
          go_ret
          exact ⟨by rw [HF.out]; rfl, _, World.drewN_drewN ..⟩
      · obtain rfl : k = l1.length := by omega
        have d1 : decide ((l1.length : Int) < (l1.length : Int)) = false := by simp
        have he : l1 = l2 := by
          have h3 := HTK.out
          rw [List.take_length, HLEN.out, List.take_length] at h3
          exact h3
        have hf : decide (l1 = l2) = true := by simpa using he
        have HF := Lib.hid hf
        clear he hf
        go_wp2_with fail
        go_ret
        exact ⟨by rw [HF.out]; rfl, _, rfl⟩
  · have d0 : ((l1.length : Int) != (l2.length : Int)) = true := by simp; omega
    have hne : ¬ l1 = l2 := fun h => hlen (by rw [h])
    have hf : decide (l1 = l2) = false := by simpa using hne
    have HF := Lib.hid hf
    clear hf hne hlen h1 h2
    go_enter Tryd.func61, Tryd.ntmps61
    go_wp2_with fail
    go_ret
    exact ⟨by rw [HF.out]; rfl, 0, rfl⟩
end Go.Proofs.YtbpkckahonmpkaaDoor
