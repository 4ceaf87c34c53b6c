/-
  Layer 8: which fields the request's reader goes through, as functions; each field by one contract.
-/
import Derived.Test.YtcockikekgmfkaaGreatDoorGrp22
namespace Go.Proofs.YtcockikekgmfkaaGreatDoor
open Go.RowKit

def fnOf : Fl → FuncId
  | .tid => 58
  | .tm => 59
  | .pid => 62
  | .ep => 63
  | .part => 60
  | .grp => 67
  | .off => 65
  | .most => 66
  | .yes => 64
  | .bat => 61
def fnV (g : Nat) (f : Fl) : Value := .func (.func (fnOf f)) #[.pointer (some ⟨g, 0, none⟩)] #[]
theorem cf_fn (f : Fl) (args : Array Value) (W : World) : (callFunc (fnOf f) args).run Tryz.prog W = .ok (.enter (fnOf f) args) W := by cases f <;> kernel_rfl
/-- The request with one field turned. -/
def setF (q : Rq) (f : Fl) (x : FV f) : Rq := Rq.of q.kd (upd q.get f x)
theorem setF_get (q : Rq) (f : Fl) (x : FV f) : (setF q f x).get = upd q.get f x := get_of _ _
theorem setF_tid (q : Rq) (x : FV .tid) : setF q .tid x = { q with tid := x } := rfl
theorem setF_tm (q : Rq) (x : FV .tm) : setF q .tm x = { q with tm := x } := rfl
theorem setF_pid (q : Rq) (x : FV .pid) : setF q .pid x = { q with pid := x } := rfl
theorem setF_ep (q : Rq) (x : FV .ep) : setF q .ep x = { q with ep := x } := rfl
theorem setF_part (q : Rq) (x : FV .part) : setF q .part x = { q with part := x } := rfl
theorem setF_grp (q : Rq) (x : FV .grp) : setF q .grp x = { q with grp := x } := rfl
theorem setF_off (q : Rq) (x : FV .off) : setF q .off x = { q with off := x } := rfl
theorem setF_most (q : Rq) (x : FV .most) : setF q .most x = { q with most := x } := rfl
theorem setF_yes (q : Rq) (x : FV .yes) : setF q .yes x = { q with yes := x } := rfl
theorem setF_bat (q : Rq) (x : FV .bat) : setF q .bat x = { q with b := x } := rfl
theorem cI_v {lo hi : Nat} {x : Int} (h : (cI lo hi).v x) : (lo : Int) ≤ x ∧ x ≤ (hi : Int) := by
  obtain ⟨h1, h2, h3, _⟩ := h
  omega
theorem cI_nv {lo hi : Nat} {x : Int} (hhi : hi ≤ maxNum) (h : ¬ (cI lo hi).v x) : ¬ ((lo : Int) ≤ x ∧ x ≤ (hi : Int)) := fun hh => h ⟨by omega, show lo ≤ x.toNat ∧ x.toNat ≤ hi ∧ x.toNat ≤ maxNum by omega⟩
theorem fw_any (g K B : Nat) (f : Fl) (q : Rq) (l : List UInt8) (W : World) (h : WqSt g K B q l W) (hl : l.length ≤ 20000) (hv : (cF f).v (q.get f)) :
    Calls Tryz.prog (fnOf f) #[.pointer (some ⟨g, 0, none⟩)] W (WqOk g K B (setF q f (zeroF f)) (l ++ (cF f).e (q.get f)) W) := by
  cases f
  · exact fw_tid g K B q l W h hl (cI_v hv)
  · exact fw_tm g K B q l W h hl (cI_v hv)
  · exact fw_pid g K B q l W h hl (cI_v hv)
  · exact fw_ep g K B q l W h hl (cI_v hv)
  · exact fw_part g K B q l W h hl (cI_v hv)
  · exact fw_grp g K B q l W h hl (cI_v hv)
  · exact fw_off g K B q l W h hl (cI_v hv)
  · exact fw_most g K B q l W h hl (cI_v hv)
  · exact fw_yes g K B q l W h hl
  · exact fw_bat g K B q l W h hl hv
theorem fx_any (g K B : Nat) (f : Fl) (q : Rq) (l : List UInt8) (W : World) (h : WqSt g K B q l W) (hv : ¬ (cF f).v (q.get f)) :
    Calls Tryz.prog (fnOf f) #[.pointer (some ⟨g, 0, none⟩)] W (WqNo g W) := by
  cases f
  · exact fx_tid g K B q l W h (cI_nv (show hiF .tid ≤ maxNum by decide) hv)
  · exact fx_tm g K B q l W h (cI_nv (show hiF .tm ≤ maxNum by decide) hv)
  · exact fx_pid g K B q l W h (cI_nv (show hiF .pid ≤ maxNum by decide) hv)
  · exact fx_ep g K B q l W h (cI_nv (show hiF .ep ≤ maxNum by decide) hv)
  · exact fx_part g K B q l W h (cI_nv (show hiF .part ≤ maxNum by decide) hv)
  · exact fx_grp g K B q l W h (cI_nv (show hiF .grp ≤ maxNum by decide) hv)
  · exact fx_off g K B q l W h (cI_nv (show hiF .off ≤ maxNum by decide) hv)
  · exact fx_most g K B q l W h (cI_nv (show hiF .most ≤ maxNum by decide) hv)
  · exact absurd trivial hv
  · exact fx_bat g K B q l W h (by cases hm : mayBt q.b; rfl; exact absurd hm hv)
theorem readBt_cases' (l : List UInt8) : (∃ x, readBt l = (x, 0)) ∨ readBt l = (Bat0, 70) := by
  rcases readBt_code l with h | h
  · exact .inl ⟨(readBt l).1, Prod.ext rfl h⟩
  · exact .inr h
/-- Behind a field that was read, or its bytes were wrong. -/
def FrPost (B g gr : Nat) (s : ByteArray) (q : Rq) (f : Fl) (z : FV f × Nat × Bool) (w : World) (e : Ending) (w' : World) : Prop :=
  RqOk B g gr s z.2.1 z.2.2 (setF q f z.1) w e w' ∨ (z.2.2 = true ∧ RqErr g gr w e w')
theorem fr_any (B g gr : Nat) (s : ByteArray) (i : Nat) (b : Bool) (f : Fl) (q : Rq) (W : World) (h : RqSt B g gr s i b q W) :
    Calls Tryz.prog (fnOf f) #[.pointer (some ⟨g, 0, none⟩)] W (FrPost B g gr s q f (rdF f (lb s) i b) W) := by
  cases f
  · exact (fr_tid B g gr s i _ b _ _ q W h rfl).mono fun _ _ h => .inl h
  · exact (fr_tm B g gr s i _ b _ _ q W h rfl).mono fun _ _ h => .inl h
  · exact (fr_pid B g gr s i _ b _ _ q W h rfl).mono fun _ _ h => .inl h
  · exact (fr_ep B g gr s i _ b _ _ q W h rfl).mono fun _ _ h => .inl h
  · exact (fr_part B g gr s i _ b _ _ q W h rfl).mono fun _ _ h => .inl h
  · exact (fr_grp B g gr s i _ b _ _ q W h rfl).mono fun _ _ h => .inl h
  · exact (fr_off B g gr s i _ b _ _ q W h rfl).mono fun _ _ h => .inl h
  · exact (fr_most B g gr s i _ b _ _ q W h rfl).mono fun _ _ h => .inl h
  · exact (fr_yes B g gr s i _ b _ _ q W h rfl).mono fun _ _ h => .inl h
  · obtain ⟨t, j, b', hz⟩ : ∃ t j b', rdTxt (lb s) i b 1024 = (t, j, b') := ⟨_, _, _, rfl⟩
    have ht : t.length ≤ 100000 := by
      obtain ⟨Ab, cb, h1, h2, h3, h4⟩ := h
      have hs := h2.2.2.2.1
      have hl := length_lb s
      have : t = (rdTxt (lb s) i b 1024).1 := by rw [hz]
      rw [this]
      unfold rdTxt
      split
      · exact Nat.zero_le _
      · split
        · split
          · rw [List.length_take, List.length_drop]; omega
          · exact Nat.zero_le _
        · exact Nat.zero_le _
    have hrd : rdF .bat (lb s) i b = if (readBt t).2 = 0 then ((readBt t).1, j, b') else (Bat0, j, true) := by
      show rdBt (lb s) i b = _
      unfold rdBt
      rw [hz]
    rcases readBt_cases' t with ⟨x, hx⟩ | hx
    · rw [hrd, hx]
      exact (fr_bat B g gr s i j b b' t x q W h hz hx ht).mono fun _ _ h => .inl h
    · rw [hrd, hx]
      exact (fr_bat_x B g gr s i j b b' t Bat0 q W h hz hx ht).mono fun _ _ h => .inr ⟨rfl, h⟩

theorem infoF : (Tryz.prog.info? 1).map (fun i => (i.zero, i.size, i.bytes)) = some (some .nilFunc, 1, 8) := by kernel_rfl
theorem reads_newN (w : World) (t : TypeId) (cs : Array Value) (g : Nat) (hg : w.heap.size = g) : Reads (w.alloc (.cells cs t)) (g + 1) 1 (some ⟨g, 0, none⟩) cs.size cs.toList := by
  subst hg
  refine ⟨by simp, fun _ => ⟨_, rfl, Nat.lt_succ_self _, fun j u hu => ?_⟩⟩
  rw [add_none, Nat.zero_add]
  rw [(Blk.new w t _).cell j]
  simpa using hu
theorem own_newN (w : World) (t : TypeId) (cs : Array Value) (h : cs.size ≤ maxLen) : (w.alloc (.cells cs t)).ownsRow w.heap.size t 1 (.slice (some ⟨w.heap.size, 0, none⟩) cs.size cs.size) cs.size cs.toList :=
  ⟨by simp, .inr ⟨w.heap.size, cs.size, cs, rfl, Nat.le_refl _, heap_alloc_new w _, Nat.le_refl _, h, by simp, by rw [Nat.mul_one]; exact List.take_of_length_le (by simp)⟩⟩
/-- A kind's fields. -/
def ListPost (g : Nat) (fs : List Fl) (w : World) (e : Ending) (w' : World) : Prop :=
  ∃ A c, e = .returned (.slice A fs.length c) ∧ w'.ownsRow w.heap.size 1 1 (.slice A fs.length c) fs.length (fs.map (fnV g)) ∧ Below w.heap.size w w'

set_option maxRecDepth 100000 in
set_option maxHeartbeats 1000000 in
theorem list_0 (g : Nat) (w : World) : Calls Tryz.prog 45 #[.pointer (some ⟨g, 0, none⟩), .int .i8 0] w (ListPost g (flOf 0) w) := by
  have hmf : ∀ (fn : Fn) (first cap : Array Value) (w : World), (Instr.makeFunc fn first cap).run Tryz.prog w = .ok (.func fn first cap) w := fun _ _ _ _ => rfl
  go_enter Tryz.func45, Tryz.ntmps45
  go_wp2_with fail
  go_ret
  exact ⟨none, 0, rfl, World.ownsRow_nil _ _ _ _, Below.refl _ _⟩

set_option maxRecDepth 100000 in
set_option maxHeartbeats 1000000 in
theorem list_1 (g : Nat) (w : World) : Calls Tryz.prog 45 #[.pointer (some ⟨g, 0, none⟩), .int .i8 1] w (ListPost g (flOf 1) w) := by
  have hmf : ∀ (fn : Fn) (first cap : Array Value) (w : World), (Instr.makeFunc fn first cap).run Tryz.prog w = .ok (.func fn first cap) w := fun _ _ _ _ => rfl
  go_enter Tryz.func45, Tryz.ntmps45
  go_wp2_with fail
  go_ret
  exact ⟨_, _, rfl, own_newN w 1 #[.func (.func 58) #[.pointer (some ⟨g, 0, none⟩)] #[], .func (.func 59) #[.pointer (some ⟨g, 0, none⟩)] #[]] (by unfold maxLen; simp), bal (Below.refl _ _) _⟩

set_option maxRecDepth 100000 in
set_option maxHeartbeats 1000000 in
theorem list_2 (g : Nat) (w : World) : Calls Tryz.prog 45 #[.pointer (some ⟨g, 0, none⟩), .int .i8 2] w (ListPost g (flOf 2) w) := by
  have hmf : ∀ (fn : Fn) (first cap : Array Value) (w : World), (Instr.makeFunc fn first cap).run Tryz.prog w = .ok (.func fn first cap) w := fun _ _ _ _ => rfl
  go_enter Tryz.func45, Tryz.ntmps45
  go_wp2_with fail
  go_ret
  exact ⟨_, _, rfl, own_newN w 1 #[.func (.func 60) #[.pointer (some ⟨g, 0, none⟩)] #[], .func (.func 61) #[.pointer (some ⟨g, 0, none⟩)] #[]] (by unfold maxLen; simp), bal (Below.refl _ _) _⟩

set_option maxRecDepth 100000 in
set_option maxHeartbeats 1000000 in
theorem list_3 (g : Nat) (w : World) : Calls Tryz.prog 45 #[.pointer (some ⟨g, 0, none⟩), .int .i8 3] w (ListPost g (flOf 3) w) := by
  have hmf : ∀ (fn : Fn) (first cap : Array Value) (w : World), (Instr.makeFunc fn first cap).run Tryz.prog w = .ok (.func fn first cap) w := fun _ _ _ _ => rfl
  obtain ⟨i0, hi, hi0, hi1, hi2⟩ := info_parts infoF
  have o0 := World.ownsRow_nil w w.heap.size 1 1
  have b0 := Below.refl w.heap.size w
  have O0 := Lib.hid o0
  have B0 := Lib.hid b0
  clear o0 b0
  go_enter Tryz.func45, Tryz.ntmps45
  go_wp2_with (at_builtin; first | (refine wpList_append_any _ rfl (.tmp 57) (.tmp 62) 81 rfl w.heap.size 1 i0 _ 1 8 Tryz.underlying81 hi hi0 hi1 hi2 rfl (by decide) _ 0 _ rfl (O0.out.alloc _) _ _ 2 2 (#[.func (.func 62) #[.pointer (some ⟨g, 0, none⟩)] #[], .func (.func 63) #[.pointer (some ⟨g, 0, none⟩)] #[]] : Array Value).toList rfl (reads_newN _ _ #[.func (.func 62) #[.pointer (some ⟨g, 0, none⟩)] #[], .func (.func 63) #[.pointer (some ⟨g, 0, none⟩)] #[]] _ rfl) (by simp [Value.oneCell']) (by unfold maxLen; omega) (by omega) (by have := B0.out.size; simp only [World.size_alloc]; omega) ?_; intro v1 w1 o1 g1 _; have O1 := Lib.hid o1; have B1 := Lib.hid ((bal B0.out _).grown g1 (by have := B0.out.size; simp only [World.size_alloc]; omega) (fun x hx => (O0.out.lt x hx).1)); clear o1 g1) | (refine wpList_append_any _ rfl (.tmp 64) (.tmp 67) 81 rfl w.heap.size 1 i0 _ 1 8 Tryz.underlying81 hi hi0 hi1 hi2 rfl (by decide) _ 2 _ rfl (O1.out.alloc _) _ _ 1 1 (#[.func (.func 67) #[.pointer (some ⟨g, 0, none⟩)] #[]] : Array Value).toList rfl (reads_newN _ _ #[.func (.func 67) #[.pointer (some ⟨g, 0, none⟩)] #[]] _ rfl) (by simp [Value.oneCell']) (by unfold maxLen; omega) (by omega) (by have := B1.out.size; simp only [World.size_alloc]; omega) ?_; intro v2 w2 o2 g2 _; have O2 := Lib.hid o2; have B2 := Lib.hid ((bal B1.out _).grown g2 (by have := B1.out.size; simp only [World.size_alloc]; omega) (fun x hx => (O1.out.lt x hx).1)); clear o2 g2) | (refine wpList_append_any _ rfl (.tmp 69) (.tmp 74) 81 rfl w.heap.size 1 i0 _ 1 8 Tryz.underlying81 hi hi0 hi1 hi2 rfl (by decide) _ 3 _ rfl (O2.out.alloc _) _ _ 2 2 (#[.func (.func 60) #[.pointer (some ⟨g, 0, none⟩)] #[], .func (.func 65) #[.pointer (some ⟨g, 0, none⟩)] #[]] : Array Value).toList rfl (reads_newN _ _ #[.func (.func 60) #[.pointer (some ⟨g, 0, none⟩)] #[], .func (.func 65) #[.pointer (some ⟨g, 0, none⟩)] #[]] _ rfl) (by simp [Value.oneCell']) (by unfold maxLen; omega) (by omega) (by have := B2.out.size; simp only [World.size_alloc]; omega) ?_; intro v3 w3 o3 g3 _; have O3 := Lib.hid o3; have B3 := Lib.hid ((bal B2.out _).grown g3 (by have := B2.out.size; simp only [World.size_alloc]; omega) (fun x hx => (O2.out.lt x hx).1)); clear o3 g3))
  go_ret
  obtain ⟨A5, c5, hv, hc5⟩ := own_slice O3.out
  subst hv
  exact ⟨A5, c5, rfl, O3.out, B3.out⟩

set_option maxRecDepth 100000 in
set_option maxHeartbeats 1000000 in
theorem list_4 (g : Nat) (w : World) : Calls Tryz.prog 45 #[.pointer (some ⟨g, 0, none⟩), .int .i8 4] w (ListPost g (flOf 4) w) := by
  have hmf : ∀ (fn : Fn) (first cap : Array Value) (w : World), (Instr.makeFunc fn first cap).run Tryz.prog w = .ok (.func fn first cap) w := fun _ _ _ _ => rfl
  go_enter Tryz.func45, Tryz.ntmps45
  go_wp2_with fail
  go_ret
  exact ⟨_, _, rfl, own_newN w 1 #[.func (.func 62) #[.pointer (some ⟨g, 0, none⟩)] #[], .func (.func 63) #[.pointer (some ⟨g, 0, none⟩)] #[], .func (.func 64) #[.pointer (some ⟨g, 0, none⟩)] #[]] (by unfold maxLen; simp), bal (Below.refl _ _) _⟩

set_option maxRecDepth 100000 in
set_option maxHeartbeats 1000000 in
theorem list_5 (g : Nat) (w : World) : Calls Tryz.prog 45 #[.pointer (some ⟨g, 0, none⟩), .int .i8 5] w (ListPost g (flOf 5) w) := by
  have hmf : ∀ (fn : Fn) (first cap : Array Value) (w : World), (Instr.makeFunc fn first cap).run Tryz.prog w = .ok (.func fn first cap) w := fun _ _ _ _ => rfl
  go_enter Tryz.func45, Tryz.ntmps45
  go_wp2_with fail
  go_ret
  exact ⟨_, _, rfl, own_newN w 1 #[.func (.func 60) #[.pointer (some ⟨g, 0, none⟩)] #[], .func (.func 65) #[.pointer (some ⟨g, 0, none⟩)] #[], .func (.func 66) #[.pointer (some ⟨g, 0, none⟩)] #[], .func (.func 64) #[.pointer (some ⟨g, 0, none⟩)] #[]] (by unfold maxLen; simp), bal (Below.refl _ _) _⟩

set_option maxRecDepth 100000 in
set_option maxHeartbeats 1000000 in
theorem list_6 (g : Nat) (w : World) : Calls Tryz.prog 45 #[.pointer (some ⟨g, 0, none⟩), .int .i8 6] w (ListPost g (flOf 6) w) := by
  have hmf : ∀ (fn : Fn) (first cap : Array Value) (w : World), (Instr.makeFunc fn first cap).run Tryz.prog w = .ok (.func fn first cap) w := fun _ _ _ _ => rfl
  obtain ⟨i0, hi, hi0, hi1, hi2⟩ := info_parts infoF
  have o0 := World.ownsRow_nil w w.heap.size 1 1
  have b0 := Below.refl w.heap.size w
  have O0 := Lib.hid o0
  have B0 := Lib.hid b0
  clear o0 b0
  go_enter Tryz.func45, Tryz.ntmps45
  go_wp2_with (at_builtin; first | (refine wpList_append_any _ rfl (.tmp 64) (.tmp 67) 81 rfl w.heap.size 1 i0 _ 1 8 Tryz.underlying81 hi hi0 hi1 hi2 rfl (by decide) _ 0 _ rfl (O0.out.alloc _) _ _ 1 1 (#[.func (.func 67) #[.pointer (some ⟨g, 0, none⟩)] #[]] : Array Value).toList rfl (reads_newN _ _ #[.func (.func 67) #[.pointer (some ⟨g, 0, none⟩)] #[]] _ rfl) (by simp [Value.oneCell']) (by unfold maxLen; omega) (by omega) (by have := B0.out.size; simp only [World.size_alloc]; omega) ?_; intro v1 w1 o1 g1 _; have O1 := Lib.hid o1; have B1 := Lib.hid ((bal B0.out _).grown g1 (by have := B0.out.size; simp only [World.size_alloc]; omega) (fun x hx => (O0.out.lt x hx).1)); clear o1 g1) | (refine wpList_append_any _ rfl (.tmp 69) (.tmp 74) 81 rfl w.heap.size 1 i0 _ 1 8 Tryz.underlying81 hi hi0 hi1 hi2 rfl (by decide) _ 1 _ rfl (O1.out.alloc _) _ _ 2 2 (#[.func (.func 60) #[.pointer (some ⟨g, 0, none⟩)] #[], .func (.func 65) #[.pointer (some ⟨g, 0, none⟩)] #[]] : Array Value).toList rfl (reads_newN _ _ #[.func (.func 60) #[.pointer (some ⟨g, 0, none⟩)] #[], .func (.func 65) #[.pointer (some ⟨g, 0, none⟩)] #[]] _ rfl) (by simp [Value.oneCell']) (by unfold maxLen; omega) (by omega) (by have := B1.out.size; simp only [World.size_alloc]; omega) ?_; intro v2 w2 o2 g2 _; have O2 := Lib.hid o2; have B2 := Lib.hid ((bal B1.out _).grown g2 (by have := B1.out.size; simp only [World.size_alloc]; omega) (fun x hx => (O1.out.lt x hx).1)); clear o2 g2))
  go_ret
  obtain ⟨A5, c5, hv, hc5⟩ := own_slice O2.out
  subst hv
  exact ⟨A5, c5, rfl, O2.out, B2.out⟩

set_option maxRecDepth 100000 in
set_option maxHeartbeats 1000000 in
theorem list_7 (g : Nat) (w : World) : Calls Tryz.prog 45 #[.pointer (some ⟨g, 0, none⟩), .int .i8 7] w (ListPost g (flOf 7) w) := by
  have hmf : ∀ (fn : Fn) (first cap : Array Value) (w : World), (Instr.makeFunc fn first cap).run Tryz.prog w = .ok (.func fn first cap) w := fun _ _ _ _ => rfl
  go_enter Tryz.func45, Tryz.ntmps45
  go_wp2_with fail
  go_ret
  exact ⟨_, _, rfl, own_newN w 1 #[.func (.func 67) #[.pointer (some ⟨g, 0, none⟩)] #[], .func (.func 60) #[.pointer (some ⟨g, 0, none⟩)] #[]] (by unfold maxLen; simp), bal (Below.refl _ _) _⟩

set_option maxRecDepth 100000 in
set_option maxHeartbeats 1000000 in
theorem list_8 (g : Nat) (w : World) : Calls Tryz.prog 45 #[.pointer (some ⟨g, 0, none⟩), .int .i8 8] w (ListPost g (flOf 8) w) := by
  have hmf : ∀ (fn : Fn) (first cap : Array Value) (w : World), (Instr.makeFunc fn first cap).run Tryz.prog w = .ok (.func fn first cap) w := fun _ _ _ _ => rfl
  obtain ⟨i0, hi, hi0, hi1, hi2⟩ := info_parts infoF
  have o0 := World.ownsRow_nil w w.heap.size 1 1
  have b0 := Below.refl w.heap.size w
  have O0 := Lib.hid o0
  have B0 := Lib.hid b0
  clear o0 b0
  go_enter Tryz.func45, Tryz.ntmps45
  go_wp2_with (at_builtin; first | (refine wpList_append_any _ rfl (.tmp 69) (.tmp 74) 81 rfl w.heap.size 1 i0 _ 1 8 Tryz.underlying81 hi hi0 hi1 hi2 rfl (by decide) _ 0 _ rfl (O0.out.alloc _) _ _ 2 2 (#[.func (.func 60) #[.pointer (some ⟨g, 0, none⟩)] #[], .func (.func 65) #[.pointer (some ⟨g, 0, none⟩)] #[]] : Array Value).toList rfl (reads_newN _ _ #[.func (.func 60) #[.pointer (some ⟨g, 0, none⟩)] #[], .func (.func 65) #[.pointer (some ⟨g, 0, none⟩)] #[]] _ rfl) (by simp [Value.oneCell']) (by unfold maxLen; omega) (by omega) (by have := B0.out.size; simp only [World.size_alloc]; omega) ?_; intro v1 w1 o1 g1 _; have O1 := Lib.hid o1; have B1 := Lib.hid ((bal B0.out _).grown g1 (by have := B0.out.size; simp only [World.size_alloc]; omega) (fun x hx => (O0.out.lt x hx).1)); clear o1 g1))
  go_ret
  obtain ⟨A5, c5, hv, hc5⟩ := own_slice O1.out
  subst hv
  exact ⟨A5, c5, rfl, O1.out, B1.out⟩

set_option maxRecDepth 100000 in
set_option maxHeartbeats 1000000 in
theorem list_9 (g : Nat) (w : World) : Calls Tryz.prog 45 #[.pointer (some ⟨g, 0, none⟩), .int .i8 9] w (ListPost g (flOf 9) w) := by
  have hmf : ∀ (fn : Fn) (first cap : Array Value) (w : World), (Instr.makeFunc fn first cap).run Tryz.prog w = .ok (.func fn first cap) w := fun _ _ _ _ => rfl
  go_enter Tryz.func45, Tryz.ntmps45
  go_wp2_with fail
  go_ret
  exact ⟨none, 0, rfl, World.ownsRow_nil _ _ _ _, Below.refl _ _⟩

theorem list_any (g : Nat) (kd : Int) (w : World) (h : 0 ≤ kd ∧ kd ≤ 9) : Calls Tryz.prog 45 #[.pointer (some ⟨g, 0, none⟩), .int .i8 kd] w (ListPost g (flOf kd) w) := by
  have hh : kd = 0 ∨ kd = 1 ∨ kd = 2 ∨ kd = 3 ∨ kd = 4 ∨ kd = 5 ∨ kd = 6 ∨ kd = 7 ∨ kd = 8 ∨ kd = 9 := by omega
  rcases hh with rfl | rfl | rfl | rfl | rfl | rfl | rfl | rfl | rfl | rfl
  · exact list_0 g w
  · exact list_1 g w
  · exact list_2 g w
  · exact list_3 g w
  · exact list_4 g w
  · exact list_5 g w
  · exact list_6 g w
  · exact list_7 g w
  · exact list_8 g w
  · exact list_9 g w

theorem set17 {cs : Array Value} {u v : Value} (h : cs[17]? = some u) : (cs.setIfInBounds 17 v)[17]? = some v := by
  have := (Array.getElem?_eq_some_iff.1 h).1
  simp [Array.getElem?_setIfInBounds, this]
set_option maxRecDepth 100000 in
set_option maxHeartbeats 1000000 in
theorem list_x (g : Nat) (cs : Array Value) (kd : Int) (w : World) (h : ¬ (0 ≤ kd ∧ kd ≤ 9)) (hb : RqB w g cs) (h1 : cs[17]? = some .nilIface) :
    Calls Tryz.prog 45 #[.pointer (some ⟨g, 0, none⟩), .int .i8 kd] w fun e w' => e = .returned (.slice none 0 0) ∧ WqBad g w' ∧ Only (fun x => x = g) w w' := by
  have WR := Lib.hid (fun nm => wrong_any g cs nm 2 w hb h1)
  have H17 := Lib.hid h1
  have e0 : (kd == 0) = false := eqb_false (by omega)
  have e1 : (kd == 1) = false := eqb_false (by omega)
  have e2 : (kd == 2) = false := eqb_false (by omega)
  have e3 : (kd == 3) = false := eqb_false (by omega)
  have e4 : (kd == 4) = false := eqb_false (by omega)
  have e5 : (kd == 5) = false := eqb_false (by omega)
  have e6 : (kd == 6) = false := eqb_false (by omega)
  have e7 : (kd == 7) = false := eqb_false (by omega)
  have e8 : (kd == 8) = false := eqb_false (by omega)
  have e9 : (kd == 9) = false := eqb_false (by omega)
  clear hb h1 h
  go_enter Tryz.func45, Tryz.ntmps45
  go_wp2_with fail
  refine (WR.out _).mono ?_
  rintro e w1 ⟨rfl, b, k1, hb, _, oo⟩
  have K1 := Lib.hid k1
  have HB := Lib.hid hb
  have OO := Lib.hid oo
  clear k1 hb oo
  go_wp2_with fail
  go_ret
  exact ⟨rfl, ⟨b, (K1.out.cell 17).trans (set17 H17.out), HB.out⟩, OO.out⟩
end Go.Proofs.YtcockikekgmfkaaGreatDoor
