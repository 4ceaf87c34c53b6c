/-
  The statement FrameOne: its walk.
-/
import Derived.Test.YtlojphajdefkdaaFrH
namespace Go.Proofs.Ytlojphajdefkdaa
open Go.RowKit

/-- Frames, one behind the other. -/
def joined : List (List UInt8) → List UInt8
  | [] => []
  | l :: ls => headOf l.length ++ l ++ joined ls
theorem joined_append (a b : List (List UInt8)) : joined (a ++ b) = joined a ++ joined b := by
  induction a with
  | nil => rfl
  | cons x xs ih => simp only [List.cons_append, joined, ih, List.append_assoc]
theorem length_joined (ls : List (List UInt8)) : (joined ls).length = sumLen ls := by
  induction ls with
  | nil => rfl
  | cons x xs ih =>
    simp only [joined, sumLen, List.length_append, ih]
    have : (headOf x.length).length = 4 := rfl
    omega
theorem from_joined (ls : List (List UInt8)) (h : ∀ l ∈ ls, l.length ≤ 1024) : loadsFrom (joined ls) 0 = ls ∧ endFrom (joined ls) 0 = (joined ls).length := by
  induction ls with
  | nil =>
    have hn : ¬ FrameAt [] 0 := by unfold FrameAt; simp
    exact ⟨loadsFrom_none _ _ hn, endFrom_none _ _ hn⟩
  | cons x xs ih =>
    have h1 := from_framed x (joined xs) (h x (List.mem_cons_self ..))
    have h2 := ih (fun l hl => h l (List.mem_cons_of_mem _ hl))
    refine ⟨by rw [joined, h1.1, h2.1], ?_⟩
    rw [joined, h1.2, h2.2]
    simp only [List.length_append]
    have : (headOf x.length).length = 4 := rfl
    omega
theorem joined_inj {a b : List (List UInt8)} (ha : ∀ l ∈ a, l.length ≤ 1024) (hb : ∀ l ∈ b, l.length ≤ 1024) (h : joined a = joined b) : a = b := by
  rw [← (from_joined a ha).1, h, (from_joined b hb).1]

/-- The bytes of some strings' frames. -/
def joinedS (a : List ByteArray) : List UInt8 := joined (a.map lb)
theorem joinedS_snoc (a : List ByteArray) (k : Nat) (s : ByteArray) (h : a[k]? = some s) : joinedS (a.take (k + 1)) = joinedS (a.take k) ++ (headOf s.size ++ lb s) := by
  unfold joinedS
  rw [List.take_add_one, h, List.map_append, joined_append]
  simp [joined, length_lb]

/-- How many bytes some strings have, none counted above 7000. -/
def capSum : List ByteArray → Nat
  | [] => 0
  | s :: a => min s.size 7000 + capSum a
theorem capSum_append (a b : List ByteArray) : capSum (a ++ b) = capSum a + capSum b := by
  induction a with
  | nil => simp [capSum]
  | cons x xs ih => simp only [List.cons_append, capSum, ih]; omega
theorem capSum_snoc (a : List ByteArray) (k : Nat) (s : ByteArray) (h : a[k]? = some s) : capSum (a.take (k + 1)) = capSum (a.take k) + min s.size 7000 := by
  rw [List.take_add_one, h, capSum_append]
  simp [capSum]
theorem capSum_le (a : List ByteArray) : capSum a ≤ 7000 * a.length := by
  induction a with
  | nil => simp [capSum]
  | cons x xs ih => simp only [capSum, List.length_cons]; omega
theorem capSum_take_le (a : List ByteArray) (k : Nat) : capSum (a.take k) ≤ 7000 * k := by
  have h1 := capSum_le (a.take k)
  have h2 := List.length_take_le k a
  omega
theorem capSum_mem {a : List ByteArray} {s : ByteArray} (h : s ∈ a) : min s.size 7000 ≤ capSum a := by
  induction a with
  | nil => cases h
  | cons x xs ih =>
    simp only [capSum]
    rcases List.mem_cons.1 h with rfl | h'
    · omega
    · have := ih h'; omega
theorem joinedS_len (a : List ByteArray) (h : capSum a ≤ 6000) : (joinedS a).length ≤ 4 * a.length + 6000 := by
  have key : ∀ a : List ByteArray, capSum a ≤ 6000 → (joinedS a).length = 4 * a.length + capSum a := by
    intro a
    induction a with
    | nil => intro _; rfl
    | cons x xs ih =>
      intro h
      simp only [capSum] at h
      have h1 := ih (by omega)
      unfold joinedS at h1 ⊢
      rw [List.map_cons, length_joined, sumLen, length_lb, ← length_joined, h1, List.length_cons, capSum]
      omega
  rw [key a h]; omega

theorem cap_eq (x n : Nat) : ((x : Int) + if (7000 : Int) < (n : Int) then 7000 else (n : Int)) = ((x + min n 7000 : Nat) : Int) := by
  split <;> omega
theorem i64_eq {a b : Int} (h : a = b) : Value.int .i64 a = Value.int .i64 b := by rw [h]

set_option maxRecDepth 100000 in
set_option maxHeartbeats 1000000 in
theorem one_walk (a b : List ByteArray) (A C : Option Addr) (n m c d : Nat) (w : World) (ha : Reads w w.heap.size 1 A n (cellsS a)) (hb : Reads w w.heap.size 1 C m (cellsS b))
    (hn : n * 16 ≤ 140737488351232) (hm : m * 16 ≤ 140737488351232) (hsa : ∀ s ∈ a, s.size ≤ 140737488351232) (hsb : ∀ s ∈ b, s.size ≤ 140737488351232) :
    Calls Try.prog 4 #[.slice A n c, .slice C m d] w fun e w' => e = .returned (.bool true) ∧ Below w.heap.size w w' := by
  have hla : a.length = n := by have := ha.1; rw [length_cellsS] at this; omega
  have hlb : b.length = m := by have := hb.1; rw [length_cellsS] at this; omega
  have HLA := Lib.hid hla
  have HLB := Lib.hid hlb
  have HSA := Lib.hid hsa
  have HSB := Lib.hid hsb
  clear hla hlb hsa hsb
  go_enter Try.func4, Try.ntmps4
  go_wp2
  go_loop [5, 6] (fun x i => ∃ k : Nat, k ≤ n + m ∧ k ≤ 71 ∧ i = .int .i64 k ∧ x = .int .i64 (capSum ((a ++ b).take k) : Nat)) (fun _ i => n + m - (intOf i).toNat)
  case atStart => exact ⟨0, Nat.zero_le _, by omega, rfl, rfl⟩
  case round =>
    obtain ⟨k, hk, hk2, rfl, rfl⟩ := hrel
    have hcs := capSum_take_le (a ++ b) k
    by_cases hlt : k < n + m ∧ k ≤ 70
    · obtain ⟨hlt, hk70⟩ := hlt
      have hd1 : decide ((k : Int) < (n : Int) + (m : Int)) = true := by simp; omega
      have hd2 : decide ((k : Int) ≤ 70) = true := by simp; omega
      by_cases hin : k < n
      · obtain ⟨b1, o1, rfl, _, hc1⟩ := ha.plain (by omega)
        obtain ⟨s, hs⟩ : ∃ s, a[k]? = some s := ⟨_, List.getElem?_eq_getElem (by rw [HLA.out]; exact hin)⟩
        have g1 := hc1 k _ (by rw [getElem?_cellsS, hs]; rfl)
        have hsn := capSum_snoc (a ++ b) k s (by rw [List.getElem?_append_left (by rw [HLA.out]; exact hin)]; exact hs)
        have hss := HSA.out s (List.mem_of_getElem? hs)
        have HSN := Lib.hid hsn
        clear hs hc1 hsn ha hb
        go_wp2
        go_round
        case rel => exact ⟨k + 1, by omega, by omega, by go_num, i64_eq (by rw [HSN.out, cap_eq])⟩
        case measure => simp [intOf]; omega
      · obtain ⟨b1, o1, rfl, _, hc1⟩ := hb.plain (by omega)
        obtain ⟨s, hs⟩ : ∃ s, b[k - n]? = some s := ⟨_, List.getElem?_eq_getElem (by rw [HLB.out]; omega)⟩
        have g1 := hc1 (k - n) _ (by rw [getElem?_cellsS, hs]; rfl)
        have hsn := capSum_snoc (a ++ b) k s (by rw [List.getElem?_append_right (by rw [HLA.out]; omega), HLA.out]; exact hs)
        have hss := HSB.out s (List.mem_of_getElem? hs)
        have HSN := Lib.hid hsn
        have hd3 : decide ((k : Int) < (n : Int)) = false := by simp; omega
        clear hs hc1 hsn ha hb
        go_wp2
        go_round
        case rel => exact ⟨k + 1, by omega, by omega, by go_num, i64_eq (by rw [HSN.out, cap_eq])⟩
        case measure => simp [intOf]; omega
    · have hd : decide ((k : Int) < (n : Int) + (m : Int)) = decide (k < n + m) := by rw [decide_eq_decide]; omega
      by_cases hall : k < n + m
      · have hd1 : decide ((k : Int) < (n : Int) + (m : Int)) = true := by simp; omega
        have hd2 : decide ((k : Int) ≤ 70) = false := by simp; omega
        by_cases h30 : 30 < n
        · have hd3 : decide ((30 : Int) < (n : Int)) = true := by simp; omega
          clear hd
          go_wp2_with (go_at_call 7; refine (wakes_any _).mono ?_; rintro e w5 ⟨rfl, hb5⟩)
          go_ret
          exact ⟨rfl, hb5⟩
        · have hd3 : decide ((30 : Int) < (n : Int)) = false := by simp; omega
          have hd4 : decide ((30 : Int) < (m : Int)) = true := by simp; omega
          clear hd
          go_wp2_with (go_at_call 7; refine (wakes_any _).mono ?_; rintro e w5 ⟨rfl, hb5⟩)
          go_ret
          exact ⟨rfl, hb5⟩
      · obtain rfl : k = n + m := by omega
        have hd1 : decide (((n + m : Nat) : Int) < (n : Int) + (m : Int)) = false := by simp
        have hfull : (a ++ b).take (n + m) = a ++ b := List.take_of_length_le (by rw [List.length_append, HLA.out, HLB.out]; exact Nat.le_refl _)
        rw [hfull, capSum_append]
        clear hd hfull hcs
        by_cases h30 : 30 < n
        · have hd3 : decide ((30 : Int) < (n : Int)) = true := by simp; omega
          go_wp2_with (go_at_call 7; refine (wakes_any _).mono ?_; rintro e w5 ⟨rfl, hb5⟩)
          go_ret
          exact ⟨rfl, hb5⟩
        · have hd3 : decide ((30 : Int) < (n : Int)) = false := by simp; omega
          by_cases h30' : 30 < m
          · have hd4 : decide ((30 : Int) < (m : Int)) = true := by simp; omega
            go_wp2_with (go_at_call 7; refine (wakes_any _).mono ?_; rintro e w5 ⟨rfl, hb5⟩)
            go_ret
            exact ⟨rfl, hb5⟩
          · have hd4 : decide ((30 : Int) < (m : Int)) = false := by simp; omega
            by_cases h60 : 6000 < capSum a + capSum b
            · have hd5 : decide ((6000 : Int) < ((capSum a + capSum b : Nat) : Int)) = true := by simp; omega
              go_wp2_with (go_at_call 7; refine (wakes_any _).mono ?_; rintro e w5 ⟨rfl, hb5⟩)
              go_ret
              exact ⟨rfl, hb5⟩
            · have hd5 : decide ((6000 : Int) < ((capSum a + capSum b : Nat) : Int)) = false := by simp; omega
              have hja : (joinedS a).length ≤ 6120 := by
                have := joinedS_len a (by omega)
                rw [HLA.out] at this; omega
              have hjb : (joinedS b).length ≤ 6120 := by
                have := joinedS_len b (by omega)
                rw [HLB.out] at this; omega
              clear hd1 hlt hall hk
              go_wp2_with fail
              go_loopw [7, 9] (fun x i wr => ∃ k : Nat, k ≤ n ∧ i = .int .i64 k ∧ x = .string (bs (joinedS (a.take k))) ∧ (∀ s ∈ a.take k, s.size ≤ 1024) ∧ Below w.heap.size w wr) (fun _ i _ => n - (intOf i).toNat)
              case atStart => exact ⟨0, Nat.zero_le _, rfl, rfl, by simp, Below.refl _ _⟩
              case round =>
                obtain ⟨k, hk, rfl, rfl, hsm, hbw⟩ := hrel
                have HSM := Lib.hid hsm
                clear hsm
                by_cases hlt : k < n
                · obtain ⟨b1, o1, rfl, _, hc1⟩ := (ha.below hbw).plain (by omega)
                  obtain ⟨s, hs⟩ : ∃ s, a[k]? = some s := ⟨_, List.getElem?_eq_getElem (by rw [HLA.out]; exact hlt)⟩
                  have g1 := hc1 k _ (by rw [getElem?_cellsS, hs]; rfl)
                  have hjs := joinedS_snoc a k s hs
                  have hss := HSA.out s (List.mem_of_getElem? hs)
                  have hds : decide ((k : Int) < (n : Int)) = true := by simp; omega
                  by_cases h10 : s.size ≤ 1024
                  · have hby := bytes_ok s wr h10
                    have HBY := Lib.hid hby
                    have hmem : ∀ x ∈ a.take (k + 1), x.size ≤ 1024 := by
                      intro x hx
                      rw [List.take_add_one, hs] at hx
                      rcases List.mem_append.1 hx with h | h
                      · exact HSM.out x h
                      · simp at h; rw [h]; exact h10
                    have HMEM := Lib.hid hmem
                    have hszj : (bs (joinedS (a.take k))).size + (bs (headOf s.size ++ lb s)).size ≤ 6120 := by
                      rw [size_bs, size_bs, ← List.length_append, ← hjs]
                      have : (joinedS (a.take (k + 1))).length ≤ (joinedS a).length := by
                        have e : joinedS a = joinedS (a.take (k + 1)) ++ joinedS (a.drop (k + 1)) := by
                          unfold joinedS
                          rw [← joined_append, ← List.map_append, List.take_append_drop]
                        rw [e, List.length_append]; omega
                      omega
                    have HJS := Lib.hid hjs
                    clear hjs hs hc1 hby hmem
                    go_wp2_with (go_at_call 9; refine HBY.out.mono ?_; rintro e w2 ⟨rfl, hb2⟩)
                    go_roundw
                    case rel => exact ⟨k + 1, by omega, by go_num, by rw [HJS.out, bs_append], HMEM.out, hbw.trans (hb2.mono hbw.size)⟩
                    case measure => simp [intOf]; omega
                  · have hby := bytes_long s wr (by unfold maxLen; omega) (by omega)
                    have HBY := Lib.hid hby
                    clear hjs hs hc1 hby
                    go_wp2_with (first | (go_at_call 9; refine HBY.out.mono ?_; rintro e w2 ⟨rfl, hb2⟩) | (go_at_call 7; refine (wakes_any _).mono ?_; rintro e w5 ⟨rfl, hb5⟩))
                    go_ret
                    have k1 := hbw.trans (hb2.mono hbw.size)
                    exact ⟨rfl, k1.trans (hb5.mono k1.size)⟩
                · obtain rfl : k = n := by omega
                  have hfull : a.take k = a := List.take_of_length_le (by rw [HLA.out]; exact Nat.le_refl _)
                  have hsm2 : ∀ s ∈ a, s.size ≤ 1024 := by have := HSM.out; rwa [hfull] at this
                  have HSM2 := Lib.hid hsm2
                  have hds : decide ((k : Int) < (k : Int)) = false := by simp
                  rw [hfull]
                  clear hfull hsm2 HSM
                  obtain ⟨wo, rfl⟩ : ∃ wo : World, wo = wr := ⟨_, rfl⟩
                  go_wp2_with fail
                  go_loopw [8, 12] (fun x i wr => ∃ j : Nat, j ≤ m ∧ i = .int .i64 j ∧ x = .string (bs (joinedS (b.take j))) ∧ (∀ s ∈ b.take j, s.size ≤ 1024) ∧ Below w.heap.size w wr) (fun _ i _ => m - (intOf i).toNat)
                  case atStart => exact ⟨0, Nat.zero_le _, rfl, rfl, by simp, hbw⟩
                  case round =>
                    obtain ⟨j, hj, rfl, rfl, hsm, hbx⟩ := hrel
                    have HSM := Lib.hid hsm
                    clear hsm
                    by_cases hlt : j < m
                    · obtain ⟨b1, o1, rfl, _, hc1⟩ := (hb.below hbx).plain (by omega)
                      obtain ⟨s, hs⟩ : ∃ s, b[j]? = some s := ⟨_, List.getElem?_eq_getElem (by rw [HLB.out]; exact hlt)⟩
                      have g1 := hc1 j _ (by rw [getElem?_cellsS, hs]; rfl)
                      have hjs := joinedS_snoc b j s hs
                      have hss := HSB.out s (List.mem_of_getElem? hs)
                      have hds : decide ((j : Int) < (m : Int)) = true := by simp; omega
                      by_cases h10 : s.size ≤ 1024
                      · have hby := bytes_ok s wr h10
                        have HBY := Lib.hid hby
                        have hmem : ∀ x ∈ b.take (j + 1), x.size ≤ 1024 := by
                          intro x hx
                          rw [List.take_add_one, hs] at hx
                          rcases List.mem_append.1 hx with h | h
                          · exact HSM.out x h
                          · simp at h; rw [h]; exact h10
                        have HMEM := Lib.hid hmem
                        have hszj : (bs (joinedS (b.take j))).size + (bs (headOf s.size ++ lb s)).size ≤ 6120 := by
                          rw [size_bs, size_bs, ← List.length_append, ← hjs]
                          have : (joinedS (b.take (j + 1))).length ≤ (joinedS b).length := by
                            have e : joinedS b = joinedS (b.take (j + 1)) ++ joinedS (b.drop (j + 1)) := by
                              unfold joinedS
                              rw [← joined_append, ← List.map_append, List.take_append_drop]
                            rw [e, List.length_append]; omega
                          omega
                        have HJS := Lib.hid hjs
                        clear hjs hs hc1 hby hmem
                        go_wp2_with (go_at_call 9; refine HBY.out.mono ?_; rintro e w2 ⟨rfl, hb2⟩)
                        go_roundw
                        case rel => exact ⟨j + 1, by omega, by go_num, by rw [HJS.out, bs_append], HMEM.out, hbx.trans (hb2.mono hbx.size)⟩
                        case measure => simp [intOf]; omega
                      · have hby := bytes_long s wr (by unfold maxLen; omega) (by omega)
                        have HBY := Lib.hid hby
                        clear hjs hs hc1 hby
                        go_wp2_with (first | (go_at_call 9; refine HBY.out.mono ?_; rintro e w2 ⟨rfl, hb2⟩) | (go_at_call 7; refine (wakes_any _).mono ?_; rintro e w5 ⟨rfl, hb5⟩))
                        go_ret
                        have k1 := hbx.trans (hb2.mono hbx.size)
                        exact ⟨rfl, k1.trans (hb5.mono k1.size)⟩
                    · obtain rfl : j = m := by omega
                      have hfull : b.take j = b := List.take_of_length_le (by rw [HLB.out]; exact Nat.le_refl _)
                      have hsm2 : ∀ s ∈ b, s.size ≤ 1024 := by have := HSM.out; rwa [hfull] at this
                      have hds : decide ((j : Int) < (j : Int)) = false := by simp
                      have hsame := same_any a b A C k j c d w.heap.size w.heap.size wr (ha.below hbx) (hb.below hbx) (by omega) (by omega)
                      have hinj : joinedS a = joinedS b ↔ a = b := by
                        refine ⟨fun h => ?_, fun h => by rw [h]⟩
                        have h1 := joined_inj (a := a.map lb) (b := b.map lb) (fun l hl => by
                          obtain ⟨s, hs, rfl⟩ := List.mem_map.1 hl
                          rw [length_lb]; exact HSM2.out s hs) (fun l hl => by
                          obtain ⟨s, hs, rfl⟩ := List.mem_map.1 hl
                          rw [length_lb]; exact hsm2 s hs) h
                        exact (List.map_inj_right (fun x y => lb_inj)).1 h1
                      rw [hfull]
                      clear hfull HSM hsm2
                      by_cases hab : a = b
                      · have hq : ((bs (joinedS a)).toList == (bs (joinedS b)).toList) = true := by rw [hinj.2 hab]; exact beq_self_eq_true _
                        rw [decide_eq_true hab] at hsame
                        have HS := Lib.hid hsame
                        clear hsame hab hinj
                        go_wp2_with (first | (go_at_call 10; refine HS.out.mono ?_; rintro e w4 ⟨rfl, q, rfl⟩) | (go_at_call 7; refine (wakes_any _).mono ?_; rintro e w5 ⟨rfl, hb5⟩))
                        go_ret
                        have k4 := below_drewN hbx q
                        exact ⟨rfl, k4.trans (hb5.mono k4.size)⟩
                      · have hq : ((bs (joinedS a)).toList == (bs (joinedS b)).toList) = false := by
                          rw [beq_str]
                          exact decide_eq_false (fun h => hab (hinj.1 (bs_inj h)))
                        rw [decide_eq_false hab] at hsame
                        have HS := Lib.hid hsame
                        clear hsame hab hinj
                        go_wp2_with (first | (go_at_call 10; refine HS.out.mono ?_; rintro e w4 ⟨rfl, q, rfl⟩) | (go_at_call 7; refine (wakes_any _).mono ?_; rintro e w5 ⟨rfl, hb5⟩))
                        go_ret
                        have k4 := below_drewN hbx q
                        exact ⟨rfl, k4.trans (hb5.mono k4.size)⟩
end Go.Proofs.Ytlojphajdefkdaa
