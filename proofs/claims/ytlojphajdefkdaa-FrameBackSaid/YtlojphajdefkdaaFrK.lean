/-
  The statement FrameBack: its walk.
-/
import Derived.Test.YtlojphajdefkdaaFrJ
import Derived.Test.YtlojphajdefkdaaFrR
namespace Go.Proofs.Ytlojphajdefkdaa
open Go.RowKit

def endsAt (l : List ByteArray) (j : Nat) : Nat := (joinedS (l.take j)).length
def endsCells (l : List ByteArray) (k : Nat) : List Value := (List.range (k + 1)).map fun j => Value.int .i64 (endsAt l j : Int)
theorem endsCells_succ (l : List ByteArray) (k : Nat) : endsCells l (k + 1) = endsCells l k ++ [Value.int .i64 (endsAt l (k + 1) : Int)] := by
  unfold endsCells
  rw [List.range_succ (n := k + 1), List.map_append]
  rfl
theorem endsCells_at (l : List ByteArray) (k j : Nat) (h : j ≤ k) : (endsCells l k)[j]? = some (.int .i64 (endsAt l j : Int)) := by
  unfold endsCells
  rw [List.getElem?_map, List.getElem?_range (by omega)]
  rfl

theorem infoInt : (Try.prog.info? 3).map (fun i => (i.zero, i.size, i.bytes)) = some (some (.int .i64 0), 1, 8) := by kernel_rfl

set_option maxRecDepth 100000 in
set_option maxHeartbeats 2000000 in
theorem back_walk (l : List ByteArray) (A : Option Addr) (n c : Nat) (cut : Int) (w : World) (ha : Reads w w.heap.size 1 A n (cellsS l)) (hnc : n ≤ c)
    (hn : n * 16 ≤ 140737488351232) (hsa : ∀ s ∈ l, s.size ≤ 140737488351232) (hcut : (Lit.int .i64 cut).wf = true) :
    Calls Try.prog 5 #[.slice A n c, .int .i64 cut] w fun e w' => e = .returned (.bool true) ∧ Below w.heap.size w w' := by
  obtain ⟨i0, hi, hz0, hz1, hz2⟩ := info_parts infoInt
  have hla : l.length = n := by have := ha.1; rw [length_cellsS] at this; omega
  have HLA := Lib.hid hla
  have HSA := Lib.hid hsa
  have HCUT := Lib.hid hcut
  clear hla hsa hcut
  go_enter Try.func5, Try.ntmps5
  go_wp2
  go_loop [5, 6] (fun x i => ∃ k : Nat, k ≤ n ∧ k ≤ 61 ∧ i = .int .i64 k ∧ x = .int .i64 (capSum (l.take k) : Nat) ∧ ∀ s ∈ l.take k, s.size ≤ 1024) (fun _ i => n - (intOf i).toNat)
  case atStart => exact ⟨0, Nat.zero_le _, by omega, rfl, rfl, by simp⟩
  case round =>
    obtain ⟨k, hk, hk2, rfl, rfl, hsm⟩ := hrel
    have HSM := Lib.hid hsm
    clear hsm
    have hcs := capSum_take_le l k
    by_cases hlt : k < n ∧ k ≤ 60
    · obtain ⟨hlt, hk60⟩ := hlt
      have hd1 : decide ((k : Int) < (n : Int)) = true := by simp; omega
      have hd2 : decide ((k : Int) ≤ 60) = true := by simp; omega
      obtain ⟨b1, o1, rfl, _, hc1⟩ := ha.plain (by omega)
      obtain ⟨s, hs⟩ : ∃ s, l[k]? = some s := ⟨_, List.getElem?_eq_getElem (by rw [HLA.out]; exact hlt)⟩
      have g1 := hc1 k _ (by rw [getElem?_cellsS, hs]; rfl)
      have hsn := capSum_snoc l k s hs
      have hss := HSA.out s (List.mem_of_getElem? hs)
      have HSN := Lib.hid hsn
      by_cases h10 : s.size ≤ 1024
      · have hd3 : decide ((1024 : Int) < (s.size : Int)) = false := by simp; omega
        have hmem : ∀ x ∈ l.take (k + 1), x.size ≤ 1024 := by
          intro x hx
          rw [List.take_add_one, hs] at hx
          rcases List.mem_append.1 hx with h | h
          · exact HSM.out x h
          · simp at h; rw [h]; exact h10
        have HMEM := Lib.hid hmem
        clear hs hc1 hsn ha hmem
        go_wp2
        go_round
        case rel => exact ⟨k + 1, by omega, by omega, by go_num, i64_eq (by rw [HSN.out]; omega), HMEM.out⟩
        case measure => simp [intOf]; omega
      · have hd3 : decide ((1024 : Int) < (s.size : Int)) = true := by simp; omega
        clear hs hc1 hsn ha
        go_wp2_with (go_at_call 7; refine (wakes_any _).mono ?_; rintro e w5 ⟨rfl, hb5⟩)
        all_goals
          go_ret
          exact ⟨rfl, hb5⟩
    · by_cases hall : k < n
      · have hd1 : decide ((k : Int) < (n : Int)) = true := by simp; omega
        have hd2 : decide ((k : Int) ≤ 60) = false := by simp; omega
        have hd3 : decide ((60 : Int) < (n : Int)) = true := by simp; omega
        go_wp2_with (go_at_call 7; refine (wakes_any _).mono ?_; rintro e w5 ⟨rfl, hb5⟩)
        go_ret
        exact ⟨rfl, hb5⟩
      · obtain rfl : k = n := by omega
        have hd1 : decide ((k : Int) < (k : Int)) = false := by simp
        have hfull : l.take k = l := List.take_of_length_le (by rw [HLA.out]; exact Nat.le_refl _)
        have hsm2 : ∀ s ∈ l, s.size ≤ 1024 := by have := HSM.out; rwa [hfull] at this
        have HSM2 := Lib.hid hsm2
        rw [hfull]
        clear hfull hcs hlt hall HSM hsm2 hk
        by_cases h60 : 60 < k
        · have hd3 : decide ((60 : Int) < (k : Int)) = true := by simp; omega
          go_wp2_with (go_at_call 7; refine (wakes_any _).mono ?_; rintro e w5 ⟨rfl, hb5⟩)
          go_ret
          exact ⟨rfl, hb5⟩
        · have hd3 : decide ((60 : Int) < (k : Int)) = false := by simp; omega
          by_cases h6 : 6000 < capSum l
          · have hd5 : decide ((6000 : Int) < (capSum l : Int)) = true := by simp; omega
            go_wp2_with (go_at_call 7; refine (wakes_any _).mono ?_; rintro e w5 ⟨rfl, hb5⟩)
            go_ret
            exact ⟨rfl, hb5⟩
          · have hd5 : decide ((6000 : Int) < (capSum l : Int)) = false := by simp; omega
            have hja : (joinedS l).length ≤ 6240 := by
              have := joinedS_len l (by omega)
              rw [HLA.out] at this; omega
            go_wp2_with fail
            go_loopw [7, 8, 9] (fun x v i wr => ∃ j : Nat, j ≤ k ∧ i = .int .i64 j ∧ x = .string (bs (joinedS (l.take j))) ∧ wr.ownsRow w.heap.size 3 1 v (j + 1) (endsCells l j) ∧ Below w.heap.size w wr) (fun _ _ i _ => k - (intOf i).toNat)
            case atStart => exact ⟨0, Nat.zero_le _, rfl, rfl, World.ownsRow_lit w #[.int .i64 0] 1 (Nat.le_refl _) (by unfold maxLen; omega) rfl, (Below.refl _ _).alloc (Nat.le_refl _) _⟩
            case round =>
              obtain ⟨j, hj, rfl, rfl, hown, hbw⟩ := hrel
              by_cases hlt : j < k
              · obtain ⟨b1, o1, rfl, hb1, hc1⟩ := (ha.below hbw).plain (by omega)
                obtain ⟨s, hs⟩ : ∃ s, l[j]? = some s := ⟨_, List.getElem?_eq_getElem (by rw [HLA.out]; exact hlt)⟩
                have g1 := hc1 j _ (by rw [getElem?_cellsS, hs]; rfl)
                have hjs := joinedS_snoc l j s hs
                have h10 := HSM2.out s (List.mem_of_getElem? hs)
                have hds : decide ((j : Int) < (k : Int)) = true := by simp; omega
                have HBY := Lib.hid (bytes_ok s wr h10)
                have hszj : (bs (joinedS (l.take j))).size + (bs (headOf s.size ++ lb s)).size ≤ 6240 := by
                  rw [size_bs, size_bs, ← List.length_append, ← hjs]
                  have : (joinedS (l.take (j + 1))).length ≤ (joinedS l).length := by
                    unfold joinedS
                    rw [List.map_take]
                    exact joined_take_mono _ _
                  omega
                have hea : (bs (joinedS (l.take j)) ++ bs (headOf s.size ++ lb s)).size = endsAt l (j + 1) := by
                  rw [bs_append, ← hjs, size_bs]; rfl
                have hbz : (bs (headOf s.size ++ lb s)).size = s.size + 4 := by
                  rw [size_bs, List.length_append, length_lb]; show 4 + s.size = _; omega
                have hfs : frSize s.size = (s.size : Int) + 4 := by rw [frSize, if_neg (by omega)]; omega
                have HFS := Lib.hid hfs
                have HJS := Lib.hid hjs
                have HEA := Lib.hid hea
                have HOWN := Lib.hid hown
                clear hjs hs hc1 hfs hea hown
                go_wp2_with (first | (go_at_call 9; refine HBY.out.mono ?_; rintro e w2 ⟨rfl, hb2⟩; have g2 := (hb2.cell (p := ⟨b1, o1 + j, none⟩) (Nat.lt_of_lt_of_le hb1 hbw.size)).trans g1) | (go_at_call 11; refine (size_any _ _).mono ?_; rw [HFS.out]; rintro e w3 ⟨rfl, rfl⟩) | (at_builtin; refine wpList_append_own _ rfl _ _ 31 rfl w.heap.size 3 i0 (.int .i64 0) 1 8 Try.underlying31 hi hz0 hz1 hz2 rfl (by decide) _ _ _ rfl ((own_below HOWN.out hb2).alloc _) ⟨w2.heap.size, 0, none⟩ 1 1 [.int .i64 _] rfl rfl (cell_one_new _ _ _) (by simp [Value.oneCell']) (by unfold maxLen; omega) (by omega) (by have := hbw.size; have := hb2.size; simp; omega) ?_; intro v' w4 hown' hgrow _))
                go_roundw
                case rel =>
                  refine ⟨j + 1, by omega, by go_num, by rw [HJS.out, bs_append], ?_, ?_⟩
                  · rw [endsCells_succ, ← HEA.out]
                    simpa [hbz] using hown'
                  · have k2 := hbw.trans (hb2.mono hbw.size)
                    exact (k2.alloc k2.size _).grown hgrow (by simp; exact Nat.le_trans k2.size (Nat.le_succ _)) (fun g hg => ((HOWN.out).lt g hg).1)
                case measure => simp [intOf]; omega
              · obtain rfl : j = k := by omega
                have hfull : l.take j = l := List.take_of_length_le (by rw [HLA.out]; exact Nat.le_refl _)
                have hds : decide ((j : Int) < (j : Int)) = false := by simp
                obtain ⟨ve, ce, rfl, hce⟩ := own_slice hown
                rw [hfull]
                have HR := Lib.hid (Reads.of_own hown)
                have hm10 : ∀ x ∈ l.map lb, x.length ≤ 1024 := fun x hx => by
                  obtain ⟨s, hs, rfl⟩ := List.mem_map.1 hx
                  rw [length_lb]; exact HSM2.out s hs
                have hfj := from_joined (l.map lb) hm10
                have hsz : (bs (joinedS l)).size = (joinedS l).length := size_bs _
                have hal := all_gives (bs (joinedS l)) wr (by rw [hsz]; omega)
                rw [lb_bs] at hal
                unfold AllGives at hal
                rw [show joinedS l = joined (l.map lb) from rfl, hfj.1, hfj.2] at hal
                rw [show joined (l.map lb) = joinedS l from rfl] at hal
                have hmm : (l.map lb).map bs = l := by rw [List.map_map]; exact (List.map_congr_left (fun s _ => bs_lb s)).trans (List.map_id _)
                rw [hmm, List.length_map, HLA.out, Int.sub_self] at hal
                have HAL := Lib.hid hal
                have HM10 := Lib.hid hm10
                have HMM := Lib.hid hmm
                have HWH : Hid (((endFrom (joinedS l) 0 : Int) == ((bs (joinedS l)).size : Int)) = true) := by
                  show ((endFrom (joined (l.map lb)) 0 : Int) == ((bs (joinedS l)).size : Int)) = true
                  rw [hfj.2, hsz]; exact beq_self_eq_true _
                clear hfull hown hfj hal hm10 hmm hsz
                go_wp2_with fail
                refine HAL.out.mono ?_
                rintro e w2 ⟨A2, c2, rfl, hr2, hcc2, hb2⟩
                have hbw2 := hbw.trans (hb2.mono hbw.size)
                have hra := ha.below hbw2
                have hsame := same_any l l A A2 j j c c2 w.heap.size w2.heap.size w2 hra hr2 (by omega) (by omega)
                rw [decide_eq_true rfl] at hsame
                have HS := Lib.hid hsame
                clear hsame HAL
                have hszN : (bs (joinedS l)).size ≤ 6240 := by rw [size_bs]; exact hja
                have htm := tmod_range cut (bs (joinedS l)).size
                have htm1 := htm.1
                have htm2 := htm.2
                clear htm
                go_wp2_with (first | (go_at_call 10; refine HS.out.mono ?_; rintro e w4 ⟨rfl, q, rfl⟩) | (go_at_call 12; refine (whole_any (bs (joinedS l)) _ (by omega)).mono ?_; rw [lb_bs, HWH.out]; rintro e w5 ⟨rfl, hb5⟩))
                have hcp := cut_place cut (bs (joinedS l)).size
                generalize hC : (cut.tmod (((bs (joinedS l)).size : Int) + 1) + ((bs (joinedS l)).size : Int) + 1) % (((bs (joinedS l)).size : Int) + 1) = C at *
                obtain ⟨cn, rfl⟩ := Int.eq_ofNat_of_zero_le hcp.1
                have hcn : cn ≤ (bs (joinedS l)).size := by have := hcp.2; omega
                have hb5' : Below wr.heap.size w2 w5 := by
                  have h1 : Below (w2.drewN q).heap.size (w2.drewN q) w5 := hb5
                  have h2 := (below_drewN (Below.refl w2.heap.size w2) q).trans h1
                  exact h2.mono hb2.size
                have hbw5 : Below w.heap.size w w5 := hbw2.trans (hb5'.mono hbw.size)
                have hre : Reads w5 wr.heap.size 1 ve (j + 1) (endsCells l j) := (HR.out.below hb2).below hb5'
                clear hC hcp htm1 htm2 hb5 HS hra hr2 hcc2 HR HWH
                go_loop [14] (fun i => ∃ t : Nat, t ≤ j ∧ i = .int .i64 t ∧ endsAt l t ≤ cn) (fun i => j - (intOf i).toNat)
                case atStart => exact ⟨0, Nat.zero_le _, rfl, Nat.zero_le _⟩
                case round =>
                  obtain ⟨t, ht, rfl, hle⟩ := hrel
                  obtain ⟨b1, o1, rfl, hbl1, hc1⟩ := hre.plain (by omega)
                  have gt := hc1 t _ (endsCells_at l j t ht)
                  by_cases hgo : t < j ∧ endsAt l (t + 1) ≤ cn
                  · have g1 := hc1 (t + 1) _ (endsCells_at l j (t + 1) (by omega))
                    have hd1 : decide ((t : Int) < (j : Int)) = true := by simp; omega
                    have hd2 : decide ((endsAt l (t + 1) : Int) ≤ (cn : Int)) = true := by simp; omega
                    have e1 : ((t : Int) + 1).toNat = t + 1 := by omega
                    clear hc1
                    go_wp2
                    go_round
                    case rel => exact ⟨t + 1, by omega, by go_num, hgo.2⟩
                    case measure => simp [intOf]; omega
                  · have hstop : t < j → cn < endsAt l (t + 1) := fun h => by omega
                    have hlen : (joinedS l).length = (bs (joinedS l)).size := (size_bs _).symm
                    have hext : lb ((bs (joinedS l)).extract 0 cn) = (joinedS l).take cn := by
                      rw [lb_extract, lb_bs, List.drop_zero]
                    have hexs : ((bs (joinedS l)).extract 0 cn).size = cn := by
                      rw [← length_lb, hext, List.length_take]; omega
                    have hea : ∀ u, endsAt l u = (joined ((l.map lb).take u)).length := fun u => by
                      unfold endsAt joinedS; rw [List.map_take]
                    have hfc := from_cut (l.map lb) cn t HM10.out (by rw [← hea]; exact hle) (fun h => by
                      rw [← hea]; exact hstop (by rw [List.length_map, HLA.out] at h; exact h))
                    rw [← hea] at hfc
                    have hal := all_gives ((bs (joinedS l)).extract 0 cn) w5 (by rw [hexs]; omega)
                    unfold AllGives at hal
                    rw [hext, show joinedS l = joined (l.map lb) from rfl, hfc.1, hfc.2] at hal
                    rw [show joined (l.map lb) = joinedS l from rfl] at hal
                    have hmm : ((l.map lb).take t).map bs = l.take t := by rw [List.map_take, HMM.out]
                    have hlt' : ((l.map lb).take t).length = t := by rw [List.length_take, List.length_map, HLA.out]; omega
                    have hlx : ((joinedS l).take cn).length = cn := by rw [List.length_take]; omega
                    rw [hmm, hlt', hlx] at hal
                    have HAL := Lib.hid hal
                    have hwh := fun W => whole_any ((bs (joinedS l)).extract 0 cn) W (by rw [hexs]; omega)
                    rw [hexs, hext, show joinedS l = joined (l.map lb) from rfl, hfc.2] at hwh
                    rw [show joined (l.map lb) = joinedS l from rfl] at hwh
                    have HWH := Lib.hid hwh
                    obtain ⟨hcu, hru⟩ := cut_upto (c := c) (P := Try.prog) (t := 23) Try.underlying23 (fun _ => by kernel_rfl) (ha.below hbw5) t ht hnc
                    have hsl := fun W => hcu t W rfl
                    rw [cellsS_take] at hru
                    have HRU := Lib.hid hru
                    have hq1 : (((cn : Int) - (endsAt l t : Int)) == (cn : Int) - (endsAt l t : Int)) = true := beq_self_eq_true _
                    have hq2 : (((endsAt l t : Int) == (cn : Int)) == (((cn : Int) - (endsAt l t : Int)) == 0)) = true := by
                      rw [beq_iff_eq, Bool.eq_iff_iff, beq_iff_eq, beq_iff_eq]; omega
                    have HC1 := Lib.hid hc1
                    clear hc1 hgo hext hexs hea hfc hal hwh hmm hlt' hlx hlen hcu hru hre
                    have hsz5 : wr.heap.size ≤ w5.heap.size := Nat.le_trans hb2.size hb5'.size
                    by_cases hlt2 : t < j
                    · have g1 : w5.cell? ⟨b1, o1 + (t + 1), none⟩ = some (.int .i64 (endsAt l (t + 1) : Int)) := HC1.out (t + 1) _ (endsCells_at l j (t + 1) (by omega))
                      have hs2 := hstop hlt2
                      have hd1 : decide ((t : Int) < (j : Int)) = true := by simp; omega
                      have hd2 : decide ((endsAt l (t + 1) : Int) ≤ (cn : Int)) = false := by simp; omega
                      have e1 : ((t : Int) + 1).toNat = t + 1 := by omega
                      clear hstop HC1
                      go_wp2_with (first | (go_at_call 8; refine HAL.out.mono ?_; rintro e w6 ⟨A6, c6, rfl, hr6, hcc6, hb6⟩; have gt6 := (hb6.cell (p := ⟨b1, o1 + t, none⟩) (Nat.lt_of_lt_of_le hbl1 hsz5)).trans gt; have HS := Lib.hid (same_self (l.take t) A A6 t c c6 w.heap.size w6.heap.size w6 (HRU.out.below (hb6.mono hbw5.size)) hr6 (by omega))) | (go_at_call 10; refine HS.out.mono ?_; rintro e w4 ⟨rfl, q2, rfl⟩) | (go_at_call 12; refine (HWH.out _).mono ?_; rintro e w7 ⟨rfl, hb7⟩) | (go_at_call 7; refine (wakes_any _).mono ?_; rintro e w8 ⟨rfl, hb8⟩))
                      go_ret
                      have k6 := hbw5.trans (hb6.mono hbw5.size)
                      have k7 := below_drewN k6 q2
                      have k8 := k7.trans (hb7.mono k7.size)
                      exact ⟨rfl, k8.trans (hb8.mono k8.size)⟩
                    · have hd1 : decide ((t : Int) < (j : Int)) = false := by simp; omega
                      clear hstop HC1
                      go_wp2_with (first | (go_at_call 8; refine HAL.out.mono ?_; rintro e w6 ⟨A6, c6, rfl, hr6, hcc6, hb6⟩; have gt6 := (hb6.cell (p := ⟨b1, o1 + t, none⟩) (Nat.lt_of_lt_of_le hbl1 hsz5)).trans gt; have HS := Lib.hid (same_self (l.take t) A A6 t c c6 w.heap.size w6.heap.size w6 (HRU.out.below (hb6.mono hbw5.size)) hr6 (by omega))) | (go_at_call 10; refine HS.out.mono ?_; rintro e w4 ⟨rfl, q2, rfl⟩) | (go_at_call 12; refine (HWH.out _).mono ?_; rintro e w7 ⟨rfl, hb7⟩) | (go_at_call 7; refine (wakes_any _).mono ?_; rintro e w8 ⟨rfl, hb8⟩))
                      go_ret
                      have k6 := hbw5.trans (hb6.mono hbw5.size)
                      have k7 := below_drewN k6 q2
                      have k8 := k7.trans (hb7.mono k7.size)
                      exact ⟨rfl, k8.trans (hb8.mono k8.size)⟩
end Go.Proofs.Ytlojphajdefkdaa
