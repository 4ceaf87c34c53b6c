/-
  The statement FrameMore: its walk.
-/
import Derived.Test.YtlojphajdefkdaaFrG
import Derived.Test.YtlojphajdefkdaaFrQ
namespace Go.Proofs.Ytlojphajdefkdaa
open Go.RowKit

/-- What frame.All gives, by its loads. -/
def AllGives (L : List UInt8) (w : World) (e : Ending) (w' : World) : Prop :=
  ∃ A c, e = .returned (.tuple #[.slice A (loadsFrom L 0).length c, .int .i64 ((L.length : Int) - (endFrom L 0 : Int))]) ∧ Reads w' w'.heap.size 1 A (loadsFrom L 0).length (cellsS ((loadsFrom L 0).map bs)) ∧ (loadsFrom L 0).length ≤ c ∧ Below w.heap.size w w'
theorem all_gives (s : ByteArray) (w : World) (hs : s.size ≤ 100000) : Calls Try.prog 8 #[.string s] w (AllGives (lb s) w) :=
  (all_any s w hs).mono fun e w' ⟨A, c, he, hr, hc, hb⟩ => ⟨A, c, by rw [he, length_loadsFrom]; rfl, by rw [length_loadsFrom]; simpa [loadsV, loadsFrom, cellsS, Function.comp_def] using hr, by rw [length_loadsFrom]; exact hc, hb⟩

theorem loads_len (L : List UInt8) : 4 * (loadsFrom L 0).length ≤ L.length := by
  have h1 := endFrom_sum L 0
  have h2 := (endFrom_le L 0 (Nat.zero_le _)).2
  have h3 : ∀ ls : List (List UInt8), 4 * ls.length ≤ sumLen ls := by
    intro ls
    induction ls with
    | nil => simp
    | cons x xs ih => simp only [List.length_cons, sumLen]; omega
  have := h3 (loadsFrom L 0)
  omega

theorem sumLen_take_le (ls : List (List UInt8)) (k : Nat) : sumLen (ls.take k) ≤ sumLen ls := by
  have := sumLen_append (ls.take k) (ls.drop k)
  rw [List.take_append_drop] at this
  omega
theorem sumLen_snoc (ls : List (List UInt8)) (k : Nat) (l : List UInt8) (h : ls[k]? = some l) : sumLen (ls.take (k + 1)) = sumLen (ls.take k) + 4 + l.length := by
  rw [List.take_add_one, h, sumLen_append]
  simp only [Option.toList_some, sumLen]
  omega

set_option maxRecDepth 100000 in
set_option maxHeartbeats 1000000 in
theorem more_walk (a0 a1 : ByteArray) (h0 : a0.size ≤ 140737488351232) (h1 : a1.size ≤ 140737488351232) (w : World) :
    Calls Try.prog 3 #[.string a0, .string a1] w fun e w' => e = .returned (.bool true) ∧ Below w.heap.size w w' := by
  by_cases hbig : 6000 < a0.size + a1.size
  · have hd : decide ((6000 : Int) < (a0.size : Int) + (a1.size : Int)) = true := by simp; omega
    go_enter Try.func3, Try.ntmps3
    go_wp2_with (go_at_call 7; refine (wakes_any _).mono ?_; rintro e w' ⟨rfl, hb⟩)
    go_ret
    exact ⟨rfl, hb⟩
  · have hd : decide ((6000 : Int) < (a0.size : Int) + (a1.size : Int)) = false := by simp; omega
    have hle := loads_len (lb a1)
    have hel := endFrom_le (lb a1) 0 (Nat.zero_le _)
    have hsum := endFrom_sum (lb a1) 0
    rw [length_lb] at hle hel
    have HA := Lib.hid (all_gives a1 w (by omega))
    have HLB := Lib.hid (length_lb a1)
    go_enter Try.func3, Try.ntmps3
    go_wp2_with fail
    refine HA.out.mono ?_
    rintro e w1 ⟨A, c, rfl, hr, _, hb1⟩
    rw [HLB.out]
    clear HA
    generalize hLs : loadsFrom (lb a1) 0 = ls at *
    generalize hE : endFrom (lb a1) 0 = en at *
    have HLs := Lib.hid hLs
    have HE := Lib.hid hE
    have HSum := Lib.hid hsum
    have hsl : en = sumLen ls := by have := hsum; omega
    have hsle : ∀ k, sumLen (ls.take k) ≤ en := fun k => by rw [hsl]; exact sumLen_take_le ls k
    have HSL := Lib.hid hsl
    have HSLE := Lib.hid hsle
    clear hLs hE hsum hsl hsle
    go_wp2
    go_loop [7, 8] (fun n i => ∃ k : Nat, k ≤ ls.length ∧ i = .int .i64 k ∧ n = .int .i64 ((a1.size : Int) - (en : Int) + (sumLen (ls.take k) : Int))) (fun _ i => ls.length - (intOf i).toNat)
    case atStart => exact ⟨0, Nat.zero_le _, rfl, by simp [sumLen]⟩
    case round =>
      obtain ⟨k, hk, rfl, rfl⟩ := hrel
      by_cases hlt : k < ls.length
      · obtain ⟨b, off, rfl, _, hc⟩ := hr.plain (by omega)
        obtain ⟨l, hl⟩ : ∃ l, ls[k]? = some l := ⟨_, List.getElem?_eq_getElem hlt⟩
        have hck := hc k _ (by rw [getElem?_cellsS, List.getElem?_map, hl]; rfl)
        have hss := size_bs l
        have hsn := sumLen_snoc ls k l hl
        have h2 := HSLE.out (k + 1)
        rw [hsn] at h2
        have HSN := Lib.hid hsn
        have hd2 : decide ((k : Int) < (ls.length : Int)) = true := by simp; omega
        clear hsn hl hc hr
        go_wp2
        go_round
        case rel => exact ⟨k + 1, by omega, by go_num, by rw [HSN.out]; go_num⟩
        case measure => simp [intOf]; omega
      · obtain rfl : k = ls.length := by omega
        have hd2 : decide ((ls.length : Int) < (ls.length : Int)) = false := by simp
        have htot : (a1.size : Int) - (en : Int) + (sumLen (ls.take ls.length) : Int) = a1.size := by
          rw [List.take_length, ← HSL.out]; omega
        rw [htot]
        clear htot
        by_cases hlong : a0.size ≤ 1024
        · have hby := bytes_ok a0 w1 hlong
          have HBy := Lib.hid hby
          clear hby
          have hsb : (bs (headOf a0.size ++ lb a0)).size ≤ 1028 := by rw [size_bs, List.length_append, length_lb]; show 4 + a0.size ≤ 1028; omega
          go_wp2_with (go_at_call 9; refine HBy.out.mono ?_; rintro e w2 ⟨rfl, hb2⟩)
          have hlb : lb (bs (headOf a0.size ++ lb a0) ++ a1) = headOf (lb a0).length ++ lb a0 ++ lb a1 := by rw [lb_append, lb_bs, length_lb]
          have hfr := from_framed (lb a0) (lb a1) (by rw [length_lb]; exact hlong)
          rw [← hlb, HLs.out, HE.out, length_lb] at hfr
          have hln : (lb (bs (headOf a0.size ++ lb a0) ++ a1)).length = 4 + a0.size + a1.size := by rw [hlb]; simp only [List.length_append, length_lb]; rfl
          have hsz : (bs (headOf a0.size ++ lb a0) ++ a1).size = 4 + a0.size + a1.size := by rw [← length_lb, hln]
          refine (all_gives _ w2 (by rw [hsz]; omega)).mono ?_
          rintro e w3 ⟨A2, c2, rfl, hr2, hcc, hb3⟩
          rw [hfr.1] at hr2 hcc
          rw [hfr.1, hfr.2, hln]
          simp only [List.map_cons, bs_lb, List.length_cons] at hr2 hcc
          simp only [List.length_cons]
          clear hlb hfr hln hsz HBy hsb
          obtain ⟨b, off, rfl, hbl, hc⟩ := hr2.plain (by omega)
          have hc0 := hc 0 _ rfl
          rw [Nat.add_zero] at hc0
          obtain ⟨A3, hcut, hr3⟩ := cut_from (c := c2) (P := Try.prog) (t := 23) Try.underlying23 (fun _ => by kernel_rfl) hr2 1 (by omega) hcc
          have hsl := fun W => hcut 1 W rfl
          have hlast : ((4 + (a0.size : Int) + (a1.size : Int) - (4 + (a0.size : Int) + (en : Int))) == (a1.size : Int) - (en : Int)) = true := beq_iff_eq.2 (by omega)
          rw [Nat.add_sub_cancel] at hsl hr3
          have hr4 : Reads w3 w3.heap.size 1 A3 ls.length (cellsS (ls.map bs)) := by simpa [cellsS] using hr3
          have HR3 := Lib.hid hr4
          clear hr4
          have hra := hr.below hb2
          have hrb : Reads w3 w1.heap.size 1 A ls.length (cellsS (ls.map bs)) := hra.below (hb3.mono hb2.size)
          have HRB := Lib.hid hrb
          have HSM := Lib.hid (same_any (ls.map bs) (ls.map bs) A3 A ls.length ls.length (c2 - 1) c w3.heap.size w1.heap.size w3 HR3.out hrb (by omega) (by omega))
          clear hcut hr3 hra hrb hr2
          have hcast : ((ls.length + 1 : Nat) : Int) = (ls.length : Int) + 1 := by omega
          have hq1 : (((ls.length + 1 : Nat) : Int) == (ls.length : Int) + 1) = true := beq_iff_eq.2 hcast
          have hq2 : (a0.toList == a0.toList) = true := beq_self_eq_true _
          clear hc hcast
          go_wp2_with (first | (go_at_call 10; refine HSM.out.mono ?_; rw [decide_eq_true rfl]; rintro e w4 ⟨rfl, q, rfl⟩) | (go_at_call 7; refine (wakes_any _).mono ?_; rintro e w5 ⟨rfl, hb5⟩))
          go_ret
          refine ⟨rfl, ?_⟩
          have k2 := hb1.trans (hb2.mono hb1.size)
          have k3 := k2.trans (hb3.mono k2.size)
          have k4 := below_drewN k3 q
          exact k4.trans (hb5.mono k4.size)
        · have hby := bytes_long a0 w1 (by unfold maxLen; omega) (by omega)
          have HBy := Lib.hid hby
          clear hby
          go_wp2_with (first | (go_at_call 9; refine HBy.out.mono ?_; rintro e w2 ⟨rfl, hb2⟩) | (go_at_call 7; refine (wakes_any _).mono ?_; rintro e w3 ⟨rfl, hb3⟩))
          go_ret
          refine ⟨rfl, ?_⟩
          have k2 := hb1.trans (hb2.mono hb1.size)
          exact k2.trans (hb3.mono k2.size)
end Go.Proofs.Ytlojphajdefkdaa
