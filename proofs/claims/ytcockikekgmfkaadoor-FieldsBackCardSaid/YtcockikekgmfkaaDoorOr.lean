/-
  A region that draws its order, by its orders: all of them are listed, and each is walked as a plain region is (what a guard leaves out is left out).
-/
import Derived.Orders
import Derived.Tactics
import Derived.WalkKit
namespace Go.Proofs.YtcockikekgmfkaaDoor
open Go.RowKit

/-- All orders that a region's edges allow. -/
def ordersAll (md : Region.Mode) (ops : Array Oper) : Nat → Array Bool → List (List Nat)
  | 0, _ => [[]]
  | fuel + 1, listed =>
    match Region.ready md ops listed with
    | [] => [[]]
    | r :: rs => (r :: rs).flatMap fun i => (ordersAll md ops fuel (listed.setIfInBounds i true)).map (i :: ·)
theorem order_mem (md : Region.Mode) (ops : Array Oper) : ∀ (fuel t : Nat) (listed : Array Bool), Region.linearise.go md ops fuel t listed [] ∈ ordersAll md ops fuel listed := by
  intro fuel
  induction fuel with
  | zero => intro t listed; simp [Region.linearise.go, ordersAll]
  | succ fuel ih =>
    intro t listed
    simp only [Region.linearise.go, ordersAll]
    change (match (Region.ready md ops listed)[t % (Region.ready md ops listed).length]? with
      | some i => Region.linearise.go md ops fuel (t / (Region.ready md ops listed).length) (listed.setIfInBounds i true) [i]
      | none => [].reverse) ∈ _
    cases hr : Region.ready md ops listed with
    | nil => simp
    | cons x xs =>
      have hlt : t % (x :: xs).length < (x :: xs).length := Nat.mod_lt _ (by simp)
      rw [List.getElem?_eq_getElem hlt]
      simp only
      rw [linearise_go_acc, List.reverse_singleton, List.singleton_append]
      exact List.mem_flatMap.2 ⟨_, List.getElem_mem hlt, List.mem_map.2 ⟨_, ih _ _, rfl⟩⟩
theorem wpOps_pick {P : Program} {Q : Exit → Act → World → Prop} (l : List Oper) : ∀ (o : List Nat) (a : Act) (w : World), wpList P l.toArray Q (o.filterMap (l[·]?)) a w → wpOps P l.toArray Q o a w
  | [], _, _, h => h
  | i :: o, a, w, h => by
    rw [wpOps_cons]
    unfold wpOp
    rw [List.getElem?_toArray]
    cases hi : l[i]? with
    | none =>
      rw [List.filterMap_cons_none hi] at h
      exact wpOps_pick l o a w h
    | some x =>
      rw [List.filterMap_cons_some hi] at h
      simp only
      unfold wpList at h
      split
      · rename_i hw
        rw [if_pos hw] at h
        exact h.imp (Oper.wp_mono (fun a w => wpOps_pick l o a w)) id
      · rename_i hw
        rw [if_neg hw] at h
        exact wpOps_pick l o _ _ h
theorem wp_region_orders {P : Program} {id : Nat} {Q : Exit → Act → World → Prop} {a : Act} {w : World} {l : List Oper} (os : List (List Nat)) (hm : P.follows .mixedOrders = true)
    (ho : ordersAll .any l.toArray l.length (Array.replicate l.length false) = os) (h : ∀ o ∈ os, wpList P l.toArray Q (o.filterMap (l[·]?)) a w.drew) : (Code.region id l.toArray true).wp P Q a w :=
  wp_region_draw fun t => by
    simp only [Region.schedule, hm, Bool.true_or, if_true]
    have := order_mem .any l.toArray l.toArray.size t (Array.replicate l.toArray.size false)
    rw [show l.toArray.size = l.length from by simp] at this
    rw [ho] at this
    have h2 := wpOps_pick l _ a w.drew (h _ this)
    rw [show l.length = l.toArray.size from by simp] at h2
    exact h2

/-- What follows a part of a region. -/
def joinQ (Q : Exit → Act → World → Prop) (R : Act → World → Prop) : Exit → Act → World → Prop
  | .normal, a, w => R a w
  | e, a, w => Q e a w
theorem joinQ_normal {Q : Exit → Act → World → Prop} {R : Act → World → Prop} {a : Act} {w : World} (h : R a w) : joinQ Q R .normal a w := h
theorem Oper.wp_join {P : Program} {Q : Exit → Act → World → Prop} {R : Act → World → Prop} {o : Oper} {a : Act} {w : World} {K : Act → World → Prop} (h : o.wp P a w K (joinQ Q R)) : o.wp P a w K Q := by
  unfold Oper.wp at *
  generalize (execOp a.eval o).run P w = r at *
  cases r with
  | ok n w' =>
    cases n <;> simp only [Oper.upon] at h ⊢ <;>
      first
        | exact h
        | exact Calls.mono h (fun e w'' he => by cases e <;> exact he)
        | exact Rows.mono h (fun _ _ he => he)
  | halt x w' => cases x <;> simp only [Oper.upon] at h ⊢ <;> exact h
theorem wpList_join {P : Program} {ops : Array Oper} {Q : Exit → Act → World → Prop} {R : Act → World → Prop} (rest : List Oper) (hR : ∀ a w, R a w → wpList P ops Q rest a w) :
    ∀ (pre : List Oper) (a : Act) (w : World), wpList P ops (joinQ Q R) pre a w → wpList P ops Q (pre ++ rest) a w
  | [], a, w, h => hR a w h
  | o :: pre, a, w, h => by
    rw [List.cons_append]
    unfold wpList at h ⊢
    split
    · rename_i hw
      rw [if_pos hw] at h
      rcases h with h | h
      · exact .inl (Oper.wp_mono (fun a w => wpList_join rest hR pre a w) (Oper.wp_join h))
      · exact .inr h
    · rename_i hw
      rw [if_neg hw] at h
      exact wpList_join rest hR pre _ _ h
/-- A region that draws: its first operations in all their orders lead to one frame; what follows is walked once. -/
theorem wp_region_join {P : Program} {id : Nat} {Q : Exit → Act → World → Prop} {a : Act} {w : World} {l : List Oper} (pre : List (List Nat)) (rest : List Nat) (F : World → Prop) (a3 : Act) (hm : P.follows .mixedOrders = true)
    (ho : ordersAll .any l.toArray l.length (Array.replicate l.length false) = pre.map (· ++ rest))
    (h1 : ∀ o ∈ pre, wpList P l.toArray (joinQ Q fun a' w' => a' = a3 ∧ F w') (o.filterMap (l[·]?)) a w.drew)
    (h2 : ∀ w', F w' → wpList P l.toArray Q (rest.filterMap (l[·]?)) a3 w') : (Code.region id l.toArray true).wp P Q a w :=
  wp_region_orders _ hm ho fun o hm' => by
    obtain ⟨p, hp, rfl⟩ := List.mem_map.1 hm'
    rw [List.filterMap_append]
    exact wpList_join _ (fun a' w' ⟨ha, hw⟩ => by subst ha; exact h2 w' hw) _ _ _ (h1 p hp)
end Go.Proofs.YtcockikekgmfkaaDoor
