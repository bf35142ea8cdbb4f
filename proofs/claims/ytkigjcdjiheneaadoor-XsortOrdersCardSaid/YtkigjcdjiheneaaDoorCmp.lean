/- What xsort.Order's comparison calls: numbers and texts compared. No condition but that a text is no longer than an int holds. -/
import Derived.Test.YtkigjcdjiheneaaDoorShelf
import Derived.Test.YtkigjcdjiheneaaDoorAid
import Derived.WalkKit
import Derived.WalkSpells
import Derived.WalkLawsBesides
import Derived.Deep.QuietTactic
import Derived.BigQuiet
import Derived.BigRegion
import Derived.Handy
namespace Go.Proofs.YtkigjcdjiheneaaDoor
open Go.RowKit Go.Sten

/-- where a kind of numbers stands -/
def pl (k : Int) : Int := if k ≤ 0 then 2 else if k = 1 then 0 else if k = 2 then 3 else 1

theorem place_idx (k : Int) (W : World) : (Instr.index 135 (.agg #[.int .i64 2, .int .i64 0, .int .i64 3, .int .i64 1]) (.int .i64 (min (max k 0) 3))).run Tryd.prog W = .ok (.int .i64 (pl k)) W := by
  have i0 : (Instr.index 135 (.agg #[.int .i64 2, .int .i64 0, .int .i64 3, .int .i64 1]) (.int .i64 0)).run Tryd.prog W = .ok (.int .i64 2) W := by kernel_rfl
  have i1 : (Instr.index 135 (.agg #[.int .i64 2, .int .i64 0, .int .i64 3, .int .i64 1]) (.int .i64 1)).run Tryd.prog W = .ok (.int .i64 0) W := by kernel_rfl
  have i2 : (Instr.index 135 (.agg #[.int .i64 2, .int .i64 0, .int .i64 3, .int .i64 1]) (.int .i64 2)).run Tryd.prog W = .ok (.int .i64 3) W := by kernel_rfl
  have i3 : (Instr.index 135 (.agg #[.int .i64 2, .int .i64 0, .int .i64 3, .int .i64 1]) (.int .i64 3)).run Tryd.prog W = .ok (.int .i64 1) W := by kernel_rfl
  unfold pl
  by_cases h0 : k ≤ 0
  · rw [if_pos h0, show min (max k 0) 3 = 0 by omega]; exact i0
  · by_cases h1 : k = 1
    · rw [if_neg h0, if_pos h1, show min (max k 0) 3 = 1 by omega]; exact i1
    · by_cases h2 : k = 2
      · rw [if_neg h0, if_neg h1, if_pos h2, show min (max k 0) 3 = 2 by omega]; exact i2
      · rw [if_neg h0, if_neg h1, if_neg h2, show min (max k 0) 3 = 3 by omega]; exact i3

set_option maxHeartbeats 400000 in
theorem place_any (k v : Int) (w : World) :
    Calls Tryd.prog 86 #[.agg #[.int .i64 k, .int .i64 v]] w fun e w' => e = .returned (.tuple #[.int .i64 (pl k), .int .i64 v]) ∧ Gw w w' := by
  go_enter Tryd.func86, Tryd.ntmps86
  have hidx := fun W => place_idx k W
  go_wp2_with fail
  go_region
  all_goals go_wp2
  all_goals go_ret2
  all_goals exact ⟨rfl, ((Gw.refl w).alloc _).drew⟩

set_option maxHeartbeats 400000 in
theorem cmp64 (x y : Int) (w : World) :
    Calls Tryd.prog 89 #[.int .i64 x, .int .i64 y] w fun e w' => e = .returned (.int .i64 (Lib.compareInt x y)) ∧ w = w' := by
  by_cases h1 : x < y
  · have e : Lib.compareInt x y = -1 := by simp [Lib.compareInt, h1]
    rw [e]
    clear e
    go_enter Tryd.func89, Tryd.ntmps89
    go_wp2
    go_ret
    exact ⟨rfl, rfl⟩
  · by_cases h2 : y < x
    · have e : Lib.compareInt x y = 1 := by simp [Lib.compareInt, h1, h2]
      rw [e]
      clear e
      go_enter Tryd.func89, Tryd.ntmps89
      go_wp2
      go_ret
      exact ⟨rfl, rfl⟩
    · have e : Lib.compareInt x y = 0 := by simp [Lib.compareInt, h1, h2]
      rw [e]
      clear e
      go_enter Tryd.func89, Tryd.ntmps89
      go_wp2
      go_ret
      exact ⟨rfl, rfl⟩

set_option maxHeartbeats 400000 in
theorem or_any (x y : Int) (b : Nat) (w : World) (c0 : w.cell? ⟨b, 0, none⟩ = some (.int .i64 x)) (c1 : w.cell? ⟨b, 1, none⟩ = some (.int .i64 y)) :
    Calls Tryd.prog 87 #[.slice (some ⟨b, 0, none⟩) 2 2] w fun e w' => e = .returned (.int .i64 (if x = 0 then y else x)) ∧ w = w' := by
  by_cases hx : x = 0
  · subst hx
    by_cases hy : y = 0
    · subst hy
      go_enter Tryd.func87, Tryd.ntmps87
      go_wp2
      refine wp_loop_rounds 3 ?_
      rw [rounds_succ]
      go_wp2
      rw [rounds_succ]
      go_wp2
      rw [rounds_succ]
      go_wp2
      go_ret
      exact ⟨rfl, rfl⟩
    · have hy2 : (y != 0) = true := by simp [hy]
      go_enter Tryd.func87, Tryd.ntmps87
      go_wp2
      refine wp_loop_rounds 3 ?_
      rw [rounds_succ]
      go_wp2
      rw [rounds_succ]
      go_wp2
      go_ret
      exact ⟨rfl, rfl⟩
  · have hx2 : (x != 0) = true := by simp [hx]
    go_enter Tryd.func87, Tryd.ntmps87
    go_wp2
    refine wp_loop_rounds 3 ?_
    rw [rounds_succ]
    go_wp2
    go_ret
    exact ⟨rfl, rfl⟩

/-- two numbers compared, of whatever kinds: below 0, 0, above 0 -/
def ordN (k v k' v' : Int) : Int := if Lib.compareInt (pl k) (pl k') = 0 then Lib.compareInt v v' else Lib.compareInt (pl k) (pl k')

set_option maxHeartbeats 400000 in
theorem order_any (k v k' v' : Int) (w : World) :
    Calls Tryd.prog 66 #[.agg #[.int .i64 k, .int .i64 v], .agg #[.int .i64 k', .int .i64 v']] w fun e w' => e = .returned (.int .i64 (ordN k v k' v')) ∧ Gw w w' := by
  have c1 := fun W => place_any k v W
  have c2 := fun W => place_any k' v' W
  have c3 := fun W => Tryd.cmp_Compare_int (pl k) (pl k') W
  have c4 := fun W => cmp64 v v' W
  unfold ordN
  obtain ⟨x, hx⟩ : ∃ x, x = Lib.compareInt (pl k) (pl k') := ⟨_, rfl⟩
  obtain ⟨y, hy⟩ : ∃ y, y = Lib.compareInt v v' := ⟨_, rfl⟩
  rw [← hx] at c3 ⊢
  rw [← hy] at c4 ⊢
  clear hx hy
  go_enter Tryd.func66, Tryd.ntmps66
  go_wp2_with fail
  refine (c1 _).mono ?_
  rintro e w1 ⟨rfl, g1⟩
  have hc : w1.cell? ⟨w.heap.size + 1, 0, none⟩ = some (.int .i64 k') := (g1.cell (by simp)).trans (by simp)
  have hc2 : w1.cell? ⟨w.heap.size + 1, 1, none⟩ = some (.int .i64 v') := (g1.cell (by simp)).trans (by simp)
  go_wp2_with fail
  refine (c2 _).mono ?_
  rintro e w2 ⟨rfl, g2⟩
  go_wp2_with fail
  refine (c3 _).mono ?_
  rintro e w3 ⟨rfl, rfl⟩
  go_wp2_with fail
  refine (c4 _).mono ?_
  rintro e w4 ⟨rfl, rfl⟩
  go_wp2_with fail
  refine (or_any x y _ _ (by simp) (by simp)).mono ?_
  rintro e w5 ⟨rfl, rfl⟩
  go_wp2_with fail
  all_goals go_ret
  all_goals exact ⟨rfl, (((((Gw.refl w).alloc _).alloc _).trans g1).trans g2).alloc _⟩

def lessN (k v k' v' : Int) : Bool := decide (ordN k v k' v' < 0)
set_option maxHeartbeats 400000 in
theorem less_any (k v k' v' : Int) (w : World) :
    Calls Tryd.prog 48 #[.agg #[.int .i64 k, .int .i64 v], .agg #[.int .i64 k', .int .i64 v']] w fun e w' => e = .returned (.bool (lessN k v k' v')) ∧ Gw w w' := by
  have c1 := fun W => order_any k v k' v' W
  unfold lessN
  obtain ⟨x, hx⟩ : ∃ x, x = ordN k v k' v' := ⟨_, rfl⟩
  rw [← hx] at c1 ⊢
  clear hx
  go_enter Tryd.func48, Tryd.ntmps48
  go_wp2_with fail
  refine (c1 _).mono ?_
  rintro e w1 ⟨rfl, g1⟩
  go_wp2_with fail
  go_ret
  exact ⟨rfl, ((((Gw.refl w).alloc _).alloc _).trans g1)⟩

/-- -1, 0, 1 -/
def numN (k v k' v' : Int) : Int := if lessN k v k' v' = true then -1 else if lessN k' v' k v = true then 1 else 0
set_option maxHeartbeats 400000 in
theorem numbers_any (k v k' v' : Int) (w : World) :
    Calls Tryd.prog 29 #[.agg #[.int .i64 k, .int .i64 v], .agg #[.int .i64 k', .int .i64 v']] w fun e w' => e = .returned (.int .i64 (numN k v k' v')) ∧ Gw w w' := by
  have c1 := fun W => less_any k v k' v' W
  have c2 := fun W => less_any k' v' k v W
  unfold numN
  obtain ⟨x, hx⟩ : ∃ x, x = lessN k v k' v' := ⟨_, rfl⟩
  obtain ⟨y, hy⟩ : ∃ y, y = lessN k' v' k v := ⟨_, rfl⟩
  rw [← hx] at c1 ⊢
  rw [← hy] at c2 ⊢
  clear hx hy
  cases x with
  | true =>
    rw [if_pos rfl]
    go_enter Tryd.func29, Tryd.ntmps29
    go_wp2_with fail
    refine (c1 _).mono ?_
    rintro e w1 ⟨rfl, g1⟩
    go_wp2_with fail
    go_ret
    exact ⟨rfl, ((((Gw.refl w).alloc _).alloc _).trans g1)⟩
  | false =>
    rw [if_neg (by simp)]
    cases y with
    | true =>
      rw [if_pos rfl]
      go_enter Tryd.func29, Tryd.ntmps29
      go_wp2_with fail
      refine (c1 _).mono ?_
      rintro e w1 ⟨rfl, g1⟩
      have h1 : w1.cell? ⟨w.heap.size, 0, none⟩ = some (.int .i64 k) := (g1.cell (by simp; omega)).trans (by simp)
      have h2 : w1.cell? ⟨w.heap.size, 1, none⟩ = some (.int .i64 v) := (g1.cell (by simp; omega)).trans (by simp)
      have h3 : w1.cell? ⟨w.heap.size + 1, 0, none⟩ = some (.int .i64 k') := (g1.cell (by simp)).trans (by simp)
      have h4 : w1.cell? ⟨w.heap.size + 1, 1, none⟩ = some (.int .i64 v') := (g1.cell (by simp)).trans (by simp)
      go_wp2_with fail
      refine (c2 _).mono ?_
      rintro e w2 ⟨rfl, g2⟩
      go_wp2_with fail
      go_ret
      exact ⟨rfl, ((((Gw.refl w).alloc _).alloc _).trans g1).trans g2⟩
    | false =>
      rw [if_neg (by simp)]
      go_enter Tryd.func29, Tryd.ntmps29
      go_wp2_with fail
      refine (c1 _).mono ?_
      rintro e w1 ⟨rfl, g1⟩
      have h1 : w1.cell? ⟨w.heap.size, 0, none⟩ = some (.int .i64 k) := (g1.cell (by simp; omega)).trans (by simp)
      have h2 : w1.cell? ⟨w.heap.size, 1, none⟩ = some (.int .i64 v) := (g1.cell (by simp; omega)).trans (by simp)
      have h3 : w1.cell? ⟨w.heap.size + 1, 0, none⟩ = some (.int .i64 k') := (g1.cell (by simp)).trans (by simp)
      have h4 : w1.cell? ⟨w.heap.size + 1, 1, none⟩ = some (.int .i64 v') := (g1.cell (by simp)).trans (by simp)
      go_wp2_with fail
      refine (c2 _).mono ?_
      rintro e w2 ⟨rfl, g2⟩
      go_wp2_with fail
      go_ret
      exact ⟨rfl, ((((Gw.refl w).alloc _).alloc _).trans g1).trans g2⟩

/-- texts compared, byte by byte -/
def cmpS (a b : ByteArray) : Int := if Op.bytesLess a.toList b.toList = true then -1 else if (a.toList == b.toList) = true then 0 else 1
set_option maxHeartbeats 400000 in
theorem cmpS_any (a b : ByteArray) (w : World) :
    Calls Tryd.prog 28 #[.string a, .string b] w fun e w' => e = .returned (.int .i64 (cmpS a b)) ∧ w = w' := by
  unfold cmpS
  cases h1 : Op.bytesLess a.toList b.toList with
  | true =>
    rw [if_pos rfl]
    go_enter Tryd.func28, Tryd.ntmps28
    go_wp2
    go_ret
    exact ⟨rfl, rfl⟩
  | false =>
    rw [if_neg (by simp)]
    cases h2 : (a.toList == b.toList) with
    | true =>
      rw [if_pos rfl]
      go_enter Tryd.func28, Tryd.ntmps28
      go_wp2
      go_ret
      exact ⟨rfl, rfl⟩
    | false =>
      rw [if_neg (by simp)]
      go_enter Tryd.func28, Tryd.ntmps28
      go_wp2
      go_ret
      exact ⟨rfl, rfl⟩
end Go.Proofs.YtkigjcdjiheneaaDoor
