/- The small functions of xnum, by their contracts: nan, inf, fin, parts, sign, Neg. -/
import Derived.Test.YtclpgacaecfjlaaDoorAi2
import Derived.Test.YtclpgacaecfjlaaDoorProg
import Derived.WalkKit
import Derived.WalkSpells
import Derived.WalkLawsBesides
import Derived.Deep.QuietTactic
import Derived.BigQuiet
import Derived.BigRegion
import Derived.Handy
import Derived.Lib.Hide
namespace Go.Proofs.YtclpgacaecfjlaaDoor
open Go.RowKit Go.Sten Go.Lib

/-- a number -/
@[reducible] def nv (k v : Int) : Value := .agg #[.int .i64 k, .int .i64 v]

set_option maxHeartbeats 400000 in
theorem nan_any (w : World) : Calls Tryd.prog 21 #[] w fun e w' => e = .returned (.agg #[.int .i64 1, .int .i64 0]) ∧ Gw w w' := by
  go_enter Tryd.func21, Tryd.ntmps21
  go_wp2
  go_returns
  exact ⟨rfl, (Gw.refl w).alloc _⟩

def infK (b : Bool) : Int := if b then 3 else 2
set_option maxHeartbeats 400000 in
theorem inf_any (b : Bool) (w : World) : Calls Tryd.prog 27 #[.bool b] w fun e w' => e = .returned (.agg #[.int .i64 (infK b), .int .i64 0]) ∧ Gw w w' := by
  cases b
  all_goals go_enter Tryd.func27, Tryd.ntmps27
  all_goals go_wp2
  all_goals go_returns
  all_goals exact ⟨rfl, (Gw.refl w).alloc _⟩

/-- a number of so many millionths, and of a sign -/
def finK (n : Nat) (b : Bool) : Int := if 1000000000000000000 < n then infK b else 0
def finV (n : Nat) (b : Bool) : Int := if 1000000000000000000 < n then 0 else if b then -(n : Int) else n
set_option maxHeartbeats 400000 in
set_option maxRecDepth 100000 in
theorem fin_any (n : Nat) (b : Bool) (w : World) : Calls Tryd.prog 22 #[.int .u64 (n : Int), .bool b] w fun e w' => e = .returned (.agg #[.int .i64 (finK n b), .int .i64 (finV n b)]) ∧ Gw w w' := by
  by_cases h : 1000000000000000000 < n
  · have e1 : finK n b = infK b := if_pos h
    have e2 : finV n b = 0 := if_pos h
    rw [e1, e2]
    clear e1 e2
    go_enter Tryd.func22, Tryd.ntmps22
    go_wp2_with fail
    refine (inf_any b _).mono ?_
    rintro _ w1 ⟨rfl, g1⟩
    obtain ⟨c0, c1, f0, f1, hz, s0, s1⟩ := g1.res2 _ rfl
    go_wp2_with fail
    refine bodyPost_ret (v := .agg #[.int .i64 (infK b), .int .i64 0]) (by simp [results, Tryd.results22, go_sem, s0, s1]) rfl ?_
    exact ⟨rfl, (((Gw.refl w).alloc _).trans g1).put2 _ (Nat.le_refl _) _ _⟩
  · have e1 : finK n b = 0 := if_neg h
    have e2 : finV n b = if b then -(n : Int) else n := if_neg h
    rw [e1, e2]
    clear e1 e2
    cases b
    all_goals go_enter Tryd.func22, Tryd.ntmps22
    all_goals go_wp2_with fail
    all_goals go_returns
    all_goals exact ⟨rfl, (Gw.refl w).alloc _⟩

set_option maxHeartbeats 400000 in
set_option maxRecDepth 100000 in
theorem parts_any (k v : Int) (w : World) (h1 : -9223372036854775808 ≤ v) (h2 : v ≤ 9223372036854775807) :
    Calls Tryd.prog 23 #[.agg #[.int .i64 k, .int .i64 v]] w fun e w' => e = .returned (.tuple #[.int .u64 (v.natAbs : Int), .bool (decide (v < 0))]) ∧ Gw w w' := by
  by_cases h : v < 0
  · have e : decide (v < 0) = true := by simp [h]
    have e2 : IntKind.u64.wrap (-IntKind.u64.wrap v) = (v.natAbs : Int) := by rw [IntKind.wrap_u64, IntKind.wrap_u64]; omega
    rw [e, ← e2]
    have E2 := hid e2
    clear e e2
    go_enter Tryd.func23, Tryd.ntmps23
    go_wp2_with fail
    go_ret2
    exact ⟨rfl, (Gw.refl w).alloc _⟩
  · have e : decide (v < 0) = false := by simp [h]
    have e2 : v = (v.natAbs : Int) := by omega
    have E2 := hid e2
    rw [e]
    clear e e2
    go_enter Tryd.func23, Tryd.ntmps23
    go_wp2_with fail
    go_ret2
    exact ⟨by rw [← E2.out]; rfl, (Gw.refl w).alloc _⟩

def cmpI (x y : Int) : Int := if x < y then -1 else if y < x then 1 else 0
def sgnN (k v : Int) : Int := if k = 2 then 1 else if k = 3 then -1 else cmpI v 0
set_option maxHeartbeats 400000 in
theorem cmp64 (x y : Int) (w : World) :
    Calls Tryd.prog 35 #[.int .i64 x, .int .i64 y] w fun e w' => e = .returned (.int .i64 (cmpI x y)) ∧ w = w' := by
  by_cases h1 : x < y
  · have e : cmpI x y = -1 := by simp [cmpI, h1]
    rw [e]
    clear e
    go_enter Tryd.func35, Tryd.ntmps35
    go_wp2
    go_ret
    exact ⟨rfl, rfl⟩
  · by_cases h2 : y < x
    · have e : cmpI x y = 1 := by simp [cmpI, h1, h2]
      rw [e]
      clear e
      go_enter Tryd.func35, Tryd.ntmps35
      go_wp2
      go_ret
      exact ⟨rfl, rfl⟩
    · have e : cmpI x y = 0 := by simp [cmpI, h1, h2]
      rw [e]
      clear e
      go_enter Tryd.func35, Tryd.ntmps35
      go_wp2
      go_ret
      exact ⟨rfl, rfl⟩
set_option maxHeartbeats 400000 in
theorem sign_any (k v : Int) (w : World) :
    Calls Tryd.prog 24 #[.agg #[.int .i64 k, .int .i64 v]] w fun e w' => e = .returned (.int .i64 (sgnN k v)) ∧ Gw w w' := by
  by_cases h2 : k = 2
  · subst h2
    go_enter Tryd.func24, Tryd.ntmps24
    go_wp2_with fail
    go_ret
    exact ⟨rfl, (Gw.refl w).alloc _⟩
  · by_cases h3 : k = 3
    · subst h3
      go_enter Tryd.func24, Tryd.ntmps24
      go_wp2_with fail
      go_ret
      exact ⟨rfl, (Gw.refl w).alloc _⟩
    · have e : sgnN k v = cmpI v 0 := by simp [sgnN, h2, h3]
      rw [e]
      clear e
      go_enter Tryd.func24, Tryd.ntmps24
      go_wp2_with fail
      refine (cmp64 v 0 _).mono ?_
      rintro _ w1 ⟨rfl, rfl⟩
      go_wp2_with fail
      go_ret
      exact ⟨rfl, (Gw.refl w).alloc _⟩

def negK (k : Int) : Int := if k = 0 then 0 else if k = 2 then 3 else if k = 3 then 2 else 1
def negV (k v : Int) : Int := if k = 0 then wrap64 (-v) else 0
set_option maxHeartbeats 400000 in
theorem neg_any (k v : Int) (w : World) :
    Calls Tryd.prog 15 #[.agg #[.int .i64 k, .int .i64 v]] w fun e w' => e = .returned (.agg #[.int .i64 (negK k), .int .i64 (negV k v)]) ∧ Gw w w' := by
  by_cases h0 : k = 0
  · subst h0
    show Calls Tryd.prog 15 #[.agg #[.int .i64 0, .int .i64 v]] w fun e w' => e = .returned (.agg #[.int .i64 0, .int .i64 (wrap64 (-v))]) ∧ Gw w w'
    go_enter Tryd.func15, Tryd.ntmps15
    go_wp2_with fail
    go_returns
    exact ⟨rfl, ((Gw.refl w).alloc _).alloc _⟩
  · by_cases h2 : k = 2
    · subst h2
      go_enter Tryd.func15, Tryd.ntmps15
      go_wp2_with fail
      refine (inf_any true _).mono ?_
      rintro _ w1 ⟨rfl, g1⟩
      obtain ⟨c0, c1, f0, f1, hz, s0, s1⟩ := g1.res2 (w.heap.size + 1) (by simp)
      go_wp2_with fail
      refine bodyPost_ret (v := .agg #[.int .i64 3, .int .i64 0]) (by simp [results, Tryd.results15, go_sem, s0, s1, infK]) rfl ?_
      exact ⟨rfl, ((((Gw.refl w).alloc _).alloc _).trans g1).put2 _ (by omega) _ _⟩
    · by_cases h3 : k = 3
      · subst h3
        go_enter Tryd.func15, Tryd.ntmps15
        go_wp2_with fail
        refine (inf_any false _).mono ?_
        rintro _ w1 ⟨rfl, g1⟩
        obtain ⟨c0, c1, f0, f1, hz, s0, s1⟩ := g1.res2 (w.heap.size + 1) (by simp)
        go_wp2_with fail
        refine bodyPost_ret (v := .agg #[.int .i64 2, .int .i64 0]) (by simp [results, Tryd.results15, go_sem, s0, s1, infK]) rfl ?_
        exact ⟨rfl, ((((Gw.refl w).alloc _).alloc _).trans g1).put2 _ (by omega) _ _⟩
      · have e1 : negK k = 1 := by simp [negK, h0, h2, h3]
        have e2 : negV k v = 0 := by simp [negV, h0]
        rw [e1, e2]
        clear e1 e2
        go_enter Tryd.func15, Tryd.ntmps15
        go_wp2_with fail
        refine (nan_any _).mono ?_
        rintro _ w1 ⟨rfl, g1⟩
        obtain ⟨c0, c1, f0, f1, hz, s0, s1⟩ := g1.res2 (w.heap.size + 1) (by simp)
        go_wp2_with fail
        refine bodyPost_ret (v := .agg #[.int .i64 1, .int .i64 0]) (by simp [results, Tryd.results15, go_sem, s0, s1]) rfl ?_
        exact ⟨rfl, ((((Gw.refl w).alloc _).alloc _).trans g1).put2 _ (by omega) _ _⟩
end Go.Proofs.YtclpgacaecfjlaaDoor
