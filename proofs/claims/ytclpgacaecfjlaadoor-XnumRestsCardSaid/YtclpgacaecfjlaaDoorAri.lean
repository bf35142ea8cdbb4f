/- Sums, products, quotients, rests, and whole numbers, by their contracts. -/
import Derived.Test.YtclpgacaecfjlaaDoorSml
import Derived.Test.YtclpgacaecfjlaaDoorSpl
import Derived.Test.YtclpgacaecfjlaaDoorShelf
import Derived.Deep.RegionHeld3
import Derived.Deep.DeepCutAuto
import Derived.Outline
namespace Go.Proofs.YtclpgacaecfjlaaDoor
open Go.RowKit Go.Sten Go.Lib

/-- the sum -/
def addN (k v k' v' : Int) : Int × Int :=
  if k = 1 ∨ k' = 1 then (1, 0) else if k = 0 ∧ k' = 0 then (finK (wrap64 (v + v')).natAbs (decide (wrap64 (v + v') < 0)), finV (wrap64 (v + v')).natAbs (decide (wrap64 (v + v') < 0)))
  else if k = 0 then (k', v') else if k' = 0 ∨ k = k' then (k, v) else (1, 0)

set_option maxHeartbeats 1600000 in
set_option maxRecDepth 100000 in
theorem add_any (k v k' v' : Int) (w : World) :
    Calls Tryd.prog 12 #[.agg #[.int .i64 k, .int .i64 v], .agg #[.int .i64 k', .int .i64 v']] w fun e w' => e = .returned (.agg #[.int .i64 (addN k v k' v').1, .int .i64 (addN k v k' v').2]) ∧ Gw w w' := by
  have fin : ∀ x y : Int, addN k v k' v' = (x, y) → ∀ (e : Ending) (w' : World), e = .returned (.agg #[.int .i64 x, .int .i64 y]) ∧ Gw w w' → e = .returned (.agg #[.int .i64 (addN k v k' v').1, .int .i64 (addN k v k' v').2]) ∧ Gw w w' := fun x y h e w' ⟨h1, h2⟩ => ⟨by rw [h, h1], h2⟩
  by_cases h1 : k = 1
  · refine Calls.mono ?_ (fin 1 0 (by simp [addN, h1]))
    clear fin
    subst h1
    go_enter Tryd.func12, Tryd.ntmps12
    go_wp2_with fail
    refine (nan_any _).mono ?_
    rintro _ w1 ⟨rfl, g1⟩
    obtain ⟨s0, s1⟩ := (Box2.put (g1.res3))
    obtain ⟨r0, r1, r2, r3, r4⟩ := g1.res3
    go_wp2_with fail
    refine bodyPost_ret (v := .agg #[.int .i64 1, .int .i64 0]) (by simp [results, Tryd.results12, go_sem, s0, s1]) rfl ?_
    exact ⟨rfl, g1.was3.put2 _ (by omega) _ _⟩
  by_cases h2 : k' = 1
  · refine Calls.mono ?_ (fin 1 0 (by simp [addN, h2]))
    clear fin
    subst h2
    go_enter Tryd.func12, Tryd.ntmps12
    go_wp2_with fail
    refine (nan_any _).mono ?_
    rintro _ w1 ⟨rfl, g1⟩
    obtain ⟨s0, s1⟩ := (Box2.put (g1.res3))
    obtain ⟨r0, r1, r2, r3, r4⟩ := g1.res3
    go_wp2_with fail
    refine bodyPost_ret (v := .agg #[.int .i64 1, .int .i64 0]) (by simp [results, Tryd.results12, go_sem, s0, s1]) rfl ?_
    exact ⟨rfl, g1.was3.put2 _ (by omega) _ _⟩
  by_cases h3 : k = 0
  · by_cases h4 : k' = 0
    · obtain ⟨s, hs⟩ : ∃ s, s = wrap64 (v + v') := ⟨_, rfl⟩
      have hw : -9223372036854775808 ≤ s ∧ s ≤ 9223372036854775807 := by rw [hs]; unfold wrap64; omega
      refine Calls.mono ?_ (fin (finK s.natAbs (decide (s < 0))) (finV s.natAbs (decide (s < 0))) (by simp [addN, h3, h4, hs]))
      clear fin
      subst h3 h4
      have HS := hid hs
      have P := hid (fun W => parts_any 0 s W hw.1 hw.2)
      have HP : Aside (∀ W, Calls Tryd.prog 23 #[.agg #[.int .i64 0, .int .i64 (wrap64 (v + v'))]] W fun e w' => e = .returned (.tuple #[.int .u64 (s.natAbs : Int), .bool (decide (s < 0))]) ∧ Gw W w') := fun W => by rw [← hs]; exact P.out W
      clear hs hw P
      go_enter Tryd.func12, Tryd.ntmps12
      go_wp2_with fail
      refine (HP.out _).mono ?_
      rintro _ w1 ⟨rfl, g1⟩
      go_wp2_with fail
      refine (fin_any _ _ _).mono ?_
      rintro _ w2 ⟨rfl, g2⟩
      have g3 := ((Gw.refl _).alloc _).trans (g1.trans g2)
      obtain ⟨s0, s1⟩ := (Box2.put (g3.res3))
      obtain ⟨r0, r1, r2, r3, r4⟩ := g3.res3
      clear g1 g2
      go_wp2_with fail
      refine bodyPost_ret (v := .agg #[.int .i64 (finK s.natAbs (decide (s < 0))), .int .i64 (finV s.natAbs (decide (s < 0)))]) (by simp [results, Tryd.results12, go_sem, s0, s1]) rfl ?_
      exact ⟨rfl, g3.was3.put2 _ (by omega) _ _⟩
    · refine Calls.mono ?_ (fin k' v' (by simp [addN, h2, h3, h4]))
      clear fin
      subst h3
      go_enter Tryd.func12, Tryd.ntmps12
      go_wp2_with fail
      go_returns
      exact ⟨rfl, (((Gw.refl w).alloc _).alloc _).alloc _⟩
  · by_cases h4 : k' = 0
    · refine Calls.mono ?_ (fin k v (by simp [addN, h1, h3, h4]))
      clear fin
      subst h4
      go_enter Tryd.func12, Tryd.ntmps12
      go_wp2_with fail
      go_returns
      exact ⟨rfl, (((Gw.refl w).alloc _).alloc _).alloc _⟩
    · by_cases h5 : k = k'
      · refine Calls.mono ?_ (fin k v (by simp [addN, h2, h4, h5]))
        clear fin
        subst h5
        go_enter Tryd.func12, Tryd.ntmps12
        go_wp2_with fail
        go_returns
        exact ⟨rfl, (((Gw.refl w).alloc _).alloc _).alloc _⟩
      · refine Calls.mono ?_ (fin 1 0 (by simp [addN, h1, h2, h3, h4, h5]))
        clear fin
        have h6 : (k == k') = false := by simp [h5]
        have t1 : (k == 1) = false := by simp [h1]
        have t2 : (k' == 1) = false := by simp [h2]
        have t3 : (k == 0) = false := by simp [h3]
        have t4 : (k' == 0) = false := by simp [h4]
        go_enter Tryd.func12, Tryd.ntmps12
        go_wp2_with fail
        refine (nan_any _).mono ?_
        rintro _ w1 ⟨rfl, g1⟩
        obtain ⟨s0, s1⟩ := (Box2.put (g1.res3))
        obtain ⟨r0, r1, r2, r3, r4⟩ := g1.res3
        go_wp2_with fail
        refine bodyPost_ret (v := .agg #[.int .i64 1, .int .i64 0]) (by simp [results, Tryd.results12, go_sem, s0, s1]) rfl ?_
        exact ⟨rfl, g1.was3.put2 _ (by omega) _ _⟩

set_option maxHeartbeats 1600000 in
set_option maxRecDepth 100000 in
theorem sub_any (k v k' v' : Int) (w : World) :
    Calls Tryd.prog 14 #[.agg #[.int .i64 k, .int .i64 v], .agg #[.int .i64 k', .int .i64 v']] w fun e w' => e = .returned (.agg #[.int .i64 (addN k v (negK k') (negV k' v')).1, .int .i64 (addN k v (negK k') (negV k' v')).2]) ∧ Gw w w' := by
  go_enter Tryd.func14, Tryd.ntmps14
  go_wp2_with fail
  go_region_with (first
    | (with_reducible refine (neg_any _ _ _).mono ?_
       rintro _ w1 ⟨rfl, g1⟩
       have g1' := g1.undrew
       obtain ⟨a0, a1, a2, a3, a4⟩ := g1'.fst3)
    | (with_reducible refine (add_any _ _ _ _ _).mono ?_
       rintro _ w2 ⟨rfl, g2⟩
       have g3 := g1'.trans g2
       obtain ⟨s0, s1⟩ := Box2.put (g3.res3)
       obtain ⟨r0, r1, r2, r3, r4⟩ := g3.res3))
  all_goals go_wp2_with fail
  all_goals refine bodyPost_ret (v := .agg #[.int .i64 (addN k v (negK k') (negV k' v')).1, .int .i64 (addN k v (negK k') (negV k' v')).2]) (by simp [results, Tryd.results14, go_sem, s0, s1]) rfl ?_
  all_goals exact ⟨rfl, g3.was3.put2 _ (by omega) _ _⟩

end Go.Proofs.YtclpgacaecfjlaaDoor
