/- xnum's rests and whole numbers, by their contracts: Mod, Floor, Ceiling, Round, Int. -/
import Derived.Test.YtclpgacaecfjlaaDoorAri
namespace Go.Proofs.YtclpgacaecfjlaaDoor
open Go.RowKit Go.Sten Go.Lib

theorem tmod_ge (v d : Int) (h : 0 ≤ v) : v.tmod d = v % d := Int.tmod_eq_emod_of_nonneg h
theorem tmod_lt (v d : Int) (h : v < 0) : v.tmod d = -((-v) % d) := by
  rw [← tmod_ge (-v) d (by omega), Int.neg_tmod, Int.neg_neg]
/-- the rest is no greater than the number, and of its sign -/
theorem tmod_bd (v d : Int) : (0 ≤ v → 0 ≤ v.tmod d ∧ v.tmod d ≤ v) ∧ (v < 0 → v ≤ v.tmod d ∧ v.tmod d ≤ 0) := by
  have h := Int.natAbs_tmod v d
  have h2 : v.natAbs % d.natAbs ≤ v.natAbs := Nat.mod_le _ _
  refine ⟨fun h0 => ?_, fun h0 => ?_⟩
  · have := Int.tmod_nonneg (b := d) h0
    omega
  · have h3 := Int.tmod_nonneg (a := -v) (b := d) (by omega)
    rw [Int.neg_tmod] at h3
    omega

/-- the rest -/
def modN (k v k' v' : Int) : Int × Int :=
  if k ≠ 0 ∨ k' = 1 ∨ k' = 0 ∧ v' = 0 then (1, 0) else if k' ≠ 0 then (k, v) else (0, v.tmod v')

set_option maxHeartbeats 1600000 in
set_option maxRecDepth 100000 in
theorem mod_any (k v k' v' : Int) (w : World) (h1 : -9223372036854775808 ≤ v) (h2 : v ≤ 9223372036854775807) :
    Calls Tryd.prog 17 #[.agg #[.int .i64 k, .int .i64 v], .agg #[.int .i64 k', .int .i64 v']] w fun e w' => e = .returned (.agg #[.int .i64 (modN k v k' v').1, .int .i64 (modN k v k' v').2]) ∧ Gw w w' := by
  have fin : ∀ x y : Int, modN k v k' v' = (x, y) → ∀ (e : Ending) (w' : World), e = .returned (.agg #[.int .i64 x, .int .i64 y]) ∧ Gw w w' → e = .returned (.agg #[.int .i64 (modN k v k' v').1, .int .i64 (modN k v k' v').2]) ∧ Gw w w' := fun x y h e w' ⟨h1, h2⟩ => ⟨by rw [h, h1], h2⟩
  by_cases e1 : k = 0
  · have t1 : (k != 0) = false := by simp [e1]
    by_cases e2 : k' = 1
    · refine Calls.mono ?_ (fin 1 0 (by simp [modN, e2]))
      clear fin
      subst e2
      have t2 : ((1 : Int) == 1) = true := rfl
      go_enter Tryd.func17, Tryd.ntmps17
      go_wp2_with fail
      refine (nan_any _).mono ?_
      rintro _ w1 ⟨rfl, g1⟩
      obtain ⟨s0, s1⟩ := (Box2.put (g1.res3))
      obtain ⟨r0, r1, r2, r3, r4⟩ := g1.res3
      go_wp2_with fail
      refine bodyPost_ret (v := .agg #[.int .i64 1, .int .i64 0]) (by simp [results, Tryd.results17, go_sem, s0, s1]) rfl ?_
      exact ⟨rfl, g1.was3.put2 _ (by omega) _ _⟩
    · by_cases e3 : k' = 0
      · by_cases e4 : v' = 0
        · refine Calls.mono ?_ (fin 1 0 (by simp [modN, e3, e4]))
          clear fin
          subst e1 e3 e4
          go_enter Tryd.func17, Tryd.ntmps17
          go_wp2_with fail
          refine (nan_any _).mono ?_
          rintro _ w1 ⟨rfl, g1⟩
          obtain ⟨s0, s1⟩ := (Box2.put (g1.res3))
          obtain ⟨r0, r1, r2, r3, r4⟩ := g1.res3
          go_wp2_with fail
          refine bodyPost_ret (v := .agg #[.int .i64 1, .int .i64 0]) (by simp [results, Tryd.results17, go_sem, s0, s1]) rfl ?_
          exact ⟨rfl, g1.was3.put2 _ (by omega) _ _⟩
        · refine Calls.mono ?_ (fin 0 (v.tmod v') (by simp [modN, e1, e3, e4]))
          clear fin
          subst e1 e3
          have t2 : (v' == 0) = false := by simp [e4]
          have t3 : IntKind.i64.wrap (v.tmod v') = v.tmod v' := by
            rw [IntKind.wrap_i64]
            have := tmod_bd v v'
            omega
          go_enter Tryd.func17, Tryd.ntmps17
          go_wp2_with fail
          go_returns
          exact ⟨rfl, (((Gw.refl w).alloc _).alloc _).alloc _⟩
      · refine Calls.mono ?_ (fin k v (by simp [modN, e1, e2, e3]))
        clear fin
        have t2 : (k' == 1) = false := by simp [e2]
        have t3 : (k' == 0) = false := by simp [e3]
        have t4 : (k' != 0) = true := by simp [e3]
        subst e1
        go_enter Tryd.func17, Tryd.ntmps17
        go_wp2_with fail
        go_returns
        exact ⟨rfl, (((Gw.refl w).alloc _).alloc _).alloc _⟩
  · refine Calls.mono ?_ (fin 1 0 (by simp [modN, e1]))
    clear fin
    have t1 : (k != 0) = true := by simp [e1]
    go_enter Tryd.func17, Tryd.ntmps17
    go_wp2_with fail
    refine (nan_any _).mono ?_
    rintro _ w1 ⟨rfl, g1⟩
    obtain ⟨s0, s1⟩ := (Box2.put (g1.res3))
    obtain ⟨r0, r1, r2, r3, r4⟩ := g1.res3
    go_wp2_with fail
    refine bodyPost_ret (v := .agg #[.int .i64 1, .int .i64 0]) (by simp [results, Tryd.results17, go_sem, s0, s1]) rfl ?_
    exact ⟨rfl, g1.was3.put2 _ (by omega) _ _⟩

def flV (k v : Int) : Int := if k = 0 then wrap64 (v - v % 1000000) else v
set_option maxHeartbeats 1600000 in
set_option maxRecDepth 100000 in
theorem floor_any (k v : Int) (w : World) :
    Calls Tryd.prog 8 #[.agg #[.int .i64 k, .int .i64 v]] w fun e w' => e = .returned (.agg #[.int .i64 k, .int .i64 (flV k v)]) ∧ Gw w w' := by
  by_cases e1 : k = 0
  · subst e1
    have ht : -999999 ≤ v.tmod 1000000 ∧ v.tmod 1000000 ≤ 999999 := by
      by_cases h : 0 ≤ v
      · rw [tmod_ge v _ h]; omega
      · rw [tmod_lt v _ (by omega)]; omega
    have he : (v.tmod 1000000 + 1000000) % 1000000 = v % 1000000 := by
      by_cases h : 0 ≤ v
      · rw [tmod_ge v _ h]; omega
      · rw [tmod_lt v _ (by omega)]; omega
    obtain ⟨m, hm⟩ : ∃ m, m = v % 1000000 := ⟨_, rfl⟩
    show Calls Tryd.prog 8 #[.agg #[.int .i64 0, .int .i64 v]] w fun e w' => e = .returned (.agg #[.int .i64 0, .int .i64 (wrap64 (v - v % 1000000))]) ∧ Gw w w'
    rw [← hm] at he ⊢
    clear hm
    go_enter Tryd.func8, Tryd.ntmps8
    go_wp2_with fail
    go_returns
    exact ⟨rfl, ((Gw.refl w).alloc _).alloc _⟩
  · have e2 : flV k v = v := by simp [flV, e1]
    rw [e2]
    clear e2
    go_enter Tryd.func8, Tryd.ntmps8
    go_wp2_with fail
    go_returns
    exact ⟨rfl, ((Gw.refl w).alloc _).alloc _⟩

set_option maxHeartbeats 1600000 in
set_option maxRecDepth 100000 in
theorem ceil_any (k v : Int) (w : World) :
    Calls Tryd.prog 9 #[.agg #[.int .i64 k, .int .i64 v]] w fun e w' => e = .returned (.agg #[.int .i64 (negK (negK k)), .int .i64 (negV (negK k) (flV (negK k) (negV k v)))]) ∧ Gw w w' := by
  go_enter Tryd.func9, Tryd.ntmps9
  go_wp2_with fail
  refine (neg_any k v _).mono ?_
  rintro _ w1 ⟨rfl, g1⟩
  go_wp2_with fail
  refine (floor_any _ _ _).mono ?_
  rintro _ w2 ⟨rfl, g2⟩
  go_wp2_with fail
  refine (neg_any _ _ _).mono ?_
  rintro _ w3 ⟨rfl, g3⟩
  have g := g1.trans (g2.trans g3)
  obtain ⟨c0, c1, f0, f1, hz, s0, s1⟩ := g.res2 (w.heap.size + 1) (by simp)
  clear g1 g2 g3
  go_wp2_with fail
  refine bodyPost_ret (v := .agg #[.int .i64 (negK (negK k)), .int .i64 (negV (negK k) (flV (negK k) (negV k v)))]) (by simp [results, Tryd.results9, go_sem, s0, s1]) rfl ?_
  exact ⟨rfl, ((((Gw.refl w).alloc _).alloc _).trans g).put2 _ (by omega) _ _⟩

def rndV (k v : Int) : Int := if k = 0 then wrap64 (wrap64 (v + 500000) - wrap64 (v + 500000) % 1000000) else v
set_option maxHeartbeats 1600000 in
set_option maxRecDepth 100000 in
theorem round_any (k v : Int) (w : World) :
    Calls Tryd.prog 10 #[.agg #[.int .i64 k, .int .i64 v]] w fun e w' => e = .returned (.agg #[.int .i64 k, .int .i64 (rndV k v)]) ∧ Gw w w' := by
  by_cases e1 : k = 0
  · subst e1
    show Calls Tryd.prog 10 #[.agg #[.int .i64 0, .int .i64 v]] w fun e w' => e = .returned (.agg #[.int .i64 0, .int .i64 (flV 0 (wrap64 (v + 500000)))]) ∧ Gw w w'
    go_enter Tryd.func10, Tryd.ntmps10
    go_wp2_with fail
    refine (floor_any _ _ _).mono ?_
    rintro _ w2 ⟨rfl, g⟩
    obtain ⟨c0, c1, f0, f1, hz, s0, s1⟩ := g.res2 (w.heap.size + 1) (by simp)
    go_wp2_with fail
    refine bodyPost_ret (v := .agg #[.int .i64 0, .int .i64 (flV 0 (wrap64 (v + 500000)))]) (by simp [results, Tryd.results10, go_sem, s0, s1]) rfl ?_
    exact ⟨rfl, ((((Gw.refl w).alloc _).alloc _).trans g).put2 _ (by omega) _ _⟩
  · have e2 : rndV k v = flV k v := by simp [rndV, flV, e1]
    rw [e2]
    clear e2
    go_enter Tryd.func10, Tryd.ntmps10
    go_wp2_with fail
    refine (floor_any _ _ _).mono ?_
    rintro _ w2 ⟨rfl, g⟩
    obtain ⟨c0, c1, f0, f1, hz, s0, s1⟩ := g.res2 (w.heap.size + 1) (by simp)
    go_wp2_with fail
    refine bodyPost_ret (v := .agg #[.int .i64 k, .int .i64 (flV k v)]) (by simp [results, Tryd.results10, go_sem, s0, s1]) rfl ?_
    exact ⟨rfl, ((((Gw.refl w).alloc _).alloc _).trans g).put2 _ (by omega) _ _⟩

def intN (n : Int) : Int × Int := if n > 1000000000000 ∨ n < -1000000000000 then (infK (decide (n < 0)), 0) else (0, n * 1000000)
set_option maxHeartbeats 1600000 in
set_option maxRecDepth 100000 in
theorem int_any (n : Int) (w : World) :
    Calls Tryd.prog 16 #[.int .i64 n] w fun e w' => e = .returned (.agg #[.int .i64 (intN n).1, .int .i64 (intN n).2]) ∧ Gw w w' := by
  have fin : ∀ x y : Int, intN n = (x, y) → ∀ (e : Ending) (w' : World), e = .returned (.agg #[.int .i64 x, .int .i64 y]) ∧ Gw w w' → e = .returned (.agg #[.int .i64 (intN n).1, .int .i64 (intN n).2]) ∧ Gw w w' := fun x y h e w' ⟨h1, h2⟩ => ⟨by rw [h, h1], h2⟩
  by_cases h1 : n > 1000000000000
  · refine Calls.mono ?_ (fin (infK (decide (n < 0))) 0 (by simp [intN, h1]))
    clear fin
    go_enter Tryd.func16, Tryd.ntmps16
    go_wp2_with fail
    refine (inf_any _ _).mono ?_
    rintro _ w2 ⟨rfl, g⟩
    obtain ⟨c0, c1, f0, f1, hz, s0, s1⟩ := g.res2 _ rfl
    go_wp2_with fail
    refine bodyPost_ret (v := .agg #[.int .i64 (infK (decide (n < 0))), .int .i64 0]) (by simp [results, Tryd.results16, go_sem, s0, s1]) rfl ?_
    exact ⟨rfl, (((Gw.refl w).alloc _).trans g).put2 _ (by omega) _ _⟩
  · by_cases h2 : n < -1000000000000
    · refine Calls.mono ?_ (fin (infK (decide (n < 0))) 0 (by simp [intN, h2]))
      clear fin
      go_enter Tryd.func16, Tryd.ntmps16
      go_wp2_with fail
      refine (inf_any _ _).mono ?_
      rintro _ w2 ⟨rfl, g⟩
      obtain ⟨c0, c1, f0, f1, hz, s0, s1⟩ := g.res2 _ rfl
      go_wp2_with fail
      refine bodyPost_ret (v := .agg #[.int .i64 (infK (decide (n < 0))), .int .i64 0]) (by simp [results, Tryd.results16, go_sem, s0, s1]) rfl ?_
      exact ⟨rfl, (((Gw.refl w).alloc _).trans g).put2 _ (by omega) _ _⟩
    · refine Calls.mono ?_ (fin 0 (n * 1000000) (by simp [intN, h1, h2]))
      clear fin
      go_enter Tryd.func16, Tryd.ntmps16
      go_wp2_with fail
      go_returns
      exact ⟨rfl, (Gw.refl w).alloc _⟩
end Go.Proofs.YtclpgacaecfjlaaDoor
