/- xnum.Div, by its contract. -/
import Derived.Test.YtclpgacaecfjlaaDoorMul
namespace Go.Proofs.YtclpgacaecfjlaaDoor
open Go.RowKit Go.Sten Go.Lib

/-- the quotient, cut off -/
def divN (k v k' v' : Int) : Int × Int :=
  if k = 1 ∨ k' = 1 ∨ k ≠ 0 ∧ k' ≠ 0 then (1, 0)
  else if k ≠ 0 then (infK ((k == 3) != decide (v' < 0)), 0)
  else if k' ≠ 0 then (0, 0)
  else if v' = 0 then (if v = 0 then (1, 0) else (infK (decide (v < 0)), 0))
  else (finK (quo (v.natAbs * 1000000) v'.natAbs) (decide (v < 0) != decide (v' < 0)), finV (quo (v.natAbs * 1000000) v'.natAbs) (decide (v < 0) != decide (v' < 0)))

set_option maxHeartbeats 4000000 in
set_option maxRecDepth 100000 in
theorem div_any (k v k' v' : Int) (w : World) (h1 : -9223372036854775808 ≤ v) (h2 : v ≤ 9223372036854775807) (h3 : -9223372036854775808 ≤ v') (h4 : v' ≤ 9223372036854775807) :
    Calls Tryd.prog 20 #[.agg #[.int .i64 k, .int .i64 v], .agg #[.int .i64 k', .int .i64 v']] w fun e w' => e = .returned (.agg #[.int .i64 (divN k v k' v').1, .int .i64 (divN k v k' v').2]) ∧ Gw w w' := by
  obtain ⟨X, hX⟩ : ∃ X, X = v.natAbs := ⟨_, rfl⟩
  obtain ⟨Y, hY⟩ : ∃ Y, Y = v'.natAbs := ⟨_, rfl⟩
  obtain ⟨bx, hbx⟩ : ∃ b, b = decide (v < 0) := ⟨_, rfl⟩
  obtain ⟨by', hby⟩ : ∃ b, b = decide (v' < 0) := ⟨_, rfl⟩
  have hXb : X ≤ 9223372036854775808 := by omega
  have hYb : Y ≤ 9223372036854775808 := by omega
  have C1 : Aside (∀ W, Calls Tryd.prog 23 #[.agg #[.int .i64 k, .int .i64 v]] W fun e w' => e = .returned (.tuple #[.int .u64 (X : Int), .bool bx]) ∧ Gw W w') := fun W => by rw [hX, hbx]; exact parts_any k v W h1 h2
  have C2 : Aside (∀ W, Calls Tryd.prog 23 #[.agg #[.int .i64 k', .int .i64 v']] W fun e w' => e = .returned (.tuple #[.int .u64 (Y : Int), .bool by']) ∧ Gw W w') := fun W => by rw [hY, hby]; exact parts_any k' v' W h3 h4
  have ED : divN k v k' v' = (if k = 1 ∨ k' = 1 ∨ k ≠ 0 ∧ k' ≠ 0 then (1, 0)
      else if k ≠ 0 then (infK ((k == 3) != by'), 0)
      else if k' ≠ 0 then (0, 0)
      else if Y = 0 then (if X = 0 then (1, 0) else (infK bx, 0))
      else (finK (quo (X * 1000000) Y) (bx != by'), finV (quo (X * 1000000) Y) (bx != by'))) := by
    subst hX hY hbx hby
    simp only [Int.natAbs_eq_zero]
    rfl
  have E := hid ED
  clear ED hX hY hbx hby h1 h2 h3 h4
  have HXb : Hid (X ≤ 9223372036854775808) := hXb
  have HYb : Hid (Y ≤ 9223372036854775808) := hYb
  clear hXb hYb
  go_enter Tryd.func20, Tryd.ntmps20
  go_wp2_with fail
  refine (C1.out _).mono ?_
  rintro _ w1 ⟨rfl, g1⟩
  obtain ⟨b0, b1, b2, b3, b4⟩ := g1.snd3
  go_wp2_with fail
  refine (C2.out _).mono ?_
  rintro _ w2 ⟨rfl, g2⟩
  have g2 := g1.trans g2
  clear b0 b1 b2 b3 b4 g1 C1 C2
  obtain ⟨a0, a1, a2, a3, a4⟩ := g2.fst3
  obtain ⟨b0, b1, b2, b3, b4⟩ := g2.snd3
  have R2 := hid g2.res3
  by_cases e1 : k = 1 ∨ k' = 1 ∨ k ≠ 0 ∧ k' ≠ 0
  · rw [if_pos e1] at E
    by_cases t : k = 1
    · have t1 : (k == 1) = true := by simp [t]
      clear e1 t
      go_wp2_with fail
      refine (nan_any _).mono ?_
      rintro _ w3 ⟨rfl, g3⟩
      have g3 := g2.trans g3
      clear a0 a1 a2 a3 a4 b0 b1 b2 b3 b4
      obtain ⟨s0, s1⟩ := (Box2.put (g3.res3))
      obtain ⟨r0, r1, r2, r3, r4⟩ := g3.res3
      go_wp2_with fail
      refine bodyPost_ret (v := .agg #[.int .i64 1, .int .i64 0]) (by simp [results, Tryd.results20, go_sem, s0, s1]) rfl ?_
      exact ⟨by rw [E.out], g3.was3.put2 _ (by omega) _ _⟩
    · have t1 : (k == 1) = false := by simp [t]
      by_cases t' : k' = 1
      · have t2 : (k' == 1) = true := by simp [t']
        clear e1 t t'
        go_wp2_with fail
        refine (nan_any _).mono ?_
        rintro _ w3 ⟨rfl, g3⟩
        have g3 := g2.trans g3
        clear a0 a1 a2 a3 a4 b0 b1 b2 b3 b4
        obtain ⟨s0, s1⟩ := (Box2.put (g3.res3))
        obtain ⟨r0, r1, r2, r3, r4⟩ := g3.res3
        go_wp2_with fail
        refine bodyPost_ret (v := .agg #[.int .i64 1, .int .i64 0]) (by simp [results, Tryd.results20, go_sem, s0, s1]) rfl ?_
        exact ⟨by rw [E.out], g3.was3.put2 _ (by omega) _ _⟩
      · have t2 : (k' == 1) = false := by simp [t']
        have t3 : (k != 0) = true := by simp; omega
        have t4 : (k' != 0) = true := by simp; omega
        clear e1 t t'
        go_wp2_with fail
        refine (nan_any _).mono ?_
        rintro _ w3 ⟨rfl, g3⟩
        have g3 := g2.trans g3
        clear a0 a1 a2 a3 a4 b0 b1 b2 b3 b4
        obtain ⟨s0, s1⟩ := (Box2.put (g3.res3))
        obtain ⟨r0, r1, r2, r3, r4⟩ := g3.res3
        go_wp2_with fail
        refine bodyPost_ret (v := .agg #[.int .i64 1, .int .i64 0]) (by simp [results, Tryd.results20, go_sem, s0, s1]) rfl ?_
        exact ⟨by rw [E.out], g3.was3.put2 _ (by omega) _ _⟩
  · rw [if_neg e1] at E
    have t1 : (k == 1) = false := by simp; omega
    have t2 : (k' == 1) = false := by simp; omega
    by_cases e2 : k ≠ 0
    · rw [if_pos e2] at E
      have t3 : (k != 0) = true := by simp [e2]
      have t4 : (k' != 0) = false := by simp; omega
      clear e1 e2
      go_wp2_with fail
      refine (inf_any ((k == 3) != by') _).mono ?_
      rintro _ w3 ⟨rfl, g3⟩
      have g3 := g2.trans g3
      clear a0 a1 a2 a3 a4 b0 b1 b2 b3 b4
      obtain ⟨s0, s1⟩ := (Box2.put (g3.res3))
      obtain ⟨r0, r1, r2, r3, r4⟩ := g3.res3
      go_wp2_with fail
      refine bodyPost_ret (v := .agg #[.int .i64 (infK ((k == 3) != by')), .int .i64 0]) (by simp [results, Tryd.results20, go_sem, s0, s1]) rfl ?_
      exact ⟨by rw [E.out], g3.was3.put2 _ (by omega) _ _⟩
    · rw [if_neg e2] at E
      have t3 : (k != 0) = false := by simp; omega
      by_cases e3 : k' ≠ 0
      · rw [if_pos e3] at E
        have t4 : (k' != 0) = true := by simp [e3]
        clear e1 e2 e3
        obtain ⟨s0, s1⟩ := (Box2.put R2.out)
        obtain ⟨r0, r1, r2, r3, r4⟩ := R2.out
        go_wp2_with fail
        refine bodyPost_ret (v := .agg #[.int .i64 0, .int .i64 0]) (by simp [results, Tryd.results20, go_sem, s0, s1]) rfl ?_
        exact ⟨by rw [E.out], g2.was3.put2 _ (by omega) _ _⟩
      · rw [if_neg e3] at E
        have t4 : (k' != 0) = false := by simp; omega
        clear e1 e2 e3
        by_cases e4 : Y = 0
        · have t5 : ((Y : Int) == 0) = true := by simp [e4]
          rw [if_pos e4] at E
          clear e4
          by_cases e5 : X = 0
          · have t6 : ((X : Int) == 0) = true := by simp [e5]
            rw [if_pos e5] at E
            clear e5
            go_wp2_with fail
            refine (nan_any _).mono ?_
            rintro _ w3 ⟨rfl, g3⟩
            have g3 := g2.trans g3
            clear a0 a1 a2 a3 a4 b0 b1 b2 b3 b4
            obtain ⟨s0, s1⟩ := (Box2.put (g3.res3))
            obtain ⟨r0, r1, r2, r3, r4⟩ := g3.res3
            go_wp2_with fail
            refine bodyPost_ret (v := .agg #[.int .i64 1, .int .i64 0]) (by simp [results, Tryd.results20, go_sem, s0, s1]) rfl ?_
            exact ⟨by rw [E.out], g3.was3.put2 _ (by omega) _ _⟩
          · have t6 : ((X : Int) == 0) = false := by simp [e5]
            rw [if_neg e5] at E
            clear e5
            go_wp2_with fail
            refine (inf_any bx _).mono ?_
            rintro _ w3 ⟨rfl, g3⟩
            have g3 := g2.trans g3
            clear a0 a1 a2 a3 a4 b0 b1 b2 b3 b4
            obtain ⟨s0, s1⟩ := (Box2.put (g3.res3))
            obtain ⟨r0, r1, r2, r3, r4⟩ := g3.res3
            go_wp2_with fail
            refine bodyPost_ret (v := .agg #[.int .i64 (infK bx), .int .i64 0]) (by simp [results, Tryd.results20, go_sem, s0, s1]) rfl ?_
            exact ⟨by rw [E.out], g3.was3.put2 _ (by omega) _ _⟩
        · have t5 : ((Y : Int) == 0) = false := by simp [e4]
          rw [if_neg e4] at E
          have hXb := HXb.out
          have hYb := HYb.out
          obtain ⟨hi, hhi⟩ : ∃ hi, hi = X * 1000000 / 18446744073709551616 := ⟨_, rfl⟩
          obtain ⟨lo, hlo⟩ : ∃ lo, lo = X * 1000000 % 18446744073709551616 := ⟨_, rfl⟩
          have C3 : Aside (∀ W, Calls Tryd.prog 25 #[.int .u64 (X : Int), .int .u64 1000000] W fun e w' => e = .returned (.tuple #[.int .u64 (hi : Int), .int .u64 (lo : Int)]) ∧ W = w') := fun W => by
            rw [hhi, hlo]
            exact (Tryd.bits_Mul64 X 1000000 (by omega) (by omega) W).mono fun _ _ h => ⟨h.1, h.2.symm⟩
          have hhb : hi < 2 ^ 64 := by omega
          have hlb : lo < 2 ^ 64 := by omega
          have htwo : two hi lo = X * 1000000 := by unfold two; omega
          obtain ⟨q, hq⟩ : ∃ q, q = quo (X * 1000000) Y := ⟨_, rfl⟩
          obtain ⟨r, hr⟩ : ∃ r, r = rem (X * 1000000) Y := ⟨_, rfl⟩
          have C4 : Aside (∀ W, Calls Tryd.prog 26 #[.int .u64 (hi : Int), .int .u64 (lo : Int), .int .u64 (Y : Int)] W fun e w' => e = .returned (.agg #[.int .u64 (q : Int), .int .u64 (r : Int)]) ∧ Gw W w') := fun W => by
            have h := split_any hi lo Y W (by omega) (by omega) hhb hlb
            rw [htwo, ← hq, ← hr] at h
            exact h
          have i0 : ∀ W, (Instr.index 43 (.agg #[.int .u64 (q : Int), .int .u64 (r : Int)]) (.int .i64 0)).run Tryd.prog W = .ok (.int .u64 (q : Int)) W := fun W => by kernel_rfl
          rw [← hq] at E
          clear e4 hXb hYb hhi hlo hhb hlb htwo hq hr
          go_wp2_with fail
          refine (C3.out _).mono ?_
          rintro _ w3 ⟨rfl, rfl⟩
          go_wp2_with fail
          refine (C4.out _).mono ?_
          rintro _ w4 ⟨rfl, g4⟩
          have g4 := g2.trans g4
          go_wp2_with fail
          refine (fin_any q (bx != by') _).mono ?_
          rintro _ w5 ⟨rfl, g5⟩
          have g5 := g4.trans g5
          clear g4 a0 a1 a2 a3 a4 b0 b1 b2 b3 b4
          obtain ⟨s0, s1⟩ := (Box2.put (g5.res3))
          obtain ⟨r0, r1, r2, r3, r4⟩ := g5.res3
          go_wp2_with fail
          refine bodyPost_ret (v := .agg #[.int .i64 (finK q (bx != by')), .int .i64 (finV q (bx != by'))]) (by simp [results, Tryd.results20, go_sem, s0, s1]) rfl ?_
          exact ⟨by rw [E.out], g5.was3.put2 _ (by omega) _ _⟩
end Go.Proofs.YtclpgacaecfjlaaDoor
