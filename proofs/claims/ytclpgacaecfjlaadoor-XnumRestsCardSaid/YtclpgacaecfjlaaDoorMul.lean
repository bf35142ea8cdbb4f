/- xnum.Mul, by its contract. -/
import Derived.Test.YtclpgacaecfjlaaDoorAri
import Derived.Test.YtclpgacaecfjlaaDoorShelf
import Derived.Deep.RegionHeld3
import Derived.Deep.DeepCutAuto
import Derived.Outline
namespace Go.Proofs.YtclpgacaecfjlaaDoor
open Go.RowKit Go.Sten Go.Lib

/-- the product, cut off -/
def mulN (k v k' v' : Int) : Int × Int :=
  if k = 1 ∨ k' = 1 then (1, 0)
  else if k = 0 ∧ k' = 0 then (finK (quo (v.natAbs * v'.natAbs) 1000000) (decide (sgnN k v * sgnN k' v' < 0)), finV (quo (v.natAbs * v'.natAbs) 1000000) (decide (sgnN k v * sgnN k' v' < 0)))
  else if sgnN k v * sgnN k' v' = 0 then (1, 0) else (infK (decide (sgnN k v * sgnN k' v' < 0)), 0)

theorem sgn_bd (k v : Int) : -1 ≤ sgnN k v ∧ sgnN k v ≤ 1 := by unfold sgnN cmpI; repeat' split <;> omega

set_option maxHeartbeats 8000000 in
set_option maxRecDepth 100000 in
theorem mul_any (k v k' v' : Int) (w : World) (h1 : -9223372036854775808 ≤ v) (h2 : v ≤ 9223372036854775807) (h3 : -9223372036854775808 ≤ v') (h4 : v' ≤ 9223372036854775807) :
    Calls Tryd.prog 13 #[.agg #[.int .i64 k, .int .i64 v], .agg #[.int .i64 k', .int .i64 v']] w fun e w' => e = .returned (.agg #[.int .i64 (mulN k v k' v').1, .int .i64 (mulN k v k' v').2]) ∧ Gw w w' := by
  have S1 := hid (fun W => sign_any k v W)
  have S2 := hid (fun W => sign_any k' v' W)
  obtain ⟨x, hx⟩ : ∃ x, x = sgnN k v := ⟨_, rfl⟩
  obtain ⟨y, hy⟩ : ∃ y, y = sgnN k' v' := ⟨_, rfl⟩
  have bx := sgn_bd k v
  have bY := sgn_bd k' v'
  rw [← hx] at S1 bx
  rw [← hy] at S2 bY
  have HX := hid hx
  have HY := hid hy
  clear hx hy
  have exy : IntKind.i64.wrap (x * y) = x * y := by
    rw [IntKind.wrap_i64]
    obtain rfl | rfl | rfl : x = -1 ∨ x = 0 ∨ x = 1 := by omega
    all_goals omega
  have HXY := hid exy
  go_enter Tryd.func13, Tryd.ntmps13
  go_upto_region 1 with (fail)
  go_cut [5] from 12 (fun s5 wx => s5 = .bool (decide (x * y < 0)) ∧ Gw (((w.alloc (.cells #[.int .i64 k, .int .i64 v] 24)).alloc (.cells #[.int .i64 k', .int .i64 v'] 24)).alloc (.cells #[.int .i64 0, .int .i64 0] 24)) wx)
  case first =>
    go_region_with (first
      | (with_reducible refine (S1.out _).mono ?_
         rintro _ w1 ⟨rfl, g1⟩
         have g1' := g1.undrew
         obtain ⟨a0, a1, a2, a3, a4⟩ := g1'.fst3
         obtain ⟨b0, b1, b2, b3, b4⟩ := g1'.snd3)
      | (with_reducible refine (S2.out _).mono ?_
         rintro _ w2 ⟨rfl, g2⟩
         have g3 := g1'.trans g2))
    all_goals (try go_wp2_with fail)
    all_goals go_meet
    all_goals exact ⟨rfl, g3⟩
  case rest =>
    obtain ⟨rfl, g0⟩ := hcut
    obtain ⟨a0, a1, a2, a3, a4⟩ := g0.fst3
    obtain ⟨b0, b1, b2, b3, b4⟩ := g0.snd3
    have BR := g0.res3
    obtain ⟨r0, r1, r2, r3, r4⟩ := g0.res3
    by_cases e1 : k = 1
    · have t1 : (k == 1) = true := by simp [e1]
      have E := hid (show mulN k v k' v' = (1, 0) by simp [mulN, e1])
      clear e1
      go_wp2_with fail
      refine (nan_any _).mono ?_
      rintro _ w1 ⟨rfl, g1⟩
      have g1 := g0.trans g1
      clear r0 r1 r2 r3
      obtain ⟨s0, s1⟩ := (Box2.put (g1.res3))
      obtain ⟨r0, r1, r2, r3, r4⟩ := g1.res3
      go_wp2_with fail
      refine bodyPost_ret (v := .agg #[.int .i64 1, .int .i64 0]) (by simp [results, Tryd.results13, go_sem, s0, s1]) rfl ?_
      exact ⟨by rw [E.out], g1.was3.put2 _ (by omega) _ _⟩
    have t1 : (k == 1) = false := by simp [e1]
    by_cases e2 : k' = 1
    · have t2 : (k' == 1) = true := by simp [e2]
      have E := hid (show mulN k v k' v' = (1, 0) by simp [mulN, e2])
      clear e1 e2
      go_wp2_with fail
      refine (nan_any _).mono ?_
      rintro _ w1 ⟨rfl, g1⟩
      have g1 := g0.trans g1
      clear r0 r1 r2 r3
      obtain ⟨s0, s1⟩ := (Box2.put (g1.res3))
      obtain ⟨r0, r1, r2, r3, r4⟩ := g1.res3
      go_wp2_with fail
      refine bodyPost_ret (v := .agg #[.int .i64 1, .int .i64 0]) (by simp [results, Tryd.results13, go_sem, s0, s1]) rfl ?_
      exact ⟨by rw [E.out], g1.was3.put2 _ (by omega) _ _⟩
    have t2 : (k' == 1) = false := by simp [e2]
    by_cases e34 : k = 0 ∧ k' = 0
    · have t3 : (k == 0) = true := by simp [e34.1]
      have t4 : (k' == 0) = true := by simp [e34.2]
      obtain ⟨X, hX⟩ : ∃ X, X = v.natAbs := ⟨_, rfl⟩
      obtain ⟨Y, hY⟩ : ∃ Y, Y = v'.natAbs := ⟨_, rfl⟩
      obtain ⟨b, hb⟩ : ∃ b, b = decide (x * y < 0) := ⟨_, rfl⟩
      obtain ⟨q, hq⟩ : ∃ q, q = quo (X * Y) 1000000 := ⟨_, rfl⟩
      have hXb : X ≤ 9223372036854775808 := by omega
      have hYb : Y ≤ 9223372036854775808 := by omega
      have E := hid (show mulN k v k' v' = (finK q b, finV q b) by rw [hq, hb, hX, hY, HX.out, HY.out]; simp [mulN, e34])
      have C1 : Aside (∀ W, Calls Tryd.prog 23 #[.agg #[.int .i64 k, .int .i64 v]] W fun e w' => e = .returned (.tuple #[.int .u64 (X : Int), .bool (decide (v < 0))]) ∧ Gw W w') := fun W => by rw [hX]; exact parts_any k v W h1 h2
      have C2 : Aside (∀ W, Calls Tryd.prog 23 #[.agg #[.int .i64 k', .int .i64 v']] W fun e w' => e = .returned (.tuple #[.int .u64 (Y : Int), .bool (decide (v' < 0))]) ∧ Gw W w') := fun W => by rw [hY]; exact parts_any k' v' W h3 h4
      obtain ⟨hi, hhi⟩ : ∃ hi, hi = X * Y / 18446744073709551616 := ⟨_, rfl⟩
      obtain ⟨lo, hlo⟩ : ∃ lo, lo = X * Y % 18446744073709551616 := ⟨_, rfl⟩
      have C3 : Aside (∀ W, Calls Tryd.prog 25 #[.int .u64 (X : Int), .int .u64 (Y : Int)] W fun e w' => e = .returned (.tuple #[.int .u64 (hi : Int), .int .u64 (lo : Int)]) ∧ W = w') := fun W => by
        rw [hhi, hlo]
        exact (Tryd.bits_Mul64 X Y (by omega) (by omega) W).mono fun _ _ h => ⟨h.1, h.2.symm⟩
      have hxy : X * Y ≤ 9223372036854775808 * 9223372036854775808 := Nat.mul_le_mul hXb hYb
      have hhb : hi < 2 ^ 64 := by omega
      have hlb : lo < 2 ^ 64 := by omega
      have htwo : two hi lo = X * Y := by unfold two; omega
      obtain ⟨r, hr⟩ : ∃ r, r = rem (X * Y) 1000000 := ⟨_, rfl⟩
      have C4 : Aside (∀ W, Calls Tryd.prog 26 #[.int .u64 (hi : Int), .int .u64 (lo : Int), .int .u64 1000000] W fun e w' => e = .returned (.agg #[.int .u64 (q : Int), .int .u64 (r : Int)]) ∧ Gw W w') := fun W => by
        have h := split_any hi lo 1000000 W (by omega) (by omega) hhb hlb
        rw [htwo, ← hq, ← hr] at h
        exact h
      have i0 : ∀ W, (Instr.index 43 (.agg #[.int .u64 (q : Int), .int .u64 (r : Int)]) (.int .i64 0)).run Tryd.prog W = .ok (.int .u64 (q : Int)) W := fun W => by kernel_rfl
      have HB := hid hb
      have hslot : decide (x * y < 0) = b := hb.symm
      rw [hslot]
      clear hX hY hq hhi hlo hr hxy hhb hlb htwo hXb hYb e1 e2 e34 hb hslot
      go_wp2_with fail
      refine (C1.out _).mono ?_
      rintro _ w1 ⟨rfl, g1⟩
      have g1 := g0.trans g1
      clear a0 a1 a2 a3 a4 b0 b1 b2 b3 b4 r0 r1 r2 r3 r4
      obtain ⟨b0, b1, b2, b3, b4⟩ := g1.snd3
      go_wp2_with fail
      refine (C2.out _).mono ?_
      rintro _ w2 ⟨rfl, g2⟩
      have g2 := g1.trans g2
      clear b0 b1 b2 b3 b4
      go_wp2_with fail
      refine (C3.out _).mono ?_
      rintro _ w3 ⟨rfl, rfl⟩
      go_wp2_with fail
      refine (C4.out _).mono ?_
      rintro _ w4 ⟨rfl, g4⟩
      have g4 := g2.trans g4
      go_wp2_with fail
      refine (fin_any q b _).mono ?_
      rintro _ w5 ⟨rfl, g5⟩
      have g5 := g4.trans g5
      clear g0 g1 g2 g4
      obtain ⟨s0, s1⟩ := (Box2.put (g5.res3))
      obtain ⟨r0, r1, r2, r3, r4⟩ := g5.res3
      go_wp2_with fail
      refine bodyPost_ret (v := .agg #[.int .i64 (finK q b), .int .i64 (finV q b)]) (by simp [results, Tryd.results13, go_sem, s0, s1]) rfl ?_
      exact ⟨by rw [E.out], g5.was3.put2 _ (by omega) _ _⟩
    · have e5 : mulN k v k' v' = if x * y = 0 then (1, 0) else (infK (decide (x * y < 0)), 0) := by
        rw [HX.out, HY.out]; simp [mulN, e1, e2, e34]
      have E := hid e5
      have t3 : ((k == 0) && (k' == 0)) = false := by
        cases h : (k == 0) <;> cases h' : (k' == 0) <;> simp_all
      clear e5 e34 e1 e2 h1 h2 h3 h4 bx bY
      by_cases e3 : k = 0
      · have t4 : (k == 0) = true := by simp [e3]
        have t5 : (k' == 0) = false := by rw [t4] at t3; simpa using t3
        clear t3 e3
        go_upto_region 9 with (fail)
        go_cut [59] from 60 (fun s59 wx => s59 = .bool (x * y == 0) ∧ Gw (((w.alloc (.cells #[.int .i64 k, .int .i64 v] 24)).alloc (.cells #[.int .i64 k', .int .i64 v'] 24)).alloc (.cells #[.int .i64 0, .int .i64 0] 24)) wx)
        case first =>
          go_region_with (first
            | (with_reducible refine (S1.out _).mono ?_
               rintro _ w1 ⟨rfl, g1⟩
               have g1' := g0.trans g1.undrew
               obtain ⟨a0, a1, a2, a3, a4⟩ := g1'.fst3
               obtain ⟨b0, b1, b2, b3, b4⟩ := g1'.snd3)
            | (with_reducible refine (S2.out _).mono ?_
               rintro _ w2 ⟨rfl, g2⟩
               have g3 := g1'.trans g2))
          all_goals (try go_wp2_with fail)
          all_goals go_meet
          all_goals exact ⟨rfl, g3⟩
        case rest =>
          obtain ⟨rfl, g3⟩ := hcut
          clear a0 a1 a2 a3 a4 b0 b1 b2 b3 b4 r0 r1 r2 r3 r4
          by_cases ez : x * y = 0
          · have tz : (x * y == 0) = true := by simp [ez]
            rw [if_pos ez] at E
            clear ez
            go_wp2_with fail
            refine (nan_any _).mono ?_
            rintro _ w4 ⟨rfl, g4⟩
            have g4 := g3.trans g4
            obtain ⟨s0, s1⟩ := (Box2.put (g4.res3))
            obtain ⟨r0, r1, r2, r3, r4⟩ := g4.res3
            go_wp2_with fail
            refine bodyPost_ret (v := .agg #[.int .i64 1, .int .i64 0]) (by simp [results, Tryd.results13, go_sem, s0, s1]) rfl ?_
            exact ⟨by rw [E.out], g4.was3.put2 _ (by omega) _ _⟩
          · have tz : (x * y == 0) = false := by simp [ez]
            rw [if_neg ez] at E
            clear ez
            go_wp2_with fail
            refine (inf_any (decide (x * y < 0)) _).mono ?_
            rintro _ w4 ⟨rfl, g4⟩
            have g4 := g3.trans g4
            obtain ⟨s0, s1⟩ := (Box2.put (g4.res3))
            obtain ⟨r0, r1, r2, r3, r4⟩ := g4.res3
            go_wp2_with fail
            refine bodyPost_ret (v := .agg #[.int .i64 (infK (decide (x * y < 0))), .int .i64 0]) (by simp [results, Tryd.results13, go_sem, s0, s1]) rfl ?_
            exact ⟨by rw [E.out], g4.was3.put2 _ (by omega) _ _⟩
      · have t4 : (k == 0) = false := by simp [e3]
        clear t3 e3
        go_upto_region 9 with (fail)
        go_cut [59] from 60 (fun s59 wx => s59 = .bool (x * y == 0) ∧ Gw (((w.alloc (.cells #[.int .i64 k, .int .i64 v] 24)).alloc (.cells #[.int .i64 k', .int .i64 v'] 24)).alloc (.cells #[.int .i64 0, .int .i64 0] 24)) wx)
        case first =>
          go_region_with (first
            | (with_reducible refine (S1.out _).mono ?_
               rintro _ w1 ⟨rfl, g1⟩
               have g1' := g0.trans g1.undrew
               obtain ⟨a0, a1, a2, a3, a4⟩ := g1'.fst3
               obtain ⟨b0, b1, b2, b3, b4⟩ := g1'.snd3)
            | (with_reducible refine (S2.out _).mono ?_
               rintro _ w2 ⟨rfl, g2⟩
               have g3 := g1'.trans g2))
          all_goals (try go_wp2_with fail)
          all_goals go_meet
          all_goals exact ⟨rfl, g3⟩
        case rest =>
          obtain ⟨rfl, g3⟩ := hcut
          clear a0 a1 a2 a3 a4 b0 b1 b2 b3 b4 r0 r1 r2 r3 r4
          by_cases ez : x * y = 0
          · have tz : (x * y == 0) = true := by simp [ez]
            rw [if_pos ez] at E
            clear ez
            go_wp2_with fail
            refine (nan_any _).mono ?_
            rintro _ w4 ⟨rfl, g4⟩
            have g4 := g3.trans g4
            obtain ⟨s0, s1⟩ := (Box2.put (g4.res3))
            obtain ⟨r0, r1, r2, r3, r4⟩ := g4.res3
            go_wp2_with fail
            refine bodyPost_ret (v := .agg #[.int .i64 1, .int .i64 0]) (by simp [results, Tryd.results13, go_sem, s0, s1]) rfl ?_
            exact ⟨by rw [E.out], g4.was3.put2 _ (by omega) _ _⟩
          · have tz : (x * y == 0) = false := by simp [ez]
            rw [if_neg ez] at E
            clear ez
            go_wp2_with fail
            refine (inf_any (decide (x * y < 0)) _).mono ?_
            rintro _ w4 ⟨rfl, g4⟩
            have g4 := g3.trans g4
            obtain ⟨s0, s1⟩ := (Box2.put (g4.res3))
            obtain ⟨r0, r1, r2, r3, r4⟩ := g4.res3
            go_wp2_with fail
            refine bodyPost_ret (v := .agg #[.int .i64 (infK (decide (x * y < 0))), .int .i64 0]) (by simp [results, Tryd.results13, go_sem, s0, s1]) rfl ?_
            exact ⟨by rw [E.out], g4.was3.put2 _ (by omega) _ _⟩
end Go.Proofs.YtclpgacaecfjlaaDoor
