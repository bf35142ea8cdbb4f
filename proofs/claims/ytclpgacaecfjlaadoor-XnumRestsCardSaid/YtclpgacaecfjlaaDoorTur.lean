/- stencillaw02.XnumTurns: the plain law and the walk. -/
import Derived.Test.YtclpgacaecfjlaaDoorLiv
import Derived.Test.YtclpgacaecfjlaaDoorRgt
namespace Go.Proofs.YtclpgacaecfjlaaDoor
open Go.RowKit Go.Sten Go.Lib Go.Sort Go.Shelf

theorem add_comm' {k v k' v' : Int} (h : rightN k v = true) (h' : rightN k' v' = true) : addN k' v' k v = addN k v k' v' := by
  obtain ⟨_, _, _, _, z⟩ := right_bd h
  obtain ⟨_, _, _, _, z'⟩ := right_bd h'
  unfold addN
  rw [Int.add_comm v' v]
  by_cases a : k = 1
  · simp [a]
  by_cases b : k' = 1
  · simp [b]
  by_cases c : k = 0
  · by_cases d : k' = 0
    · simp [c, d]
    · simp [c, d, b]
  · by_cases d : k' = 0
    · simp [c, d, a]
    · rw [z c, z' d]
      by_cases e : k = k'
      · simp [e]
      · have e' : ¬ k' = k := fun h => e h.symm
        simp [a, b, c, d, e, e']
theorem mul_comm' (k v k' v' : Int) : mulN k' v' k v = mulN k v k' v' := by
  unfold mulN
  rw [Int.mul_comm (sgnN k' v'), Nat.mul_comm v'.natAbs]
  exact ite_congr (propext Or.comm) (fun _ => rfl) (fun _ => ite_congr (propext And.comm) (fun _ => rfl) (fun _ => rfl))
/-- two finite numbers whose sum is finite -/
theorem sum_fin {v v' x y : Int} (h1 : -1000000000000000000 ≤ v) (h2 : v ≤ 1000000000000000000) (h3 : -1000000000000000000 ≤ v') (h4 : v' ≤ 1000000000000000000) (e : addN 0 v 0 v' = (x, y)) (hx : x = 0) :
    y = v + v' ∧ -1000000000000000000 ≤ y ∧ y ≤ 1000000000000000000 := by
  have ew : wrap64 (v + v') = v + v' := IntWalk.wrap64_in _ (by omega)
  unfold addN at e
  rw [ew, if_neg (by omega), if_pos ⟨rfl, rfl⟩] at e
  injection e with e1 e2
  rw [hx] at e1
  unfold finK infK at e1
  unfold finV at e2
  split at e1
  · split at e1 <;> omega
  · rename_i hle
    rw [if_neg hle] at e2
    by_cases hs : v + v' < 0
    · rw [if_pos (by simpa using hs)] at e2; omega
    · rw [if_neg (by simpa using hs)] at e2; omega
theorem neg_fin (v : Int) (h1 : -1000000000000000000 ≤ v) (h2 : v ≤ 1000000000000000000) : negV 0 v = -v := by
  show wrap64 (-v) = -v
  exact IntWalk.wrap64_in _ (by omega)
theorem add_fin (v v' : Int) (h1 : -1000000000000000000 ≤ v + v') (h2 : v + v' ≤ 1000000000000000000) : addN 0 v 0 v' = (0, v + v') := by
  have ew : wrap64 (v + v') = v + v' := IntWalk.wrap64_in _ (by omega)
  unfold addN
  rw [ew, if_neg (by omega), if_pos ⟨rfl, rfl⟩]
  unfold finK finV
  rw [if_neg (by omega), if_neg (by omega)]
  by_cases hs : v + v' < 0
  · rw [if_pos (by simpa using hs)]
    congr 1
    omega
  · rw [if_neg (by simpa using hs)]
    congr 1
    omega

/-- three numbers that lie in blocks -/
def T3 (w W : World) (a b c : Nat) (k v k' v' x y : Int) : Prop :=
  Box2 W a (.int .i64 k) (.int .i64 v) ∧ Box2 W b (.int .i64 k') (.int .i64 v') ∧ Box2 W c (.int .i64 x) (.int .i64 y) ∧ Below w.heap.size w W
theorem T3.below {w W W' : World} {a b c : Nat} {k v k' v' x y : Int} (h : T3 w W a b c k v k' v' x y) (g : Below W.heap.size W W') : T3 w W' a b c k v k' v' x y :=
  ⟨Box2.below h.1 g, Box2.below h.2.1 g, Box2.below h.2.2.1 g, below_then h.2.2.2 h.2.2.2.size g⟩
theorem T3.cells {w W : World} {a b c : Nat} {k v k' v' x y : Int} (h : T3 w W a b c k v k' v' x y) :
    W.cell? ⟨a, 0, none⟩ = some (.int .i64 k) ∧ W.cell? ⟨a, 1, none⟩ = some (.int .i64 v) ∧ W.cell? ⟨b, 0, none⟩ = some (.int .i64 k') ∧ W.cell? ⟨b, 1, none⟩ = some (.int .i64 v') ∧ W.cell? ⟨c, 0, none⟩ = some (.int .i64 x) ∧ W.cell? ⟨c, 1, none⟩ = some (.int .i64 y) :=
  ⟨h.1.1, h.1.2.1, h.2.1.1, h.2.1.2.1, h.2.2.1.1, h.2.2.1.2.1⟩
theorem T3.drew {w W : World} {a b c : Nat} {k v k' v' x y : Int} (h : T3 w W a b c k v k' v' x y) : T3 w W.drew a b c k v k' v' x y := h.below ((Below.refl _ _).drew)

set_option maxHeartbeats 4000000 in
set_option maxRecDepth 100000 in
theorem turns_any (k v k' v' : Int) (w : World) (hE : Env w) :
    Calls Tryd.prog 4 #[.agg #[.int .i64 k, .int .i64 v], .agg #[.int .i64 k', .int .i64 v']] w fun e w' => e = .returned (.bool true) ∧ Below w.heap.size w w' := by
  have R := hid (fun W => rights_any k v k' v' W)
  have L := hid (fun W h => live_any W h)
  have HE := hid hE
  clear hE
  by_cases hr : (rightN k v && rightN k' v') = true
  · rw [hr] at R
    have hr1 : rightN k v = true := by simp at hr; exact hr.1
    have hr2 : rightN k' v' = true := by simp at hr; exact hr.2
    obtain ⟨p1, p2, p3, p4, p5⟩ := right_bd hr1
    obtain ⟨q1, q2, q3, q4, q5⟩ := right_bd hr2
    obtain ⟨x, hx⟩ : ∃ x, x = (addN k v k' v').1 := ⟨_, rfl⟩
    obtain ⟨y, hy⟩ : ∃ y, y = (addN k v k' v').2 := ⟨_, rfl⟩
    have A1 := hid (fun W => add_any k v k' v' W)
    have A2 := hid (fun W => add_any k' v' k v W)
    have M1 := hid (fun W => mul_any k v k' v' W (by omega) (by omega) (by omega) (by omega))
    have M2 := hid (fun W => mul_any k' v' k v W (by omega) (by omega) (by omega) (by omega))
    rw [add_comm' hr1 hr2] at A2
    rw [mul_comm'] at M2
    rw [← hx, ← hy] at A1 A2
    obtain ⟨m1, hm1⟩ : ∃ x, x = (mulN k v k' v').1 := ⟨_, rfl⟩
    obtain ⟨m2, hm2⟩ : ∃ x, x = (mulN k v k' v').2 := ⟨_, rfl⟩
    rw [← hm1, ← hm2] at M1 M2
    have HX : Hid (addN k v k' v' = (x, y)) := (show addN k v k' v' = (x, y) by rw [hx, hy])
    clear hx hy hm1 hm2 hr hr1 hr2
    have HP : Hid ((-1000000000000000000 ≤ v ∧ v ≤ 1000000000000000000) ∧ (-1000000000000000000 ≤ v' ∧ v' ≤ 1000000000000000000)) := ⟨⟨p1, p2⟩, ⟨q1, q2⟩⟩
    clear p1 p2 p3 p4 p5 q1 q2 q3 q4 q5
    go_enter Tryd.func4, Tryd.ntmps4
    go_wp2_with fail
    refine (R.out _).mono ?_
    rintro _ w1 ⟨rfl, g1⟩
    have a1 := (((Box2.new w (.int .i64 k) (.int .i64 v) 24).old (.cells #[.int .i64 k', .int .i64 v'] 24)).gw g1)
    have b1 := ((Box2.new (w.alloc (.cells #[.int .i64 k, .int .i64 v] 24)) (.int .i64 k') (.int .i64 v') 24).gw g1).at (show _ = w.heap.size + 1 by simp)
    have W1 := hid ((((Gw.refl w).alloc _).alloc _).trans g1)
    have HA := hid a1
    have HB := hid b1
    clear g1 R
    obtain ⟨ca0, ca1, _, _, hza⟩ := a1
    obtain ⟨cb0, cb1, _, _, hzb⟩ := b1
    go_wp2_with fail
    refine (A1.out _).mono ?_
    rintro _ w2 ⟨rfl, g2⟩
    have HA2 := hid (HA.out.gw g2)
    have HB2 := hid (HB.out.gw g2)
    have W2 := hid (W1.out.trans g2)
    clear HA HB W1 g2 ca0 ca1 hza cb0 cb1 hzb
    go_wp2_with fail
    have T := hid (show T3 w (w2.alloc (.cells #[.int .i64 x, .int .i64 y] 24)) w.heap.size (w.heap.size + 1) w2.heap.size k v k' v' x y from
      ⟨HA2.out.old _, HB2.out.old _, Box2.new _ _ _ _, (W2.out.alloc _).below⟩)
    generalize w2.alloc (.cells #[.int .i64 x, .int .i64 y] 24) = W3 at T ⊢
    obtain ⟨b5, hb5⟩ : ∃ b5, b5 = w2.heap.size := ⟨_, rfl⟩
    rw [← hb5] at T ⊢
    obtain ⟨b3, hb3⟩ : ∃ b3, b3 = w.heap.size + 1 := ⟨_, rfl⟩
    rw [← hb3] at T ⊢
    obtain ⟨b2, hb2⟩ : ∃ b2, b2 = w.heap.size := ⟨_, rfl⟩
    have T' : Hid (T3 w W3 b2 b3 b5 k v k' v' x y) := by rw [hb2]; exact T.out
    rw [← hb2]
    clear T hb5 hb3 hb2 HA2 HB2 W2
    have k0 := T'.out.cells
    have k0d := T'.out.drew.cells
    go_upto_region 4 with (fail)
    go_cut [27] from 14 (fun s27 wx => s27 = .bool false ∧ T3 w wx b2 b3 b5 k v k' v' x y)
    case first =>
      go_region_held3 (fun w' => w'.cell? ⟨b2, 0, none⟩ = some (.int .i64 k) ∧ w'.cell? ⟨b2, 1, none⟩ = some (.int .i64 v) ∧ w'.cell? ⟨b3, 0, none⟩ = some (.int .i64 k') ∧ w'.cell? ⟨b3, 1, none⟩ = some (.int .i64 v') ∧ w'.cell? ⟨b5, 0, none⟩ = some (.int .i64 x) ∧ w'.cell? ⟨b5, 1, none⟩ = some (.int .i64 y))
        (first | with_reducible exact k3 | with_reducible exact k2 | with_reducible exact k1 | with_reducible exact k0 | with_reducible exact k0d)
        ((first
          | (with_reducible refine (A2.out _).mono ?_
             rintro e w4 ⟨rfl, g4⟩
             have T4 : Aside (T3 w w4 b2 b3 b5 k v k' v' x y) := T'.out.below g4.undrew.below
             have k1 := T4.out.cells)
          | (with_reducible refine (M1.out _).mono ?_
             rintro e w5 ⟨rfl, g5⟩
             have T5 : Aside (T3 w w5 b2 b3 b5 k v k' v' x y) := T4.out.below g5.below
             have k2 := T5.out.cells)
          | (with_reducible refine (M2.out _).mono ?_
             rintro e w6 ⟨rfl, g6⟩
             have T6 : Aside (T3 w w6 b2 b3 b5 k v k' v' x y) := T5.out.below g6.below
             have k3 := T6.out.cells)))
      all_goals (try go_wp2_with fail)
      all_goals go_meet
      all_goals exact ⟨rfl, T6.out⟩
    case rest =>
      obtain ⟨rfl, T⟩ := hcut
      have HT := hid T
      obtain ⟨c0, c1, c2, c3, c4, c5⟩ := T.cells
      clear T k0 k0d T' A2 M1 M2
      by_cases hk : k = 0
      · by_cases hk' : k' = 0
        · by_cases hx : x = 0
          · have t1 : (k != 0) = false := by simp [hk]
            have t2 : (k' != 0) = false := by simp [hk']
            have t3 : (x != 0) = false := by simp [hx]
            obtain ⟨⟨p1, p2⟩, ⟨q1, q2⟩⟩ := HP.out
            obtain ⟨y1, y2, y3⟩ := sum_fin p1 p2 q1 q2 (by have := HX.out; rw [hk, hk'] at this; exact this) hx
            have S1 : Aside (∀ W, Calls Tryd.prog 14 #[.agg #[.int .i64 x, .int .i64 y], .agg #[.int .i64 k', .int .i64 v']] W fun e w' => e = .returned (.agg #[.int .i64 k, .int .i64 v]) ∧ Gw W w') := fun W => by
              have h := sub_any x y k' v' W
              rw [hx, hk', neg_fin v' q1 q2, show negK 0 = 0 from rfl, add_fin _ _ (by omega) (by omega), show y + -v' = v by omega] at h
              rw [hx, hk', hk]
              exact h
            have N1 : Aside (∀ W, Calls Tryd.prog 15 #[.agg #[.int .i64 k, .int .i64 v]] W fun e w' => e = .returned (.agg #[.int .i64 k, .int .i64 (-v)]) ∧ Gw W w') := fun W => by
              have h := neg_any k v W
              rw [hk, neg_fin v p1 p2, show negK 0 = 0 from rfl] at h
              rw [hk]
              exact h
            have N2 : Aside (∀ W, Calls Tryd.prog 15 #[.agg #[.int .i64 k, .int .i64 (-v)]] W fun e w' => e = .returned (.agg #[.int .i64 k, .int .i64 v]) ∧ Gw W w') := fun W => by
              have h := neg_any k (-v) W
              rw [hk, neg_fin (-v) (by omega) (by omega), Int.neg_neg, show negK 0 = 0 from rfl] at h
              rw [hk]
              exact h
            have A3 : Aside (∀ W, Calls Tryd.prog 12 #[.agg #[.int .i64 k, .int .i64 v], .agg #[.int .i64 k, .int .i64 (-v)]] W fun e w' => e = .returned (.agg #[.int .i64 0, .int .i64 0]) ∧ Gw W w') := fun W => by
              have h := add_any k v k (-v) W
              rw [hk, add_fin _ _ (by omega) (by omega), show v + -v = 0 by omega] at h
              rw [hk]
              exact h
            have I0 : Aside (∀ W, Calls Tryd.prog 16 #[.int .i64 0] W fun e w' => e = .returned (.agg #[.int .i64 0, .int .i64 0]) ∧ Gw W w') := fun W => int_any 0 W
            have LV : Aside (∀ W, Below w.heap.size w W → Calls Tryd.prog 7 #[] W fun e w' => e = .returned (.bool true) ∧ Below W.heap.size W w') := fun W h => L.out W (HE.out.below h)
            clear hk hk' hx p1 p2 q1 q2 y1 y2 y3 HX HP L HE A1
            go_upto_region 8 with (fail)
            have k0 := HT.out.cells
            have k0d := HT.out.drew.cells
            go_region_held3 (fun w' => w'.cell? ⟨b2, 0, none⟩ = some (.int .i64 k) ∧ w'.cell? ⟨b2, 1, none⟩ = some (.int .i64 v) ∧ w'.cell? ⟨b3, 0, none⟩ = some (.int .i64 k') ∧ w'.cell? ⟨b3, 1, none⟩ = some (.int .i64 v') ∧ w'.cell? ⟨b5, 0, none⟩ = some (.int .i64 x) ∧ w'.cell? ⟨b5, 1, none⟩ = some (.int .i64 y))
              (first | with_reducible exact k7 | with_reducible exact k6 | with_reducible exact k5 | with_reducible exact k4 | with_reducible exact k3 | with_reducible exact k2 | with_reducible exact k1 | with_reducible exact k0 | with_reducible exact k0d)
              ((first
                | (with_reducible refine (LV.out _ ?hl).mono ?_
                   case hl => first | exact HT.out.2.2.2 | exact HT.out.drew.2.2.2
                   rintro e w4 ⟨rfl, b4⟩
                   have T1 : Aside (T3 w w4 b2 b3 b5 k v k' v' x y) := HT.out.below (((Below.refl _ _).drew).trans (b4.mono (Nat.le_refl _)))
                   have k1 := T1.out.cells)
                | (with_reducible refine (S1.out _).mono ?_
                   rintro e w5 ⟨rfl, g5⟩
                   have T2 : Aside (T3 w w5 b2 b3 b5 k v k' v' x y) := T1.out.below g5.below
                   have k2 := T2.out.cells)
                | (with_reducible refine (N2.out _).mono ?_
                   rintro e w6 ⟨rfl, g6⟩
                   have T4 : Aside (T3 w w6 b2 b3 b5 k v k' v' x y) := T3'.out.below g6.below
                   have k4 := T4.out.cells)
                | (with_reducible refine (N1.out _).mono ?_
                   rintro e w7 ⟨rfl, g7⟩
                   first
                   | (have T5 : Aside (T3 w w7 b2 b3 b5 k v k' v' x y) := T4.out.below g7.below
                      have k5 := T5.out.cells)
                   | (have T3' : Aside (T3 w w7 b2 b3 b5 k v k' v' x y) := T2.out.below g7.below
                      have k3 := T3'.out.cells))
                | (with_reducible refine (A3.out _).mono ?_
                   rintro e w8 ⟨rfl, g8⟩
                   have T6 : Aside (T3 w w8 b2 b3 b5 k v k' v' x y) := T5.out.below g8.below
                   have k6 := T6.out.cells)
                | (with_reducible refine (I0.out _).mono ?_
                   rintro e w9 ⟨rfl, g9⟩
                   have T7 : Aside (T3 w w9 b2 b3 b5 k v k' v' x y) := T6.out.below g9.below
                   have k7 := T7.out.cells)))
            all_goals (try go_wp2_with fail)
            all_goals go_ret
            all_goals exact ⟨rfl, T7.out.2.2.2⟩
          · have t1 : (k != 0) = false := by simp [hk]
            have t2 : (k' != 0) = false := by simp [hk']
            have t3 : (x != 0) = true := by simp [hx]
            clear hk hk' hx
            go_wp2_with fail
            refine (L.out _ (HE.out.below HT.out.2.2.2)).mono ?_
            rintro _ w4 ⟨rfl, h4⟩
            go_wp2_with fail
            go_ret
            exact ⟨rfl, below_then HT.out.2.2.2 HT.out.2.2.2.size h4⟩
        · have t1 : (k != 0) = false := by simp [hk]
          have t2 : (k' != 0) = true := by simp [hk']
          clear hk hk'
          go_wp2_with fail
          refine (L.out _ (HE.out.below HT.out.2.2.2)).mono ?_
          rintro _ w4 ⟨rfl, h4⟩
          go_wp2_with fail
          go_ret
          exact ⟨rfl, below_then HT.out.2.2.2 HT.out.2.2.2.size h4⟩
      · have t1 : (k != 0) = true := by simp [hk]
        clear hk
        go_wp2_with fail
        refine (L.out _ (HE.out.below HT.out.2.2.2)).mono ?_
        rintro _ w4 ⟨rfl, h4⟩
        go_wp2_with fail
        go_ret
        exact ⟨rfl, below_then HT.out.2.2.2 HT.out.2.2.2.size h4⟩
  · have hr0 : (rightN k v && rightN k' v') = false := by simpa using hr
    rw [hr0] at R
    clear hr hr0
    go_enter Tryd.func4, Tryd.ntmps4
    go_wp2_with fail
    refine (R.out _).mono ?_
    rintro _ w1 ⟨rfl, g1⟩
    have W1 := hid ((((Gw.refl w).alloc _).alloc _).trans g1)
    go_wp2_with fail
    refine (L.out _ (HE.out.below W1.out.below)).mono ?_
    rintro _ w2 ⟨rfl, h2⟩
    go_wp2_with fail
    go_ret
    exact ⟨rfl, below_then W1.out.below W1.out.size h2⟩
end Go.Proofs.YtclpgacaecfjlaaDoor
