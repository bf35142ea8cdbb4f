/- stencillaw02.XnumRests: the plain law and the walk. -/
import Derived.Test.YtclpgacaecfjlaaDoorTur
namespace Go.Proofs.YtclpgacaecfjlaaDoor
open Go.RowKit Go.Sten Go.Lib Go.Sort Go.Shelf

theorem tmod_small (v d : Int) (h : d ≠ 0) : (0 < d → -d < v.tmod d ∧ v.tmod d < d) ∧ (d < 0 → d < v.tmod d ∧ v.tmod d < -d) := by
  have e := Int.natAbs_tmod v d
  have h2 : v.natAbs % d.natAbs < d.natAbs := Nat.mod_lt _ (by omega)
  omega
theorem tmod_rest (v d : Int) : (v - v.tmod d).tmod d = 0 := by
  have e := Int.mul_tdiv_add_tmod v d
  rw [show v - v.tmod d = d * v.tdiv d by omega]
  exact Int.mul_tmod_right _ _
theorem sub_rest (v v' : Int) (h1 : -1000000000000000000 ≤ v) (h2 : v ≤ 1000000000000000000) : addN 0 v (negK 0) (negV 0 (v.tmod v')) = (0, v - v.tmod v') := by
  have b := tmod_bd v v'
  rw [neg_fin _ (by omega) (by omega), show negK 0 = 0 from rfl, add_fin _ _ (by omega) (by omega)]
  rfl

set_option maxHeartbeats 4000000 in
set_option maxRecDepth 100000 in
theorem rests_any (k v k' v' : Int) (w : World) (hE : Env w) :
    Calls Tryd.prog 5 #[.agg #[.int .i64 k, .int .i64 v], .agg #[.int .i64 k', .int .i64 v']] w fun e w' => e = .returned (.bool true) ∧ Below w.heap.size w w' := by
  have R := hid (fun W => rights_any k v k' v' W)
  have L := hid (fun W h => live_any W h)
  have HE := hid hE
  clear hE
  by_cases hr : (rightN k v && rightN k' v') = true
  · rw [hr] at R
    by_cases hk : k = 0
    · by_cases hk' : k' = 0
      · by_cases hv' : v' = 0
        · have t1 : (k != 0) = false := by simp [hk]
          have t2 : (k' != 0) = false := by simp [hk']
          have t3 : (v' == 0) = true := by simp [hv']
          clear hk hk' hv' hr
          go_enter Tryd.func5, Tryd.ntmps5
          go_wp2_with fail
          refine (R.out _).mono ?_
          rintro _ w1 ⟨rfl, g1⟩
          have a1 := (((Box2.new w (.int .i64 k) (.int .i64 v) 24).old (.cells #[.int .i64 k', .int .i64 v'] 24)).gw g1)
          have b1 := ((Box2.new (w.alloc (.cells #[.int .i64 k, .int .i64 v] 24)) (.int .i64 k') (.int .i64 v') 24).gw g1).at (show _ = w.heap.size + 1 by simp)
          have W1 := hid ((((Gw.refl w).alloc _).alloc _).trans g1)
          clear g1 R
          obtain ⟨ca0, ca1, _, _, hza⟩ := a1
          obtain ⟨cb0, cb1, _, _, hzb⟩ := b1
          go_wp2_with fail
          refine (L.out _ (HE.out.below W1.out.below)).mono ?_
          rintro _ w2 ⟨rfl, h2⟩
          go_wp2_with fail
          go_ret
          exact ⟨rfl, below_then W1.out.below W1.out.size h2⟩
        · subst hk hk'
          have hr1 : rightN 0 v = true := by simp at hr; exact hr.1
          have hr2 : rightN 0 v' = true := by simp at hr; exact hr.2
          obtain ⟨p1, p2, _, _, _⟩ := right_bd hr1
          obtain ⟨q1, q2, _, _, _⟩ := right_bd hr2
          have M1 := hid (fun W => mod_any 0 v 0 v' W (by omega) (by omega))
          rw [show modN 0 v 0 v' = (0, v.tmod v') by simp [modN, hv']] at M1
          have S1 := hid (fun W => sub_any 0 v 0 (v.tmod v') W)
          rw [sub_rest v v' p1 p2] at S1
          have bd := tmod_bd v v'
          have sm := tmod_small v v' hv'
          have rs := tmod_rest v v'
          obtain ⟨m, hm⟩ : ∃ m, m = v.tmod v' := ⟨_, rfl⟩
          rw [← hm] at M1 S1 bd sm rs
          have dd : -1000000000000000000 ≤ v - m ∧ v - m ≤ 1000000000000000000 := by omega
          obtain ⟨d, hd⟩ : ∃ d, d = v - m := ⟨_, rfl⟩
          rw [← hd] at S1 rs dd
          have t0 : (v' == 0) = false := by simp [hv']
          have rs2 : IntKind.i64.wrap (d.tmod v') = 0 := by rw [rs]; rfl
          have hfld : ∀ W, (Instr.field 24 (.agg #[.int .i64 0, .int .i64 d]) 1).run Tryd.prog W = .ok (.int .i64 d) W := fun W => by kernel_rfl
          have mb : -1000000000000000000 ≤ m ∧ m ≤ 1000000000000000000 := by omega
          obtain ⟨mb1, mb2⟩ := mb
          clear hr hr1 hr2 hm hd dd
          go_enter Tryd.func5, Tryd.ntmps5
          go_wp2_with fail
          refine (R.out _).mono ?_
          rintro _ w1 ⟨rfl, g1⟩
          have a1 := (((Box2.new w (.int .i64 0) (.int .i64 v) 24).old (.cells #[.int .i64 0, .int .i64 v'] 24)).gw g1)
          have b1 := ((Box2.new (w.alloc (.cells #[.int .i64 0, .int .i64 v] 24)) (.int .i64 0) (.int .i64 v') 24).gw g1).at (show _ = w.heap.size + 1 by simp)
          have W1 := hid ((((Gw.refl w).alloc _).alloc _).trans g1)
          have HA := hid a1
          have HB := hid b1
          clear g1 R
          obtain ⟨ca0, ca1, _, _, hza⟩ := a1
          obtain ⟨cb0, cb1, _, _, hzb⟩ := b1
          go_wp2_with fail
          refine (M1.out _).mono ?_
          rintro _ w2 ⟨rfl, g2⟩
          have HA2 := hid (HA.out.gw g2)
          have HB2 := hid (HB.out.gw g2)
          have W2 := hid (W1.out.trans g2)
          clear HA HB W1 g2 ca0 ca1 hza cb0 cb1 hzb
          go_wp2_with fail
          have T := hid (show T3 w (w2.alloc (.cells #[.int .i64 0, .int .i64 m] 24)) w.heap.size (w.heap.size + 1) w2.heap.size 0 v 0 v' 0 m from
            ⟨HA2.out.old _, HB2.out.old _, Box2.new _ _ _ _, (W2.out.alloc _).below⟩)
          generalize w2.alloc (.cells #[.int .i64 0, .int .i64 m] 24) = W3 at T ⊢
          obtain ⟨b5, hb5⟩ : ∃ b5, b5 = w2.heap.size := ⟨_, rfl⟩
          rw [← hb5] at T ⊢
          obtain ⟨b3, hb3⟩ : ∃ b3, b3 = w.heap.size + 1 := ⟨_, rfl⟩
          rw [← hb3] at T ⊢
          obtain ⟨b2, hb2⟩ : ∃ b2, b2 = w.heap.size := ⟨_, rfl⟩
          have T' : Hid (T3 w W3 b2 b3 b5 0 v 0 v' 0 m) := by rw [hb2]; exact T.out
          rw [← hb2]
          clear T hb5 hb3 hb2 HA2 HB2 W2
          have k0 := T'.out.cells
          have k0d := T'.out.drew.cells
          have tm : ((m != 0) = false) ∨ ((m != 0) = true ∧ decide (m < 0) = decide (v < 0)) := by
            by_cases h : m = 0
            · left; simp [h]
            · right
              refine ⟨by simp [h], ?_⟩
              by_cases hv : v < 0
              · have := bd.2 hv; rw [decide_eq_true hv, decide_eq_true (by omega)]
              · have := bd.1 (by omega); rw [decide_eq_false hv, decide_eq_false (by omega)]
          go_upto_region 4 with (fail)
          go_cut [57] from 31 (fun s57 wx => s57 = .bool false ∧ T3 w wx b2 b3 b5 0 v 0 v' 0 m)
          case first =>
            rcases tm with tm1 | ⟨tm1, tm2⟩
            · clear bd sm
              refine wp_region_held_drew (S := (fun w' => w'.cell? ⟨b2, 0, none⟩ = some (.int .i64 0) ∧ w'.cell? ⟨b2, 1, none⟩ = some (.int .i64 v) ∧ w'.cell? ⟨b3, 0, none⟩ = some (.int .i64 0) ∧ w'.cell? ⟨b3, 1, none⟩ = some (.int .i64 v') ∧ w'.cell? ⟨b5, 0, none⟩ = some (.int .i64 0) ∧ w'.cell? ⟨b5, 1, none⟩ = some (.int .i64 m))) (by kernel_rfl) k0d (fun hHeld => ?_)
              refine' wpAnyH_take (i := 0) (v := ?v0) rfl (by kernel_rfl) (by kernel_rfl) (by kernel_rfl) (fun _ _ _ h => h) (Or.inl ⟨by rfl, ?h0⟩) (by assumption) ?r0
              case h0 => (intro wq hSw; (try dsimp only at hSw); go_simp; try with_reducible rfl)
              simp only [List.getElem_toArray, List.getElem_cons_zero, Act.put, List.setIfInBounds_toArray, List.set_cons_zero, List.set_cons_succ]
              refine' wpAnyH_take (i := 1) (v := ?v1) rfl (by kernel_rfl) (by kernel_rfl) (by kernel_rfl) (fun _ _ _ h => h) (Or.inl ⟨by rfl, ?h1⟩) (by assumption) ?r1
              case h1 => (intro wq hSw; (try dsimp only at hSw); go_simp; try with_reducible rfl)
              simp only [List.getElem_toArray, List.getElem_cons_succ, List.getElem_cons_zero, Act.put, List.setIfInBounds_toArray, List.set_cons_zero, List.set_cons_succ]
              refine' wpAnyH_take (i := 2) (v := ?v2) rfl (by kernel_rfl) (by kernel_rfl) (by kernel_rfl) (fun _ _ _ h => h) (Or.inl ⟨by rfl, ?h2⟩) (by assumption) ?r2
              case h2 => (intro wq hSw; (try dsimp only at hSw); go_simp; try with_reducible rfl)
              simp only [List.getElem_toArray, List.getElem_cons_succ, List.getElem_cons_zero, Act.put, List.setIfInBounds_toArray, List.set_cons_zero, List.set_cons_succ]
              refine' wpAnyH_take (i := 3) (v := ?v3) rfl (by kernel_rfl) (by kernel_rfl) (by kernel_rfl) (fun _ _ _ h => h) (Or.inl ⟨by rfl, ?h3⟩) (by assumption) ?r3
              case h3 => (intro wq hSw; (try dsimp only at hSw); go_simp; try with_reducible rfl)
              simp only [List.getElem_toArray, List.getElem_cons_succ, List.getElem_cons_zero, Act.put, List.setIfInBounds_toArray, List.set_cons_zero, List.set_cons_succ]
              refine' wpAnyH_take (i := 4) (v := ?v4) rfl (by kernel_rfl) (by kernel_rfl) (by kernel_rfl) (fun _ _ _ h => h) (Or.inl ⟨by rfl, ?h4⟩) (by assumption) ?r4
              case h4 => (intro wq hSw; (try dsimp only at hSw); go_simp; try with_reducible rfl)
              simp only [List.getElem_toArray, List.getElem_cons_succ, List.getElem_cons_zero, Act.put, List.setIfInBounds_toArray, List.set_cons_zero, List.set_cons_succ]
              refine' wpAnyH_take (i := 5) (v := ?v5) rfl (by kernel_rfl) (by kernel_rfl) (by kernel_rfl) (fun _ _ _ h => h) (Or.inl ⟨by rfl, ?h5⟩) (by assumption) ?r5
              case h5 => (intro wq hSw; (try dsimp only at hSw); go_simp; try with_reducible rfl)
              simp only [List.getElem_toArray, List.getElem_cons_succ, List.getElem_cons_zero, Act.put, List.setIfInBounds_toArray, List.set_cons_zero, List.set_cons_succ]
              refine' wpAnyH_take (i := 6) (v := ?v6) rfl (by kernel_rfl) (by kernel_rfl) (by kernel_rfl) (fun _ _ _ h => h) (Or.inl ⟨by rfl, ?h6⟩) (by assumption) ?r6
              case h6 => (intro wq hSw; (try dsimp only at hSw); go_simp; try with_reducible rfl)
              simp only [List.getElem_toArray, List.getElem_cons_succ, List.getElem_cons_zero, Act.put, List.setIfInBounds_toArray, List.set_cons_zero, List.set_cons_succ]
              refine' wpAnyH_take (i := 7) (v := ?v7) rfl (by kernel_rfl) (by kernel_rfl) (by kernel_rfl) (fun _ _ _ h => h) (Or.inl ⟨by rfl, ?h7⟩) (by assumption) ?r7
              case h7 => (intro wq hSw; (try dsimp only at hSw); go_simp; try with_reducible rfl)
              simp only [List.getElem_toArray, List.getElem_cons_succ, List.getElem_cons_zero, Act.put, List.setIfInBounds_toArray, List.set_cons_zero, List.set_cons_succ]
              refine wpAnyH_take (i := 8) (v := undef) rfl (by kernel_rfl) (by kernel_rfl) (by kernel_rfl) (fun _ _ _ h => h) (Or.inr ⟨by rfl, rfl⟩) (by assumption) ?_
              simp only [List.getElem_toArray, List.getElem_cons_succ, List.getElem_cons_zero, Act.put, List.setIfInBounds_toArray, List.set_cons_zero, List.set_cons_succ]
              refine wpAnyH_take (i := 9) (v := undef) rfl (by kernel_rfl) (by kernel_rfl) (by kernel_rfl) (fun _ _ _ h => h) (Or.inr ⟨by rfl, rfl⟩) (by assumption) ?_
              simp only [List.getElem_toArray, List.getElem_cons_succ, List.getElem_cons_zero, Act.put, List.setIfInBounds_toArray, List.set_cons_zero, List.set_cons_succ]
              refine wpAnyH_take (i := 10) (v := undef) rfl (by kernel_rfl) (by kernel_rfl) (by kernel_rfl) (fun _ _ _ h => h) (Or.inr ⟨by rfl, rfl⟩) (by assumption) ?_
              simp only [List.getElem_toArray, List.getElem_cons_succ, List.getElem_cons_zero, Act.put, List.setIfInBounds_toArray, List.set_cons_zero, List.set_cons_succ]
              refine wpAnyH_take (i := 11) (v := undef) rfl (by kernel_rfl) (by kernel_rfl) (by kernel_rfl) (fun _ _ _ h => h) (Or.inr ⟨by rfl, rfl⟩) (by assumption) ?_
              simp only [List.getElem_toArray, List.getElem_cons_succ, List.getElem_cons_zero, Act.put, List.setIfInBounds_toArray, List.set_cons_zero, List.set_cons_succ]
              refine wpAnyH_take (i := 12) (v := undef) rfl (by kernel_rfl) (by kernel_rfl) (by kernel_rfl) (fun _ _ _ h => h) (Or.inr ⟨by rfl, rfl⟩) (by assumption) ?_
              simp only [List.getElem_toArray, List.getElem_cons_succ, List.getElem_cons_zero, Act.put, List.setIfInBounds_toArray, List.set_cons_zero, List.set_cons_succ]
              refine wpAnyH_take (i := 13) (v := undef) rfl (by kernel_rfl) (by kernel_rfl) (by kernel_rfl) (fun _ _ _ h => h) (Or.inr ⟨by rfl, rfl⟩) (by assumption) ?_
              simp only [List.getElem_toArray, List.getElem_cons_succ, List.getElem_cons_zero, Act.put, List.setIfInBounds_toArray, List.set_cons_zero, List.set_cons_succ]
              refine wpAnyH_take (i := 14) (v := undef) rfl (by kernel_rfl) (by kernel_rfl) (by kernel_rfl) (fun _ _ _ h => h) (Or.inr ⟨by rfl, rfl⟩) (by assumption) ?_
              simp only [List.getElem_toArray, List.getElem_cons_succ, List.getElem_cons_zero, Act.put, List.setIfInBounds_toArray, List.set_cons_zero, List.set_cons_succ]
              refine' wpAnyH_take (i := 15) (v := ?v15) rfl (by kernel_rfl) (by kernel_rfl) (by kernel_rfl) (fun _ _ _ h => h) (Or.inl ⟨by rfl, ?h15⟩) (by assumption) ?r15
              case h15 => (intro wq hSw; (try dsimp only at hSw); go_simp; try with_reducible rfl)
              simp only [List.getElem_toArray, List.getElem_cons_succ, List.getElem_cons_zero, Act.put, List.setIfInBounds_toArray, List.set_cons_zero, List.set_cons_succ]
              refine' wpAnyH_take (i := 16) (v := ?v16) rfl (by kernel_rfl) (by kernel_rfl) (by kernel_rfl) (fun _ _ _ h => h) (Or.inl ⟨by rfl, ?h16⟩) (by assumption) ?r16
              case h16 => (intro wq hSw; (try dsimp only at hSw); go_simp; try with_reducible rfl)
              simp only [List.getElem_toArray, List.getElem_cons_succ, List.getElem_cons_zero, Act.put, List.setIfInBounds_toArray, List.set_cons_zero, List.set_cons_succ]
              refine' wpAnyH_take (i := 17) (v := ?v17) rfl (by kernel_rfl) (by kernel_rfl) (by kernel_rfl) (fun _ _ _ h => h) (Or.inl ⟨by rfl, ?h17⟩) (by assumption) ?r17
              case h17 => (intro wq hSw; (try dsimp only at hSw); go_simp; try with_reducible rfl)
              simp only [List.getElem_toArray, List.getElem_cons_succ, List.getElem_cons_zero, Act.put, List.setIfInBounds_toArray, List.set_cons_zero, List.set_cons_succ]
              refine' wpAnyH_take (i := 18) (v := ?v18) rfl (by kernel_rfl) (by kernel_rfl) (by kernel_rfl) (fun _ _ _ h => h) (Or.inl ⟨by rfl, ?h18⟩) (by assumption) ?r18
              case h18 => (intro wq hSw; (try dsimp only at hSw); go_simp; try with_reducible rfl)
              simp only [List.getElem_toArray, List.getElem_cons_succ, List.getElem_cons_zero, Act.put, List.setIfInBounds_toArray, List.set_cons_zero, List.set_cons_succ]
              refine' wpAnyH_take (i := 19) (v := ?v19) rfl (by kernel_rfl) (by kernel_rfl) (by kernel_rfl) (fun _ _ _ h => h) (Or.inl ⟨by rfl, ?h19⟩) (by assumption) ?r19
              case h19 => (intro wq hSw; (try dsimp only at hSw); go_simp; try with_reducible rfl)
              simp only [List.getElem_toArray, List.getElem_cons_succ, List.getElem_cons_zero, Act.put, List.setIfInBounds_toArray, List.set_cons_zero, List.set_cons_succ]
              refine' wpAnyH_take (i := 22) (v := ?v22) rfl (by kernel_rfl) (by kernel_rfl) (by kernel_rfl) (fun _ _ _ h => h) (Or.inl ⟨by rfl, ?h22⟩) (by assumption) ?r22
              case h22 => (intro wq hSw; (try dsimp only at hSw); go_simp; try with_reducible rfl)
              simp only [List.getElem_toArray, List.getElem_cons_succ, List.getElem_cons_zero, Act.put, List.setIfInBounds_toArray, List.set_cons_zero, List.set_cons_succ]
              refine' wpAnyH_take (i := 23) (v := ?v23) rfl (by kernel_rfl) (by kernel_rfl) (by kernel_rfl) (fun _ _ _ h => h) (Or.inl ⟨by rfl, ?h23⟩) (by assumption) ?r23
              case h23 => (intro wq hSw; (try dsimp only at hSw); go_simp; try with_reducible rfl)
              simp only [List.getElem_toArray, List.getElem_cons_succ, List.getElem_cons_zero, Act.put, List.setIfInBounds_toArray, List.set_cons_zero, List.set_cons_succ]
              refine wpAnyH_ready (rs := [20]) (by kernel_rfl) (by simp) ?_
              refine AllReadyH.cons rfl (fun K hK => ?_) ?_
              · go_simp
                (with_reducible refine (S1.out _).mono ?_)
                rintro e w4 ⟨rfl, g4⟩
                have T4 : Aside (T3 w w4 b2 b3 b5 0 v 0 v' 0 m) := T'.out.below g4.undrew.below
                have k1 := T4.out.cells
                refine hK.out _ _ k1 (fun hHeld => ?_)
                refine' wpAnyH_take (i := 21) (v := ?v21) rfl (by kernel_rfl) (by kernel_rfl) (by kernel_rfl) (fun _ _ _ h => h) (Or.inl ⟨by rfl, ?h21⟩) (by assumption) ?r21
                case h21 => (intro wq hSw; (try dsimp only at hSw); go_simp; try with_reducible rfl)
                simp only [List.getElem_toArray, List.getElem_cons_succ, List.getElem_cons_zero, Act.put, List.setIfInBounds_toArray, List.set_cons_zero, List.set_cons_succ]
                refine' wpAnyH_take (i := 24) (v := ?v24) rfl (by kernel_rfl) (by kernel_rfl) (by kernel_rfl) (fun _ _ _ h => h) (Or.inl ⟨by rfl, ?h24⟩) (by assumption) ?r24
                case h24 => (intro wq hSw; (try dsimp only at hSw); go_simp; try with_reducible rfl)
                simp only [List.getElem_toArray, List.getElem_cons_succ, List.getElem_cons_zero, Act.put, List.setIfInBounds_toArray, List.set_cons_zero, List.set_cons_succ]
                refine' wpAnyH_take (i := 25) (v := ?v25) rfl (by kernel_rfl) (by kernel_rfl) (by kernel_rfl) (fun _ _ _ h => h) (Or.inl ⟨by rfl, ?h25⟩) (by assumption) ?r25
                case h25 => (intro wq hSw; (try dsimp only at hSw); go_simp; try with_reducible rfl)
                simp only [List.getElem_toArray, List.getElem_cons_succ, List.getElem_cons_zero, Act.put, List.setIfInBounds_toArray, List.set_cons_zero, List.set_cons_succ]
                refine' wpAnyH_take (i := 26) (v := ?v26) rfl (by kernel_rfl) (by kernel_rfl) (by kernel_rfl) (fun _ _ _ h => h) (Or.inl ⟨by rfl, ?h26⟩) (by assumption) ?r26
                case h26 => (intro wq hSw; (try dsimp only at hSw); go_simp; try with_reducible rfl)
                simp only [List.getElem_toArray, List.getElem_cons_succ, List.getElem_cons_zero, Act.put, List.setIfInBounds_toArray, List.set_cons_zero, List.set_cons_succ]
                refine wpAnyH_done (by kernel_rfl) ?_ _
                go_wp2_with fail
                go_meet
                exact ⟨rfl, T4.out⟩
              · exact fun i hi => by cases hi
            · obtain ⟨bb, hbb⟩ : ∃ bb, bb = decide (v < 0) := ⟨_, rfl⟩
              have tm3 := hbb.symm
              rw [← hbb] at tm2
              clear hbb bd sm
              go_region_held3 (fun w' => w'.cell? ⟨b2, 0, none⟩ = some (.int .i64 0) ∧ w'.cell? ⟨b2, 1, none⟩ = some (.int .i64 v) ∧ w'.cell? ⟨b3, 0, none⟩ = some (.int .i64 0) ∧ w'.cell? ⟨b3, 1, none⟩ = some (.int .i64 v') ∧ w'.cell? ⟨b5, 0, none⟩ = some (.int .i64 0) ∧ w'.cell? ⟨b5, 1, none⟩ = some (.int .i64 m))
                (first | with_reducible exact k1 | with_reducible exact k0 | with_reducible exact k0d)
                ((first
                  | (with_reducible refine (S1.out _).mono ?_
                     rintro e w4 ⟨rfl, g4⟩
                     have T4 : Aside (T3 w w4 b2 b3 b5 0 v 0 v' 0 m) := T'.out.below g4.undrew.below
                     have k1 := T4.out.cells)))
              all_goals (try go_wp2_with fail)
              all_goals go_meet
              all_goals exact ⟨rfl, T4.out⟩
          case rest =>
            obtain ⟨rfl, T⟩ := hcut
            have HT := hid T
            obtain ⟨c0, c1, c2, c3, c4, c5⟩ := T.cells
            clear T k0 k0d T' M1 S1 tm bd rs rs2 hfld
            have LV : Aside (∀ W, Below w.heap.size w W → Calls Tryd.prog 7 #[] W fun e w' => e = .returned (.bool true) ∧ Below W.heap.size W w') := fun W h => L.out W (HE.out.below h)
            go_wp2_with fail
            go_quiet (fail)
            have HT2 := hid (fun nd => HT.out.below (Go.Sten.below_drewN (Below.refl _ _) nd))
            by_cases hm0 : m < 0
            · by_cases hv0 : v' < 0
              · have f := sm.2 hv0
                clear sm
                go_wp2_with fail
                refine (LV.out _ (HT2.out _).2.2.2).mono ?_
                rintro _ w8 ⟨rfl, h8⟩
                go_wp2_with fail
                go_ret
                exact ⟨by first | rfl | (show Ending.returned (.bool (decide (-m < v'))) = _; rw [decide_eq_true (by omega)]), below_then (HT2.out _).2.2.2 (HT2.out _).2.2.2.size h8⟩
              · have f := sm.1 (by omega)
                clear sm
                go_wp2_with fail
                refine (LV.out _ (HT2.out _).2.2.2).mono ?_
                rintro _ w8 ⟨rfl, h8⟩
                go_wp2_with fail
                go_ret
                exact ⟨by first | rfl | (show Ending.returned (.bool (decide (-m < v'))) = _; rw [decide_eq_true (by omega)]), below_then (HT2.out _).2.2.2 (HT2.out _).2.2.2.size h8⟩
            · by_cases hv0 : v' < 0
              · have f := sm.2 hv0
                clear sm
                go_wp2_with fail
                refine (LV.out _ (HT2.out _).2.2.2).mono ?_
                rintro _ w8 ⟨rfl, h8⟩
                go_wp2_with fail
                go_ret
                exact ⟨by first | rfl | (show Ending.returned (.bool (decide (-m < v'))) = _; rw [decide_eq_true (by omega)]), below_then (HT2.out _).2.2.2 (HT2.out _).2.2.2.size h8⟩
              · have f := sm.1 (by omega)
                clear sm
                go_wp2_with fail
                refine (LV.out _ (HT2.out _).2.2.2).mono ?_
                rintro _ w8 ⟨rfl, h8⟩
                go_wp2_with fail
                go_ret
                exact ⟨by first | rfl | (show Ending.returned (.bool (decide (-m < v'))) = _; rw [decide_eq_true (by omega)]), below_then (HT2.out _).2.2.2 (HT2.out _).2.2.2.size h8⟩
      · have t1 : (k != 0) = false := by simp [hk]
        have t2 : (k' != 0) = true := by simp [hk']
        clear hk hk' hr
        go_enter Tryd.func5, Tryd.ntmps5
        go_wp2_with fail
        refine (R.out _).mono ?_
        rintro _ w1 ⟨rfl, g1⟩
        have a1 := (((Box2.new w (.int .i64 k) (.int .i64 v) 24).old (.cells #[.int .i64 k', .int .i64 v'] 24)).gw g1)
        have b1 := ((Box2.new (w.alloc (.cells #[.int .i64 k, .int .i64 v] 24)) (.int .i64 k') (.int .i64 v') 24).gw g1).at (show _ = w.heap.size + 1 by simp)
        have W1 := hid ((((Gw.refl w).alloc _).alloc _).trans g1)
        clear g1 R
        obtain ⟨ca0, ca1, _, _, hza⟩ := a1
        obtain ⟨cb0, cb1, _, _, hzb⟩ := b1
        go_wp2_with fail
        refine (L.out _ (HE.out.below W1.out.below)).mono ?_
        rintro _ w2 ⟨rfl, h2⟩
        go_wp2_with fail
        go_ret
        exact ⟨rfl, below_then W1.out.below W1.out.size h2⟩
    · have t1 : (k != 0) = true := by simp [hk]
      clear hk hr
      go_enter Tryd.func5, Tryd.ntmps5
      go_wp2_with fail
      refine (R.out _).mono ?_
      rintro _ w1 ⟨rfl, g1⟩
      have a1 := (((Box2.new w (.int .i64 k) (.int .i64 v) 24).old (.cells #[.int .i64 k', .int .i64 v'] 24)).gw g1)
      have b1 := ((Box2.new (w.alloc (.cells #[.int .i64 k, .int .i64 v] 24)) (.int .i64 k') (.int .i64 v') 24).gw g1).at (show _ = w.heap.size + 1 by simp)
      have W1 := hid ((((Gw.refl w).alloc _).alloc _).trans g1)
      clear g1 R
      obtain ⟨ca0, ca1, _, _, hza⟩ := a1
      obtain ⟨cb0, cb1, _, _, hzb⟩ := b1
      go_wp2_with fail
      refine (L.out _ (HE.out.below W1.out.below)).mono ?_
      rintro _ w2 ⟨rfl, h2⟩
      go_wp2_with fail
      go_ret
      exact ⟨rfl, below_then W1.out.below W1.out.size h2⟩
  · have hr0 : (rightN k v && rightN k' v') = false := by simpa using hr
    rw [hr0] at R
    clear hr hr0
    go_enter Tryd.func5, Tryd.ntmps5
    go_wp2_with fail
    refine (R.out _).mono ?_
    rintro _ w1 ⟨rfl, g1⟩
    have a1 := (((Box2.new w (.int .i64 k) (.int .i64 v) 24).old (.cells #[.int .i64 k', .int .i64 v'] 24)).gw g1)
    have b1 := ((Box2.new (w.alloc (.cells #[.int .i64 k, .int .i64 v] 24)) (.int .i64 k') (.int .i64 v') 24).gw g1).at (show _ = w.heap.size + 1 by simp)
    have W1 := hid ((((Gw.refl w).alloc _).alloc _).trans g1)
    clear g1 R
    obtain ⟨ca0, ca1, _, _, hza⟩ := a1
    obtain ⟨cb0, cb1, _, _, hzb⟩ := b1
    go_wp2_with fail
    refine (L.out _ (HE.out.below W1.out.below)).mono ?_
    rintro _ w2 ⟨rfl, h2⟩
    go_wp2_with fail
    go_ret
    exact ⟨rfl, below_then W1.out.below W1.out.size h2⟩
end Go.Proofs.YtclpgacaecfjlaaDoor
