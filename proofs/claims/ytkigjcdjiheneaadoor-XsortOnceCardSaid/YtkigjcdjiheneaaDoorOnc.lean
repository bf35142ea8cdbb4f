/- stencillaw13.XsortOnce: the plain law and the walk. -/
import Derived.Test.YtkigjcdjiheneaaDoorRws
import Derived.Test.YtkigjcdjiheneaaDoorFmt
namespace Go.Proofs.YtkigjcdjiheneaaDoor
open Go.RowKit Go.Sten Go.Lib Go.Shelf

/-- what is ordered, its first row ahead of it -/
def again (L : List (List KeyD)) (n : Nat) : List (List KeyD) := L.getD 0 [] :: (ordR L n).map (fun p => L.getD p [])
theorem again_len (L : List (List KeyD)) (n : Nat) : (again L n).length = n + 1 := by simp [again, ordR_len]
theorem again_get (L : List (List KeyD)) (n p : Nat) (h0 : 0 < p) (hp : p < n + 1) : (again L n).getD p [] = L.getD ((ordR L n).getD (p - 1) 0) [] := by
  obtain ⟨q, rfl⟩ : ∃ q, p = q + 1 := ⟨p - 1, by omega⟩
  have hq : q < (ordR L n).length := by rw [ordR_len]; omega
  simp [again, List.getD, hq]

/-- WHAT IS ORDERED IS ORDERED: places but the first one come in their order -/
theorem once_law (L : List (List KeyD)) (n p q : Nat) (hpq : p < q) (hq : q < n + 1) (hp0 : (ordR (again L n) (n + 1)).getD p 0 ≠ 0) (hq0 : (ordR (again L n) (n + 1)).getD q 0 ≠ 0) :
    (ordR (again L n) (n + 1)).getD p 0 ≤ (ordR (again L n) (n + 1)).getD q 0 := by
  have h := ordR_sorted (again L n) (n + 1) p q hpq hq
  have ha := ordR_lt (again L n) (n + 1) p (by omega)
  have hb := ordR_lt (again L n) (n + 1) q hq
  generalize (ordR (again L n) (n + 1)).getD p 0 = a at h ha hp0 ⊢
  generalize (ordR (again L n) (n + 1)).getD q 0 = b at h hb hq0 ⊢
  have hK : (again L n).getD 0 [] = L.getD 0 [] := rfl
  rw [hK, again_get L n a (by omega) ha, again_get L n b (by omega) hb] at h
  rcases Nat.lt_or_ge b a with hlt | hge
  · have h2 := (ordR_sorted L n (b - 1) (a - 1) (by omega) (by omega)).1
    have hf := (rowCmp_pre (L.getD 0 []) 0).flip (L.getD ((ordR L n).getD (a - 1) 0) []) (L.getD ((ordR L n).getD (b - 1) 0) [])
    have h3 := h.2 (by omega)
    omega
  · exact hge

/-- the places that were seen are told true -/
def SeenAt (W : World) (sg n : Nat) (S : List Nat) : Prop := ∀ p, p < n → W.cell? ⟨sg, p, none⟩ = some (.bool (decide (p ∈ S))) ∧ W.frozen? ⟨sg, p, none⟩ = false
theorem SeenAt.start {w : World} {sg n : Nat} (h : w.ownsRow 0 4 1 (.slice (some ⟨sg, 0, none⟩) n n) n (madeCells #[.bool false] n).toList) : sg < w.heap.size ∧ SeenAt w sg n [] := by
  rcases h.2 with ⟨e, _⟩ | ⟨g, cap, cur, e, _, hh, _, _, _, ht⟩
  · cases e
  · simp only [Value.slice.injEq, Option.some.injEq, Addr.mk.injEq] at e
    obtain ⟨⟨rfl, _⟩, _, _⟩ := e
    refine ⟨lt_of_heap hh, fun p hp => ⟨?_, frozen_of_row w sg p cur 4 hh⟩⟩
    simp only [World.cell?, hh]
    have h1 : (madeCells #[Value.bool false] n).toList[p]? = some (.bool false) := by simp [madeCells, hp, Nat.mod_one]
    rw [← ht, List.getElem?_take, if_pos (by omega)] at h1
    simpa using h1
theorem SeenAt.same {W W' : World} {sg n : Nat} {S : List Nat} (h : SeenAt W sg n S) (hs : W'.heap[sg]? = W.heap[sg]?) : SeenAt W' sg n S := fun p hp =>
  ⟨(World.cell?_of_block (w := W) hs).trans (h p hp).1, (World.frozen?_of_block (w := W) hs).trans (h p hp).2⟩
theorem SeenAt.store {W : World} {sg n p : Nat} {S : List Nat} (h : SeenAt W sg n S) (hp : p < n) : SeenAt (W.setCell ⟨sg, p, none⟩ (.bool true)) sg n (S ++ [p]) := fun q hq => by
  refine ⟨?_, by rw [World.frozen?_setCell]; exact (h q hq).2⟩
  by_cases e : q = p
  · subst e
    rw [World.cell?_setCell_same _ _ _ (h q hq).1]
    simp
  · rw [World.cell?_setCell_other _ _ _ _ (by intro e'; simp only [Addr.mk.injEq] at e'; omega), (h q hq).1]
    simp [e]

set_option maxRecDepth 100000 in
set_option maxHeartbeats 400000 in
theorem once_zero (A : Option Addr) (cap : Nat) (w : World) : Calls Tryd.prog 5 #[.slice A 0 cap] w fun e w' => e = .returned (.bool true) ∧ Below w.heap.size w w' := by
  go_enter Tryd.func5, Tryd.ntmps5
  go_wp2_with fail
  refine (rows_zero A cap w).mono ?_
  rintro _ w1 ⟨rfl, rfl⟩
  go_wp2_with fail
  refine (order_nil _).mono ?_
  rintro _ w2 ⟨rfl, hb⟩
  obtain ⟨i4, hj, hy0, hy1, hy2⟩ := info_parts (show (Tryd.prog.info? 4).map (fun i => (i.zero, i.size, i.bytes)) = some (some (.bool false), 1, 1) by kernel_rfl)
  have hu34 : Tryd.prog.underlying 34 = some (.slice 4) := by kernel_rfl
  go_wp2_with (first
      | (at_make; refine wpList_make_full _ rfl _ _ 34 rfl 0 4 i4 (.bool false) 1 hu34 hj hy0 hy1 _ _ _ _ 0 rfl rfl rfl rfl (by omega) (by unfold maxLen; omega) (by omega) ?_))
  intro w2' _ hg2
  have hb' : Below w.heap.size w w2' := hb.grown hg2 hb.size (fun k hk => by cases hk)
  go_wp2_with fail
  refine wp_loop_rounds 1 ?_
  rw [rounds_succ]
  go_wp2_with fail
  refine (order_nil _).mono ?_
  rintro _ w3 ⟨rfl, hb3⟩
  go_wp2_with fail
  refine wp_loop_rounds 1 ?_
  rw [rounds_succ]
  go_wp2_with fail
  refine (live_any _).mono ?_
  rintro _ w4 ⟨rfl, h4⟩
  go_wp2_with fail
  go_ret
  exact ⟨rfl, below_both (below_both hb' hb3) h4⟩

set_option maxHeartbeats 4000000 in
set_option maxRecDepth 100000 in
theorem once_any (arg : Value) (L : List (List KeyD)) (w : World) (hrows : Calls Tryd.prog 15 #[arg] w fun e w' => Below w.heap.size w w' ∧ RowsOut w.heap.size L e w') (h0 : 0 < L.length) (hL : L.length ≤ 40) (hk : ∀ ks ∈ L, ks.length ≤ 6) :
    Calls Tryd.prog 5 #[arg] w fun e w' => e = .returned (.bool true) ∧ Below w.heap.size w w' := by
  obtain ⟨i35, hi, hz0, hz1, hz2⟩ := info_parts (show (Tryd.prog.info? 35).map (fun i => (i.zero, i.size, i.bytes)) = some (some (.slice none 0 0), 1, 24) by kernel_rfl)
  obtain ⟨i4, hj, hy0, hy1, hy2⟩ := info_parts (show (Tryd.prog.info? 4).map (fun i => (i.zero, i.size, i.bytes)) = some (some (.bool false), 1, 1) by kernel_rfl)
  have hu25 : Tryd.prog.underlying 25 = some (.slice 35) := by kernel_rfl
  have hu34 : Tryd.prog.underlying 34 = some (.slice 4) := by kernel_rfl
  obtain ⟨B, hB⟩ : ∃ B, B = w.heap.size := ⟨_, rfl⟩
  have HB : Hid (B = w.heap.size) := hB
  rw [← hB] at hrows ⊢
  have HR := hid hrows
  have HKL : Aside (∀ ks ∈ L, ks.length ≤ 6) := hk
  obtain ⟨n, hn⟩ : ∃ n, n = L.length := ⟨_, rfl⟩
  have HN : Hid (n = L.length) := hn
  rw [← hn] at h0 hL
  clear hrows hB hk hn
  go_enter Tryd.func5, Tryd.ntmps5
  go_wp2_with fail
  refine HR.out.mono ?_
  rintro e w1 ⟨hb1, hout⟩
  rcases hout with rfl | ⟨va, vb, xs, ys, rfl, hRa, _, _⟩
  · have LV := hid (live_any w1)
    go_wp2_with fail
    refine LV.out.mono ?_
    rintro _ w2 ⟨rfl, h2⟩
    go_wp2_with fail
    go_ret
    exact ⟨rfl, hb1.trans (h2.mono (by have := hb1.size; have := HB.out; omega))⟩
  · obtain ⟨rb, c, hva, hrbB, hRows, hcx⟩ := hRa.rowsAt (by have := HN.out; omega)
    rw [← HN.out] at hva
    subst hva
    have hord := hid (order_at rb c n L w1 HN.out.symm h0 (by omega) (fun ks h => Nat.le_trans (HKL.out ks h) (by omega)) hRows)
    have HB1 : Aside (Below B w w1) := hb1
    have HROWS : Aside (RowsAt w1 rb L) := hRows
    have HCX : Aside (∀ j x, xs[j]? = some x → w1.cell? ⟨rb, j, none⟩ = some x) := hcx
    have HRA : Aside (RB B w1 35 41 (.slice (some ⟨rb, 0, none⟩) n c) xs L) := hRa
    clear hb1 hRows hcx hRa
    go_wp2_with fail
    refine hord.out.mono ?_
    rintro _ w2 ⟨g, cap, rfl, hg, hb2, ho⟩
    have HB2 : Aside (Below w1.heap.size w1 w2) := hb2
    have HG : Aside (g < w2.heap.size) := World.block_lt_of_cell? _ _ (ho 0 h0)
    have HO : Aside (∀ j, j < n → w2.cell? ⟨g, j, none⟩ = some (.int .i64 (((ordR L n).getD j 0 : Nat) : Int))) := ho
    clear hb2 ho hord hg
    go_wp2_with (first
      | (at_make; refine wpList_make_full _ rfl _ _ 34 rfl 0 4 i4 (.bool false) 1 hu34 hj hy0 hy1 _ _ _ _ n rfl rfl rfl rfl (by rw [hy2]; omega) (by unfold maxLen; omega) (by omega) ?_))
    intro w3 hsn hg3
    obtain ⟨sg, hsg⟩ : ∃ sg, sg = w2.heap.size := ⟨_, rfl⟩
    rw [← hsg] at hsn ⊢
    obtain ⟨hs1, hs2⟩ := SeenAt.start hsn
    have HSG : Hid (sg = w2.heap.size) := hsg
    have HB3 : Aside (Below sg w2 w3) := by
      rw [hsg]
      exact (Below.refl _ _).grown hg3 (Nat.le_refl _) (fun k hk => by cases hk)
    have HS : Aside (SeenAt w3 sg n []) := hs2
    have HO3 : Aside (∀ j, j < n → w3.cell? ⟨g, j, none⟩ = some (.int .i64 (((ordR L n).getD j 0 : Nat) : Int))) := fun j hj => (HB3.out.cell (by show g < sg; rw [hsg]; exact HG)).trans (HO.out j hj)
    have hgs : g < sg := by rw [hsg]; exact HG
    have hrs : rb < sg := by rw [hsg]; exact Nat.lt_of_lt_of_le HROWS.out.1 HB2.out.size
    have HX3 : Aside (∀ j x, xs[j]? = some x → w3.cell? ⟨rb, j, none⟩ = some x) := fun j x hx => (HB3.out.cell (by exact hrs)).trans ((HB2.out.cell (by exact HROWS.out.1)).trans (HCX.out j x hx))
    clear hsn hg3 hs2 hsg HO HG HCX
    go_wp2_with fail
    go_loopg [9, 8] n (fun kx s9 s8 wr => ∃ (i : Nat) (v : Value), s9 = .int .i64 i ∧ v = s8 ∧ i ≤ n ∧ n - i ≤ kx ∧ Aside (wr.ownsRow (sg + 1) 35 1 v i (((ordR L n).take i).map (fun p => xs.getD p (.slice none 0 0)))) ∧ Aside (SeenAt wr sg n ((ordR L n).take i)) ∧ Aside (Below sg w3 wr))
    case atStart => exact ⟨0, _, rfl, rfl, by omega, by omega, World.ownsRow_nil _ _ _ _, HS, Below.refl _ _⟩
    case round =>
      obtain ⟨i, v, rfl, rfl, hin, hkx, hown, hsee, hbel⟩ := hrel
      by_cases hlt : i < n
      · have hltz : (i : Int) < (n : Int) := by omega
        have hlo := ordR_len L n
        obtain ⟨q, hq⟩ : ∃ q, q = (ordR L n).getD i 0 := ⟨_, rfl⟩
        have hqn : q < n := by rw [hq]; exact ordR_lt L n i hlt
        have htk : (ordR L n).take (i + 1) = (ordR L n).take i ++ [q] := by
          rw [List.take_add_one, List.getElem?_eq_getElem (by omega), hq]
          simp [List.getD, hlo, hlt]
        have hnew : q ∉ (ordR L n).take i := by
          have hnd : (ordR L n).Nodup := (ordR_perm L n).nodup_iff.2 List.nodup_range
          have h2 := hnd.sublist (List.take_sublist (i + 1) _)
          rw [htk, List.nodup_append] at h2
          exact fun h => h2.2.2 q h q (by simp) rfl
        obtain ⟨x, hx⟩ : ∃ x, xs[q]? = some x := ⟨xs[q]'(by rw [HRA.out.2.1, ← HN.out]; exact hqn), List.getElem?_eq_getElem _⟩
        obtain ⟨r, hr⟩ : ∃ r, L[q]? = some r := ⟨L[q]'(by rw [← HN.out]; exact hqn), List.getElem?_eq_getElem _⟩
        obtain ⟨A, k, c', rfl⟩ : ∃ A k c, x = .slice A k c := by
          obtain ⟨x2, h1, h2⟩ := HRA.out.2.2 q r hr
          rw [hx] at h1
          obtain rfl : x = x2 := by simpa using h1
          obtain ⟨A, c2, e, _⟩ := own_row h2
          exact ⟨A, _, c2, e⟩
        have c1 : wr.cell? ⟨g, i, none⟩ = some (.int .i64 q) := by rw [hq]; exact (hbel.out.cell (by exact hgs)).trans (HO3.out i hlt)
        have c2 : wr.cell? ⟨rb, q, none⟩ = some (.slice A k c') := (hbel.out.cell (by exact hrs)).trans (HX3.out q _ hx)
        have c3 : wr.cell? ⟨sg, q, none⟩ = some (.bool false) := by rw [(hsee.out q hqn).1]; simp [hnew]
        have c4 : wr.frozen? ⟨sg, q, none⟩ = false := (hsee.out q hqn).2
        have HTK : Hid ((ordR L n).take (i + 1) = (ordR L n).take i ++ [q]) := htk
        have HXQ : Hid (xs.getD q (.slice none 0 0) = .slice A k c') := by show _ = _; simp [List.getD, hx]
        have b1 : (0 : Int) ≤ (q : Int) := by omega
        have b2 : (q : Int) < (n : Int) := by omega
        have b3 : ¬ ((q : Int) < 0) := by omega
        have b4 : ¬ ((n : Int) ≤ (q : Int)) := by omega
        have hgsg : g ≠ sg := by omega
        have hrsg : rb ≠ sg := by omega
        clear htk hnew hx hr hlo hq
        go_upto_region 15 with (fail)
        have S1 : Aside (SeenAt (wr.setCell ⟨sg, q, none⟩ (.bool true)) sg n ((ordR L n).take (i + 1))) := by rw [HTK.out]; exact hsee.out.store hqn
        have ob : ∀ o, v.ownBlock = some o → sg + 1 ≤ o := fun o ho => by
          rcases own_block hown.out with e | ⟨g', cur, e, hb', _⟩
          · rw [e] at ho; cases ho
          · rw [e] at ho
            obtain rfl : g' = o := by simpa using ho
            exact hb'
        have OW : wr.ownsRow (sg + 1) 35 1 v i (((ordR L n).take i).map (fun p => xs.getD p (.slice none 0 0))) := hown.out
        obtain ⟨VS, hVS⟩ : ∃ VS, VS = ((ordR L n).take i).map (fun p => xs.getD p (.slice none 0 0)) := ⟨_, rfl⟩
        have HVS : Hid (VS = ((ordR L n).take i).map (fun p => xs.getD p (.slice none 0 0))) := hVS
        rw [← hVS] at OW
        clear hVS
        have O1 : (wr.setCell ⟨sg, q, none⟩ (.bool true)).ownsRow (sg + 1) 35 1 v i VS :=
          own_same OW (fun o ho => Below.heap_setCell _ _ _ _ (by have := ob o ho; show o ≠ sg; omega))
        have L1 : Aside (Below sg w3 (wr.setCell ⟨sg, q, none⟩ (.bool true))) := hbel.out.setCell (by exact Nat.le_refl _) _
        have d1 : (wr.setCell ⟨sg, q, none⟩ (.bool true)).cell? ⟨g, i, none⟩ = some (.int .i64 q) := by rw [World.cell?_setCell_other _ _ _ _ (by intro e; simp only [Addr.mk.injEq] at e; omega)]; exact c1
        have d2 : (wr.setCell ⟨sg, q, none⟩ (.bool true)).cell? ⟨rb, q, none⟩ = some (.slice A k c') := by rw [World.cell?_setCell_other _ _ _ _ (by intro e; simp only [Addr.mk.injEq] at e; omega)]; exact c2
        have hsl : sg < wr.heap.size := Nat.lt_of_lt_of_le hs1 hbel.out.size
        have hsz : (wr.setCell ⟨sg, q, none⟩ (.bool true)).heap.size = wr.heap.size := by simp
        obtain ⟨ws, hws⟩ : ∃ ws, ws = wr.setCell ⟨sg, q, none⟩ (.bool true) := ⟨_, rfl⟩
        rw [← hws] at S1 O1 L1 d1 d2 hsz ⊢
        have hsl2 : sg + 1 ≤ ws.heap.size := by omega
        clear hws hsz OW hown hsee hbel c1 c2 c3 c4
        go_wp2_with (first
          | (at_builtin; refine wpList_append_own_at _ rfl _ _ 25 rfl (sg + 1) 35 i35 (.slice none 0 0) 1 24 hu25 hi hz0 hz1 hz2 rfl (by decide) _ _ _ rfl (O1.alloc _) ⟨ws.heap.size, 0, none⟩ 1 1 [.slice A k c'] rfl rfl (cell_one_new _ _ _) (by intro u hu; simp at hu; subst hu; rfl) (by unfold maxLen; omega) (by omega) (by simp; omega) ?_))
        intro v' w4 hown' hgrow _ _
        have O2 : Aside (w4.ownsRow (sg + 1) 35 1 v' (i + 1) (((ordR L n).take (i + 1)).map (fun p => xs.getD p (.slice none 0 0)))) := by
          rw [HTK.out, List.map_append, List.map_cons, List.map_nil, HXQ.out, ← HVS.out]; exact hown'
        have S2 : Aside (SeenAt w4 sg n ((ordR L n).take (i + 1))) := by
          refine S1.out.same ?_
          rw [hgrow.block sg (by simp; omega) (fun e => by have := ob sg e.symm; omega), Below.heap_alloc _ _ _ (by omega)]
        have L2 : Aside (Below sg w3 w4) := (L1.out.alloc (by omega) _).grown hgrow (by simp; omega) (fun o ho => by have := ob o ho; omega)
        clear hown' hgrow O1 S1 L1 d1 d2 ob HTK HXQ
        go_wp2_with fail
        go_roundg (n - (i + 1))
        case measure => omega
        case rel => exact ⟨i + 1, _, by go_num, rfl, by omega, by omega, O2, S2, L2⟩
      · have HE : Hid (i = n) := (show i = n by omega)
        have hltz : ¬ ((i : Int) < (n : Int)) := by omega
        have hlo := ordR_len L n
        have hown2 : wr.ownsRow (sg + 1) 35 1 v n ((ordR L n).map (fun p => xs.getD p (.slice none 0 0))) := by
          have h := hown.out
          rw [HE.out, List.take_of_length_le (by omega)] at h
          exact h
        obtain ⟨VS, hVS⟩ : ∃ VS, VS = (ordR L n).map (fun p => xs.getD p (.slice none 0 0)) := ⟨_, rfl⟩
        have HVS : Hid (VS = (ordR L n).map (fun p => xs.getD p (.slice none 0 0))) := hVS
        rw [← hVS] at hown2
        have hVl : VS.length = n := by rw [hVS]; simp [hlo]
        have hVo : ∀ u ∈ VS, u.oneCell' = true := by
          intro u hu
          rw [hVS] at hu
          obtain ⟨p, hp, rfl⟩ := List.mem_map.1 hu
          have hpn : p < n := by have := (ordR_perm L n).mem_iff.1 hp; simpa using this
          obtain ⟨x2, h1, h2⟩ := HRA.out.2.2 p (L[p]'(by rw [← HN.out]; exact hpn)) (List.getElem?_eq_getElem _)
          obtain ⟨A, c2, rfl, _⟩ := own_row h2
          simp [List.getD, h1, Value.oneCell']
        clear hVS
        obtain ⟨gs, cs, hv, hgs1, hvc⟩ : ∃ gs cs, v = .slice (some ⟨gs, 0, none⟩) n cs ∧ sg + 1 ≤ gs ∧ ∀ j u, VS[j]? = some u → wr.cell? ⟨gs, j, none⟩ = some u := by
          rcases hown2.2 with ⟨_, e⟩ | ⟨gs, cap, cur, e, h1, hh, _, _, _, ht⟩
          · omega
          · refine ⟨gs, cap, e, h1, fun j u hu => ?_⟩
            simp only [World.cell?, hh]
            have hj := (List.getElem?_eq_some_iff.1 hu).1
            rw [← ht, List.getElem?_take, if_pos (by omega)] at hu
            simpa using hu
        subst hv
        have hgsl : gs < wr.heap.size := by
          have : 0 < VS.length := by omega
          exact World.block_lt_of_cell? _ _ (hvc 0 VS[0] (List.getElem?_eq_getElem this))
        obtain ⟨r0, hr0⟩ : ∃ r, L[0]? = some r := ⟨L[0]'(by rw [← HN.out]; exact h0), List.getElem?_eq_getElem _⟩
        obtain ⟨x0, hx0, hown0⟩ := HRA.out.2.2 0 r0 hr0
        obtain ⟨A0, c0, hx0e, _⟩ := own_row hown0
        subst hx0e
        obtain ⟨k0, hk0⟩ : ∃ k0, k0 = r0.length := ⟨_, rfl⟩
        rw [← hk0] at hx0
        have cx0 : wr.cell? ⟨rb, 0, none⟩ = some (.slice A0 k0 c0) := (hbel.out.cell (by exact hrs)).trans (HX3.out 0 _ hx0)
        have hVS2 : ∀ (o : Obj) j u, VS[j]? = some u → (wr.alloc o).cell? ((⟨gs, 0, none⟩ : Addr).add j) = some u := fun o j u hu => by
          rw [WideShapes.add_plain, Nat.zero_add]
          exact (((Gw.refl wr).alloc o).cell (by exact hgsl)).trans (hvc j u hu)
        have hnew : ∀ x : Value, (wr.alloc (.cells #[x] 35)).ownsRow (sg + 1) 35 1 (.slice (some ⟨wr.heap.size, 0, none⟩) 1 1) 1 [x] := fun x =>
          ⟨rfl, Or.inr ⟨wr.heap.size, 1, #[x], rfl, by omega, heap_alloc_new _ _, Nat.le_refl _, by unfold maxLen; omega, rfl, rfl⟩⟩
        have hnpos : (0 : Int) < (n : Int) := by omega
        clear hk0 hown hsee hown0 hlo
        go_wp2_with (first
          | (at_builtin; refine wpList_append_own_at _ rfl _ _ 25 rfl (sg + 1) 35 i35 (.slice none 0 0) 1 24 hu25 hi hz0 hz1 hz2 rfl (by decide) _ 1 [.slice A0 k0 c0] rfl (hnew _) ⟨gs, 0, none⟩ n cs VS rfl (by omega) (hVS2 _) hVo (by unfold maxLen; omega) (by omega) (by simp; omega) ?_))
        intro v2 w5 hown5 hg5 _ _
        have HB5 : Aside (Below wr.heap.size wr w5) := (((Gw.refl wr).alloc _).below).grown hg5 (by simp) (fun k hk => by simp [Value.ownBlock] at hk; omega)
        have HO5 : Aside (w5.ownsRow (sg + 1) 35 1 v2 (1 + n) ([.slice A0 k0 c0] ++ VS)) := hown5
        have HV2 : Hid (v2 ≠ .slice none 0 0) := by
          intro e
          rcases hown5.2 with ⟨_, e2⟩ | ⟨_, _, _, e2, _⟩
          · omega
          · rw [e] at e2; cases e2
        clear hown5 hg5 hnew hVS2 hVo
        have HB15 : Aside (∀ p : Addr, p.block < w1.heap.size → w5.cell? p = w1.cell? p) := fun p hp => by
          have l1 := HB2.out.size
          have l2 := HB3.out.size
          have l3 := hbel.out.size
          have l4 := HSG.out
          rw [HB5.out.cell (by omega), hbel.out.cell (by omega), HB3.out.cell (by omega), HB2.out.cell hp]
        have hw15 : w1.heap.size ≤ w5.heap.size := by
          have l1 := HB2.out.size
          have l2 := HB3.out.size
          have l3 := hbel.out.size
          have l4 := HB5.out.size
          omega
        have HW5 : Aside (Below B w w5) := by
          have l0 := HB1.out.size
          have l1 := HB2.out.size
          have l2 := HB3.out.size
          have l3 := hbel.out.size
          have l4 := HB.out
          have l5 := HSG.out
          exact ((HB1.out.trans (HB2.out.mono (by omega))).trans (HB3.out.mono (by omega))).trans ((hbel.out.mono (by omega)).trans (HB5.out.mono (by omega)))
        obtain ⟨rb2, c2, rfl, hra2⟩ : ∃ rb2 c2, v2 = .slice (some ⟨rb2, 0, none⟩) (1 + n) c2 ∧ RowsAt w5 rb2 (again L n) := by
          rcases HO5.out.2 with ⟨e, _⟩ | ⟨g', cap', cur, e, h1, hh, _, _, _, ht⟩
          · exact absurd e HV2.out
          · refine ⟨g', cap', e, lt_of_heap hh, fun i2 row hi2 => ?_⟩
            have hcell : ∀ j u, ([.slice A0 k0 c0] ++ VS)[j]? = some u → w5.cell? ⟨g', j, none⟩ = some u := fun j u hu => by
              simp only [World.cell?, hh]
              have hj := (List.getElem?_eq_some_iff.1 hu).1
              rw [List.length_append, hVl] at hj
              rw [← ht, List.getElem?_take, if_pos (by simp at hj; omega)] at hu
              simpa using hu
            obtain ⟨p, hp1, hp2, hp3⟩ : ∃ p, p < n ∧ row = L.getD p [] ∧ ([.slice A0 k0 c0] ++ VS)[i2]? = some (xs.getD p (.slice none 0 0)) := by
              match i2, hi2 with
              | 0, hi2 =>
                refine ⟨0, h0, ?_, ?_⟩
                · simpa [again] using hi2.symm
                · simp [List.getD, hx0]
              | i3 + 1, hi2 =>
                have h5 : ((ordR L n).map (fun p => L.getD p []))[i3]? = some row := by simpa [again] using hi2
                rw [List.getElem?_map] at h5
                cases h6 : (ordR L n)[i3]? with
                | none => rw [h6] at h5; cases h5
                | some p =>
                  rw [h6] at h5
                  have hpn : p < n := by have := (ordR_perm L n).mem_iff.1 (List.mem_of_getElem? h6); simpa using this
                  refine ⟨p, hpn, by simpa using h5.symm, ?_⟩
                  rw [HVS.out]
                  simp [h6]
            obtain ⟨x2, q1, q2⟩ := HRA.out.2.2 p (L.getD p []) (by
              have : p < L.length := by rw [← HN.out]; exact hp1
              simp [List.getD, this])
            obtain ⟨A2, c2, rfl, q3⟩ := own_row q2
            have hgx : xs.getD p (.slice none 0 0) = .slice A2 (L.getD p []).length c2 := by simp only [List.getD, q1]; rfl
            rw [hgx] at hp3
            rw [hp2]
            exact ⟨A2, c2, hcell i2 _ hp3, q3.via HB15.out hw15⟩
        have hord2 := hid (order_at rb2 c2 (n + 1) (again L n) w5 (again_len L n) (by omega) (by omega) (by
          intro ks hks
          have hmem : ks = L.getD 0 [] ∨ ∃ p, ks = L.getD p [] := by
            rcases List.mem_cons.1 hks with h | h
            · exact Or.inl h
            · obtain ⟨p, _, rfl⟩ := List.mem_map.1 h
              exact Or.inr ⟨p, rfl⟩
          have hlen : ∀ p, (L.getD p []).length ≤ 1000 := fun p => by
            by_cases hpl : p < L.length
            · have hm : L.getD p [] ∈ L := by simp [List.getD, hpl]
              have := HKL.out _ hm
              omega
            · simp [List.getD, List.getElem?_eq_none (by omega : L.length ≤ p)]
          rcases hmem with h | ⟨p, h⟩ <;> rw [h] <;> exact hlen _) hra2)
        rw [Nat.add_comm n 1] at hord2
        clear HO5 HV2 hra2 hvc cx0 hx0 hr0
        go_wp2_with fail
        refine hord2.out.mono ?_
        rintro _ w6 ⟨gp, cp, rfl, hgp, hb6, hop⟩
        obtain ⟨N, hN⟩ : ∃ N, N = 1 + n := ⟨_, rfl⟩
        obtain ⟨P, hP⟩ : ∃ P, P = ordR (again L n) (1 + n) := ⟨_, rfl⟩
        rw [← hP, ← hN] at hop
        rw [← hN]
        have HOP : Aside (∀ j, j < N → w6.cell? ⟨gp, j, none⟩ = some (.int .i64 ((P.getD j 0 : Nat) : Int))) := hop
        have HGP : Aside (gp < w6.heap.size) := World.block_lt_of_cell? _ _ (hop 0 (by omega))
        have HLAW : Aside (∀ p q, p < q → q < N → P.getD p 0 ≠ 0 → P.getD q 0 ≠ 0 → P.getD p 0 ≤ P.getD q 0) := fun p q hpq hq h1 h2 => by
          rw [hP, Nat.add_comm 1 n] at h1 h2 ⊢
          exact once_law L n p q hpq (by omega) h1 h2
        have HLT : Aside (∀ p, p < N → P.getD p 0 < N) := fun p hp => by rw [hP, hN]; exact ordR_lt _ _ p (by omega)
        have HW6 : Aside (Below B w w6) := HW5.out.trans (hb6.mono (by have := HW5.out.size; have := HB.out; omega))
        have hN41 : N ≤ 41 := by omega
        clear hop hP hN hb6 hord2 hgp
        go_wp2_with fail
        go_loopg [12, 11] N (fun kx s12 s11 wx => ∃ (i : Nat) (last : Int), s12 = .int .i64 i ∧ s11 = .int .i64 last ∧ i ≤ N ∧ N - i ≤ kx ∧ Aside (∀ j, i ≤ j → j < N → P.getD j 0 ≠ 0 → last ≤ ((P.getD j 0 : Nat) : Int)) ∧ Aside (Gw w6 wx))
        case atStart => exact ⟨0, -1, rfl, rfl, by omega, by omega, fun j _ _ _ => by omega, Gw.refl _⟩
        case round =>
          obtain ⟨j, last, rfl, rfl, hjN, hkx, hlast, hgw⟩ := hrel
          by_cases hjl : j < N
          · have hjlz : (j : Int) < (N : Int) := by omega
            obtain ⟨pj, hpj⟩ : ∃ pj, pj = P.getD j 0 := ⟨_, rfl⟩
            have hc : wr.cell? ⟨gp, j, none⟩ = some (.int .i64 pj) := by rw [hpj]; exact (hgw.out.cell (by exact HGP)).trans (HOP.out j hjl)
            by_cases hz : pj = 0
            · have R1 : Aside (∀ q, j + 1 ≤ q → q < N → P.getD q 0 ≠ 0 → last ≤ ((P.getD q 0 : Nat) : Int)) := fun q h1 h2 h3 => hlast.out q (by omega) h2 h3
              subst hz
              clear hpj hlast
              go_wp2_with fail
              go_roundg (N - (j + 1))
              case measure => omega
              case rel => exact ⟨j + 1, last, by go_num, rfl, by omega, by omega, R1, hgw⟩
            · have hle : last ≤ (pj : Int) := by rw [hpj]; exact hlast.out j (Nat.le_refl _) hjl (by rw [← hpj]; exact hz)
              have hnl : ¬ ((pj : Int) < last) := by omega
              have hzz : ¬ ((pj : Int) = 0) := by omega
              have R1 : Aside (∀ q, j + 1 ≤ q → q < N → P.getD q 0 ≠ 0 → (pj : Int) ≤ ((P.getD q 0 : Nat) : Int)) := fun q h1 h2 h3 => by
                have := HLAW.out j q (by omega) h2 (by rw [← hpj]; exact hz) h3
                omega
              clear hpj hlast
              go_wp2_with fail
              go_roundg (N - (j + 1))
              case measure => omega
              case rel => exact ⟨j + 1, pj, by go_num, rfl, by omega, by omega, R1, hgw⟩
          · have hjlz : ¬ ((j : Int) < (N : Int)) := by omega
            have LV := hid (live_any wr)
            go_wp2_with fail
            refine LV.out.mono ?_
            rintro _ w7 ⟨rfl, h7⟩
            go_wp2_with fail
            go_ret
            exact ⟨rfl, HW6.out.trans (hgw.out.below.mono (by have := HW6.out.size; have := HB.out; omega) |>.trans (h7.mono (by have := HW6.out.size; have := hgw.out.size; have := HB.out; omega)))⟩
end Go.Proofs.YtkigjcdjiheneaaDoor
