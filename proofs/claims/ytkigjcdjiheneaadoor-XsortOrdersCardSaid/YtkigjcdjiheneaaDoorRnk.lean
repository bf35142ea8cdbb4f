/- The reference's numbers compared: rank, Less; two rows of ints compared: SameInts. -/
import Derived.Test.YtkigjcdjiheneaaDoorOpn
namespace Go.Proofs.YtkigjcdjiheneaaDoor
open Go.RowKit Go.Sten Go.Lib Go.Shelf

def rankN (k : Int) : Int := if k = 1 then 0 else if k = 3 then 1 else if k = 2 then 3 else 2
set_option maxHeartbeats 800000 in
theorem rank_any (k v : Int) (w : World) :
    Calls Tryd.prog 67 #[.agg #[.int .i64 k, .int .i64 v]] w fun e w' => e = .returned (.int .i64 (rankN k)) ∧ Gw w w' := by
  by_cases h1 : k = 1
  · subst h1
    go_enter Tryd.func67, Tryd.ntmps67
    go_wp2_with fail
    go_ret
    exact ⟨rfl, (Gw.refl w).alloc _⟩
  · by_cases h3 : k = 3
    · subst h3
      go_enter Tryd.func67, Tryd.ntmps67
      go_wp2_with fail
      go_ret
      exact ⟨rfl, (Gw.refl w).alloc _⟩
    · by_cases h2 : k = 2
      · subst h2
        go_enter Tryd.func67, Tryd.ntmps67
        go_wp2_with fail
        go_ret
        exact ⟨rfl, (Gw.refl w).alloc _⟩
      · have e : rankN k = 2 := by simp [rankN, h1, h2, h3]
        have E := hid e
        clear e
        go_enter Tryd.func67, Tryd.ntmps67
        go_wp2_with fail
        go_ret
        exact ⟨by rw [E.out]; rfl, (Gw.refl w).alloc _⟩

set_option maxHeartbeats 800000 in
set_option maxRecDepth 100000 in
/-- stencilref01.SameInts at two rows of one length that hold the same -/
theorem same_any (g h n c d : Nat) (O : List Nat) (w : World) (hn : n ≤ 1000) (hg : g < w.heap.size) (hh : h < w.heap.size)
    (h1 : ∀ j, j < n → w.cell? ⟨g, j, none⟩ = some (.int .i64 ((O.getD j 0 : Nat) : Int))) (h2 : ∀ j, j < n → w.cell? ⟨h, j, none⟩ = some (.int .i64 ((O.getD j 0 : Nat) : Int))) :
    Calls Tryd.prog 16 #[.slice (some ⟨g, 0, none⟩) n c, .slice (some ⟨h, 0, none⟩) n d] w fun e w' => e = .returned (.bool true) ∧ Gw w w' := by
  have H1 : Aside (∀ j, j < n → w.cell? ⟨g, j, none⟩ = some (.int .i64 ((O.getD j 0 : Nat) : Int))) := h1
  have H2 : Aside (∀ j, j < n → w.cell? ⟨h, j, none⟩ = some (.int .i64 ((O.getD j 0 : Nat) : Int))) := h2
  clear h1 h2
  go_enter Tryd.func16, Tryd.ntmps16
  go_wp2_with fail
  go_loopg [5] n (fun kx s5 wx => ∃ (i : Nat), s5 = .int .i64 i ∧ i ≤ n ∧ n - i ≤ kx ∧ Aside (Gw w wx))
  case atStart => exact ⟨0, rfl, by omega, by omega, Gw.refl _⟩
  case round =>
    obtain ⟨j, rfl, hjn, hkx, hgw⟩ := hrel
    by_cases hlt : j < n
    · have hltz : (j : Int) < (n : Int) := by omega
      obtain ⟨p, hp⟩ : ∃ p, p = O.getD j 0 := ⟨_, rfl⟩
      have c1 : wr.cell? ⟨g, j, none⟩ = some (.int .i64 p) := by rw [hp]; exact (hgw.out.cell (by exact hg)).trans (H1.out j hlt)
      have c2 : wr.cell? ⟨h, j, none⟩ = some (.int .i64 p) := by rw [hp]; exact (hgw.out.cell (by exact hh)).trans (H2.out j hlt)
      have b1 : (0 : Int) ≤ (j : Int) := by omega
      have b2 : ((j : Int)).toNat = j := by omega
      clear hp
      go_wp2_with fail
      go_quiet (fail)
      go_wp2_with fail
      go_roundg (n - (j + 1))
      case measure => omega
      case rel => exact ⟨j + 1, by go_num, by omega, by omega, hgw.out.drewN _⟩
    · have hltz : ¬ ((j : Int) < (n : Int)) := by omega
      go_wp2_with fail
      go_ret
      exact ⟨rfl, hgw.out⟩

/-- the reference's Less -/
def lessR (k v k' v' : Int) : Bool := if rankN k = rankN k' then (if rankN k = 2 then decide (v < v') else false) else decide (rankN k < rankN k')

set_option maxHeartbeats 4000000 in
set_option maxRecDepth 100000 in
theorem lessR_any (k v k' v' : Int) (w : World) :
    Calls Tryd.prog 50 #[.agg #[.int .i64 k, .int .i64 v], .agg #[.int .i64 k', .int .i64 v']] w fun e w' => e = .returned (.bool (lessR k v k' v')) ∧ Gw w w' := by
  go_enter Tryd.func50, Tryd.ntmps50
  have r1 := fun W => rank_any k v W
  have r2 := fun W => rank_any k' v' W
  obtain ⟨a, ha⟩ : ∃ a, a = rankN k := ⟨_, rfl⟩
  obtain ⟨b, hb⟩ : ∃ b, b = rankN k' := ⟨_, rfl⟩
  have HL : Hid (lessR k v k' v' = if a = b then (if a = 2 then decide (v < v') else false) else decide (a < b)) := by rw [ha, hb]; rfl
  rw [← ha] at r1
  rw [← hb] at r2
  clear ha hb
  obtain ⟨W1, hW1⟩ : ∃ W1, W1 = (w.alloc (.cells #[.int .i64 k, .int .i64 v] 39)).alloc (.cells #[.int .i64 k', .int .i64 v'] 39) := ⟨_, rfl⟩
  have HC : Aside (∀ W, Gw W1 W → W.cell? ⟨w.heap.size, 0, none⟩ = some (.int .i64 k) ∧ W.cell? ⟨w.heap.size, 1, none⟩ = some (.int .i64 v) ∧ W.cell? ⟨w.heap.size + 1, 0, none⟩ = some (.int .i64 k') ∧ W.cell? ⟨w.heap.size + 1, 1, none⟩ = some (.int .i64 v')) := by
    intro W g
    have e0 : W1.cell? ⟨w.heap.size, 0, none⟩ = some (.int .i64 k) := by rw [hW1]; simp
    have e1 : W1.cell? ⟨w.heap.size, 1, none⟩ = some (.int .i64 v) := by rw [hW1]; simp
    have e2 : W1.cell? ⟨w.heap.size + 1, 0, none⟩ = some (.int .i64 k') := by rw [hW1]; simp
    have e3 : W1.cell? ⟨w.heap.size + 1, 1, none⟩ = some (.int .i64 v') := by rw [hW1]; simp
    exact ⟨(g.cell (World.block_lt_of_cell? _ _ e0)).trans e0, (g.cell (World.block_lt_of_cell? _ _ e1)).trans e1, (g.cell (World.block_lt_of_cell? _ _ e2)).trans e2, (g.cell (World.block_lt_of_cell? _ _ e3)).trans e3⟩
  have HG : Aside (Gw w W1) := by rw [hW1]; exact ((Gw.refl w).alloc _).alloc _
  have R1 : Aside (∀ W, Gw W1 W → Calls Tryd.prog 67 #[.agg #[.int .i64 k, .int .i64 v]] W fun e w' => e = .returned (.int .i64 a) ∧ Gw W1 w') := fun W g => (r1 W).mono fun e w' ⟨h1, h2⟩ => ⟨h1, g.trans h2⟩
  have R2 : Aside (∀ W, Gw W1 W → Calls Tryd.prog 67 #[.agg #[.int .i64 k', .int .i64 v']] W fun e w' => e = .returned (.int .i64 b) ∧ Gw W1 w') := fun W g => (r2 W).mono fun e w' ⟨h1, h2⟩ => ⟨h1, g.trans h2⟩
  clear r1 r2
  go_upto_region 1 with (fail)
  rw [← hW1]
  have k0 := HC.out W1 (Gw.refl _)
  clear hW1
  by_cases hab : a = b
  · subst hab
    by_cases ha2 : a = 2
    · subst ha2
      go_region_held3 (fun w' => w'.cell? ⟨w.heap.size, 0, none⟩ = some (.int .i64 k) ∧ w'.cell? ⟨w.heap.size, 1, none⟩ = some (.int .i64 v) ∧ w'.cell? ⟨w.heap.size + 1, 0, none⟩ = some (.int .i64 k') ∧ w'.cell? ⟨w.heap.size + 1, 1, none⟩ = some (.int .i64 v'))
        (first
          | with_reducible exact kD | with_reducible exact kC | with_reducible exact kB | with_reducible exact kA | with_reducible exact k0
          | (with_reducible refine HC.out _ ?_
             repeat (with_reducible (first | assumption | exact Gw.refl _ | apply Gw.drewN | apply Gw.drew))))
        ((first
          | (with_reducible refine (R1.out _ ?hx1).mono ?_
             case hx1 => (repeat (with_reducible (first | assumption | exact Gw.refl _ | apply Gw.drewN | apply Gw.drew)))
             rintro e wA1 ⟨rfl, gA1⟩; have kA := HC.out wA1 gA1)
          | (with_reducible refine (R2.out _ ?hy1).mono ?_
             case hy1 => (repeat (with_reducible (first | assumption | exact Gw.refl _ | apply Gw.drewN | apply Gw.drew)))
             rintro e wB1 ⟨rfl, gB1⟩; have kB := HC.out wB1 gB1)))
      obtain ⟨f0, f1, f2, f3⟩ := kB
      go_wp2_with fail
      refine (R1.out _ gB1).mono ?_
      rintro _ wC ⟨rfl, gC⟩
      obtain ⟨e0, e1, e2, e3⟩ := HC.out wC gC
      go_wp2_with fail
      go_ret
      exact ⟨by rw [HL.out]; rfl, HG.out.trans gC⟩
    · have ha2' : ¬ (a = 2) := ha2
      have E : Hid (lessR k v k' v' = false) := by show _ = _; rw [HL.out]; simp [ha2]
      clear HL
      go_region_held3 (fun w' => w'.cell? ⟨w.heap.size, 0, none⟩ = some (.int .i64 k) ∧ w'.cell? ⟨w.heap.size, 1, none⟩ = some (.int .i64 v) ∧ w'.cell? ⟨w.heap.size + 1, 0, none⟩ = some (.int .i64 k') ∧ w'.cell? ⟨w.heap.size + 1, 1, none⟩ = some (.int .i64 v'))
        (first
          | with_reducible exact kD | with_reducible exact kC | with_reducible exact kB | with_reducible exact kA | with_reducible exact k0
          | (with_reducible refine HC.out _ ?_
             repeat (with_reducible (first | assumption | exact Gw.refl _ | apply Gw.drewN | apply Gw.drew))))
        ((first
          | (with_reducible refine (R1.out _ ?hx2).mono ?_
             case hx2 => (repeat (with_reducible (first | assumption | exact Gw.refl _ | apply Gw.drewN | apply Gw.drew)))
             rintro e wA1 ⟨rfl, gA1⟩; have kA := HC.out wA1 gA1)
          | (with_reducible refine (R2.out _ ?hy2).mono ?_
             case hy2 => (repeat (with_reducible (first | assumption | exact Gw.refl _ | apply Gw.drewN | apply Gw.drew)))
             rintro e wB1 ⟨rfl, gB1⟩; have kB := HC.out wB1 gB1)))
      obtain ⟨f0, f1, f2, f3⟩ := kB
      go_wp2_with fail
      refine (R1.out _ gB1).mono ?_
      rintro _ wC ⟨rfl, gC⟩
      obtain ⟨e0, e1, e2, e3⟩ := HC.out wC gC
      go_wp2_with fail
      go_ret
      exact ⟨by rw [E.out]; rfl, HG.out.trans gC⟩
  · have E : Hid (lessR k v k' v' = decide (a < b)) := by show _ = _; rw [HL.out, if_neg hab]
    clear HL
    go_region_held3 (fun w' => w'.cell? ⟨w.heap.size, 0, none⟩ = some (.int .i64 k) ∧ w'.cell? ⟨w.heap.size, 1, none⟩ = some (.int .i64 v) ∧ w'.cell? ⟨w.heap.size + 1, 0, none⟩ = some (.int .i64 k') ∧ w'.cell? ⟨w.heap.size + 1, 1, none⟩ = some (.int .i64 v'))
      (first
        | with_reducible exact kD | with_reducible exact kC | with_reducible exact kB | with_reducible exact kA | with_reducible exact k0
        | (with_reducible refine HC.out _ ?_
           repeat (with_reducible (first | assumption | exact Gw.refl _ | apply Gw.drewN | apply Gw.drew))))
      ((first
        | (with_reducible refine (R1.out _ ?hx3).mono ?_
           case hx3 => (repeat (with_reducible (first | assumption | exact Gw.refl _ | apply Gw.drewN | apply Gw.drew)))
           rintro e wA1 ⟨rfl, gA1⟩; have kA := HC.out wA1 gA1)
        | (with_reducible refine (R2.out _ ?hy3).mono ?_
           case hy3 => (repeat (with_reducible (first | assumption | exact Gw.refl _ | apply Gw.drewN | apply Gw.drew)))
           rintro e wB1 ⟨rfl, gB1⟩; have kB := HC.out wB1 gB1)))
    go_upto_region 2 with (fail)
    go_region_held3 (fun w' => w'.cell? ⟨w.heap.size, 0, none⟩ = some (.int .i64 k) ∧ w'.cell? ⟨w.heap.size, 1, none⟩ = some (.int .i64 v) ∧ w'.cell? ⟨w.heap.size + 1, 0, none⟩ = some (.int .i64 k') ∧ w'.cell? ⟨w.heap.size + 1, 1, none⟩ = some (.int .i64 v'))
      (first
        | with_reducible exact kD | with_reducible exact kC | with_reducible exact kB | with_reducible exact kA | with_reducible exact k0
        | (with_reducible refine HC.out _ ?_
           repeat (with_reducible (first | assumption | exact Gw.refl _ | apply Gw.drewN | apply Gw.drew))))
      ((first
        | (with_reducible refine (R1.out _ ?hx4).mono ?_
           case hx4 => (repeat (with_reducible (first | assumption | exact Gw.refl _ | apply Gw.drewN | apply Gw.drew)))
           rintro e wC1 ⟨rfl, gC1⟩; have kC := HC.out wC1 gC1)
        | (with_reducible refine (R2.out _ ?hy4).mono ?_
           case hy4 => (repeat (with_reducible (first | assumption | exact Gw.refl _ | apply Gw.drewN | apply Gw.drew)))
           rintro e wD1 ⟨rfl, gD1⟩; have kD := HC.out wD1 gD1)))
    go_wp2_with fail
    go_ret
    exact ⟨by rw [E.out]; rfl, HG.out.trans gD1⟩
end Go.Proofs.YtkigjcdjiheneaaDoor
