/- stencilref02.Right and the laws' right, by their contracts. -/
import Derived.Test.YtclpgacaecfjlaaDoorAri
import Derived.Outline
namespace Go.Proofs.YtclpgacaecfjlaaDoor
open Go.RowKit Go.Sten Go.Lib

def rightN (k v : Int) : Bool := if k = 0 then decide (-1000000000000000000 ≤ v) && decide (v ≤ 1000000000000000000) else if k = 1 ∨ k = 2 ∨ k = 3 then decide (v = 0) else false

set_option maxHeartbeats 800000 in
set_option maxRecDepth 100000 in
theorem right_any (k v : Int) (w : World) :
    Calls Tryd.prog 6 #[.agg #[.int .i64 k, .int .i64 v]] w fun e w' => e = .returned (.bool (rightN k v)) ∧ Gw w w' := by
  by_cases h0 : k = 0
  · subst h0
    by_cases h1 : -1000000000000000000 ≤ v
    · by_cases h2 : v ≤ 1000000000000000000
      · have e : rightN 0 v = true := by simp [rightN, h1, h2]
        have E := hid e
        clear e
        go_enter Tryd.func6, Tryd.ntmps6
        go_wp2_with fail
        all_goals go_ret
        all_goals exact ⟨by rw [E.out]; rfl, (Gw.refl w).alloc _⟩
      · have e : rightN 0 v = false := by simp [rightN, h2]
        have E := hid e
        clear e
        go_enter Tryd.func6, Tryd.ntmps6
        go_wp2_with fail
        all_goals go_ret
        all_goals exact ⟨by rw [E.out]; rfl, (Gw.refl w).alloc _⟩
    · have e : rightN 0 v = false := by simp [rightN, h1]
      have E := hid e
      clear e
      go_enter Tryd.func6, Tryd.ntmps6
      go_wp2_with fail
      all_goals go_ret
      all_goals exact ⟨by rw [E.out]; rfl, (Gw.refl w).alloc _⟩
  · by_cases h1 : k = 1
    · subst h1
      by_cases hv : v = 0
      · subst hv
        go_enter Tryd.func6, Tryd.ntmps6
        go_wp2_with fail
        all_goals go_ret
        all_goals exact ⟨rfl, (Gw.refl w).alloc _⟩
      · have e : rightN 1 v = false := by simp [rightN, hv]
        have E := hid e
        clear e
        go_enter Tryd.func6, Tryd.ntmps6
        go_wp2_with fail
        all_goals go_ret
        all_goals exact ⟨by rw [E.out]; simp [hv], (Gw.refl w).alloc _⟩
    · by_cases h2 : k = 2
      · subst h2
        by_cases hv : v = 0
        · subst hv
          go_enter Tryd.func6, Tryd.ntmps6
          go_wp2_with fail
          all_goals go_ret
          all_goals exact ⟨rfl, (Gw.refl w).alloc _⟩
        · have e : rightN 2 v = false := by simp [rightN, hv]
          have E := hid e
          clear e
          go_enter Tryd.func6, Tryd.ntmps6
          go_wp2_with fail
          all_goals go_ret
          all_goals exact ⟨by rw [E.out]; simp [hv], (Gw.refl w).alloc _⟩
      · by_cases h3 : k = 3
        · subst h3
          by_cases hv : v = 0
          · subst hv
            go_enter Tryd.func6, Tryd.ntmps6
            go_wp2_with fail
            all_goals go_ret
            all_goals exact ⟨rfl, (Gw.refl w).alloc _⟩
          · have e : rightN 3 v = false := by simp [rightN, hv]
            have E := hid e
            clear e
            go_enter Tryd.func6, Tryd.ntmps6
            go_wp2_with fail
            all_goals go_ret
            all_goals exact ⟨by rw [E.out]; simp [hv], (Gw.refl w).alloc _⟩
        · have e : rightN k v = false := by simp [rightN, h0, h1, h2, h3]
          have E := hid e
          clear e
          go_enter Tryd.func6, Tryd.ntmps6
          go_wp2_with fail
          all_goals go_ret
          all_goals exact ⟨by rw [E.out]; rfl, (Gw.refl w).alloc _⟩

theorem right_bd {k v : Int} (h : rightN k v = true) : -1000000000000000000 ≤ v ∧ v ≤ 1000000000000000000 ∧ 0 ≤ k ∧ k ≤ 3 ∧ (k ≠ 0 → v = 0) := by
  unfold rightN at h
  split at h
  · simp at h; omega
  · split at h
    · simp at h; omega
    · cases h

set_option maxHeartbeats 800000 in
theorem rights_any (k v k' v' : Int) (w : World) :
    Calls Tryd.prog 11 #[.agg #[.int .i64 k, .int .i64 v], .agg #[.int .i64 k', .int .i64 v']] w fun e w' => e = .returned (.bool (rightN k v && rightN k' v')) ∧ Gw w w' := by
  have C1 := hid (fun W => right_any k v W)
  have C2 := hid (fun W => right_any k' v' W)
  obtain ⟨x, hx⟩ : ∃ x, x = rightN k v := ⟨_, rfl⟩
  obtain ⟨y, hy⟩ : ∃ y, y = rightN k' v' := ⟨_, rfl⟩
  rw [← hx, ← hy]
  rw [← hx] at C1
  rw [← hy] at C2
  clear hx hy
  cases x
  · skip
    go_enter Tryd.func11, Tryd.ntmps11
    go_wp2_with fail
    refine (C1.out _).mono ?_
    rintro _ w1 ⟨rfl, g1⟩
    go_wp2_with fail
    go_ret
    exact ⟨rfl, (((Gw.refl w).alloc _).alloc _).trans g1⟩
  · skip
    go_enter Tryd.func11, Tryd.ntmps11
    go_wp2_with fail
    refine (C1.out _).mono ?_
    rintro _ w1 ⟨rfl, g1⟩
    have b := ((Box2.new (w.alloc (.cells #[.int .i64 k, .int .i64 v] 24)) (.int .i64 k') (.int .i64 v') 24).gw g1).at (show _ = w.heap.size + 1 by simp)
    obtain ⟨b0, b1, _, _, _⟩ := b
    go_wp2_with fail
    refine (C2.out _).mono ?_
    rintro _ w2 ⟨rfl, g2⟩
    go_wp2_with fail
    go_ret
    exact ⟨by simp, ((((Gw.refl w).alloc _).alloc _).trans g1).trans g2⟩
end Go.Proofs.YtclpgacaecfjlaaDoor
