/- stencilref02.Right, by its contract; what a row of keys is at a world, whatever its offset. -/
import Derived.Test.YtkigjcdjiheneaaDoorBld
namespace Go.Proofs.YtkigjcdjiheneaaDoor
open Go.RowKit Go.Sten Go.Lib Go.Shelf

def rightN (k v : Int) : Bool := if k = 0 then decide (-1000000000000000000 ≤ v) && decide (v ≤ 1000000000000000000) else if k = 1 ∨ k = 2 ∨ k = 3 then decide (v = 0) else false

set_option maxHeartbeats 800000 in
set_option maxRecDepth 100000 in
theorem right_any (k v : Int) (w : World) :
    Calls Tryd.prog 24 #[.agg #[.int .i64 k, .int .i64 v]] w fun e w' => e = .returned (.bool (rightN k v)) ∧ Gw w w' := by
  by_cases h0 : k = 0
  · subst h0
    by_cases h1 : -1000000000000000000 ≤ v
    · by_cases h2 : v ≤ 1000000000000000000
      · have e : rightN 0 v = true := by simp [rightN, h1, h2]
        have E := hid e
        clear e
        go_enter Tryd.func24, Tryd.ntmps24
        go_wp2_with fail
        all_goals go_ret
        all_goals exact ⟨by rw [E.out]; rfl, (Gw.refl w).alloc _⟩
      · have e : rightN 0 v = false := by simp [rightN, h2]
        have E := hid e
        clear e
        go_enter Tryd.func24, Tryd.ntmps24
        go_wp2_with fail
        all_goals go_ret
        all_goals exact ⟨by rw [E.out]; rfl, (Gw.refl w).alloc _⟩
    · have e : rightN 0 v = false := by simp [rightN, h1]
      have E := hid e
      clear e
      go_enter Tryd.func24, Tryd.ntmps24
      go_wp2_with fail
      all_goals go_ret
      all_goals exact ⟨by rw [E.out]; rfl, (Gw.refl w).alloc _⟩
  · by_cases h1 : k = 1
    · subst h1
      by_cases hv : v = 0
      · subst hv
        go_enter Tryd.func24, Tryd.ntmps24
        go_wp2_with fail
        all_goals go_ret
        all_goals exact ⟨rfl, (Gw.refl w).alloc _⟩
      · have e : rightN 1 v = false := by simp [rightN, hv]
        have E := hid e
        clear e
        go_enter Tryd.func24, Tryd.ntmps24
        go_wp2_with fail
        all_goals go_ret
        all_goals exact ⟨by rw [E.out]; simp [hv], (Gw.refl w).alloc _⟩
    · by_cases h2 : k = 2
      · subst h2
        by_cases hv : v = 0
        · subst hv
          go_enter Tryd.func24, Tryd.ntmps24
          go_wp2_with fail
          all_goals go_ret
          all_goals exact ⟨rfl, (Gw.refl w).alloc _⟩
        · have e : rightN 2 v = false := by simp [rightN, hv]
          have E := hid e
          clear e
          go_enter Tryd.func24, Tryd.ntmps24
          go_wp2_with fail
          all_goals go_ret
          all_goals exact ⟨by rw [E.out]; simp [hv], (Gw.refl w).alloc _⟩
      · by_cases h3 : k = 3
        · subst h3
          by_cases hv : v = 0
          · subst hv
            go_enter Tryd.func24, Tryd.ntmps24
            go_wp2_with fail
            all_goals go_ret
            all_goals exact ⟨rfl, (Gw.refl w).alloc _⟩
          · have e : rightN 3 v = false := by simp [rightN, hv]
            have E := hid e
            clear e
            go_enter Tryd.func24, Tryd.ntmps24
            go_wp2_with fail
            all_goals go_ret
            all_goals exact ⟨by rw [E.out]; simp [hv], (Gw.refl w).alloc _⟩
        · have e : rightN k v = false := by simp [rightN, h0, h1, h2, h3]
          have E := hid e
          clear e
          go_enter Tryd.func24, Tryd.ntmps24
          go_wp2_with fail
          all_goals go_ret
          all_goals exact ⟨by rw [E.out]; rfl, (Gw.refl w).alloc _⟩
end Go.Proofs.YtkigjcdjiheneaaDoor
