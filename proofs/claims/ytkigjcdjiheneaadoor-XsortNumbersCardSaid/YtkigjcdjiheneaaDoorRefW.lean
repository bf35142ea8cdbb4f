/- stencilref13.Roman: the walk. -/
import Derived.Test.YtkigjcdjiheneaaDoorRef
namespace Go.Proofs.YtkigjcdjiheneaaDoor
open Go.RowKit Go.Sten

set_option maxHeartbeats 400000 in
theorem refRoman_none (n : Int) (w : World) (hn : n < 1 ∨ 3999 < n) :
    Calls Tryd.prog 12 #[.int .i64 n] w fun e w' => e = .returned (.string ⟨#[]⟩) ∧ w = w' := by
  by_cases h : n < 1
  · go_enter Tryd.func12, Tryd.ntmps12
    go_wp2
    go_ret
    exact ⟨rfl, rfl⟩
  · have h2 : 3999 < n := by omega
    go_enter Tryd.func12, Tryd.ntmps12
    go_wp2
    go_ret
    exact ⟨rfl, rfl⟩

theorem refWorld (w : World) : ∃ W, (w.alloc (Obj.cells #[Value.string { data := #[77] }, Value.string { data := #[67, 77] }, Value.string { data := #[68] }, Value.string { data := #[67, 68] }, Value.string { data := #[67] }, Value.string { data := #[88, 67] }, Value.string { data := #[76] }, Value.string { data := #[88, 76] }, Value.string { data := #[88] }, Value.string { data := #[73, 88] }, Value.string { data := #[86] }, Value.string { data := #[73, 86] }, Value.string { data := #[73] }] 9)).alloc (Obj.cells #[Value.int IntKind.i64 1000, Value.int IntKind.i64 900, Value.int IntKind.i64 500, Value.int IntKind.i64 400, Value.int IntKind.i64 100, Value.int IntKind.i64 90, Value.int IntKind.i64 50, Value.int IntKind.i64 40, Value.int IntKind.i64 10, Value.int IntKind.i64 9, Value.int IntKind.i64 5, Value.int IntKind.i64 4, Value.int IntKind.i64 1] 3) = W ∧
    (∀ i, i < 13 → W.cell? ⟨w.heap.size, i, none⟩ = some (.string ⟨(gsg i).toArray⟩)) ∧ (∀ i, i < 13 → W.cell? ⟨w.heap.size + 1, i, none⟩ = some (.int .i64 (gsz i : Nat))) ∧ Below w.heap.size w W := by
  refine ⟨_, rfl, fun i hi => ?_, fun i hi => ?_, ((Below.refl _ _).alloc (Nat.le_refl _) _).alloc (by simp) _⟩
  · have h : i = 0 ∨ i = 1 ∨ i = 2 ∨ i = 3 ∨ i = 4 ∨ i = 5 ∨ i = 6 ∨ i = 7 ∨ i = 8 ∨ i = 9 ∨ i = 10 ∨ i = 11 ∨ i = 12 := by omega
    rcases h with rfl | rfl | rfl | rfl | rfl | rfl | rfl | rfl | rfl | rfl | rfl | rfl | rfl <;> simp [gsg]
  · have h : i = 0 ∨ i = 1 ∨ i = 2 ∨ i = 3 ∨ i = 4 ∨ i = 5 ∨ i = 6 ∨ i = 7 ∨ i = 8 ∨ i = 9 ∨ i = 10 ∨ i = 11 ∨ i = 12 := by omega
    rcases h with rfl | rfl | rfl | rfl | rfl | rfl | rfl | rfl | rfl | rfl | rfl | rfl | rfl <;> simp [gsz]

set_option maxHeartbeats 400000 in
set_option maxRecDepth 100000 in
theorem refRoman_any (n : Nat) (w : World) (h1 : 1 ≤ n) (h2 : n ≤ 3999) :
    Calls Tryd.prog 12 #[.int .i64 n] w fun e w' => e = .returned (.string ⟨(rom n).toArray⟩) ∧ Below w.heap.size w w' := by
  go_enter Tryd.func12, Tryd.ntmps12
  go_wp2
  obtain ⟨W, hW, hS, hZ, hB⟩ := refWorld w
  rw [hW]
  clear hW
  have HS : Hid _ := hS
  have HZ : Hid _ := hZ
  clear hS hZ
  go_loop [0, 5, 6] (fun nv o iv => ∃ (i m : Nat) (l : List UInt8), i ≤ 13 ∧ iv = .int .i64 i ∧ nv = .int .i64 m ∧ o = .string ⟨l.toArray⟩ ∧ l.length + 2 * m ≤ 8000 ∧ Hid (greedy (13 - i) i m l = rom n)) (fun _ _ iv => 13 - (intOf iv).toNat)
  case atStart => exact ⟨0, n, [], by omega, rfl, rfl, rfl, by simp; omega, greedy_rom n h2⟩
  case round =>
    obtain ⟨i, m, l, hi, rfl, rfl, rfl, hlm, HG⟩ := hrel
    by_cases hlt : i < 13
    · have hlti : (i : Int) < 13 := by omega
      go_wp2
      have HG2 : Hid (greedy (12 - i) (i + 1) (gtake (gsz i) (gsg i) m m l).1 (gtake (gsz i) (gsg i) m m l).2 = rom n) := by
        have := HG.out
        rw [show 13 - i = (12 - i) + 1 by omega, greedy] at this
        exact this
      clear HG
      go_loop [0, 5] (fun nv o => ∃ (m : Nat) (l : List UInt8), nv = .int .i64 m ∧ o = .string ⟨l.toArray⟩ ∧ l.length + 2 * m ≤ 8000 ∧ Hid (greedy (12 - i) (i + 1) (gtake (gsz i) (gsg i) m m l).1 (gtake (gsz i) (gsg i) m m l).2 = rom n)) (fun nv _ => (intOf nv).toNat)
      case atStart => exact ⟨m, l, rfl, rfl, hlm, HG2⟩
      case round =>
        clear HG2 hlm
        obtain ⟨m, l, rfl, rfl, hlm, HG⟩ := hrel
        have hz := HZ.out i hlt
        have hs := HS.out i hlt
        have hzp := gsz_pos i hlt
        have hsl := gsg_len i
        obtain ⟨z, ez⟩ : ∃ z, z = gsz i := ⟨_, rfl⟩
        obtain ⟨g, eg⟩ : ∃ g, g = gsg i := ⟨_, rfl⟩
        rw [← ez] at hz hzp HG
        rw [← eg] at hs hsl HG
        have EZ : Hid (z = gsz i) := ez
        have EG : Hid (g = gsg i) := eg
        clear ez eg
        by_cases hge : z ≤ m
        · go_wp2
          go_round
          case rel =>
            refine ⟨m - z, l ++ g, ?_, ?_, by rw [List.length_append]; omega, ?_⟩
            · congr 1; omega
            · exact congrArg Value.string (bcat l g)
            · show _ = _
              rw [← EZ.out, ← EG.out, ← gtake_go z hzp g m l hge]; exact HG.out
          case measure => simp [intOf]; omega
        · have hgz : m < z := by omega
          go_wp2
          go_round
          case rel =>
            refine ⟨i + 1, m, l, by omega, by go_num, rfl, rfl, by omega, ?_⟩
            have := HG.out
            rw [gtake_stop z g m l hgz] at this
            show _ = _
            rw [show 13 - (i + 1) = 12 - i by omega]; exact this
          case measure => simp [intOf]; omega
    · obtain rfl : i = 13 := by omega
      go_wp2
      go_ret
      have := HG.out
      rw [show 13 - 13 = 0 from rfl, greedy] at this
      rw [this]
      exact ⟨rfl, hB⟩
end Go.Proofs.YtkigjcdjiheneaaDoor
