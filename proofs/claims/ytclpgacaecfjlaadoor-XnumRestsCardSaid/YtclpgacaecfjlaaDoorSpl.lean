/- xnum.split: a number of two words by one, and the rest. The divisor is not 0. -/
import Derived.Test.YtclpgacaecfjlaaDoorDiv
import Derived.Test.YtclpgacaecfjlaaDoorProg
import Derived.WalkSpells
import Derived.WalkLawsBesides
import Derived.BigQuiet
import Derived.BigRegion
import Derived.Handy
import Derived.Lib.Hide
import Derived.ScopeJumps
namespace Go.Proofs.YtclpgacaecfjlaaDoor
open Go.RowKit Go.Sten Go.Lib

set_option maxRecDepth 100000 in
set_option maxHeartbeats 4000000 in
theorem split_any (hi lo d : Nat) (w : World) (hd : 0 < d) (h1 : d < 2 ^ 64) (h2 : hi < 2 ^ 64) (h3 : lo < 2 ^ 64) :
    Calls Tryd.prog 26 #[.int .u64 hi, .int .u64 lo, .int .u64 d] w fun e w' => e = .returned (.agg #[.int .u64 (quo (two hi lo) d : Nat), .int .u64 (rem (two hi lo) d : Nat)]) ∧ Gw w w' := by
  have HD : Hid (0 < d) := hd
  have H1 : Hid (d < 2 ^ 64) := h1
  have H2 : Hid (hi < 2 ^ 64) := h2
  have H3 : Hid (lo < 2 ^ 64) := h3
  go_enter Tryd.func26, Tryd.ntmps26
  go_wp2
  refine wp_scope_jumps 0 (fun a' w' => ∃ (q r j : Nat) (u10 u11 u12 u13 u14 u15 u16 u17 u18 u19 u20 u21 u22 u23 u24 u25 u26 u27 u28 u29 u30 u31 u32 u33 u34 u35 u36 u37 u38 u39 u40 u41 u42 u43 u44 u45 u46 u47 u48 u49 u50 u51 u52 : Value), a' = { tmps := #[.int .u64 (hi : Nat), .int .u64 (lo : Nat), .int .u64 (d : Nat), undef, undef, undef, .pointer (some ⟨w.heap.size, 0, none⟩), .int .u64 (q : Nat), .int .u64 (r : Nat), .int .i64 (j : Nat), u10, u11, u12, u13, u14, u15, u16, u17, u18, u19, u20, u21, u22, u23, u24, u25, u26, u27, u28, u29, u30, u31, u32, u33, u34, u35, u36, u37, u38, u39, u40, u41, u42, u43, u44, u45, u46, u47, u48, u49, u50, u51, u52], defers := [] } ∧ w' = w.alloc (.cells #[.int .u64 0, .int .u64 0] 43) ∧ J1 hi lo d q r j) (fun a' _ => (intOf (a'.tmps.getD 9 undef)).toNat) rfl ?_ ?_
  · obtain ⟨b, hb⟩ : ∃ b, b = two hi lo / 2 ^ 127 % 2 := ⟨_, rfl⟩
    have eb : bits .and .u64 ((hi : Int) / 9223372036854775808) 1 = (b : Int) := by rw [hb]; exact and_hi hi lo 127 h2 h3 (by omega)
    have hb2 : b < 2 := by rw [hb]; omega
    have HB := hid hb
    clear hb
    have eo : bits .or .u64 0 (b : Int) = (b : Int) := by have := or_small 0 b (by omega) hb2; simpa using this
    have HJ := hid (J1.start hi lo d h2 h3)
    clear h2 h3
    by_cases hs : d ≤ b
    · have E := hid (over HD.out HJ.out (by rw [← HB.out]; omega) (by omega))
      go_wp2
      go_step3
      go_wp2
      simp only [Exit.jump]
      change bodyPost Tryd.prog Tryd.f26 _ _ _ _
      go_returns
      exact ⟨by rw [E.out.1, E.out.2]; rfl, (Gw.refl w).alloc _⟩
    · have E := hid (J1.no HD.out HJ.out (by rw [← HB.out]; omega))
      go_wp2
      go_step3
      go_wp2
      go_step3
      refine ⟨rfl, 0, b, 126, _, _, _, _, _, _, _, _, _, _, _, _, _, _, _, _, _, _, _, _, _, _, _, _, _, _, _, _, _, _, _, _, _, _, _, _, _, _, _, _, _, _, _, rfl, rfl, ?_⟩
      have h := E.out
      rw [← HB.out] at h
      simpa using h
  · rintro a' w' ⟨q, r, j, u10, u11, u12, u13, u14, u15, u16, u17, u18, u19, u20, u21, u22, u23, u24, u25, u26, u27, u28, u29, u30, u31, u32, u33, u34, u35, u36, u37, u38, u39, u40, u41, u42, u43, u44, u45, u46, u47, u48, u49, u50, u51, u52, rfl, rfl, hJ⟩
    obtain ⟨b, hb⟩ : ∃ b, b = two hi lo / 2 ^ j % 2 := ⟨_, rfl⟩
    have hb2 : b < 2 := by rw [hb]; omega
    have hj : j < 128 := hJ.1
    have hr : r < d := by rw [hJ.2.1]; exact Nat.mod_lt _ hd
    have hq := hJ.q_lt
    have HQ := hid hq
    have HJ := hid hJ
    clear hJ hq
    have HB := hid hb
    by_cases h64 : 64 ≤ j
    · have eb := and_hi hi lo j h2 h3 h64
      rw [← hb] at eb
      clear hb h2 h3
      by_cases hc : 9223372036854775808 ≤ r
      · have k1 := carry_eq r hc (by omega)
        have eo := or_great r b hc (by omega) hb2
        have E := hid (over HD.out HJ.out (by rw [← HB.out]; omega) h64)
        clear h1 hb2
        go_wp2
        simp only [Exit.jump]
        change bodyPost Tryd.prog Tryd.f26 _ _ _ _
        go_returns
        exact ⟨by rw [E.out.1, E.out.2]; rfl, (Gw.refl w).alloc _⟩
      · have k1 := carry_ne r hc
        obtain ⟨r1, hr1⟩ : ∃ r1, r1 = 2 * r + b := ⟨_, rfl⟩
        have eo := or_small r b (by omega) hb2
        rw [← hr1] at eo
        have HR1 := hid hr1
        clear hr1
        by_cases hs : d ≤ r1
        · have E := hid (over HD.out HJ.out (by rw [← HB.out, ← HR1.out]; exact hs) h64)
          clear h1 hb2
          go_wp2
          simp only [Exit.jump]
          change bodyPost Tryd.prog Tryd.f26 _ _ _ _
          go_returns
          exact ⟨by rw [E.out.1, E.out.2]; rfl, (Gw.refl w).alloc _⟩
        · obtain ⟨i, hi2⟩ : ∃ i, j = i + 1 := ⟨j - 1, by omega⟩
          have HI := hid hi2
          clear hi2
          clear hb2
          go_wp2
          go_step3
          have ej : (j : Int) - 1 = (i : Nat) := by rw [HI.out]; omega
          rw [ej]
          refine ⟨rfl, ⟨q, r1, i, _, _, _, _, _, _, _, _, _, _, _, _, _, _, _, _, _, _, _, _, _, _, _, _, _, _, _, _, _, _, _, _, _, _, _, _, _, _, _, _, _, _, _, rfl, rfl, ?_⟩, ?_⟩
          · have h := HJ.out
            have hb3 := HB.out
            rw [HI.out] at h hb3
            rw [HR1.out, hb3]
            exact h.no HD.out (by rw [← hb3, ← HR1.out]; exact hs)
          · show (i : Int).toNat < (j : Int).toNat
            rw [HI.out]
            omega
    · have eb := and_lo hi lo j h3 (by omega)
      rw [← hb] at eb
      clear hb h2 h3
      obtain ⟨q1, hq1⟩ : ∃ q1, q1 = q + 2 ^ j := ⟨_, rfl⟩
      have eq := or_pow q j (by omega) HQ.out.1 HQ.out.2
      rw [← hq1] at eq
      have HQ1 := hid hq1
      clear hq1
      by_cases hc : 9223372036854775808 ≤ r
      · have k1 := carry_eq r hc (by omega)
        have eo := or_great r b hc (by omega) hb2
        have es := sub_great (2 * r + b) d (by omega) (by omega) h1
        obtain ⟨x, hx⟩ : ∃ x, x = 2 * r + b - 2 ^ 64 := ⟨_, rfl⟩
        obtain ⟨r2, hr2⟩ : ∃ r2, r2 = 2 * r + b - d := ⟨_, rfl⟩
        rw [← hx] at eo es
        rw [← hr2] at es
        have HS : Hid (d ≤ 2 * r + b) := (show d ≤ 2 * r + b by omega)
        have HR2 := hid hr2
        clear hx hr2
        by_cases h0 : 1 ≤ j
        · obtain ⟨i, hi2⟩ : ∃ i, j = i + 1 := ⟨j - 1, by omega⟩
          have HI := hid hi2
          clear hi2 hb2
          clear h1
          go_wp2
          go_step3
          have ej : (j : Int) - 1 = (i : Nat) := by rw [HI.out]; omega
          rw [ej]
          refine ⟨rfl, ⟨q1, r2, i, _, _, _, _, _, _, _, _, _, _, _, _, _, _, _, _, _, _, _, _, _, _, _, _, _, _, _, _, _, _, _, _, _, _, _, _, _, _, _, _, _, _, _, rfl, rfl, ?_⟩, ?_⟩
          · have h := HJ.out
            have hb3 := HB.out
            have hs := HS.out
            rw [hb3] at hs
            rw [HQ1.out, HR2.out, hb3]
            have hj3 : j < 64 := by omega
            rw [HI.out] at h hs hj3 ⊢
            exact h.yes HD.out hs hj3
          · show (i : Int).toNat < (j : Int).toNat
            rw [HI.out]
            omega
        · have H0 : Hid (j = 0) := (show j = 0 by omega)
          clear hb2
          clear h1
          go_wp2
          simp only [Exit.jump]
          change bodyPost Tryd.prog Tryd.f26 _ _ _ _
          go_returns
          have h := HJ.out
          have hb3 := HB.out
          have hs := HS.out
          rw [hb3] at hs
          rw [H0.out] at h hs
          have E := end_yes HD.out HQ.out.1 h hs
          refine ⟨?_, (Gw.refl w).alloc _⟩
          rw [E.1, E.2, HQ1.out, HR2.out, hb3, H0.out]
      · have k1 := carry_ne r hc
        obtain ⟨r1, hr1⟩ : ∃ r1, r1 = 2 * r + b := ⟨_, rfl⟩
        have eo := or_small r b (by omega) hb2
        rw [← hr1] at eo
        have HR1 := hid hr1
        clear hr1
        by_cases hs : d ≤ r1
        · have HS : Hid (d ≤ 2 * r + b) := (show d ≤ 2 * r + b by rw [← HR1.out]; exact hs)
          by_cases h0 : 1 ≤ j
          · obtain ⟨i, hi2⟩ : ∃ i, j = i + 1 := ⟨j - 1, by omega⟩
            have HI := hid hi2
            have hr1b : r1 < 2 ^ 64 := by rw [HR1.out]; omega
            clear hi2 hb2
            clear h1
            go_wp2
            go_step3
            have ej : (j : Int) - 1 = (i : Nat) := by rw [HI.out]; omega
            have er : (r1 : Int) - d = (r1 - d : Nat) := by omega
            rw [ej, er]
            refine ⟨rfl, ⟨q1, r1 - d, i, _, _, _, _, _, _, _, _, _, _, _, _, _, _, _, _, _, _, _, _, _, _, _, _, _, _, _, _, _, _, _, _, _, _, _, _, _, _, _, _, _, _, _, rfl, rfl, ?_⟩, ?_⟩
            · have h := HJ.out
              have hb3 := HB.out
              have hs := HS.out
              rw [hb3] at hs
              rw [HQ1.out, HR1.out, hb3]
              have hj3 : j < 64 := by omega
              rw [HI.out] at h hs hj3 ⊢
              exact h.yes HD.out hs hj3
            · show (i : Int).toNat < (j : Int).toNat
              rw [HI.out]
              omega
          · have H0 : Hid (j = 0) := (show j = 0 by omega)
            have hr1b : r1 < 2 ^ 64 := by rw [HR1.out]; omega
            clear hb2
            clear h1
            go_wp2
            simp only [Exit.jump]
            change bodyPost Tryd.prog Tryd.f26 _ _ _ _
            go_returns
            have h := HJ.out
            have hb3 := HB.out
            have hs := HS.out
            rw [hb3] at hs
            rw [H0.out] at h hs
            have E := end_yes HD.out HQ.out.1 h hs
            have er : (r1 : Int) - d = (r1 - d : Nat) := by omega
            refine ⟨?_, (Gw.refl w).alloc _⟩
            rw [E.1, E.2, HQ1.out, er, HR1.out, hb3, H0.out]
        · by_cases h0 : 1 ≤ j
          · obtain ⟨i, hi2⟩ : ∃ i, j = i + 1 := ⟨j - 1, by omega⟩
            have HI := hid hi2
            clear hi2 hb2
            go_wp2
            go_step3
            have ej : (j : Int) - 1 = (i : Nat) := by rw [HI.out]; omega
            rw [ej]
            refine ⟨rfl, ⟨q, r1, i, _, _, _, _, _, _, _, _, _, _, _, _, _, _, _, _, _, _, _, _, _, _, _, _, _, _, _, _, _, _, _, _, _, _, _, _, _, _, _, _, _, _, _, rfl, rfl, ?_⟩, ?_⟩
            · have h := HJ.out
              have hb3 := HB.out
              rw [HI.out] at h hb3
              rw [HR1.out, hb3]
              exact h.no HD.out (by rw [← hb3, ← HR1.out]; exact hs)
            · show (i : Int).toNat < (j : Int).toNat
              rw [HI.out]
              omega
          · have H0 : Hid (j = 0) := (show j = 0 by omega)
            clear hb2
            go_wp2
            simp only [Exit.jump]
            change bodyPost Tryd.prog Tryd.f26 _ _ _ _
            go_returns
            have h := HJ.out
            have hb3 := HB.out
            rw [H0.out] at h hb3
            have E := end_no HD.out HQ.out.1 h (by rw [← hb3, ← HR1.out]; exact hs)
            refine ⟨?_, (Gw.refl w).alloc _⟩
            rw [E.1, E.2, HR1.out, hb3]
end Go.Proofs.YtclpgacaecfjlaaDoor
