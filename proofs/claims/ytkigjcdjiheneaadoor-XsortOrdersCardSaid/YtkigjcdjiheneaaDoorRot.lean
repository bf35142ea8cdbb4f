/- slices.rotateCmpFunc at elements of one cell: from a world of the sort's to a world of the sort's. -/
import Derived.Test.YtkigjcdjiheneaaDoorSwp
import Derived.Lib.Hide
namespace Go.Proofs.YtkigjcdjiheneaaDoor
open Go.Shelf Go.RowKit Go.Lib Go.Sort Go.Stab
variable {α : Type} [Inhabited α]

theorem rot_eq (m i j : Nat) (d : Array α) (h : i = j) : rotLoop m i j d = swapR (m - i) m i 0 d := by rw [rotLoop, if_pos h]
theorem rot_gt (m i j : Nat) (d : Array α) (h0 : 0 < j) (h : j < i) : rotLoop m i j d = rotLoop m (i - j) j (swapR (m - i) m j 0 d) := by rw [rotLoop, if_neg (by omega), dif_pos ⟨h0, h⟩]
theorem rot_lt (m i j : Nat) (d : Array α) (h0 : 0 < i) (h : i < j) : rotLoop m i j d = rotLoop m i (j - i) (swapR (m - i) (m + j - i) i 0 d) := by rw [rotLoop, if_neg (by omega), dif_neg (by omega), dif_pos ⟨h0, h⟩]

set_option maxHeartbeats 4000000 in
set_option maxRecDepth 1000000 in
theorem rotate_any (enc : α → Value) (fv : Value) (blk off cap a m b : Nat) (d0 d : Array α) (w0 w : World)
    (R : Row1 enc w0 blk off d0) (hs : d0.size = d.size) (S : SW enc w0 blk off d w) (ham : a < m) (hmb : m < b) (hb : b ≤ d.size) (hsz : d.size < 4611686018427387904) :
    Calls Tryd.prog 85 #[.slice (some ⟨blk, off, none⟩) d.size cap, .int .i64 a, .int .i64 m, .int .i64 b, fv] w fun e w' => e = .returned (.tuple #[]) ∧ SW enc w0 blk off (rotLoop m (m - a) (b - m) d) w' := by
  have S0 : Aside (SW enc w0 blk off d w) := S
  clear S
  go_enter Tryd.func85, Tryd.ntmps85
  go_wp2
  go_loopg [10, 11] (b - a) (fun kx s10 s11 wr => ∃ (i j : Nat) (dk : Array α), s10 = .int .i64 i ∧ s11 = .int .i64 j ∧ 0 < i ∧ 0 < j ∧ a + i ≤ m ∧ m + j ≤ b ∧ i + j ≤ kx ∧
    dk.size = d.size ∧ Aside (SW enc w0 blk off dk wr) ∧ Hid (rotLoop m i j dk = rotLoop m (m - a) (b - m) d))
  case atStart => exact ⟨m - a, b - m, d, by congr 1; omega, by congr 1; omega, by omega, by omega, by omega, by omega, by omega, rfl, S0, rfl⟩
  case round =>
    clear S0
    obtain ⟨i, j, dk, rfl, rfl, hi0, hj0, him, hjm, hkx, hds, S1, heq⟩ := hrel
    rcases Nat.lt_trichotomy i j with hij | hij | hij
    · have hij2 : (i : Int) < (j : Int) := by omega
      have hne : ((i : Int) != (j : Int)) = true := by simp; omega
      have hc : ∀ (L : Nat), L = dk.size → Calls Tryd.prog 105 #[.slice (some ⟨blk, off, none⟩) L cap, .int .i64 ((m : Int) - i), .int .i64 ((m : Int) + j - i), .int .i64 i, fv] wr fun e w' => e = .returned (.tuple #[]) ∧ SW enc w0 blk off (swapR (m - i) (m + j - i) i 0 dk) w' := by
        rintro L rfl
        rw [show (m : Int) - i = ((m - i : Nat) : Int) by omega, show (m : Int) + j - i = ((m + j - i : Nat) : Int) by omega]
        exact swapRange_any enc fv blk off cap (m - i) (m + j - i) i d0 dk w0 wr R (by omega) S1.out (by omega) (by omega) (by omega)
      have HC := Lib.hid (hc d.size hds.symm)
      clear hc S1
      go_wp2_with fail
      refine HC.out.mono ?_
      rintro e w2 ⟨rfl, S2⟩
      have S3 : Aside (SW enc w0 blk off (swapR (m - i) (m + j - i) i 0 dk) w2) := S2
      clear S2 HC
      go_wp2
      go_roundg (i + (j - i))
      case measure => omega
      case rel => exact ⟨i, j - i, _, rfl, by congr 1; omega, hi0, by omega, him, by omega, by omega, by rw [swapR_size]; exact hds, S3, (show Hid _ from (rot_lt m i j dk hi0 hij).symm.trans heq.out)⟩
    · subst hij
      have hc : ∀ (L : Nat), L = dk.size → Calls Tryd.prog 105 #[.slice (some ⟨blk, off, none⟩) L cap, .int .i64 ((m : Int) - i), .int .i64 m, .int .i64 i, fv] wr fun e w' => e = .returned (.tuple #[]) ∧ SW enc w0 blk off (swapR (m - i) m i 0 dk) w' := by
        rintro L rfl
        rw [show (m : Int) - i = ((m - i : Nat) : Int) by omega]
        exact swapRange_any enc fv blk off cap (m - i) m i d0 dk w0 wr R (by omega) S1.out (by omega) (by omega) (by omega)
      have HC := Lib.hid (hc d.size hds.symm)
      clear hc S1
      go_wp2_with fail
      refine HC.out.mono ?_
      rintro e w2 ⟨rfl, S2⟩
      go_wp2
      go_end0
      exact ⟨rfl, by rw [← heq.out, rot_eq m i i dk rfl]; exact S2⟩
    · have hij2 : (j : Int) < (i : Int) := by omega
      have hne : ((i : Int) != (j : Int)) = true := by simp; omega
      have hc : ∀ (L : Nat), L = dk.size → Calls Tryd.prog 105 #[.slice (some ⟨blk, off, none⟩) L cap, .int .i64 ((m : Int) - i), .int .i64 m, .int .i64 j, fv] wr fun e w' => e = .returned (.tuple #[]) ∧ SW enc w0 blk off (swapR (m - i) m j 0 dk) w' := by
        rintro L rfl
        rw [show (m : Int) - i = ((m - i : Nat) : Int) by omega]
        exact swapRange_any enc fv blk off cap (m - i) m j d0 dk w0 wr R (by omega) S1.out (by omega) (by omega) (by omega)
      have HC := Lib.hid (hc d.size hds.symm)
      clear hc S1
      go_wp2_with fail
      refine HC.out.mono ?_
      rintro e w2 ⟨rfl, S2⟩
      have S3 : Aside (SW enc w0 blk off (swapR (m - i) m j 0 dk) w2) := S2
      clear S2 HC
      go_wp2
      go_roundg (i - j + j)
      case measure => omega
      case rel => exact ⟨i - j, j, _, by congr 1; omega, rfl, by omega, hj0, by omega, hjm, by omega, by rw [swapR_size]; exact hds, S3, (show Hid _ from (rot_gt m i j dk hj0 hij).symm.trans heq.out)⟩
end Go.Proofs.YtkigjcdjiheneaaDoor
