/- slices.symMergeCmpFunc where the first part has one element. -/
import Derived.Test.YtkigjcdjiheneaaDoorRot
import Derived.Shelf.SlSortCmp.QuietGrown
namespace Go.Proofs.YtkigjcdjiheneaaDoor
open Go.Shelf Go.RowKit Go.Lib Go.Sort Go.Stab
variable {α : Type} [Inhabited α]

theorem bs_right (p : Nat → Bool) (i j : Nat) (h0 : i < j) (h : Nat) (hh : h = (i + j) / 2) (hp : p h = true) : bsearch p i j = bsearch p (h + 1) j := by
  rw [bsearch, if_pos h0, ← hh, if_pos hp]
theorem bs_left (p : Nat → Bool) (i j : Nat) (h0 : i < j) (h : Nat) (hh : h = (i + j) / 2) (hp : p h = false) : bsearch p i j = bsearch p i h := by
  rw [bsearch, if_pos h0, ← hh, if_neg (by rw [hp]; simp)]
theorem bs_stop (p : Nat → Bool) (i j : Nat) (h0 : ¬ i < j) : bsearch p i j = i := by rw [bsearch, if_neg h0]
theorem moveUp_go (e k : Nat) (d : Array α) (h : k < e) : moveUp e k d = moveUp e (k + 1) (swp d k (k + 1)) := by rw [moveUp, if_pos h]
theorem moveUp_stop (e k : Nat) (d : Array α) (h : ¬ k < e) : moveUp e k d = d := by rw [moveUp, if_neg h]
theorem moveDown_go (r k : Nat) (d : Array α) (h : r < k + 1) : moveDown r (k + 1) d = moveDown r k (swp d (k + 1) k) := by rw [moveDown, if_pos h]
theorem moveDown_stop (r k : Nat) (d : Array α) (h : ¬ r < k) : moveDown r k d = d := by
  cases k with
  | zero => rfl
  | succ k => rw [moveDown, if_neg h]

set_option maxHeartbeats 4000000 in
set_option maxRecDepth 1000000 in
theorem symMerge_first (enc : α → Value) (cf : α → α → Int) (g : Nat) (cb : Array Value) (blk off cap a m b : Nat) (d0 d : Array α) (w0 w : World)
    (eg : ∀ args w, (callFunc g args).run Tryd.prog w = .ok (.enter g args) w) (hcmp : CmpLays1 Tryd.prog g cb enc cf blk off d0.size w0)
    (R : Row1 enc w0 blk off d0) (hs : d0.size = d.size) (S : SW enc w0 blk off d w) (ham : m = a + 1) (hmb : m < b) (hb : b ≤ d.size) (hsz : d.size < 4611686018427387904) :
    Calls Tryd.prog 65 #[.slice (some ⟨blk, off, none⟩) d.size cap, .int .i64 a, .int .i64 m, .int .i64 b, .func (.func g) #[] cb] w fun e w' => e = .returned (.tuple #[]) ∧ SW enc w0 blk off (moveUp (bsearch (fun h => ltOf cf d[h]! d[a]!) m b - 1) a d) w' := by
  have mixed : Tryd.prog.follows .mixedOrders = true := by kernel_rfl
  have hcl0 := R.hO.cells
  simp only [Value.cells] at hcl0
  have hst := R.hO.store Tryd.prog
  have HC : Aside _ := hcmp
  have S0 : Aside (SW enc w0 blk off d w) := S
  clear S hcmp
  have hone : ((m : Int) - (a : Int) == 1) = true := by simp; omega
  have hma : a < m := by omega
  clear ham
  go_enter Tryd.func65, Tryd.ntmps65
  go_wp2
  go_loopg [10, 11] (b - m) (fun kx s10 s11 wr => ∃ (i j : Nat), s10 = .int .i64 i ∧ s11 = .int .i64 j ∧ m ≤ i ∧ i ≤ j ∧ j ≤ b ∧ j - i ≤ kx ∧ Aside (SW enc w0 blk off d wr) ∧
    Hid (bsearch (fun h => ltOf cf d[h]! d[a]!) i j = bsearch (fun h => ltOf cf d[h]! d[a]!) m b))
  case atStart => exact ⟨m, b, rfl, rfl, Nat.le_refl _, by omega, Nat.le_refl _, Nat.le_refl _, S0, rfl⟩
  case round =>
    clear S0
    obtain ⟨i, j, rfl, rfl, hmi, hij, hjb, hkx, S1, heq⟩ := hrel
    by_cases hlt : i < j
    · have hltz : (i : Int) < (j : Int) := by omega
      obtain ⟨h, hh⟩ : ∃ h, h = (i + j) / 2 := ⟨_, rfl⟩
      have hh1 : ((i : Int) + (j : Int)) / 2 = (h : Int) := by omega
      have hi1 : i ≤ h := by omega
      have hi2 : h < j := by omega
      have HH : Hid (h = (i + j) / 2) := hh
      clear hh
      go_wp2_with fail
      clear hh1
      cases hlv : ltOf cf d[h]! d[a]! with
      | true =>
        obtain ⟨iN, hiN⟩ : ∃ q, q = h := ⟨_, rfl⟩
        obtain ⟨jN, hjN⟩ : ∃ q, q = a := ⟨_, rfl⟩
        have ea : ((h : Int)).toNat = iN := by omega
        have pa : (0 : Int) ≤ (h : Int) := by omega
        have ba : (h : Int) < (d.size : Int) := by omega
        have ra : IntKind.i64.wrap ((h : Int)) = (h : Int) := by rw [IntKind.wrap_i64]; omega
        have ec : ((a : Int)).toNat = jN := by omega
        have pc : (0 : Int) ≤ (a : Int) := by omega
        have bc : (a : Int) < (d.size : Int) := by omega
        have rc : IntKind.i64.wrap ((a : Int)) = (a : Int) := by rw [IntKind.wrap_i64]; omega
        obtain ⟨x, hx⟩ : ∃ x, x = d[h]! := ⟨_, rfl⟩
        obtain ⟨y, hy⟩ : ∃ x, x = d[a]! := ⟨_, rfl⟩
        have la := S1.out.cl R (by omega) (h) (by omega)
        have lb := S1.out.cl R (by omega) (a) (by omega)
        rw [← hx, ← hiN] at la
        rw [← hy, ← hjN] at lb
        have hc := S1.out.cmp HC.out (by omega) x y
        have hv : cf x y < 0 := by rw [hx, hy]; exact of_decide_eq_true hlv
        have hd : decide (cf x y < 0) = true := decide_eq_true hv
        have HLV : Aside _ := hlv
        clear hx hy hiN hjN hlv
        go_wp2_with fail
        go_quiet_grown (first | (go_at_fn g; refine Calls.grown_of (hc _ _)))
        have S2 : Aside (SW enc w0 blk off d (grow (wr.drewN nq) osq)) := S1.out.grown nq osq
        clear la lb hc S1
        generalize grow (wr.drewN nq) osq = w2 at S2 ⊢
        clear nq osq ea ec pa pc ba bc ra rc hd hv
        go_wp2
        go_roundg (j - (h + 1))
        case measure => omega
        case rel =>
          have hpv : (fun h => ltOf cf d[h]! d[a]!) h = true := HLV.out
          exact ⟨h + 1, j, by go_num, by go_num, by omega, by omega, by omega, Nat.le_refl _, S2, (show Hid _ from (bs_right _ i j hlt h HH.out hpv).symm.trans heq.out)⟩
      | false =>
        obtain ⟨iN, hiN⟩ : ∃ q, q = h := ⟨_, rfl⟩
        obtain ⟨jN, hjN⟩ : ∃ q, q = a := ⟨_, rfl⟩
        have ea : ((h : Int)).toNat = iN := by omega
        have pa : (0 : Int) ≤ (h : Int) := by omega
        have ba : (h : Int) < (d.size : Int) := by omega
        have ra : IntKind.i64.wrap ((h : Int)) = (h : Int) := by rw [IntKind.wrap_i64]; omega
        have ec : ((a : Int)).toNat = jN := by omega
        have pc : (0 : Int) ≤ (a : Int) := by omega
        have bc : (a : Int) < (d.size : Int) := by omega
        have rc : IntKind.i64.wrap ((a : Int)) = (a : Int) := by rw [IntKind.wrap_i64]; omega
        obtain ⟨x, hx⟩ : ∃ x, x = d[h]! := ⟨_, rfl⟩
        obtain ⟨y, hy⟩ : ∃ x, x = d[a]! := ⟨_, rfl⟩
        have la := S1.out.cl R (by omega) (h) (by omega)
        have lb := S1.out.cl R (by omega) (a) (by omega)
        rw [← hx, ← hiN] at la
        rw [← hy, ← hjN] at lb
        have hc := S1.out.cmp HC.out (by omega) x y
        have hv : ¬ cf x y < 0 := by rw [hx, hy]; exact of_decide_eq_false hlv
        have hd : decide (cf x y < 0) = false := decide_eq_false hv
        have HLV : Aside _ := hlv
        clear hx hy hiN hjN hlv
        go_wp2_with fail
        go_quiet_grown (first | (go_at_fn g; refine Calls.grown_of (hc _ _)))
        have S2 : Aside (SW enc w0 blk off d (grow (wr.drewN nq) osq)) := S1.out.grown nq osq
        clear la lb hc S1
        generalize grow (wr.drewN nq) osq = w2 at S2 ⊢
        clear nq osq ea ec pa pc ba bc ra rc hd hv
        go_wp2
        go_roundg (h - (i))
        case measure => omega
        case rel =>
          have hpv : (fun h => ltOf cf d[h]! d[a]!) h = false := HLV.out
          exact ⟨i, h, by go_num, by go_num, by omega, by omega, by omega, Nat.le_refl _, S2, (show Hid _ from (bs_left _ i j hlt h HH.out hpv).symm.trans heq.out)⟩
    · have hltz : ¬ (i : Int) < (j : Int) := by omega
      obtain ⟨r, hr⟩ : ∃ r, r = i := ⟨_, rfl⟩
      have HR : Hid (moveUp (r - 1) a d = moveUp (bsearch (fun h => ltOf cf d[h]! d[a]!) m b - 1) a d) := by
        show _ = _
        rw [← heq.out, bs_stop _ i j hlt, hr]
      subst hr
      clear heq
      go_wp2_with fail
      go_loopg [13] (r - 1 - a) (fun kx s wr => ∃ (k : Nat) (dk : Array α), s = .int .i64 k ∧ a ≤ k ∧ k ≤ r - 1 ∧ r - 1 - k ≤ kx ∧ dk.size = d.size ∧ Aside (SW enc w0 blk off dk wr) ∧ Hid (moveUp (r - 1) k dk = moveUp (r - 1) a d))
      case atStart => exact ⟨a, d, rfl, Nat.le_refl _, by omega, Nat.le_refl _, rfl, S1, rfl⟩
      case round =>
        clear S1
        obtain ⟨k, dk, rfl, hak, hkr, hkx, hds, S1, heq⟩ := hrel
        by_cases hlt : k < r - 1
        · have hltz : (k : Int) < (r : Int) - 1 := by omega
          go_wp2_with fail
          obtain ⟨iN, hiN⟩ : ∃ q, q = k := ⟨_, rfl⟩
          obtain ⟨jN, hjN⟩ : ∃ q, q = k + 1 := ⟨_, rfl⟩
          have ea : ((k : Int)).toNat = iN := by omega
          have pa : (0 : Int) ≤ (k : Int) := by omega
          have ba : (k : Int) < (d.size : Int) := by omega
          have ra : IntKind.i64.wrap ((k : Int)) = (k : Int) := by rw [IntKind.wrap_i64]; omega
          have ec : ((k : Int) + 1).toNat = jN := by omega
          have pc : (0 : Int) ≤ (k : Int) + 1 := by omega
          have bc : (k : Int) + 1 < (d.size : Int) := by omega
          have rc : IntKind.i64.wrap ((k : Int) + 1) = (k : Int) + 1 := by rw [IntKind.wrap_i64]; omega
          obtain ⟨x, hx⟩ : ∃ x, x = dk[k]! := ⟨_, rfl⟩
          obtain ⟨y, hy⟩ : ∃ x, x = dk[k + 1]! := ⟨_, rfl⟩
          have S3 : Aside (SW enc w0 blk off (swp dk (k) (k + 1)) ((wr.setCell ⟨blk, off + iN, none⟩ (enc y)).setCell ⟨blk, off + jN, none⟩ (enc x)).drew) := by rw [hiN, hjN, hx, hy]; exact S1.out.swapped R (k) (k + 1) (by omega) (by omega)
          have ca := S1.out.c1 R (by omega) (k) (by omega)
          have cb1 := S1.out.c1 R (by omega) (k + 1) (by omega)
          have fa := S1.out.f1 R (by omega) (k) (by omega)
          have fb := S1.out.f1 R (by omega) (k + 1) (by omega)
          obtain ⟨u, cc⟩ := S1.out.c2 R (by omega) (k) (k + 1) (by omega) (by omega) (enc y)
          rw [← hjN, ← hiN] at cc
          rw [← hx, ← hiN] at ca
          rw [← hy, ← hjN] at cb1
          rw [← hiN] at fa
          rw [← hjN] at fb
          clear S1 hx hy hiN hjN
          go_wp2_with fail
          go_big_region
          clear ca cb1 cc fa fb
          generalize ((wr.setCell ⟨blk, off + iN, none⟩ (enc y)).setCell ⟨blk, off + jN, none⟩ (enc x)).drew = w3 at S3 ⊢
          clear ea ec pa pc ba bc ra rc
          go_wp2
          go_roundg (r - 1 - (k + 1))
          case measure => omega
          case rel => exact ⟨k + 1, _, by go_num, by omega, by omega, Nat.le_refl _, by rw [size_swp]; exact hds, S3, (show Hid _ from (moveUp_go (r - 1) k dk hlt).symm.trans heq.out)⟩
        · have hltz : ¬ (k : Int) < (r : Int) - 1 := by omega
          go_wp2
          refine bodyPost_ret (results_none rfl _ _ _) rfl ?_
          exact ⟨rfl, by rw [← HR.out, ← heq.out, moveUp_stop (r - 1) k dk hlt]; exact S1.out⟩
end Go.Proofs.YtkigjcdjiheneaaDoor
