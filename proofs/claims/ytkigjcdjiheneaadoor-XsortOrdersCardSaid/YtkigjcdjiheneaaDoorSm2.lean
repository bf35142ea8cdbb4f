/- slices.symMergeCmpFunc where the second part has one element. -/
import Derived.Test.YtkigjcdjiheneaaDoorSm1
namespace Go.Proofs.YtkigjcdjiheneaaDoor
open Go.Shelf Go.RowKit Go.Lib Go.Sort Go.Stab
variable {α : Type} [Inhabited α]

set_option maxHeartbeats 4000000 in
set_option maxRecDepth 1000000 in
theorem symMerge_last (enc : α → Value) (cf : α → α → Int) (g : Nat) (cb : Array Value) (blk off cap a m b : Nat) (d0 d : Array α) (w0 w : World)
    (eg : ∀ args w, (callFunc g args).run Tryd.prog w = .ok (.enter g args) w) (hcmp : CmpLays1 Tryd.prog g cb enc cf blk off d0.size w0)
    (R : Row1 enc w0 blk off d0) (hs : d0.size = d.size) (S : SW enc w0 blk off d w) (ham : a + 1 < m) (hmb : b = m + 1) (hb : b ≤ d.size) (hsz : d.size < 4611686018427387904) :
    Calls Tryd.prog 65 #[.slice (some ⟨blk, off, none⟩) d.size cap, .int .i64 a, .int .i64 m, .int .i64 b, .func (.func g) #[] cb] w fun e w' => e = .returned (.tuple #[]) ∧ SW enc w0 blk off (moveDown (bsearch (fun h => !ltOf cf d[m]! d[h]!) a m) m d) w' := by
  have mixed : Tryd.prog.follows .mixedOrders = true := by kernel_rfl
  have hcl0 := R.hO.cells
  simp only [Value.cells] at hcl0
  have hst := R.hO.store Tryd.prog
  have HC : Aside _ := hcmp
  have S0 : Aside (SW enc w0 blk off d w) := S
  clear S hcmp
  have hone : ((m : Int) - (a : Int) == 1) = false := by simp; omega
  have htwo : ((b : Int) - (m : Int) == 1) = true := by simp; omega
  have hmb2 : m < b := by omega
  clear hmb
  go_enter Tryd.func65, Tryd.ntmps65
  go_wp2
  go_loopg [14, 15] (m - a) (fun kx s10 s11 wr => ∃ (i j : Nat), s10 = .int .i64 i ∧ s11 = .int .i64 j ∧ a ≤ i ∧ i ≤ j ∧ j ≤ m ∧ j - i ≤ kx ∧ Aside (SW enc w0 blk off d wr) ∧
    Hid (bsearch (fun h => !ltOf cf d[m]! d[h]!) i j = bsearch (fun h => !ltOf cf d[m]! d[h]!) a m))
  case atStart => exact ⟨a, m, rfl, rfl, Nat.le_refl _, by omega, Nat.le_refl _, Nat.le_refl _, S0, rfl⟩
  case round =>
    clear S0
    obtain ⟨i, j, rfl, rfl, hmi, hij, hjb, hkx, S1, heq⟩ := hrel
    by_cases hlt : i < j
    · have hltz : (i : Int) < (j : Int) := by omega
      obtain ⟨h, hh⟩ : ∃ h, h = (i + j) / 2 := ⟨_, rfl⟩
      have hh1 : ((i : Int) + (j : Int)) / 2 = (h : Int) := by omega
      have hi1 : i ≤ h := by omega
      have hi2 : h < j := by omega
      have HH : Hid (h = (i + j) / 2) := hh
      clear hh
      go_wp2_with fail
      clear hh1
      cases hlv : ltOf cf d[m]! d[h]! with
      | true =>
        obtain ⟨iN, hiN⟩ : ∃ q, q = m := ⟨_, rfl⟩
        obtain ⟨jN, hjN⟩ : ∃ q, q = h := ⟨_, rfl⟩
        have ea : ((m : Int)).toNat = iN := by omega
        have pa : (0 : Int) ≤ (m : Int) := by omega
        have ba : (m : Int) < (d.size : Int) := by omega
        have ra : IntKind.i64.wrap ((m : Int)) = (m : Int) := by rw [IntKind.wrap_i64]; omega
        have ec : ((h : Int)).toNat = jN := by omega
        have pc : (0 : Int) ≤ (h : Int) := by omega
        have bc : (h : Int) < (d.size : Int) := by omega
        have rc : IntKind.i64.wrap ((h : Int)) = (h : Int) := by rw [IntKind.wrap_i64]; omega
        obtain ⟨x, hx⟩ : ∃ x, x = d[m]! := ⟨_, rfl⟩
        obtain ⟨y, hy⟩ : ∃ x, x = d[h]! := ⟨_, rfl⟩
        have la := S1.out.cl R (by omega) (m) (by omega)
        have lb := S1.out.cl R (by omega) (h) (by omega)
        rw [← hx, ← hiN] at la
        rw [← hy, ← hjN] at lb
        have hc := S1.out.cmp HC.out (by omega) x y
        have hv : cf x y < 0 := by rw [hx, hy]; exact of_decide_eq_true hlv
        have hd : decide (cf x y < 0) = true := decide_eq_true hv
        have HLV : Aside _ := hlv
        clear hx hy hiN hjN hlv
        go_wp2_with fail
        go_quiet_grown (first | (go_at_fn g; refine Calls.grown_of (hc _ _)))
        have S2 : Aside (SW enc w0 blk off d (grow (wr.drewN nq) osq)) := S1.out.grown nq osq
        clear la lb hc S1
        generalize grow (wr.drewN nq) osq = w2 at S2 ⊢
        clear nq osq ea ec pa pc ba bc ra rc hd hv
        go_wp2
        go_roundg (h - (i))
        case measure => omega
        case rel =>
          have hpv : (fun h => !ltOf cf d[m]! d[h]!) h = false := (by show (!_) = false; rw [HLV.out]; rfl)
          exact ⟨i, h, by go_num, by go_num, by omega, by omega, by omega, Nat.le_refl _, S2, (show Hid _ from (bs_left _ i j hlt h HH.out hpv).symm.trans heq.out)⟩
      | false =>
        obtain ⟨iN, hiN⟩ : ∃ q, q = m := ⟨_, rfl⟩
        obtain ⟨jN, hjN⟩ : ∃ q, q = h := ⟨_, rfl⟩
        have ea : ((m : Int)).toNat = iN := by omega
        have pa : (0 : Int) ≤ (m : Int) := by omega
        have ba : (m : Int) < (d.size : Int) := by omega
        have ra : IntKind.i64.wrap ((m : Int)) = (m : Int) := by rw [IntKind.wrap_i64]; omega
        have ec : ((h : Int)).toNat = jN := by omega
        have pc : (0 : Int) ≤ (h : Int) := by omega
        have bc : (h : Int) < (d.size : Int) := by omega
        have rc : IntKind.i64.wrap ((h : Int)) = (h : Int) := by rw [IntKind.wrap_i64]; omega
        obtain ⟨x, hx⟩ : ∃ x, x = d[m]! := ⟨_, rfl⟩
        obtain ⟨y, hy⟩ : ∃ x, x = d[h]! := ⟨_, rfl⟩
        have la := S1.out.cl R (by omega) (m) (by omega)
        have lb := S1.out.cl R (by omega) (h) (by omega)
        rw [← hx, ← hiN] at la
        rw [← hy, ← hjN] at lb
        have hc := S1.out.cmp HC.out (by omega) x y
        have hv : ¬ cf x y < 0 := by rw [hx, hy]; exact of_decide_eq_false hlv
        have hd : decide (cf x y < 0) = false := decide_eq_false hv
        have HLV : Aside _ := hlv
        clear hx hy hiN hjN hlv
        go_wp2_with fail
        go_quiet_grown (first | (go_at_fn g; refine Calls.grown_of (hc _ _)))
        have S2 : Aside (SW enc w0 blk off d (grow (wr.drewN nq) osq)) := S1.out.grown nq osq
        clear la lb hc S1
        generalize grow (wr.drewN nq) osq = w2 at S2 ⊢
        clear nq osq ea ec pa pc ba bc ra rc hd hv
        go_wp2
        go_roundg (j - (h + 1))
        case measure => omega
        case rel =>
          have hpv : (fun h => !ltOf cf d[m]! d[h]!) h = true := (by show (!_) = true; rw [HLV.out]; rfl)
          exact ⟨h + 1, j, by go_num, by go_num, by omega, by omega, by omega, Nat.le_refl _, S2, (show Hid _ from (bs_right _ i j hlt h HH.out hpv).symm.trans heq.out)⟩
    · have hltz : ¬ (i : Int) < (j : Int) := by omega
      obtain ⟨r, hr⟩ : ∃ r, r = i := ⟨_, rfl⟩
      have HR : Hid (moveDown r m d = moveDown (bsearch (fun h => !ltOf cf d[m]! d[h]!) a m) m d) := by
        show _ = _
        rw [← heq.out, bs_stop _ i j hlt, hr]
      subst hr
      clear heq
      go_wp2_with fail
      go_loopg [17] (m - r) (fun kx s wr => ∃ (k : Nat) (dk : Array α), s = .int .i64 k ∧ r ≤ k ∧ k ≤ m ∧ k - r ≤ kx ∧ dk.size = d.size ∧ Aside (SW enc w0 blk off dk wr) ∧ Hid (moveDown r k dk = moveDown r m d))
      case atStart => exact ⟨m, d, rfl, by omega, Nat.le_refl _, Nat.le_refl _, rfl, S1, rfl⟩
      case round =>
        clear S1
        obtain ⟨k, dk, rfl, hak, hkr, hkx, hds, S1, heq⟩ := hrel
        by_cases hlt : r < k
        · have hltz : (r : Int) < (k : Int) := by omega
          obtain ⟨kp, rfl⟩ : ∃ kp, k = kp + 1 := ⟨k - 1, by omega⟩
          go_wp2_with fail
          obtain ⟨iN, hiN⟩ : ∃ q, q = kp + 1 := ⟨_, rfl⟩
          obtain ⟨jN, hjN⟩ : ∃ q, q = kp := ⟨_, rfl⟩
          have ea : ((kp : Int) + 1).toNat = iN := by omega
          have pa : (0 : Int) ≤ (kp : Int) + 1 := by omega
          have ba : (kp : Int) + 1 < (d.size : Int) := by omega
          have ra : IntKind.i64.wrap ((kp : Int) + 1) = (kp : Int) + 1 := by rw [IntKind.wrap_i64]; omega
          have ec : ((kp : Int)).toNat = jN := by omega
          have pc : (0 : Int) ≤ (kp : Int) := by omega
          have bc : (kp : Int) < (d.size : Int) := by omega
          have rc : IntKind.i64.wrap ((kp : Int)) = (kp : Int) := by rw [IntKind.wrap_i64]; omega
          obtain ⟨x, hx⟩ : ∃ x, x = dk[kp + 1]! := ⟨_, rfl⟩
          obtain ⟨y, hy⟩ : ∃ x, x = dk[kp]! := ⟨_, rfl⟩
          have S3 : Aside (SW enc w0 blk off (swp dk (kp + 1) (kp)) ((wr.setCell ⟨blk, off + iN, none⟩ (enc y)).setCell ⟨blk, off + jN, none⟩ (enc x)).drew) := by rw [hiN, hjN, hx, hy]; exact S1.out.swapped R (kp + 1) (kp) (by omega) (by omega)
          have ca := S1.out.c1 R (by omega) (kp + 1) (by omega)
          have cb1 := S1.out.c1 R (by omega) (kp) (by omega)
          have fa := S1.out.f1 R (by omega) (kp + 1) (by omega)
          have fb := S1.out.f1 R (by omega) (kp) (by omega)
          obtain ⟨u, cc⟩ := S1.out.c2 R (by omega) (kp + 1) (kp) (by omega) (by omega) (enc y)
          rw [← hiN, ← hjN] at cc
          rw [← hx, ← hiN] at ca
          rw [← hy, ← hjN] at cb1
          rw [← hiN] at fa
          rw [← hjN] at fb
          clear S1 hx hy hiN hjN
          go_wp2_with fail
          go_big_region
          clear ca cb1 cc fa fb
          generalize ((wr.setCell ⟨blk, off + iN, none⟩ (enc y)).setCell ⟨blk, off + jN, none⟩ (enc x)).drew = w3 at S3 ⊢
          clear ea ec pa pc ba bc ra rc
          go_wp2
          go_roundg (kp - r)
          case measure => omega
          case rel => exact ⟨kp, _, by first | rfl | go_num, by omega, by omega, Nat.le_refl _, by rw [size_swp]; exact hds, S3, (show Hid _ from (moveDown_go r kp dk hlt).symm.trans heq.out)⟩
        · have hltz : ¬ (r : Int) < (k : Int) := by omega
          go_wp2
          refine bodyPost_ret (results_none rfl _ _ _) rfl ?_
          exact ⟨rfl, by rw [← HR.out, ← heq.out, moveDown_stop r k dk hlt]; exact S1.out⟩
end Go.Proofs.YtkigjcdjiheneaaDoor
