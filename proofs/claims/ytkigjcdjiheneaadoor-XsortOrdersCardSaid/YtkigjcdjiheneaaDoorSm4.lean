/- slices.symMergeCmpFunc where both parts have more than one element, the middle in the first. -/
import Derived.Test.YtkigjcdjiheneaaDoorSm3
namespace Go.Proofs.YtkigjcdjiheneaaDoor
open Go.Shelf Go.RowKit Go.Lib Go.Sort Go.Stab
variable {α : Type} [Inhabited α]

set_option maxHeartbeats 8000000 in
set_option maxRecDepth 1000000 in
theorem symMerge_hi (f : Nat) (enc : α → Value) (cf : α → α → Int) (g : Nat) (cb : Array Value) (blk off cap a m b : Nat) (d0 d : Array α) (w0 w : World)
    (eg : ∀ args w, (callFunc g args).run Tryd.prog w = .ok (.enter g args) w) (hcmp : CmpLays1 Tryd.prog g cb enc cf blk off d0.size w0)
    (R : Row1 enc w0 blk off d0) (hs : d0.size = d.size) (S : SW enc w0 blk off d w) 
    (ih : ∀ (d' : Array α) (a m b : Nat) (w : World), d'.size = d0.size → SW enc w0 blk off d' w → b - a ≤ f → a < m → m < b → b ≤ d0.size →
      Calls Tryd.prog 65 #[.slice (some ⟨blk, off, none⟩) d0.size cap, .int .i64 a, .int .i64 m, .int .i64 b, .func (.func g) #[] cb] w fun e w' => e = .returned (.tuple #[]) ∧ SW enc w0 blk off (symMerge (ltOf cf) f d' a m b) w')
    (hf : b - a ≤ f + 1) (ham : a + 1 < m) (hmb : m + 1 < b) (hm : (a + b) / 2 < m) (hb : b ≤ d0.size) (hsz : d0.size < 4611686018427387904) :
    Calls Tryd.prog 65 #[.slice (some ⟨blk, off, none⟩) d0.size cap, .int .i64 a, .int .i64 m, .int .i64 b, .func (.func g) #[] cb] w fun e w' => e = .returned (.tuple #[]) ∧ SW enc w0 blk off (symMerge (ltOf cf) (f + 1) d a m b) w' := by
  have mixed : Tryd.prog.follows .mixedOrders = true := by kernel_rfl
  have hcl0 := R.hO.cells
  simp only [Value.cells] at hcl0
  have hst := R.hO.store Tryd.prog
  have HC : Aside _ := hcmp
  have S0 : Aside (SW enc w0 blk off d w) := S
  clear S hcmp
  have hone : ((m : Int) - (a : Int) == 1) = false := by simp; omega
  have htwo : ((b : Int) - (m : Int) == 1) = false := by simp; omega
  obtain ⟨mid, hmid⟩ : ∃ mid, mid = (a + b) / 2 := ⟨_, rfl⟩
  rw [← hmid] at hm
  obtain ⟨N, hN⟩ : ∃ N, N = mid + m := ⟨_, rfl⟩
  obtain ⟨Q, hQ⟩ : ∃ Q, Q = mid + m - 1 := ⟨_, rfl⟩
  have z1 : ((a : Int) + (b : Int)) / 2 = (mid : Int) := by omega
  have z2 : (mid : Int) + (m : Int) = (N : Int) := by omega
  have z3 : (N : Int) - 1 = (Q : Int) := by omega
  obtain ⟨s0, hs0⟩ : ∃ s0, s0 = mid + m - b := ⟨_, rfl⟩
  have z4 : (N : Int) - (b : Int) = (s0 : Int) := by omega
  have y4 : s0 + b ≤ mid + m ∧ mid + m ≤ s0 + b ∧ a ≤ s0 ∧ s0 ≤ mid := by omega
  have hmz : (mid : Int) < (m : Int) := by omega
  have y1 : 2 * mid ≤ a + b ∧ a + b ≤ 2 * mid + 1 := by omega
  have y2 : N ≤ mid + m ∧ mid + m ≤ N := by omega
  have y3 : Q + 1 ≤ mid + m ∧ mid + m ≤ Q + 1 := by omega
  have hm1 : m - a ≠ 1 := by omega
  have hm2 : b - m ≠ 1 := by omega
  have HT : ∀ s e, s = bsearch (fun c => !ltOf cf d[mid + m - 1 - c]! d[c]!) s0 mid → e = mid + m - s → symMerge (ltOf cf) (f + 1) d a m b = symTail (ltOf cf) f d a m b mid s e := fun s e h1 h2 =>
    symMerge_tail (ltOf cf) f d a m b mid s e hm1 hm2 hmid (by rw [if_pos hm, if_pos hm, ← hs0]; exact h1) h2
  have HT2 : Aside _ := HT
  have IH : Aside _ := ih
  have HS : Hid (d0.size = d.size) := hs
  have hbd : b ≤ d.size := by omega
  have hsd : d0.size ≤ d.size := by omega
  have hsd2 : d.size ≤ d0.size := by omega
  clear HT ih hs hmid hN hQ hm1 hm2 hs0
  go_enter Tryd.func65, Tryd.ntmps65
  go_wp2
  go_loopg [20, 21] (mid - s0) (fun kx s10 s11 wr => ∃ (i j : Nat), s10 = .int .i64 i ∧ s11 = .int .i64 j ∧ s0 ≤ i ∧ i ≤ j ∧ j ≤ mid ∧ j - i ≤ kx ∧ Aside (SW enc w0 blk off d wr) ∧
    Hid (bsearch (fun c => !ltOf cf d[mid + m - 1 - c]! d[c]!) i j = bsearch (fun c => !ltOf cf d[mid + m - 1 - c]! d[c]!) s0 mid))
  case atStart => exact ⟨s0, mid, rfl, rfl, Nat.le_refl _, by omega, Nat.le_refl _, Nat.le_refl _, S0, rfl⟩
  case round =>
    clear S0
    obtain ⟨i, j, rfl, rfl, hmi, hij, hjb, hkx, S1, heq⟩ := hrel
    by_cases hlt : i < j
    · have hltz : (i : Int) < (j : Int) := by omega
      obtain ⟨h, hh⟩ : ∃ h, h = (i + j) / 2 := ⟨_, rfl⟩
      have hh1 : ((i : Int) + (j : Int)) / 2 = (h : Int) := by omega
      have hi1 : i ≤ h := by omega
      have hi2 : h < j := by omega
      have HH : Hid (h = (i + j) / 2) := hh
      clear hh
      obtain ⟨t, rfl⟩ : ∃ t, Q = t + h := ⟨Q - h, by omega⟩
      go_wp2_with fail
      clear hh1
      cases hlv : ltOf cf d[mid + m - 1 - h]! d[h]! with
      | true =>
        obtain ⟨iN, hiN⟩ : ∃ q, q = mid + m - 1 - h := ⟨_, rfl⟩
        obtain ⟨jN, hjN⟩ : ∃ q, q = h := ⟨_, rfl⟩
        have ea : ((t : Int)).toNat = iN := by omega
        have pa : (0 : Int) ≤ (t : Int) := by omega
        have ba : (t : Int) < (d0.size : Int) := by omega
        have ra : IntKind.i64.wrap ((t : Int)) = (t : Int) := by rw [IntKind.wrap_i64]; omega
        have ec : ((h : Int)).toNat = jN := by omega
        have pc : (0 : Int) ≤ (h : Int) := by omega
        have bc : (h : Int) < (d0.size : Int) := by omega
        have rc : IntKind.i64.wrap ((h : Int)) = (h : Int) := by rw [IntKind.wrap_i64]; omega
        obtain ⟨x, hx⟩ : ∃ x, x = d[mid + m - 1 - h]! := ⟨_, rfl⟩
        obtain ⟨y, hy⟩ : ∃ x, x = d[h]! := ⟨_, rfl⟩
        have la := S1.out.cl R (by omega) (mid + m - 1 - h) (by omega)
        have lb := S1.out.cl R (by omega) (h) (by omega)
        rw [← hx, ← hiN] at la
        rw [← hy, ← hjN] at lb
        have hc := S1.out.cmp HC.out (by omega) x y
        have hv : cf x y < 0 := by rw [hx, hy]; exact of_decide_eq_true hlv
        have hd : decide (cf x y < 0) = true := decide_eq_true hv
        have HLV : Aside _ := hlv
        clear hx hy hiN hjN hlv
        go_wp2_with fail
        go_quiet_grown (first | (go_at_fn g; refine Calls.grown_of (hc _ _)))
        have S2 : Aside (SW enc w0 blk off d (grow (wr.drewN nq) osq)) := S1.out.grown nq osq
        clear la lb hc S1
        generalize grow (wr.drewN nq) osq = w2 at S2 ⊢
        clear nq osq ea ec pa pc ba bc ra rc hd hv
        go_wp2
        go_roundg (h - (i))
        case measure => omega
        case rel =>
          have hpv : (fun c => !ltOf cf d[mid + m - 1 - c]! d[c]!) h = false := (by show (!_) = false; rw [HLV.out]; rfl)
          exact ⟨i, h, by go_num, by go_num, by omega, by omega, by omega, Nat.le_refl _, S2, (show Hid _ from (bs_left _ i j hlt h HH.out hpv).symm.trans heq.out)⟩
      | false =>
        obtain ⟨iN, hiN⟩ : ∃ q, q = mid + m - 1 - h := ⟨_, rfl⟩
        obtain ⟨jN, hjN⟩ : ∃ q, q = h := ⟨_, rfl⟩
        have ea : ((t : Int)).toNat = iN := by omega
        have pa : (0 : Int) ≤ (t : Int) := by omega
        have ba : (t : Int) < (d0.size : Int) := by omega
        have ra : IntKind.i64.wrap ((t : Int)) = (t : Int) := by rw [IntKind.wrap_i64]; omega
        have ec : ((h : Int)).toNat = jN := by omega
        have pc : (0 : Int) ≤ (h : Int) := by omega
        have bc : (h : Int) < (d0.size : Int) := by omega
        have rc : IntKind.i64.wrap ((h : Int)) = (h : Int) := by rw [IntKind.wrap_i64]; omega
        obtain ⟨x, hx⟩ : ∃ x, x = d[mid + m - 1 - h]! := ⟨_, rfl⟩
        obtain ⟨y, hy⟩ : ∃ x, x = d[h]! := ⟨_, rfl⟩
        have la := S1.out.cl R (by omega) (mid + m - 1 - h) (by omega)
        have lb := S1.out.cl R (by omega) (h) (by omega)
        rw [← hx, ← hiN] at la
        rw [← hy, ← hjN] at lb
        have hc := S1.out.cmp HC.out (by omega) x y
        have hv : ¬ cf x y < 0 := by rw [hx, hy]; exact of_decide_eq_false hlv
        have hd : decide (cf x y < 0) = false := decide_eq_false hv
        have HLV : Aside _ := hlv
        clear hx hy hiN hjN hlv
        go_wp2_with fail
        go_quiet_grown (first | (go_at_fn g; refine Calls.grown_of (hc _ _)))
        have S2 : Aside (SW enc w0 blk off d (grow (wr.drewN nq) osq)) := S1.out.grown nq osq
        clear la lb hc S1
        generalize grow (wr.drewN nq) osq = w2 at S2 ⊢
        clear nq osq ea ec pa pc ba bc ra rc hd hv
        go_wp2
        go_roundg (j - (h + 1))
        case measure => omega
        case rel =>
          have hpv : (fun c => !ltOf cf d[mid + m - 1 - c]! d[c]!) h = true := (by show (!_) = true; rw [HLV.out]; rfl)
          exact ⟨h + 1, j, by go_num, by go_num, by omega, by omega, by omega, Nat.le_refl _, S2, (show Hid _ from (bs_right _ i j hlt h HH.out hpv).symm.trans heq.out)⟩
    · have hltz : ¬ (i : Int) < (j : Int) := by omega
      obtain ⟨s, hs⟩ : ∃ s, s = i := ⟨_, rfl⟩
      obtain ⟨e, he⟩ : ∃ e, e = mid + m - s := ⟨_, rfl⟩
      have HE : Hid (symMerge (ltOf cf) (f + 1) d a m b = symTail (ltOf cf) f d a m b mid s e) := HT2.out s e (by rw [← heq.out, bs_stop _ i j hlt, hs]) he
      subst hs
      have z5 : (N : Int) - (s : Int) = (e : Int) := by omega
      have y5 : m ≤ e ∧ e ≤ b ∧ a ≤ s ∧ s ≤ mid ∧ s ≤ m ∧ e + s ≤ mid + m ∧ mid + m ≤ e + s := by omega
      clear heq he HT2
      by_cases hc1 : s < m ∧ m < e
      · have p1 : (s : Int) < (m : Int) := by omega
        have p2 : (m : Int) < (e : Int) := by omega
        by_cases hc2 : a < s ∧ s < mid
        · have r1 : (a : Int) < (s : Int) := by omega
          have r2 : (s : Int) < (mid : Int) := by omega
          by_cases hc3 : mid < e ∧ e < b
          · have v1 : (mid : Int) < (e : Int) := by omega
            have v2 : (e : Int) < (b : Int) := by omega
            go_wp2_with fail
            have hrot := rotate_any enc (.func (.func g) #[] cb) blk off cap s m e d0 d w0 _ R HS.out S1.out (by omega) (by omega) (by omega) (by omega)
            rw [← HS.out] at hrot
            refine hrot.mono ?_
            rintro _ w2 ⟨rfl, hS2⟩
            have S2 : Aside (SW enc w0 blk off (rotLoop m (m - s) (e - m) d) w2) := hS2
            have z6 : (rotLoop m (m - s) (e - m) d).size = d0.size := by rw [(rotLoop_perm m (m - s) (e - m) d a b (by omega) (by omega) hbd).1]; exact HS.out.symm
            have Z6 : Hid _ := z6
            clear hS2 hrot z6 S1
            go_wp2_with fail
            have hL := IH.out (rotLoop m (m - s) (e - m) d) a s mid _ Z6.out S2.out (by omega) (by omega) (by omega) (by omega)
            refine hL.mono ?_
            rintro _ w3 ⟨rfl, hS3⟩
            have S3 : Aside (SW enc w0 blk off (symMerge (ltOf cf) f (rotLoop m (m - s) (e - m) d) a s mid) w3) := hS3
            have Z7 : Hid ((symMerge (ltOf cf) f (rotLoop m (m - s) (e - m) d) a s mid).size = d0.size) := by show _ = _; rw [symMerge_size]; exact Z6.out
            clear hS3 hL S2
            go_wp2_with fail
            have hRt := IH.out (symMerge (ltOf cf) f (rotLoop m (m - s) (e - m) d) a s mid) mid e b _ Z7.out S3.out (by omega) (by omega) (by omega) (by omega)
            refine hRt.mono ?_
            rintro _ w4 ⟨rfl, hS4⟩
            have S4 : Aside (SW enc w0 blk off (symMerge (ltOf cf) f (symMerge (ltOf cf) f (rotLoop m (m - s) (e - m) d) a s mid) mid e b) w4) := hS4
            clear hS4 hRt S3
            go_wp2_with fail
            go_end0
            refine ⟨rfl, ?_⟩
            rw [HE.out]
            unfold symTail
            simp only
            rw [if_pos hc1, if_pos hc2, if_pos hc3]
            exact S4.out
          · rcases (show ¬ mid < e ∨ (mid < e ∧ ¬ e < b) by omega) with q5 | ⟨q5, q6⟩
            · have v1 : ¬ (mid : Int) < (e : Int) := by omega
              go_wp2_with fail
              have hrot := rotate_any enc (.func (.func g) #[] cb) blk off cap s m e d0 d w0 _ R HS.out S1.out (by omega) (by omega) (by omega) (by omega)
              rw [← HS.out] at hrot
              refine hrot.mono ?_
              rintro _ w2 ⟨rfl, hS2⟩
              have S2 : Aside (SW enc w0 blk off (rotLoop m (m - s) (e - m) d) w2) := hS2
              have z6 : (rotLoop m (m - s) (e - m) d).size = d0.size := by rw [(rotLoop_perm m (m - s) (e - m) d a b (by omega) (by omega) hbd).1]; exact HS.out.symm
              have Z6 : Hid _ := z6
              clear hS2 hrot z6 S1
              go_wp2_with fail
              have hL := IH.out (rotLoop m (m - s) (e - m) d) a s mid _ Z6.out S2.out (by omega) (by omega) (by omega) (by omega)
              refine hL.mono ?_
              rintro _ w3 ⟨rfl, hS3⟩
              have S3 : Aside (SW enc w0 blk off (symMerge (ltOf cf) f (rotLoop m (m - s) (e - m) d) a s mid) w3) := hS3
              have Z7 : Hid ((symMerge (ltOf cf) f (rotLoop m (m - s) (e - m) d) a s mid).size = d0.size) := by show _ = _; rw [symMerge_size]; exact Z6.out
              clear hS3 hL S2
              go_wp2_with fail
              go_end0
              refine ⟨rfl, ?_⟩
              rw [HE.out]
              unfold symTail
              simp only
              rw [if_pos hc1, if_pos hc2, if_neg hc3]
              exact S3.out
            · have v1 : (mid : Int) < (e : Int) := by omega
              have v2 : ¬ (e : Int) < (b : Int) := by omega
              go_wp2_with fail
              have hrot := rotate_any enc (.func (.func g) #[] cb) blk off cap s m e d0 d w0 _ R HS.out S1.out (by omega) (by omega) (by omega) (by omega)
              rw [← HS.out] at hrot
              refine hrot.mono ?_
              rintro _ w2 ⟨rfl, hS2⟩
              have S2 : Aside (SW enc w0 blk off (rotLoop m (m - s) (e - m) d) w2) := hS2
              have z6 : (rotLoop m (m - s) (e - m) d).size = d0.size := by rw [(rotLoop_perm m (m - s) (e - m) d a b (by omega) (by omega) hbd).1]; exact HS.out.symm
              have Z6 : Hid _ := z6
              clear hS2 hrot z6 S1
              go_wp2_with fail
              have hL := IH.out (rotLoop m (m - s) (e - m) d) a s mid _ Z6.out S2.out (by omega) (by omega) (by omega) (by omega)
              refine hL.mono ?_
              rintro _ w3 ⟨rfl, hS3⟩
              have S3 : Aside (SW enc w0 blk off (symMerge (ltOf cf) f (rotLoop m (m - s) (e - m) d) a s mid) w3) := hS3
              have Z7 : Hid ((symMerge (ltOf cf) f (rotLoop m (m - s) (e - m) d) a s mid).size = d0.size) := by show _ = _; rw [symMerge_size]; exact Z6.out
              clear hS3 hL S2
              go_wp2_with fail
              go_end0
              refine ⟨rfl, ?_⟩
              rw [HE.out]
              unfold symTail
              simp only
              rw [if_pos hc1, if_pos hc2, if_neg hc3]
              exact S3.out
        · rcases (show ¬ a < s ∨ (a < s ∧ ¬ s < mid) by omega) with q3 | ⟨q3, q4⟩
          · have r1 : ¬ (a : Int) < (s : Int) := by omega
            by_cases hc3 : mid < e ∧ e < b
            · have v1 : (mid : Int) < (e : Int) := by omega
              have v2 : (e : Int) < (b : Int) := by omega
              go_wp2_with fail
              have hrot := rotate_any enc (.func (.func g) #[] cb) blk off cap s m e d0 d w0 _ R HS.out S1.out (by omega) (by omega) (by omega) (by omega)
              rw [← HS.out] at hrot
              refine hrot.mono ?_
              rintro _ w2 ⟨rfl, hS2⟩
              have S2 : Aside (SW enc w0 blk off (rotLoop m (m - s) (e - m) d) w2) := hS2
              have z6 : (rotLoop m (m - s) (e - m) d).size = d0.size := by rw [(rotLoop_perm m (m - s) (e - m) d a b (by omega) (by omega) hbd).1]; exact HS.out.symm
              have Z6 : Hid _ := z6
              clear hS2 hrot z6 S1
              go_wp2_with fail
              have hRt := IH.out (rotLoop m (m - s) (e - m) d) mid e b _ Z6.out S2.out (by omega) (by omega) (by omega) (by omega)
              refine hRt.mono ?_
              rintro _ w4 ⟨rfl, hS4⟩
              have S4 : Aside (SW enc w0 blk off (symMerge (ltOf cf) f (rotLoop m (m - s) (e - m) d) mid e b) w4) := hS4
              clear hS4 hRt S2
              go_wp2_with fail
              go_end0
              refine ⟨rfl, ?_⟩
              rw [HE.out]
              unfold symTail
              simp only
              rw [if_pos hc1, if_neg hc2, if_pos hc3]
              exact S4.out
            · rcases (show ¬ mid < e ∨ (mid < e ∧ ¬ e < b) by omega) with q5 | ⟨q5, q6⟩
              · have v1 : ¬ (mid : Int) < (e : Int) := by omega
                go_wp2_with fail
                have hrot := rotate_any enc (.func (.func g) #[] cb) blk off cap s m e d0 d w0 _ R HS.out S1.out (by omega) (by omega) (by omega) (by omega)
                rw [← HS.out] at hrot
                refine hrot.mono ?_
                rintro _ w2 ⟨rfl, hS2⟩
                have S2 : Aside (SW enc w0 blk off (rotLoop m (m - s) (e - m) d) w2) := hS2
                have z6 : (rotLoop m (m - s) (e - m) d).size = d0.size := by rw [(rotLoop_perm m (m - s) (e - m) d a b (by omega) (by omega) hbd).1]; exact HS.out.symm
                have Z6 : Hid _ := z6
                clear hS2 hrot z6 S1
                go_wp2_with fail
                go_end0
                refine ⟨rfl, ?_⟩
                rw [HE.out]
                unfold symTail
                simp only
                rw [if_pos hc1, if_neg hc2, if_neg hc3]
                exact S2.out
              · have v1 : (mid : Int) < (e : Int) := by omega
                have v2 : ¬ (e : Int) < (b : Int) := by omega
                go_wp2_with fail
                have hrot := rotate_any enc (.func (.func g) #[] cb) blk off cap s m e d0 d w0 _ R HS.out S1.out (by omega) (by omega) (by omega) (by omega)
                rw [← HS.out] at hrot
                refine hrot.mono ?_
                rintro _ w2 ⟨rfl, hS2⟩
                have S2 : Aside (SW enc w0 blk off (rotLoop m (m - s) (e - m) d) w2) := hS2
                have z6 : (rotLoop m (m - s) (e - m) d).size = d0.size := by rw [(rotLoop_perm m (m - s) (e - m) d a b (by omega) (by omega) hbd).1]; exact HS.out.symm
                have Z6 : Hid _ := z6
                clear hS2 hrot z6 S1
                go_wp2_with fail
                go_end0
                refine ⟨rfl, ?_⟩
                rw [HE.out]
                unfold symTail
                simp only
                rw [if_pos hc1, if_neg hc2, if_neg hc3]
                exact S2.out
          · have r1 : (a : Int) < (s : Int) := by omega
            have r2 : ¬ (s : Int) < (mid : Int) := by omega
            by_cases hc3 : mid < e ∧ e < b
            · have v1 : (mid : Int) < (e : Int) := by omega
              have v2 : (e : Int) < (b : Int) := by omega
              go_wp2_with fail
              have hrot := rotate_any enc (.func (.func g) #[] cb) blk off cap s m e d0 d w0 _ R HS.out S1.out (by omega) (by omega) (by omega) (by omega)
              rw [← HS.out] at hrot
              refine hrot.mono ?_
              rintro _ w2 ⟨rfl, hS2⟩
              have S2 : Aside (SW enc w0 blk off (rotLoop m (m - s) (e - m) d) w2) := hS2
              have z6 : (rotLoop m (m - s) (e - m) d).size = d0.size := by rw [(rotLoop_perm m (m - s) (e - m) d a b (by omega) (by omega) hbd).1]; exact HS.out.symm
              have Z6 : Hid _ := z6
              clear hS2 hrot z6 S1
              go_wp2_with fail
              have hRt := IH.out (rotLoop m (m - s) (e - m) d) mid e b _ Z6.out S2.out (by omega) (by omega) (by omega) (by omega)
              refine hRt.mono ?_
              rintro _ w4 ⟨rfl, hS4⟩
              have S4 : Aside (SW enc w0 blk off (symMerge (ltOf cf) f (rotLoop m (m - s) (e - m) d) mid e b) w4) := hS4
              clear hS4 hRt S2
              go_wp2_with fail
              go_end0
              refine ⟨rfl, ?_⟩
              rw [HE.out]
              unfold symTail
              simp only
              rw [if_pos hc1, if_neg hc2, if_pos hc3]
              exact S4.out
            · rcases (show ¬ mid < e ∨ (mid < e ∧ ¬ e < b) by omega) with q5 | ⟨q5, q6⟩
              · have v1 : ¬ (mid : Int) < (e : Int) := by omega
                go_wp2_with fail
                have hrot := rotate_any enc (.func (.func g) #[] cb) blk off cap s m e d0 d w0 _ R HS.out S1.out (by omega) (by omega) (by omega) (by omega)
                rw [← HS.out] at hrot
                refine hrot.mono ?_
                rintro _ w2 ⟨rfl, hS2⟩
                have S2 : Aside (SW enc w0 blk off (rotLoop m (m - s) (e - m) d) w2) := hS2
                have z6 : (rotLoop m (m - s) (e - m) d).size = d0.size := by rw [(rotLoop_perm m (m - s) (e - m) d a b (by omega) (by omega) hbd).1]; exact HS.out.symm
                have Z6 : Hid _ := z6
                clear hS2 hrot z6 S1
                go_wp2_with fail
                go_end0
                refine ⟨rfl, ?_⟩
                rw [HE.out]
                unfold symTail
                simp only
                rw [if_pos hc1, if_neg hc2, if_neg hc3]
                exact S2.out
              · have v1 : (mid : Int) < (e : Int) := by omega
                have v2 : ¬ (e : Int) < (b : Int) := by omega
                go_wp2_with fail
                have hrot := rotate_any enc (.func (.func g) #[] cb) blk off cap s m e d0 d w0 _ R HS.out S1.out (by omega) (by omega) (by omega) (by omega)
                rw [← HS.out] at hrot
                refine hrot.mono ?_
                rintro _ w2 ⟨rfl, hS2⟩
                have S2 : Aside (SW enc w0 blk off (rotLoop m (m - s) (e - m) d) w2) := hS2
                have z6 : (rotLoop m (m - s) (e - m) d).size = d0.size := by rw [(rotLoop_perm m (m - s) (e - m) d a b (by omega) (by omega) hbd).1]; exact HS.out.symm
                have Z6 : Hid _ := z6
                clear hS2 hrot z6 S1
                go_wp2_with fail
                go_end0
                refine ⟨rfl, ?_⟩
                rw [HE.out]
                unfold symTail
                simp only
                rw [if_pos hc1, if_neg hc2, if_neg hc3]
                exact S2.out
      · rcases (show ¬ s < m ∨ (s < m ∧ ¬ m < e) by omega) with q1 | ⟨q1, q2⟩
        · have p1 : ¬ (s : Int) < (m : Int) := by omega
          by_cases hc2 : a < s ∧ s < mid
          · have r1 : (a : Int) < (s : Int) := by omega
            have r2 : (s : Int) < (mid : Int) := by omega
            by_cases hc3 : mid < e ∧ e < b
            · have v1 : (mid : Int) < (e : Int) := by omega
              have v2 : (e : Int) < (b : Int) := by omega
              go_wp2_with fail
              have hL := IH.out d a s mid _ HS.out.symm S1.out (by omega) (by omega) (by omega) (by omega)
              refine hL.mono ?_
              rintro _ w3 ⟨rfl, hS3⟩
              have S3 : Aside (SW enc w0 blk off (symMerge (ltOf cf) f d a s mid) w3) := hS3
              have Z7 : Hid ((symMerge (ltOf cf) f d a s mid).size = d0.size) := by show _ = _; rw [symMerge_size]; exact HS.out.symm
              clear hS3 hL S1
              go_wp2_with fail
              have hRt := IH.out (symMerge (ltOf cf) f d a s mid) mid e b _ Z7.out S3.out (by omega) (by omega) (by omega) (by omega)
              refine hRt.mono ?_
              rintro _ w4 ⟨rfl, hS4⟩
              have S4 : Aside (SW enc w0 blk off (symMerge (ltOf cf) f (symMerge (ltOf cf) f d a s mid) mid e b) w4) := hS4
              clear hS4 hRt S3
              go_wp2_with fail
              go_end0
              refine ⟨rfl, ?_⟩
              rw [HE.out]
              unfold symTail
              simp only
              rw [if_neg hc1, if_pos hc2, if_pos hc3]
              exact S4.out
            · rcases (show ¬ mid < e ∨ (mid < e ∧ ¬ e < b) by omega) with q5 | ⟨q5, q6⟩
              · have v1 : ¬ (mid : Int) < (e : Int) := by omega
                go_wp2_with fail
                have hL := IH.out d a s mid _ HS.out.symm S1.out (by omega) (by omega) (by omega) (by omega)
                refine hL.mono ?_
                rintro _ w3 ⟨rfl, hS3⟩
                have S3 : Aside (SW enc w0 blk off (symMerge (ltOf cf) f d a s mid) w3) := hS3
                have Z7 : Hid ((symMerge (ltOf cf) f d a s mid).size = d0.size) := by show _ = _; rw [symMerge_size]; exact HS.out.symm
                clear hS3 hL S1
                go_wp2_with fail
                go_end0
                refine ⟨rfl, ?_⟩
                rw [HE.out]
                unfold symTail
                simp only
                rw [if_neg hc1, if_pos hc2, if_neg hc3]
                exact S3.out
              · have v1 : (mid : Int) < (e : Int) := by omega
                have v2 : ¬ (e : Int) < (b : Int) := by omega
                go_wp2_with fail
                have hL := IH.out d a s mid _ HS.out.symm S1.out (by omega) (by omega) (by omega) (by omega)
                refine hL.mono ?_
                rintro _ w3 ⟨rfl, hS3⟩
                have S3 : Aside (SW enc w0 blk off (symMerge (ltOf cf) f d a s mid) w3) := hS3
                have Z7 : Hid ((symMerge (ltOf cf) f d a s mid).size = d0.size) := by show _ = _; rw [symMerge_size]; exact HS.out.symm
                clear hS3 hL S1
                go_wp2_with fail
                go_end0
                refine ⟨rfl, ?_⟩
                rw [HE.out]
                unfold symTail
                simp only
                rw [if_neg hc1, if_pos hc2, if_neg hc3]
                exact S3.out
          · rcases (show ¬ a < s ∨ (a < s ∧ ¬ s < mid) by omega) with q3 | ⟨q3, q4⟩
            · have r1 : ¬ (a : Int) < (s : Int) := by omega
              by_cases hc3 : mid < e ∧ e < b
              · have v1 : (mid : Int) < (e : Int) := by omega
                have v2 : (e : Int) < (b : Int) := by omega
                go_wp2_with fail
                have hRt := IH.out d mid e b _ HS.out.symm S1.out (by omega) (by omega) (by omega) (by omega)
                refine hRt.mono ?_
                rintro _ w4 ⟨rfl, hS4⟩
                have S4 : Aside (SW enc w0 blk off (symMerge (ltOf cf) f d mid e b) w4) := hS4
                clear hS4 hRt S1
                go_wp2_with fail
                go_end0
                refine ⟨rfl, ?_⟩
                rw [HE.out]
                unfold symTail
                simp only
                rw [if_neg hc1, if_neg hc2, if_pos hc3]
                exact S4.out
              · rcases (show ¬ mid < e ∨ (mid < e ∧ ¬ e < b) by omega) with q5 | ⟨q5, q6⟩
                · have v1 : ¬ (mid : Int) < (e : Int) := by omega
                  go_wp2_with fail
                  go_end0
                  refine ⟨rfl, ?_⟩
                  rw [HE.out]
                  unfold symTail
                  simp only
                  rw [if_neg hc1, if_neg hc2, if_neg hc3]
                  exact S1.out
                · have v1 : (mid : Int) < (e : Int) := by omega
                  have v2 : ¬ (e : Int) < (b : Int) := by omega
                  go_wp2_with fail
                  go_end0
                  refine ⟨rfl, ?_⟩
                  rw [HE.out]
                  unfold symTail
                  simp only
                  rw [if_neg hc1, if_neg hc2, if_neg hc3]
                  exact S1.out
            · have r1 : (a : Int) < (s : Int) := by omega
              have r2 : ¬ (s : Int) < (mid : Int) := by omega
              by_cases hc3 : mid < e ∧ e < b
              · have v1 : (mid : Int) < (e : Int) := by omega
                have v2 : (e : Int) < (b : Int) := by omega
                go_wp2_with fail
                have hRt := IH.out d mid e b _ HS.out.symm S1.out (by omega) (by omega) (by omega) (by omega)
                refine hRt.mono ?_
                rintro _ w4 ⟨rfl, hS4⟩
                have S4 : Aside (SW enc w0 blk off (symMerge (ltOf cf) f d mid e b) w4) := hS4
                clear hS4 hRt S1
                go_wp2_with fail
                go_end0
                refine ⟨rfl, ?_⟩
                rw [HE.out]
                unfold symTail
                simp only
                rw [if_neg hc1, if_neg hc2, if_pos hc3]
                exact S4.out
              · rcases (show ¬ mid < e ∨ (mid < e ∧ ¬ e < b) by omega) with q5 | ⟨q5, q6⟩
                · have v1 : ¬ (mid : Int) < (e : Int) := by omega
                  go_wp2_with fail
                  go_end0
                  refine ⟨rfl, ?_⟩
                  rw [HE.out]
                  unfold symTail
                  simp only
                  rw [if_neg hc1, if_neg hc2, if_neg hc3]
                  exact S1.out
                · have v1 : (mid : Int) < (e : Int) := by omega
                  have v2 : ¬ (e : Int) < (b : Int) := by omega
                  go_wp2_with fail
                  go_end0
                  refine ⟨rfl, ?_⟩
                  rw [HE.out]
                  unfold symTail
                  simp only
                  rw [if_neg hc1, if_neg hc2, if_neg hc3]
                  exact S1.out
        · have p1 : (s : Int) < (m : Int) := by omega
          have p2 : ¬ (m : Int) < (e : Int) := by omega
          by_cases hc2 : a < s ∧ s < mid
          · have r1 : (a : Int) < (s : Int) := by omega
            have r2 : (s : Int) < (mid : Int) := by omega
            by_cases hc3 : mid < e ∧ e < b
            · have v1 : (mid : Int) < (e : Int) := by omega
              have v2 : (e : Int) < (b : Int) := by omega
              go_wp2_with fail
              have hL := IH.out d a s mid _ HS.out.symm S1.out (by omega) (by omega) (by omega) (by omega)
              refine hL.mono ?_
              rintro _ w3 ⟨rfl, hS3⟩
              have S3 : Aside (SW enc w0 blk off (symMerge (ltOf cf) f d a s mid) w3) := hS3
              have Z7 : Hid ((symMerge (ltOf cf) f d a s mid).size = d0.size) := by show _ = _; rw [symMerge_size]; exact HS.out.symm
              clear hS3 hL S1
              go_wp2_with fail
              have hRt := IH.out (symMerge (ltOf cf) f d a s mid) mid e b _ Z7.out S3.out (by omega) (by omega) (by omega) (by omega)
              refine hRt.mono ?_
              rintro _ w4 ⟨rfl, hS4⟩
              have S4 : Aside (SW enc w0 blk off (symMerge (ltOf cf) f (symMerge (ltOf cf) f d a s mid) mid e b) w4) := hS4
              clear hS4 hRt S3
              go_wp2_with fail
              go_end0
              refine ⟨rfl, ?_⟩
              rw [HE.out]
              unfold symTail
              simp only
              rw [if_neg hc1, if_pos hc2, if_pos hc3]
              exact S4.out
            · rcases (show ¬ mid < e ∨ (mid < e ∧ ¬ e < b) by omega) with q5 | ⟨q5, q6⟩
              · have v1 : ¬ (mid : Int) < (e : Int) := by omega
                go_wp2_with fail
                have hL := IH.out d a s mid _ HS.out.symm S1.out (by omega) (by omega) (by omega) (by omega)
                refine hL.mono ?_
                rintro _ w3 ⟨rfl, hS3⟩
                have S3 : Aside (SW enc w0 blk off (symMerge (ltOf cf) f d a s mid) w3) := hS3
                have Z7 : Hid ((symMerge (ltOf cf) f d a s mid).size = d0.size) := by show _ = _; rw [symMerge_size]; exact HS.out.symm
                clear hS3 hL S1
                go_wp2_with fail
                go_end0
                refine ⟨rfl, ?_⟩
                rw [HE.out]
                unfold symTail
                simp only
                rw [if_neg hc1, if_pos hc2, if_neg hc3]
                exact S3.out
              · have v1 : (mid : Int) < (e : Int) := by omega
                have v2 : ¬ (e : Int) < (b : Int) := by omega
                go_wp2_with fail
                have hL := IH.out d a s mid _ HS.out.symm S1.out (by omega) (by omega) (by omega) (by omega)
                refine hL.mono ?_
                rintro _ w3 ⟨rfl, hS3⟩
                have S3 : Aside (SW enc w0 blk off (symMerge (ltOf cf) f d a s mid) w3) := hS3
                have Z7 : Hid ((symMerge (ltOf cf) f d a s mid).size = d0.size) := by show _ = _; rw [symMerge_size]; exact HS.out.symm
                clear hS3 hL S1
                go_wp2_with fail
                go_end0
                refine ⟨rfl, ?_⟩
                rw [HE.out]
                unfold symTail
                simp only
                rw [if_neg hc1, if_pos hc2, if_neg hc3]
                exact S3.out
          · rcases (show ¬ a < s ∨ (a < s ∧ ¬ s < mid) by omega) with q3 | ⟨q3, q4⟩
            · have r1 : ¬ (a : Int) < (s : Int) := by omega
              by_cases hc3 : mid < e ∧ e < b
              · have v1 : (mid : Int) < (e : Int) := by omega
                have v2 : (e : Int) < (b : Int) := by omega
                go_wp2_with fail
                have hRt := IH.out d mid e b _ HS.out.symm S1.out (by omega) (by omega) (by omega) (by omega)
                refine hRt.mono ?_
                rintro _ w4 ⟨rfl, hS4⟩
                have S4 : Aside (SW enc w0 blk off (symMerge (ltOf cf) f d mid e b) w4) := hS4
                clear hS4 hRt S1
                go_wp2_with fail
                go_end0
                refine ⟨rfl, ?_⟩
                rw [HE.out]
                unfold symTail
                simp only
                rw [if_neg hc1, if_neg hc2, if_pos hc3]
                exact S4.out
              · rcases (show ¬ mid < e ∨ (mid < e ∧ ¬ e < b) by omega) with q5 | ⟨q5, q6⟩
                · have v1 : ¬ (mid : Int) < (e : Int) := by omega
                  go_wp2_with fail
                  go_end0
                  refine ⟨rfl, ?_⟩
                  rw [HE.out]
                  unfold symTail
                  simp only
                  rw [if_neg hc1, if_neg hc2, if_neg hc3]
                  exact S1.out
                · have v1 : (mid : Int) < (e : Int) := by omega
                  have v2 : ¬ (e : Int) < (b : Int) := by omega
                  go_wp2_with fail
                  go_end0
                  refine ⟨rfl, ?_⟩
                  rw [HE.out]
                  unfold symTail
                  simp only
                  rw [if_neg hc1, if_neg hc2, if_neg hc3]
                  exact S1.out
            · have r1 : (a : Int) < (s : Int) := by omega
              have r2 : ¬ (s : Int) < (mid : Int) := by omega
              by_cases hc3 : mid < e ∧ e < b
              · have v1 : (mid : Int) < (e : Int) := by omega
                have v2 : (e : Int) < (b : Int) := by omega
                go_wp2_with fail
                have hRt := IH.out d mid e b _ HS.out.symm S1.out (by omega) (by omega) (by omega) (by omega)
                refine hRt.mono ?_
                rintro _ w4 ⟨rfl, hS4⟩
                have S4 : Aside (SW enc w0 blk off (symMerge (ltOf cf) f d mid e b) w4) := hS4
                clear hS4 hRt S1
                go_wp2_with fail
                go_end0
                refine ⟨rfl, ?_⟩
                rw [HE.out]
                unfold symTail
                simp only
                rw [if_neg hc1, if_neg hc2, if_pos hc3]
                exact S4.out
              · rcases (show ¬ mid < e ∨ (mid < e ∧ ¬ e < b) by omega) with q5 | ⟨q5, q6⟩
                · have v1 : ¬ (mid : Int) < (e : Int) := by omega
                  go_wp2_with fail
                  go_end0
                  refine ⟨rfl, ?_⟩
                  rw [HE.out]
                  unfold symTail
                  simp only
                  rw [if_neg hc1, if_neg hc2, if_neg hc3]
                  exact S1.out
                · have v1 : (mid : Int) < (e : Int) := by omega
                  have v2 : ¬ (e : Int) < (b : Int) := by omega
                  go_wp2_with fail
                  go_end0
                  refine ⟨rfl, ?_⟩
                  rw [HE.out]
                  unfold symTail
                  simp only
                  rw [if_neg hc1, if_neg hc2, if_neg hc3]
                  exact S1.out
end Go.Proofs.YtkigjcdjiheneaaDoor
