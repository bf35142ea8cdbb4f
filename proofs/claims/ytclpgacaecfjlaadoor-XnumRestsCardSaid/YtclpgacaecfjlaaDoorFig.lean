/- xnum's figure: a number's digits by a picture's body, by its contract. -/
import Derived.Test.YtclpgacaecfjlaaDoorTxt
import Derived.Deep.RegionHeld3
import Derived.Deep.DeepCutAuto
import Derived.Deep.CutBlock
import Derived.Deep.LoopGhost
import Derived.Outline
namespace Go.Proofs.YtclpgacaecfjlaaDoor
open Go.RowKit Go.Sten Go.Lib Go.Sort Go.Shelf

def unitN (pl : Nat) : Nat := 10 ^ (6 - min pl 6)
/-- a number rounded to so many places -/
def rndN (n pl : Nat) : Nat := (n + unitN pl / 2) / unitN pl * unitN pl
def s0L (m : Nat) : List UInt8 := if m < 1000000 then [] else Lib.decDigits (m / 1000000)
def s1L (W : List UInt8) (m : Nat) : List UInt8 := Lib.repeatL [48] (W.count 48 - (s0L m).length) ++ s0L m
/-- commas from a place on, downwards -/
def commas (g : Nat) : Nat → List UInt8 → Nat → List UInt8
  | 0, s, _ => s
  | f + 1, s, k => if 0 < k then commas g f (s.take k ++ 44 :: s.drop k) (k - g) else s
def s2L (W : List UInt8) (m : Nat) : List UInt8 :=
  if 0 ≤ Lib.lastIndexByte ⟨W.toArray⟩ 44 then commas (W.length - (Lib.lastIndexByte ⟨W.toArray⟩ 44).toNat - 1) (s1L W m).length (s1L W m) ((s1L W m).length - (W.length - (Lib.lastIndexByte ⟨W.toArray⟩ 44).toNat - 1)) else s1L W m
def b0L (P : List UInt8) (m : Nat) : List UInt8 := (sixL m ++ Lib.repeatL [48] P.length).take P.length
def behL (P : List UInt8) (m : Nat) : List UInt8 := (b0L P m).take (P.count 48) ++ Lib.trimRightB ((b0L P m).drop (P.count 48)) 48
def figL (W P : List UInt8) (n : Nat) : List UInt8 :=
  s2L W (rndN n P.length) ++ (if behL P (rndN n P.length) = [] then [] else 46 :: behL P (rndN n P.length))

theorem unit_step (j : Nat) (h : j < 6) : 10 ^ (6 - j) / 10 = 10 ^ (6 - (j + 1)) := by
  obtain ⟨k, hk⟩ : ∃ k, 6 - j = k + 1 := ⟨5 - j, by omega⟩
  rw [hk, show 6 - (j + 1) = k by omega, Nat.pow_succ]
  omega

theorem s0L_len (m : Nat) (h : m < 10000000000000000000) : (s0L m).length ≤ 20 := by
  unfold s0L
  split
  · simp
  · rw [Lib.decDigits_length]
    have := Lib.numDigits_eq (m / 1000000) (by omega) (by omega)
    split at this <;> omega

set_option maxHeartbeats 4000000 in
set_option maxRecDepth 100000 in
theorem fig_any (W P : List UInt8) (h t : ByteArray) (n : Nat) (w : World) (hW : W.length ≤ 100) (hP : P.length ≤ 100) (hn : n ≤ 1000000000000000000)
    (hg : 0 ≤ Lib.lastIndexByte ⟨W.toArray⟩ 44 → Lib.lastIndexByte ⟨W.toArray⟩ 44 + 1 < W.length) (hE : Env w) :
    Calls Tryd.prog 31 #[.agg #[.string h, .string ⟨W.toArray⟩, .string ⟨P.toArray⟩, .string t], .int .u64 (n : Int)] w fun e w' => e = .returned (.string ⟨(figL W P n).toArray⟩) ∧ Below w.heap.size w w' := by
  obtain ⟨p, hp⟩ : ∃ p : ByteArray, p = ⟨P.toArray⟩ := ⟨_, rfl⟩
  obtain ⟨q, hq⟩ : ∃ q : ByteArray, q = ⟨W.toArray⟩ := ⟨_, rfl⟩
  have sp : p.size = P.length := by rw [hp, arr_size]
  have sq : q.size = W.length := by rw [hq, arr_size]
  rw [← hp, ← hq]
  have HP := hid hp
  have HQ := hid hq
  have HSP := hid sp
  have HSQ := hid sq
  have sp1 : p.size ≤ 100 := by omega
  have sq1 : q.size ≤ 100 := by omega
  have HG := hid hg
  have HE := hid hE
  clear hp hq sp sq hg hE
  go_enter Tryd.func31, Tryd.ntmps31
  go_upto_block 0 with (fail)
  go_cut [5] from 12 (fun s5 wx => s5 = .int .u64 ((unitN P.length : Nat) : Int) ∧ wx = w.alloc (.cells #[.string h, .string q, .string p, .string t] 49))
  case first =>
    go_wp2_with fail
    go_loopg [5, 16] 6 (fun kx s5 s16 wr => ∃ j : Nat, s16 = .int .i64 j ∧ j ≤ min p.size 6 ∧ 6 - j ≤ kx ∧ s5 = .int .u64 ((10 ^ (6 - j) : Nat) : Int) ∧ wr = w.alloc (.cells #[.string h, .string q, .string p, .string t] 49))
    case atStart => exact ⟨0, rfl, by omega, by omega, rfl, rfl⟩
    case round =>
      obtain ⟨j, rfl, hj, hkx, rfl, rfl⟩ := hrel
      by_cases hlt : j < min p.size 6
      · have hltz : (j : Int) < min (p.size : Int) 6 := by omega
        have hu := unit_step j (by omega)
        obtain ⟨u, hu1⟩ : ∃ u, u = 10 ^ (6 - j) := ⟨_, rfl⟩
        have hub : u ≤ 1000000 := by rw [hu1]; exact Nat.pow_le_pow_right (by omega) (by omega : 6 - j ≤ 6)
        rw [← hu1] at hu ⊢
        have HU := hid hu
        clear hu hu1
        go_wp2_with fail
        go_roundg (6 - (j + 1))
        case measure => omega
        case rel => exact ⟨j + 1, by go_num, by omega, by omega, by rw [← HU.out]; go_num, rfl⟩
      · have hltz : ¬ (j : Int) < min (p.size : Int) 6 := by omega
        have hj6 : j = min p.size 6 := by omega
        have HJ := hid hj6
        clear hj6
        go_wp2_with fail
        go_meet
        exact ⟨by rw [HJ.out, HSP.out]; rfl, rfl⟩
  case rest =>
      obtain ⟨rfl, rfl⟩ := hcut
      obtain ⟨u, huN⟩ : ∃ u, u = unitN P.length := ⟨_, rfl⟩
      have hub : u ≤ 1000000 := by rw [huN]; exact Nat.pow_le_pow_right (by omega) (by omega : 6 - min P.length 6 ≤ 6)
      have hu0 : 1 ≤ u := by rw [huN]; exact Nat.pow_pos (by omega)
      obtain ⟨m, hm⟩ : ∃ m, m = (n + u / 2) / u * u := ⟨_, rfl⟩
      have hmle : m ≤ n + u / 2 := by rw [hm]; exact Nat.div_mul_le_self _ _
      have hmb : m ≤ 1000000000001000000 := by omega
      have hmR : m = rndN n P.length := by rw [hm, huN]; rfl
      have em : ((n : Int) + (u : Int) / 2) / (u : Int) * (u : Int) = (m : Int) := by rw [hm]; simp
      have em2 : IntKind.u64.wrap (((n : Int) + (u : Int) / 2) / (u : Int) * (u : Int)) = (m : Int) := by rw [em, IntKind.wrap_u64]; omega
      rw [← huN]
      have HMR := hid hmR
      clear hm huN hmR hmle
      have CF : Aside (∀ W, Env W → Calls Tryd.prog 32 #[.int .u64 ((m : Int) / 1000000), .int .i64 10] W fun e w' => e = .returned (.string ⟨(Lib.decDigits (m / 1000000)).toArray⟩) ∧ Gw W w') := fun W h => by
        rw [show (m : Int) / 1000000 = ((m / 1000000 : Nat) : Int) by simp]
        exact fmtU_any (m / 1000000) W (by omega) h
      obtain ⟨dq, hdq⟩ : ∃ s : ByteArray, s = ⟨(Lib.decDigits (m / 1000000)).toArray⟩ := ⟨_, rfl⟩
      rw [← hdq] at CF
      have HDQ := hid hdq
      clear hdq
      go_wp2_with fail
      refine (CF.out _ (HE.out.alloc _)).mono ?_
      rintro _ w2 ⟨rfl, g2⟩
      have HMB := hid hmb
      clear hmb hn em em2 CF hub hu0
      go_upto_region 8 with (fail)
      go_cut [33] from 17 (fun s33 wx => s33 = .bool (decide ((m : Int) < 1000000)) ∧ w2 = wx)
      case first =>
        go_wp2_with fail
        go_meet
        exact ⟨rfl, rfl⟩
      case rest =>
      obtain ⟨rfl, rfl⟩ := hcut
      obtain ⟨b, hb⟩ : ∃ b, b = decide ((m : Int) < 1000000) := ⟨_, rfl⟩
      rw [← hb]
      have HBB := hid hb
      clear hb
      go_upto_if 33 with (fail)
      go_cut [6] from 34 (fun s6 wx => s6 = .string ⟨(s0L m).toArray⟩ ∧ w2 = wx)
      case first =>
        cases b
        · have e : s0L m = Lib.decDigits (m / 1000000) := if_neg (by have := HBB.out.symm; simp at this; omega)
          have E := hid e
          clear e
          go_wp2_with fail
          go_meet
          exact ⟨by rw [E.out, HDQ.out], rfl⟩
        · have e : s0L m = [] := if_pos (by have := HBB.out.symm; simp at this; omega)
          have E := hid e
          clear e
          go_wp2_with fail
          go_meet
          exact ⟨by rw [E.out], rfl⟩
      case rest =>
        obtain ⟨rfl, rfl⟩ := hcut
        obtain ⟨s0, hs0⟩ : ∃ s : ByteArray, s = ⟨(s0L m).toArray⟩ := ⟨_, rfl⟩
        have ss0 : s0.size ≤ 20 := by rw [hs0, arr_size]; exact s0L_len m (by have := HMB.out; omega)
        have hs0n : s0.size = (s0L m).length := by rw [hs0, arr_size]
        rw [← hs0]
        have HS0 := hid hs0
        have HS0N := hid hs0n
        have hcl : w2.cell? ⟨w.heap.size, 1, none⟩ = some (.string q) := (g2.new 1).1.trans (by simp)
        have hcl2 : w2.cell? ⟨w.heap.size, 2, none⟩ = some (.string p) := (g2.new 2).1.trans (by simp)
        obtain ⟨cnt, hcnt⟩ : ∃ c, c = W.count 48 := ⟨_, rfl⟩
        have hcb : cnt ≤ 100 := by rw [hcnt]; exact Nat.le_trans List.count_le_length hW
        have CC : Aside (∀ W', Calls Tryd.prog 46 #[.string q, .string ⟨#[48]⟩] W' fun e w' => e = .returned (.int .i64 (cnt : Int)) ∧ W' = w') := fun W' => by
          have h := Tryd.strings_Count_one q 48 W'
          rw [HQ.out, arr_list] at h
          rw [HQ.out, hcnt]
          exact h.mono fun _ _ h => ⟨h.1, h.2.symm⟩
        have HCNT := hid hcnt
        have emax : max ((cnt : Int) - (s0.size : Int)) 0 = ((cnt - s0.size : Nat) : Int) := by omega
        obtain ⟨rp, hrp⟩ : ∃ r : ByteArray, r = ⟨(Lib.repeatL [48] (cnt - s0.size)).toArray⟩ := ⟨_, rfl⟩
        have srp : rp.size ≤ 100 := by rw [hrp, arr_size, Lib.repeatL_length]; simp; omega
        have HRP := hid hrp
        have CR : Aside (∀ W', Calls Tryd.prog 48 #[.string ⟨#[48]⟩, .int .i64 ((cnt - s0.size : Nat) : Int)] W' fun e w' => e = .returned (.string rp) ∧ Below W'.heap.size W' w') := fun W' => by
          rw [hrp]
          exact Tryd.strings_Repeat ⟨#[48]⟩ (cnt - s0.size) W' (by omega) (by rw [show (⟨#[48]⟩ : ByteArray).size = 1 from rfl]; omega)
        obtain ⟨li, hli⟩ : ∃ i, i = Lib.lastIndexByte q 44 := ⟨_, rfl⟩
        have CL : Aside (∀ W', Calls Tryd.prog 49 #[.string q, .int .u8 44] W' fun e w' => e = .returned (.int .i64 li) ∧ W' = w') := fun W' => by
          rw [hli]
          exact (Tryd.strings_LastIndexByte q 44 (by omega) W').mono fun _ _ h => ⟨h.1, h.2.symm⟩
        have HLI := hid hli
        clear hs0 hs0n hcnt hrp hli
        go_wp2_with fail
        refine (CC.out _).mono ?_
        rintro _ w3 ⟨rfl, rfl⟩
        go_wp2_with fail
        refine (CR.out _).mono ?_
        rintro _ w4 ⟨rfl, hb4⟩
        have hlt2 : w.heap.size < w2.heap.size := by have := g2.size; simp at this; omega
        have hc4 : w4.cell? ⟨w.heap.size, 1, none⟩ = some (.string q) := (hb4.cell (p := ⟨w.heap.size, 1, none⟩) hlt2).trans hcl
        have hc42 : w4.cell? ⟨w.heap.size, 2, none⟩ = some (.string p) := (hb4.cell (p := ⟨w.heap.size, 2, none⟩) hlt2).trans hcl2
        have hB4 : Aside (Below w.heap.size w w4) := ((((Gw.refl w).alloc _).trans g2).below).trans (hb4.mono (by omega))
        have hz4 : w.heap.size < w4.heap.size := Nat.lt_of_lt_of_le hlt2 hb4.size
        clear hcl hcl2 hb4 g2 hlt2
        go_wp2_with fail
        refine (CL.out _).mono ?_
        rintro _ w5 ⟨rfl, rfl⟩
        obtain ⟨s1, hs1⟩ : ∃ s, s = rp ++ s0 := ⟨_, rfl⟩
        rw [← hs1]
        have ss1 : s1.size ≤ 120 := by rw [hs1, ByteArray.size_append]; omega
        have hs1L : s1 = ⟨(s1L W m).toArray⟩ := by
          rw [hs1, HRP.out, HS0N.out, HS0.out, bcat, HCNT.out]; rfl
        have HS1 := hid hs1L
        clear hs1 hs1L
        go_upto_if 48 with (fail)
        obtain ⟨b, hb⟩ : ∃ b, b = decide (0 ≤ li) := ⟨_, rfl⟩
        rw [← hb]
        have HBL := hid hb
        clear hb
        go_cut [6] from 49 (fun s6 wx => s6 = .string ⟨(s2L W m).toArray⟩ ∧ Aside ((s2L W m).length ≤ 240) ∧ ∃ nd, wx = w4.drewN nd)
        case first =>
          cases b
          · have e : s2L W m = s1L W m := if_neg (by rw [← HQ.out, ← HLI.out]; have := HBL.out.symm; simp at this; omega)
            have E := hid e
            clear e
            go_wp2_with fail
            go_meet
            exact ⟨by rw [E.out, HS1.out], (by show _ ≤ 240; rw [E.out, ← arr_size, ← HS1.out]; omega), 0, rfl⟩
          · have h0 : 0 ≤ li := by have := HBL.out.symm; simpa using this
            have h1 : li + 1 < W.length := by rw [HLI.out, HQ.out]; exact HG.out (by rw [← HQ.out, ← HLI.out]; exact h0)
            obtain ⟨i, hi⟩ : ∃ i : Nat, li = i := ⟨li.toNat, by omega⟩
            obtain ⟨g, hgd⟩ : ∃ g, g = W.length - i - 1 := ⟨_, rfl⟩
            have hg1 : 1 ≤ g := by omega
            have hg2 : g ≤ 100 := by omega
            have hgz : (g : Int) = (q.size : Int) - li - 1 := by rw [HSQ.out]; omega
            have e : s2L W m = commas g (s1L W m).length (s1L W m) ((s1L W m).length - g) := by
              unfold s2L
              rw [← HQ.out, ← HLI.out, if_pos h0, hi, Int.toNat_natCast, ← hgd]
            have hs1n : s1.size = (s1L W m).length := by rw [HS1.out, arr_size]
            have HL : Aside (∃ f L, s1 = ⟨L.toArray⟩ ∧ ((s1.size : Int) - (g : Int)).toNat ≤ f ∧ commas g f L ((s1.size : Int) - (g : Int)).toNat = s2L W m) := by
              refine ⟨(s1L W m).length, s1L W m, HS1.out, by omega, ?_⟩
              rw [e]
              congr 1
              omega
            have HI : Hid (li = (i : Int)) := hi
            have hli2 : li < (q.size : Int) := by rw [HSQ.out]; omega
            have HGZ := hid hgz.symm
            have hgz2 := HGZ.out
            clear hi hgd e hs1n hgz h1
            go_wp2_with fail
            go_loopg [6, 9] s1.size (fun kx s6 s9 wr => ∃ (s : ByteArray) (k : Int), s6 = .string s ∧ s9 = .int .i64 k ∧ (s.size : Int) + k ≤ 240 ∧ k ≤ s.size ∧ -100 ≤ k ∧ s.size ≤ 240 ∧ k.toNat ≤ kx ∧ Aside (∃ f L, s = ⟨L.toArray⟩ ∧ k.toNat ≤ f ∧ commas g f L k.toNat = s2L W m) ∧ ∃ nd, wr = w4.drewN nd)
            case atStart => exact ⟨s1, _, rfl, rfl, by omega, by omega, by omega, by omega, by omega, HL, 0, rfl⟩
            case round =>
              obtain ⟨s, k, rfl, rfl, z1, z2, z3, z4, hkx, HS, nd, rfl⟩ := hrel
              by_cases hk : 0 < k
              · obtain ⟨kn, hkn⟩ : ∃ kn : Nat, k = kn := ⟨k.toNat, by omega⟩
                have hk1 : 1 ≤ kn := by omega
                have hk2 : kn ≤ s.size := by omega
                have HS' : Aside (∃ f L, s.extract 0 kn ++ ⟨#[44]⟩ ++ s.extract kn s.size = ⟨L.toArray⟩ ∧ ((kn : Int) - (g : Int)).toNat ≤ f ∧ commas g f L ((kn : Int) - (g : Int)).toNat = s2L W m) := by
                  obtain ⟨f, L, hL, hf, hc⟩ := HS
                  obtain ⟨f', rfl⟩ : ∃ f', f = f' + 1 := ⟨f - 1, by omega⟩
                  rw [hkn, Int.toNat_natCast, commas, if_pos (by omega)] at hc
                  refine ⟨f', L.take kn ++ 44 :: L.drop kn, ?_, by omega, ?_⟩
                  · have hsl : s.size = L.length := by rw [hL, arr_size]
                    rw [hsl, hL, ext_mk, ext_mk, b1, bcat, bcat]
                    simp
                    rw [List.take_of_length_le (by simp)]
                  · rw [← hc]
                    congr 1
                    omega
                have hsz : (s.extract 0 kn ++ ⟨#[44]⟩ ++ s.extract kn s.size).size = s.size + 1 := by
                  rw [ByteArray.size_append, ByteArray.size_append, ByteArray.size_extract, ByteArray.size_extract, show (⟨#[44]⟩ : ByteArray).size = 1 from rfl]
                  omega
                have HSZ := hid hsz
                subst hkn
                clear HS hsz
                go_wp2_with fail
                go_quiet (fail)
                go_wp2_with fail
                go_roundg ((kn : Int) - (g : Int)).toNat
                case measure => omega
                case rel => exact ⟨_, _, rfl, rfl, by rw [HSZ.out]; omega, by rw [HSZ.out]; omega, by omega, by rw [HSZ.out]; omega, by omega, HS', _, rfl⟩
              · have HK : Hid (s = ⟨(s2L W m).toArray⟩) := by
                  obtain ⟨f, L, hL, hf, hc⟩ := HS
                  show _ = _
                  rw [show k.toNat = 0 by omega] at hc
                  rw [hL, ← hc]
                  cases f with
                  | zero => rfl
                  | succ f => rw [commas, if_neg (by omega)]
                clear HS
                go_wp2_with fail
                go_meet
                exact ⟨by rw [HK.out], (by show _ ≤ 240; rw [← arr_size, ← HK.out]; exact z4), nd, rfl⟩
        case rest =>
          obtain ⟨rfl, hs2len, nd, rfl⟩ := hcut
          obtain ⟨wn, hwn⟩ : ∃ wn, wn = w4.drewN nd := ⟨_, rfl⟩
          have k0 : wn.cell? ⟨w.heap.size, 2, none⟩ = some (.string p) := by rw [hwn, World.cell?_drewN]; exact hc42
          have hBn : Aside (Below w.heap.size w wn) := by rw [hwn]; exact Go.Sten.below_drewN hB4.out nd
          have k00 : wn.drew.cell? ⟨w.heap.size, 2, none⟩ = some (.string p) := k0
          have hzn : w.heap.size < wn.heap.size := by rw [hwn]; exact hz4
          have HEn := hid (HE.out.below hBn.out)
          rw [← hwn]
          clear hwn hc4 hc42 hB4 hz4 ss1 CL
          obtain ⟨dd, hdd⟩ : ∃ s : ByteArray, s = ⟨(sixL m).toArray⟩ := ⟨_, rfl⟩
          obtain ⟨rz, hrz⟩ : ∃ s : ByteArray, s = ⟨(Lib.repeatL [48] p.size).toArray⟩ := ⟨_, rfl⟩
          have hdd6 : dd.size = 6 := by rw [hdd, arr_size, sixL_len]
          have hrzs : rz.size = p.size := by rw [hrz, arr_size, Lib.repeatL_length]; simp
          have d1 : dd.size ≤ 6 := by omega
          have d2 : rz.size ≤ 100 := by omega
          have d3 : p.size ≤ dd.size + rz.size := by omega
          have d4 : (p.size : Int) ≤ (dd.size : Int) + (rz.size : Int) := by omega
          have d5 : (0 : Int) ≤ (p.size : Int) := by omega
          have hadd : ∀ W', (Op.stringOp .add dd rz).run Tryd.prog W' = .ok (.string (dd ++ rz)) W' := fun W' => run_string_add_sum W' dd rz (by omega)
          have CS : Aside (∀ W', Below wn.heap.size wn W' → Calls Tryd.prog 34 #[.int .u64 (m : Int)] W' fun e w' => e = .returned (.string dd) ∧ Gw W' w') := fun W' hb => by
            rw [hdd]
            exact six_any m W' (by have := HMB.out; omega) (HEn.out.below hb)
          have CR : Aside (∀ W', Calls Tryd.prog 48 #[.string ⟨#[48]⟩, .int .i64 (p.size : Int)] W' fun e w' => e = .returned (.string rz) ∧ Below W'.heap.size W' w') := fun W' => by
            rw [hrz]
            exact Tryd.strings_Repeat ⟨#[48]⟩ p.size W' (by omega) (by rw [show (⟨#[48]⟩ : ByteArray).size = 1 from rfl]; omega)
          have HDD := hid hdd
          have HRZ := hid hrz
          clear hdd hrz hdd6 hrzs
          go_upto_region 18 with (fail)
          go_cut [10] from 72 (fun s10 wx => s10 = .string ((dd ++ rz).extract 0 p.size) ∧ Below wn.heap.size wn wx)
          case first =>
            go_region_held3 (fun w' => w'.cell? ⟨w.heap.size, 2, none⟩ = some (.string p))
              (first | with_reducible exact k2 | with_reducible exact k1 | with_reducible exact k0 | with_reducible exact k00)
              ((first
                | (with_reducible refine (CS.out _ ?hs).mono ?_
                   case hs => first | exact Below.refl _ _ | exact (Below.refl _ _).drew
                   rintro e w5 ⟨rfl, g5⟩
                   have k1 : w5.cell? ⟨w.heap.size, 2, none⟩ = some (.string p) := (g5.undrew.cell hzn).trans k0
                   have b5 : Aside (Below wn.heap.size wn w5) := g5.undrew.below)
                | (with_reducible refine (CR.out _).mono ?_
                   rintro e w6 ⟨rfl, b6⟩
                   have k2 : w6.cell? ⟨w.heap.size, 2, none⟩ = some (.string p) := (b6.cell (p := ⟨w.heap.size, 2, none⟩) (Nat.lt_of_lt_of_le hzn b5.out.size)).trans k1
                   have b6' : Aside (Below wn.heap.size wn w6) := b5.out.trans (b6.mono b5.out.size))))
            all_goals (try go_wp2_with fail)
            all_goals go_meet
            all_goals exact ⟨rfl, b6'.out⟩
          case rest =>
            obtain ⟨rfl, hbx⟩ := hcut
            have hb0 : (dd ++ rz).extract 0 p.size = ⟨(b0L P m).toArray⟩ := by
              rw [HDD.out, HRZ.out, bcat, ext_mk, HSP.out]
              rfl
            obtain ⟨b0, hb0e⟩ : ∃ s : ByteArray, s = (dd ++ rz).extract 0 p.size := ⟨_, rfl⟩
            rw [← hb0e] at hb0 ⊢
            have hb0s : b0.size = p.size := by rw [hb0e, ByteArray.size_extract, ByteArray.size_append]; omega
            have HB0 := hid hb0
            have HB0S := hid hb0s
            obtain ⟨lst, hlst⟩ : ∃ n, n = P.count 48 := ⟨_, rfl⟩
            have hlb : lst ≤ p.size := by rw [hlst, HSP.out]; exact List.count_le_length
            have CC : Aside (∀ W', Calls Tryd.prog 46 #[.string p, .string ⟨#[48]⟩] W' fun e w' => e = .returned (.int .i64 (lst : Int)) ∧ W' = w') := fun W' => by
              have h := Tryd.strings_Count_one p 48 W'
              rw [HP.out, arr_list] at h
              rw [HP.out, hlst]
              exact h.mono fun _ _ h => ⟨h.1, h.2.symm⟩
            obtain ⟨ba, hba⟩ : ∃ s : ByteArray, s = b0.extract 0 lst := ⟨_, rfl⟩
            obtain ⟨bb, hbb⟩ : ∃ s : ByteArray, s = b0.extract lst b0.size := ⟨_, rfl⟩
            obtain ⟨tr, htr⟩ : ∃ s : ByteArray, s = ⟨(Lib.trimRightB bb.data.toList 48).toArray⟩ := ⟨_, rfl⟩
            have hba2 : ba = ⟨((b0L P m).take lst).toArray⟩ := by rw [hba, hb0, ext_mk]; simp
            have hbb2 : bb = ⟨((b0L P m).drop lst).toArray⟩ := by
              rw [hbb, hb0, ext_mk, arr_size, List.take_of_length_le (by simp)]
            have htr2 : tr = ⟨(Lib.trimRightB ((b0L P m).drop lst) 48).toArray⟩ := by rw [htr, hbb2, arr_list]
            have hbeh : ba ++ tr = ⟨(behL P m).toArray⟩ := by rw [hba2, htr2, bcat, hlst]; rfl
            have hbas : ba.size ≤ 100 := by rw [hba, ByteArray.size_extract]; omega
            have hbbs : bb.size ≤ 100 := by rw [hbb, ByteArray.size_extract]; omega
            have htrs : tr.size ≤ 100 := by
              rw [htr, arr_size]
              refine Nat.le_trans (trimR_len _ _) ?_
              rw [Array.length_toList]
              exact hbbs
            have CT : Aside (∀ W', Calls Tryd.prog 33 #[.string (b0.extract lst b0.size), .string ⟨#[48]⟩] W' fun e w' => e = .returned (.string tr) ∧ w' = W') := fun W' => by
              rw [← hbb, htr]
              exact Tryd.strings_TrimRight_one bb 48 (by decide) W' (by omega)
            have HBA := hid hba
            obtain ⟨bh, hbh⟩ : ∃ s : ByteArray, s = ba ++ tr := ⟨_, rfl⟩
            have hbhs : bh.size ≤ 200 := by rw [hbh, ByteArray.size_append]; omega
            have hadd : ∀ W', (Op.stringOp .add (b0.extract 0 lst) tr).run Tryd.prog W' = .ok (.string bh) W' := fun W' => by
              rw [← hba, hbh]; exact run_string_add_sum W' ba tr (by omega)
            rw [← hbh] at hbeh
            have HBEH := hid hbeh
            obtain ⟨s2, hs2⟩ : ∃ s : ByteArray, s = ⟨(s2L W m).toArray⟩ := ⟨_, rfl⟩
            have hs2s : s2.size ≤ 240 := by rw [hs2, arr_size]; exact hs2len.out
            rw [← hs2]
            have HS2 := hid hs2
            have EF : figL W P n = s2L W m ++ (if behL P m = [] then [] else 46 :: behL P m) := by rw [HMR.out]; rfl
            have HEF := hid EF
            have k3 : wc.cell? ⟨w.heap.size, 2, none⟩ = some (.string p) := (hbx.cell (p := ⟨w.heap.size, 2, none⟩) hzn).trans k0
            have hbc : Aside (Below w.heap.size w wc) := hBn.out.trans (hbx.mono (by omega))
            have e1 : (lst : Int) ≤ (b0.size : Int) := by omega
            have e2 : (0 : Int) ≤ (lst : Int) := by omega
            have e3 : b0.size ≤ 100 := by omega
            have e4 : lst ≤ b0.size := by omega
            clear EF hs2 hs2len hbh hb0 hb0e hb0s hlst hba hbb htr hba2 hbb2 htr2 hbeh hbx k0 k00 hzn HEn hBn CS CR d1 d2 d3 d4 d5 HDD HRZ
            go_wp2_with fail
            refine (CC.out _).mono ?_
            rintro _ w7 ⟨rfl, rfl⟩
            go_upto_region 20 with (fail)
            go_quiet ((go_at_call 33; exact Calls.quiet_of_same (CT.out _)))
            by_cases hB : behL P m = []
            · have hp2 : bh.toList = [] := by rw [HBEH.out, ByteArray.toList_eq, arr_list]; exact hB
              have hp3 : (!bh.toList.isEmpty) = false := by rw [hp2]; rfl
              have HBN := hid hB
              clear hB
              go_wp2_with fail
              go_ret
              have ES : (⟨(figL W P n).toArray⟩ : ByteArray) = s2 := by rw [HEF.out, if_pos HBN.out, HS2.out]; simp
              exact ⟨by rw [ES]; rfl, Go.Sten.below_drewN hbc.out _⟩
            · have hp2 : ¬ bh.toList = [] := by rw [HBEH.out, ByteArray.toList_eq, arr_list]; exact hB
              have hp3 : (!bh.toList.isEmpty) = true := by simp [hp2]
              have HBN := hid hB
              clear hB
              go_wp2_with fail
              go_ret
              have ES : (⟨(figL W P n).toArray⟩ : ByteArray) = s2 ++ (⟨#[46]⟩ ++ bh) := by rw [HEF.out, if_neg HBN.out, HS2.out, HBEH.out, b1, bcat, bcat]; rfl
              exact ⟨by rw [ES]; rfl, Go.Sten.below_drewN hbc.out _⟩
end Go.Proofs.YtclpgacaecfjlaaDoor
