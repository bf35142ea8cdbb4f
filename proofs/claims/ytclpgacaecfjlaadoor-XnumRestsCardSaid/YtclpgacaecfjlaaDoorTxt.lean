/- xnum.Text, by its contract. -/
import Derived.Test.YtclpgacaecfjlaaDoorEnv
import Derived.Test.YtclpgacaecfjlaaDoorSml
namespace Go.Proofs.YtclpgacaecfjlaaDoor
open Go.RowKit Go.Sten Go.Lib Go.Sort Go.Shelf

theorem arr_size (l : List UInt8) : (⟨l.toArray⟩ : ByteArray).size = l.length := by simp [ByteArray.size]
theorem arr_list (l : List UInt8) : (⟨l.toArray⟩ : ByteArray).data.toList = l := by simp
theorem ext_mk (l : List UInt8) (a b : Nat) : (⟨l.toArray⟩ : ByteArray).extract a b = ⟨((l.drop a).take (b - a)).toArray⟩ := by
  apply ByteArray.ext
  apply Array.ext'
  simp [List.take_drop]

set_option maxHeartbeats 400000 in
theorem fmtU_any (u : Nat) (w : World) (hu64 : u < 18446744073709551616) (hE : Env w) :
    Calls Tryd.prog 32 #[.int .u64 (u : Int), .int .i64 10] w fun e w' => e = .returned (.string ⟨(Lib.decDigits u).toArray⟩) ∧ Gw w w' := by
  have C := hid (fmtUint_any u w hu64 hE)
  go_enter Tryd.func32, Tryd.ntmps32
  go_wp2_with fail
  refine C.out.mono ?_
  rintro _ w1 ⟨rfl, g⟩
  go_wp2_with fail
  go_ret
  exact ⟨rfl, g⟩

/-- the places of a number's millionths -/
def sixL (n : Nat) : List UInt8 := (Lib.decDigits (1000000 + n % 1000000)).drop 1
theorem dec7 (n : Nat) : (Lib.decDigits (1000000 + n % 1000000)).length = 7 := by
  rw [Lib.decDigits_length]
  have h : ∀ k, nDigits k = if k < 10 then 1 else nDigits (k / 10) + 1 := fun k => by
    rw [nDigits]; split <;> simp_all
  have hlt : n % 1000000 < 1000000 := Nat.mod_lt _ (by omega)
  generalize n % 1000000 = r at hlt
  rw [h, if_neg (by omega), h, if_neg (by omega), h, if_neg (by omega), h, if_neg (by omega), h, if_neg (by omega), h, if_neg (by omega), h, if_pos (by omega)]
theorem sixL_len (n : Nat) : (sixL n).length = 6 := by rw [sixL, List.length_drop, dec7]
set_option maxHeartbeats 400000 in
theorem six_any (n : Nat) (w : World) (hn : n < 18446744073709551616) (hE : Env w) :
    Calls Tryd.prog 34 #[.int .u64 (n : Int)] w fun e w' => e = .returned (.string ⟨(sixL n).toArray⟩) ∧ Gw w w' := by
  have C := hid (fmtU_any (1000000 + n % 1000000) w (by omega) hE)
  have hl := dec7 n
  have es : (⟨(sixL n).toArray⟩ : ByteArray) = (⟨(Lib.decDigits (1000000 + n % 1000000)).toArray⟩ : ByteArray).extract 1 (⟨(Lib.decDigits (1000000 + n % 1000000)).toArray⟩ : ByteArray).size := by
    rw [ext_mk, arr_size, hl]
    unfold sixL
    rw [List.take_of_length_le (by rw [List.length_drop, hl]; omega)]
  obtain ⟨s, hs⟩ : ∃ s : ByteArray, s = ⟨(Lib.decDigits (1000000 + n % 1000000)).toArray⟩ := ⟨_, rfl⟩
  have hsz : s.size = 7 := by rw [hs, arr_size, hl]
  rw [← hs] at C es
  rw [es]
  obtain ⟨m, hm⟩ : ∃ m, m = n % 1000000 := ⟨_, rfl⟩
  rw [← hm] at C
  have HM := hid hm
  have hm2 : (n : Int) % 1000000 = (m : Int) := by omega
  have hm3 : m < 1000000 := by omega
  have C2 : Aside (Calls Tryd.prog 32 #[.int .u64 (1000000 + (m : Int)), .int .i64 10] w fun e w' => e = .returned (.string s) ∧ Gw w w') := by
    have := C.out
    rw [Int.natCast_add] at this
    exact this
  have hsz1 : 1 ≤ s.size := by omega
  clear hs hl es hm hsz C
  go_enter Tryd.func34, Tryd.ntmps34
  go_wp2_with fail
  refine C2.out.mono ?_
  rintro _ w1 ⟨rfl, g⟩
  go_wp2_with fail
  go_ret
  exact ⟨rfl, g⟩

theorem trimR_len (l : List UInt8) (c : UInt8) : (Lib.trimRightB l c).length ≤ l.length := by
  have h : ∀ l : List UInt8, (l.dropWhile (· == c)).length ≤ l.length := fun l => (List.dropWhile_suffix _).length_le
  unfold Lib.trimRightB
  rw [List.length_reverse]
  refine Nat.le_trans (h _) ?_
  rw [List.length_reverse]
  exact Nat.le_refl _
theorem b1 (c : UInt8) : (⟨#[c]⟩ : ByteArray) = ⟨[c].toArray⟩ := rfl

/-- a number's text, of its size and sign -/
def textF (n : Nat) (b : Bool) : List UInt8 :=
  (if b then [45] else []) ++ (Lib.decDigits (n / 1000000) ++ (if Lib.trimRightB (sixL n) 48 = [] then [] else 46 :: Lib.trimRightB (sixL n) 48))
def textN (k v : Int) : List UInt8 :=
  if k = 2 then [73, 110, 102, 105, 110, 105, 116, 121] else if k = 3 then [45, 73, 110, 102, 105, 110, 105, 116, 121] else if k = 0 then textF v.natAbs (decide (v < 0)) else [78, 97, 78]

set_option maxHeartbeats 1600000 in
set_option maxRecDepth 100000 in
theorem text_any (k v : Int) (w : World) (h1 : -9223372036854775808 ≤ v) (h2 : v ≤ 9223372036854775807) (hE : Env w) :
    Calls Tryd.prog 19 #[.agg #[.int .i64 k, .int .i64 v]] w fun e w' => e = .returned (.string ⟨(textN k v).toArray⟩) ∧ Gw w w' := by
  by_cases e2 : k = 2
  · subst e2
    go_enter Tryd.func19, Tryd.ntmps19
    go_wp2_with fail
    go_ret
    exact ⟨rfl, (Gw.refl w).alloc _⟩
  by_cases e3 : k = 3
  · subst e3
    go_enter Tryd.func19, Tryd.ntmps19
    go_wp2_with fail
    go_ret
    exact ⟨rfl, (Gw.refl w).alloc _⟩
  by_cases e0 : k = 0
  · subst e0
    show Calls Tryd.prog 19 #[.agg #[.int .i64 0, .int .i64 v]] w fun e w' => e = .returned (.string ⟨(textF v.natAbs (decide (v < 0))).toArray⟩) ∧ Gw w w'
    have CP := hid (fun W => parts_any 0 v W h1 h2)
    obtain ⟨n, hn⟩ : ∃ n, n = v.natAbs := ⟨_, rfl⟩
    obtain ⟨b, hb⟩ : ∃ b, b = decide (v < 0) := ⟨_, rfl⟩
    have hnb : n < 2 ^ 64 := by omega
    rw [← hn, ← hb] at CP ⊢
    have CF : Aside (∀ W, Env W → Calls Tryd.prog 32 #[.int .u64 ((n : Int) / 1000000), .int .i64 10] W fun e w' => e = .returned (.string ⟨(Lib.decDigits (n / 1000000)).toArray⟩) ∧ Gw W w') := fun W h => by
      rw [show (n : Int) / 1000000 = ((n / 1000000 : Nat) : Int) by simp]
      exact fmtU_any (n / 1000000) W (by omega) h
    have CS := hid (fun W (h : Env W) => six_any n W (by omega) h)
    have CT := hid (fun W => Tryd.strings_TrimRight_one ⟨(sixL n).toArray⟩ 48 (by decide) W (by rw [arr_size, sixL_len]; omega))
    rw [arr_list] at CT
    obtain ⟨P, hP⟩ : ∃ P, P = Lib.trimRightB (sixL n) 48 := ⟨_, rfl⟩
    obtain ⟨Q, hQ⟩ : ∃ Q, Q = Lib.decDigits (n / 1000000) := ⟨_, rfl⟩
    obtain ⟨S, hS⟩ : ∃ S, S = sixL n := ⟨_, rfl⟩
    have ET : textF n b = (if b then [45] else []) ++ (Q ++ (if P = [] then [] else 46 :: P)) := by rw [hP, hQ]; rfl
    have HT := hid ET
    have LQ : Q.length ≤ 20 := by
      rw [hQ, Lib.decDigits_length]
      rcases Nat.eq_zero_or_pos (n / 1000000) with h0 | h0
      · rw [h0, nDigits]; simp
      · have := Lib.numDigits_eq (n / 1000000) h0 (by omega); split at this <;> omega
    have LP : P.length ≤ 6 := by rw [hP, ← sixL_len n]; exact trimR_len _ _
    rw [← hP] at CT
    rw [← hS] at CT CS
    rw [← hQ] at CF
    have HE := hid hE
    clear hn hb hP hQ hS h1 h2 ET hE
    have lq : Q.length ≤ 20 := LQ
    have lp : P.length ≤ 6 := LP
    obtain ⟨q, hqq⟩ : ∃ q : ByteArray, q = ⟨Q.toArray⟩ := ⟨_, rfl⟩
    obtain ⟨p, hpp⟩ : ∃ p : ByteArray, p = ⟨P.toArray⟩ := ⟨_, rfl⟩
    have sq : q.size ≤ 20 := by rw [hqq, arr_size]; exact lq
    have sp : p.size ≤ 6 := by rw [hpp, arr_size]; exact lp
    rw [← hqq] at CF
    rw [← hpp] at CT
    have HQ := hid hqq
    have HPP := hid hpp
    clear LQ LP lq lp
    by_cases hp : P = []
    · have hp2 : p.toList = [] := by rw [hpp, ByteArray.toList_eq, arr_list]; exact hp
      have hp3 : (!p.toList.isEmpty) = false := by rw [hp2]; rfl
      have HP := hid hp
      clear hp hpp hqq
      cases b
      · skip
        go_enter Tryd.func19, Tryd.ntmps19
        go_wp2_with fail
        refine (CP.out _).mono ?_
        rintro _ w1 ⟨rfl, g1⟩
        have g := ((Gw.refl w).alloc _).trans g1
        go_wp2_with fail
        refine (CF.out _ (HE.out.gw g)).mono ?_
        rintro _ w2 ⟨rfl, g2⟩
        have g := g.trans g2
        go_wp2_with fail
        refine (CS.out _ (HE.out.gw g)).mono ?_
        rintro _ w3 ⟨rfl, g3⟩
        have g := g.trans g3
        go_wp2_with fail
        refine (CT.out _).mono ?_
        rintro _ w4 ⟨rfl, rfl⟩
        go_wp2_with fail
        go_ret
        have ES : (⟨(textF n false).toArray⟩ : ByteArray) = q := by
          rw [HT.out, if_neg (by simp), if_pos HP.out]
          simp [HQ.out]
        exact ⟨by rw [ES]; rfl, g⟩
      · skip
        go_enter Tryd.func19, Tryd.ntmps19
        go_wp2_with fail
        refine (CP.out _).mono ?_
        rintro _ w1 ⟨rfl, g1⟩
        have g := ((Gw.refl w).alloc _).trans g1
        go_wp2_with fail
        refine (CF.out _ (HE.out.gw g)).mono ?_
        rintro _ w2 ⟨rfl, g2⟩
        have g := g.trans g2
        go_wp2_with fail
        refine (CS.out _ (HE.out.gw g)).mono ?_
        rintro _ w3 ⟨rfl, g3⟩
        have g := g.trans g3
        go_wp2_with fail
        refine (CT.out _).mono ?_
        rintro _ w4 ⟨rfl, rfl⟩
        go_wp2_with fail
        go_ret
        have ES : (⟨(textF n true).toArray⟩ : ByteArray) = ⟨#[45]⟩ ++ q := by
          rw [HT.out, if_pos trivial, if_pos HP.out]
          simp [HQ.out, bcat]
        exact ⟨by rw [ES]; rfl, g⟩
    · have hp2 : ¬ p.toList = [] := by rw [hpp, ByteArray.toList_eq, arr_list]; exact hp
      have hp3 : (!p.toList.isEmpty) = true := by simp [hp2]
      have HP := hid hp
      clear hp hpp hqq
      cases b
      · skip
        go_enter Tryd.func19, Tryd.ntmps19
        go_wp2_with fail
        refine (CP.out _).mono ?_
        rintro _ w1 ⟨rfl, g1⟩
        have g := ((Gw.refl w).alloc _).trans g1
        go_wp2_with fail
        refine (CF.out _ (HE.out.gw g)).mono ?_
        rintro _ w2 ⟨rfl, g2⟩
        have g := g.trans g2
        go_wp2_with fail
        refine (CS.out _ (HE.out.gw g)).mono ?_
        rintro _ w3 ⟨rfl, g3⟩
        have g := g.trans g3
        go_wp2_with fail
        refine (CT.out _).mono ?_
        rintro _ w4 ⟨rfl, rfl⟩
        go_wp2_with fail
        go_ret
        have ES : (⟨(textF n false).toArray⟩ : ByteArray) = q ++ (⟨#[46]⟩ ++ p) := by
          rw [HT.out, if_neg (by simp), if_neg HP.out]
          simp [HQ.out, HPP.out, bcat]
        exact ⟨by rw [ES]; rfl, g⟩
      · skip
        go_enter Tryd.func19, Tryd.ntmps19
        go_wp2_with fail
        refine (CP.out _).mono ?_
        rintro _ w1 ⟨rfl, g1⟩
        have g := ((Gw.refl w).alloc _).trans g1
        go_wp2_with fail
        refine (CF.out _ (HE.out.gw g)).mono ?_
        rintro _ w2 ⟨rfl, g2⟩
        have g := g.trans g2
        go_wp2_with fail
        refine (CS.out _ (HE.out.gw g)).mono ?_
        rintro _ w3 ⟨rfl, g3⟩
        have g := g.trans g3
        go_wp2_with fail
        refine (CT.out _).mono ?_
        rintro _ w4 ⟨rfl, rfl⟩
        go_wp2_with fail
        go_ret
        have ES : (⟨(textF n true).toArray⟩ : ByteArray) = ⟨#[45]⟩ ++ (q ++ (⟨#[46]⟩ ++ p)) := by
          rw [HT.out, if_pos trivial, if_neg HP.out]
          simp [HQ.out, HPP.out, bcat]
        exact ⟨by rw [ES]; rfl, g⟩
  · have e : textN k v = [78, 97, 78] := by simp [textN, e2, e3, e0]
    rw [e]
    clear e
    go_enter Tryd.func19, Tryd.ntmps19
    go_wp2_with fail
    go_ret
    exact ⟨rfl, (Gw.refl w).alloc _⟩
end Go.Proofs.YtclpgacaecfjlaaDoor
