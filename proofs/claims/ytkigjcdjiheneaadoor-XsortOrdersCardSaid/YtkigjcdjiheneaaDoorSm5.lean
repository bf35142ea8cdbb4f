/- slices.symMergeCmpFunc, stableCmpFunc and SortStableFunc at []int, 'cmp' a closure that may lay blocks: the row is left as the plain stable sort leaves it. -/
import Derived.Test.YtkigjcdjiheneaaDoorSm4
import Derived.Test.YtkigjcdjiheneaaDoorShelfS
namespace Go.Proofs.YtkigjcdjiheneaaDoor
open Go.Shelf Go.RowKit Go.Lib Go.Sort Go.Stab
variable {α : Type} [Inhabited α]

theorem symMerge_any (enc : α → Value) (cf : α → α → Int) (g : Nat) (cb : Array Value) (blk off cap : Nat) (d0 : Array α) (w0 : World)
    (eg : ∀ args w, (callFunc g args).run Tryd.prog w = .ok (.enter g args) w) (hcmp : CmpLays1 Tryd.prog g cb enc cf blk off d0.size w0)
    (R : Row1 enc w0 blk off d0) (hsz : d0.size < 4611686018427387904) :
    ∀ (f : Nat) (d : Array α) (a m b : Nat) (w : World), d.size = d0.size → SW enc w0 blk off d w → b - a ≤ f → a < m → m < b → b ≤ d0.size →
      Calls Tryd.prog 65 #[.slice (some ⟨blk, off, none⟩) d0.size cap, .int .i64 a, .int .i64 m, .int .i64 b, .func (.func g) #[] cb] w fun e w' => e = .returned (.tuple #[]) ∧ SW enc w0 blk off (symMerge (ltOf cf) f d a m b) w' := by
  intro f
  induction f with
  | zero => intro d a m b w _ _ hf ham hmb; omega
  | succ f ih =>
    intro d a m b w hd S hf ham hmb hb
    by_cases h1 : m = a + 1
    · have h := symMerge_first enc cf g cb blk off cap a m b d0 d w0 w eg hcmp R hd.symm S h1 hmb (by omega) (by omega)
      rw [hd] at h
      rw [symMerge, if_pos (by omega)]
      exact h
    · by_cases h2 : b = m + 1
      · have h := symMerge_last enc cf g cb blk off cap a m b d0 d w0 w eg hcmp R hd.symm S (by omega) h2 (by omega) (by omega)
        rw [hd] at h
        rw [symMerge, if_neg (by omega), if_pos (by omega)]
        exact h
      · by_cases hm : (a + b) / 2 < m
        · exact symMerge_hi f enc cf g cb blk off cap a m b d0 d w0 w eg hcmp R hd.symm S ih hf (by omega) (by omega) hm hb hsz
        · exact symMerge_lo f enc cf g cb blk off cap a m b d0 d w0 w eg hcmp R hd.symm S ih hf (by omega) (by omega) hm hb hsz

theorem insOuter_size (l : α → α → Bool) (a b i : Nat) (d : Array α) : (insOuter l a b i d).size = d.size := by
  have inner : ∀ (j : Nat) (d : Array α), (insInner l a j d).size = d.size := fun j => by
    induction j with
    | zero => intro d; rfl
    | succ j ih =>
      intro d
      unfold insInner
      by_cases h : (decide (j + 1 > a) && l d[j + 1]! d[j]!) = true
      · rw [if_pos h, ih, size_swp]
      · rw [if_neg h]
  rw [insOuter]
  by_cases h : i < b
  · rw [if_pos h, insOuter_size l a b (i + 1), inner]
  · rw [if_neg h]
termination_by b - i
theorem insertionSort_size (l : α → α → Bool) (d : Array α) (a b : Nat) : (insertionSort l d a b).size = d.size := insOuter_size l a b _ d

theorem insBlocks_go (l : α → α → Bool) (n a b : Nat) (d : Array α) (h : b ≤ n) : insBlocks l n a b d = insBlocks l n b (b + 20) (insertionSort l d a b) := by rw [insBlocks, if_pos h]
theorem insBlocks_stop (l : α → α → Bool) (n a b : Nat) (d : Array α) (h : ¬ b ≤ n) : insBlocks l n a b d = insertionSort l d a n := by rw [insBlocks, if_neg h]
theorem mergePass_go (l : α → α → Bool) (bs n a b : Nat) (d : Array α) (h : b ≤ n) (h0 : 0 < bs) : mergePass l bs n a b d = mergePass l bs n b (b + 2 * bs) (symMerge l (b - a) d a (a + bs) b) := by rw [mergePass, dif_pos ⟨h, h0⟩]
theorem mergePass_last (l : α → α → Bool) (bs n a b : Nat) (d : Array α) (h : ¬ b ≤ n) (h1 : a + bs < n) : mergePass l bs n a b d = symMerge l (n - a) d a (a + bs) n := by rw [mergePass, dif_neg (by omega), if_pos h1]
theorem mergePass_none (l : α → α → Bool) (bs n a b : Nat) (d : Array α) (h : ¬ b ≤ n) (h1 : ¬ a + bs < n) : mergePass l bs n a b d = d := by rw [mergePass, dif_neg (by omega), if_neg h1]
theorem mergeAll_go (l : α → α → Bool) (bs n : Nat) (d : Array α) (h : bs < n) (h0 : 0 < bs) : mergeAll l bs n d = mergeAll l (2 * bs) n (mergePass l bs n 0 (2 * bs) d) := by rw [mergeAll, dif_pos ⟨h, h0⟩]
theorem mergeAll_stop (l : α → α → Bool) (bs n : Nat) (d : Array α) (h : ¬ bs < n) : mergeAll l bs n d = d := by rw [mergeAll, dif_neg (by omega)]

set_option maxHeartbeats 4000000 in
set_option maxRecDepth 1000000 in
theorem stable_any (enc : α → Value) (cf : α → α → Int) (g : Nat) (cb : Array Value) (blk off cap : Nat) (d0 : Array α) (w0 : World)
    (eg : ∀ args w, (callFunc g args).run Tryd.prog w = .ok (.enter g args) w) (hcmp : CmpLays1 Tryd.prog g cb enc cf blk off d0.size w0)
    (R : Row1 enc w0 blk off d0) (hsz : d0.size < 1000000000000) :
    Calls Tryd.prog 46 #[.slice (some ⟨blk, off, none⟩) d0.size cap, .int .i64 d0.size, .func (.func g) #[] cb] w0 fun e w' => e = .returned (.tuple #[]) ∧ SW enc w0 blk off (stable (ltOf cf) d0.size d0) w' := by
  have hins : ∀ (d : Array α) (a b : Nat) (w : World), d.size = d0.size → SW enc w0 blk off d w → a ≤ b → b ≤ d0.size →
      Calls Tryd.prog 64 #[.slice (some ⟨blk, off, none⟩) d0.size cap, .int .i64 a, .int .i64 b, .func (.func g) #[] cb] w fun e w' => e = .returned (.tuple #[]) ∧ SW enc w0 blk off (insertionSort (ltOf cf) d a b) w' := fun d a b w hd S hab hb => by
    have h := Any.insertionSortCmpFunc_s Tryd.lins enc cf g cb blk off cap a b d0 d w0 w eg hcmp R hd.symm S hab (by omega) (by omega)
    rw [hd] at h
    exact h
  have hmer := symMerge_any enc cf g cb blk off cap d0 w0 eg hcmp R (by omega)
  obtain ⟨n, hn⟩ : ∃ n, n = d0.size := ⟨_, rfl⟩
  have hd0 : d0.size = n := hn.symm
  have S0 : Aside (SW enc w0 blk off d0 w0) := SW.start R.hH
  rw [hd0] at hins hmer hsz ⊢
  have HINS : Aside _ := hins
  have HMER : Aside _ := hmer
  have HD0 : Hid (d0.size = n) := hd0
  clear hins hmer hcmp hn hd0
  go_enter Tryd.func46, Tryd.ntmps46
  go_wp2
  go_loopg [7, 8] n (fun kx s7 s8 wr => ∃ (a b : Nat) (d : Array α), s7 = .int .i64 a ∧ s8 = .int .i64 b ∧ b ≤ a + 20 ∧ a + 20 ≤ b ∧ a ≤ n ∧ n - a ≤ kx ∧ Hid (d.size = n) ∧ Aside (SW enc w0 blk off d wr) ∧
    Hid (insBlocks (ltOf cf) n a b d = insBlocks (ltOf cf) n 0 20 d0))
  case atStart => exact ⟨0, 20, d0, rfl, rfl, by omega, by omega, by omega, by omega, HD0, S0, rfl⟩
  case round =>
    clear S0
    obtain ⟨a, b, d, rfl, rfl, hb1, hb2, han, hkx, hds, S1, heq⟩ := hrel
    by_cases hlt : b ≤ n
    · have hltz : (b : Int) ≤ (n : Int) := by omega
      go_wp2_with fail
      refine (HINS.out d a b _ hds.out S1.out (by omega) hlt).mono ?_
      rintro _ w2 ⟨rfl, hS2⟩
      have S2 : Aside (SW enc w0 blk off (insertionSort (ltOf cf) d a b) w2) := hS2
      clear hS2 S1
      go_wp2
      go_roundg (n - b)
      case measure => omega
      case rel => exact ⟨b, b + 20, _, rfl, by go_num, by omega, by omega, hlt, Nat.le_refl _, (show Hid _ from (insertionSort_size _ _ _ _).trans hds.out), S2, (show Hid _ from (insBlocks_go (ltOf cf) n a b d hlt).symm.trans heq.out)⟩
    · have hltz : ¬ (b : Int) ≤ (n : Int) := by omega
      go_wp2_with fail
      refine (HINS.out d a n _ hds.out S1.out han (Nat.le_refl _)).mono ?_
      rintro _ w2 ⟨rfl, hS2⟩
      obtain ⟨D1, hD1⟩ : ∃ D1, D1 = insBlocks (ltOf cf) n 0 20 d0 := ⟨_, rfl⟩
      have e1 : insertionSort (ltOf cf) d a n = D1 := by rw [hD1, ← heq.out, insBlocks_stop (ltOf cf) n a b d hlt]
      have S2 : Aside (SW enc w0 blk off D1 w2) := by rw [← e1]; exact hS2
      have Z1 : Hid (D1.size = n) := by show _ = _; rw [← e1, insertionSort_size]; exact hds.out
      have HF : Hid (mergeAll (ltOf cf) 20 n D1 = stable (ltOf cf) n d0) := by rw [hD1]; rfl
      clear hS2 S1 heq hds e1 hD1
      go_wp2
      go_loopg [6] n (fun kx s6 wr => ∃ (bs : Nat) (d : Array α), s6 = .int .i64 bs ∧ 20 ≤ bs ∧ bs ≤ 2 * n + 20 ∧ n - bs ≤ kx ∧ Hid (d.size = n) ∧ Aside (SW enc w0 blk off d wr) ∧ Hid (mergeAll (ltOf cf) bs n d = mergeAll (ltOf cf) 20 n D1))
      case atStart => exact ⟨20, D1, rfl, by omega, by omega, by omega, Z1, S2, rfl⟩
      case round =>
        clear S2 Z1
        obtain ⟨bs, d, rfl, h20, hbs, hkx2, hds, S1, heq⟩ := hrel
        by_cases hlt2 : bs < n
        · have hltz2 : (bs : Int) < (n : Int) := by omega
          obtain ⟨bs2, hbs2⟩ : ∃ bs2, bs2 = 2 * bs := ⟨_, rfl⟩
          have z1 : 2 * (bs : Int) = (bs2 : Int) := by omega
          have z2 : (bs : Int) * 2 = (bs2 : Int) := by omega
          have y1 : bs2 ≤ 2 * bs ∧ 2 * bs ≤ bs2 := by omega
          have heq2 : Hid (mergeAll (ltOf cf) bs2 n (mergePass (ltOf cf) bs n 0 bs2 d) = mergeAll (ltOf cf) 20 n D1) := by
            show _ = _
            rw [hbs2, ← mergeAll_go (ltOf cf) bs n d hlt2 (by omega)]; exact heq.out
          have HB2 : Hid (bs2 = 2 * bs) := hbs2
          clear heq hbs2
          go_wp2
          go_loopg [7, 8] n (fun kx s7 s8 wr => ∃ (a b : Nat) (d' : Array α), s7 = .int .i64 a ∧ s8 = .int .i64 b ∧ b ≤ a + bs2 ∧ a + bs2 ≤ b ∧ a ≤ n ∧ n - a ≤ kx ∧ Hid (d'.size = n) ∧ Aside (SW enc w0 blk off d' wr) ∧
            Hid (mergePass (ltOf cf) bs n a b d' = mergePass (ltOf cf) bs n 0 bs2 d))
          case atStart => exact ⟨0, bs2, d, rfl, rfl, by omega, by omega, by omega, by omega, hds, S1, rfl⟩
          case round =>
            clear S1 hds
            obtain ⟨a, b, d', rfl, rfl, hb1, hb2, han, hkx3, hds, S1, heq⟩ := hrel
            obtain ⟨m, hm⟩ : ∃ m, m = a + bs := ⟨_, rfl⟩
            have z3 : (a : Int) + (bs : Int) = (m : Int) := by omega
            have y3 : m ≤ a + bs ∧ a + bs ≤ m := by omega
            have HM : Hid (m = a + bs) := hm
            clear hm
            by_cases hlt3 : b ≤ n
            · have hltz3 : (b : Int) ≤ (n : Int) := by omega
              go_wp2_with fail
              refine (HMER.out (b - a) d' a m b _ hds.out S1.out (Nat.le_refl _) (by omega) (by omega) hlt3).mono ?_
              rintro _ w2 ⟨rfl, hS2⟩
              have S2 : Aside (SW enc w0 blk off (symMerge (ltOf cf) (b - a) d' a m b) w2) := hS2
              clear hS2 S1
              have hnx : Hid (mergePass (ltOf cf) bs n b (b + bs2) (symMerge (ltOf cf) (b - a) d' a m b) = mergePass (ltOf cf) bs n 0 bs2 d) := by
                show _ = _
                have h := mergePass_go (ltOf cf) bs n a b d' hlt3 (by omega)
                rw [← HB2.out, ← HM.out] at h
                rw [← h]; exact heq.out
              clear heq
              go_wp2
              go_roundg (n - b)
              case measure => omega
              case rel => exact ⟨b, b + bs2, _, rfl, by go_num, by omega, by omega, hlt3, Nat.le_refl _, (show Hid _ from (symMerge_size _ _ _ _ _ _).trans hds.out), S2, hnx⟩
            · have hltz3 : ¬ (b : Int) ≤ (n : Int) := by omega
              by_cases hmn : m < n
              · have hmnz : (m : Int) < (n : Int) := by omega
                go_wp2_with fail
                refine (HMER.out (n - a) d' a m n _ hds.out S1.out (Nat.le_refl _) (by omega) hmn (Nat.le_refl _)).mono ?_
                rintro _ w2 ⟨rfl, hS2⟩
                have e1 : symMerge (ltOf cf) (n - a) d' a m n = mergePass (ltOf cf) bs n 0 bs2 d := by
                  have h := mergePass_last (ltOf cf) bs n a b d' hlt3 (by omega)
                  rw [← HM.out] at h
                  rw [← h]; exact heq.out
                have S2 : Aside (SW enc w0 blk off (mergePass (ltOf cf) bs n 0 bs2 d) w2) := by rw [← e1]; exact hS2
                have Z2 : Hid ((mergePass (ltOf cf) bs n 0 bs2 d).size = n) := by show _ = _; rw [← e1, symMerge_size]; exact hds.out
                clear hS2 S1 heq e1
                go_wp2
                go_roundg (n - bs2)
                case measure => omega
                case rel => exact ⟨bs2, _, by first | rfl | go_num, by omega, by omega, Nat.le_refl _, Z2, S2, heq2⟩
              · have hmnz : ¬ (m : Int) < (n : Int) := by omega
                have e1 : d' = mergePass (ltOf cf) bs n 0 bs2 d := by
                  have h := mergePass_none (ltOf cf) bs n a b d' hlt3 (by have := HM.out; omega)
                  rw [← heq.out, h]
                have Z2 : Hid ((mergePass (ltOf cf) bs n 0 bs2 d).size = n) := by show _ = _; rw [← e1]; exact hds.out
                have S2 : Aside (SW enc w0 blk off (mergePass (ltOf cf) bs n 0 bs2 d) wr) := by rw [← e1]; exact S1.out
                clear S1 heq e1
                go_wp2
                go_roundg (n - bs2)
                case measure => omega
                case rel => exact ⟨bs2, _, by first | rfl | go_num, by omega, by omega, Nat.le_refl _, Z2, S2, heq2⟩
        · have hltz2 : ¬ (bs : Int) < (n : Int) := by omega
          go_wp2
          go_end0
          exact ⟨rfl, by rw [← HF.out, ← heq.out, mergeAll_stop (ltOf cf) bs n d hlt2]; exact S1.out⟩

set_option maxHeartbeats 1000000 in
set_option maxRecDepth 1000000 in
/-- slices.SortStableFunc at []int -/
theorem sortStable_any (enc : α → Value) (cf : α → α → Int) (g : Nat) (cb : Array Value) (blk off cap : Nat) (d0 : Array α) (w0 : World)
    (eg : ∀ args w, (callFunc g args).run Tryd.prog w = .ok (.enter g args) w) (hcmp : CmpLays1 Tryd.prog g cb enc cf blk off d0.size w0)
    (R : Row1 enc w0 blk off d0) (hsz : d0.size < 1000000000000) :
    Calls Tryd.prog 25 #[.slice (some ⟨blk, off, none⟩) d0.size cap, .func (.func g) #[] cb] w0 fun e w' => e = .returned (.tuple #[]) ∧ SW enc w0 blk off (stable (ltOf cf) d0.size d0) w' := by
  have h := stable_any enc cf g cb blk off cap d0 w0 eg hcmp R hsz
  have H := Lib.hid h
  clear h hcmp R
  go_enter Tryd.func25, Tryd.ntmps25
  go_wp2_with fail
  refine H.out.mono ?_
  rintro _ w2 ⟨rfl, hS2⟩
  go_wp2_with fail
  go_end0
  exact ⟨rfl, hS2⟩
end Go.Proofs.YtkigjcdjiheneaaDoor
