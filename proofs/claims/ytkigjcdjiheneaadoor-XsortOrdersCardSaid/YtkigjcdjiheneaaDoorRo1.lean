/- The reference's Order, by its contract. -/
import Derived.Test.YtkigjcdjiheneaaDoorAh2
import Derived.Test.YtkigjcdjiheneaaDoorInr
import Derived.Test.YtkigjcdjiheneaaDoorRds
namespace Go.Proofs.YtkigjcdjiheneaaDoor
open Go.RowKit Go.Sten Go.Lib Go.Shelf

def ints (l : List Nat) : List Value := l.map (fun (k : Nat) => Value.int .i64 (k : Int))
theorem ints_len (l : List Nat) : (ints l).length = l.length := by simp [ints]
theorem ints_one (l : List Nat) : ∀ u ∈ ints l, u.oneCell' = true := fun u hu => by
  obtain ⟨k, _, rfl⟩ := List.mem_map.1 hu
  rfl
theorem ints_get (l : List Nat) (j : Nat) (hj : j < l.length) : (ints l)[j]? = some (.int .i64 ((l.getD j 0 : Nat) : Int)) := by
  simp [ints, List.getD, hj]
theorem ints_insR (cmp : Nat → Nat → Int) (O : List Nat) (i k : Nat) (hk : k = slide cmp O i O.length) : [] ++ (ints O).take k ++ [Value.int .i64 (i : Int)] ++ (ints O).drop (k * 1) = ints (insR cmp O i) := by
  subst hk
  simp [ints, insR, List.map_take, List.map_drop]
theorem reads_take {w : World} {B n : Nat} {A : Option Addr} {xs : List Value} {k : Nat} (h : Reads w B 1 A n xs) (hk : k ≤ n) : Reads w B 1 A k (xs.take k) := by
  refine ⟨by rw [List.length_take, h.1]; omega, fun hp => ?_⟩
  obtain ⟨ad, e, hb, hc⟩ := h.2 (by omega)
  refine ⟨ad, e, hb, fun j u hu => hc j u ?_⟩
  rw [List.getElem?_take] at hu
  split at hu
  · exact hu
  · cases hu
theorem reads_cut {w : World} {B n g k c : Nat} {xs : List Value} (h : Reads w B 1 (some ⟨g, 0, none⟩) n xs) (hk : k ≤ n) (hc : n ≤ c) :
    Reads w B 1 (if c = k then some ⟨g, 0, none⟩ else some ⟨g, k, none⟩) (n - k) (xs.drop (k * 1)) := by
  have h1 := h.cut hk hc
  have e : (⟨g, 0, none⟩ : Addr).add (k * 1) = ⟨g, k, none⟩ := by rw [WideShapes.add_plain, Nat.mul_one, Nat.zero_add]
  simp only [Option.map, e] at h1
  exact h1
theorem own_shape {w : World} {B n : Nat} {v : Value} {xs : List Value} (h : w.ownsRow B 3 1 v n xs) : ∃ A c, v = .slice A n c ∧ n ≤ c ∧ ((A = none ∧ n = 0 ∧ c = 0) ∨ ∃ g, A = some ⟨g, 0, none⟩ ∧ B ≤ g ∧ g < w.heap.size ∧ ∀ j u, xs[j]? = some u → w.cell? ⟨g, j, none⟩ = some u) := by
  have hlen := h.1
  rcases h.2 with ⟨rfl, h0⟩ | ⟨g, cap, cur, rfl, hb, hh, hc, _, hs, ht⟩
  · exact ⟨none, 0, by rw [h0], by omega, Or.inl ⟨rfl, h0, rfl⟩⟩
  · refine ⟨_, cap, rfl, hc, Or.inr ⟨g, rfl, hb, lt_of_heap hh, fun j u hu => ?_⟩⟩
    simp only [World.cell?, hh]
    have hj := (List.getElem?_eq_some_iff.1 hu).1
    rw [← ht, List.getElem?_take, if_pos (by omega)] at hu
    simpa using hu

set_option maxHeartbeats 4000000 in
set_option maxRecDepth 100000 in
theorem ref_at (rb c n : Nat) (L : List (List KeyD)) (w : World) (hl : L.length = n) (hm : n ≤ 1000) (hk : ∀ ks ∈ L, ks.length ≤ 1000) (hok : ∀ ks ∈ L, ∀ k ∈ ks, k.ok) (hR : RowsAt w rb L) :
    Calls Tryd.prog 18 #[.slice (some ⟨rb, 0, none⟩) n c] w fun e w' => ∃ A cap, e = .returned (.slice A n cap) ∧ Below w.heap.size w w' ∧ w'.ownsRow w.heap.size 3 1 (.slice A n cap) n (ints (refO (cmpL L) n)) := by
  obtain ⟨i0, hi, hz0, hz1, hz2⟩ := info_parts (show (Tryd.prog.info? 3).map (fun i => (i.zero, i.size, i.bytes)) = some (some (.int .i64 0), 1, 8) by kernel_rfl)
  have hu : Tryd.prog.underlying 30 = some (.slice 3) := by kernel_rfl
  have ROW : Aside (∀ i, i < n → ∃ A c', w.cell? ⟨rb, i, none⟩ = some (.slice A (L.getD i []).length c') ∧ RowIs w A c' (L.getD i []) ∧ (L.getD i []).length ≤ 1000 ∧ ∀ k ∈ L.getD i [], k.ok) := fun i hi => by
    have hil : i < L.length := by omega
    have e : L.getD i [] = L[i] := by simp [List.getD, hil]
    obtain ⟨A, c', h1, h2⟩ := hR.2 i (L.getD i []) (by simp [List.getD, hil])
    exact ⟨A, c', h1, h2, hk _ (by rw [e]; exact List.getElem_mem _), hok _ (by rw [e]; exact List.getElem_mem _)⟩
  have hrb := hR.1
  obtain ⟨B, hB⟩ : ∃ B, B = w.heap.size := ⟨_, rfl⟩
  have HB : Hid (B = w.heap.size) := hB
  have HRB : Aside (rb < B) := by rw [hB]; exact hrb
  have HLEN : Aside (∀ i, (refO (cmpL L) i).length = i) := fun i => by rw [refO_ordR, ordR_len]
  have HLT : Aside (∀ i j, j < i → (refO (cmpL L) i).getD j 0 < i) := fun i j hj => by rw [refO_ordR]; exact ordR_lt _ _ _ hj
  obtain ⟨cmp, hcmp⟩ : ∃ cmp, cmp = cmpL L := ⟨_, rfl⟩
  have HCMP : Hid (cmp = cmpL L) := hcmp
  rw [← hcmp] at HLEN HLT ⊢
  rw [← hB]
  clear hR hk hok hl hB hrb hcmp
  go_enter Tryd.func18, Tryd.ntmps18
  go_wp2_with fail
  go_loopg [4, 3] n (fun kx s4 s3 wr => ∃ (i : Nat) (A : Option Addr) (cc : Nat), s4 = .int .i64 i ∧ Value.slice A i cc = s3 ∧ i ≤ n ∧ n - i ≤ kx ∧ Aside (wr.ownsRow B 3 1 (.slice A i cc) i (ints (refO cmp i))) ∧ Aside (Below B w wr))
  case atStart => exact ⟨0, none, 0, rfl, rfl, by omega, by omega, World.ownsRow_nil _ _ _ _, Below.refl _ _⟩
  case round =>
    obtain ⟨i, A, cc, rfl, rfl, hin, hkx, OW, hbel⟩ := hrel
    obtain ⟨w1, rfl⟩ : ∃ w1, w1 = wr := ⟨_, rfl⟩
    by_cases hlt : i < n
    · have hltz : (i : Int) < (n : Int) := by omega
      obtain ⟨A0, c0, hc0, r0, l0, ok0⟩ := ROW.out 0 (by omega)
      obtain ⟨AX, cX, hcX, rX, lX, okX⟩ := ROW.out i hlt
      have far : ∀ p : Addr, p.block < w.heap.size → w1.cell? p = w.cell? p := fun p hp => hbel.out.cell (by rw [HB.out]; exact hp)
      have hsz : w.heap.size ≤ w1.heap.size := hbel.out.size
      have C0 : Aside (w1.cell? ⟨rb, 0, none⟩ = some (.slice A0 (L.getD 0 []).length c0)) := (far _ (by have h := HRB.out; rw [HB.out] at h; exact h)).trans hc0
      have CX : Aside (w1.cell? ⟨rb, i, none⟩ = some (.slice AX (L.getD i []).length cX)) := (far _ (by have h := HRB.out; rw [HB.out] at h; exact h)).trans hcX
      have RI0 : Aside (RowIs w1 A0 c0 (L.getD 0 [])) := r0.via far hsz
      have RIX : Aside (RowIs w1 AX cX (L.getD i [])) := rX.via far hsz
      have OKX : Aside (∀ k ∈ L.getD i [], k.ok) := okX
      have rb1 : Aside (rb < w1.heap.size) := by have h := HRB.out; rw [HB.out] at h; show rb < w1.heap.size; omega
      obtain ⟨A', c', he, hcc, hown⟩ := own_shape OW.out
      obtain ⟨rfl, rfl⟩ : A = A' ∧ cc = c' := by injection he; exact ⟨by assumption, by assumption⟩
      have OC : Aside ((A = none ∧ i = 0 ∧ cc = 0) ∨ ∃ g, A = some ⟨g, 0, none⟩ ∧ B ≤ g ∧ g < w1.heap.size ∧ ∀ j u, (ints (refO cmp i))[j]? = some u → w1.cell? ⟨g, j, none⟩ = some u) := hown
      have CCI : i ≤ cc := hcc
      have LO := HLEN.out i
      have LTO := hid (HLT.out i)
      obtain ⟨O, hO⟩ : ∃ O, O = refO cmp i := ⟨_, rfl⟩
      have HO : Hid (O = refO cmp i) := hO
      rw [← hO] at OW OC LO LTO
      have LOH : Hid (O.length = i) := LO
      clear hc0 r0 hcX rX okX ok0 hown he hcc hO LO far hsz
      go_wp2_with fail
      go_loopg [5] i (fun kx s5 wx => ∃ (k : Nat), s5 = .int .i64 k ∧ k ≤ i ∧ k ≤ kx ∧ Hid (slide cmp O i k = slide cmp O i i) ∧ Aside (Gw w1 wx))
      case atStart => exact ⟨i, rfl, by omega, by omega, rfl, Gw.refl _⟩
      case round =>
        obtain ⟨k, rfl, hki, hkk, hsl, hgw⟩ := hrel
        rcases k with _ | k
        · have e0 : ((0 : Nat) : Int) = 0 := rfl
          have HK : Hid (0 = slide cmp O i i) := hsl.out
          clear hsl
          have hgy : Hid (∀ nd, Aside (Gw w1 (wr.drewN nd))) := fun nd => hgw.out.drewN nd
          go_wp2_with fail
          go_quiet (fail)
          have GY : Aside (Gw w1 (wr.drewN nq)) := hgy.out nq
          clear hgy
          rcases A with _ | ad
          · have OWN1 : (wr.drewN nq).ownsRow B 3 1 (.slice none i cc) i (ints O) := own_below OW.out GY.out.below
            obtain ⟨BY, hBY⟩ : ∃ BY, BY = (wr.drewN nq).heap.size := ⟨_, rfl⟩
            have HBY : Hid (BY = (wr.drewN nq).heap.size) := hBY
            have R1 : Reads (wr.drewN nq) (wr.drewN nq).heap.size 1 none i (ints O) := Reads.of_own OWN1
            rw [← hBY] at R1
            have R0 : Aside (Reads (wr.drewN nq) BY 1 none 0 ((ints O).take 0)) := reads_take R1 hki
            have R2 : Aside (Reads (wr.drewN nq) BY 1 none i (ints O)) := R1
            have hBy : B ≤ BY := by rw [hBY]; have := HB.out; have := hbel.out.size; have := GY.out.size; omega
            have hki' : ((0 : Nat) : Int) ≤ (i : Int) := by omega
            have hki0 : (0 : Int) ≤ ((0 : Nat) : Int) := by omega
            have hkic : ((0 : Nat) : Int) ≤ (cc : Int) := by omega
            have hicc : (i : Int) ≤ (cc : Int) := by omega
            have T0 : ((0 : Nat) : Int).toNat = 0 := by omega
            clear OWN1 R1 hBY
            go_wp2_with (first
              | (at_builtin; refine wpList_append_any _ rfl _ _ 30 rfl BY 3 i0 (.int .i64 0) 1 8 hu hi hz0 hz1 hz2 rfl (by decide) _ _ _ rfl (World.ownsRow_nil _ _ _ _) BY _ 0 _ ((ints O).take 0) rfl R0.out (fun u hu => ints_one _ u (List.mem_of_mem_take hu)) (by unfold maxLen; omega) (by omega) (Nat.le_of_eq HBY.out) ?_))
            intro v1 wa own1 gr1 _
            have O1 := hid own1
            have R2a : Aside (Reads wa BY 1 none i (ints O)) := R2.out.grown gr1 (Nat.le_of_eq HBY.out) (fun g hg => by cases hg)
            have BA : Aside (Below B w1 wa) := (GY.out.below.mono (by have := HB.out; have := hbel.out.size; omega)).grown gr1 (by have := HBY.out; omega) (fun g hg => by cases hg)
            have SA : Aside (BY ≤ wa.heap.size) := by rw [HBY.out]; exact gr1.size
            clear own1 gr1 R0 R2
            go_wp2_with (first
              | (at_builtin; refine wpList_append_own_at _ rfl _ _ 30 rfl BY 3 i0 (.int .i64 0) 1 8 hu hi hz0 hz1 hz2 rfl (by decide) _ _ _ rfl (O1.out.alloc _) ⟨wa.heap.size, 0, none⟩ 1 1 [.int .i64 i] rfl rfl (cell_one_new _ _ _) (by intro u hu; simp at hu; subst hu; rfl) (by unfold maxLen; omega) (by omega) (by have := SA.out; simp; omega) ?_))
            intro v2 wb own2 gr2 _ _
            have O2 := hid own2
            have R2b : Aside (Reads wb BY 1 none i (ints O)) := (R2a.out.alloc SA.out _).grown gr2 (by have := SA.out; simp; omega) (fun g hg => by
              rcases own_block O1.out with h | ⟨g', cur, h, hg', _⟩
              · rw [h] at hg; cases hg
              · rw [h] at hg; injection hg with hg; omega)
            have BB : Aside (Below B w1 wb) := (BA.out.alloc (by have := SA.out; omega) _).grown gr2 (by have := SA.out; simp; omega) (fun g hg => by
              rcases own_block O1.out with h | ⟨g', cur, h, hg', _⟩
              · rw [h] at hg; cases hg
              · rw [h] at hg; injection hg with hg; omega)
            have SB : Aside (BY ≤ wb.heap.size) := Nat.le_trans SA.out (Nat.le_trans (by simp) gr2.size)
            clear own2 gr2 R2a BA SA O1
            go_wp2_with (first
              | (at_builtin; refine wpList_append_any _ rfl _ _ 30 rfl BY 3 i0 (.int .i64 0) 1 8 hu hi hz0 hz1 hz2 rfl (by decide) _ _ _ rfl O2.out BY none i cc (ints O) rfl R2b.out (ints_one _) (by unfold maxLen; omega) (by omega) SB.out ?_))
            intro v3 wc own3 gr3 _
            have BC : Aside (Below B w1 wc) := BB.out.grown gr3 (by have := SB.out; omega) (fun g hg => by
              rcases own_block O2.out with h | ⟨g', cur, h, hg', _⟩
              · rw [h] at hg; cases hg
              · rw [h] at hg; injection hg with hg; omega)
            have O3 : Aside (wc.ownsRow B 3 1 v3 (i + 1) (ints (refO cmp (i + 1)))) := by
              have h : wc.ownsRow B 3 1 v3 (0 + 0 + 1 + (i - 0)) ([] ++ (ints O).take 0 ++ [Value.int .i64 (i : Int)] ++ (ints O).drop (0 * 1)) := own_mono (by first | exact own3 | (rw [Nat.zero_add, List.nil_append, List.append_assoc, Nat.mul_one]; exact own3)) hBy
              rw [ints_insR cmp O i 0 (by rw [LOH.out]; exact HK.out)] at h
              rw [show 0 + 0 + 1 + (i - 0) = i + 1 by omega] at h
              rw [refO, ← HO.out]
              exact h
            clear own3 gr3 O2 R2b BB SB
            obtain ⟨A3, c3, rfl, _, _⟩ := own_shape O3.out
            go_wp2_with fail
            go_roundg (n - (i + 1))
            case measure => omega
            case rel => exact ⟨i + 1, A3, c3, by go_num, rfl, by omega, by omega, O3, hbel.out.trans (BC.out.mono (by have := HB.out; have := hbel.out.size; omega))⟩
          · have OWN1 : (wr.drewN nq).ownsRow B 3 1 (.slice (some ad) i cc) i (ints O) := own_below OW.out GY.out.below
            obtain ⟨BY, hBY⟩ : ∃ BY, BY = (wr.drewN nq).heap.size := ⟨_, rfl⟩
            have HBY : Hid (BY = (wr.drewN nq).heap.size) := hBY
            have R1 : Reads (wr.drewN nq) (wr.drewN nq).heap.size 1 (some ad) i (ints O) := Reads.of_own OWN1
            rw [← hBY] at R1
            have R0 : Aside (Reads (wr.drewN nq) BY 1 (some ad) 0 ((ints O).take 0)) := reads_take R1 hki
            have R2 : Aside (Reads (wr.drewN nq) BY 1 (some ad) i (ints O)) := R1
            have hBy : B ≤ BY := by rw [hBY]; have := HB.out; have := hbel.out.size; have := GY.out.size; omega
            have hki' : ((0 : Nat) : Int) ≤ (i : Int) := by omega
            have hki0 : (0 : Int) ≤ ((0 : Nat) : Int) := by omega
            have hkic : ((0 : Nat) : Int) ≤ (cc : Int) := by omega
            have hicc : (i : Int) ≤ (cc : Int) := by omega
            have T0 : ((0 : Nat) : Int).toNat = 0 := by omega
            clear OWN1 R1 hBY
            go_wp2_with (first
              | (at_builtin; refine wpList_append_any _ rfl _ _ 30 rfl BY 3 i0 (.int .i64 0) 1 8 hu hi hz0 hz1 hz2 rfl (by decide) _ _ _ rfl (World.ownsRow_nil _ _ _ _) BY _ 0 _ ((ints O).take 0) rfl R0.out (fun u hu => ints_one _ u (List.mem_of_mem_take hu)) (by unfold maxLen; omega) (by omega) (Nat.le_of_eq HBY.out) ?_))
            intro v1 wa own1 gr1 _
            have O1 := hid own1
            have R2a : Aside (Reads wa BY 1 (some ad) i (ints O)) := R2.out.grown gr1 (Nat.le_of_eq HBY.out) (fun g hg => by cases hg)
            have BA : Aside (Below B w1 wa) := (GY.out.below.mono (by have := HB.out; have := hbel.out.size; omega)).grown gr1 (by have := HBY.out; omega) (fun g hg => by cases hg)
            have SA : Aside (BY ≤ wa.heap.size) := by rw [HBY.out]; exact gr1.size
            clear own1 gr1 R0 R2
            go_wp2_with (first
              | (at_builtin; refine wpList_append_own_at _ rfl _ _ 30 rfl BY 3 i0 (.int .i64 0) 1 8 hu hi hz0 hz1 hz2 rfl (by decide) _ _ _ rfl (O1.out.alloc _) ⟨wa.heap.size, 0, none⟩ 1 1 [.int .i64 i] rfl rfl (cell_one_new _ _ _) (by intro u hu; simp at hu; subst hu; rfl) (by unfold maxLen; omega) (by omega) (by have := SA.out; simp; omega) ?_))
            intro v2 wb own2 gr2 _ _
            have O2 := hid own2
            have R2b : Aside (Reads wb BY 1 (some ad) i (ints O)) := (R2a.out.alloc SA.out _).grown gr2 (by have := SA.out; simp; omega) (fun g hg => by
              rcases own_block O1.out with h | ⟨g', cur, h, hg', _⟩
              · rw [h] at hg; cases hg
              · rw [h] at hg; injection hg with hg; omega)
            have BB : Aside (Below B w1 wb) := (BA.out.alloc (by have := SA.out; omega) _).grown gr2 (by have := SA.out; simp; omega) (fun g hg => by
              rcases own_block O1.out with h | ⟨g', cur, h, hg', _⟩
              · rw [h] at hg; cases hg
              · rw [h] at hg; injection hg with hg; omega)
            have SB : Aside (BY ≤ wb.heap.size) := Nat.le_trans SA.out (Nat.le_trans (by simp) gr2.size)
            clear own2 gr2 R2a BA SA O1
            go_wp2_with (first
              | (at_builtin; refine wpList_append_any _ rfl _ _ 30 rfl BY 3 i0 (.int .i64 0) 1 8 hu hi hz0 hz1 hz2 rfl (by decide) _ _ _ rfl O2.out BY (some ad) i cc (ints O) rfl R2b.out (ints_one _) (by unfold maxLen; omega) (by omega) SB.out ?_))
            intro v3 wc own3 gr3 _
            have BC : Aside (Below B w1 wc) := BB.out.grown gr3 (by have := SB.out; omega) (fun g hg => by
              rcases own_block O2.out with h | ⟨g', cur, h, hg', _⟩
              · rw [h] at hg; cases hg
              · rw [h] at hg; injection hg with hg; omega)
            have O3 : Aside (wc.ownsRow B 3 1 v3 (i + 1) (ints (refO cmp (i + 1)))) := by
              have h : wc.ownsRow B 3 1 v3 (0 + 0 + 1 + (i - 0)) ([] ++ (ints O).take 0 ++ [Value.int .i64 (i : Int)] ++ (ints O).drop (0 * 1)) := own_mono (by first | exact own3 | (rw [Nat.zero_add, List.nil_append, List.append_assoc, Nat.mul_one]; exact own3)) hBy
              rw [ints_insR cmp O i 0 (by rw [LOH.out]; exact HK.out)] at h
              rw [show 0 + 0 + 1 + (i - 0) = i + 1 by omega] at h
              rw [refO, ← HO.out]
              exact h
            clear own3 gr3 O2 R2b BB SB
            obtain ⟨A3, c3, rfl, _, _⟩ := own_shape O3.out
            go_wp2_with fail
            go_roundg (n - (i + 1))
            case measure => omega
            case rel => exact ⟨i + 1, A3, c3, by go_num, rfl, by omega, by omega, O3, hbel.out.trans (BC.out.mono (by have := HB.out; have := hbel.out.size; omega))⟩
        · obtain ⟨g, rfl, hgB, hgl, hgc⟩ : ∃ g, A = some ⟨g, 0, none⟩ ∧ B ≤ g ∧ g < w1.heap.size ∧ ∀ j u, (ints O)[j]? = some u → w1.cell? ⟨g, j, none⟩ = some u := by
            rcases OC.out with ⟨_, h, _⟩ | h
            · omega
            · exact h
          have hpk := hgc k _ (ints_get O k (by rw [LOH.out]; omega))
          have hpn := LTO.out k (by omega)
          have hsk : slide cmp O i (k + 1) = if cmp i (O.getD k 0) < 0 then slide cmp O i k else k + 1 := rfl
          obtain ⟨p, hp⟩ : ∃ p, p = O.getD k 0 := ⟨_, rfl⟩
          rw [← hp] at hpk hpn hsk
          obtain ⟨AY, cY, hcY, rY, lY, okY⟩ := ROW.out p (by omega)
          have far : ∀ p : Addr, p.block < w.heap.size → w1.cell? p = w.cell? p := fun p hp => hbel.out.cell (by rw [HB.out]; exact hp)
          have CY : w1.cell? ⟨rb, p, none⟩ = some (.slice AY (L.getD p []).length cY) := (far _ (by have h := HRB.out; rw [HB.out] at h; exact h)).trans hcY
          have RIY : RowIs w1 AY cY (L.getD p []) := rY.via far hbel.out.size
          have HC : Aside (∀ W, Gw wr W → W.cell? ⟨rb, 0, none⟩ = some (.slice A0 (L.getD 0 []).length c0) ∧ W.cell? ⟨rb, i, none⟩ = some (.slice AX (L.getD i []).length cX) ∧ W.cell? ⟨g, k, none⟩ = some (.int .i64 p) ∧ W.cell? ⟨rb, p, none⟩ = some (.slice AY (L.getD p []).length cY)) := fun W gq => by
            have gg := hgw.out.trans gq
            exact ⟨(gg.cell (by exact rb1)).trans C0.out, (gg.cell (by exact rb1)).trans CX.out, (gg.cell (by exact hgl)).trans hpk, (gg.cell (by exact rb1)).trans CY⟩
          have hcd : cmp i p = rowCmp (L.getD i []) (L.getD p []) 0 (L.getD 0 []) := by rw [HCMP.out]; rfl
          have AHD : ∀ W, Gw wr W → Calls Tryd.prog 30 #[.slice A0 (L.getD 0 []).length c0, .slice AX (L.getD i []).length cX, .slice AY (L.getD p []).length cY] W fun e w' => e = .returned (.bool (decide (cmp i p < 0))) ∧ Gw wr w' := fun W gq => by
            have gg := hgw.out.trans gq
            rw [hcd]
            exact (ahead_any _ _ _ A0 AX AY c0 cX cY W (RI0.out.gw gg) (RIX.out.gw gg) (RIY.gw gg) l0 lX lY OKX.out okY).mono fun e w' ⟨h1, h2⟩ => ⟨h1, gq.trans h2⟩
          obtain ⟨b, hb⟩ : ∃ b, b = decide (cmp i p < 0) := ⟨_, rfl⟩
          have hbs : Hid (slide cmp O i i = if b = true then slide cmp O i k else k + 1) := by
            show _ = _
            rw [← hsl.out, hsk, hb]
            by_cases h : cmp i p < 0 <;> simp [h]
          rw [← hb] at AHD
          obtain ⟨n0, hn0⟩ : ∃ n0, n0 = (L.getD 0 []).length := ⟨_, rfl⟩
          obtain ⟨nX, hnX⟩ : ∃ nX, nX = (L.getD i []).length := ⟨_, rfl⟩
          obtain ⟨nY, hnY⟩ : ∃ nY, nY = (L.getD p []).length := ⟨_, rfl⟩
          rw [← hn0, ← hnX, ← hnY] at HC AHD
          have HAHD : Aside (∀ W, Gw wr W → Calls Tryd.prog 30 #[.slice A0 n0 c0, .slice AX nX cX, .slice AY nY cY] W fun e w' => e = .returned (.bool b) ∧ Gw wr w') := AHD
          clear hn0 hnX hnY AHD hb hsk hcd RIY CY far rY hcY okY hp hpk hgc hsl
          obtain ⟨k0, k1, k2, k3⟩ := HC.out wr (Gw.refl _)
          obtain ⟨d0, d1, d2, d3⟩ := HC.out wr.drew (Gw.refl wr).drew
          have b1 : (0 : Int) < ((k + 1 : Nat) : Int) := by omega
          have b1' : decide ((0 : Int) < ((k + 1 : Nat) : Int)) = true := by simp
          have b2 : (((k + 1 : Nat) : Int) - 1) = (k : Int) := by omega
          have b3 : (k : Int) < (i : Int) := by omega
          have b4 : (p : Int) < (n : Int) := by omega
          have b5 : (0 : Int) < (n : Int) := by omega
          have ez : IntKind.i64.wrap (((k + 1 : Nat) : Int) - 1) = (k : Int) := by rw [IntKind.wrap_i64]; omega
          have ez2 : IntKind.i64.wrap ((k : Int) + 1 - 1) = (k : Int) := by rw [IntKind.wrap_i64]; omega
          have ez3 : IntKind.i64.wrap (k : Int) = (k : Int) := by rw [IntKind.wrap_i64]; omega
          have b5n : 0 < n := by omega
          have b6 : k < i := by omega
          have b7 : p < n := by omega
          have b8 : (0 : Int) < (k : Int) + 1 := by omega
          have b9 : decide ((0 : Int) < (k : Int) + 1) = true := by simp
          have b10 : (0 : Int) ≤ (k : Int) := by omega
          go_wp2_with fail
          go_region_held3 (fun w' => w'.cell? ⟨rb, 0, none⟩ = some (.slice A0 n0 c0) ∧ w'.cell? ⟨rb, i, none⟩ = some (.slice AX nX cX) ∧ w'.cell? ⟨g, k, none⟩ = some (.int .i64 p) ∧ w'.cell? ⟨rb, p, none⟩ = some (.slice AY nY cY))
            (first
              | with_reducible exact kA | with_reducible exact ⟨d0, d1, d2, d3⟩ | with_reducible exact ⟨k0, k1, k2, k3⟩
              | (with_reducible refine HC.out _ ?_
                 repeat (with_reducible (first | assumption | exact Gw.refl _ | apply Gw.drewN | apply Gw.drew))))
            ((first
              | (with_reducible refine (HAHD.out _ ?hx1).mono ?_
                 case hx1 => (repeat (with_reducible (first | assumption | exact Gw.refl _ | apply Gw.drewN | apply Gw.drew)))
                 rintro e wA1 ⟨rfl, gA1⟩; have kA := HC.out wA1 gA1)))
          have GA : Aside (Gw w1 wA1) := hgw.out.trans gA1
          cases b with
          | true =>
            have HS : Hid (slide cmp O i k = slide cmp O i i) := hbs.out.symm
            clear hbs HAHD HC kA gA1
            go_wp2_with fail
            go_roundg k
            case measure => omega
            case rel => exact ⟨k, by go_num, by omega, by omega, HS, GA⟩
          | false =>
            have HK : Hid (k + 1 = slide cmp O i i) := hbs.out.symm
            clear hbs HAHD HC kA gA1
            have GY : Aside (Gw w1 wA1) := GA
            have OWN1 : wA1.ownsRow B 3 1 (.slice (some ⟨g, 0, none⟩) i cc) i (ints O) := own_below OW.out GY.out.below
            obtain ⟨BY, hBY⟩ : ∃ BY, BY = wA1.heap.size := ⟨_, rfl⟩
            have HBY : Hid (BY = wA1.heap.size) := hBY
            have R1 : Reads wA1 wA1.heap.size 1 (some ⟨g, 0, none⟩) i (ints O) := Reads.of_own OWN1
            rw [← hBY] at R1
            have R0 : Aside (Reads wA1 BY 1 (some ⟨g, 0, none⟩) (k + 1) ((ints O).take (k + 1))) := reads_take R1 hki
            have R2 : Aside (Reads wA1 BY 1 (if cc = (k + 1) then some ⟨g, 0, none⟩ else some ⟨g, (k + 1), none⟩) (i - (k + 1)) ((ints O).drop ((k + 1) * 1))) := reads_cut R1 hki CCI
            have hBy : B ≤ BY := by rw [hBY]; have := HB.out; have := hbel.out.size; have := GY.out.size; omega
            have hki' : (((k + 1) : Nat) : Int) ≤ (i : Int) := by omega
            have hki0 : (0 : Int) ≤ (((k + 1) : Nat) : Int) := by omega
            have hkic : (((k + 1) : Nat) : Int) ≤ (cc : Int) := by omega
            have hicc : (i : Int) ≤ (cc : Int) := by omega
            have T0 : (((k + 1) : Nat) : Int).toNat = (k + 1) := by omega
            clear OWN1 R1 hBY
            go_wp2_with (first
              | (at_builtin; refine wpList_append_any _ rfl _ _ 30 rfl BY 3 i0 (.int .i64 0) 1 8 hu hi hz0 hz1 hz2 rfl (by decide) _ _ _ rfl (World.ownsRow_nil _ _ _ _) BY _ (k + 1) _ ((ints O).take (k + 1)) rfl R0.out (fun u hu => ints_one _ u (List.mem_of_mem_take hu)) (by unfold maxLen; omega) (by omega) (Nat.le_of_eq HBY.out) ?_))
            intro v1 wa own1 gr1 _
            have O1 := hid own1
            have R2a : Aside (Reads wa BY 1 (if cc = (k + 1) then some ⟨g, 0, none⟩ else some ⟨g, (k + 1), none⟩) (i - (k + 1)) ((ints O).drop ((k + 1) * 1))) := R2.out.grown gr1 (Nat.le_of_eq HBY.out) (fun g hg => by cases hg)
            have BA : Aside (Below B w1 wa) := (GY.out.below.mono (by have := HB.out; have := hbel.out.size; omega)).grown gr1 (by have := HBY.out; omega) (fun g hg => by cases hg)
            have SA : Aside (BY ≤ wa.heap.size) := by rw [HBY.out]; exact gr1.size
            clear own1 gr1 R0 R2
            go_wp2_with (first
              | (at_builtin; refine wpList_append_own_at _ rfl _ _ 30 rfl BY 3 i0 (.int .i64 0) 1 8 hu hi hz0 hz1 hz2 rfl (by decide) _ _ _ rfl (O1.out.alloc _) ⟨wa.heap.size, 0, none⟩ 1 1 [.int .i64 i] rfl rfl (cell_one_new _ _ _) (by intro u hu; simp at hu; subst hu; rfl) (by unfold maxLen; omega) (by omega) (by have := SA.out; simp; omega) ?_))
            intro v2 wb own2 gr2 _ _
            have O2 := hid own2
            have R2b : Aside (Reads wb BY 1 (if cc = (k + 1) then some ⟨g, 0, none⟩ else some ⟨g, (k + 1), none⟩) (i - (k + 1)) ((ints O).drop ((k + 1) * 1))) := (R2a.out.alloc SA.out _).grown gr2 (by have := SA.out; simp; omega) (fun g hg => by
              rcases own_block O1.out with h | ⟨g', cur, h, hg', _⟩
              · rw [h] at hg; cases hg
              · rw [h] at hg; injection hg with hg; omega)
            have BB : Aside (Below B w1 wb) := (BA.out.alloc (by have := SA.out; omega) _).grown gr2 (by have := SA.out; simp; omega) (fun g hg => by
              rcases own_block O1.out with h | ⟨g', cur, h, hg', _⟩
              · rw [h] at hg; cases hg
              · rw [h] at hg; injection hg with hg; omega)
            have SB : Aside (BY ≤ wb.heap.size) := Nat.le_trans SA.out (Nat.le_trans (by simp) gr2.size)
            clear own2 gr2 R2a BA SA O1
            by_cases hcc : cc = k + 1
            · replace R2b : Aside (Reads wb BY 1 (some ⟨g, 0, none⟩) (i - (k + 1)) ((ints O).drop ((k + 1) * 1))) := by have h := R2b.out; rw [if_pos hcc] at h; exact h
              go_wp2_with (first
                | (at_builtin; refine wpList_append_any _ rfl _ _ 30 rfl BY 3 i0 (.int .i64 0) 1 8 hu hi hz0 hz1 hz2 rfl (by decide) _ _ _ rfl O2.out BY (some ⟨g, 0, none⟩) (i - (k + 1)) _ ((ints O).drop ((k + 1) * 1)) rfl R2b.out (fun u hu => ints_one _ u (List.mem_of_mem_drop hu)) (by unfold maxLen; omega) (by omega) SB.out ?_))
              intro v3 wc own3 gr3 _
              have BC : Aside (Below B w1 wc) := BB.out.grown gr3 (by have := SB.out; omega) (fun g hg => by
                rcases own_block O2.out with h | ⟨g', cur, h, hg', _⟩
                · rw [h] at hg; cases hg
                · rw [h] at hg; injection hg with hg; omega)
              have O3 : Aside (wc.ownsRow B 3 1 v3 (i + 1) (ints (refO cmp (i + 1)))) := by
                have h : wc.ownsRow B 3 1 v3 (0 + (k + 1) + 1 + (i - (k + 1))) ([] ++ (ints O).take (k + 1) ++ [Value.int .i64 (i : Int)] ++ (ints O).drop ((k + 1) * 1)) := own_mono (by first | exact own3 | (rw [Nat.zero_add, List.nil_append, List.append_assoc, Nat.mul_one]; exact own3)) hBy
                rw [ints_insR cmp O i (k + 1) (by rw [LOH.out]; exact HK.out)] at h
                rw [show 0 + (k + 1) + 1 + (i - (k + 1)) = i + 1 by omega] at h
                rw [refO, ← HO.out]
                exact h
              clear own3 gr3 O2 R2b BB SB
              obtain ⟨A3, c3, rfl, _, _⟩ := own_shape O3.out
              go_wp2_with fail
              go_roundg (n - (i + 1))
              case measure => omega
              case rel => exact ⟨i + 1, A3, c3, by go_num, rfl, by omega, by omega, O3, hbel.out.trans (BC.out.mono (by have := HB.out; have := hbel.out.size; omega))⟩
            · replace R2b : Aside (Reads wb BY 1 (some ⟨g, k + 1, none⟩) (i - (k + 1)) ((ints O).drop ((k + 1) * 1))) := by have h := R2b.out; rw [if_neg hcc] at h; exact h
              go_wp2_with (first
                | (at_builtin; refine wpList_append_any _ rfl _ _ 30 rfl BY 3 i0 (.int .i64 0) 1 8 hu hi hz0 hz1 hz2 rfl (by decide) _ _ _ rfl O2.out BY (some ⟨g, k + 1, none⟩) (i - (k + 1)) _ ((ints O).drop ((k + 1) * 1)) rfl R2b.out (fun u hu => ints_one _ u (List.mem_of_mem_drop hu)) (by unfold maxLen; omega) (by omega) SB.out ?_))
              intro v3 wc own3 gr3 _
              have BC : Aside (Below B w1 wc) := BB.out.grown gr3 (by have := SB.out; omega) (fun g hg => by
                rcases own_block O2.out with h | ⟨g', cur, h, hg', _⟩
                · rw [h] at hg; cases hg
                · rw [h] at hg; injection hg with hg; omega)
              have O3 : Aside (wc.ownsRow B 3 1 v3 (i + 1) (ints (refO cmp (i + 1)))) := by
                have h : wc.ownsRow B 3 1 v3 (0 + (k + 1) + 1 + (i - (k + 1))) ([] ++ (ints O).take (k + 1) ++ [Value.int .i64 (i : Int)] ++ (ints O).drop ((k + 1) * 1)) := own_mono (by first | exact own3 | (rw [Nat.zero_add, List.nil_append, List.append_assoc, Nat.mul_one]; exact own3)) hBy
                rw [ints_insR cmp O i (k + 1) (by rw [LOH.out]; exact HK.out)] at h
                rw [show 0 + (k + 1) + 1 + (i - (k + 1)) = i + 1 by omega] at h
                rw [refO, ← HO.out]
                exact h
              clear own3 gr3 O2 R2b BB SB
              obtain ⟨A3, c3, rfl, _, _⟩ := own_shape O3.out
              go_wp2_with fail
              go_roundg (n - (i + 1))
              case measure => omega
              case rel => exact ⟨i + 1, A3, c3, by go_num, rfl, by omega, by omega, O3, hbel.out.trans (BC.out.mono (by have := HB.out; have := hbel.out.size; omega))⟩
    · have hltz : ¬ (i : Int) < (n : Int) := by omega
      have e : i = n := by omega
      subst e
      go_wp2_with fail
      go_ret
      exact ⟨A, cc, rfl, hbel.out, OW.out⟩
end Go.Proofs.YtkigjcdjiheneaaDoor
