/- xnum.Format of a Fin number, by a picture without a head, a tail, a second half. -/
import Derived.Test.YtclpgacaecfjlaaDoorPic
import Derived.Test.YtclpgacaecfjlaaDoorFig
import Derived.Test.YtclpgacaecfjlaaDoorAri
namespace Go.Proofs.YtclpgacaecfjlaaDoor
open Go.RowKit Go.Sten Go.Lib Go.Sort Go.Shelf

theorem commas_len (g : Nat) : ∀ (f : Nat) (s : List UInt8) (k : Nat), (commas g f s k).length ≤ s.length + f
  | 0, s, k => Nat.le_refl _
  | f + 1, s, k => by
    rw [commas]
    split
    · refine Nat.le_trans (commas_len g f _ _) ?_
      simp
      omega
    · omega
theorem s1L_len (W : List UInt8) (m : Nat) (hW : W.length ≤ 100) (hm : m < 10000000000000000000) : (s1L W m).length ≤ 120 := by
  have h := s0L_len m hm
  have h2 : W.count 48 ≤ W.length := List.count_le_length
  unfold s1L
  rw [List.length_append, Lib.repeatL_length]
  simp
  omega
theorem figL_len (W P : List UInt8) (n : Nat) (hW : W.length ≤ 100) (hP : P.length ≤ 100) (hn : rndN n P.length < 10000000000000000000) : (figL W P n).length ≤ 500 := by
  have h1 := s1L_len W _ hW hn
  have h2 : (s2L W (rndN n P.length)).length ≤ 240 := by
    unfold s2L
    split
    · refine Nat.le_trans (commas_len _ _ _ _) ?_
      omega
    · omega
  have h3 : (behL P (rndN n P.length)).length ≤ 200 := by
    unfold behL b0L
    rw [List.length_append]
    have := trimR_len (((sixL (rndN n P.length) ++ Lib.repeatL [48] P.length).take P.length).drop (P.count 48)) 48
    simp only [List.length_drop, List.length_take, List.length_append, Lib.repeatL_length] at this ⊢
    omega
  unfold figL
  rw [List.length_append]
  split
  · simp; omega
  · simp; omega
theorem rndN_le (n pl : Nat) (h : n ≤ 1000000000000000000) : rndN n pl < 10000000000000000000 := by
  have h1 : rndN n pl ≤ n + unitN pl / 2 := Nat.div_mul_le_self _ _
  have h2 : unitN pl ≤ 1000000 := Nat.pow_le_pow_right (by omega) (by omega : 6 - min pl 6 ≤ 6)
  omega

theorem dl (s : ByteArray) : s.data.toList.length = s.size := by rw [Array.length_toList]; rfl
def fmtL (W P : List UInt8) (v : Int) : List UInt8 := (if v < 0 then [45] else []) ++ figL W P v.natAbs

theorem Box2.below {W W' : World} {k : Nat} {a b : Value} (h : Box2 W k a b) (g : Below W.heap.size W W') : Box2 W' k a b :=
  ⟨(g.cell (p := ⟨k, 0, none⟩) h.2.2.2.2).trans h.1, (g.cell (p := ⟨k, 1, none⟩) h.2.2.2.2).trans h.2.1, (g.frozen (p := ⟨k, 0, none⟩) h.2.2.2.2).trans h.2.2.1, (g.frozen (p := ⟨k, 1, none⟩) h.2.2.2.2).trans h.2.2.2.1, Nat.lt_of_lt_of_le h.2.2.2.2 g.size⟩
theorem b0e : (⟨#[]⟩ : ByteArray) = ⟨([] : List UInt8).toArray⟩ := rfl
/-- the number, the first half, the picture, the one for what is below 0 -/
def FSt (w W : World) (a l p q : Nat) (v : Int) (s Wd Pl hd : ByteArray) : Prop :=
  Box2 W a (.int .i64 0) (.int .i64 v) ∧ Box4 W p (.string ⟨#[]⟩) (.string Wd) (.string Pl) (.string ⟨#[]⟩) ∧ Box4 W q (.string hd) (.string ⟨#[]⟩) (.string ⟨#[]⟩) (.string ⟨#[]⟩) ∧
  (W.cell? ⟨l, 0, none⟩ = some (.string s) ∧ l < W.heap.size) ∧ Below w.heap.size w W
section
variable {w W W' : World} {a l p q : Nat} {v : Int} {s Wd Pl hd : ByteArray}
theorem FSt.below (h : FSt w W a l p q v s Wd Pl hd) (g : Below W.heap.size W W') : FSt w W' a l p q v s Wd Pl hd := by
  obtain ⟨h1, h2, h3, ⟨h4, h5⟩, h6⟩ := h
  exact ⟨Box2.below h1 g, h2.below g, h3.below g, ⟨(g.cell (p := ⟨l, 0, none⟩) h5).trans h4, Nat.lt_of_lt_of_le h5 g.size⟩, below_then h6 h6.size g⟩
theorem box4_other {W : World} {k j o : Nat} {a b c d : Value} (h : Box4 W k a b c d) (hne : k ≠ j) (x : Value) : Box4 (W.setCell ⟨j, o, none⟩ x) k a b c d := by
  obtain ⟨⟨h0, h1, h2, h3⟩, ⟨f0, f1, f2, f3⟩, hk⟩ := h
  have ne : ∀ i, (⟨j, o, none⟩ : Addr) ≠ ⟨k, i, none⟩ := fun i e => hne (by injection e with e; exact e.symm)
  refine ⟨⟨(World.cell?_setCell_other _ _ _ _ (ne 0)).trans h0, (World.cell?_setCell_other _ _ _ _ (ne 1)).trans h1, (World.cell?_setCell_other _ _ _ _ (ne 2)).trans h2, (World.cell?_setCell_other _ _ _ _ (ne 3)).trans h3⟩, ?_, by simpa using hk⟩
  simp only [World.frozen?_setCell]
  exact ⟨f0, f1, f2, f3⟩
theorem FSt.put (h : FSt w W a l p q v s Wd Pl hd) (n : Int) (ha : w.heap.size ≤ a) (hl : l ≠ a) (hp : p ≠ a) (hq : q ≠ a) : FSt w ((W.setCell ⟨a, 0, none⟩ (.int .i64 0)).setCell ⟨a, 1, none⟩ (.int .i64 n)) a l p q n s Wd Pl hd := by
  obtain ⟨h1, h2, h3, ⟨h4, h5⟩, h6⟩ := h
  obtain ⟨b0, b1, b2, b3, b4⟩ := h1
  refine ⟨⟨(World.cell?_setCell_other _ _ _ _ (by simp)).trans (World.cell?_setCell_same _ _ _ b0), World.cell?_setCell_same _ _ _ ((World.cell?_setCell_other _ _ _ _ (by simp)).trans b1), ?_, ?_, by simpa using b4⟩,
    box4_other (box4_other h2 hp _) hp _, box4_other (box4_other h3 hq _) hq _, ⟨?_, by simpa using h5⟩, (h6.setCell (p := ⟨a, 0, none⟩) ha _).setCell (p := ⟨a, 1, none⟩) ha _⟩
  · simp only [World.frozen?_setCell]; exact b2
  · simp only [World.frozen?_setCell]; exact b3
  · have ne : ∀ i, (⟨a, i, none⟩ : Addr) ≠ ⟨l, 0, none⟩ := fun i e => hl (by injection e with e; exact e.symm)
    exact (World.cell?_setCell_other _ _ _ _ (ne 1)).trans ((World.cell?_setCell_other _ _ _ _ (ne 0)).trans h4)
end

set_option maxHeartbeats 4000000 in
set_option maxRecDepth 100000 in
theorem fmt_any (s W P : ByteArray) (N : List UInt8) (v : Int) (w : World) (H : Plain s W P N) (hE : Env w) (h1 : -1000000000000000000 ≤ v) (h2 : v ≤ 1000000000000000000)
    (hsp : Lib.countB s ⟨#[59]⟩ = 0) (hpc : Lib.contains s.data.toList [37] = false) (hli : 0 ≤ Lib.lastIndexByte W 44 → Lib.lastIndexByte W 44 + 1 < W.size) :
    Calls Tryd.prog 18 #[.agg #[.int .i64 0, .int .i64 v], .string s] w fun e w' => e = .returned (.tuple #[.string ⟨(fmtL W.data.toList P.data.toList v).toArray⟩, .int .i64 0]) ∧ Below w.heap.size w w' := by
  have ss : s.size ≤ 100 := H.len.1
  have C1 : Aside (∀ W', Env W' → Calls Tryd.prog 28 #[.string s, .string ⟨#[59]⟩] W' fun e w' => e = .returned (.slice (some ⟨W'.heap.size, 0, none⟩) 1 1) ∧ w' = W'.alloc (.cells #[.string s] 9)) := fun W' h => by
    have h := Tryd.strings_Split_shaped s ⟨#[59]⟩ W' h.1 (by omega) (by decide)
    rw [hsp] at h
    exact h
  have C2 := hid (fun W' h => pic_any s W P N W' H h)
  have C3 : Aside (∀ W', Env W' → Calls Tryd.prog 30 #[.string s, .string ⟨#[37]⟩] W' fun e w' => e = .returned (.bool false) ∧ W' = w') := fun W' h => by
    have h := Tryd.strings_Contains_shaped s ⟨#[37]⟩ W' h.1 (by omega)
    rw [show (⟨#[37]⟩ : ByteArray).data.toList = [37] from rfl, hpc] at h
    exact h.mono fun _ _ h => ⟨h.1, h.2.symm⟩
  obtain ⟨n, hn⟩ : ∃ n, n = v.natAbs := ⟨_, rfl⟩
  have hnb : n ≤ 1000000000000000000 := by omega
  obtain ⟨fg, hfg⟩ : ∃ b : ByteArray, b = ⟨(figL W.data.toList P.data.toList n).toArray⟩ := ⟨_, rfl⟩
  have hWl : W.data.toList.length ≤ 100 := by rw [dl]; exact H.len.2.1
  have hPl : P.data.toList.length ≤ 100 := by rw [dl]; exact H.len.2.2.1
  have fgs : fg.size ≤ 500 := by rw [hfg, arr_size]; exact figL_len _ _ _ hWl hPl (rndN_le _ _ hnb)
  have C4 : Aside (∀ W', Env W' → Calls Tryd.prog 31 #[.agg #[.string ⟨#[]⟩, .string W, .string P, .string ⟨#[]⟩], .int .u64 (n : Int)] W' fun e w' => e = .returned (.string fg) ∧ Below W'.heap.size W' w') := fun W' h => by
    have h := fig_any W.data.toList P.data.toList ⟨#[]⟩ ⟨#[]⟩ n W' hWl hPl hnb (by rw [eta, dl]; exact hli) h
    rw [eta, eta, ← hfg] at h
    exact h
  have S1 := hid (fun W' => sign_any 0 v W')
  obtain ⟨sg, hsg⟩ : ∃ x, x = sgnN 0 v := ⟨_, rfl⟩
  rw [← hsg] at S1
  have HS : Hid (sg = sgnN 0 v) := hsg
  have HFG := hid hfg
  have HE := hid hE
  have HN := hid hn
  clear hfg hn hE hsp hpc hli hWl hPl hnb H hsg
  by_cases hneg : v < 0
  · have t1 : sg < 0 := by rw [HS.out]; simp [sgnN, cmpI, hneg]
    have C5 : Aside (∀ W', Calls Tryd.prog 15 #[.agg #[.int .i64 0, .int .i64 v]] W' fun e w' => e = .returned (.agg #[.int .i64 0, .int .i64 (n : Int)]) ∧ Gw W' w') := fun W' => by
      have h := neg_any 0 v W'
      have e : negV 0 v = (n : Int) := by
        have : wrap64 (-v) = -v := IntWalk.wrap64_in _ (by omega)
        have h3 := HN.out
        show wrap64 (-v) = _
        omega
      rw [e] at h
      exact h
    have C6 : Aside (∀ W', Calls Tryd.prog 23 #[.agg #[.int .i64 0, .int .i64 (n : Int)]] W' fun e w' => e = .returned (.tuple #[.int .u64 (n : Int), .bool false]) ∧ Gw W' w') := fun W' => by
      have h3 := HN.out
      have h := parts_any 0 (n : Int) W' (by omega) (by omega)
      rw [Int.natAbs_natCast, show decide ((n : Int) < 0) = false by simp] at h
      exact h
    have HNEG : Hid (v < 0) := hneg
    clear hneg h1 h2
    go_enter Tryd.func18, Tryd.ntmps18
    go_wp2_with fail
    refine (C1.out _ (HE.out.alloc _)).mono ?_
    rintro _ w1 ⟨rfl, rfl⟩
    go_wp2_with fail
    refine (C2.out _ ((HE.out.alloc _).alloc _)).mono ?_
    rintro _ w2 ⟨rfl, hb2⟩
    have ca : w2.cell? ⟨w.heap.size, 0, none⟩ = some (.int .i64 0) := (hb2.cell (p := ⟨w.heap.size, 0, none⟩) (by simp; omega)).trans (by go_simp)
    have cb : w2.cell? ⟨w.heap.size, 1, none⟩ = some (.int .i64 v) := (hb2.cell (p := ⟨w.heap.size, 1, none⟩) (by simp; omega)).trans (by go_simp)
    have fa : w2.frozen? ⟨w.heap.size, 0, none⟩ = false := (hb2.frozen (p := ⟨w.heap.size, 0, none⟩) (by simp; omega)).trans (by go_simp)
    have fb : w2.frozen? ⟨w.heap.size, 1, none⟩ = false := (hb2.frozen (p := ⟨w.heap.size, 1, none⟩) (by simp; omega)).trans (by go_simp)
    have cc : w2.cell? ⟨w.heap.size + 1, 0, none⟩ = some (.string s) := (hb2.cell (p := ⟨w.heap.size + 1, 0, none⟩) (by simp)).trans (by go_simp)
    have hz2 : w.heap.size + 1 < w2.heap.size := by have := hb2.size; simp at this; omega
    have hz1 : w.heap.size < w2.heap.size := by omega
    have B2 := hid ((((Gw.refl w).alloc _).alloc _).below.trans (hb2.mono (by simp; omega)))
    have F2 := hid (show FSt w ((w2.alloc (.cells #[.string ⟨#[]⟩, .string W, .string P, .string ⟨#[]⟩] 49)).alloc (.cells #[.string (⟨#[45]⟩ ++ ⟨#[]⟩), .string ⟨#[]⟩, .string ⟨#[]⟩, .string ⟨#[]⟩] 49)) w.heap.size (w.heap.size + 1) w2.heap.size (w2.heap.size + 1) v s W P (⟨#[45]⟩ ++ ⟨#[]⟩) from
      ⟨Box2.below (Box2.below ⟨ca, cb, fa, fb, hz1⟩ ((Gw.refl _).alloc _).below) ((Gw.refl _).alloc _).below, (Box4.new w2 _ _ _ _ _).below ((Gw.refl _).alloc _).below,
       by have := Box4.new (w2.alloc (.cells #[.string ⟨#[]⟩, .string W, .string P, .string ⟨#[]⟩] 49)) (.string (⟨#[45]⟩ ++ ⟨#[]⟩)) (.string ⟨#[]⟩) (.string ⟨#[]⟩) (.string ⟨#[]⟩) 49; simpa using this,
       ⟨(((Gw.refl w2).alloc _).alloc _ |>.cell (p := ⟨w.heap.size + 1, 0, none⟩) hz2).trans cc, by simp; omega⟩, (B2.out.trans ((((Gw.refl w2).alloc _).alloc _).below.mono (by omega)))⟩)
    clear hb2 C1 C2
    go_wp2_with fail
    go_quiet (fail)
    have F3 := hid (fun nd => F2.out.below (Go.Sten.below_drewN (Below.refl _ _) nd))
    go_wp2_with fail
    refine (S1.out _).mono ?_
    rintro _ w4 ⟨rfl, g4⟩
    have F4 := hid ((F3.out _).below g4.below)
    clear F2 F3 g4 ca cb fa fb cc B2
    obtain ⟨⟨ca, cb, fa, fb, _⟩, ⟨⟨cp0, cp1, cp2, cp3⟩, ⟨fp0, fp1, fp2, fp3⟩, hpz⟩, ⟨⟨cq0, cq1, cq2, cq3⟩, ⟨fq0, fq1, fq2, fq3⟩, hqz⟩, ⟨cc, hlz⟩, _⟩ := F4.out
    go_wp2_with fail
    go_upto_region 14 with (fail)
    go_quiet (fail)
    have F5 := hid (fun nd => F4.out.below (Go.Sten.below_drewN (Below.refl _ _) nd))
    go_wp2_with fail
    refine (C5.out _).mono ?_
    rintro _ w5 ⟨rfl, g5⟩
    have F6 := hid ((F5.out _).below g5.below)
    clear F4 F5 g5
    obtain ⟨⟨ca, cb, fa, fb, _⟩, ⟨⟨cp0, cp1, cp2, cp3⟩, ⟨fp0, fp1, fp2, fp3⟩, hpz⟩, ⟨⟨cq0, cq1, cq2, cq3⟩, ⟨fq0, fq1, fq2, fq3⟩, hqz⟩, ⟨cc, hlz⟩, _⟩ := F6.out
    go_wp2_with fail
    have F7 := F6.out.put (n : Int) (Nat.le_refl _) (by omega) (by omega) (by omega)
    refine (C3.out _ (HE.out.below F7.2.2.2.2)).mono ?_
    rintro _ w6 ⟨rfl, rfl⟩
    generalize (w5.setCell ⟨w.heap.size, 0, none⟩ (.int .i64 0)).setCell ⟨w.heap.size, 1, none⟩ (.int .i64 (n : Int)) = w6 at F7 ⊢
    have F8 := hid F7
    clear F7 F6 ca cb fa fb cp0 cp1 cp2 cp3 fp0 fp1 fp2 fp3 hpz cq0 cq1 cq2 cq3 fq0 fq1 fq2 fq3 hqz cc hlz
    obtain ⟨⟨ca, cb, fa, fb, _⟩, ⟨⟨cp0, cp1, cp2, cp3⟩, ⟨fp0, fp1, fp2, fp3⟩, hpz⟩, ⟨⟨cq0, cq1, cq2, cq3⟩, ⟨fq0, fq1, fq2, fq3⟩, hqz⟩, ⟨cc, hlz⟩, _⟩ := F8.out
    go_wp2_with fail
    refine (C6.out _).mono ?_
    rintro _ w7 ⟨rfl, g7⟩
    have F9 := hid (F8.out.below g7.below)
    clear F8 g7 ca cb fa fb cp0 cp1 cp2 cp3 fp0 fp1 fp2 fp3 hpz cq0 cq1 cq2 cq3 fq0 fq1 fq2 fq3 hqz cc hlz
    obtain ⟨⟨ca, cb, fa, fb, _⟩, ⟨⟨cp0, cp1, cp2, cp3⟩, ⟨fp0, fp1, fp2, fp3⟩, hpz⟩, ⟨⟨cq0, cq1, cq2, cq3⟩, ⟨fq0, fq1, fq2, fq3⟩, hqz⟩, ⟨cc, hlz⟩, _⟩ := F9.out
    go_wp2_with fail
    refine (C4.out _ (HE.out.below F9.out.2.2.2.2)).mono ?_
    rintro _ w8 ⟨rfl, hb8⟩
    have F10 := hid (F9.out.below hb8)
    clear F9 hb8
    go_wp2_with fail
    go_ret2
    have ES : (⟨(fmtL W.data.toList P.data.toList v).toArray⟩ : ByteArray) = ⟨#[45]⟩ ++ ⟨#[]⟩ ++ fg ++ ⟨#[]⟩ := by
      rw [HFG.out, fmtL, if_pos HNEG.out, HN.out, b1, b0e, bcat, bcat, bcat]
      simp
    exact ⟨by rw [ES]; rfl, F10.out.2.2.2.2⟩
  · have t1 : ¬ sg < 0 := by rw [HS.out]; simp [sgnN, cmpI]; split <;> omega
    have HNEG : Hid (¬ v < 0) := hneg
    have C6 : Aside (∀ W', Calls Tryd.prog 23 #[.agg #[.int .i64 0, .int .i64 v]] W' fun e w' => e = .returned (.tuple #[.int .u64 (n : Int), .bool false]) ∧ Gw W' w') := fun W' => by
      have h := parts_any 0 v W' (by omega) (by omega)
      rw [← HN.out, show decide (v < 0) = false by simp; omega] at h
      exact h
    clear hneg h1 h2
    go_enter Tryd.func18, Tryd.ntmps18
    go_wp2_with fail
    refine (C1.out _ (HE.out.alloc _)).mono ?_
    rintro _ w1 ⟨rfl, rfl⟩
    go_wp2_with fail
    refine (C2.out _ ((HE.out.alloc _).alloc _)).mono ?_
    rintro _ w2 ⟨rfl, hb2⟩
    have ca : w2.cell? ⟨w.heap.size, 0, none⟩ = some (.int .i64 0) := (hb2.cell (p := ⟨w.heap.size, 0, none⟩) (by simp; omega)).trans (by go_simp)
    have cb : w2.cell? ⟨w.heap.size, 1, none⟩ = some (.int .i64 v) := (hb2.cell (p := ⟨w.heap.size, 1, none⟩) (by simp; omega)).trans (by go_simp)
    have fa : w2.frozen? ⟨w.heap.size, 0, none⟩ = false := (hb2.frozen (p := ⟨w.heap.size, 0, none⟩) (by simp; omega)).trans (by go_simp)
    have fb : w2.frozen? ⟨w.heap.size, 1, none⟩ = false := (hb2.frozen (p := ⟨w.heap.size, 1, none⟩) (by simp; omega)).trans (by go_simp)
    have cc : w2.cell? ⟨w.heap.size + 1, 0, none⟩ = some (.string s) := (hb2.cell (p := ⟨w.heap.size + 1, 0, none⟩) (by simp)).trans (by go_simp)
    have hz2 : w.heap.size + 1 < w2.heap.size := by have := hb2.size; simp at this; omega
    have hz1 : w.heap.size < w2.heap.size := by omega
    have B2 := hid ((((Gw.refl w).alloc _).alloc _).below.trans (hb2.mono (by simp; omega)))
    have F2 := hid (show FSt w ((w2.alloc (.cells #[.string ⟨#[]⟩, .string W, .string P, .string ⟨#[]⟩] 49)).alloc (.cells #[.string (⟨#[45]⟩ ++ ⟨#[]⟩), .string ⟨#[]⟩, .string ⟨#[]⟩, .string ⟨#[]⟩] 49)) w.heap.size (w.heap.size + 1) w2.heap.size (w2.heap.size + 1) v s W P (⟨#[45]⟩ ++ ⟨#[]⟩) from
      ⟨Box2.below (Box2.below ⟨ca, cb, fa, fb, hz1⟩ ((Gw.refl _).alloc _).below) ((Gw.refl _).alloc _).below, (Box4.new w2 _ _ _ _ _).below ((Gw.refl _).alloc _).below,
       by have := Box4.new (w2.alloc (.cells #[.string ⟨#[]⟩, .string W, .string P, .string ⟨#[]⟩] 49)) (.string (⟨#[45]⟩ ++ ⟨#[]⟩)) (.string ⟨#[]⟩) (.string ⟨#[]⟩) (.string ⟨#[]⟩) 49; simpa using this,
       ⟨(((Gw.refl w2).alloc _).alloc _ |>.cell (p := ⟨w.heap.size + 1, 0, none⟩) hz2).trans cc, by simp; omega⟩, (B2.out.trans ((((Gw.refl w2).alloc _).alloc _).below.mono (by omega)))⟩)
    clear hb2 C1 C2
    go_wp2_with fail
    go_quiet (fail)
    have F3 := hid (fun nd => F2.out.below (Go.Sten.below_drewN (Below.refl _ _) nd))
    go_wp2_with fail
    refine (S1.out _).mono ?_
    rintro _ w4 ⟨rfl, g4⟩
    have F4 := hid ((F3.out _).below g4.below)
    clear F2 F3 g4 ca cb fa fb cc B2
    obtain ⟨⟨ca, cb, fa, fb, _⟩, ⟨⟨cp0, cp1, cp2, cp3⟩, ⟨fp0, fp1, fp2, fp3⟩, hpz⟩, ⟨⟨cq0, cq1, cq2, cq3⟩, ⟨fq0, fq1, fq2, fq3⟩, hqz⟩, ⟨cc, hlz⟩, _⟩ := F4.out
    go_wp2_with fail
    refine (C3.out _ (HE.out.below F4.out.2.2.2.2)).mono ?_
    rintro _ w6 ⟨rfl, rfl⟩
    go_wp2_with fail
    have F8 := hid F4.out
    refine (C6.out _).mono ?_
    rintro _ w7 ⟨rfl, g7⟩
    have F9 := hid (F8.out.below g7.below)
    clear F8 g7 ca cb fa fb cp0 cp1 cp2 cp3 fp0 fp1 fp2 fp3 hpz cq0 cq1 cq2 cq3 fq0 fq1 fq2 fq3 hqz cc hlz
    obtain ⟨⟨ca, cb, fa, fb, _⟩, ⟨⟨cp0, cp1, cp2, cp3⟩, ⟨fp0, fp1, fp2, fp3⟩, hpz⟩, ⟨⟨cq0, cq1, cq2, cq3⟩, ⟨fq0, fq1, fq2, fq3⟩, hqz⟩, ⟨cc, hlz⟩, _⟩ := F9.out
    go_wp2_with fail
    refine (C4.out _ (HE.out.below F9.out.2.2.2.2)).mono ?_
    rintro _ w8 ⟨rfl, hb8⟩
    have F10 := hid (F9.out.below hb8)
    clear F9 hb8
    go_wp2_with fail
    go_ret2
    have ES : (⟨(fmtL W.data.toList P.data.toList v).toArray⟩ : ByteArray) = ⟨#[]⟩ ++ fg ++ ⟨#[]⟩ := by
      rw [HFG.out, fmtL, if_neg (by have := HNEG.out; omega), HN.out, b0e, bcat, bcat]
      simp
    exact ⟨by rw [ES]; rfl, F10.out.2.2.2.2⟩
end Go.Proofs.YtclpgacaecfjlaaDoor
