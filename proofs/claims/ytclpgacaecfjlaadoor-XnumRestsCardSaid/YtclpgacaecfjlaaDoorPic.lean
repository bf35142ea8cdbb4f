/- xnum's pictured, at a picture without a head, a tail. -/
import Derived.Test.YtclpgacaecfjlaaDoorTxt
import Derived.Shelf.Strings.SlTrimAscii
import Derived.Outline
namespace Go.Sten
open Go Go.RowKit
/-- a block of four cells that can be written -/
def Box4 (W : World) (k : Nat) (a b c d : Value) : Prop :=
  (W.cell? ⟨k, 0, none⟩ = some a ∧ W.cell? ⟨k, 1, none⟩ = some b ∧ W.cell? ⟨k, 2, none⟩ = some c ∧ W.cell? ⟨k, 3, none⟩ = some d) ∧
  (W.frozen? ⟨k, 0, none⟩ = false ∧ W.frozen? ⟨k, 1, none⟩ = false ∧ W.frozen? ⟨k, 2, none⟩ = false ∧ W.frozen? ⟨k, 3, none⟩ = false) ∧ k < W.heap.size
section
variable {W W' : World} {k : Nat} {a b c d : Value}
theorem Box4.new (w : World) (a b c d : Value) (T : TypeId) : Box4 (w.alloc (.cells #[a, b, c, d] T)) w.heap.size a b c d := ⟨⟨by simp, by simp, by simp, by simp⟩, ⟨by simp, by simp, by simp, by simp⟩, by simp⟩
theorem Box4.below (h : Box4 W k a b c d) (g : Below W.heap.size W W') : Box4 W' k a b c d := by
  obtain ⟨⟨h0, h1, h2, h3⟩, ⟨f0, f1, f2, f3⟩, hk⟩ := h
  exact ⟨⟨(g.cell (p := ⟨k, 0, none⟩) hk).trans h0, (g.cell (p := ⟨k, 1, none⟩) hk).trans h1, (g.cell (p := ⟨k, 2, none⟩) hk).trans h2, (g.cell (p := ⟨k, 3, none⟩) hk).trans h3⟩,
    ⟨(g.frozen (p := ⟨k, 0, none⟩) hk).trans f0, (g.frozen (p := ⟨k, 1, none⟩) hk).trans f1, (g.frozen (p := ⟨k, 2, none⟩) hk).trans f2, (g.frozen (p := ⟨k, 3, none⟩) hk).trans f3⟩, Nat.lt_of_lt_of_le hk g.size⟩
theorem Box4.set0 (h : Box4 W k a b c d) (x : Value) : Box4 (W.setCell ⟨k, 0, none⟩ x) k x b c d := by
  obtain ⟨⟨h0, h1, h2, h3⟩, ⟨f0, f1, f2, f3⟩, hk⟩ := h
  refine ⟨⟨World.cell?_setCell_same _ _ _ h0, (World.cell?_setCell_other _ _ _ _ (by simp)).trans h1, (World.cell?_setCell_other _ _ _ _ (by simp)).trans h2, (World.cell?_setCell_other _ _ _ _ (by simp)).trans h3⟩, ?_, by simpa using hk⟩
  simp only [World.frozen?_setCell]
  exact ⟨f0, f1, f2, f3⟩
theorem Box4.set1 (h : Box4 W k a b c d) (x : Value) : Box4 (W.setCell ⟨k, 1, none⟩ x) k a x c d := by
  obtain ⟨⟨h0, h1, h2, h3⟩, ⟨f0, f1, f2, f3⟩, hk⟩ := h
  refine ⟨⟨(World.cell?_setCell_other _ _ _ _ (by simp)).trans h0, World.cell?_setCell_same _ _ _ h1, (World.cell?_setCell_other _ _ _ _ (by simp)).trans h2, (World.cell?_setCell_other _ _ _ _ (by simp)).trans h3⟩, ?_, by simpa using hk⟩
  simp only [World.frozen?_setCell]
  exact ⟨f0, f1, f2, f3⟩
theorem Box4.set2 (h : Box4 W k a b c d) (x : Value) : Box4 (W.setCell ⟨k, 2, none⟩ x) k a b x d := by
  obtain ⟨⟨h0, h1, h2, h3⟩, ⟨f0, f1, f2, f3⟩, hk⟩ := h
  refine ⟨⟨(World.cell?_setCell_other _ _ _ _ (by simp)).trans h0, (World.cell?_setCell_other _ _ _ _ (by simp)).trans h1, World.cell?_setCell_same _ _ _ h2, (World.cell?_setCell_other _ _ _ _ (by simp)).trans h3⟩, ?_, by simpa using hk⟩
  simp only [World.frozen?_setCell]
  exact ⟨f0, f1, f2, f3⟩
theorem Box4.set3 (h : Box4 W k a b c d) (x : Value) : Box4 (W.setCell ⟨k, 3, none⟩ x) k a b c x := by
  obtain ⟨⟨h0, h1, h2, h3⟩, ⟨f0, f1, f2, f3⟩, hk⟩ := h
  refine ⟨⟨(World.cell?_setCell_other _ _ _ _ (by simp)).trans h0, (World.cell?_setCell_other _ _ _ _ (by simp)).trans h1, (World.cell?_setCell_other _ _ _ _ (by simp)).trans h2, World.cell?_setCell_same _ _ _ h3⟩, ?_, by simpa using hk⟩
  simp only [World.frozen?_setCell]
  exact ⟨f0, f1, f2, f3⟩
/-- the four stores of a result, and what is read of it then -/
theorem Box4.put (h : Box4 W k a b c d) (x y z u : Value) : Box4 ((((W.setCell ⟨k, 0, none⟩ x).setCell ⟨k, 1, none⟩ y).setCell ⟨k, 2, none⟩ z).setCell ⟨k, 3, none⟩ u) k x y z u := (((h.set0 x).set1 y).set2 z).set3 u
end
end Go.Sten
namespace Go.Proofs.YtclpgacaecfjlaaDoor
open Go.RowKit Go.Sten Go.Lib Go.Sort Go.Shelf

/-- what a head is made of -/
def headP (r : Nat) : Bool := decide (Lib.indexByte [35, 48, 44, 46] (r % 256).toUInt8 < 0) || decide (127 < r)

set_option maxHeartbeats 400000 in
theorem headP_any (W : World) (r : Nat) (hr : r ≤ 1114111) : Calls Tryd.prog 38 (#[encR r] ++ #[]) W fun e w' => e = .returned (.bool (headP r)) ∧ Below W.heap.size W w' := by
  show Calls Tryd.prog 38 #[.int .i32 (r : Int)] W fun e w' => e = .returned (.bool (headP r)) ∧ Below W.heap.size W w'
  have C : Aside (∀ W', Calls Tryd.prog 39 #[.string ⟨#[35, 48, 44, 46]⟩, .int .u8 (IntKind.u8.wrap (r : Int))] W' fun e w' => e = .returned (.int .i64 (Lib.indexByte [35, 48, 44, 46] (r % 256).toUInt8)) ∧ W' = w') := fun W' => by
    have h := Tryd.strings_IndexByte ⟨#[35, 48, 44, 46]⟩ (IntKind.u8.wrap (r : Int)) W'
    have e : (IntKind.u8.wrap (r : Int)).toNat = r % 256 := by rw [IntKind.wrap_u8]; omega
    rw [e] at h
    exact h.mono fun _ _ h => ⟨h.1, h.2.symm⟩
  unfold headP
  obtain ⟨i, hi⟩ : ∃ i, i = Lib.indexByte [35, 48, 44, 46] (r % 256).toUInt8 := ⟨_, rfl⟩
  rw [← hi] at C ⊢
  clear hi
  by_cases h0 : i < 0
  · have e : (decide (i < 0) || decide (127 < r)) = true := by simp [h0]
    rw [e]
    have t0 : decide (i < 0) = true := by simp [h0]
    clear e h0
    go_enter Tryd.func38, Tryd.ntmps38
    go_wp2_with fail
    refine (C.out _).mono ?_
    rintro _ w1 ⟨rfl, rfl⟩
    go_wp2_with fail
    go_ret
    exact ⟨rfl, Below.refl _ _⟩
  · by_cases h1 : 127 < r
    · have e : (decide (i < 0) || decide (127 < r)) = true := by simp [h1]
      rw [e]
      have t0 : decide (i < 0) = false := by simp; omega
      have t1 : decide ((127 : Int) < (r : Int)) = true := by simp; omega
      clear e h0 h1
      go_enter Tryd.func38, Tryd.ntmps38
      go_wp2_with fail
      refine (C.out _).mono ?_
      rintro _ w1 ⟨rfl, rfl⟩
      go_wp2_with fail
      go_ret
      exact ⟨rfl, Below.refl _ _⟩
    · have e : (decide (i < 0) || decide (127 < r)) = false := by simp; omega
      rw [e]
      have t0 : decide (i < 0) = false := by simp; omega
      have t1 : decide ((127 : Int) < (r : Int)) = false := by simp; omega
      clear e h0 h1
      go_enter Tryd.func38, Tryd.ntmps38
      go_wp2_with fail
      refine (C.out _).mono ?_
      rintro _ w1 ⟨rfl, rfl⟩
      go_wp2_with fail
      go_ret
      exact ⟨rfl, Below.refl _ _⟩

/-- what a picture without a head, a tail must be: its whole part, its places -/
structure Plain (s W P : ByteArray) (N : List UInt8) : Prop where
  len : s.size ≤ 100 ∧ W.size ≤ 100 ∧ P.size ≤ 100 ∧ N.length ≤ 100
  ascii : s.data.toList.all (fun b => decide (b.toNat < 128)) = true ∧ P.data.toList.all (fun b => decide (b.toNat < 128)) = true
  head : Lib.trimLeftF headP s = s
  tail : Lib.trimLeftS s.data.toList [35, 48, 44, 46] = []
  cut : Lib.cut s.data.toList [46] = (W.data.toList, P.data.toList, true)
  plain : Lib.replaceAll W.data.toList [44] [] = N
  a1 : Lib.containsAny s.data.toList [35, 48] = true
  a2 : Lib.containsAny P.data.toList [44, 46] = false
  b1 : Lib.contains N [48, 35] = false
  b2 : Lib.contains P.data.toList [35, 48] = false
  b3 : Lib.contains W.data.toList [44, 44] = false
  c1 : Lib.hasPrefix W.data.toList [44] = false
  c2 : Lib.hasSuffix W.data.toList [44] = false
  d : Lib.countByte s.data.toList 37 = 0

theorem eta (s : ByteArray) : (⟨s.data.toList.toArray⟩ : ByteArray) = s := by
  cases s; simp

set_option maxHeartbeats 4000000 in
set_option maxRecDepth 100000 in
theorem pic_any (s W P : ByteArray) (N : List UInt8) (w : World) (H : Plain s W P N) (hE : Env w) :
    Calls Tryd.prog 29 #[.string s] w fun e w' => e = .returned (.tuple #[.agg #[.string ⟨#[]⟩, .string W, .string P, .string ⟨#[]⟩], .bool true]) ∧ Below w.heap.size w w' := by
  have ss : s.size ≤ 100 := H.len.1
  have C1 : Aside (∀ W', Calls Tryd.prog 37 #[.string s, .func (.func 38) #[] #[]] W' fun e w' => e = .returned (.string s) ∧ Below W'.heap.size W' w') := fun W' => by
    have h := Tryd.strings_TrimLeftFunc_grows 38 #[] (fun args w => by simp [callFunc, Tryd.func38, Tryd.f38]) headP s W' (fun W x hx _ => headP_any W x hx)
    rw [H.head] at h
    exact h
  have C2 : Aside (∀ W', Calls Tryd.prog 40 #[.string s, .string ⟨#[35, 48, 44, 46]⟩] W' fun e w' => e = .returned (.string ⟨#[]⟩) ∧ Below W'.heap.size W' w') := fun W' => by
    have h := Any.strings_TrimLeft_laid Tryd.lays161 (by kernel_rfl) s ⟨#[35, 48, 44, 46]⟩ W' (by decide) (ascii_of_all (by decide))
    rw [show (⟨#[35, 48, 44, 46]⟩ : ByteArray).data.toList = [35, 48, 44, 46] from rfl, H.tail] at h
    exact h
  have C3 : Aside (∀ W', Env W' → Calls Tryd.prog 41 #[.string s, .string ⟨#[46]⟩] W' fun e w' => e = .returned (.tuple #[.string W, .string P, .bool true]) ∧ ∃ n, w' = W'.drewN n) := fun W' h => by
    have h := Tryd.strings_Cut_shaped s ⟨#[46]⟩ W' h.1 (by omega)
    rw [show (⟨#[46]⟩ : ByteArray).data.toList = [46] from rfl, H.cut, eta, eta] at h
    exact h
  have C4 : Aside (∀ W', Env W' → Calls Tryd.prog 42 #[.string W, .string ⟨#[44]⟩, .string ⟨#[]⟩] W' fun e w' => e = .returned (.string ⟨N.toArray⟩) ∧ Below W'.heap.size W' w') := fun W' h => by
    have h := Tryd.strings_ReplaceAll_shaped W ⟨#[44]⟩ ⟨#[]⟩ W' h.1 (by have := H.len; omega) (by decide) (by rw [show (⟨#[]⟩ : ByteArray).size = 0 from rfl, Nat.mul_zero]; have := H.len; omega)
    rw [show (⟨#[44]⟩ : ByteArray).data.toList = [44] from rfl, show (⟨#[]⟩ : ByteArray).data.toList = [] from rfl, H.plain] at h
    exact h
  have aN : ∀ (j : Nat) (b : UInt8), ([] : List UInt8)[j]? = some b → b.toNat < 128 := fun j b h => by simp at h
  have C5 : Aside (∀ W', Calls Tryd.prog 43 #[.string ⟨#[]⟩, .string ⟨#[35, 48, 44, 46]⟩] W' fun e w' => e = .returned (.bool false) ∧ Below W'.heap.size W' w') := fun W' =>
    Tryd.strings_ContainsAny_laid ⟨#[]⟩ ⟨#[35, 48, 44, 46]⟩ W' (by decide) (by decide) (ascii_of_all (by decide)) (ascii_of_all (by decide))
  have C6 : Aside (∀ W', Calls Tryd.prog 43 #[.string s, .string ⟨#[35, 48]⟩] W' fun e w' => e = .returned (.bool true) ∧ Below W'.heap.size W' w') := fun W' => by
    have h := Tryd.strings_ContainsAny_laid s ⟨#[35, 48]⟩ W' (by omega) (by decide) (ascii_of_all H.ascii.1) (ascii_of_all (by decide))
    rw [show (⟨#[35, 48]⟩ : ByteArray).data.toList = [35, 48] from rfl, H.a1] at h
    exact h
  have C7 : Aside (∀ W', Calls Tryd.prog 43 #[.string P, .string ⟨#[44, 46]⟩] W' fun e w' => e = .returned (.bool false) ∧ Below W'.heap.size W' w') := fun W' => by
    have h := Tryd.strings_ContainsAny_laid P ⟨#[44, 46]⟩ W' (by have := H.len; omega) (by decide) (ascii_of_all H.ascii.2) (ascii_of_all (by decide))
    rw [show (⟨#[44, 46]⟩ : ByteArray).data.toList = [44, 46] from rfl, H.a2] at h
    exact h
  have D1 : Aside (∀ W', Env W' → Calls Tryd.prog 30 #[.string ⟨N.toArray⟩, .string ⟨#[48, 35]⟩] W' fun e w' => e = .returned (.bool false) ∧ W' = w') := fun W' h => by
    have h := Tryd.strings_Contains_shaped ⟨N.toArray⟩ ⟨#[48, 35]⟩ W' h.1 (by rw [arr_size]; have := H.len; omega)
    rw [arr_list, show (⟨#[48, 35]⟩ : ByteArray).data.toList = [48, 35] from rfl, H.b1] at h
    exact h.mono fun _ _ h => ⟨h.1, h.2.symm⟩
  have D2 : Aside (∀ W', Env W' → Calls Tryd.prog 30 #[.string P, .string ⟨#[35, 48]⟩] W' fun e w' => e = .returned (.bool false) ∧ W' = w') := fun W' h => by
    have h := Tryd.strings_Contains_shaped P ⟨#[35, 48]⟩ W' h.1 (by have := H.len; omega)
    rw [show (⟨#[35, 48]⟩ : ByteArray).data.toList = [35, 48] from rfl, H.b2] at h
    exact h.mono fun _ _ h => ⟨h.1, h.2.symm⟩
  have D3 : Aside (∀ W', Env W' → Calls Tryd.prog 30 #[.string W, .string ⟨#[44, 44]⟩] W' fun e w' => e = .returned (.bool false) ∧ W' = w') := fun W' h => by
    have h := Tryd.strings_Contains_shaped W ⟨#[44, 44]⟩ W' h.1 (by have := H.len; omega)
    rw [show (⟨#[44, 44]⟩ : ByteArray).data.toList = [44, 44] from rfl, H.b3] at h
    exact h.mono fun _ _ h => ⟨h.1, h.2.symm⟩
  have E1 : Aside (∀ W', Calls Tryd.prog 44 #[.string W, .string ⟨#[44]⟩] W' fun e w' => e = .returned (.bool false) ∧ W' = w') := fun W' => by
    have h := Tryd.strings_HasPrefix W ⟨#[44]⟩ W'
    rw [show (⟨#[44]⟩ : ByteArray).data.toList = [44] from rfl, H.c1] at h
    exact h.mono fun _ _ h => ⟨h.1, h.2.symm⟩
  have E2 : Aside (∀ W', Calls Tryd.prog 45 #[.string W, .string ⟨#[44]⟩] W' fun e w' => e = .returned (.bool false) ∧ W' = w') := fun W' => by
    have h := Tryd.strings_HasSuffix W ⟨#[44]⟩ W' (by have := H.len; omega)
    rw [show (⟨#[44]⟩ : ByteArray).data.toList = [44] from rfl, H.c2] at h
    exact h.mono fun _ _ h => ⟨h.1, h.2.symm⟩
  have F1 : Aside (∀ W', Calls Tryd.prog 46 #[.string s, .string ⟨#[37]⟩] W' fun e w' => e = .returned (.int .i64 0) ∧ W' = w') := fun W' => by
    have h := Tryd.strings_Count_one s 37 W'
    rw [H.d] at h
    exact h.mono fun _ _ h => ⟨h.1, h.2.symm⟩
  have x1 : s.extract 0 0 = ⟨#[]⟩ := by apply ByteArray.ext; simp
  have x2 : s.extract 0 s.size = s := by simp
  obtain ⟨nb, hnb⟩ : ∃ b : ByteArray, b = ⟨N.toArray⟩ := ⟨_, rfl⟩
  rw [← hnb] at C4 D1
  have HE := hid hE
  clear H aN hnb hE
  go_enter Tryd.func29, Tryd.ntmps29
  go_wp2_with fail
  refine (C1.out _).mono ?_
  rintro _ w1 ⟨rfl, hb1⟩
  have X1 := (Box4.new w (.string ⟨#[]⟩) (.string ⟨#[]⟩) (.string ⟨#[]⟩) (.string ⟨#[]⟩) 49).below hb1
  have B1 := hid (((Gw.refl w).alloc (.cells #[.string ⟨#[]⟩, .string ⟨#[]⟩, .string ⟨#[]⟩, .string ⟨#[]⟩] 49)).below.trans (hb1.mono (by simp)))
  have HX1 := hid X1
  obtain ⟨⟨c0, c1, c2, c3⟩, ⟨f0, f1, f2, f3⟩, hz⟩ := X1
  go_wp2_with fail
  refine (C2.out _).mono ?_
  rintro _ w2 ⟨rfl, hb2⟩
  have X := HX1.out.set0 (.string ⟨#[]⟩)
  have B2 := hid (below_then (B1.out.setCell (Nat.le_refl w.heap.size) (.string ⟨#[]⟩)) (Nat.le_of_lt X.2.2) hb2)
  have X2 := X.below hb2
  clear X HX1 hb1 hb2 c0 c1 c2 c3 f0 f1 f2 f3 hz
  have HX2 := hid X2
  obtain ⟨⟨c0, c1, c2, c3⟩, ⟨f0, f1, f2, f3⟩, hz⟩ := X2
  go_wp2_with fail
  have X3 := HX2.out.set3 (.string ⟨#[]⟩)
  have B3 := hid (B2.out.setCell (p := ⟨w.heap.size, 3, none⟩) (Nat.le_refl w.heap.size) (.string ⟨#[]⟩))
  refine (C3.out _ (HE.out.below B3.out)).mono ?_
  rintro _ w3 ⟨rfl, nd, rfl⟩
  have X4 := X3.below (Go.Sten.below_drewN (Below.refl _ _) nd)
  have B4 := Go.Sten.below_drewN B3.out nd
  generalize (w2.setCell ⟨w.heap.size, 3, none⟩ (.string ⟨#[]⟩)).drewN nd = W3 at X4 B4 ⊢
  have HB4 := hid B4
  have HX4 := hid X4
  clear X3 B3 B2 HX2 B4 c0 c1 c2 c3 f0 f1 f2 f3 hz
  obtain ⟨⟨c0, c1, c2, c3⟩, ⟨f0, f1, f2, f3⟩, hz⟩ := X4
  go_wp2_with fail
  have X5 := (HX4.out.set1 (.string W)).set2 (.string P)
  have B5 := (HB4.out.setCell (p := ⟨w.heap.size, 1, none⟩) (Nat.le_refl w.heap.size) (.string W)).setCell (p := ⟨w.heap.size, 2, none⟩) (Nat.le_refl w.heap.size) (.string P)
  refine (C4.out _ (HE.out.below B5)).mono ?_
  rintro _ w5 ⟨rfl, hb5⟩
  have B6 := hid (below_then B5 (Nat.le_of_lt X5.2.2) hb5)
  have X6 := X5.below hb5
  clear X5 B5 HB4 HX4 hb5 c0 c1 c2 c3 f0 f1 f2 f3 hz
  have HX6 := hid X6
  obtain ⟨⟨c0, c1, c2, c3⟩, ⟨f0, f1, f2, f3⟩, hz⟩ := X6
  go_wp2_with fail
  refine (C5.out _).mono ?_
  rintro _ w6 ⟨rfl, hb⟩
  have B7 := hid (below_then B6.out (Nat.le_of_lt HX6.out.2.2) hb)
  have X7 := HX6.out.below hb
  clear B6 HX6 hb c0 c1 c2 c3 f0 f1 f2 f3 hz
  have HX7 := hid X7
  obtain ⟨⟨c0, c1, c2, c3⟩, ⟨f0, f1, f2, f3⟩, hz⟩ := X7
  go_wp2_with fail
  refine (C6.out _).mono ?_
  rintro _ w7 ⟨rfl, hb⟩
  have B8 := hid (below_then B7.out (Nat.le_of_lt HX7.out.2.2) hb)
  have X8 := HX7.out.below hb
  clear B7 HX7 hb c0 c1 c2 c3 f0 f1 f2 f3 hz
  have HX8 := hid X8
  obtain ⟨⟨c0, c1, c2, c3⟩, ⟨f0, f1, f2, f3⟩, hz⟩ := X8
  go_wp2_with fail
  refine (C7.out _).mono ?_
  rintro _ w8 ⟨rfl, hb⟩
  have B9 := hid (below_then B8.out (Nat.le_of_lt HX8.out.2.2) hb)
  have X9 := HX8.out.below hb
  clear B8 HX8 hb c0 c1 c2 c3 f0 f1 f2 f3 hz
  have HX9 := hid X9
  obtain ⟨⟨c0, c1, c2, c3⟩, ⟨f0, f1, f2, f3⟩, hz⟩ := X9
  go_wp2_with fail
  refine (D1.out _ (HE.out.below B9.out)).mono ?_
  rintro _ w29 ⟨rfl, rfl⟩
  go_wp2_with fail
  refine (D2.out _ (HE.out.below B9.out)).mono ?_
  rintro _ w29 ⟨rfl, rfl⟩
  go_wp2_with fail
  refine (D3.out _ (HE.out.below B9.out)).mono ?_
  rintro _ w29 ⟨rfl, rfl⟩
  go_wp2_with fail
  refine (E1.out _).mono ?_
  rintro _ w39 ⟨rfl, rfl⟩
  go_wp2_with fail
  refine (E2.out _).mono ?_
  rintro _ w39 ⟨rfl, rfl⟩
  go_wp2_with fail
  go_region_with (with_reducible refine (F1.out _).mono ?_; rintro _ w40 ⟨rfl, rfl⟩)
  all_goals (try go_wp2_with fail)
  all_goals have q0 := (HX9.out.set0 (.string ⟨#[]⟩)).1.1
  all_goals have q1 := ((HX9.out.set0 (.string ⟨#[]⟩)).set1 (.string W)).1.2.1
  all_goals have q2 := (((HX9.out.set0 (.string ⟨#[]⟩)).set1 (.string W)).set2 (.string P)).1.2.2.1
  all_goals have q3 := ((((HX9.out.set0 (.string ⟨#[]⟩)).set1 (.string W)).set2 (.string P)).set3 (.string ⟨#[]⟩)).1.2.2.2
  all_goals refine bodyPost_ret (v := .tuple #[.agg #[.string ⟨#[]⟩, .string W, .string P, .string ⟨#[]⟩], .bool true]) (by simp [results, Tryd.results29, go_sem, q0, q1, q2, q3]) rfl ?_
  all_goals exact ⟨rfl, ((((B9.out.setCell (p := ⟨w.heap.size, 0, none⟩) (Nat.le_refl w.heap.size) _).setCell (p := ⟨w.heap.size, 1, none⟩) (Nat.le_refl w.heap.size) _).setCell (p := ⟨w.heap.size, 2, none⟩) (Nat.le_refl w.heap.size) _).setCell (p := ⟨w.heap.size, 3, none⟩) (Nat.le_refl w.heap.size) _).drew⟩
end Go.Proofs.YtclpgacaecfjlaaDoor
