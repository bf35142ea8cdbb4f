/- stencillaw13.XsortTurns: the plain law and the walk. -/
import Derived.Test.YtkigjcdjiheneaaDoorBld
import Derived.Test.YtkigjcdjiheneaaDoorFmt
namespace Go.Proofs.YtkigjcdjiheneaaDoor
open Go.RowKit Go.Sten Go.Lib Go.Shelf

def kdT (ss : List ByteArray) (j : Nat) : KeyD := ⟨false, false, ss.getD j ByteArray.empty, 0, 0⟩

/-- two lists in order, a turn of each other, are one -/
theorem sorted_eq {β : Type} (R : β → β → Prop) (anti : ∀ a b, R a b → R b a → a = b) : ∀ (l k : List β), l.Perm k → l.Pairwise R → k.Pairwise R → l = k
  | [], k, h, _, _ => (List.nil_perm.1 h).symm
  | a :: l, [], h, _, _ => by have := h.length_eq; simp at this
  | a :: l, b :: k, h, h1, h2 => by
    have ha : a ∈ b :: k := h.subset (by simp)
    have hb : b ∈ a :: l := h.symm.subset (by simp)
    have e : a = b := by
      rcases List.mem_cons.1 ha with e | ha'
      · exact e
      · rcases List.mem_cons.1 hb with e | hb'
        · exact e.symm
        · exact anti a b ((List.pairwise_cons.1 h1).1 b hb') ((List.pairwise_cons.1 h2).1 a ha')
    subst e
    rw [sorted_eq R anti l k ((List.perm_cons a).1 h) (List.pairwise_cons.1 h1).2 (List.pairwise_cons.1 h2).2]

theorem perm_turned (m : Nat) : ((List.range m).map (fun j => m - 1 - j)).Perm (List.range m) := by
  have e : (List.range m).map (fun j => m - 1 - j) = (List.range m).reverse := by
    apply List.ext_getElem
    · simp
    · intro i h1 h2; simp
  rw [e]
  exact List.reverse_perm _

/-- the texts in their order -/
theorem texts_law (f : Nat → ByteArray) (m : Nat) (rs : List (List KeyD)) (hrs : rs = ((List.range m).map (fun j => (⟨false, false, f j, 0, 0⟩ : KeyD))).map (fun k => [k])) (p q : Nat) (hpq : p < q) (hq : q < m) :
    (Op.bytesLess (f ((ordR rs m).getD p 0)).toList (f ((ordR rs m).getD q 0)).toList || (f ((ordR rs m).getD p 0)).toList == (f ((ordR rs m).getD q 0)).toList) = true := by
  have h := ordR_sorted rs m p q hpq hq
  have ha := ordR_lt rs m p (by omega)
  have hb := ordR_lt rs m q hq
  generalize (ordR rs m).getD p 0 = a at h ha ⊢
  generalize (ordR rs m).getD q 0 = b at h hb ⊢
  have get : ∀ i, i < m → rs.getD i [] = [(⟨false, false, f i, 0, 0⟩ : KeyD)] := fun i hi => by rw [hrs]; simp [List.getD, hi]
  rw [get a ha, get b hb, get 0 (by omega)] at h
  have e : rowCmp [(⟨false, false, f a, 0, 0⟩ : KeyD)] [(⟨false, false, f b, 0, 0⟩ : KeyD)] 0 [(⟨false, false, f 0, 0, 0⟩ : KeyD)] = cmpS (f a) (f b) := by
    simp only [rowCmp]
    have e2 : keyCmp (⟨false, false, f 0, 0, 0⟩ : KeyD) ([(⟨false, false, f a, 0, 0⟩ : KeyD)].getD 0 KeyD.zero) ([(⟨false, false, f b, 0, 0⟩ : KeyD)].getD 0 KeyD.zero) = cmpS (f a) (f b) := by simp [keyCmp]
    rw [e2]
    split <;> omega
  rw [e] at h
  generalize f a = x at h ⊢
  generalize f b = y at h ⊢
  unfold cmpS at h
  cases h1 : Op.bytesLess x.toList y.toList with
  | true => rfl
  | false =>
    cases h2 : (x.toList == y.toList) with
    | true => rfl
    | false => rw [h1, h2] at h; simp at h

def leT (a b : List UInt8) : Prop := (Op.bytesLess a b || a == b) = true
theorem leT_anti (a b : List UInt8) (h : leT a b) (k : leT b a) : a = b := by
  unfold leT at h k
  simp only [Bool.or_eq_true, beq_iff_eq] at h k
  rcases h with h | h
  · rcases k with k | k
    · have := bl_trans a b a h k
      rw [bl_irrefl] at this; cases this
    · exact k.symm
  · exact h

theorem texts_sorted (f : Nat → ByteArray) (m : Nat) (rs : List (List KeyD)) (hrs : rs = ((List.range m).map (fun j => (⟨false, false, f j, 0, 0⟩ : KeyD))).map (fun k => [k])) :
    ((ordR rs m).map (fun j => (f j).toList)).Pairwise leT := by
  rw [List.pairwise_iff_getElem]
  intro i j hi hj hij
  simp only [List.length_map, ordR_len] at hi hj
  have h := texts_law f m rs hrs i j hij hj
  have hl := ordR_len rs m
  have e : ∀ k (hk : k < (ordR rs m).length), (ordR rs m).getD k 0 = (ordR rs m)[k] := fun k hk => by simp [List.getD, hk]
  rw [e i (by omega), e j (by omega)] at h
  simpa [leT] using h

/-- THE SAME TEXTS AT THE SAME PLACES -/
theorem turns_law (f : Nat → ByteArray) (m : Nat) (ra rb : List (List KeyD)) (ha : ra = ((List.range m).map (fun j => (⟨false, false, f j, 0, 0⟩ : KeyD))).map (fun k => [k]))
    (hb : rb = ((List.range m).map (fun j => (⟨false, false, f (m - 1 - j), 0, 0⟩ : KeyD))).map (fun k => [k])) (i : Nat) (hi : i < m) :
    (f ((ordR ra m).getD i 0)).toList = (f (m - 1 - (ordR rb m).getD i 0)).toList := by
  have h1 := texts_sorted f m ra ha
  have h2 := texts_sorted (fun j => f (m - 1 - j)) m rb hb
  have p1 := (ordR_perm ra m).map (fun j => (f j).toList)
  have p2 := (ordR_perm rb m).map (fun j => (f (m - 1 - j)).toList)
  have p3 := (perm_turned m).map (fun j => (f j).toList)
  rw [List.map_map] at p3
  have e := sorted_eq leT leT_anti _ _ (p1.trans (p2.trans p3).symm) h1 h2
  have e2 := congrArg (fun l => l[i]?) e
  simp only [List.getElem?_map] at e2
  have la : i < (ordR ra m).length := by rw [ordR_len]; exact hi
  have lb : i < (ordR rb m).length := by rw [ordR_len]; exact hi
  simp only [List.getElem?_eq_getElem la, List.getElem?_eq_getElem lb, Option.map_some, Option.some.injEq] at e2
  simpa [List.getD, la, lb] using e2

/-- two rows in two blocks -/
def Dj (u v : Value) : Prop := u.ownBlock = none ∨ v.ownBlock = none ∨ u.ownBlock ≠ v.ownBlock
theorem Dj.symm {u v : Value} (h : Dj u v) : Dj v u := by
  rcases h with h | h | h
  · exact Or.inr (Or.inl h)
  · exact Or.inl h
  · exact Or.inr (Or.inr (Ne.symm h))
theorem Dj.kept {u v : Value} (h : Dj u v) : v.ownBlock = none ∨ v.ownBlock ≠ u.ownBlock := by
  rcases h with h | h | h
  · cases hv : v.ownBlock with
    | none => exact Or.inl rfl
    | some k => right; rw [h]; simp
  · exact Or.inl h
  · exact Or.inr (Ne.symm h)
theorem Dj.step {B K : Nat} {w : World} {u u' v : Value} {G : List Nat} {ks : List KeyD} (h : Dj u v) (hv : Built B w v G ks) (hW : w.heap.size ≤ K) (hat : u'.ownBlock = u.ownBlock ∨ u'.ownBlock = some K) : Dj u' v := by
  rcases hat with e | e
  · unfold Dj; rw [e]; exact h
  · right
    rcases hv.1.2 with ⟨e2, _⟩ | ⟨g, cap, cur, e2, _, hb, _⟩
    · left; rw [e2]; rfl
    · right
      have := lt_of_heap hb
      rw [e, e2]
      simp only [Value.ownBlock, ne_eq, Option.some.injEq]
      omega

def keysA (f : Nat → ByteArray) (m : Nat) : List KeyD := (List.range m).map (fun j => (⟨false, false, f j, 0, 0⟩ : KeyD))
def keysB (f : Nat → ByteArray) (n m : Nat) : List KeyD := (List.range m).map (fun j => (⟨false, false, f (n - 1 - j), 0, 0⟩ : KeyD))

set_option maxHeartbeats 4000000 in
set_option maxRecDepth 100000 in
theorem turns_pos (b off len cap n : Nat) (f : Nat → ByteArray) (w : World) (hn : n = min len 30) (hn0 : 0 < n) (hb : b < w.heap.size)
    (hc : ∀ j, j < len → w.cell? ⟨b, off + j, none⟩ = some (.string (f j))) :
    Calls Tryd.prog 6 #[.slice (some ⟨b, off, none⟩) len cap] w fun e w' => e = .returned (.bool true) ∧ Below w.heap.size w w' := by
  obtain ⟨i0, hi, hz0, hz1, hz2⟩ := info_parts (show (Tryd.prog.info? 35).map (fun i => (i.zero, i.size, i.bytes)) = some (some (.slice none 0 0), 1, 24) by kernel_rfl)
  have hu : Tryd.prog.underlying 25 = some (.slice 35) := by kernel_rfl
  obtain ⟨B, hB⟩ : ∃ B, B = w.heap.size := ⟨_, rfl⟩
  have HB : Hid (B = w.heap.size) := hB
  have HC : Aside (∀ j, j < len → w.cell? ⟨b, off + j, none⟩ = some (.string (f j))) := hc
  have hnl : n ≤ len := by omega
  have hn30 : n ≤ 30 := by omega
  have hcase : (30 < (len : Int) ∧ Hid (n = 30)) ∨ (¬ 30 < (len : Int) ∧ Hid (n = len)) := by
    by_cases h : 30 < len
    · exact Or.inl ⟨by omega, (show n = 30 by omega)⟩
    · exact Or.inr ⟨by omega, (show n = len by omega)⟩
  rw [← hB] at hb ⊢
  clear hB hc hn
  go_enter Tryd.func6, Tryd.ntmps6
  go_upto_if 13 with (fail)
  go_cut [5] from 10 (fun s5 wx => s5 = .int .i64 n ∧ wx = w)
  case first =>
    rcases hcase with ⟨h, hh⟩ | ⟨h, hh⟩
    · go_wp2_with fail
      go_meet
      exact ⟨by rw [hh.out]; rfl, rfl⟩
    · go_wp2_with fail
      go_meet
      exact ⟨by rw [hh.out], rfl⟩
  case rest =>
    obtain ⟨rfl, rfl⟩ := hcut
    clear hcase
    go_wp2_with fail
    go_loopg [6, 3, 4] n (fun kx s6 s3 s4 wr => ∃ (i : Nat) (va vb : Value) (Ga Gb : List Nat), s6 = .int .i64 i ∧ va = s3 ∧ vb = s4 ∧ i ≤ n ∧ n - i ≤ kx ∧ Aside (Built B wr va Ga (keysA f i)) ∧ Aside (Built B wr vb Gb (keysB f n i)) ∧ Hid (Dj va vb) ∧ Aside (Below B wc wr))
    case atStart => exact ⟨0, _, _, [], [], rfl, rfl, rfl, by omega, by omega, Built.nil _ _, Built.nil _ _, Or.inl rfl, Below.refl _ _⟩
    case round =>
      obtain ⟨i, va, vb, Ga, Gb, rfl, rfl, rfl, hin, hkx, hba, hbb, hdj, hbel⟩ := hrel
      by_cases hlt : i < n
      · have hltz : (i : Int) < (n : Int) := by omega
        obtain ⟨i2, hi2⟩ : ∃ i2, i2 = n - 1 - i := ⟨_, rfl⟩
        have z1 : (n : Int) - 1 - (i : Int) = (i2 : Int) := by omega
        have z2 : (i : Int) < (len : Int) := by omega
        have z3 : (i2 : Int) < (len : Int) := by omega
        obtain ⟨s, hs⟩ : ∃ s, s = f i := ⟨_, rfl⟩
        obtain ⟨t, ht⟩ : ∃ t, t = f i2 := ⟨_, rfl⟩
        have hcell : wr.cell? ⟨b, off + i, none⟩ = some (.string s) := by rw [hs]; exact (hbel.out.cell hb).trans (HC.out i (by omega))
        have hcell2 : wr.cell? ⟨b, off + i2, none⟩ = some (.string t) := by rw [ht]; exact (hbel.out.cell hb).trans (HC.out i2 (by omega))
        have hka : Hid (keysA f (i + 1) = keysA f i ++ [⟨false, false, s, 0, 0⟩]) := by rw [hs]; show _ = _; unfold keysA; rw [List.range_succ, List.map_append]; rfl
        have hkb : Hid (keysB f n (i + 1) = keysB f n i ++ [⟨false, false, t, 0, 0⟩]) := by rw [ht, hi2]; show _ = _; unfold keysB; rw [List.range_succ, List.map_append]; rfl
        have la : (keysA f i).length = i := by simp [keysA]
        have lb : (keysB f n i).length = i := by simp [keysB]
        have owna : wr.ownsRow B 35 1 va i (Ga.map rowV) := by have := hba.out.1; rw [la] at this; exact this
        have hsz : B ≤ wr.heap.size := by have := hbel.out.size; have := HB.out; omega
        have hbr : b < wr.heap.size := by omega
        have HI2 : Hid (i2 = n - 1 - i) := hi2
        clear hs ht hi2
        go_wp2_with (first
          | (at_builtin; refine wpList_append_own_at _ rfl _ _ 25 rfl B 35 i0 (.slice none 0 0) 1 24 hu hi hz0 hz1 hz2 rfl (by decide) _ _ _ rfl ((owna.alloc _).alloc _) ⟨wr.heap.size + 1, 0, none⟩ 1 1 [rowV wr.heap.size] rfl rfl ?c1 ?c2 ?c3 ?c4 ?c5 ?_))
        case c1 =>
          intro j u hj
          match j, hj with
          | 0, hj => simp at hj; subst hj; simp [Addr.add, rowV]
        case c2 => intro u hu; simp at hu; subst hu; rfl
        case c3 => unfold maxLen; omega
        case c4 => omega
        case c5 => simp; omega
        intro va' w1 hown' hgrow _ hat
        have A1 : Aside (Built B w1 va' (Ga ++ [wr.heap.size]) (keysA f (i + 1))) := by
          rw [hka.out]
          exact Built.grow (k := ⟨false, false, s, 0, 0⟩) hba.out (by rw [la]; simpa using hown') hgrow hsz
        have Bk : Aside (Built B w1 vb Gb (keysB f n i)) := Built.kept ((hbb.out.alloc _).alloc _) ((hba.out.alloc _).alloc _) hgrow hdj.out.kept
        have L1 : Aside (Below B wc w1) := by
          refine ((hbel.out.alloc hsz _).alloc (by simp; omega) _).grown hgrow (by simp; omega) ?_
          intro k hk
          rcases owna.2 with ⟨e, _⟩ | ⟨g, cap, cur, e, hg, _⟩
          · rw [e] at hk; simp [Value.ownBlock] at hk
          · rw [e] at hk; simp [Value.ownBlock] at hk; omega
        have D1 : Hid (Dj va' vb) := by
          refine hdj.out.step hbb.out ?_ hat
          omega
        have hcell3 : w1.cell? ⟨b, off + i2, none⟩ = some (.string t) := by
          rw [L1.out.cell (by exact hb), ← hbel.out.cell (by exact hb)]; exact hcell2
        have hsz1 : B ≤ w1.heap.size := by have := L1.out.size; have := HB.out; omega
        have ownb : w1.ownsRow B 35 1 vb i (Gb.map rowV) := by have := Bk.out.1; rw [lb] at this; exact this
        clear hown' hgrow owna hbel hba hbb hdj hcell hcell2 hka hat
        go_wp2_with (first
          | (at_builtin; refine wpList_append_own_at _ rfl _ _ 25 rfl B 35 i0 (.slice none 0 0) 1 24 hu hi hz0 hz1 hz2 rfl (by decide) _ _ _ rfl ((ownb.alloc _).alloc _) ⟨w1.heap.size + 1, 0, none⟩ 1 1 [rowV w1.heap.size] rfl rfl ?d1 ?d2 ?d3 ?d4 ?d5 ?_))
        case d1 =>
          intro j u hj
          match j, hj with
          | 0, hj => simp at hj; subst hj; simp [Addr.add, rowV]
        case d2 => intro u hu; simp at hu; subst hu; rfl
        case d3 => unfold maxLen; omega
        case d4 => omega
        case d5 => simp; omega
        intro vb' w2 hown' hgrow _ hat
        have B2 : Aside (Built B w2 vb' (Gb ++ [w1.heap.size]) (keysB f n (i + 1))) := by
          rw [hkb.out]
          exact Built.grow (k := ⟨false, false, t, 0, 0⟩) Bk.out (by rw [lb]; simpa using hown') hgrow hsz1
        have A2 : Aside (Built B w2 va' (Ga ++ [wr.heap.size]) (keysA f (i + 1))) := Built.kept ((A1.out.alloc _).alloc _) ((Bk.out.alloc _).alloc _) hgrow D1.out.symm.kept
        have L2 : Aside (Below B wc w2) := by
          refine ((L1.out.alloc hsz1 _).alloc (by simp; omega) _).grown hgrow (by simp; omega) ?_
          intro k hk
          rcases ownb.2 with ⟨e, _⟩ | ⟨g, cap, cur, e, hg, _⟩
          · rw [e] at hk; simp [Value.ownBlock] at hk
          · rw [e] at hk; simp [Value.ownBlock] at hk; omega
        have D2 : Hid (Dj va' vb') := by
          refine (D1.out.symm.step A1.out ?_ hat).symm
          omega
        clear hown' hgrow ownb A1 Bk L1 D1 hkb hat hcell3
        go_wp2_with fail
        go_roundg (n - (i + 1))
        case measure => omega
        case rel => exact ⟨i + 1, _, _, _, _, by go_num, rfl, rfl, by omega, by omega, A2, B2, D2, L2⟩
      · have e : i = n := by omega
        have hltz : ¬ (i : Int) < (n : Int) := by omega
        have hbua : Built B wr va Ga (keysA f n) := by rw [← e]; exact hba.out
        have hbub : Built B wr vb Gb (keysB f n n) := by have h := hbb.out; rw [show keysB f n i = keysB f n n by rw [e]] at h; exact h
        clear e hba hbb hdj
        have la : (keysA f n).length = n := by simp [keysA]
        have lb : (keysB f n n).length = n := by simp [keysB]
        obtain ⟨ra, ca, hva, hrab, hRa, haa, hta⟩ := hbua.rows (by omega)
        obtain ⟨rb, cb, hvb, hrbb, hRb, hab, htb⟩ := hbub.rows (by omega)
        rw [la] at hva haa hta
        rw [lb] at hvb hab htb
        subst hva
        subst hvb
        have hoa := hid (order_at ra ca n _ wr (by simp [la]) hn0 (by omega) (by simp) hRa)
        have hra := hRa.1
        have hrb := hRb.1
        clear hbua hbub
        go_wp2_with fail
        refine hoa.out.mono ?_
        rintro _ w2 ⟨gx, cx, rfl, hgx, hb2, hox⟩
        have hRb2 : RowsAt w2 rb ((keysB f n n).map fun k => [k]) := by
          refine ⟨Nat.lt_of_lt_of_le hrb hb2.size, fun i ks hi => ?_⟩
          obtain ⟨A, c, h1, h2⟩ := hRb.2 i ks hi
          exact ⟨A, c, (hb2.cell (by exact hrb)).trans h1, h2.via (fun p hp => hb2.cell hp) hb2.size⟩
        have hob := hid (order_at rb cb n _ w2 (by simp [lb]) hn0 (by omega) (by simp) hRb2)
        have hgx2 : gx < w2.heap.size := World.block_lt_of_cell? _ _ (hox 0 hn0)
        go_wp2_with fail
        refine hob.out.mono ?_
        rintro _ w3 ⟨gy, cy, rfl, hgy, hb3, hoy⟩
        have hb23 : Below wr.heap.size wr w3 := hb2.trans (hb3.mono hb2.size)
        have HB3 : Aside (Below B wc w3) := hbel.out.trans (hb23.mono (by have := hbel.out.size; have := HB.out; omega))
        obtain ⟨OX, hOX⟩ : ∃ OX, OX = ordR ((keysA f n).map fun k => [k]) n := ⟨_, rfl⟩
        obtain ⟨OY, hOY⟩ : ∃ OY, OY = ordR ((keysB f n n).map fun k => [k]) n := ⟨_, rfl⟩
        rw [← hOX] at hox
        rw [← hOY] at hoy
        have F1 : Aside (∀ j, j < n → OX.getD j 0 < n ∧ OY.getD j 0 < n) := fun j hj => ⟨by rw [hOX]; exact ordR_lt _ n j hj, by rw [hOY]; exact ordR_lt _ n j hj⟩
        have F2 : Aside (gx < w3.heap.size ∧ gy < w3.heap.size ∧ ra < w3.heap.size ∧ rb < w3.heap.size) := ⟨Nat.lt_of_lt_of_le hgx2 hb3.size, World.block_lt_of_cell? _ _ (hoy 0 hn0), Nat.lt_of_lt_of_le hra hb23.size, Nat.lt_of_lt_of_le hrb hb23.size⟩
        have F3 : Aside (∀ j, j < n → w3.cell? ⟨gx, j, none⟩ = some (.int .i64 ((OX.getD j 0 : Nat) : Int)) ∧ w3.cell? ⟨gy, j, none⟩ = some (.int .i64 ((OY.getD j 0 : Nat) : Int))) := fun j hj => ⟨(hb3.cell (by exact hgx2)).trans (hox j hj), hoy j hj⟩
        have F4 : Aside (∀ j, j < n → w3.cell? ⟨ra, j, none⟩ = some (.slice (some ⟨Ga.getD j 0, 0, none⟩) 1 1) ∧ w3.cell? ⟨rb, j, none⟩ = some (.slice (some ⟨Gb.getD j 0, 0, none⟩) 1 1)) := fun j hj => ⟨(hb23.cell (by exact hra)).trans (haa j hj), (hb23.cell (by exact hrb)).trans (hab j hj)⟩
        have F5 : Aside (∀ j, j < n → (w3.cell? ⟨Ga.getD j 0, 2, none⟩ = some (.string (f j)) ∧ Ga.getD j 0 < w3.heap.size) ∧ (w3.cell? ⟨Gb.getD j 0, 2, none⟩ = some (.string (f (n - 1 - j))) ∧ Gb.getD j 0 < w3.heap.size)) := fun j hj => by
          refine ⟨⟨(hb23.cell (by exact (hta j hj).1)).trans ?_, Nat.lt_of_lt_of_le (hta j hj).1 hb23.size⟩, ⟨(hb23.cell (by exact (htb j hj).1)).trans ?_, Nat.lt_of_lt_of_le (htb j hj).1 hb23.size⟩⟩
          · rw [(hta j hj).2]; simp [List.getD, hj, keysA]
          · rw [(htb j hj).2]; simp [List.getD, hj, keysB]
        have F6 : Aside (∀ j, j < n → (f (OX.getD j 0)).toList = (f (n - 1 - OY.getD j 0)).toList) := fun j hj => by rw [hOX, hOY]; exact turns_law f n _ _ rfl rfl j hj
        have F7 : Aside (∀ j, j + 1 < n → (Op.bytesLess (f (OX.getD j 0)).toList (f (OX.getD (j + 1) 0)).toList || (f (OX.getD j 0)).toList == (f (OX.getD (j + 1) 0)).toList) = true) := fun j hj => by rw [hOX]; exact texts_law f n _ rfl j (j + 1) (by omega) hj
        clear hox hoy hb2 hb3 hb23 hoa hob haa hab hta htb hRa hRb hRb2 hOX hOY hbel hra hrb hgx hgx2 hgy hrab hrbb la lb
        go_wp2_with fail
        go_loopg [9] n (fun kx s9 wx => ∃ (i : Nat), s9 = .int .i64 i ∧ i ≤ n ∧ n - i ≤ kx ∧ Aside (Gw w3 wx))
        case atStart => exact ⟨0, rfl, by omega, by omega, Gw.refl _⟩
        case round =>
          obtain ⟨j, rfl, hjm, hkx, hgw⟩ := hrel
          by_cases hjlt : j < n
          · have hjltz : (j : Int) < (n : Int) := by omega
            obtain ⟨p, hp⟩ : ∃ p, p = OX.getD j 0 := ⟨_, rfl⟩
            obtain ⟨q, hq⟩ : ∃ q, q = OY.getD j 0 := ⟨_, rfl⟩
            have hpm : p < n := by rw [hp]; exact (F1.out j hjlt).1
            have hqm : q < n := by rw [hq]; exact (F1.out j hjlt).2
            have c1 : wr.cell? ⟨gx, j, none⟩ = some (.int .i64 p) := by rw [hp]; exact (hgw.out.cell (by exact F2.out.1)).trans (F3.out j hjlt).1
            have c2 : wr.cell? ⟨gy, j, none⟩ = some (.int .i64 q) := by rw [hq]; exact (hgw.out.cell (by exact F2.out.2.1)).trans (F3.out j hjlt).2
            obtain ⟨gp, hgp⟩ : ∃ gp, gp = Ga.getD p 0 := ⟨_, rfl⟩
            obtain ⟨gq, hgq⟩ : ∃ gq, gq = Gb.getD q 0 := ⟨_, rfl⟩
            obtain ⟨sp, hsp⟩ : ∃ sp, sp = f p := ⟨_, rfl⟩
            obtain ⟨sq, hsq⟩ : ∃ sq, sq = f (n - 1 - q) := ⟨_, rfl⟩
            have c3 : wr.cell? ⟨ra, p, none⟩ = some (.slice (some ⟨gp, 0, none⟩) 1 1) := by rw [hgp]; exact (hgw.out.cell (by exact F2.out.2.2.1)).trans (F4.out p hpm).1
            have c4 : wr.cell? ⟨rb, q, none⟩ = some (.slice (some ⟨gq, 0, none⟩) 1 1) := by rw [hgq]; exact (hgw.out.cell (by exact F2.out.2.2.2)).trans (F4.out q hqm).2
            have c5 : wr.cell? ⟨gp, 2, none⟩ = some (.string sp) := by rw [hgp, hsp]; exact (hgw.out.cell (by exact (F5.out p hpm).1.2)).trans (F5.out p hpm).1.1
            have c6 : wr.cell? ⟨gq, 2, none⟩ = some (.string sq) := by rw [hgq, hsq]; exact (hgw.out.cell (by exact (F5.out q hqm).2.2)).trans (F5.out q hqm).2.1
            have heqT : (sp.toList == sq.toList) = true := by rw [hsp, hsq, hp, hq]; simpa using F6.out j hjlt
            have b1 : (0 : Int) ≤ (j : Int) := by omega
            have b3 : (0 : Int) ≤ (p : Int) := by omega
            have b4 : (p : Int) < (n : Int) := by omega
            have b5 : (0 : Int) ≤ (q : Int) := by omega
            have b6 : (q : Int) < (n : Int) := by omega
            have b12 : ((j : Int)).toNat = j := by omega
            have b13 : ((p : Int)).toNat = p := by omega
            have b14 : ((q : Int)).toNat = q := by omega
            by_cases hj0 : j = 0
            · have g1 : ¬ ((0 : Int) < (j : Int)) := by omega
              have g2 : decide ((0 : Int) < (j : Int)) = false := by simpa using g1
              have g3 : ¬ (0 < j) := by omega
              have g4 : decide (0 < j) = false := by simpa using g3
              clear hp hq hgp hgq hsp hsq hj0
              go_wp2_with fail
              go_quiet (fail)
              go_wp2_with fail
              go_roundg (n - (j + 1))
              case measure => omega
              case rel => exact ⟨j + 1, by go_num, by omega, by omega, hgw.out.drewN _⟩
            · obtain ⟨j0, hj0e⟩ : ∃ j0, j = j0 + 1 := ⟨j - 1, by omega⟩
              obtain ⟨r, hr⟩ : ∃ r, r = OX.getD j0 0 := ⟨_, rfl⟩
              have hrm : r < n := by rw [hr]; exact (F1.out j0 (by omega)).1
              obtain ⟨gr, hgr⟩ : ∃ gr, gr = Ga.getD r 0 := ⟨_, rfl⟩
              obtain ⟨sr, hsr⟩ : ∃ sr, sr = f r := ⟨_, rfl⟩
              have d1 : wr.cell? ⟨gx, j0, none⟩ = some (.int .i64 r) := by rw [hr]; exact (hgw.out.cell (by exact F2.out.1)).trans (F3.out j0 (by omega)).1
              have d2 : wr.cell? ⟨ra, r, none⟩ = some (.slice (some ⟨gr, 0, none⟩) 1 1) := by rw [hgr]; exact (hgw.out.cell (by exact F2.out.2.2.1)).trans (F4.out r hrm).1
              have d3 : wr.cell? ⟨gr, 2, none⟩ = some (.string sr) := by rw [hgr, hsr]; exact (hgw.out.cell (by exact (F5.out r hrm).1.2)).trans (F5.out r hrm).1.1
              have hle : (Op.bytesLess sr.toList sp.toList || sr.toList == sp.toList) = true := by rw [hsr, hsp, hr, hp, hj0e]; exact F7.out j0 (by omega)
              have g1 : (0 : Int) < (j : Int) := by omega
              have g2 : decide ((0 : Int) < (j : Int)) = true := by simpa using g1
              have g3 : 0 < j := by omega
              have g4 : decide (0 < j) = true := by simpa using g3
              have e1 : IntKind.i64.wrap ((j : Int) - 1) = (j0 : Int) := by rw [IntKind.wrap_i64]; omega
              have e2 : (0 : Int) ≤ (j0 : Int) := by omega
              have e3 : (j0 : Int) < (n : Int) := by omega
              have e4 : ((j0 : Int)).toNat = j0 := by omega
              have e5 : (0 : Int) ≤ (r : Int) := by omega
              have e6 : (r : Int) < (n : Int) := by omega
              have e7 : ((r : Int)).toNat = r := by omega
              clear hp hq hgp hgq hsp hsq hr hgr hsr hj0 hj0e
              go_wp2_with fail
              go_quiet (fail)
              go_wp2_with fail
              go_roundg (n - (j + 1))
              case measure => omega
              case rel => exact ⟨j + 1, by go_num, by omega, by omega, hgw.out.drewN _⟩
          · have hjlt2 : ¬ ((j : Int) < (n : Int)) := by omega
            have LV := hid (live_any wr)
            go_wp2_with fail
            refine LV.out.mono ?_
            rintro _ w4 ⟨rfl, h4⟩
            go_wp2_with fail
            go_ret
            exact ⟨rfl, HB3.out.trans (hgw.out.below.mono (by have := HB3.out.size; have := HB.out; omega) |>.trans (h4.mono (by have := HB3.out.size; have := hgw.out.size; have := HB.out; omega)))⟩

set_option maxHeartbeats 400000 in
theorem turns_zero (A : Option Addr) (cap : Nat) (w : World) : Calls Tryd.prog 6 #[.slice A 0 cap] w fun e w' => e = .returned (.bool true) ∧ Below w.heap.size w w' := by
  go_enter Tryd.func6, Tryd.ntmps6
  go_wp2_with fail
  refine wp_loop_rounds 1 ?_
  rw [rounds_succ]
  go_wp2_with fail
  refine (order_nil _).mono ?_
  rintro _ w2 ⟨rfl, hb⟩
  go_wp2_with fail
  refine (order_nil _).mono ?_
  rintro _ w3 ⟨rfl, hb3⟩
  go_wp2_with fail
  refine wp_loop_rounds 1 ?_
  rw [rounds_succ]
  go_wp2_with fail
  refine (live_any w3).mono ?_
  rintro _ w4 ⟨rfl, h4⟩
  go_wp2_with fail
  go_ret
  exact ⟨rfl, below_both (below_both hb hb3) h4⟩

theorem turns_any (b off len cap : Nat) (ss : List ByteArray) (w : World) (hb : b < w.heap.size)
    (hc : ∀ j, j < len → w.cell? ⟨b, off + j, none⟩ = some (.string (ss.getD j ByteArray.empty))) :
    Calls Tryd.prog 6 #[.slice (some ⟨b, off, none⟩) len cap] w fun e w' => e = .returned (.bool true) ∧ Below w.heap.size w w' := by
  by_cases h0 : len = 0
  · subst h0; exact turns_zero _ _ _
  · exact turns_pos b off len cap (min len 30) (fun j => ss.getD j ByteArray.empty) w rfl (by omega) hb hc
end Go.Proofs.YtkigjcdjiheneaaDoor
