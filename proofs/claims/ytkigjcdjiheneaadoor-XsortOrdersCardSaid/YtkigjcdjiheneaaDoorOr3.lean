/- xsort.Order of no row. -/
import Derived.Test.YtkigjcdjiheneaaDoorOr2
namespace Go.Proofs.YtkigjcdjiheneaaDoor
open Go.RowKit Go.Sten Go.Lib Go.Shelf Go.Sort Go.Stab

set_option maxHeartbeats 400000 in
theorem ins_nil (f : Value) (w : World) : Calls Tryd.prog 64 #[.slice none 0 0, .int .i64 0, .int .i64 0, f] w fun e w' => e = .returned (.tuple #[]) ∧ w = w' := by
  go_enter Tryd.func64, Tryd.ntmps64
  go_wp2_with fail
  refine wp_loop_rounds 1 ?_
  rw [rounds_succ]
  go_wp2_with fail
  go_end0
  exact ⟨rfl, rfl⟩
set_option maxHeartbeats 400000 in
theorem stab_nil (f : Value) (w : World) : Calls Tryd.prog 46 #[.slice none 0 0, .int .i64 0, f] w fun e w' => e = .returned (.tuple #[]) ∧ w = w' := by
  go_enter Tryd.func46, Tryd.ntmps46
  go_wp2_with fail
  refine wp_loop_rounds 1 ?_
  rw [rounds_succ]
  go_wp2_with fail
  refine (ins_nil f _).mono ?_
  rintro _ w2 ⟨rfl, rfl⟩
  go_wp2_with fail
  refine wp_loop_rounds 1 ?_
  rw [rounds_succ]
  go_wp2_with fail
  go_end0
  exact ⟨rfl, rfl⟩
set_option maxHeartbeats 400000 in
theorem sort_nil (f : Value) (w : World) : Calls Tryd.prog 25 #[.slice none 0 0, f] w fun e w' => e = .returned (.tuple #[]) ∧ w = w' := by
  go_enter Tryd.func25, Tryd.ntmps25
  go_wp2_with fail
  refine (stab_nil f _).mono ?_
  rintro _ w2 ⟨rfl, rfl⟩
  go_wp2_with fail
  go_end0
  exact ⟨rfl, rfl⟩
set_option maxHeartbeats 400000 in
theorem order_nil (w : World) : Calls Tryd.prog 17 #[.slice none 0 0] w fun e w' => e = .returned (.slice none 0 0) ∧ Below w.heap.size w w' := by
  go_enter Tryd.func17, Tryd.ntmps17
  go_wp2_with fail
  refine wp_loop_rounds 1 ?_
  rw [rounds_succ]
  go_wp2_with fail
  refine (sort_nil _ _).mono ?_
  rintro _ w2 ⟨rfl, rfl⟩
  go_wp2_with fail
  go_ret
  exact ⟨rfl, ((Gw.refl w).alloc _).below⟩

/-! the plain law: what ordR answers -/
/-- a comparison with three answers that is an order but for alike ones -/
structure Pre {β : Type} (f : β → β → Int) : Prop where
  flip : ∀ x y, f y x = -(f x y)
  trans : ∀ x y z, f x y ≤ 0 → f y z ≤ 0 → f x z ≤ 0

theorem Pre.lt_le {β : Type} {f : β → β → Int} (h : Pre f) (x y z : β) (h1 : f x y < 0) (h2 : f y z ≤ 0) : f x z < 0 := by
  have h3 := h.trans x y z (by omega) h2
  rcases Int.lt_or_eq_of_le h3 with h4 | h4
  · exact h4
  · exfalso
    have e1 := h.flip x z
    have e2 := h.trans y z x h2 (by omega)
    have e3 := h.flip x y
    omega
theorem Pre.le_lt {β : Type} {f : β → β → Int} (h : Pre f) (x y z : β) (h1 : f x y ≤ 0) (h2 : f y z < 0) : f x z < 0 := by
  have h3 := h.trans x y z h1 (by omega)
  rcases Int.lt_or_eq_of_le h3 with h4 | h4
  · exact h4
  · exfalso
    have e1 := h.flip x z
    have e2 := h.trans z x y (by omega) h1
    have e3 := h.flip y z
    omega
theorem Pre.swo {β : Type} {f : β → β → Int} (h : Pre f) : SWO (ltOf f) where
  irrefl x := by
    have := h.flip x x
    simp only [ltOf, decide_eq_false_iff_not]; omega
  trans x y z h1 h2 := by
    simp only [ltOf, decide_eq_true_eq] at *
    exact h.lt_le x y z h1 (by omega)
  ntrans x y z h1 h2 := by
    simp only [ltOf, decide_eq_false_iff_not] at *
    have e1 := h.flip x y
    have e2 := h.flip y z
    have e3 := h.flip x z
    have := h.trans z y x (by omega) (by omega)
    omega

theorem Pre.neg {β : Type} {f : β → β → Int} (h : Pre f) : Pre (fun x y => -(f x y)) where
  flip x y := by have := h.flip x y; show -(f y x) = - -(f x y); omega
  trans x y z h1 h2 := by
    have e1 := h.flip x y
    have e2 := h.flip y z
    have e3 := h.flip x z
    have := h.trans z y x (by omega) (by omega)
    show -(f x z) ≤ 0
    omega
theorem Pre.lex {β : Type} {f g : β → β → Int} (h : Pre f) (k : Pre g) : Pre (fun x y => if f x y = 0 then g x y else f x y) where
  flip x y := by
    have e1 := h.flip x y
    have e2 := k.flip x y
    show (if f y x = 0 then g y x else f y x) = -(if f x y = 0 then g x y else f x y)
    by_cases h0 : f x y = 0
    · rw [if_pos h0, if_pos (by omega)]; omega
    · rw [if_neg h0, if_neg (by omega)]; omega
  trans x y z h1 h2 := by
    show (if f x z = 0 then g x z else f x z) ≤ 0
    have a1 : f x y ≤ 0 := by
      change (if f x y = 0 then g x y else f x y) ≤ 0 at h1
      split at h1 <;> omega
    have a2 : f y z ≤ 0 := by
      change (if f y z = 0 then g y z else f y z) ≤ 0 at h2
      split at h2 <;> omega
    by_cases h0 : f x z = 0
    · rw [if_pos h0]
      have b1 : f x y = 0 := by
        rcases Int.lt_or_eq_of_le a1 with h3 | h3
        · have := h.lt_le x y z h3 a2; omega
        · exact h3
      have b2 : f y z = 0 := by
        rcases Int.lt_or_eq_of_le a2 with h3 | h3
        · have := h.le_lt x y z a1 h3; omega
        · exact h3
      change (if f x y = 0 then g x y else f x y) ≤ 0 at h1
      change (if f y z = 0 then g y z else f y z) ≤ 0 at h2
      rw [if_pos b1] at h1
      rw [if_pos b2] at h2
      exact k.trans x y z h1 h2
    · rw [if_neg h0]; exact h.trans x y z a1 a2
theorem Pre.on {β γ : Type} {f : β → β → Int} (h : Pre f) (m : γ → β) : Pre (fun x y => f (m x) (m y)) where
  flip _ _ := h.flip _ _
  trans _ _ _ := h.trans _ _ _
theorem Pre.of_swo {β : Type} {lt : β → β → Bool} (h : SWO lt) : Pre (fun x y => if lt x y = true then -1 else if lt y x = true then 1 else 0) where
  flip x y := by
    have e : lt x y = true → lt y x = false := fun h1 => by
      cases h2 : lt y x with
      | false => rfl
      | true => have := h.trans x y x h1 h2; rw [h.irrefl] at this; cases this
    show (if lt y x = true then (-1 : Int) else if lt x y = true then 1 else 0) = -(if lt x y = true then (-1 : Int) else if lt y x = true then 1 else 0)
    cases h1 : lt x y with
    | true => simp [e h1]
    | false => cases h2 : lt y x <;> simp
  trans x y z h1 h2 := by
    have e : ∀ x y, lt x y = true → lt y x = false := fun x y h1 => by
      cases h2 : lt y x with
      | false => rfl
      | true => have := h.trans x y x h1 h2; rw [h.irrefl] at this; cases this
    have b : ∀ x y, (if lt x y = true then (-1 : Int) else if lt y x = true then 1 else 0) ≤ 0 ↔ lt y x = false := fun x y => by
      cases h1 : lt x y with
      | true => simp [e x y h1]
      | false => cases h2 : lt y x <;> simp
    have h1' := (b x y).1 h1
    have h2' := (b y z).1 h2
    exact (b x z).2 (h.ntrans z y x h2' h1')

theorem bl_irrefl : ∀ x : List UInt8, Op.bytesLess x x = false
  | [] => rfl
  | a :: x => by simp [Op.bytesLess, bl_irrefl x]
theorem bl_trans : ∀ x y z : List UInt8, Op.bytesLess x y = true → Op.bytesLess y z = true → Op.bytesLess x z = true
  | _, [], _, h, _ => by simp [Op.bytesLess] at h
  | _, _ :: _, [], _, h => by simp [Op.bytesLess] at h
  | [], _ :: _, _ :: _, _, _ => rfl
  | a :: x, b :: y, c :: z, h, k => by
    simp only [Op.bytesLess, Bool.or_eq_true, decide_eq_true_eq, Bool.and_eq_true, beq_iff_eq] at h k ⊢
    rcases h with h | ⟨rfl, h⟩ <;> rcases k with k | ⟨rfl, k⟩
    · exact Or.inl (UInt8.lt_trans h k)
    · exact Or.inl h
    · exact Or.inl k
    · exact Or.inr ⟨rfl, bl_trans x y z h k⟩
theorem bl_total : ∀ x y : List UInt8, Op.bytesLess x y = true ∨ x = y ∨ Op.bytesLess y x = true
  | [], [] => Or.inr (Or.inl rfl)
  | [], _ :: _ => Or.inl rfl
  | _ :: _, [] => Or.inr (Or.inr rfl)
  | a :: x, b :: y => by
    simp only [Op.bytesLess, Bool.or_eq_true, decide_eq_true_eq, Bool.and_eq_true, beq_iff_eq, List.cons.injEq]
    have tri : a < b ∨ a = b ∨ b < a := by
      simp only [UInt8.lt_iff_toNat_lt, ← UInt8.toNat_inj]; omega
    rcases tri with h | rfl | h
    · exact Or.inl (Or.inl h)
    · rcases bl_total x y with h | h | h
      · exact Or.inl (Or.inr ⟨rfl, h⟩)
      · exact Or.inr (Or.inl ⟨rfl, h⟩)
      · exact Or.inr (Or.inr (Or.inr ⟨rfl, h⟩))
    · exact Or.inr (Or.inr (Or.inl h))
theorem bl_swo : SWO Op.bytesLess where
  irrefl := bl_irrefl
  trans := bl_trans
  ntrans x y z h1 h2 := by
    cases h3 : Op.bytesLess x z with
    | false => rfl
    | true =>
      exfalso
      rcases bl_total x y with h | h | h
      · rw [h] at h1; cases h1
      · subst h; rw [h3] at h2; cases h2
      · have := bl_trans y x z h h3; rw [this] at h2; cases h2
theorem cmpS_pre : Pre cmpS := by
  have h := (Pre.of_swo bl_swo).on (fun a : ByteArray => a.toList)
  have e : cmpS = fun x y => if Op.bytesLess x.toList y.toList = true then -1 else if Op.bytesLess y.toList x.toList = true then 1 else 0 := by
    funext x y
    unfold cmpS
    rcases bl_total x.toList y.toList with h1 | h1 | h1
    · rw [if_pos h1, if_pos h1]
    · rw [h1, bl_irrefl]; simp
    · have h2 : Op.bytesLess x.toList y.toList = false := by
        cases h3 : Op.bytesLess x.toList y.toList with
        | false => rfl
        | true => have := bl_trans _ _ _ h1 h3; rw [bl_irrefl] at this; cases this
      rw [h2, h1]
      have h4 : x.toList ≠ y.toList := fun e => by rw [e, bl_irrefl] at h1; cases h1
      simp [h4]
  rw [e]
  exact h
theorem less_iff (k v k' v' : Int) : lessN k v k' v' = true ↔ pl k < pl k' ∨ (pl k = pl k' ∧ v < v') := by
  unfold lessN ordN Lib.compareInt
  simp only [decide_eq_true_eq]
  split <;> split at * <;> (try split at *) <;> (try split) <;> (try split) <;> omega
theorem less_swo : SWO (fun (x y : Int × Int) => lessN x.1 x.2 y.1 y.2) where
  irrefl x := by
    cases h : lessN x.1 x.2 x.1 x.2 with
    | false => rfl
    | true => rw [less_iff] at h; omega
  trans x y z h1 h2 := by
    rw [less_iff] at *; omega
  ntrans x y z h1 h2 := by
    cases h : lessN x.1 x.2 z.1 z.2 with
    | false => rfl
    | true =>
      exfalso
      have a1 : ¬ (lessN x.1 x.2 y.1 y.2 = true) := by rw [h1]; simp
      have a2 : ¬ (lessN y.1 y.2 z.1 z.2 = true) := by rw [h2]; simp
      rw [less_iff] at *; omega
theorem numN_pre : Pre (fun (x y : Int × Int) => numN x.1 x.2 y.1 y.2) := Pre.of_swo less_swo
theorem keyCmp_pre (k : KeyD) : Pre (keyCmp k) := by
  have h1 := numN_pre.on (fun x : KeyD => (x.kind, x.v))
  have h2 := cmpS_pre.on (fun x : KeyD => x.text)
  by_cases hn : k.number = true <;> by_cases hd : k.down = true
  · have e : keyCmp k = fun x y => -(numN x.kind x.v y.kind y.v) := by funext x y; simp [keyCmp, hn, hd]
    rw [e]; exact h1.neg
  · have e : keyCmp k = fun x y => numN x.kind x.v y.kind y.v := by funext x y; simp [keyCmp, hn, hd]
    rw [e]; exact h1
  · have e : keyCmp k = fun x y => -(cmpS x.text y.text) := by funext x y; simp [keyCmp, hn, hd]
    rw [e]; exact h2.neg
  · have e : keyCmp k = fun x y => cmpS x.text y.text := by funext x y; simp [keyCmp, hn, hd]
    rw [e]; exact h2
theorem rowCmp_pre (K : List KeyD) : ∀ i, Pre (fun X Y => rowCmp X Y i K) := by
  induction K with
  | nil => exact fun i => ⟨fun _ _ => rfl, fun _ _ _ _ _ => Int.le_refl _⟩
  | cons k K ih => exact fun i => ((keyCmp_pre k).on (fun X : List KeyD => X.getD i KeyD.zero)).lex (ih (i + 1))
theorem cfR_pre (rs : List (List KeyD)) (n : Nat) : Pre (cfR rs n) := (rowCmp_pre (rs.getD 0 []) 0).on (fun x : Fin n => rs.getD x.val [])
end Go.Proofs.YtkigjcdjiheneaaDoor
