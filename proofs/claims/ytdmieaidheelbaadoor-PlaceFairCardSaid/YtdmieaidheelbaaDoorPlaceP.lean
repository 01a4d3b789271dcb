/- The plain law of Place: rows in parts. -/
import Derived.Test.YtdmieaidheelbaaDoorPlace
import Derived.Test.YtdmieaidheelbaaDoorQFlaw13wakes
namespace Go.Proofs.YtdmieaidheelbaaDoor.Q
open Go Go.RowKit Go.Proofs.YtdmieaidheelbaaDoorW.PrintWords Go.Proofs.YtdmieaidheelbaaDoorW.PrintLast Go.Proofs.YtdmieaidheelbaaDoorW.PrintMore
set_option linter.unusedVariables false
set_option linter.unusedSimpArgs false

theorem wakes13 : mainsheetlaw13_wakes.f = some true := by decide +kernel

/-- what is free behind a row -/
def freeAfter (free : Nat) : List S36 → Nat
  | [] => free
  | x :: l => freeAfter (freeOf x free) l
theorem turns_append (l1 l2 : List S36) : ∀ free, turnsOf free (l1 ++ l2) = turnsOf free l1 ++ turnsOf (freeAfter free l1) l2 := by
  induction l1 with
  | nil => intro free; rfl
  | cons x l ih => intro free; simp [turnsOf, freeAfter, ih]
theorem puts_append (a b : List (S36 × Int)) : putsOf (a ++ b) = putsOf a ++ putsOf b := by simp [putsOf]
theorem free_step (x : S36) (free : Nat) : takeAll free (putOf (x, takesOf x free)) = freeOf x free := by
  unfold putOf takesOf freeOf
  cases hb : (bestN x.f2.f0.toNat x.f2.f1.toNat free x.f1).2 with
  | true =>
    have := bestN_range _ _ _ _ hb
    simp only [if_true]
    rw [if_pos (by omega)]
    rfl
  | false => simp [takeAll]
theorem takeAll_append (free : Nat) (a b : List S31) : takeAll free (a ++ b) = takeAll (takeAll free a) b := by simp [takeAll, List.foldl_append]
theorem takeAll_turns (l : List S36) : ∀ free, takeAll free (putsOf (turnsOf free l)) = freeAfter free l := by
  induction l with
  | nil => intro free; rfl
  | cons x l ih =>
    intro free
    have : putsOf (turnsOf free (x :: l)) = putOf (x, takesOf x free) ++ putsOf (turnsOf (freeOf x free) l) := by simp [putsOf, turnsOf]
    rw [this, takeAll_append, free_step, ih]; rfl
theorem freeAfter_lt (l : List S36) : ∀ free, free < 256 → freeAfter free l < 256 := by
  induction l with
  | nil => intro free h; exact h
  | cons x l ih => intro free h; exact ih _ (freeOf_lt x free h)

/-- fewer marks, fewer refusals -/
def Le (a b : List Bool) : Prop := a.length = b.length ∧ ∀ i, a.getD i false = true → b.getD i false = true
theorem Le.set {a b : List Bool} (h : Le a b) (i : Nat) : Le (a.set i true) (b.set i true) := by
  refine ⟨by simp [h.1], fun j hj => ?_⟩
  rw [List.getD_eq_getElem?_getD, List.getElem?_set] at hj ⊢
  by_cases e : i = j
  · subst e
    rw [if_pos rfl] at hj ⊢
    rw [← h.1]; exact hj
  · rw [if_neg e] at hj ⊢
    have := h.2 j
    rw [List.getD_eq_getElem?_getD, List.getD_eq_getElem?_getD] at this
    exact this hj
theorem bad_mono {ms ms' ts ts' : List Bool} (hm : Le ms ms') (ht : Le ts ts') (x : S36) (h : badWish ms ts x = true) : badWish ms' ts' x = true := by
  unfold badWish at h ⊢
  simp only [Bool.or_eq_true, Bool.and_eq_true] at h ⊢
  rcases h with (((((h | h) | h) | h) | h) | h) | h
  · simp [h]
  · simp [h]
  · exact .inl (.inl (.inl (.inl (.inr (hm.2 _ h)))))
  · simp [h]
  · simp [h]
  · exact .inl (.inr h)
  · exact .inr ⟨h.1, ht.2 _ h.2⟩
theorem check_mono (l : List S36) : ∀ (ms ms' ts ts' : List Bool), Le ms ms' → Le ts ts' → checkFrom ms' ts' l = 0 → checkFrom ms ts l = 0 := by
  induction l with
  | nil => intros; rfl
  | cons x l ih =>
    intro ms ms' ts ts' hm ht h
    unfold checkFrom at h ⊢
    by_cases hb : badWish ms' ts' x = true
    · rw [if_pos hb] at h; cases h
    · rw [if_neg hb] at h
      rw [if_neg (fun e => hb (bad_mono hm ht x e))]
      refine ih _ _ _ _ (hm.set _) ?_ h
      split
      · exact ht.set _
      · exact ht
theorem check_prefix (l1 l2 : List S36) : ∀ (ms ts : List Bool), checkFrom ms ts (l1 ++ l2) = 0 → checkFrom ms ts l1 = 0 := by
  induction l1 with
  | nil => intros; rfl
  | cons x l ih =>
    intro ms ts h
    rw [List.cons_append] at h
    unfold checkFrom at h ⊢
    by_cases hb : badWish ms ts x = true
    · rw [if_pos hb] at h; cases h
    · rw [if_neg hb] at h ⊢
      exact ih _ _ h
theorem Le.grow {a : List Bool} (i : Nat) : Le a (a.set i true) := by
  refine ⟨by simp, fun j hj => ?_⟩
  rw [List.getD_eq_getElem?_getD] at hj ⊢
  rw [List.getElem?_set]
  by_cases e : i = j
  · subst e
    rw [if_pos rfl]
    rcases Nat.lt_or_ge i a.length with h | h
    · simp [h]
    · rw [List.getElem?_eq_none h] at hj; simp at hj
  · rw [if_neg e]; exact hj
theorem Le.refl (a : List Bool) : Le a a := ⟨rfl, fun _ h => h⟩
theorem Le.trans {a b c : List Bool} (h : Le a b) (k : Le b c) : Le a c := ⟨h.1.trans k.1, fun i hi => k.2 i (h.2 i hi)⟩
theorem check_suffix (l1 l2 : List S36) : ∀ (ms ts : List Bool), checkFrom ms ts (l1 ++ l2) = 0 → checkFrom ms ts l2 = 0 := by
  induction l1 with
  | nil => intro ms ts h; exact h
  | cons x l ih =>
    intro ms ts h
    rw [List.cons_append] at h
    unfold checkFrom at h
    by_cases hb : badWish ms ts x = true
    · rw [if_pos hb] at h; cases h
    · rw [if_neg hb] at h
      refine check_mono _ _ _ _ _ (Le.grow _) ?_ (ih _ _ h)
      split
      · exact Le.grow _
      · exact Le.refl _
theorem asked_ok {l : List S36} {a : Int} : askedOf l a = 0 ↔ checkFrom (List.replicate 17 false) (List.replicate 8 false) l = 0 ∧ a < 256 := by
  unfold askedOf
  generalize checkFrom (List.replicate 17 false) (List.replicate 8 false) l = q
  by_cases h : q = 0
  · rw [if_neg (by simpa using h)]
    by_cases h2 : a < 256
    · rw [if_pos h2]; simp [h, h2]
    · rw [if_neg h2]; simp [h2]
  · rw [if_pos h]; simp [h]
theorem wf_take {l : List S36} (h : ∀ x ∈ l, Wf36 x) (n : Nat) : ∀ x ∈ l.take n, Wf36 x := fun x hx => h x (List.mem_of_mem_take hx)
theorem wf_drop {l : List S36} (h : ∀ x ∈ l, Wf36 x) (n : Nat) : ∀ x ∈ l.drop n, Wf36 x := fun x hx => h x (List.mem_of_mem_drop hx)
theorem rd31_at (l : List S31) (k : Nat) : rd_T31 l (k : Int) = l.getD k z31 := by simp [rd_T31]
end Go.Proofs.YtdmieaidheelbaaDoor.Q
