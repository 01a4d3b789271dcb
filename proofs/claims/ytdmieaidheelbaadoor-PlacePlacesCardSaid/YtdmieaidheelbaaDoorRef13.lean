/- What the document's functions of layer 13 answer: plain Lean. -/
import Derived.Test.YtdmieaidheelbaaDoorPlaceP
import Derived.Test.YtdmieaidheelbaaDoorRefs
import Derived.Test.YtdmieaidheelbaaDoorQRb
import Derived.Test.YtdmieaidheelbaaDoorQRc
namespace Go.Proofs.YtdmieaidheelbaaDoor.Q
open Go Go.RowKit Go.Proofs.YtdmieaidheelbaaDoorW.PrintWords Go.Proofs.YtdmieaidheelbaaDoorW.PrintLast Go.Proofs.YtdmieaidheelbaaDoorW.PrintMore
set_option linter.unusedVariables false
set_option linter.unusedSimpArgs false

def clash (x y : S36) : Bool := decide (y.f0 = x.f0) || (decide (0 ≤ x.f1) && decide (y.f1 = x.f1))
def rangeBad (x : S36) : Bool := decide (x.f0 < 1) || decide (16 < x.f0) || decide (x.f1 < -1) || decide (7 < x.f1) || !okM x.f2
def goodFrom (pre : List S36) : List S36 → Bool
  | [] => true
  | x :: l => !rangeBad x && !pre.any (clash x) && goodFrom (pre ++ [x]) l
theorem rd36_get (l : List S36) (i : Nat) (hi : i < l.length) : rd_T36 l (i : Int) = l[i] := by simp [rd_T36, hi]

theorem right13_l1 (l : List S36) (i : Nat) (x : S36) (hi : i ≤ l.length) (hl : l.length ≤ 1000000) (c d : Int) (r : Bool) (K : Nat) (hnext : ∀ k, K ≤ k → mainsheetref13_Right.l0 k l ((i + 1 : Nat) : Int) = some r) (n : Nat) : ∀ (k j : Nat), j ≤ i → i - j = n → K + n + 1 ≤ k →
    mainsheetref13_Right.l1 k l (i : Int) (j : Int) x.f0 x.f1 c d = some (if ((l.take i).drop j).any (clash x) then false else r) := by
  induction n with
  | zero =>
    intro k j hj hn hk
    obtain ⟨k, rfl⟩ : ∃ m, k = m + 1 := ⟨k - 1, by omega⟩
    rw [mainsheetref13_Right.l1, if_neg (by omega), wrap_small _ (by omega) (by omega), show (i : Int) + 1 = ((i + 1 : Nat) : Int) by omega, hnext k (by omega)]
    rw [List.drop_eq_nil_of_le (by rw [List.length_take]; omega)]
    rfl
  | succ n ih =>
    intro k j hj hn hk
    obtain ⟨k, rfl⟩ : ∃ m, k = m + 1 := ⟨k - 1, by omega⟩
    have hjl : j < l.length := by omega
    have hd : (l.take i).drop j = l[j] :: (l.take i).drop (j + 1) := by
      rw [List.drop_eq_getElem_cons (by rw [List.length_take]; omega)]
      simp
    rw [mainsheetref13_Right.l1, if_pos (by omega), if_pos (by omega), if_pos (by omega), rd36_get l j hjl, wrap_small _ (by omega) (by omega), show (j : Int) + 1 = ((j + 1 : Nat) : Int) by omega, hd, List.any_cons]
    unfold clash
    by_cases h1 : l[j].f0 = x.f0
    · rw [if_pos h1]; simp [h1]
    · rw [if_neg h1]
      by_cases h2 : x.f1 ≥ 0
      · rw [if_pos h2]
        by_cases h3 : l[j].f1 = x.f1
        · rw [if_pos h3]; simp [h3, h2]
        · rw [if_neg h3, ih k (j + 1) (by omega) (by omega) (by omega)]
          simp [h1, h3, clash]
      · rw [if_neg h2, ih k (j + 1) (by omega) (by omega) (by omega)]
        have : ¬ (0 ≤ x.f1) := h2
        simp [h1, this, clash]
theorem right13_j1 (l : List S36) (i : Nat) (x : S36) (b : Bool) (hi : i ≤ l.length) (hl : l.length ≤ 1000000) (c d : Int) (r : Bool) (K : Nat) (hnext : ∀ k, K ≤ k → mainsheetref13_Right.l0 k l ((i + 1 : Nat) : Int) = some r) (k : Nat) (hk : K + i + 2 ≤ k) :
    mainsheetref13_Right.j1 k l (i : Int) b x.f0 x.f1 c d = some (if b || (l.take i).any (clash x) then false else r) := by
  obtain ⟨k, rfl⟩ : ∃ m, k = m + 1 := ⟨k - 1, by omega⟩
  rw [mainsheetref13_Right.j1]
  cases b with
  | true => rw [if_pos rfl]; simp
  | false =>
    rw [if_neg (by simp), show (0 : Int) = ((0 : Nat) : Int) from rfl, right13_l1 l i x hi hl c d r K hnext i k 0 (by omega) (by omega) (by omega)]
    simp
theorem right13_l0 (l : List S36) (hl : l.length ≤ 1000000) (hwf : ∀ x ∈ l, Wf36 x) (n : Nat) : ∀ (i : Nat), i ≤ l.length → l.length - i = n → ∃ K, ∀ k, K ≤ k → mainsheetref13_Right.l0 k l (i : Int) = some (goodFrom (l.take i) (l.drop i)) := by
  induction n with
  | zero =>
    intro i hi hn
    refine ⟨1, fun k hk => ?_⟩
    obtain ⟨k, rfl⟩ : ∃ m, k = m + 1 := ⟨k - 1, by omega⟩
    rw [mainsheetref13_Right.l0, if_neg (by omega), List.drop_eq_nil_of_le (by omega)]
    rfl
  | succ n ih =>
    intro i hi hn
    obtain ⟨K, hK⟩ := ih (i + 1) (by omega) (by omega)
    refine ⟨K + i + 3, fun k hk => ?_⟩
    obtain ⟨k, rfl⟩ : ∃ m, k = m + 1 := ⟨k - 1, by omega⟩
    have hil : i < l.length := by omega
    obtain ⟨w1, w2, w3, w4⟩ := hwf l[i] (List.getElem_mem hil)
    have hj := fun b => right13_j1 l i l[i] b hi hl l[i].f2.f0 l[i].f2.f1 _ K hK k (by omega)
    have hm : mainsheetref07_Right.f l[i].f2.f0 l[i].f2.f1 = some (okM l[i].f2) := by
      have := MRight_val l[i].f2.f0.toNat l[i].f2.f1.toNat
      rw [show ((l[i].f2.f0.toNat : Nat) : Int) = l[i].f2.f0 by omega, show ((l[i].f2.f1.toNat : Nat) : Int) = l[i].f2.f1 by omega] at this
      exact this
    rw [mainsheetref13_Right.l0, if_pos (by omega), if_pos (by omega), rd36_get l i hil, hm, Option.bind_some, hj, hj, List.drop_eq_getElem_cons hil, goodFrom, ← List.take_succ_eq_append_getElem hil]
    unfold rangeBad
    by_cases c1 : l[i].f0 < 1
    · rw [if_pos c1]; simp [c1]
    · rw [if_neg c1]
      by_cases c2 : l[i].f0 > 16
      · rw [if_pos c2]; simp [c2]
      · rw [if_neg c2]
        by_cases c3 : l[i].f1 < -1
        · rw [if_pos c3]; simp [c3]
        · rw [if_neg c3]
          by_cases c4 : l[i].f1 > 7
          · rw [if_pos c4]; simp [c4]
          · rw [if_neg c4]
            have d2 : ¬ (16 < l[i].f0) := c2
            have d4 : ¬ (7 < l[i].f1) := c4
            simp only [c1, d2, c3, d4, decide_false, Bool.false_or]
            cases okM l[i].f2 <;> cases (l.take i).any (clash l[i]) <;> simp

/-- the marks tell what stands ahead -/
def Marks (pre : List S36) (ms ts : List Bool) : Prop := ms.length = 17 ∧ ts.length = 8 ∧ (∀ v : Nat, v ≤ 16 → ms.getD v false = pre.any fun y => decide (y.f0 = v)) ∧ ∀ c : Nat, c < 8 → ts.getD c false = pre.any fun y => decide (y.f1 = c)
theorem any_snoc {α : Type} (p : α → Bool) (l : List α) (x : α) : (l ++ [x]).any p = (l.any p || p x) := by simp
theorem set_getD (l : List Bool) (i j : Nat) (hi : i < l.length) : (l.set i true).getD j false = (l.getD j false || decide (i = j)) := by
  rw [List.getD_eq_getElem?_getD, List.getD_eq_getElem?_getD, List.getElem?_set]
  by_cases h : i = j
  · subst h; rw [if_pos rfl, if_pos hi]; simp
  · rw [if_neg h]; simp [h]
theorem check_good (l : List S36) : ∀ (pre : List S36) (ms ts : List Bool), Marks pre ms ts → (checkFrom ms ts l = 0 ↔ goodFrom pre l = true) := by
  induction l with
  | nil => intro pre ms ts _; simp [checkFrom, goodFrom]
  | cons x l ih =>
    intro pre ms ts ⟨h1, h2, h3, h4⟩
    unfold checkFrom goodFrom
    have hb : badWish ms ts x = (rangeBad x || pre.any (clash x)) := by
      unfold badWish rangeBad
      by_cases c1 : x.f0 < 1
      · simp [c1]
      · by_cases c2 : 16 < x.f0
        · simp [c2]
        · by_cases c3 : x.f1 < -1
          · simp [c3]
          · by_cases c4 : 8 ≤ x.f1
            · have : 7 < x.f1 := by omega
              simp [c4, this]
            · have c4' : ¬ (7 < x.f1) := by omega
              have e3 := h3 x.f0.toNat (by omega)
              have hp : pre.any (clash x) = ((pre.any fun y => decide (y.f0 = x.f0)) || (decide (0 ≤ x.f1) && pre.any fun y => decide (y.f1 = x.f1))) := by
                clear ih h3 h4 e3
                induction pre with
                | nil => simp
                | cons y pre ihp =>
                  simp only [List.any_cons, ihp, clash]
                  cases decide (y.f0 = x.f0) <;> cases decide (0 ≤ x.f1) <;> cases decide (y.f1 = x.f1) <;> simp
              rw [show ((x.f0.toNat : Nat) : Int) = x.f0 by omega] at e3
              rw [hp, ← e3]
              simp only [c1, c2, c3, c4, c4', decide_false, Bool.false_or, Bool.or_false]
              by_cases c5 : 0 ≤ x.f1
              · have e4 := h4 x.f1.toNat (by omega)
                rw [show ((x.f1.toNat : Nat) : Int) = x.f1 by omega] at e4
                have c6 : -1 < x.f1 := by omega
                rw [← e4]
                simp only [c5, c6, decide_true, Bool.true_and]
                cases ms.getD x.f0.toNat false <;> cases okM x.f2 <;> cases ts.getD x.f1.toNat false <;> rfl
              · have c6 : ¬ (-1 < x.f1) := by omega
                simp only [c5, c6, decide_false, Bool.false_and, Bool.or_false]
                cases ms.getD x.f0.toNat false <;> cases okM x.f2 <;> rfl
    rw [hb]
    by_cases hg : (rangeBad x || pre.any (clash x)) = true
    · rw [if_pos hg]
      rw [Bool.or_eq_true] at hg
      rcases hg with hg | hg <;> simp [hg]
    · rw [if_neg hg]
      have hg' : rangeBad x = false ∧ pre.any (clash x) = false := by simpa using hg
      rw [hg'.1, hg'.2]
      simp only [Bool.not_false, Bool.true_and]
      have hr := hg'.1
      unfold rangeBad at hr
      simp only [Bool.or_eq_false_iff, decide_eq_false_iff_not] at hr
      obtain ⟨⟨⟨⟨r1, r2⟩, r3⟩, r4⟩, _⟩ := hr
      refine ih (pre ++ [x]) _ _ ⟨by simpa using h1, by split <;> simpa using h2, fun v hv => ?_, fun c hc => ?_⟩
      · rw [set_getD _ _ _ (by omega), h3 v hv, any_snoc]
        congr 1
        exact decide_eq_decide.2 (by omega)
      · rw [any_snoc, ← h4 c hc]
        split
        · rw [set_getD _ _ _ (by omega)]
          congr 1
          exact decide_eq_decide.2 (by omega)
        · have : decide (x.f1 = (c : Int)) = false := decide_eq_false (by omega)
          rw [this, Bool.or_false]
theorem marks_nil : Marks [] (List.replicate 17 false) (List.replicate 8 false) := by
  refine ⟨by simp, by simp, fun v hv => ?_, fun c hc => ?_⟩
  · rw [List.getD_eq_getElem?_getD, List.getElem?_replicate, if_pos (by omega)]; rfl
  · rw [List.getD_eq_getElem?_getD, List.getElem?_replicate, if_pos (by omega)]; rfl
def placeOk (l : List S36) : Int := checkFrom (List.replicate 17 false) (List.replicate 8 false) l
theorem check_cases (l : List S36) : ∀ ms ts, checkFrom ms ts l = 0 ∨ checkFrom ms ts l = 230 := by
  induction l with
  | nil => intro ms ts; exact .inl rfl
  | cons x l ih =>
    intro ms ts
    unfold checkFrom
    split
    · exact .inr rfl
    · exact ih _ _
theorem Right13_val (l : List S36) (hl : l.length ≤ 1000000) (hwf : ∀ x ∈ l, Wf36 x) : ∃ K, ∀ k, K ≤ k → mainsheetref13_Right.f k l = some (decide (placeOk l = 0)) := by
  obtain ⟨K, hK⟩ := right13_l0 l hl hwf l.length 0 (by omega) (by omega)
  refine ⟨K, fun k hk => ?_⟩
  have h := hK k hk
  have e : goodFrom (l.take 0) (l.drop 0) = decide (placeOk l = 0) := by
    have := check_good l [] _ _ marks_nil
    simp only [List.take_zero, List.drop_zero]
    unfold placeOk
    by_cases hg : goodFrom [] l = true
    · rw [hg, decide_eq_true (this.2 hg)]
    · rw [Bool.eq_false_iff.2 hg, decide_eq_false (fun hc => hg (this.1 hc))]
  rw [e] at h
  exact h
theorem why_val (l : List S36) (a : Int) (hl : l.length ≤ 1000000) (hwf : ∀ x ∈ l, Wf36 x) : ∃ K, ∀ k, K ≤ k → mainsheetlaw13_why.f k l a = some (askedOf l a) := by
  obtain ⟨K, hK⟩ := Right13_val l hl hwf
  refine ⟨K, fun k hk => ?_⟩
  unfold mainsheetlaw13_why.f askedOf
  rw [hK k hk, Option.bind_some, RRight_val, Option.bind_some]
  rcases check_cases l (List.replicate 17 false) (List.replicate 8 false) with h | h
  · have : placeOk l = 0 := h
    rw [this, h]
    simp only [decide_true, if_true, ne_eq, not_true_eq_false, if_false]
    by_cases ha : a < 256
    · rw [if_pos (by simpa using ha), if_pos ha]
    · rw [if_neg (by simpa using ha), if_neg ha]
  · have : placeOk l = 230 := h
    rw [this, h]
    simp
end Go.Proofs.YtdmieaidheelbaaDoor.Q
