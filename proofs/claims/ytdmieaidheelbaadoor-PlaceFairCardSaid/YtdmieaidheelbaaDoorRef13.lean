import Derived.Test.YtdmieaidheelbaaDoorMasks
import Derived.Test.YtdmieaidheelbaaDoorQRa
import Derived.Test.YtdmieaidheelbaaDoorPlaceP
import Derived.Test.YtdmieaidheelbaaDoorQRb
import Derived.Test.YtdmieaidheelbaaDoorQRc
/- What the document's functions of layers 4 and 7 answer: plain Lean. -/
namespace Go.Proofs.YtdmieaidheelbaaDoor.Q
open Go Go.RowKit Go.Proofs.YtdmieaidheelbaaDoorW.PrintWords Go.Proofs.YtdmieaidheelbaaDoorW.PrintLast Go.Proofs.YtdmieaidheelbaaDoorW.PrintMore
set_option linter.unusedVariables false
set_option linter.unusedSimpArgs false

theorem RRight_val (s : Int) : mainsheetref04_Right.f s = some (decide (s < 256)) := rfl
theorem MRight_val (h s : Nat) : mainsheetref07_Right.f (h : Int) (s : Int) = some (maskOk h s) := by
  have e1 : decide ((h : Int) < 256) = decide (h < 256) := decide_eq_decide.2 (by omega)
  have e2 : decide ((s : Int) < 256) = decide (s < 256) := decide_eq_decide.2 (by omega)
  have e3 : decide ((h : Int) > 0) = decide (h ≠ 0) := decide_eq_decide.2 (by omega)
  unfold mainsheetref07_Right.f maskOk
  rw [RRight_val, RRight_val, e1, e2, e3]
  simp only [Option.bind_some]
  cases decide (h < 256) <;> cases decide (s < 256) <;> rfl
theorem MAllows_val (h s p : Nat) (hh : h < 4294967296) (hp : p < 4294967296) : mainsheetref07_Allows.f (h : Int) (s : Int) (p : Int) = some ((h &&& p : Nat) : Int) := by
  unfold mainsheetref07_Allows.f; rw [and_nat h p hh hp]
theorem MLikes_val (h s p : Nat) (hh : h < 4294967296) (hs : s < 4294967296) (hp : p < 4294967296) : mainsheetref07_Likes.f (h : Int) (s : Int) (p : Int) = some (if h &&& p &&& s = 0 then ((h &&& p : Nat) : Int) else ((h &&& p &&& s : Nat) : Int)) := by
  have h1 : h &&& p < 4294967296 := Nat.lt_of_le_of_lt Nat.and_le_left hh
  unfold mainsheetref07_Likes.f
  rw [and_nat h p hh hp, and_nat _ s h1 hs]
  by_cases hc : h &&& p &&& s = 0
  · rw [if_neg (by omega), if_pos hc]
  · rw [if_pos (by omega), if_neg hc]
theorem RHas_val (s : Nat) (hs : s < 4294967296) (c : Int) : mainsheetref04_Has.f (s : Int) c = some (hasN s c) := by
  unfold mainsheetref04_Has.f mainsheetref04_Cpu.f hasN
  by_cases h0 : c ≥ 0
  · rw [if_pos h0]; simp only [Option.bind_some]
    by_cases h8 : c < 8
    · obtain ⟨n, rfl⟩ : ∃ n : Nat, c = n := ⟨c.toNat, by omega⟩
      have hn : n < 8 := by omega
      rw [if_pos (by simpa using h8), if_pos h0]
      have e : shr .u32 (s : Int) (n : Int) = ((s / 2 ^ n : Nat) : Int) := by
        unfold shr
        rw [Nat.min_eq_left (by show n ≤ 32; omega), Int.toNat_natCast]
        rw [Int.natCast_ediv]; simp
      rw [e, Int.toNat_natCast]
      have e2 : (((s / 2 ^ n : Nat) : Int)).tmod 2 = ((s / 2 ^ n % 2 : Nat) : Int) := by
        rw [Int.tmod_eq_emod_of_nonneg (Int.natCast_nonneg _)]; omega
      rw [e2]
      have e3 : s.testBit n = decide (s / 2 ^ n % 2 = 1) := by rw [Nat.testBit_eq_decide_div_mod_eq]
      rw [e3]
      have h3 : (n : Int) < 8 := h8
      by_cases hb : s / 2 ^ n % 2 = 1
      · simp [hb, h3]
      · have : s / 2 ^ n % 2 = 0 := by omega
        simp [this]
    · rw [if_neg (by simpa using h8)]; simp [h8]
  · rw [if_neg h0]; simp only [Option.bind_some]
    rw [if_neg (by simp)]; have : ¬ (0 ≤ c) := by omega
    simp [this]

def listFrom (s i : Nat) : List Int := (((List.range 8).drop i).filter fun c => s.testBit c).map fun (c : Nat) => (c : Int)
theorem listFrom_step (s i : Nat) (hi : i < 8) : listFrom s i = (if s.testBit i then [(i : Int)] else []) ++ listFrom s (i + 1) := by
  unfold listFrom
  rw [List.drop_eq_getElem_cons (by simpa using hi)]
  simp only [List.getElem_range, List.filter_cons]
  split <;> simp
theorem rlist_loop (s : Nat) (hs : s < 4294967296) (d : Nat) : ∀ (k i : Nat) (out : List Int), i ≤ 8 → 8 - i = d → d < k → out.length ≤ i → mainsheetref04_List.l0 k (s : Int) out (i : Int) = some (out ++ listFrom s i) := by
  induction d with
  | zero =>
    intro k i out hi hd hk ho
    obtain ⟨k, rfl⟩ : ∃ m, k = m + 1 := ⟨k - 1, by omega⟩
    obtain rfl : i = 8 := by omega
    simp only [mainsheetref04_List.l0]; rw [if_neg (by omega)]
    have : listFrom s 8 = [] := by unfold listFrom; rw [show (List.range 8).drop 8 = [] from rfl]; rfl
    rw [this, List.append_nil]
  | succ d ih =>
    intro k i out hi hd hk ho
    obtain ⟨k, rfl⟩ : ∃ m, k = m + 1 := ⟨k - 1, by omega⟩
    simp only [mainsheetref04_List.l0]
    rw [if_pos (by omega), RHas_val s hs]
    simp only [Option.bind_some]
    have hb : hasN s (i : Int) = s.testBit i := by
      unfold hasN
      have : (i : Int) < 8 := by omega
      simp [this]
    rw [hb, wrap_small _ (by omega) (by omega), show (i : Int) + 1 = ((i + 1 : Nat) : Int) by omega, listFrom_step s i (by omega)]
    cases s.testBit i with
    | true =>
      rw [if_pos rfl, if_pos (by omega), ih k (i + 1) _ (by omega) (by omega) (by omega) (by simp; omega)]
      simp
    | false =>
      rw [if_neg (by simp), ih k (i + 1) _ (by omega) (by omega) (by omega) (by omega)]
      simp
theorem RList_val (s : Nat) (hs : s < 4294967296) (k : Nat) (hk : 9 ≤ k) : mainsheetref04_List.f k (s : Int) = some (listOf (s : Int)) := by
  unfold mainsheetref04_List.f
  have := rlist_loop s hs 8 k 0 [] (by omega) (by omega) (by omega) (by simp)
  rw [show (0 : Int) = ((0 : Nat) : Int) from rfl, this]
  simp [listFrom, listOf]
theorem rnext_loop (l : List Int) (a : Int) (hl : l.length ≤ 1000) (d : Nat) : ∀ (k i : Nat), i ≤ l.length → l.length - i = d → d < k →
    mainsheetref04_Next.l0 k a l (l.length : Int) (i : Int) = some (match (l.drop i).find? fun c => decide (a < c) with | some c => (c, true) | none => (0, false)) := by
  induction d with
  | zero =>
    intro k i hi hd hk
    obtain ⟨k, rfl⟩ : ∃ m, k = m + 1 := ⟨k - 1, by omega⟩
    simp only [mainsheetref04_Next.l0]; rw [if_neg (by omega), List.drop_eq_nil_of_le (by omega)]; rfl
  | succ d ih =>
    intro k i hi hd hk
    obtain ⟨k, rfl⟩ : ∃ m, k = m + 1 := ⟨k - 1, by omega⟩
    have hlt : i < l.length := by omega
    have e : rd l (i : Int) = l[i] := by simp [rd, hlt]
    simp only [mainsheetref04_Next.l0]
    rw [if_pos (by omega), if_pos (by omega), if_pos (by omega), e, List.drop_eq_getElem_cons hlt, List.find?_cons]
    by_cases hc : l[i] > a
    · rw [if_pos hc]
      have : decide (a < l[i]) = true := by simpa using hc
      rw [this]
    · rw [if_neg hc, wrap_small _ (by omega) (by omega), show (i : Int) + 1 = ((i + 1 : Nat) : Int) by omega, ih k (i + 1) (by omega) (by omega) (by omega)]
      have : decide (a < l[i]) = false := by simpa using hc
      rw [this]
theorem RNext_val (s : Nat) (hs : s < 4294967296) (a : Int) (k : Nat) (hk : 9 ≤ k) : mainsheetref04_Next.f k (s : Int) a = some (nextOf (s : Int) a) := by
  have hl := listOf_len (s : Int)
  unfold mainsheetref04_Next.f
  rw [RList_val s hs k hk]
  simp only [Option.bind_some]
  rw [show (0 : Int) = ((0 : Nat) : Int) from rfl, rnext_loop (listOf (s : Int)) a (by omega) (listOf (s : Int)).length k 0 (by omega) (by omega) (by omega)]
  rfl
theorem same_loop (a b : List Int) (hl : a.length = b.length) (hb : a.length ≤ 1000000) (d : Nat) : ∀ (k i : Nat), i ≤ a.length → a.length - i = d → d < k →
    mainsheetref04_SameInts.l0 k a b (a.length : Int) (i : Int) = some (decide (a.drop i = b.drop i)) := by
  induction d with
  | zero =>
    intro k i hi hd hk
    obtain ⟨k, rfl⟩ : ∃ m, k = m + 1 := ⟨k - 1, by omega⟩
    simp only [mainsheetref04_SameInts.l0]; rw [if_neg (by omega), List.drop_eq_nil_of_le (by omega), List.drop_eq_nil_of_le (by omega)]; simp
  | succ d ih =>
    intro k i hi hd hk
    obtain ⟨k, rfl⟩ : ∃ m, k = m + 1 := ⟨k - 1, by omega⟩
    have hlt : i < a.length := by omega
    have e : rd a (i : Int) = a[i] := by simp [rd, hlt]
    have e2 : rd b (i : Int) = b[i]'(by omega) := by simp [rd, show i < b.length by omega]
    simp only [mainsheetref04_SameInts.l0]
    have da := List.drop_eq_getElem_cons hlt
    have db := List.drop_eq_getElem_cons (show i < b.length by omega)
    rw [if_pos (by omega), if_pos (by omega), if_pos (by omega), if_pos (by omega), e, e2, da, db]
    by_cases hc : a[i] = b[i]'(by omega)
    · rw [if_pos hc, wrap_small _ (by omega) (by omega), show (i : Int) + 1 = ((i + 1 : Nat) : Int) by omega, ih k (i + 1) (by omega) (by omega) (by omega), hc]
      exact congrArg some (decide_eq_decide.2 ⟨fun h => by rw [h], fun h => (List.cons.inj h).2⟩)
    · rw [if_neg hc]
      refine congrArg some ?_
      symm
      rw [decide_eq_false_iff_not]
      exact fun h => hc (List.cons.inj h).1
theorem Same_val (a b : List Int) (hb : a.length ≤ 1000000) (k : Nat) (hk : a.length < k) : mainsheetref04_SameInts.f k a b = some (decide (a = b)) := by
  unfold mainsheetref04_SameInts.f
  by_cases hl : a.length = b.length
  · rw [if_pos (by omega), show (0 : Int) = ((0 : Nat) : Int) from rfl, same_loop a b hl hb a.length k 0 (by omega) (by omega) (by omega)]
    simp
  · rw [if_neg (by omega)]
    congr 1
    symm
    rw [decide_eq_false_iff_not]
    intro h; subst h; exact hl rfl
end Go.Proofs.YtdmieaidheelbaaDoor.Q
/- What the document's functions of layer 13 answer: plain Lean. -/
namespace Go.Proofs.YtdmieaidheelbaaDoor.Q
open Go Go.RowKit Go.Proofs.YtdmieaidheelbaaDoorW.PrintWords Go.Proofs.YtdmieaidheelbaaDoorW.PrintLast Go.Proofs.YtdmieaidheelbaaDoorW.PrintMore
set_option linter.unusedVariables false
set_option linter.unusedSimpArgs false

def clash (x y : S36) : Bool := decide (y.f0 = x.f0) || (decide (0 ≤ x.f1) && decide (y.f1 = x.f1))
def rangeBad (x : S36) : Bool := decide (x.f0 < 1) || decide (16 < x.f0) || decide (x.f1 < -1) || decide (7 < x.f1) || !okM x.f2
def goodFrom (pre : List S36) : List S36 → Bool
  | [] => true
  | x :: l => !rangeBad x && !pre.any (clash x) && goodFrom (pre ++ [x]) l
theorem rd36_get (l : List S36) (i : Nat) (hi : i < l.length) : rd_T36 l (i : Int) = l[i] := by simp [rd_T36, hi]

theorem right13_l1 (l : List S36) (i : Nat) (x : S36) (hi : i ≤ l.length) (hl : l.length ≤ 1000000) (c d : Int) (r : Bool) (K : Nat) (hnext : ∀ k, K ≤ k → mainsheetref13_Right.l0 k l ((i + 1 : Nat) : Int) = some r) (n : Nat) : ∀ (k j : Nat), j ≤ i → i - j = n → K + n + 1 ≤ k →
    mainsheetref13_Right.l1 k l (i : Int) (j : Int) x.f0 x.f1 c d = some (if ((l.take i).drop j).any (clash x) then false else r) := by
  induction n with
  | zero =>
    intro k j hj hn hk
    obtain ⟨k, rfl⟩ : ∃ m, k = m + 1 := ⟨k - 1, by omega⟩
    rw [mainsheetref13_Right.l1, if_neg (by omega), wrap_small _ (by omega) (by omega), show (i : Int) + 1 = ((i + 1 : Nat) : Int) by omega, hnext k (by omega)]
    rw [List.drop_eq_nil_of_le (by rw [List.length_take]; omega)]
    rfl
  | succ n ih =>
    intro k j hj hn hk
    obtain ⟨k, rfl⟩ : ∃ m, k = m + 1 := ⟨k - 1, by omega⟩
    have hjl : j < l.length := by omega
    have hd : (l.take i).drop j = l[j] :: (l.take i).drop (j + 1) := by
      rw [List.drop_eq_getElem_cons (by rw [List.length_take]; omega)]
      simp
    rw [mainsheetref13_Right.l1, if_pos (by omega), if_pos (by omega), if_pos (by omega), rd36_get l j hjl, wrap_small _ (by omega) (by omega), show (j : Int) + 1 = ((j + 1 : Nat) : Int) by omega, hd, List.any_cons]
    unfold clash
    by_cases h1 : l[j].f0 = x.f0
    · rw [if_pos h1]; simp [h1]
    · rw [if_neg h1]
      by_cases h2 : x.f1 ≥ 0
      · rw [if_pos h2]
        by_cases h3 : l[j].f1 = x.f1
        · rw [if_pos h3]; simp [h3, h2]
        · rw [if_neg h3, ih k (j + 1) (by omega) (by omega) (by omega)]
          simp [h1, h3, clash]
      · rw [if_neg h2, ih k (j + 1) (by omega) (by omega) (by omega)]
        have : ¬ (0 ≤ x.f1) := h2
        simp [h1, this, clash]
theorem right13_j1 (l : List S36) (i : Nat) (x : S36) (b : Bool) (hi : i ≤ l.length) (hl : l.length ≤ 1000000) (c d : Int) (r : Bool) (K : Nat) (hnext : ∀ k, K ≤ k → mainsheetref13_Right.l0 k l ((i + 1 : Nat) : Int) = some r) (k : Nat) (hk : K + i + 2 ≤ k) :
    mainsheetref13_Right.j1 k l (i : Int) b x.f0 x.f1 c d = some (if b || (l.take i).any (clash x) then false else r) := by
  obtain ⟨k, rfl⟩ : ∃ m, k = m + 1 := ⟨k - 1, by omega⟩
  rw [mainsheetref13_Right.j1]
  cases b with
  | true => rw [if_pos rfl]; simp
  | false =>
    rw [if_neg (by simp), show (0 : Int) = ((0 : Nat) : Int) from rfl, right13_l1 l i x hi hl c d r K hnext i k 0 (by omega) (by omega) (by omega)]
    simp
theorem right13_l0 (l : List S36) (hl : l.length ≤ 1000000) (hwf : ∀ x ∈ l, Wf36 x) (n : Nat) : ∀ (i : Nat), i ≤ l.length → l.length - i = n → ∃ K, ∀ k, K ≤ k → mainsheetref13_Right.l0 k l (i : Int) = some (goodFrom (l.take i) (l.drop i)) := by
  induction n with
  | zero =>
    intro i hi hn
    refine ⟨1, fun k hk => ?_⟩
    obtain ⟨k, rfl⟩ : ∃ m, k = m + 1 := ⟨k - 1, by omega⟩
    rw [mainsheetref13_Right.l0, if_neg (by omega), List.drop_eq_nil_of_le (by omega)]
    rfl
  | succ n ih =>
    intro i hi hn
    obtain ⟨K, hK⟩ := ih (i + 1) (by omega) (by omega)
    refine ⟨K + i + 3, fun k hk => ?_⟩
    obtain ⟨k, rfl⟩ : ∃ m, k = m + 1 := ⟨k - 1, by omega⟩
    have hil : i < l.length := by omega
    obtain ⟨w1, w2, w3, w4⟩ := hwf l[i] (List.getElem_mem hil)
    have hj := fun b => right13_j1 l i l[i] b hi hl l[i].f2.f0 l[i].f2.f1 _ K hK k (by omega)
    have hm : mainsheetref07_Right.f l[i].f2.f0 l[i].f2.f1 = some (okM l[i].f2) := by
      have := MRight_val l[i].f2.f0.toNat l[i].f2.f1.toNat
      rw [show ((l[i].f2.f0.toNat : Nat) : Int) = l[i].f2.f0 by omega, show ((l[i].f2.f1.toNat : Nat) : Int) = l[i].f2.f1 by omega] at this
      exact this
    rw [mainsheetref13_Right.l0, if_pos (by omega), if_pos (by omega), rd36_get l i hil, hm, Option.bind_some, hj, hj, List.drop_eq_getElem_cons hil, goodFrom, ← List.take_succ_eq_append_getElem hil]
    unfold rangeBad
    by_cases c1 : l[i].f0 < 1
    · rw [if_pos c1]; simp [c1]
    · rw [if_neg c1]
      by_cases c2 : l[i].f0 > 16
      · rw [if_pos c2]; simp [c2]
      · rw [if_neg c2]
        by_cases c3 : l[i].f1 < -1
        · rw [if_pos c3]; simp [c3]
        · rw [if_neg c3]
          by_cases c4 : l[i].f1 > 7
          · rw [if_pos c4]; simp [c4]
          · rw [if_neg c4]
            have d2 : ¬ (16 < l[i].f0) := c2
            have d4 : ¬ (7 < l[i].f1) := c4
            simp only [c1, d2, c3, d4, decide_false, Bool.false_or]
            cases okM l[i].f2 <;> cases (l.take i).any (clash l[i]) <;> simp

/-- the marks tell what stands ahead -/
def Marks (pre : List S36) (ms ts : List Bool) : Prop := ms.length = 17 ∧ ts.length = 8 ∧ (∀ v : Nat, v ≤ 16 → ms.getD v false = pre.any fun y => decide (y.f0 = v)) ∧ ∀ c : Nat, c < 8 → ts.getD c false = pre.any fun y => decide (y.f1 = c)
theorem any_snoc {α : Type} (p : α → Bool) (l : List α) (x : α) : (l ++ [x]).any p = (l.any p || p x) := by simp
theorem set_getD (l : List Bool) (i j : Nat) (hi : i < l.length) : (l.set i true).getD j false = (l.getD j false || decide (i = j)) := by
  rw [List.getD_eq_getElem?_getD, List.getD_eq_getElem?_getD, List.getElem?_set]
  by_cases h : i = j
  · subst h; rw [if_pos rfl, if_pos hi]; simp
  · rw [if_neg h]; simp [h]
theorem check_good (l : List S36) : ∀ (pre : List S36) (ms ts : List Bool), Marks pre ms ts → (checkFrom ms ts l = 0 ↔ goodFrom pre l = true) := by
  induction l with
  | nil => intro pre ms ts _; simp [checkFrom, goodFrom]
  | cons x l ih =>
    intro pre ms ts ⟨h1, h2, h3, h4⟩
    unfold checkFrom goodFrom
    have hb : badWish ms ts x = (rangeBad x || pre.any (clash x)) := by
      unfold badWish rangeBad
      by_cases c1 : x.f0 < 1
      · simp [c1]
      · by_cases c2 : 16 < x.f0
        · simp [c2]
        · by_cases c3 : x.f1 < -1
          · simp [c3]
          · by_cases c4 : 8 ≤ x.f1
            · have : 7 < x.f1 := by omega
              simp [c4, this]
            · have c4' : ¬ (7 < x.f1) := by omega
              have e3 := h3 x.f0.toNat (by omega)
              have hp : pre.any (clash x) = ((pre.any fun y => decide (y.f0 = x.f0)) || (decide (0 ≤ x.f1) && pre.any fun y => decide (y.f1 = x.f1))) := by
                clear ih h3 h4 e3
                induction pre with
                | nil => simp
                | cons y pre ihp =>
                  simp only [List.any_cons, ihp, clash]
                  cases decide (y.f0 = x.f0) <;> cases decide (0 ≤ x.f1) <;> cases decide (y.f1 = x.f1) <;> simp
              rw [show ((x.f0.toNat : Nat) : Int) = x.f0 by omega] at e3
              rw [hp, ← e3]
              simp only [c1, c2, c3, c4, c4', decide_false, Bool.false_or, Bool.or_false]
              by_cases c5 : 0 ≤ x.f1
              · have e4 := h4 x.f1.toNat (by omega)
                rw [show ((x.f1.toNat : Nat) : Int) = x.f1 by omega] at e4
                have c6 : -1 < x.f1 := by omega
                rw [← e4]
                simp only [c5, c6, decide_true, Bool.true_and]
                cases ms.getD x.f0.toNat false <;> cases okM x.f2 <;> cases ts.getD x.f1.toNat false <;> rfl
              · have c6 : ¬ (-1 < x.f1) := by omega
                simp only [c5, c6, decide_false, Bool.false_and, Bool.or_false]
                cases ms.getD x.f0.toNat false <;> cases okM x.f2 <;> rfl
    rw [hb]
    by_cases hg : (rangeBad x || pre.any (clash x)) = true
    · rw [if_pos hg]
      rw [Bool.or_eq_true] at hg
      rcases hg with hg | hg <;> simp [hg]
    · rw [if_neg hg]
      have hg' : rangeBad x = false ∧ pre.any (clash x) = false := by simpa using hg
      rw [hg'.1, hg'.2]
      simp only [Bool.not_false, Bool.true_and]
      have hr := hg'.1
      unfold rangeBad at hr
      simp only [Bool.or_eq_false_iff, decide_eq_false_iff_not] at hr
      obtain ⟨⟨⟨⟨r1, r2⟩, r3⟩, r4⟩, _⟩ := hr
      refine ih (pre ++ [x]) _ _ ⟨by simpa using h1, by split <;> simpa using h2, fun v hv => ?_, fun c hc => ?_⟩
      · rw [set_getD _ _ _ (by omega), h3 v hv, any_snoc]
        congr 1
        exact decide_eq_decide.2 (by omega)
      · rw [any_snoc, ← h4 c hc]
        split
        · rw [set_getD _ _ _ (by omega)]
          congr 1
          exact decide_eq_decide.2 (by omega)
        · have : decide (x.f1 = (c : Int)) = false := decide_eq_false (by omega)
          rw [this, Bool.or_false]
theorem marks_nil : Marks [] (List.replicate 17 false) (List.replicate 8 false) := by
  refine ⟨by simp, by simp, fun v hv => ?_, fun c hc => ?_⟩
  · rw [List.getD_eq_getElem?_getD, List.getElem?_replicate, if_pos (by omega)]; rfl
  · rw [List.getD_eq_getElem?_getD, List.getElem?_replicate, if_pos (by omega)]; rfl
def placeOk (l : List S36) : Int := checkFrom (List.replicate 17 false) (List.replicate 8 false) l
theorem check_cases (l : List S36) : ∀ ms ts, checkFrom ms ts l = 0 ∨ checkFrom ms ts l = 230 := by
  induction l with
  | nil => intro ms ts; exact .inl rfl
  | cons x l ih =>
    intro ms ts
    unfold checkFrom
    split
    · exact .inr rfl
    · exact ih _ _
theorem Right13_val (l : List S36) (hl : l.length ≤ 1000000) (hwf : ∀ x ∈ l, Wf36 x) : ∃ K, ∀ k, K ≤ k → mainsheetref13_Right.f k l = some (decide (placeOk l = 0)) := by
  obtain ⟨K, hK⟩ := right13_l0 l hl hwf l.length 0 (by omega) (by omega)
  refine ⟨K, fun k hk => ?_⟩
  have h := hK k hk
  have e : goodFrom (l.take 0) (l.drop 0) = decide (placeOk l = 0) := by
    have := check_good l [] _ _ marks_nil
    simp only [List.take_zero, List.drop_zero]
    unfold placeOk
    by_cases hg : goodFrom [] l = true
    · rw [hg, decide_eq_true (this.2 hg)]
    · rw [Bool.eq_false_iff.2 hg, decide_eq_false (fun hc => hg (this.1 hc))]
  rw [e] at h
  exact h
theorem why_val (l : List S36) (a : Int) (hl : l.length ≤ 1000000) (hwf : ∀ x ∈ l, Wf36 x) : ∃ K, ∀ k, K ≤ k → mainsheetlaw13_why.f k l a = some (askedOf l a) := by
  obtain ⟨K, hK⟩ := Right13_val l hl hwf
  refine ⟨K, fun k hk => ?_⟩
  unfold mainsheetlaw13_why.f askedOf
  rw [hK k hk, Option.bind_some, RRight_val, Option.bind_some]
  rcases check_cases l (List.replicate 17 false) (List.replicate 8 false) with h | h
  · have : placeOk l = 0 := h
    rw [this, h]
    simp only [decide_true, if_true, ne_eq, not_true_eq_false, if_false]
    by_cases ha : a < 256
    · rw [if_pos (by simpa using ha), if_pos ha]
    · rw [if_neg (by simpa using ha), if_neg ha]
  · have : placeOk l = 230 := h
    rw [this, h]
    simp
theorem places_ok (l : List S36) : ∀ (ms ts : List Bool), checkFrom ms ts l = 0 → ∀ x ∈ l, okM x.f2 = true := by
  induction l with
  | nil => intro ms ts _ x hx; simp at hx
  | cons y l ih =>
    intro ms ts h x hx
    unfold checkFrom at h
    split at h
    · cases h
    · next hb =>
      rcases List.mem_cons.1 hx with rfl | hx
      · cases ho : okM x.f2 with
        | true => rfl
        | false => exact absurd (bad6 (f0 := x.f0) (f1 := x.f1) (ms := ms) (ts := ts) ho) hb
      · exact ih _ _ h x hx
end Go.Proofs.YtdmieaidheelbaaDoor.Q
