/- What the document's functions of layers 4 and 7 answer: plain Lean. -/
import Derived.Test.YtlfljoihcjmnkaaDoorMasks
import Derived.Test.YtlfljoihcjmnkaaDoorQRa
namespace Go.Proofs.YtlfljoihcjmnkaaDoor.Q
open Go Go.RowKit Go.Proofs.YtlfljoihcjmnkaaDoorW.PrintWords Go.Proofs.YtlfljoihcjmnkaaDoorW.PrintLast Go.Proofs.YtlfljoihcjmnkaaDoorW.PrintMore
set_option linter.unusedVariables false
set_option linter.unusedSimpArgs false

theorem RRight_val (s : Int) : mainsheetref04_Right.f s = some (decide (s < 256)) := rfl
theorem MRight_val (h s : Nat) : mainsheetref07_Right.f (h : Int) (s : Int) = some (maskOk h s) := by
  have e1 : decide ((h : Int) < 256) = decide (h < 256) := decide_eq_decide.2 (by omega)
  have e2 : decide ((s : Int) < 256) = decide (s < 256) := decide_eq_decide.2 (by omega)
  have e3 : decide ((h : Int) > 0) = decide (h ≠ 0) := decide_eq_decide.2 (by omega)
  unfold mainsheetref07_Right.f maskOk
  rw [RRight_val, RRight_val, e1, e2, e3]
  simp only [Option.bind_some]
  cases decide (h < 256) <;> cases decide (s < 256) <;> rfl
theorem MAllows_val (h s p : Nat) (hh : h < 4294967296) (hp : p < 4294967296) : mainsheetref07_Allows.f (h : Int) (s : Int) (p : Int) = some ((h &&& p : Nat) : Int) := by
  unfold mainsheetref07_Allows.f; rw [and_nat h p hh hp]
theorem MLikes_val (h s p : Nat) (hh : h < 4294967296) (hs : s < 4294967296) (hp : p < 4294967296) : mainsheetref07_Likes.f (h : Int) (s : Int) (p : Int) = some (if h &&& p &&& s = 0 then ((h &&& p : Nat) : Int) else ((h &&& p &&& s : Nat) : Int)) := by
  have h1 : h &&& p < 4294967296 := Nat.lt_of_le_of_lt Nat.and_le_left hh
  unfold mainsheetref07_Likes.f
  rw [and_nat h p hh hp, and_nat _ s h1 hs]
  by_cases hc : h &&& p &&& s = 0
  · rw [if_neg (by omega), if_pos hc]
  · rw [if_pos (by omega), if_neg hc]
theorem RHas_val (s : Nat) (hs : s < 4294967296) (c : Int) : mainsheetref04_Has.f (s : Int) c = some (hasN s c) := by
  unfold mainsheetref04_Has.f mainsheetref04_Cpu.f hasN
  by_cases h0 : c ≥ 0
  · rw [if_pos h0]; simp only [Option.bind_some]
    by_cases h8 : c < 8
    · obtain ⟨n, rfl⟩ : ∃ n : Nat, c = n := ⟨c.toNat, by omega⟩
      have hn : n < 8 := by omega
      rw [if_pos (by simpa using h8), if_pos h0]
      have e : shr .u32 (s : Int) (n : Int) = ((s / 2 ^ n : Nat) : Int) := by
        unfold shr
        rw [Nat.min_eq_left (by show n ≤ 32; omega), Int.toNat_natCast]
        rw [Int.natCast_ediv]; simp
      rw [e, Int.toNat_natCast]
      have e2 : (((s / 2 ^ n : Nat) : Int)).tmod 2 = ((s / 2 ^ n % 2 : Nat) : Int) := by
        rw [Int.tmod_eq_emod_of_nonneg (Int.natCast_nonneg _)]; omega
      rw [e2]
      have e3 : s.testBit n = decide (s / 2 ^ n % 2 = 1) := by rw [Nat.testBit_eq_decide_div_mod_eq]
      rw [e3]
      have h3 : (n : Int) < 8 := h8
      by_cases hb : s / 2 ^ n % 2 = 1
      · simp [hb, h3]
      · have : s / 2 ^ n % 2 = 0 := by omega
        simp [this]
    · rw [if_neg (by simpa using h8)]; simp [h8]
  · rw [if_neg h0]; simp only [Option.bind_some]
    rw [if_neg (by simp)]; have : ¬ (0 ≤ c) := by omega
    simp [this]

def listFrom (s i : Nat) : List Int := (((List.range 8).drop i).filter fun c => s.testBit c).map fun (c : Nat) => (c : Int)
theorem listFrom_step (s i : Nat) (hi : i < 8) : listFrom s i = (if s.testBit i then [(i : Int)] else []) ++ listFrom s (i + 1) := by
  unfold listFrom
  rw [List.drop_eq_getElem_cons (by simpa using hi)]
  simp only [List.getElem_range, List.filter_cons]
  split <;> simp
theorem rlist_loop (s : Nat) (hs : s < 4294967296) (d : Nat) : ∀ (k i : Nat) (out : List Int), i ≤ 8 → 8 - i = d → d < k → out.length ≤ i → mainsheetref04_List.l0 k (s : Int) out (i : Int) = some (out ++ listFrom s i) := by
  induction d with
  | zero =>
    intro k i out hi hd hk ho
    obtain ⟨k, rfl⟩ : ∃ m, k = m + 1 := ⟨k - 1, by omega⟩
    obtain rfl : i = 8 := by omega
    simp only [mainsheetref04_List.l0]; rw [if_neg (by omega)]
    have : listFrom s 8 = [] := by unfold listFrom; rw [show (List.range 8).drop 8 = [] from rfl]; rfl
    rw [this, List.append_nil]
  | succ d ih =>
    intro k i out hi hd hk ho
    obtain ⟨k, rfl⟩ : ∃ m, k = m + 1 := ⟨k - 1, by omega⟩
    simp only [mainsheetref04_List.l0]
    rw [if_pos (by omega), RHas_val s hs]
    simp only [Option.bind_some]
    have hb : hasN s (i : Int) = s.testBit i := by
      unfold hasN
      have : (i : Int) < 8 := by omega
      simp [this]
    rw [hb, wrap_small _ (by omega) (by omega), show (i : Int) + 1 = ((i + 1 : Nat) : Int) by omega, listFrom_step s i (by omega)]
    cases s.testBit i with
    | true =>
      rw [if_pos rfl, if_pos (by omega), ih k (i + 1) _ (by omega) (by omega) (by omega) (by simp; omega)]
      simp
    | false =>
      rw [if_neg (by simp), ih k (i + 1) _ (by omega) (by omega) (by omega) (by omega)]
      simp
theorem RList_val (s : Nat) (hs : s < 4294967296) (k : Nat) (hk : 9 ≤ k) : mainsheetref04_List.f k (s : Int) = some (listOf (s : Int)) := by
  unfold mainsheetref04_List.f
  have := rlist_loop s hs 8 k 0 [] (by omega) (by omega) (by omega) (by simp)
  rw [show (0 : Int) = ((0 : Nat) : Int) from rfl, this]
  simp [listFrom, listOf]
theorem rnext_loop (l : List Int) (a : Int) (hl : l.length ≤ 1000) (d : Nat) : ∀ (k i : Nat), i ≤ l.length → l.length - i = d → d < k →
    mainsheetref04_Next.l0 k a l (l.length : Int) (i : Int) = some (match (l.drop i).find? fun c => decide (a < c) with | some c => (c, true) | none => (0, false)) := by
  induction d with
  | zero =>
    intro k i hi hd hk
    obtain ⟨k, rfl⟩ : ∃ m, k = m + 1 := ⟨k - 1, by omega⟩
    simp only [mainsheetref04_Next.l0]; rw [if_neg (by omega), List.drop_eq_nil_of_le (by omega)]; rfl
  | succ d ih =>
    intro k i hi hd hk
    obtain ⟨k, rfl⟩ : ∃ m, k = m + 1 := ⟨k - 1, by omega⟩
    have hlt : i < l.length := by omega
    have e : rd l (i : Int) = l[i] := by simp [rd, hlt]
    simp only [mainsheetref04_Next.l0]
    rw [if_pos (by omega), if_pos (by omega), if_pos (by omega), e, List.drop_eq_getElem_cons hlt, List.find?_cons]
    by_cases hc : l[i] > a
    · rw [if_pos hc]
      have : decide (a < l[i]) = true := by simpa using hc
      rw [this]
    · rw [if_neg hc, wrap_small _ (by omega) (by omega), show (i : Int) + 1 = ((i + 1 : Nat) : Int) by omega, ih k (i + 1) (by omega) (by omega) (by omega)]
      have : decide (a < l[i]) = false := by simpa using hc
      rw [this]
theorem RNext_val (s : Nat) (hs : s < 4294967296) (a : Int) (k : Nat) (hk : 9 ≤ k) : mainsheetref04_Next.f k (s : Int) a = some (nextOf (s : Int) a) := by
  have hl := listOf_len (s : Int)
  unfold mainsheetref04_Next.f
  rw [RList_val s hs k hk]
  simp only [Option.bind_some]
  rw [show (0 : Int) = ((0 : Nat) : Int) from rfl, rnext_loop (listOf (s : Int)) a (by omega) (listOf (s : Int)).length k 0 (by omega) (by omega) (by omega)]
  rfl
theorem same_loop (a b : List Int) (hl : a.length = b.length) (hb : a.length ≤ 1000000) (d : Nat) : ∀ (k i : Nat), i ≤ a.length → a.length - i = d → d < k →
    mainsheetref04_SameInts.l0 k a b (a.length : Int) (i : Int) = some (decide (a.drop i = b.drop i)) := by
  induction d with
  | zero =>
    intro k i hi hd hk
    obtain ⟨k, rfl⟩ : ∃ m, k = m + 1 := ⟨k - 1, by omega⟩
    simp only [mainsheetref04_SameInts.l0]; rw [if_neg (by omega), List.drop_eq_nil_of_le (by omega), List.drop_eq_nil_of_le (by omega)]; simp
  | succ d ih =>
    intro k i hi hd hk
    obtain ⟨k, rfl⟩ : ∃ m, k = m + 1 := ⟨k - 1, by omega⟩
    have hlt : i < a.length := by omega
    have e : rd a (i : Int) = a[i] := by simp [rd, hlt]
    have e2 : rd b (i : Int) = b[i]'(by omega) := by simp [rd, show i < b.length by omega]
    simp only [mainsheetref04_SameInts.l0]
    have da := List.drop_eq_getElem_cons hlt
    have db := List.drop_eq_getElem_cons (show i < b.length by omega)
    rw [if_pos (by omega), if_pos (by omega), if_pos (by omega), if_pos (by omega), e, e2, da, db]
    by_cases hc : a[i] = b[i]'(by omega)
    · rw [if_pos hc, wrap_small _ (by omega) (by omega), show (i : Int) + 1 = ((i + 1 : Nat) : Int) by omega, ih k (i + 1) (by omega) (by omega) (by omega), hc]
      exact congrArg some (decide_eq_decide.2 ⟨fun h => by rw [h], fun h => (List.cons.inj h).2⟩)
    · rw [if_neg hc]
      refine congrArg some ?_
      symm
      rw [decide_eq_false_iff_not]
      exact fun h => hc (List.cons.inj h).1
theorem Same_val (a b : List Int) (hb : a.length ≤ 1000000) (k : Nat) (hk : a.length < k) : mainsheetref04_SameInts.f k a b = some (decide (a = b)) := by
  unfold mainsheetref04_SameInts.f
  by_cases hl : a.length = b.length
  · rw [if_pos (by omega), show (0 : Int) = ((0 : Nat) : Int) from rfl, same_loop a b hl hb a.length k 0 (by omega) (by omega) (by omega)]
    simp
  · rw [if_neg (by omega)]
    congr 1
    symm
    rw [decide_eq_false_iff_not]
    intro h; subst h; exact hl rfl
end Go.Proofs.YtlfljoihcjmnkaaDoor.Q
