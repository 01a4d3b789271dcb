/- What the printed functions of cpuset and mask answer, over natural numbers: plain Lean. -/
import Derived.Test.YtlfljoihcjmnkaaDoorQMb
namespace Go.Proofs.YtlfljoihcjmnkaaDoor.Q
open Go Go.RowKit Go.Proofs.YtlfljoihcjmnkaaDoorW.PrintWords Go.Proofs.YtlfljoihcjmnkaaDoorW.PrintLast Go.Proofs.YtlfljoihcjmnkaaDoorW.PrintMore
set_option linter.unusedVariables false
set_option linter.unusedSimpArgs false

theorem wrap_small (n : Int) (h0 : -9223372036854775808 ≤ n) (h1 : n ≤ 9223372036854775807) : wrap64 n = n := by unfold wrap64; omega

theorem andNot_nat (a b : Nat) (ha : a < 4294967296) (hb : b < 256) : bits .andNot .u32 (a : Int) (b : Int) = ((a &&& (4294967295 - b) : Nat) : Int) := u32_andNot_nat a b ha (by omega)
/-- s &^ t, of bytes -/
def minus (a b : Nat) : Nat := a &&& (255 - b)
theorem testBit_255sub (b c : Nat) (hb : b < 256) (hc : c < 8) : (255 - b).testBit c = !b.testBit c := by
  have h := Nat.testBit_two_pow_sub_succ (n := 8) (x := b) (by omega) c
  rw [show 2 ^ 8 - (b + 1) = 255 - b by omega] at h
  rw [h]; simp [hc]
theorem testBit_max_sub (b c : Nat) (hb : b < 4294967296) (hc : c < 32) : (4294967295 - b).testBit c = !b.testBit c := by
  have h := Nat.testBit_two_pow_sub_succ (n := 32) (x := b) (by omega) c
  rw [show 2 ^ 32 - (b + 1) = 4294967295 - b by omega] at h
  rw [h]; simp [hc]
theorem testBit_high (a c : Nat) (ha : a < 256) (hc : 8 ≤ c) : a.testBit c = false := by
  have h : 2 ^ 8 ≤ 2 ^ c := Nat.pow_le_pow_right (by decide) hc
  exact Nat.testBit_lt_two_pow (by omega)
theorem eq_of_bits (a b : Nat) (ha : a < 256) (hb : b < 256) (h : ∀ c, c < 8 → a.testBit c = b.testBit c) : a = b := by
  refine Nat.eq_of_testBit_eq fun c => ?_
  rcases Nat.lt_or_ge c 8 with hc | hc
  · exact h c hc
  · rw [testBit_high a c ha hc, testBit_high b c hb hc]
theorem andNot_byte (a b : Nat) (ha : a < 256) (hb : b < 256) : bits .andNot .u32 (a : Int) (b : Int) = ((minus a b : Nat) : Int) := by
  rw [andNot_nat a b (by omega) hb]
  congr 1
  have h1 : a &&& (4294967295 - b) < 256 := Nat.lt_of_le_of_lt Nat.and_le_left ha
  have h2 : minus a b < 256 := Nat.lt_of_le_of_lt Nat.and_le_left ha
  refine eq_of_bits _ _ h1 h2 fun c hc => ?_
  unfold minus
  rw [Nat.testBit_and, Nat.testBit_and, testBit_max_sub b c (by omega) (by omega), testBit_255sub b c hb hc]
theorem minus_lt (a b : Nat) (ha : a < 256) : minus a b < 256 := Nat.lt_of_le_of_lt Nat.and_le_left ha
theorem minus_bit (a b c : Nat) (hb : b < 256) (hc : c < 8) : (minus a b).testBit c = (a.testBit c && !b.testBit c) := by
  unfold minus; rw [Nat.testBit_and, testBit_255sub b c hb hc]
theorem and_lt256 (a b : Nat) (ha : a < 256) : a &&& b < 256 := Nat.lt_of_le_of_lt Nat.and_le_left ha
theorem and_lt256' (a b : Nat) (hb : b < 256) : a &&& b < 256 := Nat.lt_of_le_of_lt Nat.and_le_right hb
theorem or_lt256 (a b : Nat) (ha : a < 256) (hb : b < 256) : a ||| b < 256 := by
  have := Nat.or_lt_two_pow (n := 8) (x := a) (y := b) (by omega) (by omega); simpa using this
theorem and_nat (a b : Nat) (ha : a < 4294967296) (hb : b < 4294967296) : bits .and .u32 (a : Int) (b : Int) = ((a &&& b : Nat) : Int) := u32_and_nat a b ha hb
theorem or_nat (a b : Nat) (ha : a < 4294967296) (hb : b < 4294967296) : bits .or .u32 (a : Int) (b : Int) = ((a ||| b : Nat) : Int) := u32_or_nat a b ha hb
theorem shl_one (c : Nat) (hc : c < 8) : shl .u32 1 (c : Int) = ((2 ^ c : Nat) : Int) := by
  have : c = 0 ∨ c = 1 ∨ c = 2 ∨ c = 3 ∨ c = 4 ∨ c = 5 ∨ c = 6 ∨ c = 7 := by omega
  rcases this with rfl | rfl | rfl | rfl | rfl | rfl | rfl | rfl <;> decide +kernel
theorem pow_lt256 (c : Nat) (hc : c < 8) : 2 ^ c < 256 := by
  have := Nat.pow_lt_pow_right (a := 2) (by omega) hc; simpa using this
theorem pow_bit (c d : Nat) : (2 ^ c).testBit d = decide (c = d) := Nat.testBit_two_pow

theorem hi_zero (s : Nat) (hs : s < 4294967296) : (bits .andNot .u32 (s : Int) 255 = 0) ↔ s < 256 := by
  have e : bits .andNot .u32 (s : Int) 255 = ((s &&& 4294967040 : Nat) : Int) := andNot_nat s 255 hs (by omega)
  rw [e]
  have hd : s = s % 256 + 256 * (s / 256) := by omega
  have hk : s &&& 4294967040 = 256 * (s / 256) := by
    refine Nat.eq_of_testBit_eq fun c => ?_
    rw [Nat.testBit_and, show (4294967040 : Nat) = 4294967295 - 255 by rfl]
    rcases Nat.lt_or_ge c 32 with hc | hc
    · rw [testBit_max_sub 255 c (by omega) hc]
      rw [show (256 : Nat) * (s / 256) = 2 ^ 8 * (s / 2 ^ 8) by simp, Nat.testBit_two_pow_mul, Nat.testBit_div_two_pow]
      rcases Nat.lt_or_ge c 8 with h8 | h8
      · rw [testBit_255 c h8]; simp; omega
      · rw [testBit_high 255 c (by omega) h8]; simp [h8, show c - 8 + 8 = c by omega]
    · have h1 : s.testBit c = false := Nat.testBit_lt_two_pow (Nat.lt_of_lt_of_le (show s < 2 ^ 32 by omega) (Nat.pow_le_pow_right (by omega) hc))
      rw [h1]
      have h2 : (256 * (s / 256)).testBit c = false := Nat.testBit_lt_two_pow (Nat.lt_of_lt_of_le (show 256 * (s / 256) < 2 ^ 32 by omega) (Nat.pow_le_pow_right (by omega) hc))
      rw [h2]; rfl
  rw [hk]; omega
theorem Check_val (s : Nat) (hs : s < 4294967296) : cpuset_Check.f (s : Int) = some (if s < 256 then 0 else 140) := by
  unfold cpuset_Check.f
  by_cases h : s < 256
  · rw [if_pos ((hi_zero s hs).2 h), if_pos h]
  · rw [if_neg (fun e => h ((hi_zero s hs).1 e)), if_neg h]

/-- may a mask be -/
def maskOk (h s : Nat) : Bool := decide (h < 256) && decide (s < 256) && decide (h ≠ 0)
/-- a mask's numbers are of their kind -/
def Wf34 (m : S31) : Prop := 0 ≤ m.f0 ∧ m.f0 < 4294967296 ∧ 0 ≤ m.f1 ∧ m.f1 < 4294967296
instance (m : S31) : Decidable (Wf34 m) := inferInstanceAs (Decidable (_ ∧ _ ∧ _ ∧ _))
def okM (m : S31) : Bool := maskOk m.f0.toNat m.f1.toNat
theorem right_loop (l : List S31) (hl : l.length < 9223372036854775807) (hwf : ∀ m ∈ l, Wf34 m) (d : Nat) : ∀ (k i : Nat), i ≤ l.length → l.length - i = d → d < k →
    mask_right.l0 k l (l.length : Int) (i : Int) = some ((l.drop i).all okM) := by
  induction d with
  | zero =>
    intro k i hi hd hk
    obtain ⟨k, rfl⟩ : ∃ m, k = m + 1 := ⟨k - 1, by omega⟩
    obtain rfl : i = l.length := by omega
    simp only [mask_right.l0]; rw [if_neg (by omega)]; simp
  | succ d ih =>
    intro k i hi hd hk
    obtain ⟨k, rfl⟩ : ∃ m, k = m + 1 := ⟨k - 1, by omega⟩
    have hlt : i < l.length := by omega
    have hget : rd_T31 l (i : Int) = l[i] := by simp [rd_T31, hlt]
    obtain ⟨h1, h2, h3, h4⟩ := hwf l[i] (List.getElem_mem hlt)
    have e0 : l[i].f0 = ((l[i].f0.toNat : Nat) : Int) := by omega
    have e1 : l[i].f1 = ((l[i].f1.toNat : Nat) : Int) := by omega
    rw [List.drop_eq_getElem_cons hlt, List.all_cons]
    simp only [mask_right.l0]
    rw [if_pos (by omega), if_pos (by omega), if_pos (by omega), hget]
    rw [e0, e1, Check_val _ (by omega), Check_val _ (by omega)]
    simp only [Option.bind_some]
    have hok : okM l[i] = (decide (l[i].f0.toNat < 256) && decide (l[i].f1.toNat < 256) && decide (l[i].f0.toNat ≠ 0)) := rfl
    rw [hok]
    by_cases c0 : l[i].f0.toNat < 256
    · by_cases c1 : l[i].f1.toNat < 256
      · by_cases c2 : l[i].f0.toNat = 0
        · simp [c0, c1, c2]
        · have hz : ¬ ((l[i].f0.toNat : Int) = 0) := by omega
          rw [if_pos c0, if_pos c1, if_pos rfl, if_pos rfl, if_neg hz, wrap_small _ (by omega) (by omega)]
          rw [show (i : Int) + 1 = ((i + 1 : Nat) : Int) by omega, ih k (i + 1) (by omega) (by omega) (by omega)]
          simp only [c0, c1, c2, decide_true, Bool.true_and, ne_eq, not_false_eq_true]
      · simp [c0, c1]
    · simp [c0]
theorem right_val (h s : Nat) (hh : h < 4294967296) (hs : s < 4294967296) (k : Nat) (hk : 2 ≤ k) : mask_right.f k [(⟨h, s⟩ : S31)] = some (maskOk h s) := by
  unfold mask_right.f
  rw [show (0 : Int) = ((0 : Nat) : Int) from rfl, right_loop _ (by simp) (by simp [Wf34]; omega) 1 k 0 (by simp) (by simp) (by omega)]
  simp [okM]
theorem MCheck_val (h s : Nat) (hh : h < 4294967296) (hs : s < 4294967296) (k : Nat) (hk : 2 ≤ k) : mask_Check.f k (h : Int) (s : Int) = some (if maskOk h s then 0 else 170) := by
  unfold mask_Check.f
  rw [right_val h s hh hs k hk]
  cases maskOk h s <;> simp
def allowsN (h s p : Nat) : Nat := if maskOk h s && decide (p < 256) then h &&& p else 0
theorem allowsN_lt (h s p : Nat) : allowsN h s p < 256 := by
  unfold allowsN
  split
  · next hc => simp [maskOk] at hc; exact and_lt256 _ _ hc.1.1.1
  · omega
theorem Allows_val (h s p : Nat) (hh : h < 4294967296) (hs : s < 4294967296) (hp : p < 4294967296) (k : Nat) (hk : 2 ≤ k) : mask_Allows.f k (h : Int) (s : Int) (p : Int) = some (allowsN h s p : Int) := by
  unfold mask_Allows.f allowsN
  rw [right_val h s hh hs k hk]
  simp only [Option.bind_some]
  cases hm : maskOk h s with
  | false => simp
  | true =>
    rw [Check_val p hp]
    by_cases hc : p < 256 <;> simp [hc, and_nat h p hh hp]
def likesN (h s p : Nat) : Nat := if allowsN h s p &&& s = 0 then allowsN h s p else allowsN h s p &&& s
theorem likesN_lt (h s p : Nat) : likesN h s p < 256 := by
  unfold likesN; split
  · exact allowsN_lt h s p
  · exact and_lt256 _ _ (allowsN_lt h s p)
theorem Likes_val (h s p : Nat) (hh : h < 4294967296) (hs : s < 4294967296) (hp : p < 4294967296) (k : Nat) (hk : 2 ≤ k) : mask_Likes.f k (h : Int) (s : Int) (p : Int) = some (likesN h s p : Int) := by
  unfold mask_Likes.f likesN
  rw [Allows_val h s p hh hs hp k hk]
  have hlt := allowsN_lt h s p
  simp only [Option.bind_some]
  rw [and_nat _ s (by omega) hs]
  by_cases hc : allowsN h s p &&& s = 0
  · rw [if_pos (by omega), if_pos hc]
  · rw [if_neg (by omega), if_neg hc]
def hasN (s : Nat) (c : Int) : Bool := decide (0 ≤ c) && decide (c < 8) && s.testBit c.toNat
theorem Has_val (s : Nat) (hs : s < 4294967296) (c : Int) : cpuset_Has.f (s : Int) c = some (hasN s c) := by
  unfold cpuset_Has.f cpuset_bit.f hasN
  by_cases h0 : c < 0
  · rw [if_pos h0]; simp only [Option.bind_some]
    rw [show (0 : Int) = ((0 : Nat) : Int) from rfl, and_nat s 0 hs (by omega)]
    have : ¬ (0 ≤ c) := by omega
    simp [this]
  · by_cases h8 : c ≥ 8
    · rw [if_neg h0, if_pos h8]; simp only [Option.bind_some]
      rw [show (0 : Int) = ((0 : Nat) : Int) from rfl, and_nat s 0 hs (by omega)]
      have : ¬ (c < 8) := by omega
      simp [this]
    · obtain ⟨n, rfl⟩ : ∃ n : Nat, c = n := ⟨c.toNat, by omega⟩
      have hn : n < 8 := by omega
      rw [if_neg h0, if_neg h8, if_pos (by omega)]; simp only [Option.bind_some]
      rw [shl_one n hn, and_nat s _ hs (by have := pow_lt256 n hn; omega)]
      have hb : s &&& 2 ^ n = if s.testBit n then 2 ^ n else 0 := by
        refine Nat.eq_of_testBit_eq fun d => ?_
        rw [Nat.testBit_and, pow_bit]
        by_cases hd : n = d
        · subst hd; cases hs2 : s.testBit n <;> simp
        · cases hs2 : s.testBit n <;> simp [hd, pow_bit]
      rw [hb]
      have hp : 0 < 2 ^ n := Nat.two_pow_pos n
      have h3 : (n : Int) < 8 := by omega
      cases hs2 : s.testBit n
      · simp [hs2]
      · have : ((2 ^ n : Nat) : Int) ≠ 0 := by omega
        simp only [if_true, Int.toNat_natCast, hs2, h3, Int.natCast_nonneg, decide_true, Bool.and_true]
        simpa using this
def bestN (h s p : Nat) (at_ : Int) : Int × Bool := if hasN (allowsN h s p) at_ then (at_, true) else nextOf (likesN h s p) (-1)
theorem u32r (s : Nat) (hs : s < 4294967296) : 0 ≤ (s : Int) ∧ (s : Int) < 4294967296 := ⟨Int.natCast_nonneg s, by omega⟩
theorem Next_val (s : Nat) (hs : s < 4294967296) (c : Int) : cpuset_Next.f (s : Int) c = some (nextOf s c) := by
  rw [cpuset_Next.f, if_pos (u32r s hs)]
theorem List_val (s : Nat) (hs : s < 4294967296) : cpuset_List.f (s : Int) = some (listOf s) := by
  rw [cpuset_List.f, if_pos (u32r s hs)]
theorem Best_val (h s p : Nat) (at_ : Int) (hh : h < 4294967296) (hs : s < 4294967296) (hp : p < 4294967296) (k : Nat) (hk : 2 ≤ k) : mask_Best.f k (h : Int) (s : Int) (p : Int) at_ = some (bestN h s p at_) := by
  have hlt : allowsN h s p < 4294967296 := Nat.lt_of_lt_of_le (allowsN_lt h s p) (by decide)
  have hlt' : likesN h s p < 4294967296 := Nat.lt_of_lt_of_le (likesN_lt h s p) (by decide)
  have e1 := Allows_val h s p hh hs hp k hk
  have e2 := Has_val (allowsN h s p) hlt at_
  have e3 := Likes_val h s p hh hs hp k hk
  have e4 := Next_val (likesN h s p) hlt' (-1)
  unfold mask_Best.f bestN
  rw [e1, Option.bind_some, e2, Option.bind_some, e3, Option.bind_some, e4, Option.bind_some]
  generalize hasN (allowsN h s p) at_ = b
  generalize nextOf (likesN h s p) (-1) = n
  cases b <;> rfl
end Go.Proofs.YtlfljoihcjmnkaaDoor.Q
