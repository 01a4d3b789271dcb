/- Hall's theorem for rows of masks: plain Lean. -/
import Derived.Test.YtlfljoihcjmnkaaDoorChoice
import Derived.Test.YtlfljoihcjmnkaaDoorOnes
namespace Go.Proofs.YtlfljoihcjmnkaaDoor.Q
open Go Go.RowKit
set_option linter.unusedVariables false
set_option linter.unusedSimpArgs false

def hN (m : S31) : Nat := if maskOk m.f0.toNat m.f1.toNat then m.f0.toNat else 0
theorem allows_hN (m : S31) (s : Nat) (hs : s < 256) : allowsN m.f0.toNat m.f1.toNat s = hN m &&& s := by
  unfold allowsN hN
  cases maskOk m.f0.toNat m.f1.toNat <;> simp [hs]
/-- each mask of a row has a pCPU of its own -/
def Sdr : List S31 → Nat → Prop
  | [], _ => True
  | m :: l, s => ∃ c : Nat, c < 8 ∧ (hN m &&& s).testBit c = true ∧ Sdr l (minus s (2 ^ c))
def un : List S31 → List Bool → Nat
  | m :: l, b :: I => (if b then hN m else 0) ||| un l I
  | _, _ => 0
def cnt (I : List Bool) : Nat := I.countP id
def Hall (l : List S31) (s : Nat) : Prop := ∀ I : List Bool, I.length = l.length → cnt I ≤ ones (un l I &&& s)

theorem countP_or_and {α : Type} (p q : α → Bool) (l : List α) : l.countP (fun x => p x || q x) + l.countP (fun x => p x && q x) = l.countP p + l.countP q := by
  induction l with
  | nil => rfl
  | cons x l ih => simp only [List.countP_cons]; cases p x <;> cases q x <;> simp <;> omega
theorem ones_or_and (a b : Nat) : ones (a ||| b) + ones (a &&& b) = ones a + ones b := by
  unfold ones
  have := countP_or_and (fun c => a.testBit c) (fun c => b.testBit c) (List.range 8)
  simpa [Nat.testBit_or, Nat.testBit_and] using this
theorem ones_mono {a b : Nat} (h : ∀ c, c < 8 → a.testBit c = true → b.testBit c = true) : ones a ≤ ones b := by
  unfold ones
  exact List.countP_mono_left fun c hc => h c (by simpa using hc)
theorem ones_pow (c : Nat) (hc : c < 8) : ones (2 ^ c) = 1 := by
  have h : ∀ c : Fin 8, ones (2 ^ c.val) = 1 := by decide +kernel
  exact h ⟨c, hc⟩

theorem un_or (l : List S31) : ∀ (I J : List Bool), I.length = J.length → un l (I.zipWith (· || ·) J) = un l I ||| un l J := by
  induction l with
  | nil => intro I J _; simp [un]
  | cons m l ih =>
    intro I J h
    cases I with
    | nil => cases J with
      | nil => simp [un]
      | cons _ _ => simp at h
    | cons b I => cases J with
      | nil => simp at h
      | cons d J =>
        simp only [List.zipWith_cons_cons, un, ih I J (by simpa using h)]
        refine Nat.eq_of_testBit_eq fun i => ?_
        simp only [Nat.testBit_or]
        cases b <;> cases d <;> simp <;> cases (hN m).testBit i <;> cases (un l I).testBit i <;> cases (un l J).testBit i <;> rfl
theorem un_and (l : List S31) : ∀ (I J : List Bool), I.length = J.length → ∀ c, (un l (I.zipWith (· && ·) J)).testBit c = true → (un l I).testBit c = true ∧ (un l J).testBit c = true := by
  induction l with
  | nil => intro I J _ c h; simp [un] at h
  | cons m l ih =>
    intro I J h c hc
    cases I with
    | nil => simp [un] at hc
    | cons b I => cases J with
      | nil => simp at h
      | cons d J =>
        simp only [List.zipWith_cons_cons, un, Nat.testBit_or, Bool.or_eq_true] at hc ⊢
        rcases hc with hc | hc
        · cases b <;> cases d <;> simp at hc ⊢
          exact ⟨.inl hc, .inl hc⟩
        · obtain ⟨h1, h2⟩ := ih I J (by simpa using h) c hc
          exact ⟨.inr h1, .inr h2⟩
theorem cnt_or_and : ∀ (I J : List Bool), I.length = J.length → cnt (I.zipWith (· || ·) J) + cnt (I.zipWith (· && ·) J) = cnt I + cnt J := by
  intro I
  induction I with
  | nil => intro J h; cases J with
    | nil => rfl
    | cons _ _ => simp at h
  | cons b I ih =>
    intro J h
    cases J with
    | nil => simp at h
    | cons d J =>
      have := ih J (by simpa using h)
      unfold cnt at this ⊢
      simp only [List.zipWith_cons_cons, List.countP_cons]
      cases b <;> cases d <;> simp <;> omega

/-- a row whose pCPUs are just as many as it is long -/
def Tight (l : List S31) (s : Nat) (I : List Bool) : Prop := I.length = l.length ∧ ones (un l I &&& s) = cnt I
theorem Tight.union {l : List S31} {s : Nat} (h : Hall l s) {I J : List Bool} (hI : Tight l s I) (hJ : Tight l s J) : Tight l s (I.zipWith (· || ·) J) := by
  have hl : I.length = J.length := hI.1.trans hJ.1.symm
  have l1 : (I.zipWith (· || ·) J).length = l.length := by rw [List.length_zipWith, hI.1, hJ.1]; omega
  have l2 : (I.zipWith (· && ·) J).length = l.length := by rw [List.length_zipWith, hI.1, hJ.1]; omega
  refine ⟨l1, ?_⟩
  have a1 := h _ l1
  have a2 := h _ l2
  have a3 := cnt_or_and I J hl
  have a4 := ones_or_and (un l I &&& s) (un l J &&& s)
  have e1 : un l (I.zipWith (· || ·) J) &&& s = (un l I &&& s) ||| (un l J &&& s) := by
    rw [un_or l I J hl]
    refine Nat.eq_of_testBit_eq fun i => ?_
    simp only [Nat.testBit_or, Nat.testBit_and]
    cases (un l I).testBit i <;> cases (un l J).testBit i <;> cases s.testBit i <;> rfl
  have e2 : ones (un l (I.zipWith (· && ·) J) &&& s) ≤ ones ((un l I &&& s) &&& (un l J &&& s)) := by
    refine ones_mono fun c _ hc => ?_
    simp only [Nat.testBit_and, Bool.and_eq_true] at hc ⊢
    obtain ⟨h1, h2⟩ := un_and l I J hl c hc.1
    exact ⟨⟨h1, hc.2⟩, h2, hc.2⟩
  rw [e1] at a1 ⊢
  have t1 := hI.2
  have t2 := hJ.2
  omega
theorem tight_nil (l : List S31) (s : Nat) : Tight l s (List.replicate l.length false) := by
  refine ⟨by simp, ?_⟩
  have h : ∀ l : List S31, un l (List.replicate l.length false) = 0 := by
    intro l
    induction l with
    | nil => rfl
    | cons m l ih => simp [un, List.replicate_succ, ih]
  have c : ∀ n, cnt (List.replicate n false) = 0 := by
    intro n
    induction n with
    | zero => rfl
    | succ n ih => unfold cnt at ih ⊢; rw [List.replicate_succ, List.countP_cons, ih]; rfl
  rw [h, c]
  have : 0 &&& s = 0 := by simp
  rw [this]; decide +kernel
theorem minus_and (a s c : Nat) (hc : c < 8) : ∀ d, d < 8 → (a &&& minus s (2 ^ c)).testBit d = ((a &&& s).testBit d && !decide (c = d)) := by
  intro d hd
  rw [Nat.testBit_and, minus_bit _ _ _ (pow_lt256 c hc) hd, pow_bit, Nat.testBit_and]
  cases a.testBit d <;> cases s.testBit d <;> rfl

/-- Hall's theorem, one mask: a row that meets the condition has a pCPU for its first mask behind which the rest meets it -/
theorem hall_step (m : S31) (l : List S31) (s : Nat) (h : Hall (m :: l) s) : ∃ c, c < 8 ∧ (hN m &&& s).testBit c = true ∧ Hall l (minus s (2 ^ c)) := by
  have hl : Hall l s := fun I hI => by
    have := h (false :: I) (by simpa using hI)
    simpa [un, cnt] using this
  refine Classical.byContradiction fun hno => ?_
  have hc : ∀ c, c < 8 → (hN m &&& s).testBit c = true → ∃ I, Tight l s I ∧ (un l I &&& s).testBit c = true := by
    intro c hc hb
    have : ¬ Hall l (minus s (2 ^ c)) := fun hh => hno ⟨c, hc, hb, hh⟩
    unfold Hall at this
    obtain ⟨I, hI⟩ := Classical.not_forall.1 this
    obtain ⟨hI1, hI2⟩ := Classical.not_imp.1 hI
    have hI3 := hl I hI1
    have hle : ones (un l I &&& s) ≤ ones (un l I &&& minus s (2 ^ c)) + 1 := by
      have e := ones_or_and (un l I &&& minus s (2 ^ c)) (2 ^ c)
      rw [ones_pow c hc] at e
      have : ones (un l I &&& s) ≤ ones ((un l I &&& minus s (2 ^ c)) ||| 2 ^ c) := by
        refine ones_mono fun d hd hb2 => ?_
        rw [Nat.testBit_or, minus_and _ _ _ hc d hd, hb2, pow_bit]
        cases decide (c = d) <;> rfl
      omega
    have hbit : (un l I &&& s).testBit c = true := by
      refine Classical.byContradiction fun hnb => ?_
      have : ones (un l I &&& s) ≤ ones (un l I &&& minus s (2 ^ c)) := by
        refine ones_mono fun d hd hb2 => ?_
        rw [minus_and _ _ _ hc d hd, hb2]
        by_cases hcd : c = d
        · subst hcd; exact absurd hb2 hnb
        · simp [hcd]
      omega
    exact ⟨I, ⟨hI1, by omega⟩, hbit⟩
  have hall : ∀ j, j ≤ 8 → ∃ I, Tight l s I ∧ ∀ c, c < j → (hN m &&& s).testBit c = true → (un l I &&& s).testBit c = true := by
    intro j
    induction j with
    | zero => intro _; exact ⟨_, tight_nil l s, fun c hc => by omega⟩
    | succ j ih =>
      intro hj
      obtain ⟨I, hI, hI2⟩ := ih (by omega)
      by_cases hb : (hN m &&& s).testBit j = true
      · obtain ⟨J, hJ, hJ2⟩ := hc j (by omega) hb
        refine ⟨_, Tight.union hl hI hJ, fun c hcj hcb => ?_⟩
        rw [Nat.testBit_and, un_or l I J (hI.1.trans hJ.1.symm), Nat.testBit_or]
        rcases Nat.lt_or_ge c j with hlt | hge
        · have := hI2 c hlt hcb
          rw [Nat.testBit_and, Bool.and_eq_true] at this
          simp [this.1, this.2]
        · obtain rfl : c = j := by omega
          rw [Nat.testBit_and, Bool.and_eq_true] at hJ2
          simp [hJ2.1, hJ2.2]
      · refine ⟨I, hI, fun c hcj hcb => ?_⟩
        rcases Nat.lt_or_ge c j with hlt | hge
        · exact hI2 c hlt hcb
        · obtain rfl : c = j := by omega
          exact absurd hcb hb
  obtain ⟨I, hI, hI2⟩ := hall 8 (Nat.le_refl _)
  have h1 := h (true :: I) (by simpa using hI.1)
  have h2 : ones (un (m :: l) (true :: I) &&& s) ≤ ones (un l I &&& s) := by
    refine ones_mono fun c hc8 hb => ?_
    simp only [un, if_true] at hb
    rw [Nat.testBit_and, Nat.testBit_or, Bool.and_eq_true, Bool.or_eq_true] at hb
    rcases hb with ⟨hb | hb, hsb⟩
    · exact hI2 c hc8 (by rw [Nat.testBit_and, hb, hsb]; rfl)
    · rw [Nat.testBit_and, hb, hsb]; rfl
  have h3 : cnt (true :: I) = cnt I + 1 := by simp [cnt]
  have h4 := hI.2
  omega
theorem hall_sdr (l : List S31) : ∀ s, Hall l s → Sdr l s := by
  induction l with
  | nil => intro s _; trivial
  | cons m l ih =>
    intro s h
    obtain ⟨c, h1, h2, h3⟩ := hall_step m l s h
    exact ⟨c, h1, h2, ih _ h3⟩
theorem sdr_hall (l : List S31) : ∀ s, Sdr l s → Hall l s := by
  induction l with
  | nil =>
    intro s _ I hI
    have : I = [] := List.eq_nil_of_length_eq_zero hI
    subst this
    exact Nat.zero_le _
  | cons m l ih =>
    rintro s ⟨c, hc, hb, hr⟩ I hI
    have hh := ih _ hr
    cases I with
    | nil => simp at hI
    | cons b I =>
      have h1 := hh I (by simpa using hI)
      have hsub : ∀ d, d < 8 → (un l I &&& minus s (2 ^ c)).testBit d = true → (un l I &&& s).testBit d = true := by
        intro d hd hb2
        rw [minus_and _ _ _ hc d hd, Bool.and_eq_true] at hb2
        exact hb2.1
      cases b with
      | false =>
        have e : un (m :: l) (false :: I) = un l I := by simp [un]
        have e2 : cnt (false :: I) = cnt I := by simp [cnt]
        rw [e, e2]
        exact Nat.le_trans h1 (ones_mono hsub)
      | true =>
        have e2 : cnt (true :: I) = cnt I + 1 := by simp [cnt]
        have e3 := ones_or_and (un l I &&& minus s (2 ^ c)) (2 ^ c)
        have e4 : ones ((un l I &&& minus s (2 ^ c)) &&& 2 ^ c) = 0 := by
          have : ones ((un l I &&& minus s (2 ^ c)) &&& 2 ^ c) ≤ ones 0 := by
            refine ones_mono fun d hd hb2 => ?_
            rw [Nat.testBit_and, minus_and _ _ _ hc d hd, pow_bit] at hb2
            exfalso
            by_cases hcd : c = d
            · simp [hcd] at hb2
            · simp [hcd] at hb2
          have z : ones 0 = 0 := by decide +kernel
          omega
        rw [ones_pow c hc] at e3
        have e5 : ones ((un l I &&& minus s (2 ^ c)) ||| 2 ^ c) ≤ ones (un (m :: l) (true :: I) &&& s) := by
          refine ones_mono fun d hd hb2 => ?_
          rw [Nat.testBit_or, Bool.or_eq_true] at hb2
          simp only [un, if_true]
          rw [Nat.testBit_and, Nat.testBit_or]
          rcases hb2 with hb2 | hb2
          · have := hsub d hd hb2
            rw [Nat.testBit_and, Bool.and_eq_true] at this
            simp [this.1, this.2]
          · rw [pow_bit] at hb2
            obtain rfl : c = d := by simpa using hb2
            rw [Nat.testBit_and, Bool.and_eq_true] at hb
            simp [hb.1, hb.2]
        rw [e2]
        omega
#print axioms hall_sdr

/-- all have a choice, just if each has a pCPU of its own -/
theorem fold_max (f : Int → Nat) (cs : List Int) : ∀ n b, n ≤ b → (∀ c ∈ cs, f c ≤ b) → (cs.foldl (fun n c => max n (f c)) n = b ↔ n = b ∨ ∃ c ∈ cs, f c = b) := by
  induction cs with
  | nil => intro n b _ _; simp
  | cons c cs ih =>
    intro n b hn hc
    have h1 := hc c (by simp)
    rw [List.foldl_cons, ih (max n (f c)) b (by omega) (fun d hd => hc d (by simp [hd]))]
    constructor
    · rintro (h | ⟨d, hd, h⟩)
      · by_cases hh : n = b
        · exact .inl hh
        · exact .inr ⟨c, by simp, by omega⟩
      · exact .inr ⟨d, by simp [hd], h⟩
    · rintro (h | ⟨d, hd, h⟩)
      · exact .inl (by omega)
      · rcases List.mem_cons.1 hd with rfl | hd
        · exact .inl (by omega)
        · exact .inr ⟨d, hd, h⟩
theorem mem_listOf (a : Nat) (c : Nat) (hc : c < 8) (hb : a.testBit c = true) : (c : Int) ∈ listOf (a : Int) := by
  unfold listOf
  exact List.mem_map.2 ⟨c, List.mem_filter.2 ⟨by simpa using hc, by simpa using hb⟩, rfl⟩
theorem most_sdr (l : List S31) : ∀ s, s < 256 → (mostN l s = l.length ↔ Sdr l s) := by
  induction l with
  | nil => intro s _; simp [mostN, Sdr]
  | cons m l ih =>
    intro s hs
    have hmn := mostN_le l s
    unfold mostN Sdr
    by_cases h0 : s = 0
    · subst h0
      rw [if_pos rfl]
      constructor
      · intro h; simp at h
      · rintro ⟨c, _, hb, _⟩; simp at hb
    · rw [if_neg h0, allows_hN m s hs, List.length_cons]
      rw [fold_max (fun c => 1 + mostN l (minus s (2 ^ c.toNat))) _ _ _ (by omega) (fun c _ => by have := mostN_le l (minus s (2 ^ c.toNat)); show 1 + mostN l (minus s (2 ^ c.toNat)) ≤ l.length + 1; omega)]
      constructor
      · rintro (h | ⟨c, hc, h⟩)
        · omega
        · obtain ⟨c0, c8, hb⟩ := list_mem _ _ hc
          refine ⟨c.toNat, by omega, hb, (ih _ (minus_lt _ _ hs)).1 (by omega)⟩
      · rintro ⟨c, hc, hb, hr⟩
        refine .inr ⟨(c : Int), mem_listOf _ c hc hb, ?_⟩
        rw [Int.toNat_natCast, (ih _ (minus_lt _ _ hs)).2 hr]
        omega
#print axioms most_sdr
end Go.Proofs.YtlfljoihcjmnkaaDoor.Q
