/- MaskFewer, the plain law. -/
import Derived.Test.YtlfljoihcjmnkaaDoorPureFirst
import Derived.Test.YtlfljoihcjmnkaaDoorQFlaw07MaskFewer
namespace Go.Proofs.YtlfljoihcjmnkaaDoor.Q
open Go Go.RowKit Go.Proofs.YtlfljoihcjmnkaaDoorW.PrintWords Go.Proofs.YtlfljoihcjmnkaaDoorW.PrintLast Go.Proofs.YtlfljoihcjmnkaaDoorW.PrintMore
set_option linter.unusedVariables false
set_option linter.unusedSimpArgs false

theorem fold_le (f : Int → Nat) (B : Nat) (cs : List Int) : ∀ n, n ≤ B → (∀ c ∈ cs, f c ≤ B) → cs.foldl (fun n c => max n (f c)) n ≤ B := by
  induction cs with
  | nil => intro n h _; exact h
  | cons c cs ih => intro n h hc; exact ih _ (Nat.max_le.2 ⟨h, hc c (by simp)⟩) (fun d hd => hc d (by simp [hd]))
theorem le_fold (f : Int → Nat) (cs : List Int) : ∀ n, n ≤ cs.foldl (fun n c => max n (f c)) n ∧ ∀ c ∈ cs, f c ≤ cs.foldl (fun n c => max n (f c)) n := by
  induction cs with
  | nil => intro n; exact ⟨Nat.le_refl _, fun c hc => by simp at hc⟩
  | cons c cs ih =>
    intro n
    obtain ⟨h1, h2⟩ := ih (max n (f c))
    refine ⟨Nat.le_trans (Nat.le_max_left _ _) h1, fun d hd => ?_⟩
    rcases List.mem_cons.1 hd with rfl | hd
    · exact Nat.le_trans (Nat.le_max_right _ _) h1
    · exact h2 d hd
theorem most_zero (l : List S31) : mostN l 0 = 0 := by
  cases l with
  | nil => rfl
  | cons m l => unfold mostN; rw [if_pos rfl]
theorem most_ub (m : S31) (l : List S31) (s B : Nat) (hs : s < 256) (h0 : mostN l s ≤ B) (h1 : ∀ c, c < 8 → (hN m &&& s).testBit c = true → 1 + mostN l (minus s (2 ^ c)) ≤ B) : mostN (m :: l) s ≤ B := by
  unfold mostN
  split
  · exact Nat.zero_le _
  · rw [allows_hN m s hs]
    refine fold_le (fun c => 1 + mostN l (minus s (2 ^ c.toNat))) B _ _ h0 (fun c hc => ?_)
    obtain ⟨c0, c8, hb⟩ := list_mem _ _ hc
    exact h1 c.toNat (by omega) hb
theorem most_lb0 (m : S31) (l : List S31) (s : Nat) : mostN l s ≤ mostN (m :: l) s := by
  by_cases h : s = 0
  · subst h; rw [most_zero]; exact Nat.zero_le _
  · rw [show mostN (m :: l) s = _ from rfl, mostN, if_neg h]
    exact (le_fold (fun c => 1 + mostN l (minus s (2 ^ c.toNat))) _ _).1
theorem most_lb1 (m : S31) (l : List S31) (s : Nat) (hs : s < 256) (c : Nat) (hc : c < 8) (hb : (hN m &&& s).testBit c = true) : 1 + mostN l (minus s (2 ^ c)) ≤ mostN (m :: l) s := by
  have h : s ≠ 0 := by intro h; subst h; simp at hb
  rw [show mostN (m :: l) s = _ from rfl, mostN, if_neg h, allows_hN m s hs]
  have := (le_fold (fun c => 1 + mostN l (minus s (2 ^ c.toNat))) (listOf (hN m &&& s : Nat)) (mostN l s)).2 (c : Int) (mem_listOf _ c hc hb)
  simpa using this
def SubB (s t : Nat) : Prop := ∀ c, c < 8 → s.testBit c = true → t.testBit c = true
theorem SubB.minus {s t : Nat} (h : SubB s t) (c : Nat) (hc : c < 8) : SubB (minus s (2 ^ c)) (minus t (2 ^ c)) := fun d hd hb => by
  rw [minus_bit _ _ _ (pow_lt256 c hc) hd, Bool.and_eq_true] at hb ⊢
  exact ⟨h d hd hb.1, hb.2⟩
theorem minus_sub (s c : Nat) (hc : c < 8) : SubB (minus s (2 ^ c)) s := fun d hd hb => by
  rw [minus_bit _ _ _ (pow_lt256 c hc) hd, Bool.and_eq_true] at hb
  exact hb.1
theorem most_mono (l : List S31) : ∀ s t, s < 256 → t < 256 → SubB s t → mostN l s ≤ mostN l t := by
  induction l with
  | nil => intro s t _ _ _; exact Nat.le_refl _
  | cons m l ih =>
    intro s t hs ht h
    refine most_ub m l s _ hs (Nat.le_trans (ih s t hs ht h) (most_lb0 m l t)) (fun c hc hb => ?_)
    have hb2 : (hN m &&& t).testBit c = true := by
      rw [Nat.testBit_and, Bool.and_eq_true] at hb ⊢
      exact ⟨hb.1, h c hc hb.2⟩
    exact Nat.le_trans (by have := ih _ _ (minus_lt _ _ hs) (minus_lt _ _ ht) (h.minus c hc); omega) (most_lb1 m l t ht c hc hb2)
theorem ones_minus (s c : Nat) (hc : c < 8) (hb : s.testBit c = true) : ones (minus s (2 ^ c)) + 1 ≤ ones s := by
  have e := ones_or_and (minus s (2 ^ c)) (2 ^ c)
  have z : ones (minus s (2 ^ c) &&& 2 ^ c) = 0 := by
    have : ones (minus s (2 ^ c) &&& 2 ^ c) ≤ ones 0 := ones_mono fun d hd hb2 => by
      rw [Nat.testBit_and, minus_bit _ _ _ (pow_lt256 c hc) hd, pow_bit] at hb2
      exfalso
      by_cases hcd : c = d
      · simp [hcd] at hb2
      · simp [hcd] at hb2
    have z0 : ones 0 = 0 := by decide +kernel
    omega
  rw [ones_pow c hc] at e
  have : ones (minus s (2 ^ c) ||| 2 ^ c) ≤ ones s := ones_mono fun d hd hb2 => by
    rw [Nat.testBit_or, Bool.or_eq_true] at hb2
    rcases hb2 with h | h
    · exact minus_sub s c hc d hd h
    · rw [pow_bit] at h
      obtain rfl : c = d := by simpa using h
      exact hb
  omega
theorem most_ones (l : List S31) : ∀ s, s < 256 → mostN l s ≤ ones s := by
  induction l with
  | nil => intro s _; exact Nat.zero_le _
  | cons m l ih =>
    intro s hs
    refine most_ub m l s _ hs (ih s hs) (fun c hc hb => ?_)
    rw [Nat.testBit_and, Bool.and_eq_true] at hb
    have := ones_minus s c hc hb.2
    have := ih _ (minus_lt s (2 ^ c) hs)
    omega
/-- one mask more -/
theorem most_ins (m : S31) (r : List S31) (p : List S31) : ∀ s, s < 256 → mostN (p ++ r) s ≤ mostN (p ++ m :: r) s ∧ mostN (p ++ m :: r) s ≤ mostN (p ++ r) s + 1 := by
  induction p with
  | nil =>
    intro s hs
    refine ⟨most_lb0 m r s, most_ub m r s _ hs (Nat.le_succ _) (fun c hc _ => ?_)⟩
    have := most_mono r _ s (minus_lt s (2 ^ c) hs) hs (minus_sub s c hc)
    simp only [List.nil_append]
    omega
  | cons x p ih =>
    intro s hs
    constructor
    · refine most_ub x (p ++ r) s _ hs (Nat.le_trans (ih s hs).1 (most_lb0 x _ s)) (fun c hc hb => ?_)
      have h1 := (ih _ (minus_lt s (2 ^ c) hs)).1
      have h2 := most_lb1 x (p ++ m :: r) s hs c hc hb
      simp only [List.cons_append]
      omega
    · have h0 := (ih s hs).2
      have h1 := most_lb0 x (p ++ r) s
      refine most_ub x (p ++ m :: r) s _ hs (by simp only [List.cons_append]; omega) (fun c hc hb => ?_)
      have h1 := (ih _ (minus_lt s (2 ^ c) hs)).2
      have h2 := most_lb1 x (p ++ r) s hs c hc hb
      simp only [List.cons_append]
      omega
/-- more pCPUs -/
theorem most_more (l : List S31) : ∀ s t, s < 256 → t < 256 → mostN l t ≤ mostN l s + ones (minus t s) := by
  induction l with
  | nil => intro s t _ _; exact Nat.zero_le _
  | cons m l ih =>
    intro s t hs ht
    have h0 := ih s t hs ht
    have h1 := most_lb0 m l s
    refine most_ub m l t _ ht (by omega) (fun c hc hb => ?_)
    rw [Nat.testBit_and, Bool.and_eq_true] at hb
    by_cases hsc : s.testBit c = true
    · have h2 := ih (minus s (2 ^ c)) (minus t (2 ^ c)) (minus_lt _ _ hs) (minus_lt _ _ ht)
      have h3 := most_lb1 m l s hs c hc (by rw [Nat.testBit_and, hb.1, hsc]; rfl)
      have h4 : ones (minus (minus t (2 ^ c)) (minus s (2 ^ c))) ≤ ones (minus t s) := ones_mono fun d hd hq => by
        rw [minus_bit _ _ _ (minus_lt _ _ hs) hd, minus_bit _ _ _ (pow_lt256 c hc) hd, minus_bit _ _ _ (pow_lt256 c hc) hd] at hq
        rw [minus_bit _ _ _ hs hd]
        revert hq
        cases t.testBit d <;> cases s.testBit d <;> cases (2 ^ c).testBit d <;> simp
      omega
    · have h2 := ih s (minus t (2 ^ c)) hs (minus_lt _ _ ht)
      have hb2 : (minus t s).testBit c = true := by rw [minus_bit _ _ _ hs hc, hb.2]; simpa using hsc
      have h3 := ones_minus (minus t s) c hc hb2
      have h4 : ones (minus (minus t (2 ^ c)) s) ≤ ones (minus (minus t s) (2 ^ c)) := ones_mono fun d hd hq => by
        rw [minus_bit _ _ _ hs hd, minus_bit _ _ _ (pow_lt256 c hc) hd] at hq
        rw [minus_bit _ _ _ (pow_lt256 c hc) hd, minus_bit _ _ _ hs hd]
        revert hq
        cases t.testBit d <;> cases s.testBit d <;> cases (2 ^ c).testBit d <;> simp
      omega

theorem askedM_of {l l2 : List S31} {a : Int} (h : askedM l a = 0) (hs : ∀ x ∈ l2, x ∈ l) (hl : l2.length ≤ l.length) : askedM l2 a = 0 := by
  obtain ⟨h1, h2, h3⟩ := askedM_ok h
  have h4 : l2.all okM = true := by
    rw [List.all_eq_true] at h1 ⊢
    exact fun x hx => h1 x (hs x hx)
  unfold askedM
  rw [if_neg (by rw [h4]; simp), if_pos h2, if_neg (by omega)]

theorem fewer_l0 (l : List S31) (hl : l.length ≤ 12) (hwf : ∀ x ∈ l, Wf34 x) (s : Nat) (hs : s < 256) (ha : askedM l (s : Int) = 0) (more : Nat) (hm : more < 4294967296) (d : Nat) : ∀ (k i : Nat), i + d = l.length → d + 40 ≤ k →
    mainsheetlaw07_MaskFewer.l0 k l (s : Int) (more : Int) ((mostN l s : Nat) : Int) (l.length : Int) (i : Int) = some true := by
  have hle := mostN_le l s
  induction d with
  | zero =>
    intro k i hi hk
    obtain ⟨k, rfl⟩ : ∃ m, k = m + 1 := ⟨k - 1, by omega⟩
    have hor : Go.bits .or .u32 (s : Int) (more : Int) = ((s ||| more : Nat) : Int) := or_nat s more (by omega) hm
    have hlt : s ||| more < 4294967296 := by
      have := Nat.or_lt_two_pow (n := 32) (x := s) (y := more) (by omega) (by omega)
      omega
    have hok : okChoice l ((s ||| more : Nat) : Int) := ⟨hwf, by omega, by omega, by omega⟩
    rw [mainsheetlaw07_MaskFewer.l0, if_neg (by omega), hor, Most_val l _ hok k (by omega), Option.bind_some]
    simp only
    by_cases h0 : askedM l ((s ||| more : Nat) : Int) = 0
    · obtain ⟨_, h256, _⟩ := askedM_ok h0
      have hm2 : more < 256 := by
        have : more ≤ s ||| more := Nat.right_le_or
        omega
      have h1 : mostN l s ≤ mostN l (s ||| more) := most_mono l s _ hs (by omega) (fun c _ hb => by rw [Nat.testBit_or, hb]; rfl)
      have h2 := most_more l s (s ||| more) hs (by omega)
      have h3 : ones (minus (s ||| more) s) ≤ ones more := ones_mono fun d hd hq => by
        rw [minus_bit _ _ _ hs hd, Nat.testBit_or] at hq
        revert hq
        cases s.testBit d <;> cases more.testBit d <;> simp
      have h4 : ones more ≤ 8 := ones_le ⟨more, hm2⟩
      rw [if_pos h0, if_pos h0, if_pos (by rw [Int.toNat_natCast]; omega), Count_val more hm2, Option.bind_some, wrap_small _ (by omega) (by omega), Int.toNat_natCast, decide_eq_true (by omega)]
    · rw [if_neg h0]
  | succ d ih =>
    intro k i hi hk
    obtain ⟨k, rfl⟩ : ∃ m, k = m + 1 := ⟨k - 1, by omega⟩
    have hil : i < l.length := by omega
    have hlen : (l.take i ++ l.drop (i + 1)).length = l.length - 1 := by rw [List.length_append, List.length_take, List.length_drop]; omega
    have hsub : ∀ x ∈ l.take i ++ l.drop (i + 1), x ∈ l := fun x hx => by
      rcases List.mem_append.1 hx with h | h
      · exact List.mem_of_mem_take h
      · exact List.mem_of_mem_drop h
    have hok : okChoice (l.take i ++ l.drop (i + 1)) (s : Int) := ⟨fun x hx => hwf x (hsub x hx), by omega, by omega, by omega⟩
    have ha2 := askedM_of ha hsub (by omega)
    have hins := most_ins l[i] (l.drop (i + 1)) (l.take i) s hs
    rw [show l.take i ++ l[i] :: l.drop (i + 1) = l by rw [← List.drop_eq_getElem_cons hil, List.take_append_drop]] at hins
    have hle2 := mostN_le (l.take i ++ l.drop (i + 1)) s
    have e1 : ((i : Nat) : Int).toNat = i := Int.toNat_natCast i
    have e2 : (((i + 1 : Nat) : Int)).toNat = i + 1 := Int.toNat_natCast _
    rw [mainsheetlaw07_MaskFewer.l0, if_pos (by omega), Option.bind_some, if_pos (by omega), if_pos (by omega), Option.bind_some, if_pos (by simp; omega), Option.bind_some, List.nil_append, wrap_small ((i : Int) + 1) (by omega) (by omega), show (i : Int) + 1 = ((i + 1 : Nat) : Int) by omega, if_pos (by omega), if_pos (by omega), Option.bind_some, e1, e2, if_pos (by rw [List.length_take, List.length_drop]; omega), Option.bind_some, Most_val _ _ hok k (by omega), Option.bind_some]
    simp only
    rw [if_pos ha2, if_pos ha2, Int.toNat_natCast, if_neg (by omega), wrap_small _ (by omega) (by omega), if_neg (by omega)]
    by_cases hq : ((mostN l s : Nat) : Int) = (l.length : Int)
    · rw [if_pos hq, if_pos (by rw [hlen]; omega)]
      exact ih k (i + 1) (by omega) (by omega)
    · rw [if_neg hq]
      exact ih k (i + 1) (by omega) (by omega)
theorem fewer_j0 (l : List S31) (hl : l.length ≤ 12) (hwf : ∀ x ∈ l, Wf34 x) (free more : Int) (h0 : 0 ≤ free) (h1 : free < 4294967296) (m0 : 0 ≤ more) (m1 : more < 4294967296) (k : Nat) (hk : 100 ≤ k) : mainsheetlaw07_MaskFewer.j0 k l free more = some true := by
  have hok : okChoice l free := ⟨hwf, by omega, h0, h1⟩
  obtain ⟨k, rfl⟩ : ∃ m, k = m + 2 := ⟨k - 2, by omega⟩
  rw [mainsheetlaw07_MaskFewer.j0, Most_val l free hok _ (by omega), Option.bind_some]
  simp only
  by_cases ha : askedM l free = 0
  · obtain ⟨hall, hf, h16⟩ := askedM_ok ha
    obtain ⟨s, rfl⟩ : ∃ n : Nat, free = n := ⟨free.toNat, by omega⟩
    obtain ⟨more, rfl⟩ : ∃ n : Nat, more = n := ⟨more.toNat, by omega⟩
    have hs : s < 256 := by omega
    have hle := mostN_le l s
    have ho := most_ones l s hs
    have e : decide (askedM l (s : Int) = 0 ∧ mostN l s = l.length) = (((mostN l s : Nat) : Int) == (l.length : Int)) := by
      by_cases hq : mostN l s = l.length
      · rw [decide_eq_true ⟨ha, hq⟩, hq]; simp
      · rw [decide_eq_false (fun h => hq h.2)]; symm; rw [beq_eq_false_iff_ne]; omega
    rw [if_pos ha, if_pos ha, Fits_val l _ hok _ (by omega), Option.bind_some, Int.toNat_natCast, e, bne_self_eq_false, if_neg (by simp), if_neg (by omega), Count_val s hs, Option.bind_some, decide_eq_false (by omega), mainsheetlaw07_MaskFewer.j1, if_neg (by simp)]
    exact fewer_l0 l hl hwf s hs ha more (by omega) l.length k 0 (by omega) (by omega)
  · rw [if_neg ha, if_neg ha]
    rfl
theorem pure_MaskFewer (l : List S31) (free more : Int) (hwf : ∀ x ∈ l, Wf34 x) (h0 : 0 ≤ free) (h1 : free < 4294967296) (m0 : 0 ≤ more) (m1 : more < 4294967296) : ∃ k, mainsheetlaw07_MaskFewer.f k l free more = some true := by
  refine ⟨200, ?_⟩
  unfold mainsheetlaw07_MaskFewer.f
  rw [wakes07 200 (by omega), Option.bind_some, if_pos rfl]
  by_cases h10 : (l.length : Int) > 12
  · rw [if_pos h10, if_pos (by omega)]
    exact fewer_j0 (l.take 12) (by rw [List.length_take]; omega) (fun x hx => hwf x (List.mem_of_mem_take hx)) free more h0 h1 m0 m1 200 (by omega)
  · rw [if_neg h10]
    exact fewer_j0 l (by omega) hwf free more h0 h1 m0 m1 200 (by omega)
#print axioms pure_MaskFewer
end Go.Proofs.YtlfljoihcjmnkaaDoor.Q
