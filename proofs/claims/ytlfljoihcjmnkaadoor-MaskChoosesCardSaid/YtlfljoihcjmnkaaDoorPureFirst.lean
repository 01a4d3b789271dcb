/- MaskFirst, the plain law. -/
import Derived.Test.YtlfljoihcjmnkaaDoorPureHall
import Derived.Test.YtlfljoihcjmnkaaDoorQFlaw07MaskFirst
namespace Go.Proofs.YtlfljoihcjmnkaaDoor.Q
open Go Go.RowKit Go.Proofs.YtlfljoihcjmnkaaDoorW.PrintWords Go.Proofs.YtlfljoihcjmnkaaDoorW.PrintLast Go.Proofs.YtlfljoihcjmnkaaDoorW.PrintMore
set_option linter.unusedVariables false
set_option linter.unusedSimpArgs false

theorem Most_val (l : List S31) (a : Int) (h : okChoice l a) (k : Nat) (hk : l.length + 2 ≤ k) : mask_Most.f k l a = some (if askedM l a = 0 then ((mostN l a.toNat : Nat) : Int) else 0, askedM l a) := by
  unfold mask_Most.f
  rw [asked_valM l a h k hk, Option.bind_some]
  by_cases h0 : askedM l a = 0
  · obtain ⟨_, hf, hl⟩ := askedM_ok h0
    have hm : mask_most.f l a = some ((mostN l a.toNat : Nat) : Int) := by
      have := most_f (l := l) (s := a.toNat) h.1 hl (by have := h.2.2.1; omega)
      rw [show ((a.toNat : Nat) : Int) = a by have := h.2.2.1; omega] at this
      exact this
    rw [if_pos h0, if_pos h0, h0, hm]; rfl
  · rw [if_neg h0, if_neg h0]
theorem Fits_val (l : List S31) (a : Int) (h : okChoice l a) (k : Nat) (hk : l.length + 2 ≤ k) : mask_Fits.f k l a = some (decide (askedM l a = 0 ∧ mostN l a.toNat = l.length)) := by
  unfold mask_Fits.f
  rw [Most_val l a h k hk, Option.bind_some]
  simp only
  by_cases h0 : askedM l a = 0
  · rw [if_pos h0, if_pos h0]
    congr 1
    by_cases h1 : mostN l a.toNat = l.length
    · rw [decide_eq_true ⟨h0, h1⟩]; simp [h1]
    · rw [decide_eq_false (fun h => h1 h.2), beq_eq_false_iff_ne]; omega
  · rw [if_neg h0, decide_eq_false (fun h => h0 h.1)]

theorem listOf_sorted (a : Nat) : (listOf (a : Int)).Pairwise (· < ·) := by
  unfold listOf
  rw [List.pairwise_map]
  have h : (List.range 8).Pairwise (· < ·) := List.pairwise_lt_range
  exact (h.filter _).imp (fun h => by omega)
theorem first_fails (a : Nat) (p : Int → Bool) (c d : Int) (hf : (listOf (a : Int)).find? p = some c) (hd : d ∈ listOf (a : Int)) (hlt : d < c) : p d = false := by
  obtain ⟨hp, us, bs, he, hno⟩ := List.find?_eq_some_iff_append.1 hf
  have hs := listOf_sorted a
  rw [he] at hs hd
  obtain ⟨_, h2, h3⟩ := List.pairwise_append.1 hs
  rcases List.mem_append.1 hd with hd | hd
  · simpa using hno d hd
  · rcases List.mem_cons.1 hd with rfl | hd
    · omega
    · have := (List.pairwise_cons.1 h2).1 d hd
      omega

theorem first_l1 (a b : List Int) (hab : a.length = b.length + 1) (hb : b.length ≤ 100) (heq : a.drop 1 = b) (d : Nat) : ∀ (k i : Nat), i + d = b.length → d < k → mainsheetlaw07_MaskFirst.l1 k a b (b.length : Int) (i : Int) = some true := by
  induction d with
  | zero =>
    intro k i hi hk
    obtain ⟨k, rfl⟩ : ∃ m, k = m + 1 := ⟨k - 1, by omega⟩
    rw [mainsheetlaw07_MaskFirst.l1, if_neg (by omega)]
  | succ d ih =>
    intro k i hi hk
    obtain ⟨k, rfl⟩ : ∃ m, k = m + 1 := ⟨k - 1, by omega⟩
    have hib : i < b.length := by omega
    have e : rd b (i : Int) = rd a ((i + 1 : Nat) : Int) := by
      subst heq
      simp [rd, List.getD_eq_getElem?_getD]
    rw [mainsheetlaw07_MaskFirst.l1, if_pos (by omega), if_pos (by omega), if_pos (by omega), wrap_small ((i : Int) + 1) (by omega) (by omega), show (i : Int) + 1 = ((i + 1 : Nat) : Int) by omega, if_pos (by omega), if_pos (by omega), if_pos e]
    exact ih k (i + 1) (by omega) (by omega)

theorem askedM_tail {m : S31} {l : List S31} {a b : Int} (h : askedM (m :: l) a = 0) (hb : b < 256) : askedM l b = 0 := by
  obtain ⟨h1, _, h3⟩ := askedM_ok h
  rw [List.all_cons, Bool.and_eq_true] at h1
  unfold askedM
  rw [if_neg (by rw [h1.2]; simp), if_pos hb, if_neg (by simp only [List.length_cons] at h3; omega)]
theorem andNot_shl (s c : Nat) (hs : s < 256) (hc : c < 8) : Go.bits .andNot .u32 (s : Int) (shl .u32 1 (c : Int)) = ((minus s (2 ^ c) : Nat) : Int) := by
  rw [shl_one c hc, andNot_byte s _ hs (pow_lt256 c hc)]

theorem first_l0 (m : S31) (l : List S31) (hl : l.length ≤ 9) (hwf : ∀ x ∈ m :: l, Wf34 x) (s : Nat) (hs : s < 256) (ha : askedM (m :: l) (s : Int) = 0) (hm : mostN (m :: l) s = (m :: l).length) (c : Nat) (hc : c < 8)
    (hf : (listOf (hN m &&& s : Nat)).find? (fun c => decide (mostN l (minus s (2 ^ c.toNat)) = l.length)) = some (c : Int)) (d : Nat) : ∀ (k i : Nat), i + d = c → d + 40 ≤ k →
    mainsheetlaw07_MaskFirst.l0 k (m :: l) (s : Int) ((c : Int) :: chooseN l (minus s (2 ^ c))) (c : Int) (i : Int) = some true := by
  have hwl : ∀ x ∈ l, Wf34 x := fun x hx => hwf x (List.mem_cons_of_mem _ hx)
  have hmc : mostN l (minus s (2 ^ c)) = l.length := by have := List.find?_some hf; simpa using this
  have hcl := choose_len l _ (minus_lt _ _ hs) hmc
  induction d with
  | zero =>
    intro k i hi hk
    obtain ⟨k, rfl⟩ : ∃ m, k = m + 2 := ⟨k - 2, by omega⟩
    have hlt := minus_lt s (2 ^ c) hs
    have hok : okChoice l ((minus s (2 ^ c) : Nat) : Int) := ⟨hwl, by omega, by omega, by omega⟩
    have hch : mask_Choice.f l ((minus s (2 ^ c) : Nat) : Int) = some (chooseN l (minus s (2 ^ c)), 0) := by
      unfold mask_Choice.f
      rw [if_pos hok, if_neg (by simpa using askedM_tail ha (by omega)), Int.toNat_natCast, if_neg (by omega)]
    have e0 : rd ((c : Int) :: chooseN l (minus s (2 ^ c))) 0 = (c : Int) := rfl
    rw [mainsheetlaw07_MaskFirst.l0, if_neg (by omega), if_pos (by rw [List.length_cons]; omega), if_pos (by rw [List.length_cons]; omega), e0, if_pos (by omega), andNot_shl s c hs hc]
    rw [List.drop_succ_cons, List.drop_zero, hch, Option.bind_some]
    simp only
    rw [if_pos trivial]
    have hw : wrap64 ((((c : Int) :: chooseN l (minus s (2 ^ c))).length : Int) - 1) = ((chooseN l (minus s (2 ^ c))).length : Int) := by
      rw [List.length_cons, wrap_small _ (by omega) (by omega)]; omega
    rw [hw, bne_self_eq_false, mainsheetlaw07_MaskFirst.j3, if_neg (by simp)]
    exact first_l1 _ (chooseN l (minus s (2 ^ c))) (by simp) (by omega) rfl (chooseN l (minus s (2 ^ c))).length k 0 (by omega) (by omega)
  | succ d ih =>
    intro k i hi hk
    obtain ⟨k, rfl⟩ : ∃ m, k = m + 1 := ⟨k - 1, by omega⟩
    have hi8 : i < 8 := by omega
    have hal := allows_at m (hwf _ (by simp)) s hs k (by omega)
    have hlt := and_lt256' (hN m) s hs
    have e0 : rd_T31 (m :: l) 0 = m := rfl
    rw [mainsheetlaw07_MaskFirst.l0, if_pos (by omega), if_pos (by rw [List.length_cons]; omega), e0, hal, Option.bind_some, Has_val _ (by omega), Option.bind_some, wrap_small ((i : Int) + 1) (by omega) (by omega), show (i : Int) + 1 = ((i + 1 : Nat) : Int) by omega]
    by_cases hb : hasN (hN m &&& s) (i : Int) = true
    · have hbit : (hN m &&& s).testBit i = true := by
        unfold hasN at hb
        rw [Bool.and_eq_true] at hb
        simpa using hb.2
      have hno := first_fails _ _ _ _ hf (mem_listOf _ i hi8 hbit) (by omega)
      simp only [Int.toNat_natCast, decide_eq_false_iff_not] at hno
      have hlt2 := minus_lt s (2 ^ i) hs
      have hok : okChoice l ((minus s (2 ^ i) : Nat) : Int) := ⟨hwl, by omega, by omega, by omega⟩
      rw [if_pos hb, if_pos (by rw [List.length_cons]; omega), if_pos (by omega), andNot_shl s i hs hi8, List.drop_succ_cons, List.drop_zero, Fits_val l _ hok k (by omega), Option.bind_some, decide_eq_false (by rw [Int.toNat_natCast]; exact fun h => hno h.2), if_neg (by simp)]
      exact ih k (i + 1) (by omega) (by omega)
    · rw [if_neg hb]
      exact ih k (i + 1) (by omega) (by omega)

theorem first_j0 (l : List S31) (hl : l.length ≤ 10) (hwf : ∀ x ∈ l, Wf34 x) (free : Int) (h0 : 0 ≤ free) (h1 : free < 4294967296) (k : Nat) (hk : 100 ≤ k) : mainsheetlaw07_MaskFirst.j0 k l free = some true := by
  have hok : okChoice l free := ⟨hwf, by omega, h0, h1⟩
  obtain ⟨k, rfl⟩ : ∃ m, k = m + 2 := ⟨k - 2, by omega⟩
  by_cases ha : askedM l free = 0
  · obtain ⟨hall, hf, h16⟩ := askedM_ok ha
    obtain ⟨s, rfl⟩ : ∃ n : Nat, free = n := ⟨free.toNat, by omega⟩
    have hs : s < 256 := by omega
    have hmle := mostN_le l s
    by_cases hm : mostN l s < l.length
    · have hc : mask_Choice.f l (s : Int) = some ([], 4) := by
        unfold mask_Choice.f
        rw [if_pos hok, if_neg (by simpa using ha), Int.toNat_natCast, if_pos hm]
      rw [mainsheetlaw07_MaskFirst.j0, hc, Option.bind_some]
      simp only
      rw [if_neg (by omega), mainsheetlaw07_MaskFirst.j1, if_pos rfl, if_neg (by omega)]
    · have hm' : mostN l s = l.length := by omega
      have hc : mask_Choice.f l (s : Int) = some (chooseN l s, 0) := by
        unfold mask_Choice.f
        rw [if_pos hok, if_neg (by simpa using ha), Int.toNat_natCast, if_neg hm]
      rw [mainsheetlaw07_MaskFirst.j0, hc, Option.bind_some]
      simp only
      rw [if_pos trivial]
      cases l with
      | nil =>
        have : chooseN ([] : List S31) s = [] := rfl
        rw [this]
        rw [show ((([] : List Int).length : Int) == 0) = true from rfl, mainsheetlaw07_MaskFirst.j1, if_pos rfl, if_pos rfl]
        rfl
      | cons m l =>
        obtain ⟨c, c8, hb, hmc, he⟩ := choose_step m l s hs hm'
        have hf2 : (listOf (hN m &&& s : Nat)).find? (fun c => decide (mostN l (minus s (2 ^ c.toNat)) = l.length)) = some (c : Int) := by
          rw [choose_cons, allows_hN m s hs] at he
          cases hq : (listOf (hN m &&& s : Nat)).find? (fun c => decide (mostN l (minus s (2 ^ c.toNat)) = l.length)) with
          | none => rw [hq] at he; cases he
          | some d =>
            rw [hq] at he
            injection he with he1 _
            rw [he1]
        rw [he]
        have hz : ((((c : Int) :: chooseN l (minus s (2 ^ c))).length : Int) == 0) = false := by rw [beq_eq_false_iff_ne, List.length_cons]; omega
        have e0 : rd ((c : Int) :: chooseN l (minus s (2 ^ c))) 0 = (c : Int) := rfl
        rw [hz, mainsheetlaw07_MaskFirst.j1, if_neg (by simp), if_pos (by rw [List.length_cons]; omega), e0]
        exact first_l0 m l (by simp only [List.length_cons] at hl; omega) hwf s hs ha hm' c c8 hf2 c k 0 (by omega) (by omega)
  · have hc : mask_Choice.f l free = some ([], askedM l free) := by
      unfold mask_Choice.f
      rw [if_pos hok, if_pos ha]
    rw [mainsheetlaw07_MaskFirst.j0, hc, Option.bind_some]
    simp only
    rw [if_neg ha, mainsheetlaw07_MaskFirst.j1, if_pos rfl, if_neg ha]
theorem pure_MaskFirst (l : List S31) (free : Int) (hwf : ∀ x ∈ l, Wf34 x) (h0 : 0 ≤ free) (h1 : free < 4294967296) : ∃ k, mainsheetlaw07_MaskFirst.f k l free = some true := by
  refine ⟨200, ?_⟩
  unfold mainsheetlaw07_MaskFirst.f
  rw [wakes07 200 (by omega), Option.bind_some, if_pos rfl]
  by_cases h10 : (l.length : Int) > 10
  · rw [if_pos h10, if_pos (by omega)]
    exact first_j0 (l.take 10) (by rw [List.length_take]; omega) (fun x hx => hwf x (List.mem_of_mem_take hx)) free h0 h1 200 (by omega)
  · rw [if_neg h10]
    exact first_j0 l (by omega) hwf free h0 h1 200 (by omega)
#print axioms pure_MaskFirst
end Go.Proofs.YtlfljoihcjmnkaaDoor.Q
