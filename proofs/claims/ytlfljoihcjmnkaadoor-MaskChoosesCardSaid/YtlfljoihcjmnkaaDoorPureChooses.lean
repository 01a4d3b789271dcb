/- MaskChooses, the plain law. -/
import Derived.Test.YtlfljoihcjmnkaaDoorPureFirst
import Derived.Test.YtlfljoihcjmnkaaDoorQFlaw07MaskChooses
namespace Go.Proofs.YtlfljoihcjmnkaaDoor.Q
open Go Go.RowKit Go.Proofs.YtlfljoihcjmnkaaDoorW.PrintWords Go.Proofs.YtlfljoihcjmnkaaDoorW.PrintLast Go.Proofs.YtlfljoihcjmnkaaDoorW.PrintMore
set_option linter.unusedVariables false
set_option linter.unusedSimpArgs false

theorem lift7 {α : Type} {F : Nat → Option α} (hm : ∀ k, LeO (F k) (F (k + 1))) {k0 : Nat} {r : α} (h : F k0 = some r) : ∀ k, k0 ≤ k → F k = some r := by
  intro k hk
  induction k with
  | zero => obtain rfl : k0 = 0 := by omega
            exact h
  | succ k ih =>
    rcases Nat.lt_or_ge k k0 with hlt | hge
    · obtain rfl : k0 = k + 1 := by omega
      exact h
    · exact hm k _ (ih hge)
theorem bit_val (c : Nat) (hc : c < 8) (k : Nat) (hk : 20 ≤ k) : mainsheetref07_bit.f k (c : Int) = some ((2 ^ c : Nat) : Int) :=
  lift7 (mainsheetref07_bit.mono _) (bit_all ⟨c, hc⟩) k hk
theorem rd_drop (l : List S31) (i : Nat) (m : S31) (t : List S31) (h : l.drop i = m :: t) : rd_T31 l (i : Int) = m ∧ i < l.length ∧ l.drop (i + 1) = t ∧ l.length = i + 1 + t.length := by
  have hi : i < l.length := by
    rcases Nat.lt_or_ge i l.length with h1 | h1
    · exact h1
    · rw [List.drop_eq_nil_of_le h1] at h; cases h
  rw [List.drop_eq_getElem_cons hi] at h
  injection h with h1 h2
  refine ⟨by rw [rdM_at l i hi, h1], hi, h2, ?_⟩
  have := congrArg List.length h2
  rw [List.length_drop] at this
  omega

theorem RError_val (l : List S31) (hl : l.length ≤ 60) (hwf : ∀ x ∈ l, Wf34 x) (a : Int) (k : Nat) (hk : l.length < k) : mainsheetref07_Error.f k l a = some (askedM l a) := by
  have key : ∀ (d k i : Nat), i + d = l.length → d < k → mainsheetref07_Error.l0 k l a (i : Int) = some (if (l.drop i).all okM = false then 170 else if a < 256 then (if 16 < l.length then 3 else 0) else 140) := by
    intro d
    induction d with
    | zero =>
      intro k i hi hk
      obtain ⟨k, rfl⟩ : ∃ m, k = m + 1 := ⟨k - 1, by omega⟩
      rw [mainsheetref07_Error.l0, if_neg (by omega), RRight_val, Option.bind_some, List.drop_eq_nil_of_le (by omega)]
      by_cases h : a < 256
      · by_cases h2 : 16 < l.length
        · simp [h, h2, show (l.length : Int) > 16 by omega]
        · simp [h, h2, show ¬ (l.length : Int) > 16 by omega]
      · simp [h]
    | succ d ih =>
      intro k i hi hk
      obtain ⟨k, rfl⟩ : ∃ m, k = m + 1 := ⟨k - 1, by omega⟩
      have hil : i < l.length := by omega
      obtain ⟨w0, w1, w2, w3⟩ := hwf _ (List.getElem_mem hil)
      have hr := MRight_val (l[i]).f0.toNat (l[i]).f1.toNat
      rw [show (((l[i]).f0.toNat : Nat) : Int) = (l[i]).f0 by omega, show (((l[i]).f1.toNat : Nat) : Int) = (l[i]).f1 by omega] at hr
      rw [mainsheetref07_Error.l0, if_pos (by omega), if_pos (by omega), rdM_at l i hil, hr, Option.bind_some, wrap_small ((i : Int) + 1) (by omega) (by omega), show (i : Int) + 1 = ((i + 1 : Nat) : Int) by omega, ih k (i + 1) (by omega) (by omega), List.drop_eq_getElem_cons hil, List.all_cons]
      show (if maskOk (l[i]).f0.toNat (l[i]).f1.toNat = true then _ else _) = some (if (maskOk (l[i]).f0.toNat (l[i]).f1.toNat && _) = false then _ else _)
      cases maskOk (l[i]).f0.toNat (l[i]).f1.toNat <;> simp
  unfold mainsheetref07_Error.f askedM
  have := key l.length k 0 (by omega) hk
  simpa using this

theorem find_choose (m : S31) (l : List S31) (s : Nat) (hs : s < 256) (h : mostN (m :: l) s = (m :: l).length) :
    ∃ c : Nat, c < 8 ∧ (hN m &&& s).testBit c = true ∧ mostN l (minus s (2 ^ c)) = l.length ∧ chooseN (m :: l) s = (c : Int) :: chooseN l (minus s (2 ^ c)) ∧
      (listOf (hN m &&& s : Nat)).find? (fun c => decide (mostN l (minus s (2 ^ c.toNat)) = l.length)) = some (c : Int) := by
  obtain ⟨c, c8, hb, hmc, he⟩ := choose_step m l s hs h
  refine ⟨c, c8, hb, hmc, he, ?_⟩
  rw [choose_cons, allows_hN m s hs] at he
  cases hq : (listOf (hN m &&& s : Nat)).find? (fun c => decide (mostN l (minus s (2 ^ c.toNat)) = l.length)) with
  | none => rw [hq] at he; cases he
  | some d =>
    rw [hq] at he
    injection he with he1 _
    rw [he1]

/-- The document's Most at a well-formed list. -/
theorem RMost_val (l : List S31) (hwf : ∀ x ∈ l, Wf34 x) (hall : l.all okM = true) (hl : l.length ≤ 16) (s : Nat) (hs : s < 256) : mainsheetref07_Most.f l (s : Int) = some ((mostN l s : Nat) : Int) := by
  unfold mainsheetref07_Most.f
  rw [if_pos ⟨hwf, hall, by omega, by omega, by omega⟩, Int.toNat_natCast]
theorem hN_ok (m : S31) (h : okM m = true) : hN m = m.f0.toNat := by unfold hN; unfold okM at h; rw [h]; rfl

theorem RChoice_skip (l : List S31) (a : Int) (out : List Int) (i : Nat) (hl : i < 1000) (ho : out.length = i + 1) (k c : Nat) (r : List Int × Bool) (h : mainsheetref07_Choice.l0 k l a out ((i + 1 : Nat) : Int) = some r) :
    mainsheetref07_Choice.l1 (k + 2) l a out (i : Int) (c : Int) = some r := by
  have e : ((out.length : Int) == (i : Int)) = false := by rw [beq_eq_false_iff_ne]; omega
  rw [mainsheetref07_Choice.l1, e, ite_self, mainsheetref07_Choice.j2, if_neg (by simp), wrap_small ((i : Int) + 1) (by omega) (by omega), show (i : Int) + 1 = ((i + 1 : Nat) : Int) by omega]
  exact h

theorem RChoice_row (l : List S31) (hwf : ∀ x ∈ l, Wf34 x) (hall : l.all okM = true) (hl : l.length ≤ 16) (i : Nat) (m : S31) (t : List S31) (hd : l.drop i = m :: t) (s : Nat) (hs : s < 256) (out : List Int) (ho : out.length = i) (c0 : Nat) (h8 : c0 < 8)
    (hb : (hN m &&& s).testBit c0 = true) (hm : mostN t (minus s (2 ^ c0)) = t.length)
    (hf : (listOf (hN m &&& s : Nat)).find? (fun c => decide (mostN t (minus s (2 ^ c.toNat)) = t.length)) = some (c0 : Int)) (r : List Int × Bool) (k0 : Nat) (hk0 : 30 ≤ k0)
    (hnext : ∀ k, k0 ≤ k → mainsheetref07_Choice.l0 k l ((minus s (2 ^ c0) : Nat) : Int) (out ++ [(c0 : Int)]) ((i + 1 : Nat) : Int) = some r) (d : Nat) :
    ∀ (k c : Nat), c + d = c0 → k0 + 2 * d + 4 ≤ k → mainsheetref07_Choice.l1 k l (s : Int) out (i : Int) (c : Int) = some r := by
  obtain ⟨hrd, hil, hdt, hlen⟩ := rd_drop l i m t hd
  have hmem : m ∈ l := List.mem_of_mem_drop (by rw [hd]; exact List.mem_cons_self)
  have hmt : ∀ x ∈ t, x ∈ l := fun x hx => List.mem_of_mem_drop (i := i) (by rw [hd]; exact List.mem_cons_of_mem _ hx)
  have hok : okM m = true := List.all_eq_true.1 hall m hmem
  have hallt : t.all okM = true := List.all_eq_true.2 fun x hx => List.all_eq_true.1 hall x (hmt x hx)
  have hwt : ∀ x ∈ t, Wf34 x := fun x hx => hwf x (hmt x hx)
  obtain ⟨w0, w1, w2, w3⟩ := hwf m hmem
  have hal : mainsheetref07_Allows.f m.f0 m.f1 (s : Int) = some ((hN m &&& s : Nat) : Int) := by
    have := MAllows_val m.f0.toNat m.f1.toNat s (by omega) (by omega)
    rw [show ((m.f0.toNat : Nat) : Int) = m.f0 by omega, show ((m.f1.toNat : Nat) : Int) = m.f1 by omega] at this
    rw [this, hN_ok m hok]
  have hlt := and_lt256' (hN m) s hs
  have e : ((out.length : Int) == (i : Int)) = true := by rw [beq_iff_eq]; omega
  have hw : wrap64 ((wrap64 ((l.length : Int) - (i : Int))) - 1) = (t.length : Int) := by
    rw [wrap_small ((l.length : Int) - (i : Int)) (by omega) (by omega), wrap_small _ (by omega) (by omega)]; omega
  have step : ∀ (c : Nat), c < 8 → (hN m &&& s).testBit c = true → ((((s : Int) - (((2 ^ c : Nat) : Int) % 4294967296)) % 4294967296) : Int) = ((minus s (2 ^ c) : Nat) : Int) := by
    intro c hc hbit
    have hsb : s.testBit c = true := by rw [Nat.testBit_and, Bool.and_eq_true] at hbit; exact hbit.2
    obtain ⟨h1, h2⟩ := sub_minus ⟨c, hc⟩ ⟨s, hs⟩ hsb
    simp only at h1 h2
    have h3 := pow_lt256 c hc
    rw [← h2]
    clear h2 hbit hsb hb hm hf hnext
    generalize 2 ^ c = b at *
    omega
  induction d with
  | zero =>
    intro k c hc hk
    obtain ⟨k, rfl⟩ : ∃ m, k = m + 4 := ⟨k - 4, by omega⟩
    obtain rfl : c = c0 := by omega
    have hh : hasN (hN m &&& s) (c : Int) = true := by unfold hasN; rw [Int.toNat_natCast, hb]; simp; omega
    rw [mainsheetref07_Choice.l1, if_pos (by omega), e, mainsheetref07_Choice.j2, if_pos rfl, if_pos (by omega), if_pos (by omega), hrd, hal, Option.bind_some, RHas_val _ (by omega), Option.bind_some, if_pos hh, bit_val c h8 _ (by omega), Option.bind_some, wrap_small ((i : Int) + 1) (by omega) (by omega), show (i : Int) + 1 = ((i + 1 : Nat) : Int) by omega, if_pos (by omega), if_pos (by omega), step c h8 hb, Int.toNat_natCast, hdt, RMost_val t hwt hallt (by omega) _ (minus_lt _ _ hs), Option.bind_some, hw, if_pos (by omega), if_pos (by omega), wrap_small ((c : Int) + 1) (by omega) (by omega), show (c : Int) + 1 = ((c + 1 : Nat) : Int) by omega]
    exact RChoice_skip l _ _ i (by omega) (by simp [ho]) k (c + 1) r (hnext k (by omega))
  | succ d ih =>
    intro k c hc hk
    obtain ⟨k, rfl⟩ : ∃ m, k = m + 2 := ⟨k - 2, by omega⟩
    have hc8 : c < 8 := by omega
    rw [mainsheetref07_Choice.l1, if_pos (by omega), e, mainsheetref07_Choice.j2, if_pos rfl, if_pos (by omega), if_pos (by omega), hrd, hal, Option.bind_some, RHas_val _ (by omega), Option.bind_some, wrap_small ((c : Int) + 1) (by omega) (by omega), show (c : Int) + 1 = ((c + 1 : Nat) : Int) by omega]
    by_cases hh : hasN (hN m &&& s) (c : Int) = true
    · have hbit : (hN m &&& s).testBit c = true := by
        unfold hasN at hh
        rw [Bool.and_eq_true] at hh
        simpa using hh.2
      have hno := first_fails _ _ _ _ hf (mem_listOf _ c hc8 hbit) (by omega)
      simp only [Int.toNat_natCast, decide_eq_false_iff_not] at hno
      rw [if_pos hh, bit_val c hc8 _ (by omega), Option.bind_some, wrap_small ((i : Int) + 1) (by omega) (by omega), show (i : Int) + 1 = ((i + 1 : Nat) : Int) by omega, if_pos (by omega), if_pos (by omega), step c hc8 hbit, Int.toNat_natCast, hdt, RMost_val t hwt hallt (by omega) _ (minus_lt _ _ hs), Option.bind_some, hw, if_neg (by omega)]
      exact ih k (c + 1) (by omega) (by omega)
    · rw [if_neg hh]
      exact ih k (c + 1) (by omega) (by omega)

theorem RChoice_loop (l : List S31) (hwf : ∀ x ∈ l, Wf34 x) (hall : l.all okM = true) (hl : l.length ≤ 16) : ∀ (rest : List S31) (i : Nat) (s : Nat) (out : List Int) (k : Nat), l.drop i = rest → i ≤ l.length → s < 256 → out.length = i → mostN rest s = rest.length → 30 * rest.length + 31 ≤ k →
    mainsheetref07_Choice.l0 k l (s : Int) out (i : Int) = some (out ++ chooseN rest s, true) := by
  intro rest
  induction rest with
  | nil =>
    intro i s out k hd hi hs ho hm hk
    obtain ⟨k, rfl⟩ : ∃ m, k = m + 1 := ⟨k - 1, by omega⟩
    have := congrArg List.length hd
    rw [List.length_drop, List.length_nil] at this
    rw [mainsheetref07_Choice.l0, if_neg (by omega)]
    show _ = some (out ++ [], true)
    rw [List.append_nil]
  | cons m t ih =>
    intro i s out k hd hi hs ho hm hk
    obtain ⟨k, rfl⟩ : ∃ m, k = m + 1 := ⟨k - 1, by omega⟩
    obtain ⟨hrd, hil, hdt, hlen⟩ := rd_drop l i m t hd
    obtain ⟨c0, h8, hb, hmc, he, hf⟩ := find_choose m t s hs hm
    rw [mainsheetref07_Choice.l0, if_pos (by omega), he]
    rw [List.length_cons] at hk
    refine RChoice_row l hwf hall hl i m t hd s hs out ho c0 h8 hb hmc hf _ (30 * t.length + 31) (by omega) ?_ c0 k 0 (by omega) (by omega)
    intro k hk
    rw [ih (i + 1) (minus s (2 ^ c0)) (out ++ [(c0 : Int)]) k hdt (by omega) (minus_lt _ _ hs) (by simp [ho]) hmc hk, List.append_assoc]
    rfl
theorem RChoice_val (l : List S31) (hwf : ∀ x ∈ l, Wf34 x) (hall : l.all okM = true) (hl : l.length ≤ 16) (s : Nat) (hs : s < 256) (k : Nat) (hk : 600 ≤ k) :
    mainsheetref07_Choice.f k l (s : Int) = some (if mostN l s = l.length then (chooseN l s, true) else ([], false)) := by
  have hle := mostN_le l s
  unfold mainsheetref07_Choice.f
  rw [RMost_val l hwf hall hl s hs, Option.bind_some]
  by_cases hm : mostN l s = l.length
  · rw [if_neg (by omega), if_pos hm]
    exact RChoice_loop l hwf hall hl l 0 s [] k rfl (by omega) hs rfl hm (by omega)
  · rw [if_pos (by omega), if_neg hm]

theorem pure_MaskChooses (l : List S31) (free : Int) (hwf : ∀ x ∈ l, Wf34 x) (h0 : 0 ≤ free) (h1 : free < 4294967296) : ∃ k, mainsheetlaw07_MaskChooses.f k l free = some true := by
  refine ⟨1001, ?_⟩
  unfold mainsheetlaw07_MaskChooses.f
  rw [wakes07 1001 (by omega), Option.bind_some, if_pos rfl]
  by_cases h60 : (l.length : Int) > 60
  · rw [if_pos h60]
  · rw [if_neg h60, Option.bind_some, if_pos (by simp; omega), Option.bind_some, List.nil_append]
    have hok : okChoice l free := ⟨hwf, by omega, h0, h1⟩
    rw [Most_val l free hok 1001 (by omega), Fits_val l free hok 1001 (by omega), RError_val l (by omega) hwf free 1001 (by omega)]
    have hC : mask_Choice.f l free = some (if askedM l free ≠ 0 then ([], askedM l free) else if mostN l free.toNat < l.length then ([], 4) else (chooseN l free.toNat, 0)) := by
      unfold mask_Choice.f; rw [if_pos hok]
    rw [hC]
    simp only [Option.bind_some]
    by_cases ha : askedM l free = 0
    · obtain ⟨hall, hf, h16⟩ := askedM_ok ha
      obtain ⟨s, rfl⟩ : ∃ n : Nat, free = n := ⟨free.toNat, by omega⟩
      have hs : s < 256 := by omega
      have hle := mostN_le l s
      rw [if_pos ha, RChoice_val l hwf hall h16 s hs 1001 (by omega), RMost_val l hwf hall h16 s hs]
      simp only [Option.bind_some, ha, ne_eq, not_true_eq_false, if_false, if_true, Int.toNat_natCast, true_and]
      by_cases hm : mostN l s = l.length
      · rw [if_neg (by omega), if_pos hm]
        simp only [hm, if_true, decide_true, bne_self_eq_false]
        rw [mainsheetlaw07_MaskChooses.j0, if_neg (by simp), if_pos rfl, if_pos rfl, Same_val _ _ (by rw [choose_len l s hs hm]; omega) _ (by rw [choose_len l s hs hm]; omega)]
        simp
      · rw [if_pos (by omega), if_neg hm]
        simp only [decide_false, if_true, bne_self_eq_false, hm]
        rw [mainsheetlaw07_MaskChooses.j0, if_neg (by simp), if_neg (by simp), if_pos rfl]
        rfl
    · simp [ha]
#print axioms pure_MaskChooses
end Go.Proofs.YtlfljoihcjmnkaaDoor.Q
