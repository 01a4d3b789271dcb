/- PlaceFull, the plain law. -/
import Derived.Test.YtdmieaidheelbaaDoorPureMore
import Derived.Test.YtdmieaidheelbaaDoorQFlaw13PlaceFull
namespace Go.Proofs.YtdmieaidheelbaaDoor.Q
open Go Go.RowKit Go.Proofs.YtdmieaidheelbaaDoorW.PrintWords Go.Proofs.YtdmieaidheelbaaDoorW.PrintLast Go.Proofs.YtdmieaidheelbaaDoorW.PrintMore
set_option linter.unusedVariables false
set_option linter.unusedSimpArgs false

def fullOf (x : S36) : S36 := ⟨x.f0, x.f1, (⟨255, x.f2.f1⟩ : S34)⟩
theorem ones_zero : ones 0 = 0 := by decide +kernel
theorem ones_pos : ∀ n : Fin 256, n.val ≠ 0 → ones n.val ≠ 0 := by decide +kernel
theorem ones_minus : ∀ n : Fin 256, ∀ c : Fin 8, n.val.testBit c.val = true → ones (minus n.val (2 ^ c.val)) + 1 = ones n.val := by decide +kernel
theorem next_some : ∀ n : Fin 256, n.val ≠ 0 → (nextOf n.val (-1)).2 = true := by decide +kernel
theorem and255 : ∀ n : Fin 256, 255 &&& n.val = n.val := by decide +kernel
theorem Count_val (a : Nat) (ha : a < 256) : cpuset_Count.f (a : Int) = some (ones a : Int) := by
  have e : Go.bits .and .u32 (a : Int) 255 = (a : Int) := by
    have h1 : Go.bits .and .u32 (a : Int) 255 = ((a &&& 255 : Nat) : Int) := and_nat a 255 (by omega) (by omega)
    rw [h1, show a &&& 255 = a by rw [Nat.and_two_pow_sub_one_eq_mod a 8]; omega]
  unfold cpuset_Count.f
  rw [e]
  unfold bits_OnesCount32.f
  rw [if_pos (by omega), Int.toNat_natCast]
  rfl

theorem allows_full (s free : Nat) (hs : s < 256) (hf : free < 256) : allowsN 255 s free = free := by
  unfold allowsN
  rw [if_pos (by simp [maskOk, hs, hf])]
  exact and255 ⟨free, hf⟩
/-- a wish whose mask allows all takes one while one is free -/
theorem takes_full (x : S36) (free : Nat) (hs : x.f2.f1.toNat < 256) (hf : free < 256) (h0 : free ≠ 0) :
    (bestN (fullOf x).f2.f0.toNat (fullOf x).f2.f1.toNat free (fullOf x).f1).2 = true ∧ free.testBit (bestN (fullOf x).f2.f0.toNat (fullOf x).f2.f1.toNat free (fullOf x).f1).1.toNat = true := by
  show (bestN 255 x.f2.f1.toNat free x.f1).2 = true ∧ free.testBit (bestN 255 x.f2.f1.toNat free x.f1).1.toNat = true
  generalize x.f2.f1.toNat = s at *
  generalize x.f1 = c
  unfold bestN
  rw [allows_full s free hs hf]
  cases hh : hasN free c with
  | true =>
    simp only [if_true]
    unfold hasN at hh
    simp at hh
    exact ⟨trivial, hh.2⟩
  | false =>
    simp only [Bool.false_eq_true, if_false]
    have hl : likesN 255 s free ≠ 0 := by
      unfold likesN
      rw [allows_full s free hs hf]
      split <;> assumption
    have h2 := next_some ⟨likesN 255 s free, likesN_lt _ _ _⟩ hl
    refine ⟨h2, ?_⟩
    have h3 := (list_mem _ _ (nextOf_mem _ _ h2)).2.2
    simp only at h3
    unfold likesN at h3 ⊢
    rw [allows_full s free hs hf] at h3 ⊢
    split at h3
    · next hc => rw [if_pos hc]; exact h3
    · next hc =>
      rw [if_neg hc]
      rw [Nat.testBit_and] at h3
      simp at h3
      exact h3.1
theorem next_none : (nextOf ((0 : Nat) : Int) (-1)).2 = false := by decide +kernel
theorem takes_none (x : S36) (hs : x.f2.f1.toNat < 256) : (bestN (fullOf x).f2.f0.toNat (fullOf x).f2.f1.toNat 0 (fullOf x).f1).2 = false := by
  show (bestN 255 x.f2.f1.toNat 0 x.f1).2 = false
  generalize x.f2.f1.toNat = s at *
  generalize x.f1 = c
  have hl : likesN 255 s 0 = 0 := by unfold likesN; rw [allows_full s 0 hs (by omega)]; simp
  unfold bestN
  rw [allows_full s 0 hs (by omega), hl]
  have : hasN 0 c = false := by unfold hasN; simp
  rw [this, if_neg (by simp)]
  exact next_none

theorem full_puts (l : List S36) : ∀ (free : Nat), free < 256 → (∀ x ∈ l, x.f2.f1.toNat < 256) →
    ((putsOf (turnsOf free (l.map fullOf))).length = min l.length (ones free)) ∧ ((putsOf (turnsOf free (l.map fullOf))).length < l.length → freeAfter free (l.map fullOf) = 0) ∧
    ∀ i, i < (putsOf (turnsOf free (l.map fullOf))).length → ((putsOf (turnsOf free (l.map fullOf))).getD i z31).f0 = ((l.map fullOf).getD i z36).f0 := by
  induction l with
  | nil => intro free _ _; simp [turnsOf, putsOf]
  | cons x l ih =>
    intro free hf hs
    have hx := hs x (by simp)
    have hl := fun y hy => hs y (List.mem_cons_of_mem _ hy)
    by_cases h0 : free = 0
    · subst h0
      have e := takes_none x hx
      have e1 : takesOf (fullOf x) 0 = -1 := by unfold takesOf; rw [e]; rfl
      have e2 : freeOf (fullOf x) 0 = 0 := by unfold freeOf; rw [e]; rfl
      obtain ⟨h1, h2, h3⟩ := ih 0 (by omega) hl
      rw [ones_zero] at h1
      have e3 : putsOf (turnsOf 0 ((x :: l).map fullOf)) = [] := by
        have : putsOf (turnsOf 0 ((x :: l).map fullOf)) = putOf (fullOf x, takesOf (fullOf x) 0) ++ putsOf (turnsOf (freeOf (fullOf x) 0) (l.map fullOf)) := by simp [putsOf, turnsOf]
        rw [this, e1, e2, List.eq_nil_of_length_eq_zero (by omega : (putsOf (turnsOf 0 (l.map fullOf))).length = 0)]
        rfl
      rw [e3, ones_zero]
      refine ⟨by simp, fun _ => ?_, fun i hi => by simp at hi⟩
      show freeAfter (freeOf (fullOf x) 0) (l.map fullOf) = 0
      rw [e2]
      cases hl0 : l with
      | nil => rfl
      | cons y l' => rw [← hl0]; exact h2 (by rw [h1]; rw [hl0]; simp)
    · obtain ⟨e, hb⟩ := takes_full x free hx hf h0
      have hr := bestN_range _ _ _ _ e
      have e1 : takesOf (fullOf x) free = (bestN (fullOf x).f2.f0.toNat (fullOf x).f2.f1.toNat free (fullOf x).f1).1 := by unfold takesOf; rw [if_pos e]
      have e2 : freeOf (fullOf x) free = minus free (2 ^ (bestN (fullOf x).f2.f0.toNat (fullOf x).f2.f1.toNat free (fullOf x).f1).1.toNat) := by unfold freeOf; rw [if_pos e]
      generalize bestN (fullOf x).f2.f0.toNat (fullOf x).f2.f1.toNat free (fullOf x).f1 = q at *
      have hc := ones_minus ⟨free, hf⟩ ⟨q.1.toNat, by omega⟩ hb
      simp only at hc
      rw [← e2] at hc
      obtain ⟨h1, h2, h3⟩ := ih (freeOf (fullOf x) free) (freeOf_lt _ _ hf) hl
      have e3 : putsOf (turnsOf free ((x :: l).map fullOf)) = ⟨x.f0, takesOf (fullOf x) free⟩ :: putsOf (turnsOf (freeOf (fullOf x) free) (l.map fullOf)) := by
        have : putsOf (turnsOf free ((x :: l).map fullOf)) = putOf (fullOf x, takesOf (fullOf x) free) ++ putsOf (turnsOf (freeOf (fullOf x) free) (l.map fullOf)) := by simp [putsOf, turnsOf]
        rw [this]
        unfold putOf
        rw [if_pos (by simp only; omega)]
        rfl
      rw [e3]
      refine ⟨by simp only [List.length_cons]; omega, fun h => ?_, fun i hi => ?_⟩
      · show freeAfter (freeOf (fullOf x) free) (l.map fullOf) = 0
        exact h2 (by simp only [List.length_cons] at h; omega)
      · cases i with
        | zero => rfl
        | succ i =>
          simp only [List.map_cons, List.getD_cons_succ]
          exact h3 i (by simp only [List.length_cons] at hi; omega)

theorem rd36_at (l : List S36) (k : Nat) : rd_T36 l (k : Int) = l.getD k z36 := by simp [rd_T36]
theorem set_full (l : List S36) (i : Nat) (hi : i < l.length) : ((l.take i).map fullOf ++ l.drop i).set i (fullOf (rd_T36 ((l.take i).map fullOf ++ l.drop i) (i : Int))) = (l.take (i + 1)).map fullOf ++ l.drop (i + 1) := by
  have hl : ((l.take i).map fullOf).length = i := by simp; omega
  have e : rd_T36 ((l.take i).map fullOf ++ l.drop i) (i : Int) = l[i] := by
    rw [rd36_at, List.getD_eq_getElem?_getD, List.getElem?_append_right (by omega), hl, Nat.sub_self, List.getElem?_drop, Nat.add_zero, List.getElem?_eq_getElem hi]
    rfl
  rw [e, List.set_append_right _ _ (by omega), hl, Nat.sub_self, List.take_succ_eq_append_getElem hi, List.map_append, List.drop_eq_getElem_cons hi]
  simp only [List.set_cons_zero, List.append_assoc, List.map_cons, List.map_nil, List.cons_append, List.nil_append]

theorem full_l1 (l : List S36) (ps : List S31) (hle : ps.length ≤ l.length) (hb : ps.length ≤ 1000000) (heq : ∀ i, i < ps.length → (ps.getD i z31).f0 = (l.getD i z36).f0) (d : Nat) : ∀ (k i : Nat), i ≤ ps.length → ps.length - i = d → d < k →
    mainsheetlaw13_PlaceFull.l1 k l ps (ps.length : Int) (i : Int) = some true := by
  induction d with
  | zero =>
    intro k i hi hd hk
    obtain ⟨k, rfl⟩ : ∃ m, k = m + 1 := ⟨k - 1, by omega⟩
    simp only [mainsheetlaw13_PlaceFull.l1]; rw [if_neg (by omega)]
  | succ d ih =>
    intro k i hi hd hk
    obtain ⟨k, rfl⟩ : ∃ m, k = m + 1 := ⟨k - 1, by omega⟩
    have hlt : i < ps.length := by omega
    simp only [mainsheetlaw13_PlaceFull.l1]
    rw [if_pos (by omega), if_pos (by omega), if_pos (by omega), if_pos (by omega), rd31_at, rd36_at, if_pos (heq i hlt), wrap_small _ (by omega) (by omega), show (i : Int) + 1 = ((i + 1 : Nat) : Int) by omega]
    exact ih k (i + 1) (by omega) (by omega) (by omega)

theorem full_l0 (l : List S36) (a : Int) (hlen : l.length ≤ 60) (K : Nat) (hend : ∀ k, K ≤ k → mainsheetlaw13_PlaceFull.l0 k (l.map fullOf) a (l.length : Int) (l.length : Int) = some true) (d : Nat) : ∀ (k i : Nat), i ≤ l.length → l.length - i = d → d + K ≤ k →
    mainsheetlaw13_PlaceFull.l0 k ((l.take i).map fullOf ++ l.drop i) a (l.length : Int) (i : Int) = some true := by
  induction d with
  | zero =>
    intro k i hi hd hk
    have : i = l.length := by omega
    subst this
    rw [List.take_length, List.drop_length, List.append_nil]
    exact hend k (by omega)
  | succ d ih =>
    intro k i hi hd hk
    obtain ⟨k, rfl⟩ : ∃ m, k = m + 1 := ⟨k - 1, by omega⟩
    have hlt : i < l.length := by omega
    have hl2 : ((l.take i).map fullOf ++ l.drop i).length = l.length := by simp; omega
    simp only [mainsheetlaw13_PlaceFull.l0]
    rw [if_pos (by omega), if_pos (by omega), if_pos (by omega), wrap_small _ (by omega) (by omega), show (i : Int) + 1 = ((i + 1 : Nat) : Int) by omega]
    have := set_full l i hlt
    rw [Int.toNat_natCast]
    refine Eq.trans (congrArg (fun z => mainsheetlaw13_PlaceFull.l0 k z a (l.length : Int) ((i + 1 : Nat) : Int)) this) ?_
    exact ih k (i + 1) (by omega) (by omega) (by omega)

theorem check_ok (l : List S36) : ∀ (ms ts : List Bool), checkFrom ms ts l = 0 → ∀ x ∈ l, okM x.f2 = true := by
  induction l with
  | nil => intro ms ts _ x hx; simp at hx
  | cons y l ih =>
    intro ms ts h x hx
    unfold checkFrom at h
    split at h
    · cases h
    · next hb =>
      rcases List.mem_cons.1 hx with rfl | hx
      · cases ho : okM x.f2 with
        | true => rfl
        | false => exact absurd (bad6 (f0 := x.f0) (f1 := x.f1) (ms := ms) (ts := ts) ho) hb
      · exact ih _ _ h x hx

theorem pure_PlaceFull (l : List S36) (free : Int) (hwf : ∀ x ∈ l, Wf36 x) (h0 : 0 ≤ free) (h1 : free < 4294967296) : ∃ k, mainsheetlaw13_PlaceFull.f k l free = some true := by
  refine ⟨1000, ?_⟩
  unfold mainsheetlaw13_PlaceFull.f
  rw [wakes13]
  simp only [Option.bind_some, if_true]
  by_cases h60 : (l.length : Int) > 60
  · rw [if_pos h60]
  rw [if_neg h60]
  have hl : l.length ≤ 60 := by omega
  rw [if_pos (by simp; omega), List.nil_append]
  have hwf' : ∀ x ∈ l.map fullOf, Wf36 x := by
    intro x hx
    obtain ⟨y, hy, rfl⟩ := List.mem_map.1 hx
    obtain ⟨a1, a2, a3, a4⟩ := hwf y hy
    exact ⟨by show (0 : Int) ≤ 255; omega, by show (255 : Int) < 4294967296; omega, a3, a4⟩
  have hok : okArgs (l.map fullOf) free := ⟨hwf', by rw [List.length_map]; omega, h0, h1⟩
  refine full_l0 l free hl 100 (fun k hk => ?_) l.length 1000 0 (by omega) (by omega) (by omega)
  obtain ⟨k, rfl⟩ : ∃ m, k = m + 2 := ⟨k - 2, by omega⟩
  simp only [mainsheetlaw13_PlaceFull.l0]
  rw [if_neg (by omega)]
  by_cases ha : askedOf (l.map fullOf) free = 0
  · obtain ⟨hc, hf⟩ := asked_ok.1 ha
    have hm := check_ok _ _ _ hc
    have hs : ∀ x ∈ l, x.f2.f1.toNat < 256 := by
      intro x hx
      have := hm (fullOf x) (List.mem_map_of_mem hx)
      unfold okM maskOk fullOf at this
      simp at this
      omega
    obtain ⟨q1, q2, q3⟩ := full_puts l free.toNat (by omega) hs
    rw [place_ok hok ha]
    have hleft : takeAll free.toNat (putsOf (turnsOf free.toNat (l.map fullOf))) = freeAfter free.toNat (l.map fullOf) := takeAll_turns _ _
    rw [hleft]
    simp only [Option.bind_some, if_true]
    have hcnt := Count_val free.toNat (by omega)
    rw [show ((free.toNat : Nat) : Int) = free by omega] at hcnt
    rw [hcnt]
    simp only [Option.bind_some, List.length_map]
    generalize putsOf (turnsOf free.toNat (l.map fullOf)) = ps at *
    have hmn : ((ps.length : Int) = mn (l.length : Int) (ones free.toNat : Int)) := by unfold mn; split <;> omega
    rw [if_pos hmn]
    by_cases hlt : (ps.length : Int) < (l.length : Int)
    · rw [if_pos hlt, q2 (by omega)]
      simp only [mainsheetlaw13_PlaceFull.j1]
      rw [if_neg (by simp)]
      exact full_l1 _ ps (by rw [List.length_map]; omega) (by omega) q3 ps.length k 0 (by omega) (by omega) (by omega)
    · rw [if_neg hlt]
      simp only [mainsheetlaw13_PlaceFull.j1]
      rw [if_neg (by simp)]
      exact full_l1 _ ps (by rw [List.length_map]; omega) (by omega) q3 ps.length k 0 (by omega) (by omega) (by omega)
  · rw [place_bad hok ha]
    simp only [Option.bind_some]
    rw [if_neg ha]
    rfl
#print axioms pure_PlaceFull
end Go.Proofs.YtdmieaidheelbaaDoor.Q
