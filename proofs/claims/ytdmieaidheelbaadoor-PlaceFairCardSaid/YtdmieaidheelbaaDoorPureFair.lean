/- PlaceFair, the plain law. -/
import Derived.Test.YtdmieaidheelbaaDoorRef13
import Derived.Test.YtdmieaidheelbaaDoorPlaceFair
import Derived.Test.YtdmieaidheelbaaDoorQFref13Fair
import Derived.Test.YtdmieaidheelbaaDoorQFlaw13PlaceFair
namespace Go.Proofs.YtdmieaidheelbaaDoor.Q
open Go Go.RowKit Go.Proofs.YtdmieaidheelbaaDoorW.PrintWords Go.Proofs.YtdmieaidheelbaaDoorW.PrintLast Go.Proofs.YtdmieaidheelbaaDoorW.PrintMore
set_option linter.unusedVariables false
set_option linter.unusedSimpArgs false

theorem rd31_get (l : List S31) (i : Nat) (hi : i < l.length) : rd_T31 l (i : Int) = l[i] := by simp [rd_T31, hi]
/-- the marks tell which pCPUs the placements ahead have -/
def Taken (ps : List S31) (ah : List Bool) : Prop := ah.length = 8 ∧ ∀ c : Nat, c < 8 → ah.getD c false = ps.any fun p => decide (p.f1 = c)

theorem ref_l1 (l : List S36) (free : Int) (ps : List S31) (n i : Nat) (hn : n < ps.length) (hi : i < l.length) (hl : l.length ≤ 1000000) (hpl : ps.length ≤ 1000000) (r : Bool) (K : Nat) (hnext : ∀ k, K ≤ k → mainsheetref13_Fair.l0 k l free ps ((n + 1 : Nat) : Int) ((i + 1 : Nat) : Int) = some r) (d : Nat) : ∀ (k j : Nat), j + d = n → K + d + 1 ≤ k →
    mainsheetref13_Fair.l1 k l free ps (n : Int) (i : Int) (j : Int) = some (if ((ps.take n).drop j).any (fun p => decide (p.f1 = ps[n].f1)) then false else r) := by
  induction d with
  | zero =>
    intro k j hj hk
    obtain ⟨k, rfl⟩ : ∃ m, k = m + 1 := ⟨k - 1, by omega⟩
    rw [mainsheetref13_Fair.l1, if_neg (by omega), wrap_small _ (by omega) (by omega), wrap_small _ (by omega) (by omega), show (n : Int) + 1 = ((n + 1 : Nat) : Int) by omega, show (i : Int) + 1 = ((i + 1 : Nat) : Int) by omega, hnext k (by omega), List.drop_eq_nil_of_le (by rw [List.length_take]; omega)]
    rfl
  | succ d ih =>
    intro k j hj hk
    obtain ⟨k, rfl⟩ : ∃ m, k = m + 1 := ⟨k - 1, by omega⟩
    have hjl : j < ps.length := by omega
    have hd : (ps.take n).drop j = ps[j] :: (ps.take n).drop (j + 1) := by
      rw [List.drop_eq_getElem_cons (by rw [List.length_take]; omega)]
      simp
    rw [mainsheetref13_Fair.l1, if_pos (by omega), if_pos (by omega), if_pos (by omega), if_pos (by omega), if_pos (by omega), rd31_get ps j hjl, rd31_get ps n hn, hd, List.any_cons]
    by_cases h : ps[j].f1 = ps[n].f1
    · rw [if_pos h]; simp [h]
    · rw [if_neg h, wrap_small _ (by omega) (by omega), show (j : Int) + 1 = ((j + 1 : Nat) : Int) by omega, ih k (j + 1) (by omega) (by omega)]
      simp [h]
theorem ref_l3 (l : List S36) (free all : Int) (ps : List S31) (n i c : Nat) (hn : n ≤ ps.length) (hc : c < 8) (hpl : ps.length ≤ 1000000) (r : Bool) (K : Nat) (hnext : ∀ k, K ≤ k → mainsheetref13_Fair.l2 k l free ps (n : Int) (i : Int) all ((c + 1 : Nat) : Int) = some r) (d : Nat) : ∀ (k j : Nat) (t : Bool), j + d = n → K + d + 1 ≤ k →
    mainsheetref13_Fair.l3 k l free ps (n : Int) (i : Int) all (c : Int) t (j : Int) = some (if t || ((ps.take n).drop j).any (fun p => decide (p.f1 = (c : Int))) then r else false) := by
  induction d with
  | zero =>
    intro k j t hj hk
    obtain ⟨k, rfl⟩ : ∃ m, k = m + 1 := ⟨k - 1, by omega⟩
    rw [mainsheetref13_Fair.l3, if_neg (by omega), List.drop_eq_nil_of_le (by rw [List.length_take]; omega)]
    cases t with
    | true => rw [if_pos rfl, wrap_small _ (by omega) (by omega), show (c : Int) + 1 = ((c + 1 : Nat) : Int) by omega, hnext k (by omega)]; rfl
    | false => rw [if_neg (by simp)]; rfl
  | succ d ih =>
    intro k j t hj hk
    obtain ⟨k, rfl⟩ : ∃ m, k = m + 1 := ⟨k - 1, by omega⟩
    have hjl : j < ps.length := by omega
    have hd : (ps.take n).drop j = ps[j] :: (ps.take n).drop (j + 1) := by
      rw [List.drop_eq_getElem_cons (by rw [List.length_take]; omega)]
      simp
    rw [mainsheetref13_Fair.l3, if_pos (by omega), if_pos (by omega), if_pos (by omega), rd31_get ps j hjl, hd, List.any_cons, wrap_small _ (by omega) (by omega), show (j : Int) + 1 = ((j + 1 : Nat) : Int) by omega]
    by_cases h : ps[j].f1 = (c : Int)
    · rw [if_pos h, ih k (j + 1) true (by omega) (by omega)]; simp [h]
    · rw [if_neg h, ih k (j + 1) t (by omega) (by omega)]; simp [h]
/-- which of the pCPUs from c on a mask allows, and nobody has -/
def lackFrom (all : Nat) (ps : List S31) (c : Nat) : Bool := ((List.range 8).drop c).any fun d => all.testBit d && !(ps.any fun p => decide (p.f1 = (d : Int)))
theorem ref_l2 (l : List S36) (free : Int) (all : Nat) (hall : all < 256) (ps : List S31) (n i : Nat) (hn : n ≤ ps.length) (hi : i < l.length) (hl : l.length ≤ 1000000) (hpl : ps.length ≤ 1000000) (r : Bool) (K : Nat) (hnext : ∀ k, K ≤ k → mainsheetref13_Fair.l0 k l free ps (n : Int) ((i + 1 : Nat) : Int) = some r) (d : Nat) : ∀ (c : Nat), c + d = 8 → ∃ K2, ∀ k, K2 ≤ k →
    mainsheetref13_Fair.l2 k l free ps (n : Int) (i : Int) (all : Int) (c : Int) = some (if lackFrom all (ps.take n) c then false else r) := by
  induction d with
  | zero =>
    intro c hc
    refine ⟨K + 1, fun k hk => ?_⟩
    obtain ⟨k, rfl⟩ : ∃ m, k = m + 1 := ⟨k - 1, by omega⟩
    obtain rfl : c = 8 := by omega
    have : lackFrom all (ps.take n) 8 = false := rfl
    rw [mainsheetref13_Fair.l2, if_neg (by omega), wrap_small _ (by omega) (by omega), show (i : Int) + 1 = ((i + 1 : Nat) : Int) by omega, hnext k (by omega), this]
    rfl
  | succ d ih =>
    intro c hc
    obtain ⟨K2, hK2⟩ := ih (c + 1) (by omega)
    refine ⟨K2 + n + 2, fun k hk => ?_⟩
    obtain ⟨k, rfl⟩ : ∃ m, k = m + 1 := ⟨k - 1, by omega⟩
    have hc8 : c < 8 := by omega
    have hb : hasN all (c : Int) = all.testBit c := by
      unfold hasN
      have : (c : Int) < 8 := by omega
      simp [this]
    have hs : lackFrom all (ps.take n) c = ((all.testBit c && !((ps.take n).any fun p => decide (p.f1 = (c : Int)))) || lackFrom all (ps.take n) (c + 1)) := by
      unfold lackFrom
      rw [List.drop_eq_getElem_cons (by simpa using hc8), List.any_cons]
      simp
    rw [mainsheetref13_Fair.l2, if_pos (by omega), RHas_val all (by omega), Option.bind_some, hb, show (0 : Int) = ((0 : Nat) : Int) from rfl, ref_l3 l free all ps n i c hn hc8 hpl _ K2 hK2 n k 0 _ (by omega) (by omega), List.drop_zero, hs]
    cases all.testBit c <;> cases (ps.take n).any (fun p => decide (p.f1 = (c : Int))) <;> simp

theorem lacks_eq (free : Nat) (ah : List Bool) (x : S36) (ps : List S31) (h : Taken ps ah) : lacksN free ah x = lackFrom (allowsW x free) ps 0 := by
  unfold lacksN lackFrom listOf
  rw [List.any_map, List.any_filter, List.drop_zero, Int.toNat_natCast]
  have hg : ∀ L : List Nat, (∀ d ∈ L, d < 8) → (L.any fun d => (allowsW x free).testBit d && ((fun c : Int => !ah.getD c.toNat false) ∘ fun c : Nat => (c : Int)) d) = L.any fun d => (allowsW x free).testBit d && !(ps.any fun p => decide (p.f1 = (d : Int))) := by
    intro L
    induction L with
    | nil => intro _; rfl
    | cons d L ih =>
      intro hL
      rw [List.any_cons, List.any_cons, ih (fun e he => hL e (List.mem_cons_of_mem _ he))]
      simp only [Function.comp_apply, Int.toNat_natCast, h.2 d (hL d (by simp))]
  exact hg _ (fun d hd => by simpa using hd)

theorem ref_l0 (l : List S36) (hwf : ∀ x ∈ l, Wf36 x) (hokm : ∀ x ∈ l, okM x.f2 = true) (free : Nat) (hf : free < 256) (ps : List S31) (hl : l.length ≤ 1000000) (hpl : ps.length ≤ 1000000) (d : Nat) : ∀ (i n : Nat) (ah : List Bool), i + d = l.length → n ≤ ps.length → Taken (ps.take n) ah → ∃ K, ∀ k, K ≤ k →
    mainsheetref13_Fair.l0 k l (free : Int) ps (n : Int) (i : Int) = some (fairFrom free ah (l.drop i) (ps.drop n)) := by
  induction d with
  | zero =>
    intro i n ah hi hn hT
    refine ⟨1, fun k hk => ?_⟩
    obtain ⟨k, rfl⟩ : ∃ m, k = m + 1 := ⟨k - 1, by omega⟩
    rw [mainsheetref13_Fair.l0, if_neg (by omega), List.drop_eq_nil_of_le (by omega)]
    refine congrArg some ?_
    rcases Nat.lt_or_ge n ps.length with h | h
    · rw [List.drop_eq_getElem_cons h]
      have : ((n : Int) == (ps.length : Int)) = false := by rw [beq_eq_false_iff_ne]; omega
      rw [this]; rfl
    · obtain rfl : n = ps.length := by omega
      rw [List.drop_length]; simp [fairFrom]
  | succ d ih =>
    intro i n ah hi hn hT
    have hil : i < l.length := by omega
    have hm := List.getElem_mem hil
    obtain ⟨w1, w2, w3, w4⟩ := hwf _ hm
    have hall : mainsheetref07_Allows.f l[i].f2.f0 l[i].f2.f1 (free : Int) = some ((allowsW l[i] free : Nat) : Int) := by
      have := MAllows_val l[i].f2.f0.toNat l[i].f2.f1.toNat free (by omega) (by omega)
      rw [show ((l[i].f2.f0.toNat : Nat) : Int) = l[i].f2.f0 by omega, show ((l[i].f2.f1.toNat : Nat) : Int) = l[i].f2.f1 by omega] at this
      have hok := hokm _ hm
      unfold okM at hok
      rw [this]; unfold allowsW allowsN; rw [hok]; simp [hf]
    have halt : allowsW l[i] free < 256 := allowsN_lt _ _ _
    obtain ⟨K1, hK1⟩ := ih (i + 1) n ah (by omega) hn hT
    obtain ⟨K2, hK2⟩ := ref_l2 l (free : Int) _ halt ps n i hn hil hl hpl _ K1 hK1 8 0 (by omega)
    have hlk := lacks_eq free ah l[i] _ hT
    rw [← hlk] at hK2
    rcases Nat.lt_or_ge n ps.length with hnl | hnl
    · by_cases hv : ps[n].f0 = l[i].f0
      · by_cases hb : (hasN (allowsW l[i] free) ps[n].f1) = true
        · have hb' := hb
          unfold hasN at hb'
          simp only [Bool.and_eq_true, decide_eq_true_eq] at hb'
          obtain ⟨⟨hp0, hp8⟩, _⟩ := hb'
          have hT2 : Taken (ps.take (n + 1)) (ah.set ps[n].f1.toNat true) := by
            refine ⟨by simpa using hT.1, fun c hc => ?_⟩
            rw [set_getD _ _ _ (by rw [hT.1]; omega), hT.2 c hc, List.take_succ_eq_append_getElem hnl, any_snoc]
            congr 1
            exact decide_eq_decide.2 (by omega)
          obtain ⟨K3, hK3⟩ := ih (i + 1) (n + 1) _ (by omega) (by omega) hT2
          refine ⟨K3 + n + 3, fun k hk => ?_⟩
          obtain ⟨k, rfl⟩ : ∃ m, k = m + 2 := ⟨k - 2, by omega⟩
          have h3 := hT.2 ps[n].f1.toNat (by omega)
          rw [show ((ps[n].f1.toNat : Nat) : Int) = ps[n].f1 by omega] at h3
          rw [mainsheetref13_Fair.l0, if_pos (by omega), if_pos (by omega), rd36_get l i hil, hall, Option.bind_some, if_pos (by omega), if_pos (by omega), rd31_get ps n hnl, show (ps[n].f0 == l[i].f0) = true by simpa using hv, mainsheetref13_Fair.j1, if_pos rfl, if_pos (by omega), if_pos (by omega), rd31_get ps n hnl, RHas_val _ (by omega), Option.bind_some, if_pos hb, show (0 : Int) = ((0 : Nat) : Int) from rfl, ref_l1 l (free : Int) ps n i hnl hil hl hpl _ K3 hK3 n k 0 (by omega) (by omega), List.drop_zero, List.drop_eq_getElem_cons hil, List.drop_eq_getElem_cons hnl, fairFrom, if_pos hv, hb, h3]
          cases (ps.take n).any (fun p => decide (p.f1 = ps[n].f1)) <;> simp
        · refine ⟨3, fun k hk => ?_⟩
          obtain ⟨k, rfl⟩ : ∃ m, k = m + 2 := ⟨k - 2, by omega⟩
          rw [mainsheetref13_Fair.l0, if_pos (by omega), if_pos (by omega), rd36_get l i hil, hall, Option.bind_some, if_pos (by omega), if_pos (by omega), rd31_get ps n hnl, show (ps[n].f0 == l[i].f0) = true by simpa using hv, mainsheetref13_Fair.j1, if_pos rfl, if_pos (by omega), if_pos (by omega), rd31_get ps n hnl, RHas_val _ (by omega), Option.bind_some, if_neg hb, List.drop_eq_getElem_cons hil, List.drop_eq_getElem_cons hnl, fairFrom, if_pos hv, Bool.eq_false_iff.2 hb]
          rfl
      · refine ⟨K2 + 3, fun k hk => ?_⟩
        obtain ⟨k, rfl⟩ : ∃ m, k = m + 2 := ⟨k - 2, by omega⟩
        rw [mainsheetref13_Fair.l0, if_pos (by omega), if_pos (by omega), rd36_get l i hil, hall, Option.bind_some, if_pos (by omega), if_pos (by omega), rd31_get ps n hnl, show (ps[n].f0 == l[i].f0) = false by simpa using hv, mainsheetref13_Fair.j1, if_neg (by simp), show (0 : Int) = ((0 : Nat) : Int) from rfl, hK2 k (by omega), List.drop_eq_getElem_cons hil, List.drop_eq_getElem_cons hnl, fairFrom, if_neg hv]
    · refine ⟨K2 + 3, fun k hk => ?_⟩
      obtain ⟨k, rfl⟩ : ∃ m, k = m + 2 := ⟨k - 2, by omega⟩
      have hd : ps.drop n = [] := List.drop_eq_nil_of_le (by omega)
      rw [mainsheetref13_Fair.l0, if_pos (by omega), if_pos (by omega), rd36_get l i hil, hall, Option.bind_some, if_neg (by omega), mainsheetref13_Fair.j1, if_neg (by simp), show (0 : Int) = ((0 : Nat) : Int) from rfl, hK2 k (by omega), List.drop_eq_getElem_cons hil, hd, fairFrom]

theorem good_distinct (l : List S36) : ∀ pre, goodFrom pre l = true → l.Pairwise (fun x y => x.f0 ≠ y.f0) ∧ ∀ x ∈ l, ∀ y ∈ pre, y.f0 ≠ x.f0 := by
  induction l with
  | nil => intro pre _; exact ⟨List.Pairwise.nil, by simp⟩
  | cons x l ih =>
    intro pre h
    simp only [goodFrom, Bool.and_eq_true, Bool.not_eq_true'] at h
    obtain ⟨⟨_, h2⟩, h3⟩ := h
    obtain ⟨g1, g2⟩ := ih _ h3
    refine ⟨List.pairwise_cons.2 ⟨fun y hy => g2 y hy x (by simp), g1⟩, fun y hy z hz => ?_⟩
    rcases List.mem_cons.1 hy with rfl | hy
    · intro e
      rw [List.any_eq_false] at h2
      exact h2 z hz (by unfold clash; simp [e])
    · exact g2 y hy z (by simp [hz])
def matchOf (p : S31) (x : S36) : Bool := decide (x.f0 = p.f0) && decide (x.f1 = p.f1) && decide (0 ≤ x.f1)
theorem home_eq (p : S31) : ∀ r : List S36, r.reverse.Pairwise (fun x y => x.f0 ≠ y.f0) → (r.reverse.filter (matchOf p)).map (fun _ => p.f0) = homeOf r.reverse p := by
  intro r
  induction r with
  | nil => intro _; rfl
  | cons x r ih =>
    intro h
    rw [List.reverse_cons] at h ⊢
    obtain ⟨h1, _, h3⟩ := List.pairwise_append.1 h
    have hi := ih h1
    unfold homeOf at hi ⊢
    rw [lastAt_snoc, List.filter_append, List.map_append]
    by_cases e : x.f0 = p.f0
    · have hn : r.reverse.filter (matchOf p) = [] := by
        rw [List.filter_eq_nil_iff]
        intro y hy hm
        unfold matchOf at hm
        simp only [Bool.and_eq_true, decide_eq_true_eq] at hm
        exact h3 y hy x (by simp) (hm.1.1.trans e.symm)
      rw [hn, if_pos e]
      unfold matchOf
      by_cases e1 : x.f1 = p.f1
      · by_cases e2 : 0 ≤ x.f1
        · have e3 : -1 < x.f1 := by omega
          simp [e, e1 ▸ e2, e1, e1 ▸ e3]
        · have e3 : ¬ (-1 < x.f1) := by omega
          simp [e, e2, e3]
      · simp [e, e1]
    · have hm : matchOf p x = false := by unfold matchOf; simp [e]
      rw [if_neg e, List.filter_cons, hm]
      simpa using hi

theorem want_l1 (l : List S36) (free : Int) (ps : List S31) (fair : Bool) (e : Int) (home : List Int) (f : Int) (j : Nat) (p : S31) (hl : l.length ≤ 60) (hj : j < ps.length) (hpl : ps.length ≤ 60) (r : Bool) (d : Nat) : ∀ (i : Nat) (want : List Int) (K : Nat), i + d = l.length → want.length ≤ 60 * 60 + i →
    (∀ k, K ≤ k → mainsheetlaw13_PlaceFair.l0 k l free ps fair e home f (want ++ ((l.drop i).filter (matchOf p)).map (fun _ => p.f0)) ps (ps.length : Int) ((j + 1 : Nat) : Int) = some r) → ∀ k, K + d + 1 ≤ k →
    mainsheetlaw13_PlaceFair.l1 k l free ps fair e home f want ps (ps.length : Int) (j : Int) l (l.length : Int) (i : Int) p.f0 p.f1 = some r := by
  induction d with
  | zero =>
    intro i want K hi hw hn k hk
    obtain ⟨k, rfl⟩ : ∃ m, k = m + 1 := ⟨k - 1, by omega⟩
    have h := hn k (by omega)
    rw [List.drop_eq_nil_of_le (by omega)] at h
    simp only [List.filter_nil, List.map_nil, List.append_nil] at h
    rw [mainsheetlaw13_PlaceFair.l1, if_neg (by omega), wrap_small _ (by omega) (by omega), show (j : Int) + 1 = ((j + 1 : Nat) : Int) by omega, h]
  | succ d ih =>
    intro i want K hi hw hn k hk
    obtain ⟨k, rfl⟩ : ∃ m, k = m + 1 := ⟨k - 1, by omega⟩
    have hil : i < l.length := by omega
    rw [List.drop_eq_getElem_cons hil, List.filter_cons] at hn
    have hmt : matchOf p l[i] = (decide (l[i].f0 = p.f0) && decide (l[i].f1 = p.f1) && decide (0 ≤ l[i].f1)) := rfl
    rw [mainsheetlaw13_PlaceFair.l1, if_pos (by omega), if_pos (by omega), if_pos (by omega), rd36_get l i hil, wrap_small _ (by omega) (by omega), show (i : Int) + 1 = ((i + 1 : Nat) : Int) by omega]
    by_cases e1 : l[i].f0 = p.f0
    · rw [if_pos e1]
      by_cases e2 : l[i].f1 = p.f1
      · rw [if_pos e2]
        by_cases e3 : l[i].f1 ≥ 0
        · have hm : matchOf p l[i] = true := by rw [hmt, decide_eq_true e1, decide_eq_true e2, decide_eq_true e3]; rfl
          rw [hm, if_pos rfl] at hn
          rw [if_pos e3, if_pos (by omega)]
          exact ih (i + 1) _ K (by omega) (by simp; omega) (by simpa using hn) k (by omega)
        · have hm : matchOf p l[i] = false := by rw [hmt, decide_eq_false (show ¬ (0 ≤ l[i].f1) from e3)]; simp
          rw [hm, if_neg (by simp)] at hn
          rw [if_neg e3]
          exact ih (i + 1) _ K (by omega) (by omega) hn k (by omega)
      · have hm : matchOf p l[i] = false := by rw [hmt, decide_eq_false e2]; simp
        rw [hm, if_neg (by simp)] at hn
        rw [if_neg e2]
        exact ih (i + 1) _ K (by omega) (by omega) hn k (by omega)
    · have hm : matchOf p l[i] = false := by rw [hmt, decide_eq_false e1]; simp
      rw [hm, if_neg (by simp)] at hn
      rw [if_neg e1]
      exact ih (i + 1) _ K (by omega) (by omega) hn k (by omega)

theorem want_l0 (l : List S36) (free : Int) (ps : List S31) (fair : Bool) (e : Int) (home : List Int) (hl : l.length ≤ 60) (hpl : ps.length ≤ 60) (r : Bool) (K : Nat)
    (hend : ∀ k, K ≤ k → mainsheetlaw13_PlaceFair.l0 k l free ps fair e home 0 (ps.flatMap fun p => (l.filter (matchOf p)).map (fun _ => p.f0)) ps (ps.length : Int) (ps.length : Int) = some r) (d : Nat) : ∀ (j : Nat) (want : List Int), j + d = ps.length → want.length ≤ j * 60 →
    want ++ ((ps.drop j).flatMap fun p => (l.filter (matchOf p)).map (fun _ => p.f0)) = (ps.flatMap fun p => (l.filter (matchOf p)).map (fun _ => p.f0)) → ∃ K2, ∀ k, K2 ≤ k → mainsheetlaw13_PlaceFair.l0 k l free ps fair e home 0 want ps (ps.length : Int) (j : Int) = some r := by
  induction d with
  | zero =>
    intro j want hj hw hq
    refine ⟨K, fun k hk => ?_⟩
    rw [List.drop_eq_nil_of_le (by omega)] at hq
    simp only [List.flatMap_nil, List.append_nil] at hq
    obtain rfl : j = ps.length := by omega
    rw [hq]; exact hend k hk
  | succ d ih =>
    intro j want hj hw hq
    have hjl : j < ps.length := by omega
    rw [List.drop_eq_getElem_cons hjl, List.flatMap_cons, ← List.append_assoc] at hq
    have hfl := List.length_filter_le (matchOf ps[j]) l
    obtain ⟨K2, hK2⟩ := ih (j + 1) _ (by omega) (by simp; omega) hq
    refine ⟨K2 + l.length + 3, fun k hk => ?_⟩
    obtain ⟨k, rfl⟩ : ∃ m, k = m + 1 := ⟨k - 1, by omega⟩
    rw [mainsheetlaw13_PlaceFair.l0, if_pos (by omega), if_pos (by omega), if_pos (by omega), rd31_get ps j hjl]
    exact want_l1 l free ps fair e home 0 j ps[j] hl hjl hpl r l.length 0 want K2 (by omega) (by omega) (by simpa using hK2) k (by omega)

theorem wf31_of {ps : List S31} (h : ∀ p ∈ ps, (Lit.int .i64 p.f0).wf = true ∧ (Lit.int .i64 p.f1).wf = true) : ∀ p ∈ ps, Wf31 p := fun p hp => by
  have a : IntKind.i64.min = -9223372036854775808 := by decide +kernel
  have b : IntKind.i64.max = 9223372036854775807 := by decide +kernel
  obtain ⟨h1, h2⟩ := h p hp
  have g1 : (decide (IntKind.i64.min ≤ p.f0) && decide (p.f0 ≤ IntKind.i64.max)) = true := h1
  have g2 : (decide (IntKind.i64.min ≤ p.f1) && decide (p.f1 ≤ IntKind.i64.max)) = true := h2
  rw [a, b] at g1 g2
  simp only [Bool.and_eq_true, decide_eq_true_eq] at g1 g2
  exact ⟨g1.1, g1.2, g2.1, g2.2⟩
theorem pure_PlaceFair (l : List S36) (free : Int) (ps : List S31) (hwf : ∀ x ∈ l, Wf36 x) (h0 : 0 ≤ free) (h1 : free < 4294967296) (hwp : ∀ p ∈ ps, Wf31 p) : ∃ k, mainsheetlaw13_PlaceFair.f k l free ps = some true := by
  by_cases hbig : l.length > 60 ∨ ps.length > 60
  · refine ⟨2, ?_⟩
    unfold mainsheetlaw13_PlaceFair.f
    rw [wakes13, Option.bind_some, if_pos rfl]
    rcases hbig with hb | hb
    · rw [if_pos (by omega), mainsheetlaw13_PlaceFair.j0, if_pos rfl]
    · rw [decide_eq_true (by omega)]
      split <;> rw [mainsheetlaw13_PlaceFair.j0, if_pos rfl]
  have hl : l.length ≤ 60 := by omega
  have hpl : ps.length ≤ 60 := by omega
  obtain ⟨K1, hK1⟩ := Right13_val l (by omega) hwf
  obtain ⟨K2, hK2⟩ := why_val l free (by omega) hwf
  have hokF : okFair l free ps := ⟨⟨hwf, by omega, h0, h1⟩, by omega⟩
  have hokH : okHome l ps := ⟨hwf, by omega, hwp, by omega⟩
  have hF : place_Fair.f l free ps = some (if askedOf l free = 0 then (fairFrom free.toNat (List.replicate 8 false) l ps, 0) else (false, askedOf l free)) := by unfold place_Fair.f; exact if_pos hokF
  have hH : place_Home.f l ps = some (if chk l = 0 then (ps.flatMap (homeOf l), 0) else ([], chk l)) := by unfold place_Home.f; exact if_pos hokH
  have hpc : placeOk l = chk l := rfl
  have hstart : ∀ k, K1 + 2 ≤ k → mainsheetlaw13_PlaceFair.f k l free ps = if chk l = 0 then mainsheetlaw13_PlaceFair.l0 (k - 1) l free ps (if askedOf l free = 0 then (fairFrom free.toNat (List.replicate 8 false) l ps, (0 : Int)) else (false, askedOf l free)).1 (if askedOf l free = 0 then (fairFrom free.toNat (List.replicate 8 false) l ps, (0 : Int)) else (false, askedOf l free)).2 (ps.flatMap (homeOf l)) 0 [] ps (ps.length : Int) 0 else some true := by
    intro k hk
    obtain ⟨k, rfl⟩ : ∃ m, k = m + 1 := ⟨k - 1, by omega⟩
    unfold mainsheetlaw13_PlaceFair.f
    rw [wakes13, Option.bind_some, if_pos rfl, if_neg (by omega), decide_eq_false (by omega), mainsheetlaw13_PlaceFair.j0, if_neg (by simp), Option.bind_some, if_pos (by simp; omega), Option.bind_some, if_pos (by simp; omega), List.nil_append, List.nil_append, hF, Option.bind_some, Option.bind_some, if_pos (by simp; omega), Option.bind_some, if_pos (by simp; omega), List.nil_append, List.nil_append, hH, Option.bind_some, hK1 _ (by omega), Option.bind_some, hpc]
    by_cases hc : chk l = 0
    · rw [decide_eq_true hc, if_pos rfl, if_pos hc, if_pos hc]
      rfl
    · have h230 : chk l = 230 := (check_cases l _ _).resolve_left hc
      have ha : askedOf l free = 230 := by unfold askedOf; rw [if_pos (show checkFrom (List.replicate 17 false) (List.replicate 8 false) l ≠ 0 from hc)]; exact h230
      rw [decide_eq_false hc, if_neg (by simp), if_neg hc, if_neg hc, ha, h230]
      simp
  by_cases hc : chk l = 0
  case neg => exact ⟨K1 + 2, by rw [hstart _ (Nat.le_refl _), if_neg hc]⟩
  have hgood : goodFrom [] l = true := (check_good l [] _ _ marks_nil).1 hc
  have hdist := (good_distinct l [] hgood).1
  have hhome : (ps.flatMap fun p => (l.filter (matchOf p)).map (fun _ => p.f0)) = ps.flatMap (homeOf l) := by
    congr 1
    funext p
    have := home_eq p l.reverse (by rw [List.reverse_reverse]; exact hdist)
    rw [List.reverse_reverse] at this
    exact this
  have hokm := places_ok l _ _ hc
  have hlen : (ps.flatMap (homeOf l)).length ≤ 60 := by
    have : ∀ qs : List S31, (qs.flatMap (homeOf l)).length ≤ qs.length := by
      intro qs
      induction qs with
      | nil => simp
      | cons q qs ih =>
        rw [List.flatMap_cons, List.length_append, List.length_cons]
        have : (homeOf l q).length ≤ 1 := by
          unfold homeOf
          split
          · split <;> simp
          · simp
        omega
    exact Nat.le_trans (this ps) hpl
  -- the end of the law
  have hend : ∃ K, ∀ k, K ≤ k → mainsheetlaw13_PlaceFair.l0 k l free ps (if askedOf l free = 0 then (fairFrom free.toNat (List.replicate 8 false) l ps, (0 : Int)) else (false, askedOf l free)).1 (if askedOf l free = 0 then (fairFrom free.toNat (List.replicate 8 false) l ps, (0 : Int)) else (false, askedOf l free)).2 (ps.flatMap (homeOf l)) 0 (ps.flatMap fun p => (l.filter (matchOf p)).map (fun _ => p.f0)) ps (ps.length : Int) (ps.length : Int) = some true := by
    by_cases ha : askedOf l free = 0
    · obtain ⟨_, hf⟩ := asked_ok.1 ha
      obtain ⟨f, rfl⟩ : ∃ n : Nat, free = n := ⟨free.toNat, by omega⟩
      obtain ⟨K3, hK3⟩ := ref_l0 l hwf hokm f (by omega) ps (by omega) (by omega) l.length 0 0 (List.replicate 8 false) (by omega) (by omega) ⟨by simp, fun c hc => by rw [List.getD_eq_getElem?_getD, List.getElem?_replicate, if_pos (by omega)]; rfl⟩
      refine ⟨K2 + K3 + 100, fun k hk => ?_⟩
      obtain ⟨k, rfl⟩ : ∃ m, k = m + 2 := ⟨k - 2, by omega⟩
      have hR : mainsheetref13_Fair.f k l (f : Int) ps = some (fairFrom f (List.replicate 8 false) l ps) := hK3 k (by omega)
      rw [mainsheetlaw13_PlaceFair.l0, if_neg (by omega), if_pos rfl, hhome, Same_val _ _ (by omega) _ (by omega), Option.bind_some, decide_eq_true rfl, Bool.not_true, mainsheetlaw13_PlaceFair.j3, if_neg (by simp), hK2 _ (by omega), Option.bind_some, if_pos ha, if_pos ha]
      simp only
      rw [if_pos trivial, hR, Option.bind_some, Int.toNat_natCast]
      simp
    · refine ⟨K2 + 100, fun k hk => ?_⟩
      obtain ⟨k, rfl⟩ : ∃ m, k = m + 2 := ⟨k - 2, by omega⟩
      rw [mainsheetlaw13_PlaceFair.l0, if_neg (by omega), if_pos rfl, hhome, Same_val _ _ (by omega) _ (by omega), Option.bind_some, decide_eq_true rfl, Bool.not_true, mainsheetlaw13_PlaceFair.j3, if_neg (by simp), hK2 _ (by omega), Option.bind_some, if_neg ha, if_neg ha]
      simp
  obtain ⟨K4, hK4⟩ := hend
  obtain ⟨K5, hK5⟩ := want_l0 l free ps _ _ (ps.flatMap (homeOf l)) hl hpl true K4 hK4 ps.length 0 [] (by omega) (by simp) (by simp)
  refine ⟨K1 + K5 + 3, ?_⟩
  rw [hstart _ (by omega), if_pos hc]
  exact hK5 _ (by omega)
#print axioms pure_PlaceFair
end Go.Proofs.YtdmieaidheelbaaDoor.Q
