/- PlaceMore, the plain law. -/
import Derived.Test.YtdmieaidheelbaaDoorPlaceP
import Derived.Test.YtdmieaidheelbaaDoorQFlaw13PlaceMore
namespace Go.Proofs.YtdmieaidheelbaaDoor.Q
open Go Go.RowKit Go.Proofs.YtdmieaidheelbaaDoorW.PrintWords Go.Proofs.YtdmieaidheelbaaDoorW.PrintLast Go.Proofs.YtdmieaidheelbaaDoorW.PrintMore
set_option linter.unusedVariables false
set_option linter.unusedSimpArgs false

theorem place_ok {l : List S36} {a : Int} (hok : okArgs l a) (h0 : askedOf l a = 0) : place_Place.f l a = some (putsOf (turnsOf a.toNat l), (takeAll a.toNat (putsOf (turnsOf a.toNat l)) : Int), 0) := by
  rw [place_Place.f, if_pos hok, if_pos h0]
theorem place_bad {l : List S36} {a : Int} (hok : okArgs l a) (h0 : askedOf l a ≠ 0) : place_Place.f l a = some ([], 0, askedOf l a) := by
  rw [place_Place.f, if_pos hok, if_neg h0]

theorem more_l1 (all some_ rest : List S31) (hall : all = some_ ++ rest) (hs : all.length ≤ 1000000) (d : Nat) : ∀ (k i : Nat), i ≤ rest.length → rest.length - i = d → d < k →
    mainsheetlaw13_PlaceMore.l1 k all some_ rest (rest.length : Int) (i : Int) = some true := by
  have hlen : all.length = some_.length + rest.length := by rw [hall]; simp
  induction d with
  | zero =>
    intro k i hi hd hk
    obtain ⟨k, rfl⟩ : ∃ m, k = m + 1 := ⟨k - 1, by omega⟩
    simp only [mainsheetlaw13_PlaceMore.l1]; rw [if_neg (by omega)]
  | succ d ih =>
    intro k i hi hd hk
    obtain ⟨k, rfl⟩ : ∃ m, k = m + 1 := ⟨k - 1, by omega⟩
    have hlt : i < rest.length := by omega
    have hw : wrap64 ((some_.length : Int) + (i : Int)) = ((some_.length + i : Nat) : Int) := by rw [wrap_small _ (by omega) (by omega)]; omega
    simp only [mainsheetlaw13_PlaceMore.l1]
    rw [if_pos (by omega), if_pos (by omega), if_pos (by omega), hw, if_pos (by omega), if_pos (by omega)]
    have e : rd_T31 all ((some_.length + i : Nat) : Int) = rd_T31 rest (i : Int) := by
      rw [rd31_at, rd31_at, hall]
      simp [List.getD_eq_getElem?_getD, List.getElem?_append_right]
    rw [e, wrap_small _ (by omega) (by omega), show (i : Int) + 1 = ((i + 1 : Nat) : Int) by omega]
    simp only [beq_self_eq_true, Bool.not_true, Bool.or_false, Bool.false_eq_true, if_false]
    exact ih k (i + 1) (by omega) (by omega) (by omega)

theorem more_l0 (l : List S36) (n left : Int) (all some_ rest : List S31) (hall : all = some_ ++ rest) (hs : all.length ≤ 1000000) (hn0 : 0 ≤ n) (hn1 : n ≤ l.length) (q : Int)
    (hp : place_Place.f (l.drop n.toNat) left = some (rest, q, 0)) (K : Nat) (hK : rest.length + 2 < K) (d : Nat) : ∀ (k i : Nat), i ≤ some_.length → some_.length - i = d → d + K < k →
    mainsheetlaw13_PlaceMore.l0 k l n all some_ left (some_.length : Int) (i : Int) = some true := by
  have hlen : all.length = some_.length + rest.length := by rw [hall]; simp
  induction d with
  | zero =>
    intro k i hi hd hk
    obtain ⟨k, rfl⟩ : ∃ m, k = m + 2 := ⟨k - 2, by omega⟩
    simp only [mainsheetlaw13_PlaceMore.l0]
    rw [if_neg (by omega), if_pos hn0, if_pos hn1, hp]
    simp only [Option.bind_some, if_true]
    rw [wrap_small _ (by omega) (by omega)]
    have : ((rest.length : Int) != (all.length : Int) - (some_.length : Int)) = false := by
      rw [bne_eq_false_iff_eq]; omega
    rw [this]
    simp only [mainsheetlaw13_PlaceMore.j2, Bool.false_eq_true, if_false]
    exact more_l1 all some_ rest hall hs rest.length k 0 (by omega) (by omega) (by omega)
  | succ d ih =>
    intro k i hi hd hk
    obtain ⟨k, rfl⟩ : ∃ m, k = m + 1 := ⟨k - 1, by omega⟩
    have hlt : i < some_.length := by omega
    simp only [mainsheetlaw13_PlaceMore.l0]
    rw [if_pos (by omega), if_pos (by omega), if_pos (by omega), if_pos (by omega)]
    have e : rd_T31 all (i : Int) = rd_T31 some_ (i : Int) := by
      rw [rd31_at, rd31_at, hall]
      simp [List.getD_eq_getElem?_getD, List.getElem?_append_left hlt]
    rw [e, wrap_small _ (by omega) (by omega), show (i : Int) + 1 = ((i + 1 : Nat) : Int) by omega]
    simp only [beq_self_eq_true, Bool.not_true, Bool.or_false, Bool.false_eq_true, if_false]
    exact ih k (i + 1) (by omega) (by omega) (by omega)

theorem pure_PlaceMore (l : List S36) (free n : Int) (hwf : ∀ x ∈ l, Wf36 x) (h0 : 0 ≤ free) (h1 : free < 4294967296) (hn : (Lit.int .i64 n).wf = true) : ∃ k, mainsheetlaw13_PlaceMore.f k l free n = some true := by
  refine ⟨1000, ?_⟩
  unfold mainsheetlaw13_PlaceMore.f
  rw [wakes13]
  simp only [Option.bind_some, if_true]
  by_cases h60 : (l.length : Int) > 60
  · rw [if_pos h60]
  rw [if_neg h60]
  have hl : l.length ≤ 60 := by omega
  have hw : wrap64 ((l.length : Int) + 1) = ((l.length + 1 : Nat) : Int) := by rw [wrap_small _ (by omega) (by omega)]; omega
  rw [hw, if_neg (by omega)]
  have hmx : 0 ≤ mx n 0 := by unfold mx; split <;> omega
  obtain ⟨m, hm⟩ : ∃ m : Nat, mx n 0 = m := ⟨(mx n 0).toNat, by omega⟩
  obtain ⟨j, hj⟩ : ∃ j : Nat, mx n 0 % ((l.length + 1 : Nat) : Int) = j := ⟨m % (l.length + 1), by rw [hm]; omega⟩
  have hjl : j ≤ l.length := by
    have := Int.emod_lt_of_pos (mx n 0) (show (0 : Int) < ((l.length + 1 : Nat) : Int) by omega)
    omega
  rw [hj]
  have hok : okArgs l free := ⟨hwf, by omega, h0, h1⟩
  have hok1 : okArgs (l.take j) free := ⟨wf_take hwf j, by rw [List.length_take]; omega, h0, h1⟩
  by_cases ha : askedOf l free = 0
  · obtain ⟨hc, hf⟩ := asked_ok.1 ha
    have hsplit : l = l.take j ++ l.drop j := (List.take_append_drop j l).symm
    have hc1 : checkFrom (List.replicate 17 false) (List.replicate 8 false) (l.take j) = 0 := check_prefix (l.take j) (l.drop j) _ _ (by rw [← hsplit]; exact hc)
    have hc2 : checkFrom (List.replicate 17 false) (List.replicate 8 false) (l.drop j) = 0 := check_suffix (l.take j) (l.drop j) _ _ (by rw [← hsplit]; exact hc)
    have ha1 : askedOf (l.take j) free = 0 := asked_ok.2 ⟨hc1, hf⟩
    have hleft : takeAll free.toNat (putsOf (turnsOf free.toNat (l.take j))) = freeAfter free.toNat (l.take j) := takeAll_turns _ _
    have hlt := freeAfter_lt (l.take j) free.toNat (by omega)
    have ha2 : askedOf (l.drop j) (freeAfter free.toNat (l.take j) : Nat) = 0 := asked_ok.2 ⟨hc2, by omega⟩
    have hok2 : okArgs (l.drop j) (freeAfter free.toNat (l.take j) : Nat) := ⟨wf_drop hwf j, by rw [List.length_drop]; omega, by omega, by omega⟩
    rw [place_ok hok ha]
    simp only [Option.bind_some, Int.toNat_natCast]
    rw [if_pos (by omega), if_pos (by omega), place_ok hok1 ha1, hleft]
    simp only [Option.bind_some, if_true]
    have hp := place_ok hok2 ha2
    rw [Int.toNat_natCast] at hp
    have hall : putsOf (turnsOf free.toNat l) = putsOf (turnsOf free.toNat (l.take j)) ++ putsOf (turnsOf (freeAfter free.toNat (l.take j)) (l.drop j)) := by
      rw [← puts_append, ← turns_append, ← hsplit]
    have hlen : (putsOf (turnsOf free.toNat l)).length ≤ 60 := by
      have h1 := puts_len (turnsOf free.toNat l)
      rw [turns_len] at h1; omega
    have hle : (decide (((putsOf (turnsOf free.toNat (l.take j))).length : Int) > ((putsOf (turnsOf free.toNat l)).length : Int))) = false := by
      rw [hall]; simp only [List.length_append]; exact decide_eq_false (by omega)
    rw [hle]
    simp only [mainsheetlaw13_PlaceMore.j0, Bool.false_eq_true, if_false]
    have hl2 : (putsOf (turnsOf free.toNat l)).length = (putsOf (turnsOf free.toNat (l.take j))).length + (putsOf (turnsOf (freeAfter free.toNat (l.take j)) (l.drop j))).length := by rw [hall]; simp
    exact more_l0 l j _ _ _ _ hall (by omega) (by omega) (by omega) _ (by rw [Int.toNat_natCast]; exact hp) 100 (by omega) _ 999 0 (by omega) rfl (by omega)
  · rw [place_bad hok ha]
    simp only [Option.bind_some, Int.toNat_natCast]
    rw [if_pos (by omega), if_pos (by omega)]
    have : ∃ r, place_Place.f (l.take j) free = some r := by
      by_cases hb : askedOf (l.take j) free = 0
      · exact ⟨_, place_ok hok1 hb⟩
      · exact ⟨_, place_bad hok1 hb⟩
    obtain ⟨r, hr⟩ := this
    rw [hr]
    simp only [Option.bind_some]
    rw [if_neg ha]
    rfl
#print axioms pure_PlaceMore
end Go.Proofs.YtdmieaidheelbaaDoor.Q
