-- Written by a program of this session (hprint.py), which drives the kit's print over hand-proved contracts. Lean checks it.
import Derived.Test.YtdmieaidheelbaaDoorQ0
import Derived.Test.YtdmieaidheelbaaDoorQE1
import Derived.Test.YtdmieaidheelbaaDoorQFlaw13wakes
import Derived.Test.YtdmieaidheelbaaDoorPlace
import Derived.Test.YtdmieaidheelbaaDoorSet
namespace Go.Proofs.YtdmieaidheelbaaDoor.Q
open Go.RowKit Go.Proofs.YtdmieaidheelbaaDoorW.PrintWords Go.Proofs.YtdmieaidheelbaaDoorW.PrintLast Go.Proofs.YtdmieaidheelbaaDoorW.PrintMore
attribute [local go_sem] max2_int min2_int max_two min_two max_three min_three max_four min_four   -- for this text's walks alone
set_option linter.unusedVariables false
set_option linter.unusedSimpArgs false

attribute [local go_sem high] eqA31
/-! ### mainsheetlaw13_PlaceMore: function 3 -/
mutual
def mainsheetlaw13_PlaceMore.j0 : Nat → List (S36) → Int → List (S31) → List (S31) → Int → Bool → Option (Bool)
  | 0, _, _, _, _, _, _ => none
  | k + 1, x0, x2, x7, x10, x11, x57 => if x57 = true then (some false) else (mainsheetlaw13_PlaceMore.l0 k x0 x2 x7 x10 x11 (x10.length : Int) 0)
def mainsheetlaw13_PlaceMore.l0 : Nat → List (S36) → Int → List (S31) → List (S31) → Int → Int → Int → Option (Bool)
  | 0, _, _, _, _, _, _, _ => none
  | k + 1, x0, x2, x7, x10, x11, x59, x60 => if x60 < x59 then (if 0 ≤ x60 then (if x60 < (x10.length : Int) then (if x60 < (x7.length : Int) then (if (!(((rd_T31 x10 x60).f0) == ((rd_T31 x7 x60).f0)) || (!(((rd_T31 x10 x60).f1) == ((rd_T31 x7 x60).f1)))) = true then (some false) else (mainsheetlaw13_PlaceMore.l0 k x0 x2 x7 x10 x11 x59 (wrap64 (x60 + 1)))) else (none)) else (none)) else (none)) else (if 0 ≤ x2 then (if x2 ≤ (x0.length : Int) then ((place_Place.f (x0.drop (x2 : Int).toNat) x11).bind fun bt143 => (if bt143.2.2 = 0 then (mainsheetlaw13_PlaceMore.j2 k x7 x10 bt143.1 ((bt143.1.length : Int) != (wrap64 ((x7.length : Int) - (x10.length : Int))))) else (mainsheetlaw13_PlaceMore.j2 k x7 x10 bt143.1 true))) else (none)) else (none))
def mainsheetlaw13_PlaceMore.j2 : Nat → List (S31) → List (S31) → List (S31) → Bool → Option (Bool)
  | 0, _, _, _, _ => none
  | k + 1, x7, x10, x14, x93 => if x93 = true then (some false) else (mainsheetlaw13_PlaceMore.l1 k x7 x10 x14 (x14.length : Int) 0)
def mainsheetlaw13_PlaceMore.l1 : Nat → List (S31) → List (S31) → List (S31) → Int → Int → Option (Bool)
  | 0, _, _, _, _, _ => none
  | k + 1, x7, x10, x14, x95, x96 => if x96 < x95 then (if 0 ≤ x96 then (if x96 < (x14.length : Int) then (if 0 ≤ (wrap64 ((x10.length : Int) + x96)) then (if (wrap64 ((x10.length : Int) + x96)) < (x7.length : Int) then (if (!(((rd_T31 x14 x96).f0) == ((rd_T31 x7 (wrap64 ((x10.length : Int) + x96))).f0)) || (!(((rd_T31 x14 x96).f1) == ((rd_T31 x7 (wrap64 ((x10.length : Int) + x96))).f1)))) = true then (some false) else (mainsheetlaw13_PlaceMore.l1 k x7 x10 x14 x95 (wrap64 (x96 + 1)))) else (none)) else (none)) else (none)) else (none)) else (some true)
end
def mainsheetlaw13_PlaceMore.f (k : Nat) (l0 : List (S36)) (a1 : Int) (a2 : Int) : Option (Bool) := (mainsheetlaw13_wakes.f).bind fun t122 => (if t122 = true then (if (l0.length : Int) > 60 then (some true) else (if (wrap64 ((l0.length : Int) + 1)) = 0 then (none) else ((place_Place.f l0 a1).bind fun bt123 => (if 0 ≤ ((mx a2 0) % (wrap64 ((l0.length : Int) + 1))) then (if ((mx a2 0) % (wrap64 ((l0.length : Int) + 1))) ≤ (l0.length : Int) then ((place_Place.f (l0.take (((mx a2 0) % (wrap64 ((l0.length : Int) + 1))) : Int).toNat) a1).bind fun bt132 => (if bt123.2.2 = 0 then (if bt132.2.2 = 0 then (mainsheetlaw13_PlaceMore.j0 k l0 ((mx a2 0) % (wrap64 ((l0.length : Int) + 1))) bt123.1 bt132.1 bt132.2.1 (decide ((bt132.1.length : Int) > (bt123.1.length : Int)))) else (mainsheetlaw13_PlaceMore.j0 k l0 ((mx a2 0) % (wrap64 ((l0.length : Int) + 1))) bt123.1 bt132.1 bt132.2.1 true)) else (some ((bt123.1.length : Int) == 0)))) else (none)) else (none))))) else (some false))
theorem mainsheetlaw13_PlaceMore.mono_l : ∀ k, (∀ y0 y1 y2 y3 y4 y5, LeO (mainsheetlaw13_PlaceMore.j0 k y0 y1 y2 y3 y4 y5) (mainsheetlaw13_PlaceMore.j0 (k + 1) y0 y1 y2 y3 y4 y5)) ∧ (∀ y0 y1 y2 y3 y4 y5 y6, LeO (mainsheetlaw13_PlaceMore.l0 k y0 y1 y2 y3 y4 y5 y6) (mainsheetlaw13_PlaceMore.l0 (k + 1) y0 y1 y2 y3 y4 y5 y6)) ∧ (∀ y0 y1 y2 y3, LeO (mainsheetlaw13_PlaceMore.j2 k y0 y1 y2 y3) (mainsheetlaw13_PlaceMore.j2 (k + 1) y0 y1 y2 y3)) ∧ (∀ y0 y1 y2 y3 y4, LeO (mainsheetlaw13_PlaceMore.l1 k y0 y1 y2 y3 y4) (mainsheetlaw13_PlaceMore.l1 (k + 1) y0 y1 y2 y3 y4))
  | 0 => ⟨fun _ _ _ _ _ _ r h => by simp [mainsheetlaw13_PlaceMore.j0] at h, fun _ _ _ _ _ _ _ r h => by simp [mainsheetlaw13_PlaceMore.l0] at h, fun _ _ _ _ r h => by simp [mainsheetlaw13_PlaceMore.j2] at h, fun _ _ _ _ _ r h => by simp [mainsheetlaw13_PlaceMore.l1] at h⟩
  | k + 1 => by
    obtain ⟨ih0, ih1, ih2, ih3⟩ := mainsheetlaw13_PlaceMore.mono_l k
    refine ⟨?_, ?_, ?_, ?_⟩
    · intro y0 y1 y2 y3 y4 y5
      unfold mainsheetlaw13_PlaceMore.j0
      repeat' first
      | (with_reducible exact ih0 _ _ _ _ _ _)
      | (with_reducible exact ih1 _ _ _ _ _ _ _)
      | (with_reducible exact ih2 _ _ _ _)
      | (with_reducible exact ih3 _ _ _ _ _)
      | (with_reducible exact LeO.refl _)
      | (with_reducible exact LeO.none _)
      | (with_reducible refine LeO.ite ?_ ?_)
      | (with_reducible refine LeO.bind ?_ (fun _ => ?_))
      | exact ih0 _ _ _ _ _ _
      | exact ih1 _ _ _ _ _ _ _
      | exact ih2 _ _ _ _
      | exact ih3 _ _ _ _ _
      | exact LeO.none _
      | refine LeO.ite ?_ ?_
      | refine LeO.bind ?_ (fun _ => ?_)
    · intro y0 y1 y2 y3 y4 y5 y6
      unfold mainsheetlaw13_PlaceMore.l0
      repeat' first
      | (with_reducible exact ih0 _ _ _ _ _ _)
      | (with_reducible exact ih1 _ _ _ _ _ _ _)
      | (with_reducible exact ih2 _ _ _ _)
      | (with_reducible exact ih3 _ _ _ _ _)
      | (with_reducible exact LeO.refl _)
      | (with_reducible exact LeO.none _)
      | (with_reducible refine LeO.ite ?_ ?_)
      | (with_reducible refine LeO.bind ?_ (fun _ => ?_))
      | exact ih0 _ _ _ _ _ _
      | exact ih1 _ _ _ _ _ _ _
      | exact ih2 _ _ _ _
      | exact ih3 _ _ _ _ _
      | exact LeO.none _
      | refine LeO.ite ?_ ?_
      | refine LeO.bind ?_ (fun _ => ?_)
    · intro y0 y1 y2 y3
      unfold mainsheetlaw13_PlaceMore.j2
      repeat' first
      | (with_reducible exact ih0 _ _ _ _ _ _)
      | (with_reducible exact ih1 _ _ _ _ _ _ _)
      | (with_reducible exact ih2 _ _ _ _)
      | (with_reducible exact ih3 _ _ _ _ _)
      | (with_reducible exact LeO.refl _)
      | (with_reducible exact LeO.none _)
      | (with_reducible refine LeO.ite ?_ ?_)
      | (with_reducible refine LeO.bind ?_ (fun _ => ?_))
      | exact ih0 _ _ _ _ _ _
      | exact ih1 _ _ _ _ _ _ _
      | exact ih2 _ _ _ _
      | exact ih3 _ _ _ _ _
      | exact LeO.none _
      | refine LeO.ite ?_ ?_
      | refine LeO.bind ?_ (fun _ => ?_)
    · intro y0 y1 y2 y3 y4
      unfold mainsheetlaw13_PlaceMore.l1
      repeat' first
      | (with_reducible exact ih0 _ _ _ _ _ _)
      | (with_reducible exact ih1 _ _ _ _ _ _ _)
      | (with_reducible exact ih2 _ _ _ _)
      | (with_reducible exact ih3 _ _ _ _ _)
      | (with_reducible exact LeO.refl _)
      | (with_reducible exact LeO.none _)
      | (with_reducible refine LeO.ite ?_ ?_)
      | (with_reducible refine LeO.bind ?_ (fun _ => ?_))
      | exact ih0 _ _ _ _ _ _
      | exact ih1 _ _ _ _ _ _ _
      | exact ih2 _ _ _ _
      | exact ih3 _ _ _ _ _
      | exact LeO.none _
      | refine LeO.ite ?_ ?_
      | refine LeO.bind ?_ (fun _ => ?_)
theorem mainsheetlaw13_PlaceMore.mono : ∀ a0 a1 a2 k, LeO (mainsheetlaw13_PlaceMore.f k a0 a1 a2) (mainsheetlaw13_PlaceMore.f (k + 1) a0 a1 a2) := by
  intro a0 a1 a2 k
  obtain ⟨ih0, ih1, ih2, ih3⟩ := mainsheetlaw13_PlaceMore.mono_l k
  unfold mainsheetlaw13_PlaceMore.f
  repeat' first
      | (with_reducible exact ih0 _ _ _ _ _ _)
      | (with_reducible exact ih1 _ _ _ _ _ _ _)
      | (with_reducible exact ih2 _ _ _ _)
      | (with_reducible exact ih3 _ _ _ _ _)
      | (with_reducible exact LeO.refl _)
      | (with_reducible exact LeO.none _)
      | (with_reducible refine LeO.ite ?_ ?_)
      | (with_reducible refine LeO.bind ?_ (fun _ => ?_))
      | exact ih0 _ _ _ _ _ _
      | exact ih1 _ _ _ _ _ _ _
      | exact ih2 _ _ _ _
      | exact ih3 _ _ _ _ _
      | exact LeO.none _
      | refine LeO.ite ?_ ?_
      | refine LeO.bind ?_ (fun _ => ?_)
set_option maxHeartbeats 8000000 in
set_option maxRecDepth 100000 in
theorem mainsheetlaw13_PlaceMore.calls (k : Nat) (A0 : Option Addr) (c0 : Nat) (l0 : List (S36)) (a1 : Int) (a2 : Int) (r : Bool) (w : World) (hr0 : Kd.C k36 w A0 l0.length l0) (hc0 : l0.length ≤ c0) (hT : TabW w) (h : mainsheetlaw13_PlaceMore.f k l0 a1 a2 = some r) :
    Calls Tryd.prog 3 #[.slice A0 l0.length c0, .int .u32 a1, .int .i64 a2] w fun e w' => e = .returned (.bool r) ∧ Below w.heap.size w w' := by
  have HT := Aside0.mk hT
  clear hT
  have hu31 := Tryd.underlying31
  have HR0 := Aside0.mk hr0
  have HC0 := Aside0.mk hc0
  clear hr0 hc0
  have HB := Aside0.mk (Below.refl w.heap.size w)
  have H : ((mainsheetlaw13_wakes.f).bind fun t122 => (if t122 = true then (if (l0.length : Int) > 60 then (some true) else (if (wrap64 ((l0.length : Int) + 1)) = 0 then (none) else ((place_Place.f l0 a1).bind fun bt123 => (if 0 ≤ ((mx a2 0) % (wrap64 ((l0.length : Int) + 1))) then (if ((mx a2 0) % (wrap64 ((l0.length : Int) + 1))) ≤ (l0.length : Int) then ((place_Place.f (l0.take (((mx a2 0) % (wrap64 ((l0.length : Int) + 1))) : Int).toNat) a1).bind fun bt132 => (if bt123.2.2 = 0 then (if bt132.2.2 = 0 then (mainsheetlaw13_PlaceMore.j0 k l0 ((mx a2 0) % (wrap64 ((l0.length : Int) + 1))) bt123.1 bt132.1 bt132.2.1 (decide ((bt132.1.length : Int) > (bt123.1.length : Int)))) else (mainsheetlaw13_PlaceMore.j0 k l0 ((mx a2 0) % (wrap64 ((l0.length : Int) + 1))) bt123.1 bt132.1 bt132.2.1 true)) else (some ((bt123.1.length : Int) == 0)))) else (none)) else (none))))) else (some false))) = some r := h
  clear h
  replace H := Option.bind_eq_some_iff.mp H
  obtain ⟨t122, A40, H⟩ := H
  replace H : (if t122 = true then (if (l0.length : Int) > 60 then (some true) else (if (wrap64 ((l0.length : Int) + 1)) = 0 then (none) else ((place_Place.f l0 a1).bind fun bt123 => (if 0 ≤ ((mx a2 0) % (wrap64 ((l0.length : Int) + 1))) then (if ((mx a2 0) % (wrap64 ((l0.length : Int) + 1))) ≤ (l0.length : Int) then ((place_Place.f (l0.take (((mx a2 0) % (wrap64 ((l0.length : Int) + 1))) : Int).toNat) a1).bind fun bt132 => (if bt123.2.2 = 0 then (if bt132.2.2 = 0 then (mainsheetlaw13_PlaceMore.j0 k l0 ((mx a2 0) % (wrap64 ((l0.length : Int) + 1))) bt123.1 bt132.1 bt132.2.1 (decide ((bt132.1.length : Int) > (bt123.1.length : Int)))) else (mainsheetlaw13_PlaceMore.j0 k l0 ((mx a2 0) % (wrap64 ((l0.length : Int) + 1))) bt123.1 bt132.1 bt132.2.1 true)) else (some ((bt123.1.length : Int) == 0)))) else (none)) else (none))))) else (some false)) = some r := H
  have A4 := Aside0.mk A40
  clear A40
  by_cases c5 : t122 = true
  · subst c5
    have H1 : (if (l0.length : Int) > 60 then (some true) else (if (wrap64 ((l0.length : Int) + 1)) = 0 then (none) else ((place_Place.f l0 a1).bind fun bt123 => (if 0 ≤ ((mx a2 0) % (wrap64 ((l0.length : Int) + 1))) then (if ((mx a2 0) % (wrap64 ((l0.length : Int) + 1))) ≤ (l0.length : Int) then ((place_Place.f (l0.take (((mx a2 0) % (wrap64 ((l0.length : Int) + 1))) : Int).toNat) a1).bind fun bt132 => (if bt123.2.2 = 0 then (if bt132.2.2 = 0 then (mainsheetlaw13_PlaceMore.j0 k l0 ((mx a2 0) % (wrap64 ((l0.length : Int) + 1))) bt123.1 bt132.1 bt132.2.1 (decide ((bt132.1.length : Int) > (bt123.1.length : Int)))) else (mainsheetlaw13_PlaceMore.j0 k l0 ((mx a2 0) % (wrap64 ((l0.length : Int) + 1))) bt123.1 bt132.1 bt132.2.1 true)) else (some ((bt123.1.length : Int) == 0)))) else (none)) else (none))))) = some r := by rw [if_pos rfl] at H; exact H
    clear H
    have H := H1
    clear H1
    by_cases c6 : (l0.length : Int) > 60
    · rw [if_pos c6] at H
      have c6b0 : decide (60 < (l0.length : Int)) = true := decide_eq_true c6
      have c6b1 : decide (60 < l0.length) = true := decide_eq_true (by omega)
      clear c6
      obtain rfl := Option.some.inj H
      go_enter Tryd.func3, Tryd.ntmps3
      go_wp2_with (first | (go_at_call 15; (with_reducible refine (mainsheetlaw13_wakes.calls  true _ ?tb A4.out).mono ?_); (case tb => exact HT.out.step (by repeat (first | (with_reducible first | exact HB.out | apply below_alloc | apply pw_below_drewN | apply below_drew1) | exact HB.out))); rintro e w7 ⟨rfl, hb⟩; have n0_ := Aside0.mk (below_step (by repeat (first | (with_reducible first | exact HB.out | apply below_alloc | apply pw_below_drewN | apply below_drew1) | exact HB.out)) hb); clear HB; have HB := n0_; clear n0_; (try clear hb); (try clear hb2); (try clear hk); (try clear hi)))
      repeat (go_quiet (first | (go_at_call 15; (with_reducible refine (mainsheetlaw13_wakes.calls  true _ ?tb A4.out).mono ?_); (case tb => exact HT.out.step (by repeat (first | (with_reducible first | exact HB.out | apply below_alloc | apply pw_below_drewN | apply below_drew1) | exact HB.out))); rintro e w7 ⟨rfl, hb⟩; have n0_ := Aside0.mk (below_step (by repeat (first | (with_reducible first | exact HB.out | apply below_alloc | apply pw_below_drewN | apply below_drew1) | exact HB.out)) hb); clear HB; have HB := n0_; clear n0_; (try clear hb); (try clear hb2); (try clear hk); (try clear hi))); try go_wp2_with (first | (go_at_call 15; (with_reducible refine (mainsheetlaw13_wakes.calls  true _ ?tb A4.out).mono ?_); (case tb => exact HT.out.step (by repeat (first | (with_reducible first | exact HB.out | apply below_alloc | apply pw_below_drewN | apply below_drew1) | exact HB.out))); rintro e w7 ⟨rfl, hb⟩; have n0_ := Aside0.mk (below_step (by repeat (first | (with_reducible first | exact HB.out | apply below_alloc | apply pw_below_drewN | apply below_drew1) | exact HB.out)) hb); clear HB; have HB := n0_; clear n0_; (try clear hb); (try clear hb2); (try clear hk); (try clear hi))))
      go_ret
      exact ⟨by first | rfl | (simp [errW_none, errW_some] <;> rfl) | (simp [*, errW_none, errW_some] <;> rfl), by repeat (first | (with_reducible first | exact HB.out | apply below_alloc | apply pw_below_drewN | apply below_drew1) | exact HB.out)⟩
    · rw [if_neg c6] at H
      have c6b0 : decide (60 < (l0.length : Int)) = false := decide_eq_false c6
      have c6b1 : decide (60 < l0.length) = false := decide_eq_false (by omega)
      clear c6
      obtain ⟨ji8, hji8⟩ : ∃ j_ : Int, (mx a2 0) = j_ := ⟨_, rfl⟩
      replace H : (if (wrap64 ((l0.length : Int) + 1)) = 0 then (none) else ((place_Place.f l0 a1).bind fun bt123 => (if 0 ≤ ((ji8) % (wrap64 ((l0.length : Int) + 1))) then (if ((ji8) % (wrap64 ((l0.length : Int) + 1))) ≤ (l0.length : Int) then ((place_Place.f (l0.take (((ji8) % (wrap64 ((l0.length : Int) + 1))) : Int).toNat) a1).bind fun bt132 => (if bt123.2.2 = 0 then (if bt132.2.2 = 0 then (mainsheetlaw13_PlaceMore.j0 k l0 ((ji8) % (wrap64 ((l0.length : Int) + 1))) bt123.1 bt132.1 bt132.2.1 (decide ((bt132.1.length : Int) > (bt123.1.length : Int)))) else (mainsheetlaw13_PlaceMore.j0 k l0 ((ji8) % (wrap64 ((l0.length : Int) + 1))) bt123.1 bt132.1 bt132.2.1 true)) else (some ((bt123.1.length : Int) == 0)))) else (none)) else (none)))) = some r := by first | (rw [hji8] at H; exact H) | (simp only [hji8] at H ⊢; exact H)
      (try rw [hji8] at A4)
      (try (have hji8l : 0 ≤ ji8 := by (rw [← hji8]; unfold mx; (repeat' split) <;> omega)))
      (try (have hji8m : 0 ≤ ji8 := by omega))
      have hji8_ : (if a2 < 0 then 0 else a2) = ji8 := hji8
      by_cases c9 : (wrap64 ((l0.length : Int) + 1)) = 0
      · rw [if_pos c9] at H
        exact absurd H (by simp)
      · rw [if_neg c9] at H
        have c9b0 : ((wrap64 ((l0.length : Int) + 1)) == 0) = false := beq_eq_false_iff_ne.mpr c9
        have c9b1 : ((wrap64 ((l0.length : Int) + 1)) != 0) = true := bne_iff_ne.mpr c9
        replace H := Option.bind_eq_some_iff.mp H
        obtain ⟨⟨t123, t124, t125⟩, A100, H⟩ := H
        replace H : (if 0 ≤ ((ji8) % (wrap64 ((l0.length : Int) + 1))) then (if ((ji8) % (wrap64 ((l0.length : Int) + 1))) ≤ (l0.length : Int) then ((place_Place.f (l0.take (((ji8) % (wrap64 ((l0.length : Int) + 1))) : Int).toNat) a1).bind fun bt132 => (if t125 = 0 then (if bt132.2.2 = 0 then (mainsheetlaw13_PlaceMore.j0 k l0 ((ji8) % (wrap64 ((l0.length : Int) + 1))) t123 bt132.1 bt132.2.1 (decide ((bt132.1.length : Int) > (t123.length : Int)))) else (mainsheetlaw13_PlaceMore.j0 k l0 ((ji8) % (wrap64 ((l0.length : Int) + 1))) t123 bt132.1 bt132.2.1 true)) else (some ((t123.length : Int) == 0)))) else (none)) else (none)) = some r := H
        have A10 := Aside0.mk A100
        clear A100
        obtain ⟨ji11, hji11⟩ : ∃ j_ : Int, ((ji8) % (wrap64 ((l0.length : Int) + 1))) = j_ := ⟨_, rfl⟩
        replace H : (if 0 ≤ (ji11) then (if (ji11) ≤ (l0.length : Int) then ((place_Place.f (l0.take ((ji11) : Int).toNat) a1).bind fun bt132 => (if t125 = 0 then (if bt132.2.2 = 0 then (mainsheetlaw13_PlaceMore.j0 k l0 ji11 t123 bt132.1 bt132.2.1 (decide ((bt132.1.length : Int) > (t123.length : Int)))) else (mainsheetlaw13_PlaceMore.j0 k l0 ji11 t123 bt132.1 bt132.2.1 true)) else (some ((t123.length : Int) == 0)))) else (none)) else (none)) = some r := by first | (rw [hji11] at H; exact H) | (simp only [hji11] at H ⊢; exact H)
        (try rw [hji11] at A4)
        (try rw [hji11] at A10)
        by_cases c12 : 0 ≤ (ji11)
        · rw [if_pos c12] at H
          have c12b0 := eq_true c12
          have c12b1 : decide (0 ≤ (ji11)) = true := decide_eq_true c12
          clear c12
          by_cases c13 : (ji11) ≤ (l0.length : Int)
          · rw [if_pos c13] at H
            have c13b0 := eq_true c13
            have c13b1 : decide ((ji11) ≤ (l0.length : Int)) = true := decide_eq_true c13
            clear c13
            obtain ⟨y128, hy128⟩ : ∃ y_ : List (S36), y_ = (l0.take ((ji11) : Int).toNat) := ⟨_, rfl⟩
            replace H : ((place_Place.f y128 a1).bind fun bt132 => (if t125 = 0 then (if bt132.2.2 = 0 then (mainsheetlaw13_PlaceMore.j0 k l0 ji11 t123 bt132.1 bt132.2.1 (decide ((bt132.1.length : Int) > (t123.length : Int)))) else (mainsheetlaw13_PlaceMore.j0 k l0 ji11 t123 bt132.1 bt132.2.1 true)) else (some ((t123.length : Int) == 0)))) = some r := by first | (rw [hy128]; with_reducible exact H) | (have H2_ := (Option.bind_some _ _).symm.trans H; rw [hy128]; with_reducible exact H2_) | (have H2_ := (Option.bind_some _ _).symm.trans H; with_reducible exact H2_) | with_reducible exact H | (rw [hy128]; exact H) | exact H
            have Ny128 := Aside0.mk hy128
            clear hy128
            replace H := Option.bind_eq_some_iff.mp H
            obtain ⟨⟨t132, t133, t134⟩, A140, H⟩ := H
            replace H : (if t125 = 0 then (if t134 = 0 then (mainsheetlaw13_PlaceMore.j0 k l0 ji11 t123 t132 t133 (decide ((t132.length : Int) > (t123.length : Int)))) else (mainsheetlaw13_PlaceMore.j0 k l0 ji11 t123 t132 t133 true)) else (some ((t123.length : Int) == 0))) = some r := H
            have A14 := Aside0.mk A140
            clear A140
            by_cases c15 : t125 = 0
            · rw [if_pos c15] at H
              have c15b0 : (t125 == 0) = true := beq_iff_eq.mpr c15
              have c15b1 : (t125 != 0) = false := bne_eq_false_iff_eq.mpr c15
              clear c15
              have HC16 := Aside0.mk H
              clear H
              go_enter Tryd.func3, Tryd.ntmps3
              go_upto_region 10 with (first | (go_at_call 15; (with_reducible refine (mainsheetlaw13_wakes.calls  true _ ?tb A4.out).mono ?_); (case tb => exact HT.out.step (by repeat (first | (with_reducible first | exact HB.out | apply below_alloc | apply pw_below_drewN | apply below_drew1) | exact HB.out))); rintro e w17 ⟨rfl, hb⟩; have n0_ := Aside0.mk (below_step (by repeat (first | (with_reducible first | exact HB.out | apply below_alloc | apply pw_below_drewN | apply below_drew1) | exact HB.out)) hb); clear HB; have HB := n0_; clear n0_; (try clear hb); (try clear hb2); (try clear hk); (try clear hi)) | (go_at_call 16; (with_reducible refine (place_Place.calls _ _ l0 a1 t123 t124 t125 _ ?side1 ?side2 ?tb A10.out).mono ?_); (case tb => exact HT.out.step (by repeat (first | (with_reducible first | exact HB.out | apply below_alloc | apply pw_below_drewN | apply below_drew1) | exact HB.out))); (case side1 => repeat (first | exact (Kd.C_below HR0.out HB.out) | (with_reducible refine Kd.C_alloc ?_ _) | (with_reducible refine Kd.C_drewN ?_ _) | (with_reducible refine Kd.C_drew ?_))); (case side2 => exact HC0.out); rintro e w18 ⟨v126, rfl, ho0, hb⟩; have n0_ := Aside0.mk (Kd.R_lower ho0 (below_size (by repeat (first | (with_reducible first | exact HB.out | apply below_alloc | apply pw_below_drewN | apply below_drew1) | exact HB.out)))); have n1_ := Aside0.mk (below_step (by repeat (first | (with_reducible first | exact HB.out | apply below_alloc | apply pw_below_drewN | apply below_drew1) | exact HB.out)) hb); clear HB; have HO127 := n0_; have HB := n1_; clear n0_ n1_; (try clear hb); (try clear hb2); (try clear hk); (try clear hi); (try clear ho0); have q19 : ((ji11) : Int) ≤ ((l0.length : Int) : Int) := of_decide_eq_true (by first | (with_reducible assumption) | assumption); obtain ⟨i019, hi019, _, hsz19, _⟩ := info_parts info36; have hroom19 : l0.length ≤ c0 := HC0.out; have hC19 : Kd.C k36 _ A0 l0.length l0 := HR0.out; have hcut19 := cut_to (P := Tryd.prog) 22 36 .i64 Tryd.underlying22 hi019 A0 l0.length c0 (ji11) (of_decide_eq_true (by first | (with_reducible assumption) | assumption)) q19 hroom19; have hr19 := Kd.C_take (m := ((ji11) : Int).toNat) hC19 (by omega); have hy19 : y128.length = ((ji11) : Int).toNat := (by rw [Ny128.out, List.length_take]; omega); rw [← Ny128.out] at hr19; rw [← hy19] at hcut19; have HR131 := Aside0.mk hr19; have HC131 := Aside0.mk (show y128.length ≤ c0 from by omega); clear hr19 hC19 hroom19 hi019 hsz19; have KY19 := Aside0.mk hy19; clear hy19; replace q19 := eq_true q19) | (go_at_call 16; (with_reducible refine (place_Place.calls _ _ y128 a1 t132 t133 t134 _ ?side1 ?side2 ?tb A14.out).mono ?_); (case tb => exact HT.out.step (by repeat (first | (with_reducible first | exact HB.out | apply below_alloc | apply pw_below_drewN | apply below_drew1) | exact HB.out))); (case side1 => repeat (first | exact (Kd.C_below HR131.out HB.out) | (with_reducible refine Kd.C_alloc ?_ _) | (with_reducible refine Kd.C_drewN ?_ _) | (with_reducible refine Kd.C_drew ?_))); (case side2 => exact HC131.out); rintro e w20 ⟨v135, rfl, ho0, hb⟩; have n0_ := Aside0.mk (Kd.R_elder' (by (with_reducible repeat (first | apply Kd.R_alloc | apply Kd.R_drewN | apply Kd.R_drew)); exact HO127.out) (Kd.R_base ho0) hb); have n1_ := Aside0.mk (Kd.R_lower (Kd.R_new' ho0 (Kd.R_lt (by (with_reducible repeat (first | apply Kd.R_alloc | apply Kd.R_drewN | apply Kd.R_drew)); exact HO127.out))) (below_size (by repeat (first | (with_reducible first | exact HB.out | apply below_alloc | apply pw_below_drewN | apply below_drew1) | exact HB.out)))); have n2_ := Aside0.mk (below_step (by repeat (first | (with_reducible first | exact HB.out | apply below_alloc | apply pw_below_drewN | apply below_drew1) | exact HB.out)) hb); clear HO127; clear HB; have HO127 := n0_; have HO136 := n1_; have HB := n2_; clear n0_ n1_ n2_; (try clear hb); (try clear hb2); (try clear hk); (try clear hi); (try clear ho0)))
              repeat (go_quiet (first | (go_at_call 15; (with_reducible refine (mainsheetlaw13_wakes.calls  true _ ?tb A4.out).mono ?_); (case tb => exact HT.out.step (by repeat (first | (with_reducible first | exact HB.out | apply below_alloc | apply pw_below_drewN | apply below_drew1) | exact HB.out))); rintro e w17 ⟨rfl, hb⟩; have n0_ := Aside0.mk (below_step (by repeat (first | (with_reducible first | exact HB.out | apply below_alloc | apply pw_below_drewN | apply below_drew1) | exact HB.out)) hb); clear HB; have HB := n0_; clear n0_; (try clear hb); (try clear hb2); (try clear hk); (try clear hi)) | (go_at_call 16; (with_reducible refine (place_Place.calls _ _ l0 a1 t123 t124 t125 _ ?side1 ?side2 ?tb A10.out).mono ?_); (case tb => exact HT.out.step (by repeat (first | (with_reducible first | exact HB.out | apply below_alloc | apply pw_below_drewN | apply below_drew1) | exact HB.out))); (case side1 => repeat (first | exact (Kd.C_below HR0.out HB.out) | (with_reducible refine Kd.C_alloc ?_ _) | (with_reducible refine Kd.C_drewN ?_ _) | (with_reducible refine Kd.C_drew ?_))); (case side2 => exact HC0.out); rintro e w18 ⟨v126, rfl, ho0, hb⟩; have n0_ := Aside0.mk (Kd.R_lower ho0 (below_size (by repeat (first | (with_reducible first | exact HB.out | apply below_alloc | apply pw_below_drewN | apply below_drew1) | exact HB.out)))); have n1_ := Aside0.mk (below_step (by repeat (first | (with_reducible first | exact HB.out | apply below_alloc | apply pw_below_drewN | apply below_drew1) | exact HB.out)) hb); clear HB; have HO127 := n0_; have HB := n1_; clear n0_ n1_; (try clear hb); (try clear hb2); (try clear hk); (try clear hi); (try clear ho0); have q19 : ((ji11) : Int) ≤ ((l0.length : Int) : Int) := of_decide_eq_true (by first | (with_reducible assumption) | assumption); obtain ⟨i019, hi019, _, hsz19, _⟩ := info_parts info36; have hroom19 : l0.length ≤ c0 := HC0.out; have hC19 : Kd.C k36 _ A0 l0.length l0 := HR0.out; have hcut19 := cut_to (P := Tryd.prog) 22 36 .i64 Tryd.underlying22 hi019 A0 l0.length c0 (ji11) (of_decide_eq_true (by first | (with_reducible assumption) | assumption)) q19 hroom19; have hr19 := Kd.C_take (m := ((ji11) : Int).toNat) hC19 (by omega); have hy19 : y128.length = ((ji11) : Int).toNat := (by rw [Ny128.out, List.length_take]; omega); rw [← Ny128.out] at hr19; rw [← hy19] at hcut19; have HR131 := Aside0.mk hr19; have HC131 := Aside0.mk (show y128.length ≤ c0 from by omega); clear hr19 hC19 hroom19 hi019 hsz19; have KY19 := Aside0.mk hy19; clear hy19; replace q19 := eq_true q19) | (go_at_call 16; (with_reducible refine (place_Place.calls _ _ y128 a1 t132 t133 t134 _ ?side1 ?side2 ?tb A14.out).mono ?_); (case tb => exact HT.out.step (by repeat (first | (with_reducible first | exact HB.out | apply below_alloc | apply pw_below_drewN | apply below_drew1) | exact HB.out))); (case side1 => repeat (first | exact (Kd.C_below HR131.out HB.out) | (with_reducible refine Kd.C_alloc ?_ _) | (with_reducible refine Kd.C_drewN ?_ _) | (with_reducible refine Kd.C_drew ?_))); (case side2 => exact HC131.out); rintro e w20 ⟨v135, rfl, ho0, hb⟩; have n0_ := Aside0.mk (Kd.R_elder' (by (with_reducible repeat (first | apply Kd.R_alloc | apply Kd.R_drewN | apply Kd.R_drew)); exact HO127.out) (Kd.R_base ho0) hb); have n1_ := Aside0.mk (Kd.R_lower (Kd.R_new' ho0 (Kd.R_lt (by (with_reducible repeat (first | apply Kd.R_alloc | apply Kd.R_drewN | apply Kd.R_drew)); exact HO127.out))) (below_size (by repeat (first | (with_reducible first | exact HB.out | apply below_alloc | apply pw_below_drewN | apply below_drew1) | exact HB.out)))); have n2_ := Aside0.mk (below_step (by repeat (first | (with_reducible first | exact HB.out | apply below_alloc | apply pw_below_drewN | apply below_drew1) | exact HB.out)) hb); clear HO127; clear HB; have HO127 := n0_; have HO136 := n1_; have HB := n2_; clear n0_ n1_ n2_; (try clear hb); (try clear hb2); (try clear hk); (try clear hi); (try clear ho0))); go_upto_region 10 with (first | (go_at_call 15; (with_reducible refine (mainsheetlaw13_wakes.calls  true _ ?tb A4.out).mono ?_); (case tb => exact HT.out.step (by repeat (first | (with_reducible first | exact HB.out | apply below_alloc | apply pw_below_drewN | apply below_drew1) | exact HB.out))); rintro e w17 ⟨rfl, hb⟩; have n0_ := Aside0.mk (below_step (by repeat (first | (with_reducible first | exact HB.out | apply below_alloc | apply pw_below_drewN | apply below_drew1) | exact HB.out)) hb); clear HB; have HB := n0_; clear n0_; (try clear hb); (try clear hb2); (try clear hk); (try clear hi)) | (go_at_call 16; (with_reducible refine (place_Place.calls _ _ l0 a1 t123 t124 t125 _ ?side1 ?side2 ?tb A10.out).mono ?_); (case tb => exact HT.out.step (by repeat (first | (with_reducible first | exact HB.out | apply below_alloc | apply pw_below_drewN | apply below_drew1) | exact HB.out))); (case side1 => repeat (first | exact (Kd.C_below HR0.out HB.out) | (with_reducible refine Kd.C_alloc ?_ _) | (with_reducible refine Kd.C_drewN ?_ _) | (with_reducible refine Kd.C_drew ?_))); (case side2 => exact HC0.out); rintro e w18 ⟨v126, rfl, ho0, hb⟩; have n0_ := Aside0.mk (Kd.R_lower ho0 (below_size (by repeat (first | (with_reducible first | exact HB.out | apply below_alloc | apply pw_below_drewN | apply below_drew1) | exact HB.out)))); have n1_ := Aside0.mk (below_step (by repeat (first | (with_reducible first | exact HB.out | apply below_alloc | apply pw_below_drewN | apply below_drew1) | exact HB.out)) hb); clear HB; have HO127 := n0_; have HB := n1_; clear n0_ n1_; (try clear hb); (try clear hb2); (try clear hk); (try clear hi); (try clear ho0); have q19 : ((ji11) : Int) ≤ ((l0.length : Int) : Int) := of_decide_eq_true (by first | (with_reducible assumption) | assumption); obtain ⟨i019, hi019, _, hsz19, _⟩ := info_parts info36; have hroom19 : l0.length ≤ c0 := HC0.out; have hC19 : Kd.C k36 _ A0 l0.length l0 := HR0.out; have hcut19 := cut_to (P := Tryd.prog) 22 36 .i64 Tryd.underlying22 hi019 A0 l0.length c0 (ji11) (of_decide_eq_true (by first | (with_reducible assumption) | assumption)) q19 hroom19; have hr19 := Kd.C_take (m := ((ji11) : Int).toNat) hC19 (by omega); have hy19 : y128.length = ((ji11) : Int).toNat := (by rw [Ny128.out, List.length_take]; omega); rw [← Ny128.out] at hr19; rw [← hy19] at hcut19; have HR131 := Aside0.mk hr19; have HC131 := Aside0.mk (show y128.length ≤ c0 from by omega); clear hr19 hC19 hroom19 hi019 hsz19; have KY19 := Aside0.mk hy19; clear hy19; replace q19 := eq_true q19) | (go_at_call 16; (with_reducible refine (place_Place.calls _ _ y128 a1 t132 t133 t134 _ ?side1 ?side2 ?tb A14.out).mono ?_); (case tb => exact HT.out.step (by repeat (first | (with_reducible first | exact HB.out | apply below_alloc | apply pw_below_drewN | apply below_drew1) | exact HB.out))); (case side1 => repeat (first | exact (Kd.C_below HR131.out HB.out) | (with_reducible refine Kd.C_alloc ?_ _) | (with_reducible refine Kd.C_drewN ?_ _) | (with_reducible refine Kd.C_drew ?_))); (case side2 => exact HC131.out); rintro e w20 ⟨v135, rfl, ho0, hb⟩; have n0_ := Aside0.mk (Kd.R_elder' (by (with_reducible repeat (first | apply Kd.R_alloc | apply Kd.R_drewN | apply Kd.R_drew)); exact HO127.out) (Kd.R_base ho0) hb); have n1_ := Aside0.mk (Kd.R_lower (Kd.R_new' ho0 (Kd.R_lt (by (with_reducible repeat (first | apply Kd.R_alloc | apply Kd.R_drewN | apply Kd.R_drew)); exact HO127.out))) (below_size (by repeat (first | (with_reducible first | exact HB.out | apply below_alloc | apply pw_below_drewN | apply below_drew1) | exact HB.out)))); have n2_ := Aside0.mk (below_step (by repeat (first | (with_reducible first | exact HB.out | apply below_alloc | apply pw_below_drewN | apply below_drew1) | exact HB.out)) hb); clear HO127; clear HB; have HO127 := n0_; have HO136 := n1_; have HB := n2_; clear n0_ n1_ n2_; (try clear hb); (try clear hb2); (try clear hk); (try clear hi); (try clear ho0))))
              (try simp only [Act.put, List.setIfInBounds_toArray, List.set_cons_zero, List.set_cons_succ])
              go_cut [57] (fun v57 wc => ∃ (kq : Nat) (x57_15 : Bool), v57 = .bool x57_15 ∧ Aside0 (mainsheetlaw13_PlaceMore.j0 kq l0 ji11 t123 t132 t133 x57_15 = some r) ∧ Aside0 (kq ≤ k) ∧ Aside0 (Kd.R k31 31 wc w.heap.size (fun k_ => some k_ ≠ (v135 : Value).ownBlock) v126 t123) ∧ Aside0 (Kd.R k31 31 wc w.heap.size (fun k_ => some k_ ≠ (v126 : Value).ownBlock) v135 t132) ∧ Aside0 (Below w.heap.size w wc))
              case first =>
                have H := HC16.out
                clear HC16
                by_cases c21 : t134 = 0
                · rw [if_pos c21] at H
                  have c21b0 : (t134 == 0) = true := beq_iff_eq.mpr c21
                  have c21b1 : (t134 != 0) = false := bne_eq_false_iff_eq.mpr c21
                  clear c21
                  (first | rw [c21b0] | (simp only [i64_w, i32_w]; rw [c21b0]) | skip)
                  have H' := Aside0.mk H
                  clear H
                  obtain ⟨Ao22, co22, eo22⟩ := Kd.R_slice HO136.out
                  subst eo22
                  obtain ⟨Ao23, co23, eo23⟩ := Kd.R_slice HO127.out
                  subst eo23
                  go_wp2
                  repeat (go_quiet (fail); try go_wp2)
                  go_meet
                  case rel => exact ⟨_, (decide ((t132.length : Int) > (t123.length : Int))), (by first | rfl | (simp; done) | (simp [*]; done)), H', ⟨by first | omega | exact Nat.le_refl _⟩, ⟨by (with_reducible repeat (first | apply Kd.R_alloc | apply Kd.R_drewN | apply Kd.R_drew)); exact Kd.R_mono HO127.out (fun _ hk => hk.2)⟩, ⟨by (with_reducible repeat (first | apply Kd.R_alloc | apply Kd.R_drewN | apply Kd.R_drew)); exact Kd.R_mono HO136.out (fun _ hk => hk.2)⟩, ⟨by repeat (first | (with_reducible first | exact HB.out | apply below_alloc | apply pw_below_drewN | apply below_drew1) | exact HB.out)⟩⟩
                · rw [if_neg c21] at H
                  have c21b0 : (t134 == 0) = false := beq_eq_false_iff_ne.mpr c21
                  have c21b1 : (t134 != 0) = true := bne_iff_ne.mpr c21
                  (first | rw [c21b0] | (simp only [i64_w, i32_w]; rw [c21b0]) | skip)
                  have H' := Aside0.mk H
                  clear H
                  go_wp2
                  repeat (go_quiet (fail); try go_wp2)
                  go_meet
                  case rel => exact ⟨_, (true), (by first | rfl | (simp; done) | (simp [*]; done)), H', ⟨by first | omega | exact Nat.le_refl _⟩, ⟨by (with_reducible repeat (first | apply Kd.R_alloc | apply Kd.R_drewN | apply Kd.R_drew)); exact Kd.R_mono HO127.out (fun _ hk => hk.2)⟩, ⟨by (with_reducible repeat (first | apply Kd.R_alloc | apply Kd.R_drewN | apply Kd.R_drew)); exact Kd.R_mono HO136.out (fun _ hk => hk.2)⟩, ⟨by repeat (first | (with_reducible first | exact HB.out | apply below_alloc | apply pw_below_drewN | apply below_drew1) | exact HB.out)⟩⟩
              case rest =>
                clear HC16
                try clear c1
                try clear q1
                try clear c2
                try clear p2
                try clear c3
                try clear c5
                try clear c6
                try clear c6b0
                try clear c6b1
                try clear p6
                try clear c9
                try clear c9b0
                try clear c9b1
                try clear c12
                try clear c12b0
                try clear c12b1
                try clear c13
                try clear c13b0
                try clear c13b1
                try clear c15
                try clear c15b0
                try clear c15b1
                try clear q19
                try clear c21
                try clear c21b0
                try clear c21b1
                try clear q19
                obtain ⟨kq, x57_15, rfl, HA, HJ15, HO_7, HO_10, HB⟩ := hcut
                cases kq with
                | zero => exact absurd HA.out (by simp [mainsheetlaw13_PlaceMore.j0])
                | succ kj15 =>
                  have H := HA.out
                  clear HA
                  simp only [mainsheetlaw13_PlaceMore.j0] at H
                  by_cases c24 : x57_15 = true
                  · subst c24
                    have H1 : (some false) = some r := by rw [if_pos rfl] at H; exact H
                    clear H
                    have H := H1
                    clear H1
                    obtain rfl := Option.some.inj H
                    go_wp2
                    repeat (go_quiet (fail); try go_wp2)
                    go_ret
                    exact ⟨by first | rfl | (simp [errW_none, errW_some] <;> rfl) | (simp only [← hji8, ← hji11]; first | rfl | (simp [errW_none, errW_some] <;> rfl)) | (simp [*, errW_none, errW_some] <;> rfl), by repeat (first | (with_reducible first | exact HB.out | apply below_alloc | apply pw_below_drewN | apply below_drew1) | exact HB.out)⟩
                  · replace c24 := Bool.eq_false_iff.mpr c24
                    subst c24
                    have H1 : (mainsheetlaw13_PlaceMore.l0 kj15 l0 ji11 t123 t132 t133 (t132.length : Int) 0) = some r := by rw [if_neg (show ¬ (false = true) by decide)] at H; exact H
                    clear H
                    have H := H1
                    clear H1
                    have H' := Aside0.mk H
                    clear H
                    obtain ⟨Ao25, co25, eo25⟩ := Kd.R_slice HO_10.out
                    subst eo25
                    go_wp2
                    repeat (go_quiet (fail); try go_wp2)
                    go_loopg [60] kj15 (fun kq v60 w' => ∃ (x60_2 : Int), v60 = .int .i64 x60_2 ∧ Aside0 (mainsheetlaw13_PlaceMore.l0 kq l0 ji11 t123 t132 t133 (t132.length : Int) x60_2 = some r) ∧ Aside0 (kq ≤ kj15) ∧ Aside0 (Kd.R k31 31 w' w.heap.size (fun k_ => some k_ ≠ ((.slice Ao25 t132.length co25) : Value).ownBlock) v126 t123) ∧ Aside0 (Kd.R k31 31 w' w.heap.size (fun k_ => some k_ ≠ (v126 : Value).ownBlock) (.slice Ao25 t132.length co25) t132) ∧ Aside0 (Below w.heap.size w w'))
                    case atStart => exact ⟨(0), (by first | rfl | (simp; done) | (simp [*]; done)), H', ⟨Nat.le_refl _⟩, ⟨by (with_reducible repeat (first | apply Kd.R_alloc | apply Kd.R_drewN | apply Kd.R_drew)); exact HO_7.out⟩, ⟨by (with_reducible repeat (first | apply Kd.R_alloc | apply Kd.R_drewN | apply Kd.R_drew)); exact HO_10.out⟩, ⟨by repeat (first | (with_reducible first | exact HB.out | apply below_alloc | apply pw_below_drewN | apply below_drew1) | exact HB.out)⟩⟩
                    case round =>
                      clear H'
                      try clear c1
                      try clear q1
                      try clear c2
                      try clear p2
                      try clear c3
                      try clear c5
                      try clear c6
                      try clear c6b0
                      try clear c6b1
                      try clear p6
                      try clear c9
                      try clear c9b0
                      try clear c9b1
                      try clear c12
                      try clear c12b0
                      try clear c12b1
                      try clear c13
                      try clear c13b0
                      try clear c13b1
                      try clear c15
                      try clear c15b0
                      try clear c15b1
                      try clear q19
                      try clear c21
                      try clear c21b0
                      try clear c21b1
                      try clear c24
                      try clear p2
                      try clear p6
                      try clear q1
                      try clear q19
                      obtain ⟨x60_2, rfl, HA, HK2, HO_7, HO_10, HB⟩ := hrel
                      cases gk with
                      | zero => exact absurd HA.out (by simp [mainsheetlaw13_PlaceMore.l0])
                      | succ k2 =>
                        have H := HA.out
                        clear HA
                        simp only [mainsheetlaw13_PlaceMore.l0] at H
                        by_cases c26 : x60_2 < (t132.length : Int)
                        · rw [if_pos c26] at H
                          have c26b0 : decide (x60_2 < (t132.length : Int)) = true := decide_eq_true c26
                          clear c26
                          by_cases c27 : 0 ≤ x60_2
                          · rw [if_pos c27] at H
                            have c27b0 : decide (0 ≤ x60_2) = true := decide_eq_true c27
                            clear c27
                            by_cases c28 : x60_2 < (t132.length : Int)
                            · rw [if_pos c28] at H
                              have c28b0 : decide (x60_2 < (t132.length : Int)) = true := decide_eq_true c28
                              clear c28
                              by_cases c29 : x60_2 < (t123.length : Int)
                              · rw [if_pos c29] at H
                                have c29b0 : decide (x60_2 < (t123.length : Int)) = true := decide_eq_true c29
                                clear c29
                                by_cases c30 : (!(((rd_T31 t132 x60_2).f0) == ((rd_T31 t123 x60_2).f0)) || (!(((rd_T31 t132 x60_2).f1) == ((rd_T31 t123 x60_2).f1)))) = true
                                · rw [if_pos c30] at H
                                  have c30b0 : (!(((rd_T31 t132 x60_2).f0) == ((rd_T31 t123 x60_2).f0)) || (!(((rd_T31 t132 x60_2).f1) == ((rd_T31 t123 x60_2).f1)))) = true := c30
                                  clear c30
                                  obtain rfl := Option.some.inj H
                                  have p137 : 0 ≤ (x60_2 : Int) := of_decide_eq_true (by first | (with_reducible assumption) | assumption)
                                  have q137 : x60_2 < (t132.length : Int) := of_decide_eq_true (by first | (with_reducible assumption) | assumption)
                                  obtain ⟨ad137, e137, hx137_0, hx137_1⟩ := at_T31 (Kd.R_reads' HO_10.out).2.2 x60_2 p137 q137
                                  cases e137
                                  replace p137 := eq_true p137
                                  replace q137 := eq_true q137
                                  obtain ⟨Ao31, co31, eo31⟩ := Kd.R_slice HO_7.out
                                  subst eo31
                                  have p138 : 0 ≤ (x60_2 : Int) := of_decide_eq_true (by first | (with_reducible assumption) | assumption)
                                  have q138 : x60_2 < (t123.length : Int) := of_decide_eq_true (by first | (with_reducible assumption) | assumption)
                                  obtain ⟨ad138, e138, hx138_0, hx138_1⟩ := at_T31 (Kd.R_reads' HO_7.out).2.2 x60_2 p138 q138
                                  cases e138
                                  replace p138 := eq_true p138
                                  replace q138 := eq_true q138
                                  go_wp2
                                  repeat (go_quiet (fail); try go_wp2)
                                  go_ret
                                  exact ⟨by first | rfl | (simp [errW_none, errW_some] <;> rfl) | (simp only [← hji8, ← hji11]; first | rfl | (simp [errW_none, errW_some] <;> rfl)) | (simp [*, errW_none, errW_some] <;> rfl), by repeat (first | (with_reducible first | exact HB.out | apply below_alloc | apply pw_below_drewN | apply below_drew1) | exact HB.out)⟩
                                · rw [if_neg c30] at H
                                  have c30b0 : (!(((rd_T31 t132 x60_2).f0) == ((rd_T31 t123 x60_2).f0)) || (!(((rd_T31 t132 x60_2).f1) == ((rd_T31 t123 x60_2).f1)))) = false := by simpa using c30
                                  clear c30
                                  have H' := Aside0.mk H
                                  clear H
                                  have p137 : 0 ≤ (x60_2 : Int) := of_decide_eq_true (by first | (with_reducible assumption) | assumption)
                                  have q137 : x60_2 < (t132.length : Int) := of_decide_eq_true (by first | (with_reducible assumption) | assumption)
                                  obtain ⟨ad137, e137, hx137_0, hx137_1⟩ := at_T31 (Kd.R_reads' HO_10.out).2.2 x60_2 p137 q137
                                  cases e137
                                  replace p137 := eq_true p137
                                  replace q137 := eq_true q137
                                  obtain ⟨Ao32, co32, eo32⟩ := Kd.R_slice HO_7.out
                                  subst eo32
                                  have p138 : 0 ≤ (x60_2 : Int) := of_decide_eq_true (by first | (with_reducible assumption) | assumption)
                                  have q138 : x60_2 < (t123.length : Int) := of_decide_eq_true (by first | (with_reducible assumption) | assumption)
                                  obtain ⟨ad138, e138, hx138_0, hx138_1⟩ := at_T31 (Kd.R_reads' HO_7.out).2.2 x60_2 p138 q138
                                  cases e138
                                  replace p138 := eq_true p138
                                  replace q138 := eq_true q138
                                  go_wp2
                                  repeat (go_quiet (fail); try go_wp2)
                                  go_roundg k2
                                  case measure => have := HJ15.out; have := HK2.out; omega
                                  case rel => exact ⟨(wrap64 (x60_2 + 1)), (by first | rfl | (simp; done) | (simp [*]; done)), H', ⟨by have := HJ15.out; have := HK2.out; omega⟩, ⟨by (with_reducible repeat (first | apply Kd.R_alloc | apply Kd.R_drewN | apply Kd.R_drew)); exact HO_7.out⟩, ⟨by (with_reducible repeat (first | apply Kd.R_alloc | apply Kd.R_drewN | apply Kd.R_drew)); exact HO_10.out⟩, ⟨by repeat (first | (with_reducible first | exact HB.out | apply below_alloc | apply pw_below_drewN | apply below_drew1) | exact HB.out)⟩⟩
                              · rw [if_neg c29] at H
                                exact absurd H (by simp)
                            · rw [if_neg c28] at H
                              exact absurd H (by simp)
                          · rw [if_neg c27] at H
                            exact absurd H (by simp)
                        · rw [if_neg c26] at H
                          have c26b0 : decide (x60_2 < (t132.length : Int)) = false := decide_eq_false c26
                          clear c26
                          by_cases c33 : 0 ≤ ji11
                          · rw [if_pos c33] at H
                            have c33b0 := eq_true c33
                            have c33b1 : decide (0 ≤ ji11) = true := decide_eq_true c33
                            clear c33
                            by_cases c34 : ji11 ≤ (l0.length : Int)
                            · rw [if_pos c34] at H
                              have c34b0 := eq_true c34
                              have c34b1 : decide (ji11 ≤ (l0.length : Int)) = true := decide_eq_true c34
                              clear c34
                              obtain ⟨y139, hy139⟩ : ∃ y_ : List (S36), y_ = (l0.drop (ji11 : Int).toNat) := ⟨_, rfl⟩
                              replace H : ((place_Place.f y139 t133).bind fun bt143 => (if bt143.2.2 = 0 then (mainsheetlaw13_PlaceMore.j2 k2 t123 t132 bt143.1 ((bt143.1.length : Int) != (wrap64 ((t123.length : Int) - (t132.length : Int))))) else (mainsheetlaw13_PlaceMore.j2 k2 t123 t132 bt143.1 true))) = some r := by first | (rw [hy139]; with_reducible exact H) | (have H2_ := (Option.bind_some _ _).symm.trans H; rw [hy139]; with_reducible exact H2_) | (have H2_ := (Option.bind_some _ _).symm.trans H; with_reducible exact H2_) | with_reducible exact H | (rw [hy139]; exact H) | exact H
                              have Ny139 := Aside0.mk hy139
                              clear hy139
                              replace H := Option.bind_eq_some_iff.mp H
                              obtain ⟨⟨t143, t144, t145⟩, A350, H⟩ := H
                              replace H : (if t145 = 0 then (mainsheetlaw13_PlaceMore.j2 k2 t123 t132 t143 ((t143.length : Int) != (wrap64 ((t123.length : Int) - (t132.length : Int))))) else (mainsheetlaw13_PlaceMore.j2 k2 t123 t132 t143 true)) = some r := H
                              have A35 := Aside0.mk A350
                              clear A350
                              have HC36 := Aside0.mk H
                              clear H
                              have q37 : (ji11 : Int) ≤ ((l0.length : Int) : Int) := of_decide_eq_true (by first | (with_reducible assumption) | assumption)
                              obtain ⟨i037, hi037, _, hsz37, _⟩ := info_parts info36
                              have hroom37 : l0.length ≤ c0 := HC0.out
                              have hC37 : Kd.C k36 _ A0 l0.length l0 := HR0.out
                              have q037 : (0 : Int) ≤ (ji11 : Int) := of_decide_eq_true (by first | (with_reducible assumption) | assumption)
                              have hcut37 := cut_from (P := Tryd.prog) 22 36 .i64 Tryd.underlying22 hi037 4 hsz37 A0 l0.length c0 ji11 q037 q37
                              have hr37 := Kd.C_drop (m := (ji11 : Int).toNat) (c := c0) hC37 (by omega) hroom37
                              obtain ⟨A37, hA37⟩ : ∃ A1, A1 = (if c0 = (ji11 : Int).toNat then A0 else (A0 : Option Addr).map (·.add ((ji11 : Int).toNat * 4))) := ⟨_, rfl⟩
                              obtain ⟨c37, hc37⟩ : ∃ c1, c1 = c0 - (ji11 : Int).toNat := ⟨_, rfl⟩
                              have hy37 : y139.length = l0.length - (ji11 : Int).toNat := (by rw [Ny139.out, List.length_drop] <;> omega)
                              rw [show (l0).drop (ji11 : Int).toNat = y139 from Ny139.out.symm] at hr37
                              replace hr37 : Kd.C k36 _ A37 y139.length y139 := (by rw [hA37]; exact hr37)
                              rw [← hy37, ← hA37, ← hc37] at hcut37
                              have HR142 := Aside0.mk hr37
                              have HC142 := Aside0.mk (show y139.length ≤ c37 from by rw [hy37, hc37]; exact Nat.sub_le_sub_right hroom37 _)
                              clear hr37 hC37 hroom37 hi037 hsz37 hc37
                              have KY37 := Aside0.mk hy37
                              have KA37 := Aside0.mk hA37
                              clear hy37 hA37
                              replace q37 := eq_true q37
                              go_upto_region 19 with (first | (go_at_call 16; (with_reducible refine (place_Place.calls _ _ y139 t133 t143 t144 t145 _ ?side1 ?side2 ?tb A35.out).mono ?_); (case tb => exact HT.out.step (by repeat (first | (with_reducible first | exact HB.out | apply below_alloc | apply pw_below_drewN | apply below_drew1) | exact HB.out))); (case side1 => repeat (first | exact (Kd.C_below HR142.out HB.out) | (with_reducible refine Kd.C_alloc ?_ _) | (with_reducible refine Kd.C_drewN ?_ _) | (with_reducible refine Kd.C_drew ?_))); (case side2 => exact HC142.out); rintro e w38 ⟨v146, rfl, ho0, hb⟩; have n0_ := Aside0.mk (Kd.R_elder' (by (with_reducible repeat (first | apply Kd.R_alloc | apply Kd.R_drewN | apply Kd.R_drew)); exact HO_7.out) (Kd.R_base ho0) hb); have n1_ := Aside0.mk (Kd.R_elder' (by (with_reducible repeat (first | apply Kd.R_alloc | apply Kd.R_drewN | apply Kd.R_drew)); exact HO_10.out) (Kd.R_base ho0) hb); have n2_ := Aside0.mk (Kd.R_lower (Kd.R_new' (Kd.R_new' ho0 (Kd.R_lt (by (with_reducible repeat (first | apply Kd.R_alloc | apply Kd.R_drewN | apply Kd.R_drew)); exact HO_7.out))) (Kd.R_lt (by (with_reducible repeat (first | apply Kd.R_alloc | apply Kd.R_drewN | apply Kd.R_drew)); exact HO_10.out))) (below_size (by repeat (first | (with_reducible first | exact HB.out | apply below_alloc | apply pw_below_drewN | apply below_drew1) | exact HB.out)))); have n3_ := Aside0.mk (below_step (by repeat (first | (with_reducible first | exact HB.out | apply below_alloc | apply pw_below_drewN | apply below_drew1) | exact HB.out)) hb); clear HO_7; clear HO_10; clear HB; have HO_7 := n0_; have HO_10 := n1_; have HO147 := n2_; have HB := n3_; clear n0_ n1_ n2_ n3_; (try clear hb); (try clear hb2); (try clear hk); (try clear hi); (try clear ho0)))
                              repeat (go_quiet (first | (go_at_call 16; (with_reducible refine (place_Place.calls _ _ y139 t133 t143 t144 t145 _ ?side1 ?side2 ?tb A35.out).mono ?_); (case tb => exact HT.out.step (by repeat (first | (with_reducible first | exact HB.out | apply below_alloc | apply pw_below_drewN | apply below_drew1) | exact HB.out))); (case side1 => repeat (first | exact (Kd.C_below HR142.out HB.out) | (with_reducible refine Kd.C_alloc ?_ _) | (with_reducible refine Kd.C_drewN ?_ _) | (with_reducible refine Kd.C_drew ?_))); (case side2 => exact HC142.out); rintro e w38 ⟨v146, rfl, ho0, hb⟩; have n0_ := Aside0.mk (Kd.R_elder' (by (with_reducible repeat (first | apply Kd.R_alloc | apply Kd.R_drewN | apply Kd.R_drew)); exact HO_7.out) (Kd.R_base ho0) hb); have n1_ := Aside0.mk (Kd.R_elder' (by (with_reducible repeat (first | apply Kd.R_alloc | apply Kd.R_drewN | apply Kd.R_drew)); exact HO_10.out) (Kd.R_base ho0) hb); have n2_ := Aside0.mk (Kd.R_lower (Kd.R_new' (Kd.R_new' ho0 (Kd.R_lt (by (with_reducible repeat (first | apply Kd.R_alloc | apply Kd.R_drewN | apply Kd.R_drew)); exact HO_7.out))) (Kd.R_lt (by (with_reducible repeat (first | apply Kd.R_alloc | apply Kd.R_drewN | apply Kd.R_drew)); exact HO_10.out))) (below_size (by repeat (first | (with_reducible first | exact HB.out | apply below_alloc | apply pw_below_drewN | apply below_drew1) | exact HB.out)))); have n3_ := Aside0.mk (below_step (by repeat (first | (with_reducible first | exact HB.out | apply below_alloc | apply pw_below_drewN | apply below_drew1) | exact HB.out)) hb); clear HO_7; clear HO_10; clear HB; have HO_7 := n0_; have HO_10 := n1_; have HO147 := n2_; have HB := n3_; clear n0_ n1_ n2_ n3_; (try clear hb); (try clear hb2); (try clear hk); (try clear hi); (try clear ho0))); go_upto_region 19 with (first | (go_at_call 16; (with_reducible refine (place_Place.calls _ _ y139 t133 t143 t144 t145 _ ?side1 ?side2 ?tb A35.out).mono ?_); (case tb => exact HT.out.step (by repeat (first | (with_reducible first | exact HB.out | apply below_alloc | apply pw_below_drewN | apply below_drew1) | exact HB.out))); (case side1 => repeat (first | exact (Kd.C_below HR142.out HB.out) | (with_reducible refine Kd.C_alloc ?_ _) | (with_reducible refine Kd.C_drewN ?_ _) | (with_reducible refine Kd.C_drew ?_))); (case side2 => exact HC142.out); rintro e w38 ⟨v146, rfl, ho0, hb⟩; have n0_ := Aside0.mk (Kd.R_elder' (by (with_reducible repeat (first | apply Kd.R_alloc | apply Kd.R_drewN | apply Kd.R_drew)); exact HO_7.out) (Kd.R_base ho0) hb); have n1_ := Aside0.mk (Kd.R_elder' (by (with_reducible repeat (first | apply Kd.R_alloc | apply Kd.R_drewN | apply Kd.R_drew)); exact HO_10.out) (Kd.R_base ho0) hb); have n2_ := Aside0.mk (Kd.R_lower (Kd.R_new' (Kd.R_new' ho0 (Kd.R_lt (by (with_reducible repeat (first | apply Kd.R_alloc | apply Kd.R_drewN | apply Kd.R_drew)); exact HO_7.out))) (Kd.R_lt (by (with_reducible repeat (first | apply Kd.R_alloc | apply Kd.R_drewN | apply Kd.R_drew)); exact HO_10.out))) (below_size (by repeat (first | (with_reducible first | exact HB.out | apply below_alloc | apply pw_below_drewN | apply below_drew1) | exact HB.out)))); have n3_ := Aside0.mk (below_step (by repeat (first | (with_reducible first | exact HB.out | apply below_alloc | apply pw_below_drewN | apply below_drew1) | exact HB.out)) hb); clear HO_7; clear HO_10; clear HB; have HO_7 := n0_; have HO_10 := n1_; have HO147 := n2_; have HB := n3_; clear n0_ n1_ n2_ n3_; (try clear hb); (try clear hb2); (try clear hk); (try clear hi); (try clear ho0))))
                              (try simp only [Act.put, List.setIfInBounds_toArray, List.set_cons_zero, List.set_cons_succ])
                              go_cut [93] (fun v93 wc => ∃ (kq : Nat) (x93_35 : Bool), v93 = .bool x93_35 ∧ Aside0 (mainsheetlaw13_PlaceMore.j2 kq t123 t132 t143 x93_35 = some r) ∧ Aside0 (kq ≤ k2) ∧ Aside0 (Kd.R k31 31 wc w.heap.size (fun k_ => some k_ ≠ ((.slice Ao25 t132.length co25) : Value).ownBlock ∧ some k_ ≠ (v146 : Value).ownBlock) v126 t123) ∧ Aside0 (Kd.R k31 31 wc w.heap.size (fun k_ => some k_ ≠ (v126 : Value).ownBlock ∧ some k_ ≠ (v146 : Value).ownBlock) (.slice Ao25 t132.length co25) t132) ∧ Aside0 (Kd.R k31 31 wc w.heap.size (fun k_ => some k_ ≠ (v126 : Value).ownBlock ∧ some k_ ≠ ((.slice Ao25 t132.length co25) : Value).ownBlock) v146 t143) ∧ Aside0 (Below w.heap.size w wc))
                              case first =>
                                have H := HC36.out
                                clear HC36
                                by_cases c39 : t145 = 0
                                · rw [if_pos c39] at H
                                  have c39b0 : (t145 == 0) = true := beq_iff_eq.mpr c39
                                  have c39b1 : (t145 != 0) = false := bne_eq_false_iff_eq.mpr c39
                                  clear c39
                                  (first | rw [c39b0] | (simp only [i64_w, i32_w]; rw [c39b0]) | skip)
                                  have H' := Aside0.mk H
                                  clear H
                                  obtain ⟨Ao40, co40, eo40⟩ := Kd.R_slice HO147.out
                                  subst eo40
                                  obtain ⟨Ao41, co41, eo41⟩ := Kd.R_slice HO_7.out
                                  subst eo41
                                  go_wp2
                                  repeat (go_quiet (fail); try go_wp2)
                                  go_meet
                                  case rel => exact ⟨_, (((t143.length : Int) != (wrap64 ((t123.length : Int) - (t132.length : Int))))), (by first | rfl | (simp; done) | (simp [*]; done)), H', ⟨by have := HJ15.out; have := HK2.out; first | omega | exact Nat.le_refl _⟩, ⟨by (with_reducible repeat (first | apply Kd.R_alloc | apply Kd.R_drewN | apply Kd.R_drew)); exact HO_7.out⟩, ⟨by (with_reducible repeat (first | apply Kd.R_alloc | apply Kd.R_drewN | apply Kd.R_drew)); exact HO_10.out⟩, ⟨by (with_reducible repeat (first | apply Kd.R_alloc | apply Kd.R_drewN | apply Kd.R_drew)); exact Kd.R_mono HO147.out (fun _ hk => ⟨hk.1.2, hk.2⟩)⟩, ⟨by repeat (first | (with_reducible first | exact HB.out | apply below_alloc | apply pw_below_drewN | apply below_drew1) | exact HB.out)⟩⟩
                                · rw [if_neg c39] at H
                                  have c39b0 : (t145 == 0) = false := beq_eq_false_iff_ne.mpr c39
                                  have c39b1 : (t145 != 0) = true := bne_iff_ne.mpr c39
                                  (first | rw [c39b0] | (simp only [i64_w, i32_w]; rw [c39b0]) | skip)
                                  have H' := Aside0.mk H
                                  clear H
                                  go_wp2
                                  repeat (go_quiet (fail); try go_wp2)
                                  go_meet
                                  case rel => exact ⟨_, (true), (by first | rfl | (simp; done) | (simp [*]; done)), H', ⟨by have := HJ15.out; have := HK2.out; first | omega | exact Nat.le_refl _⟩, ⟨by (with_reducible repeat (first | apply Kd.R_alloc | apply Kd.R_drewN | apply Kd.R_drew)); exact HO_7.out⟩, ⟨by (with_reducible repeat (first | apply Kd.R_alloc | apply Kd.R_drewN | apply Kd.R_drew)); exact HO_10.out⟩, ⟨by (with_reducible repeat (first | apply Kd.R_alloc | apply Kd.R_drewN | apply Kd.R_drew)); exact Kd.R_mono HO147.out (fun _ hk => ⟨hk.1.2, hk.2⟩)⟩, ⟨by repeat (first | (with_reducible first | exact HB.out | apply below_alloc | apply pw_below_drewN | apply below_drew1) | exact HB.out)⟩⟩
                              case rest =>
                                clear HC36
                                try clear c1
                                try clear p1
                                try clear q1
                                try clear hx1
                                try clear c2
                                try clear p2
                                try clear c3
                                try clear q3
                                try clear c5
                                try clear c6
                                try clear c6b0
                                try clear c6b1
                                try clear p6
                                try clear c9
                                try clear c9b0
                                try clear c9b1
                                try clear c12
                                try clear c12b0
                                try clear c12b1
                                try clear c13
                                try clear c13b0
                                try clear c13b1
                                try clear p13
                                try clear q13
                                try clear hx13
                                try clear c15
                                try clear c15b0
                                try clear c15b1
                                try clear q19
                                try clear c21
                                try clear c21b0
                                try clear c21b1
                                try clear c24
                                try clear c26
                                try clear c26b0
                                try clear c27
                                try clear c27b0
                                try clear c28
                                try clear c28b0
                                try clear c29
                                try clear c29b0
                                try clear c30
                                try clear c30b0
                                try clear c33
                                try clear c33b0
                                try clear c33b1
                                try clear c34
                                try clear c34b0
                                try clear c34b1
                                try clear c37
                                try clear q37
                                try clear c39
                                try clear c39b0
                                try clear c39b1
                                try clear hx137_0
                                try clear hx137_1
                                try clear hx138_0
                                try clear hx138_1
                                try clear p137
                                try clear p138
                                try clear p2
                                try clear p6
                                try clear q037
                                try clear q1
                                try clear q137
                                try clear q138
                                try clear q19
                                try clear q37
                                obtain ⟨kq, x93_35, rfl, HA, HJ35, HO_7, HO_10, HO_14, HB⟩ := hcut
                                cases kq with
                                | zero => exact absurd HA.out (by simp [mainsheetlaw13_PlaceMore.j2])
                                | succ kj35 =>
                                  have H := HA.out
                                  clear HA
                                  simp only [mainsheetlaw13_PlaceMore.j2] at H
                                  by_cases c42 : x93_35 = true
                                  · subst c42
                                    have H1 : (some false) = some r := by rw [if_pos rfl] at H; exact H
                                    clear H
                                    have H := H1
                                    clear H1
                                    obtain rfl := Option.some.inj H
                                    go_wp2
                                    repeat (go_quiet (fail); try go_wp2)
                                    go_ret
                                    exact ⟨by first | rfl | (simp [errW_none, errW_some] <;> rfl) | (simp only [← hji8, ← hji11]; first | rfl | (simp [errW_none, errW_some] <;> rfl)) | (simp [*, errW_none, errW_some] <;> rfl), by repeat (first | (with_reducible first | exact HB.out | apply below_alloc | apply pw_below_drewN | apply below_drew1) | exact HB.out)⟩
                                  · replace c42 := Bool.eq_false_iff.mpr c42
                                    subst c42
                                    have H1 : (mainsheetlaw13_PlaceMore.l1 kj35 t123 t132 t143 (t143.length : Int) 0) = some r := by rw [if_neg (show ¬ (false = true) by decide)] at H; exact H
                                    clear H
                                    have H := H1
                                    clear H1
                                    have H' := Aside0.mk H
                                    clear H
                                    obtain ⟨Ao43, co43, eo43⟩ := Kd.R_slice HO_14.out
                                    subst eo43
                                    go_wp2
                                    repeat (go_quiet (fail); try go_wp2)
                                    go_loopg [96] kj35 (fun kq v96 w' => ∃ (x96_4 : Int), v96 = .int .i64 x96_4 ∧ Aside0 (mainsheetlaw13_PlaceMore.l1 kq t123 t132 t143 (t143.length : Int) x96_4 = some r) ∧ Aside0 (kq ≤ kj35) ∧ Aside0 (Kd.R k31 31 w' w.heap.size (fun k_ => some k_ ≠ ((.slice Ao25 t132.length co25) : Value).ownBlock ∧ some k_ ≠ ((.slice Ao43 t143.length co43) : Value).ownBlock) v126 t123) ∧ Aside0 (Kd.R k31 31 w' w.heap.size (fun k_ => some k_ ≠ (v126 : Value).ownBlock ∧ some k_ ≠ ((.slice Ao43 t143.length co43) : Value).ownBlock) (.slice Ao25 t132.length co25) t132) ∧ Aside0 (Kd.R k31 31 w' w.heap.size (fun k_ => some k_ ≠ (v126 : Value).ownBlock ∧ some k_ ≠ ((.slice Ao25 t132.length co25) : Value).ownBlock) (.slice Ao43 t143.length co43) t143) ∧ Aside0 (Below w.heap.size w w'))
                                    case atStart => exact ⟨(0), (by first | rfl | (simp; done) | (simp [*]; done)), H', ⟨Nat.le_refl _⟩, ⟨by (with_reducible repeat (first | apply Kd.R_alloc | apply Kd.R_drewN | apply Kd.R_drew)); exact HO_7.out⟩, ⟨by (with_reducible repeat (first | apply Kd.R_alloc | apply Kd.R_drewN | apply Kd.R_drew)); exact HO_10.out⟩, ⟨by (with_reducible repeat (first | apply Kd.R_alloc | apply Kd.R_drewN | apply Kd.R_drew)); exact HO_14.out⟩, ⟨by repeat (first | (with_reducible first | exact HB.out | apply below_alloc | apply pw_below_drewN | apply below_drew1) | exact HB.out)⟩⟩
                                    case round =>
                                      clear H'
                                      try clear c1
                                      try clear p1
                                      try clear q1
                                      try clear hx1
                                      try clear c2
                                      try clear p2
                                      try clear c3
                                      try clear q3
                                      try clear c4
                                      try clear c5
                                      try clear c6
                                      try clear c6b0
                                      try clear c6b1
                                      try clear p6
                                      try clear c9
                                      try clear c9b0
                                      try clear c9b1
                                      try clear c12
                                      try clear c12b0
                                      try clear c12b1
                                      try clear c13
                                      try clear c13b0
                                      try clear c13b1
                                      try clear p13
                                      try clear q13
                                      try clear hx13
                                      try clear c15
                                      try clear c15b0
                                      try clear c15b1
                                      try clear q19
                                      try clear c21
                                      try clear c21b0
                                      try clear c21b1
                                      try clear c24
                                      try clear c26
                                      try clear c26b0
                                      try clear c27
                                      try clear c27b0
                                      try clear c28
                                      try clear c28b0
                                      try clear c29
                                      try clear c29b0
                                      try clear c30
                                      try clear c30b0
                                      try clear c33
                                      try clear c33b0
                                      try clear c33b1
                                      try clear c34
                                      try clear c34b0
                                      try clear c34b1
                                      try clear c37
                                      try clear q37
                                      try clear c39
                                      try clear c39b0
                                      try clear c39b1
                                      try clear c42
                                      try clear hx137_0
                                      try clear hx137_1
                                      try clear hx138_0
                                      try clear hx138_1
                                      try clear p1
                                      try clear p13
                                      try clear p137
                                      try clear p138
                                      try clear p2
                                      try clear p6
                                      try clear q037
                                      try clear q1
                                      try clear q13
                                      try clear q137
                                      try clear q138
                                      try clear q19
                                      try clear q3
                                      try clear q37
                                      obtain ⟨x96_4, rfl, HA, HK4, HO_7, HO_10, HO_14, HB⟩ := hrel
                                      cases gk with
                                      | zero => exact absurd HA.out (by simp [mainsheetlaw13_PlaceMore.l1])
                                      | succ k4 =>
                                        have H := HA.out
                                        clear HA
                                        simp only [mainsheetlaw13_PlaceMore.l1] at H
                                        by_cases c44 : x96_4 < (t143.length : Int)
                                        · rw [if_pos c44] at H
                                          have c44b0 : decide (x96_4 < (t143.length : Int)) = true := decide_eq_true c44
                                          clear c44
                                          by_cases c45 : 0 ≤ x96_4
                                          · rw [if_pos c45] at H
                                            have c45b0 : decide (0 ≤ x96_4) = true := decide_eq_true c45
                                            clear c45
                                            by_cases c46 : x96_4 < (t143.length : Int)
                                            · rw [if_pos c46] at H
                                              have c46b0 : decide (x96_4 < (t143.length : Int)) = true := decide_eq_true c46
                                              clear c46
                                              obtain ⟨ji47, hji47⟩ : ∃ j_ : Int, (wrap64 ((t132.length : Int) + x96_4)) = j_ := ⟨_, rfl⟩
                                              replace H : (if 0 ≤ (ji47) then (if (ji47) < (t123.length : Int) then (if (!(((rd_T31 t143 x96_4).f0) == ((rd_T31 t123 (ji47)).f0)) || (!(((rd_T31 t143 x96_4).f1) == ((rd_T31 t123 (ji47)).f1)))) = true then (some false) else (mainsheetlaw13_PlaceMore.l1 k4 t123 t132 t143 (t143.length : Int) (wrap64 (x96_4 + 1)))) else (none)) else (none)) = some r := by first | (rw [hji47] at H; exact H) | (simp only [hji47] at H ⊢; exact H)
                                              have hji47w : (IntKind.i64.wrap ((t132.length : Int) + x96_4)) = ji47 := (i64_w _).trans hji47
                                              by_cases c48 : 0 ≤ (ji47)
                                              · rw [if_pos c48] at H
                                                have c48b0 : decide (0 ≤ (ji47)) = true := decide_eq_true c48
                                                clear c48
                                                by_cases c49 : (ji47) < (t123.length : Int)
                                                · rw [if_pos c49] at H
                                                  have c49b0 : decide ((ji47) < (t123.length : Int)) = true := decide_eq_true c49
                                                  clear c49
                                                  by_cases c50 : (!(((rd_T31 t143 x96_4).f0) == ((rd_T31 t123 (ji47)).f0)) || (!(((rd_T31 t143 x96_4).f1) == ((rd_T31 t123 (ji47)).f1)))) = true
                                                  · rw [if_pos c50] at H
                                                    have c50b0 : (!(((rd_T31 t143 x96_4).f0) == ((rd_T31 t123 (ji47)).f0)) || (!(((rd_T31 t143 x96_4).f1) == ((rd_T31 t123 (ji47)).f1)))) = true := c50
                                                    clear c50
                                                    obtain rfl := Option.some.inj H
                                                    have p148 : 0 ≤ (x96_4 : Int) := of_decide_eq_true (by first | (with_reducible assumption) | assumption)
                                                    have q148 : x96_4 < (t143.length : Int) := of_decide_eq_true (by first | (with_reducible assumption) | assumption)
                                                    obtain ⟨ad148, e148, hx148_0, hx148_1⟩ := at_T31 (Kd.R_reads' HO_14.out).2.2 x96_4 p148 q148
                                                    cases e148
                                                    replace p148 := eq_true p148
                                                    replace q148 := eq_true q148
                                                    obtain ⟨Ao51, co51, eo51⟩ := Kd.R_slice HO_7.out
                                                    subst eo51
                                                    have p149 : 0 ≤ ((ji47) : Int) := of_decide_eq_true (by first | (with_reducible assumption) | assumption)
                                                    have q149 : (ji47) < (t123.length : Int) := of_decide_eq_true (by first | (with_reducible assumption) | assumption)
                                                    obtain ⟨ad149, e149, hx149_0, hx149_1⟩ := at_T31 (Kd.R_reads' HO_7.out).2.2 (ji47) p149 q149
                                                    cases e149
                                                    replace p149 := eq_true p149
                                                    replace q149 := eq_true q149
                                                    go_wp2
                                                    repeat (go_quiet (fail); try go_wp2)
                                                    go_ret
                                                    exact ⟨by first | rfl | (simp [errW_none, errW_some] <;> rfl) | (simp only [← hji8, ← hji11, ← hji47]; first | rfl | (simp [errW_none, errW_some] <;> rfl)) | (simp [*, errW_none, errW_some] <;> rfl), by repeat (first | (with_reducible first | exact HB.out | apply below_alloc | apply pw_below_drewN | apply below_drew1) | exact HB.out)⟩
                                                  · rw [if_neg c50] at H
                                                    have c50b0 : (!(((rd_T31 t143 x96_4).f0) == ((rd_T31 t123 (ji47)).f0)) || (!(((rd_T31 t143 x96_4).f1) == ((rd_T31 t123 (ji47)).f1)))) = false := by simpa using c50
                                                    clear c50
                                                    have H' := Aside0.mk H
                                                    clear H
                                                    have p148 : 0 ≤ (x96_4 : Int) := of_decide_eq_true (by first | (with_reducible assumption) | assumption)
                                                    have q148 : x96_4 < (t143.length : Int) := of_decide_eq_true (by first | (with_reducible assumption) | assumption)
                                                    obtain ⟨ad148, e148, hx148_0, hx148_1⟩ := at_T31 (Kd.R_reads' HO_14.out).2.2 x96_4 p148 q148
                                                    cases e148
                                                    replace p148 := eq_true p148
                                                    replace q148 := eq_true q148
                                                    obtain ⟨Ao52, co52, eo52⟩ := Kd.R_slice HO_7.out
                                                    subst eo52
                                                    have p149 : 0 ≤ ((ji47) : Int) := of_decide_eq_true (by first | (with_reducible assumption) | assumption)
                                                    have q149 : (ji47) < (t123.length : Int) := of_decide_eq_true (by first | (with_reducible assumption) | assumption)
                                                    obtain ⟨ad149, e149, hx149_0, hx149_1⟩ := at_T31 (Kd.R_reads' HO_7.out).2.2 (ji47) p149 q149
                                                    cases e149
                                                    replace p149 := eq_true p149
                                                    replace q149 := eq_true q149
                                                    go_wp2
                                                    repeat (go_quiet (fail); try go_wp2)
                                                    go_roundg k4
                                                    case measure => have := HJ15.out; have := HK2.out; have := HJ35.out; have := HK4.out; omega
                                                    case rel => exact ⟨(wrap64 (x96_4 + 1)), (by first | rfl | (simp; done) | (simp [*]; done)), H', ⟨by have := HJ15.out; have := HK2.out; have := HJ35.out; have := HK4.out; omega⟩, ⟨by (with_reducible repeat (first | apply Kd.R_alloc | apply Kd.R_drewN | apply Kd.R_drew)); exact HO_7.out⟩, ⟨by (with_reducible repeat (first | apply Kd.R_alloc | apply Kd.R_drewN | apply Kd.R_drew)); exact HO_10.out⟩, ⟨by (with_reducible repeat (first | apply Kd.R_alloc | apply Kd.R_drewN | apply Kd.R_drew)); exact HO_14.out⟩, ⟨by repeat (first | (with_reducible first | exact HB.out | apply below_alloc | apply pw_below_drewN | apply below_drew1) | exact HB.out)⟩⟩
                                                · rw [if_neg c49] at H
                                                  exact absurd H (by simp)
                                              · rw [if_neg c48] at H
                                                exact absurd H (by simp)
                                            · rw [if_neg c46] at H
                                              exact absurd H (by simp)
                                          · rw [if_neg c45] at H
                                            exact absurd H (by simp)
                                        · rw [if_neg c44] at H
                                          have c44b0 : decide (x96_4 < (t143.length : Int)) = false := decide_eq_false c44
                                          clear c44
                                          obtain rfl := Option.some.inj H
                                          go_wp2
                                          repeat (go_quiet (fail); try go_wp2)
                                          go_ret
                                          exact ⟨by first | rfl | (simp [errW_none, errW_some] <;> rfl) | (simp only [← hji8, ← hji11]; first | rfl | (simp [errW_none, errW_some] <;> rfl)) | (simp [*, errW_none, errW_some] <;> rfl), by repeat (first | (with_reducible first | exact HB.out | apply below_alloc | apply pw_below_drewN | apply below_drew1) | exact HB.out)⟩
                            · rw [if_neg c34] at H
                              exact absurd H (by simp)
                          · rw [if_neg c33] at H
                            exact absurd H (by simp)
            · rw [if_neg c15] at H
              have c15b0 : (t125 == 0) = false := beq_eq_false_iff_ne.mpr c15
              have c15b1 : (t125 != 0) = true := bne_iff_ne.mpr c15
              obtain rfl := Option.some.inj H
              go_enter Tryd.func3, Tryd.ntmps3
              go_wp2_with (first | (go_at_call 15; (with_reducible refine (mainsheetlaw13_wakes.calls  true _ ?tb A4.out).mono ?_); (case tb => exact HT.out.step (by repeat (first | (with_reducible first | exact HB.out | apply below_alloc | apply pw_below_drewN | apply below_drew1) | exact HB.out))); rintro e w53 ⟨rfl, hb⟩; have n0_ := Aside0.mk (below_step (by repeat (first | (with_reducible first | exact HB.out | apply below_alloc | apply pw_below_drewN | apply below_drew1) | exact HB.out)) hb); clear HB; have HB := n0_; clear n0_; (try clear hb); (try clear hb2); (try clear hk); (try clear hi)) | (go_at_call 16; (with_reducible refine (place_Place.calls _ _ l0 a1 t123 t124 t125 _ ?side1 ?side2 ?tb A10.out).mono ?_); (case tb => exact HT.out.step (by repeat (first | (with_reducible first | exact HB.out | apply below_alloc | apply pw_below_drewN | apply below_drew1) | exact HB.out))); (case side1 => repeat (first | exact (Kd.C_below HR0.out HB.out) | (with_reducible refine Kd.C_alloc ?_ _) | (with_reducible refine Kd.C_drewN ?_ _) | (with_reducible refine Kd.C_drew ?_))); (case side2 => exact HC0.out); rintro e w54 ⟨v126, rfl, ho0, hb⟩; have n0_ := Aside0.mk (Kd.R_lower ho0 (below_size (by repeat (first | (with_reducible first | exact HB.out | apply below_alloc | apply pw_below_drewN | apply below_drew1) | exact HB.out)))); have n1_ := Aside0.mk (below_step (by repeat (first | (with_reducible first | exact HB.out | apply below_alloc | apply pw_below_drewN | apply below_drew1) | exact HB.out)) hb); clear HB; have HO127 := n0_; have HB := n1_; clear n0_ n1_; (try clear hb); (try clear hb2); (try clear hk); (try clear hi); (try clear ho0); have q55 : ((ji11) : Int) ≤ ((l0.length : Int) : Int) := of_decide_eq_true (by first | (with_reducible assumption) | assumption); obtain ⟨i055, hi055, _, hsz55, _⟩ := info_parts info36; have hroom55 : l0.length ≤ c0 := HC0.out; have hC55 : Kd.C k36 _ A0 l0.length l0 := HR0.out; have hcut55 := cut_to (P := Tryd.prog) 22 36 .i64 Tryd.underlying22 hi055 A0 l0.length c0 (ji11) (of_decide_eq_true (by first | (with_reducible assumption) | assumption)) q55 hroom55; have hr55 := Kd.C_take (m := ((ji11) : Int).toNat) hC55 (by omega); have hy55 : y128.length = ((ji11) : Int).toNat := (by rw [Ny128.out, List.length_take]; omega); rw [← Ny128.out] at hr55; rw [← hy55] at hcut55; have HR131 := Aside0.mk hr55; have HC131 := Aside0.mk (show y128.length ≤ c0 from by omega); clear hr55 hC55 hroom55 hi055 hsz55; have KY55 := Aside0.mk hy55; clear hy55; replace q55 := eq_true q55) | (go_at_call 16; (with_reducible refine (place_Place.calls _ _ y128 a1 t132 t133 t134 _ ?side1 ?side2 ?tb A14.out).mono ?_); (case tb => exact HT.out.step (by repeat (first | (with_reducible first | exact HB.out | apply below_alloc | apply pw_below_drewN | apply below_drew1) | exact HB.out))); (case side1 => repeat (first | exact (Kd.C_below HR131.out HB.out) | (with_reducible refine Kd.C_alloc ?_ _) | (with_reducible refine Kd.C_drewN ?_ _) | (with_reducible refine Kd.C_drew ?_))); (case side2 => exact HC131.out); rintro e w56 ⟨v135, rfl, ho0, hb⟩; have n0_ := Aside0.mk (Kd.R_elder' (by (with_reducible repeat (first | apply Kd.R_alloc | apply Kd.R_drewN | apply Kd.R_drew)); exact HO127.out) (Kd.R_base ho0) hb); have n1_ := Aside0.mk (Kd.R_lower (Kd.R_new' ho0 (Kd.R_lt (by (with_reducible repeat (first | apply Kd.R_alloc | apply Kd.R_drewN | apply Kd.R_drew)); exact HO127.out))) (below_size (by repeat (first | (with_reducible first | exact HB.out | apply below_alloc | apply pw_below_drewN | apply below_drew1) | exact HB.out)))); have n2_ := Aside0.mk (below_step (by repeat (first | (with_reducible first | exact HB.out | apply below_alloc | apply pw_below_drewN | apply below_drew1) | exact HB.out)) hb); clear HO127; clear HB; have HO127 := n0_; have HO136 := n1_; have HB := n2_; clear n0_ n1_ n2_; (try clear hb); (try clear hb2); (try clear hk); (try clear hi); (try clear ho0); obtain ⟨Ao57, co57, eo57⟩ := Kd.R_slice HO127.out; subst eo57))
              repeat (go_quiet (first | (go_at_call 15; (with_reducible refine (mainsheetlaw13_wakes.calls  true _ ?tb A4.out).mono ?_); (case tb => exact HT.out.step (by repeat (first | (with_reducible first | exact HB.out | apply below_alloc | apply pw_below_drewN | apply below_drew1) | exact HB.out))); rintro e w53 ⟨rfl, hb⟩; have n0_ := Aside0.mk (below_step (by repeat (first | (with_reducible first | exact HB.out | apply below_alloc | apply pw_below_drewN | apply below_drew1) | exact HB.out)) hb); clear HB; have HB := n0_; clear n0_; (try clear hb); (try clear hb2); (try clear hk); (try clear hi)) | (go_at_call 16; (with_reducible refine (place_Place.calls _ _ l0 a1 t123 t124 t125 _ ?side1 ?side2 ?tb A10.out).mono ?_); (case tb => exact HT.out.step (by repeat (first | (with_reducible first | exact HB.out | apply below_alloc | apply pw_below_drewN | apply below_drew1) | exact HB.out))); (case side1 => repeat (first | exact (Kd.C_below HR0.out HB.out) | (with_reducible refine Kd.C_alloc ?_ _) | (with_reducible refine Kd.C_drewN ?_ _) | (with_reducible refine Kd.C_drew ?_))); (case side2 => exact HC0.out); rintro e w54 ⟨v126, rfl, ho0, hb⟩; have n0_ := Aside0.mk (Kd.R_lower ho0 (below_size (by repeat (first | (with_reducible first | exact HB.out | apply below_alloc | apply pw_below_drewN | apply below_drew1) | exact HB.out)))); have n1_ := Aside0.mk (below_step (by repeat (first | (with_reducible first | exact HB.out | apply below_alloc | apply pw_below_drewN | apply below_drew1) | exact HB.out)) hb); clear HB; have HO127 := n0_; have HB := n1_; clear n0_ n1_; (try clear hb); (try clear hb2); (try clear hk); (try clear hi); (try clear ho0); have q55 : ((ji11) : Int) ≤ ((l0.length : Int) : Int) := of_decide_eq_true (by first | (with_reducible assumption) | assumption); obtain ⟨i055, hi055, _, hsz55, _⟩ := info_parts info36; have hroom55 : l0.length ≤ c0 := HC0.out; have hC55 : Kd.C k36 _ A0 l0.length l0 := HR0.out; have hcut55 := cut_to (P := Tryd.prog) 22 36 .i64 Tryd.underlying22 hi055 A0 l0.length c0 (ji11) (of_decide_eq_true (by first | (with_reducible assumption) | assumption)) q55 hroom55; have hr55 := Kd.C_take (m := ((ji11) : Int).toNat) hC55 (by omega); have hy55 : y128.length = ((ji11) : Int).toNat := (by rw [Ny128.out, List.length_take]; omega); rw [← Ny128.out] at hr55; rw [← hy55] at hcut55; have HR131 := Aside0.mk hr55; have HC131 := Aside0.mk (show y128.length ≤ c0 from by omega); clear hr55 hC55 hroom55 hi055 hsz55; have KY55 := Aside0.mk hy55; clear hy55; replace q55 := eq_true q55) | (go_at_call 16; (with_reducible refine (place_Place.calls _ _ y128 a1 t132 t133 t134 _ ?side1 ?side2 ?tb A14.out).mono ?_); (case tb => exact HT.out.step (by repeat (first | (with_reducible first | exact HB.out | apply below_alloc | apply pw_below_drewN | apply below_drew1) | exact HB.out))); (case side1 => repeat (first | exact (Kd.C_below HR131.out HB.out) | (with_reducible refine Kd.C_alloc ?_ _) | (with_reducible refine Kd.C_drewN ?_ _) | (with_reducible refine Kd.C_drew ?_))); (case side2 => exact HC131.out); rintro e w56 ⟨v135, rfl, ho0, hb⟩; have n0_ := Aside0.mk (Kd.R_elder' (by (with_reducible repeat (first | apply Kd.R_alloc | apply Kd.R_drewN | apply Kd.R_drew)); exact HO127.out) (Kd.R_base ho0) hb); have n1_ := Aside0.mk (Kd.R_lower (Kd.R_new' ho0 (Kd.R_lt (by (with_reducible repeat (first | apply Kd.R_alloc | apply Kd.R_drewN | apply Kd.R_drew)); exact HO127.out))) (below_size (by repeat (first | (with_reducible first | exact HB.out | apply below_alloc | apply pw_below_drewN | apply below_drew1) | exact HB.out)))); have n2_ := Aside0.mk (below_step (by repeat (first | (with_reducible first | exact HB.out | apply below_alloc | apply pw_below_drewN | apply below_drew1) | exact HB.out)) hb); clear HO127; clear HB; have HO127 := n0_; have HO136 := n1_; have HB := n2_; clear n0_ n1_ n2_; (try clear hb); (try clear hb2); (try clear hk); (try clear hi); (try clear ho0); obtain ⟨Ao57, co57, eo57⟩ := Kd.R_slice HO127.out; subst eo57)); try go_wp2_with (first | (go_at_call 15; (with_reducible refine (mainsheetlaw13_wakes.calls  true _ ?tb A4.out).mono ?_); (case tb => exact HT.out.step (by repeat (first | (with_reducible first | exact HB.out | apply below_alloc | apply pw_below_drewN | apply below_drew1) | exact HB.out))); rintro e w53 ⟨rfl, hb⟩; have n0_ := Aside0.mk (below_step (by repeat (first | (with_reducible first | exact HB.out | apply below_alloc | apply pw_below_drewN | apply below_drew1) | exact HB.out)) hb); clear HB; have HB := n0_; clear n0_; (try clear hb); (try clear hb2); (try clear hk); (try clear hi)) | (go_at_call 16; (with_reducible refine (place_Place.calls _ _ l0 a1 t123 t124 t125 _ ?side1 ?side2 ?tb A10.out).mono ?_); (case tb => exact HT.out.step (by repeat (first | (with_reducible first | exact HB.out | apply below_alloc | apply pw_below_drewN | apply below_drew1) | exact HB.out))); (case side1 => repeat (first | exact (Kd.C_below HR0.out HB.out) | (with_reducible refine Kd.C_alloc ?_ _) | (with_reducible refine Kd.C_drewN ?_ _) | (with_reducible refine Kd.C_drew ?_))); (case side2 => exact HC0.out); rintro e w54 ⟨v126, rfl, ho0, hb⟩; have n0_ := Aside0.mk (Kd.R_lower ho0 (below_size (by repeat (first | (with_reducible first | exact HB.out | apply below_alloc | apply pw_below_drewN | apply below_drew1) | exact HB.out)))); have n1_ := Aside0.mk (below_step (by repeat (first | (with_reducible first | exact HB.out | apply below_alloc | apply pw_below_drewN | apply below_drew1) | exact HB.out)) hb); clear HB; have HO127 := n0_; have HB := n1_; clear n0_ n1_; (try clear hb); (try clear hb2); (try clear hk); (try clear hi); (try clear ho0); have q55 : ((ji11) : Int) ≤ ((l0.length : Int) : Int) := of_decide_eq_true (by first | (with_reducible assumption) | assumption); obtain ⟨i055, hi055, _, hsz55, _⟩ := info_parts info36; have hroom55 : l0.length ≤ c0 := HC0.out; have hC55 : Kd.C k36 _ A0 l0.length l0 := HR0.out; have hcut55 := cut_to (P := Tryd.prog) 22 36 .i64 Tryd.underlying22 hi055 A0 l0.length c0 (ji11) (of_decide_eq_true (by first | (with_reducible assumption) | assumption)) q55 hroom55; have hr55 := Kd.C_take (m := ((ji11) : Int).toNat) hC55 (by omega); have hy55 : y128.length = ((ji11) : Int).toNat := (by rw [Ny128.out, List.length_take]; omega); rw [← Ny128.out] at hr55; rw [← hy55] at hcut55; have HR131 := Aside0.mk hr55; have HC131 := Aside0.mk (show y128.length ≤ c0 from by omega); clear hr55 hC55 hroom55 hi055 hsz55; have KY55 := Aside0.mk hy55; clear hy55; replace q55 := eq_true q55) | (go_at_call 16; (with_reducible refine (place_Place.calls _ _ y128 a1 t132 t133 t134 _ ?side1 ?side2 ?tb A14.out).mono ?_); (case tb => exact HT.out.step (by repeat (first | (with_reducible first | exact HB.out | apply below_alloc | apply pw_below_drewN | apply below_drew1) | exact HB.out))); (case side1 => repeat (first | exact (Kd.C_below HR131.out HB.out) | (with_reducible refine Kd.C_alloc ?_ _) | (with_reducible refine Kd.C_drewN ?_ _) | (with_reducible refine Kd.C_drew ?_))); (case side2 => exact HC131.out); rintro e w56 ⟨v135, rfl, ho0, hb⟩; have n0_ := Aside0.mk (Kd.R_elder' (by (with_reducible repeat (first | apply Kd.R_alloc | apply Kd.R_drewN | apply Kd.R_drew)); exact HO127.out) (Kd.R_base ho0) hb); have n1_ := Aside0.mk (Kd.R_lower (Kd.R_new' ho0 (Kd.R_lt (by (with_reducible repeat (first | apply Kd.R_alloc | apply Kd.R_drewN | apply Kd.R_drew)); exact HO127.out))) (below_size (by repeat (first | (with_reducible first | exact HB.out | apply below_alloc | apply pw_below_drewN | apply below_drew1) | exact HB.out)))); have n2_ := Aside0.mk (below_step (by repeat (first | (with_reducible first | exact HB.out | apply below_alloc | apply pw_below_drewN | apply below_drew1) | exact HB.out)) hb); clear HO127; clear HB; have HO127 := n0_; have HO136 := n1_; have HB := n2_; clear n0_ n1_ n2_; (try clear hb); (try clear hb2); (try clear hk); (try clear hi); (try clear ho0); obtain ⟨Ao57, co57, eo57⟩ := Kd.R_slice HO127.out; subst eo57)))
              go_ret
              exact ⟨by first | rfl | (simp [errW_none, errW_some] <;> rfl) | (simp only [← hji8, ← hji11]; first | rfl | (simp [errW_none, errW_some] <;> rfl)) | (simp [*, errW_none, errW_some] <;> rfl), by repeat (first | (with_reducible first | exact HB.out | apply below_alloc | apply pw_below_drewN | apply below_drew1) | exact HB.out)⟩
          · rw [if_neg c13] at H
            exact absurd H (by simp)
        · rw [if_neg c12] at H
          exact absurd H (by simp)
  · replace c5 := Bool.eq_false_iff.mpr c5
    subst c5
    have H1 : (some false) = some r := by rw [if_neg (show ¬ (false = true) by decide)] at H; exact H
    clear H
    have H := H1
    clear H1
    obtain rfl := Option.some.inj H
    go_enter Tryd.func3, Tryd.ntmps3
    go_wp2_with (first | (go_at_call 15; (with_reducible refine (mainsheetlaw13_wakes.calls  false _ ?tb A4.out).mono ?_); (case tb => exact HT.out.step (by repeat (first | (with_reducible first | exact HB.out | apply below_alloc | apply pw_below_drewN | apply below_drew1) | exact HB.out))); rintro e w58 ⟨rfl, hb⟩; have n0_ := Aside0.mk (below_step (by repeat (first | (with_reducible first | exact HB.out | apply below_alloc | apply pw_below_drewN | apply below_drew1) | exact HB.out)) hb); clear HB; have HB := n0_; clear n0_; (try clear hb); (try clear hb2); (try clear hk); (try clear hi)))
    repeat (go_quiet (first | (go_at_call 15; (with_reducible refine (mainsheetlaw13_wakes.calls  false _ ?tb A4.out).mono ?_); (case tb => exact HT.out.step (by repeat (first | (with_reducible first | exact HB.out | apply below_alloc | apply pw_below_drewN | apply below_drew1) | exact HB.out))); rintro e w58 ⟨rfl, hb⟩; have n0_ := Aside0.mk (below_step (by repeat (first | (with_reducible first | exact HB.out | apply below_alloc | apply pw_below_drewN | apply below_drew1) | exact HB.out)) hb); clear HB; have HB := n0_; clear n0_; (try clear hb); (try clear hb2); (try clear hk); (try clear hi))); try go_wp2_with (first | (go_at_call 15; (with_reducible refine (mainsheetlaw13_wakes.calls  false _ ?tb A4.out).mono ?_); (case tb => exact HT.out.step (by repeat (first | (with_reducible first | exact HB.out | apply below_alloc | apply pw_below_drewN | apply below_drew1) | exact HB.out))); rintro e w58 ⟨rfl, hb⟩; have n0_ := Aside0.mk (below_step (by repeat (first | (with_reducible first | exact HB.out | apply below_alloc | apply pw_below_drewN | apply below_drew1) | exact HB.out)) hb); clear HB; have HB := n0_; clear n0_; (try clear hb); (try clear hb2); (try clear hk); (try clear hi))))
    go_ret
    exact ⟨by first | rfl | (simp [errW_none, errW_some] <;> rfl) | (simp [*, errW_none, errW_some] <;> rfl), by repeat (first | (with_reducible first | exact HB.out | apply below_alloc | apply pw_below_drewN | apply below_drew1) | exact HB.out)⟩

end Go.Proofs.YtdmieaidheelbaaDoor.Q
