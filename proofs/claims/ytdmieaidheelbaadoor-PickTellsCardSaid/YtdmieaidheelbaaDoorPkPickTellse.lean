/- Texts of the proof of PickTells, joined. -/
import Derived.Shelf.Sort.Plain
import Derived.Shelf.Slices.In.SortNone
import Derived.Sort.OwnSortedInts
import Derived.Test.YtdmieaidheelbaaDoorProg
import Derived.Maps.RangeWalk
import Derived.Shelf.Spec.SlicesGrow
import Derived.WalkMore
import Derived.BigQuiet
import Derived.Deep.QuietTactic
import Derived.Maps.Own
import Derived.Deep.RegionHeld3
import Derived.Test.YtdmieaidheelbaaDoorPkPickTellsd
/- QFref19Idle -/
section
namespace Go.Proofs.YtdmieaidheelbaaDoor.Q
open Go.RowKit Go.Proofs.YtdmieaidheelbaaDoorW.PrintWords Go.Proofs.YtdmieaidheelbaaDoorW.PrintLast Go.Proofs.YtdmieaidheelbaaDoorW.PrintMore
attribute [local go_sem] field36_2 max2_int min2_int max_two min_two max_three min_three max_four min_four
set_option linter.unusedVariables false
set_option linter.unusedSimpArgs false

mutual
def mainsheetref19_Idle.l0 : Nat → List (S90) → List (S36) → Int → List (S31) → List Int → Int → Option (List Int)
 | 0, _, _, _, _, _, _ => none
 | k + 1, x0, x1, x2, x3, x9, x10 => if x10 < 8 then ((mainsheetref19_At.f k x3 x10).bind fun bt426 => (if bt426.2 = true then (mainsheetref19_Idle.l0 k x0 x1 x2 x3 x9 (wrap64 (x10 + 1))) else (mainsheetref19_Idle.l1 k x0 x1 x2 x3 x9 x10 false 0))) else (some x9)
def mainsheetref19_Idle.l1 : Nat → List (S90) → List (S36) → Int → List (S31) → List Int → Int → Bool → Int → Option (List Int)
 | 0, _, _, _, _, _, _, _, _ => none
 | k + 1, x0, x1, x2, x3, x9, x10, x13, x14 => if x14 < (x0.length : Int) then (if 0 ≤ x14 then (if (((rd_T90 x0 x14).f0).length : Int) > 1 then (mainsheetref19_Idle.l1 k x0 x1 x2 x3 x9 x10 x13 (wrap64 (x14 + 1))) else (if 0 < (((rd_T90 x0 x14).f0).length : Int) then ((mainsheetref19_On.f k x3 (rd ((rd_T90 x0 x14).f0) 0)).bind fun bt434 => (if bt434.2 = true then (mainsheetref19_Idle.l1 k x0 x1 x2 x3 x9 x10 x13 (wrap64 (x14 + 1))) else ((mainsheetref19_Wish.f k x1 (rd ((rd_T90 x0 x14).f0) 0)).bind fun bt436 => ((mainsheetref07_Allows.f bt436.2.2.1 bt436.2.2.2 x2).bind fun t440 => ((mainsheetref04_Has.f t440 x10).bind fun t441 => (if t441 = true then (mainsheetref19_Idle.l1 k x0 x1 x2 x3 x9 x10 true (wrap64 (x14 + 1))) else (mainsheetref19_Idle.l1 k x0 x1 x2 x3 x9 x10 x13 (wrap64 (x14 + 1))))))))) else (none))) else (none)) else (if x13 = true then (if x9.length < 17592186044416 then (mainsheetref19_Idle.l0 k x0 x1 x2 x3 (x9 ++ [x10]) (wrap64 (x10 + 1))) else (none)) else (mainsheetref19_Idle.l0 k x0 x1 x2 x3 x9 (wrap64 (x10 + 1))))
end
def mainsheetref19_Idle.f (k : Nat) (l0 : List (S90)) (l1 : List (S36)) (a2 : Int) (l3 : List (S31)) : Option (List Int) := mainsheetref19_Idle.l0 k l0 l1 a2 l3 ([] : List Int) 0
set_option maxHeartbeats 8000000 in
set_option maxRecDepth 100000 in
theorem mainsheetref19_Idle.calls (k : Nat) (A0 : Option Addr) (c0 : Nat) (l0 : List (S90)) (A1 : Option Addr) (c1 : Nat) (l1 : List (S36)) (a2 : Int) (A3 : Option Addr) (c3 : Nat) (l3 : List (S31)) (r : List Int) (w : World) (hr0 : Kd.C k90 w A0 l0.length l0) (hc0 : l0.length ≤ c0) (hr1 : Kd.C k36 w A1 l1.length l1) (hc1 : l1.length ≤ c1) (hr3 : Kd.C k31 w A3 l3.length l3) (hc3 : l3.length ≤ c3) (h : mainsheetref19_Idle.f k l0 l1 a2 l3 = some r) :
  Calls Tryd.prog 34 #[.slice A0 l0.length c0, .slice A1 l1.length c1, .int .u32 a2, .slice A3 l3.length c3] w fun e w' => ∃ v0_ : Value, e = .returned (v0_) ∧ Kd.R (Kd.int .i64) 3 w' w.heap.size (fun _ => True) v0_ r ∧ Below w.heap.size w w' := by
 have HR0 := Aside0.mk hr0
 have HC0 := Aside0.mk hc0
 clear hr0 hc0
 have HR1 := Aside0.mk hr1
 have HC1 := Aside0.mk hc1
 clear hr1 hc1
 have HR3 := Aside0.mk hr3
 have HC3 := Aside0.mk hc3
 clear hr3 hc3
 have HB := Aside0.mk (Below.refl w.heap.size w)
 have H : (mainsheetref19_Idle.l0 k l0 l1 a2 l3 ([] : List Int) 0) = some r := h
 clear h
 have H' := Aside0.mk H
 clear H
 go_enter Tryd.func34, Tryd.ntmps34
 go_wp2
 go_loopg [9, 10] k (fun kq v9 v10 w' => ∃ (x9_1 : List Int) (x10_1 : Int), v10 = .int .i64 x10_1 ∧ Aside0 (mainsheetref19_Idle.l0 kq l0 l1 a2 l3 x9_1 x10_1 = some r) ∧ Aside0 (kq ≤ k) ∧ Aside0 (Kd.R (Kd.int .i64) 3 w' w.heap.size (fun _ => True) v9 x9_1) ∧ Aside0 (Below w.heap.size w w'))
 case atStart => exact ⟨(([] : List Int)), (0), (by first | rfl | (simp; done) | (simp [*]; done)), H', ⟨Nat.le_refl _⟩, ⟨by first | exact Kd.R_nil _ _ _ _ _ | exact Kd.N_nil _ _ _ _ _ | exact Kd.V_nil _ _ _ _ _ | exact Kd.Q_nil _ _ _ _ _ | exact Kd.S_nil _ _ _ _ _⟩, ⟨by repeat (first | (with_reducible first | exact HB.out | apply below_alloc | apply pw_below_drewN | apply below_drew1) | exact HB.out)⟩⟩
 case round =>
  clear H'
  try clear c1
  try clear p2
  try clear c3
  obtain ⟨x9_1, x10_1, rfl, HA, HK1, HO_9, HB⟩ := hrel
  cases gk with
  | zero => exact absurd HA.out (by simp [mainsheetref19_Idle.l0])
  | succ k1 =>
   have H := HA.out
   clear HA
   simp only [mainsheetref19_Idle.l0] at H
   by_cases c5 : x10_1 < 8
   ·rw [if_pos c5] at H
    have c5b0 : decide (x10_1 < 8) = true := decide_eq_true c5
    clear c5
    replace H := Option.bind_eq_some_iff.mp H
    obtain ⟨⟨t426, t427⟩, A60, H⟩ := H
    replace H : (if t427 = true then (mainsheetref19_Idle.l0 k1 l0 l1 a2 l3 x9_1 (wrap64 (x10_1 + 1))) else (mainsheetref19_Idle.l1 k1 l0 l1 a2 l3 x9_1 x10_1 false 0)) = some r := H
    have A6 := Aside0.mk A60
    clear A60
    by_cases c7 : t427 = true
    ·subst c7
     have H1 : (mainsheetref19_Idle.l0 k1 l0 l1 a2 l3 x9_1 (wrap64 (x10_1 + 1))) = some r := by rw [if_pos rfl] at H; exact H
     clear H
     have H := H1
     clear H1
     have H' := Aside0.mk H
     clear H
     go_wp2_with (first | ((with_reducible refine gate_callee (f := 29) rfl ?_); refine goesL_ (some 25) rfl rfl Tryd.func29 (by kernel_rfl) rfl #[.slice A3 l3.length c3, .int .i64 x10_1] rfl (by (try simp only [List.map_toArray, List.map_cons, List.map_nil]); first | done | rfl | (simp only [List.length_drop, List.length_take]; rfl)) ?_; (with_reducible refine (mainsheetref19_At.calls k1 _ _ l3 x10_1 t426 true _ ?side1 ?side2 A6.out).mono ?_); (case side1 => repeat (first | exact (Kd.C_below HR3.out HB.out) | (with_reducible refine Kd.C_alloc ?_ _) | (with_reducible refine Kd.C_drewN ?_ _) | (with_reducible refine Kd.C_drew ?_))); (case side2 => exact HC3.out); rintro e w' ⟨rfl, ⟨nd, rfl⟩⟩; refine ⟨_, rfl, ?_⟩))
     go_roundg k1
     case measure => have := HK1.out; omega
     case rel => exact ⟨(x9_1), (wrap64 (x10_1 + 1)), (by first | rfl | (simp; done) | (simp [*]; done)), H', ⟨by have := HK1.out; omega⟩, ⟨by (with_reducible repeat (first | apply Kd.R_alloc | apply Kd.R_drewN | apply Kd.R_drew)); exact HO_9.out⟩, ⟨by repeat (first | (with_reducible first | exact HB.out | apply below_alloc | apply pw_below_drewN | apply below_drew1) | exact HB.out)⟩⟩
    ·replace c7 := Bool.eq_false_iff.mpr c7
     subst c7
     have H1 : (mainsheetref19_Idle.l1 k1 l0 l1 a2 l3 x9_1 x10_1 false 0) = some r := by rw [if_neg (show ¬ (false = true) by decide)] at H; exact H
     clear H
     have H := H1
     clear H1
     have H' := Aside0.mk H
     clear H
     go_wp2_with (first | ((with_reducible refine gate_callee (f := 29) rfl ?_); refine goesL_ (some 25) rfl rfl Tryd.func29 (by kernel_rfl) rfl #[.slice A3 l3.length c3, .int .i64 x10_1] rfl (by (try simp only [List.map_toArray, List.map_cons, List.map_nil]); first | done | rfl | (simp only [List.length_drop, List.length_take]; rfl)) ?_; (with_reducible refine (mainsheetref19_At.calls k1 _ _ l3 x10_1 t426 false _ ?side1 ?side2 A6.out).mono ?_); (case side1 => repeat (first | exact (Kd.C_below HR3.out HB.out) | (with_reducible refine Kd.C_alloc ?_ _) | (with_reducible refine Kd.C_drewN ?_ _) | (with_reducible refine Kd.C_drew ?_))); (case side2 => exact HC3.out); rintro e w' ⟨rfl, ⟨nd, rfl⟩⟩; refine ⟨_, rfl, ?_⟩))
     go_loopg [13, 14] k1 (fun kq v13 v14 w' => ∃ (x13_2 : Bool) (x14_2 : Int), v13 = .bool x13_2 ∧ v14 = .int .i64 x14_2 ∧ Aside0 (mainsheetref19_Idle.l1 kq l0 l1 a2 l3 x9_1 x10_1 x13_2 x14_2 = some r) ∧ Aside0 (kq ≤ k1) ∧ Aside0 (Kd.R (Kd.int .i64) 3 w' w.heap.size (fun _ => True) u9 x9_1) ∧ Aside0 (Below w.heap.size w w'))
     case atStart => exact ⟨(false), (0), (by first | rfl | (simp; done) | (simp [*]; done)), (by first | rfl | (simp; done) | (simp [*]; done)), H', ⟨Nat.le_refl _⟩, ⟨by (with_reducible repeat (first | apply Kd.R_alloc | apply Kd.R_drewN | apply Kd.R_drew)); exact HO_9.out⟩, ⟨by repeat (first | (with_reducible first | exact HB.out | apply below_alloc | apply pw_below_drewN | apply below_drew1) | exact HB.out)⟩⟩
     case round =>
      clear H'
      try clear c1
      try clear c2
      try clear p2
      try clear c3
      try clear c5
      try clear c5b0
      try clear p6
      try clear c7
      try clear p2
      obtain ⟨x13_2, x14_2, rfl, rfl, HA, HK2, HO_9, HB⟩ := hrel
      cases gk with
      | zero => exact absurd HA.out (by simp [mainsheetref19_Idle.l1])
      | succ k2 =>
       have H := HA.out
       clear HA
       simp only [mainsheetref19_Idle.l1] at H
       by_cases c8 : x14_2 < (l0.length : Int)
       ·rw [if_pos c8] at H
        have c8b0 : decide (x14_2 < (l0.length : Int)) = true := decide_eq_true c8
        clear c8
        by_cases c9 : 0 ≤ x14_2
        ·rw [if_pos c9] at H
         have c9b0 : decide (0 ≤ x14_2) = true := decide_eq_true c9
         clear c9
         by_cases c10 : (((rd_T90 l0 x14_2).f0).length : Int) > 1
         ·rw [if_pos c10] at H
          have c10b0 : decide (1 < (((rd_T90 l0 x14_2).f0).length : Int)) = true := decide_eq_true c10
          have c10b1 : decide (1 < ((rd_T90 l0 x14_2).f0).length) = true := decide_eq_true (by omega)
          clear c10
          have H' := Aside0.mk H
          clear H
          have p431 : 0 ≤ (x14_2 : Int) := of_decide_eq_true (by first | (with_reducible assumption) | assumption)
          have q431 : x14_2 < (l0.length : Int) := of_decide_eq_true (by first | (with_reducible assumption) | assumption)
          obtain ⟨ad431, A431_0, c431_0, e431, hx431_0, hx431_1, hx431_2, hx431_3, hx431_4, hx431_5, hl431_0, hi431_0⟩ := at_T90 HR0.out x14_2 p431 q431
          cases e431
          replace hx431_0 := (HB.out.cell (World.block_lt_of_cell? w _ hx431_0)).trans hx431_0
          replace hx431_1 := (HB.out.cell (World.block_lt_of_cell? w _ hx431_1)).trans hx431_1
          replace hx431_2 := (HB.out.cell (World.block_lt_of_cell? w _ hx431_2)).trans hx431_2
          replace hx431_3 := (HB.out.cell (World.block_lt_of_cell? w _ hx431_3)).trans hx431_3
          replace hx431_4 := (HB.out.cell (World.block_lt_of_cell? w _ hx431_4)).trans hx431_4
          replace hx431_5 := (HB.out.cell (World.block_lt_of_cell? w _ hx431_5)).trans hx431_5
          have HR431_0 := Aside0.mk hi431_0
          have HC431_0 := Aside0.mk hl431_0
          clear hi431_0 hl431_0
          replace p431 := eq_true p431
          replace q431 := eq_true q431
          go_wp2
          go_roundg k2
          case measure => have := HK1.out; have := HK2.out; omega
          case rel => exact ⟨(x13_2), (wrap64 (x14_2 + 1)), (by first | rfl | (simp; done) | (simp [*]; done)), (by first | rfl | (simp; done) | (simp [*]; done)), H', ⟨by have := HK1.out; have := HK2.out; omega⟩, ⟨by (with_reducible repeat (first | apply Kd.R_alloc | apply Kd.R_drewN | apply Kd.R_drew)); exact HO_9.out⟩, ⟨by repeat (first | (with_reducible first | exact HB.out | apply below_alloc | apply pw_below_drewN | apply below_drew1) | exact HB.out)⟩⟩
         ·rw [if_neg c10] at H
          have c10b0 : decide (1 < (((rd_T90 l0 x14_2).f0).length : Int)) = false := decide_eq_false c10
          have c10b1 : decide (1 < ((rd_T90 l0 x14_2).f0).length) = false := decide_eq_false (by omega)
          clear c10
          by_cases c11 : 0 < (((rd_T90 l0 x14_2).f0).length : Int)
          ·rw [if_pos c11] at H
           have c11b0 : decide (0 < (((rd_T90 l0 x14_2).f0).length : Int)) = true := decide_eq_true c11
           have c11b1 : decide (0 < ((rd_T90 l0 x14_2).f0).length) = true := decide_eq_true (by omega)
           clear c11
           replace H := Option.bind_eq_some_iff.mp H
           obtain ⟨⟨t434, t435⟩, A120, H⟩ := H
           replace H : (if t435 = true then (mainsheetref19_Idle.l1 k2 l0 l1 a2 l3 x9_1 x10_1 x13_2 (wrap64 (x14_2 + 1))) else ((mainsheetref19_Wish.f k2 l1 (rd ((rd_T90 l0 x14_2).f0) 0)).bind fun bt436 => ((mainsheetref07_Allows.f bt436.2.2.1 bt436.2.2.2 a2).bind fun t440 => ((mainsheetref04_Has.f t440 x10_1).bind fun t441 => (if t441 = true then (mainsheetref19_Idle.l1 k2 l0 l1 a2 l3 x9_1 x10_1 true (wrap64 (x14_2 + 1))) else (mainsheetref19_Idle.l1 k2 l0 l1 a2 l3 x9_1 x10_1 x13_2 (wrap64 (x14_2 + 1)))))))) = some r := H
           have A12 := Aside0.mk A120
           clear A120
           by_cases c13 : t435 = true
           ·subst c13
            have H1 : (mainsheetref19_Idle.l1 k2 l0 l1 a2 l3 x9_1 x10_1 x13_2 (wrap64 (x14_2 + 1))) = some r := by rw [if_pos rfl] at H; exact H
            clear H
            have H := H1
            clear H1
            have H' := Aside0.mk H
            clear H
            have p431 : 0 ≤ (x14_2 : Int) := of_decide_eq_true (by first | (with_reducible assumption) | assumption)
            have q431 : x14_2 < (l0.length : Int) := of_decide_eq_true (by first | (with_reducible assumption) | assumption)
            obtain ⟨ad431, A431_0, c431_0, e431, hx431_0, hx431_1, hx431_2, hx431_3, hx431_4, hx431_5, hl431_0, hi431_0⟩ := at_T90 HR0.out x14_2 p431 q431
            cases e431
            replace hx431_0 := (HB.out.cell (World.block_lt_of_cell? w _ hx431_0)).trans hx431_0
            replace hx431_1 := (HB.out.cell (World.block_lt_of_cell? w _ hx431_1)).trans hx431_1
            replace hx431_2 := (HB.out.cell (World.block_lt_of_cell? w _ hx431_2)).trans hx431_2
            replace hx431_3 := (HB.out.cell (World.block_lt_of_cell? w _ hx431_3)).trans hx431_3
            replace hx431_4 := (HB.out.cell (World.block_lt_of_cell? w _ hx431_4)).trans hx431_4
            replace hx431_5 := (HB.out.cell (World.block_lt_of_cell? w _ hx431_5)).trans hx431_5
            have HR431_0 := Aside0.mk hi431_0
            have HC431_0 := Aside0.mk hl431_0
            clear hi431_0 hl431_0
            replace p431 := eq_true p431
            replace q431 := eq_true q431
            have p432 : 0 ≤ (x14_2 : Int) := of_decide_eq_true (by first | (with_reducible assumption) | assumption)
            have q432 : x14_2 < (l0.length : Int) := of_decide_eq_true (by first | (with_reducible assumption) | assumption)
            obtain ⟨ad432, A432_0, c432_0, e432, hx432_0, hx432_1, hx432_2, hx432_3, hx432_4, hx432_5, hl432_0, hi432_0⟩ := at_T90 HR0.out x14_2 p432 q432
            obtain rfl : ad431 = ad432 := (by injection e432)
            replace hx432_0 := (HB.out.cell (World.block_lt_of_cell? w _ hx432_0)).trans hx432_0
            replace hx432_1 := (HB.out.cell (World.block_lt_of_cell? w _ hx432_1)).trans hx432_1
            replace hx432_2 := (HB.out.cell (World.block_lt_of_cell? w _ hx432_2)).trans hx432_2
            replace hx432_3 := (HB.out.cell (World.block_lt_of_cell? w _ hx432_3)).trans hx432_3
            replace hx432_4 := (HB.out.cell (World.block_lt_of_cell? w _ hx432_4)).trans hx432_4
            replace hx432_5 := (HB.out.cell (World.block_lt_of_cell? w _ hx432_5)).trans hx432_5
            have HR432_0 := Aside0.mk hi432_0
            have HC432_0 := Aside0.mk hl432_0
            clear hi432_0 hl432_0
            replace p432 := eq_true p432
            replace q432 := eq_true q432
            have ea_ := Option.some.inj (hx431_0.symm.trans hx432_0)
            injection ea_ with ea_ en_ ec_
            subst ea_
            subst ec_
            clear en_
            have p433 : 0 ≤ (0 : Int) := (by omega)
            have q433 : 0 < (((rd_T90 l0 x14_2).f0).length : Int) := of_decide_eq_true (by first | (with_reducible assumption) | assumption)
            obtain ⟨ad433, e433, hx433_0⟩ := Kd.at_int HR432_0.out 0 p433 q433
            cases e433
            have qi433 : (0 < ((rd_T90 l0 x14_2).f0).length) = True := eq_true (by omega)
            (try rw [show ((0 : Int)).toNat = 0 from rfl] at hx433_0)
            (try rw [Addr.add_zero'] at hx433_0)
            replace hx433_0 := (HB.out.cell (World.block_lt_of_cell? w _ hx433_0)).trans hx433_0
            replace p433 := eq_true p433
            replace q433 := eq_true q433
            go_wp2_with (first | ((with_reducible refine gate_callee (f := 28) rfl ?_); refine goesL_ (some 52) rfl rfl Tryd.func28 (by kernel_rfl) rfl #[.slice A3 l3.length c3, .int .i64 (rd ((rd_T90 l0 x14_2).f0) 0)] rfl (by (try simp only [List.map_toArray, List.map_cons, List.map_nil]); first | done | rfl | (simp only [List.length_drop, List.length_take]; rfl)) ?_; (with_reducible refine (mainsheetref19_On.calls k2 _ _ l3 (rd ((rd_T90 l0 x14_2).f0) 0) t434 true _ ?side1 ?side2 A12.out).mono ?_); (case side1 => repeat (first | exact (Kd.C_below HR3.out HB.out) | (with_reducible refine Kd.C_alloc ?_ _) | (with_reducible refine Kd.C_drewN ?_ _) | (with_reducible refine Kd.C_drew ?_))); (case side2 => exact HC3.out); rintro e w' ⟨rfl, ⟨nd, rfl⟩⟩; refine ⟨_, rfl, ?_⟩))
            go_roundg k2
            case measure => have := HK1.out; have := HK2.out; omega
            case rel => exact ⟨(x13_2), (wrap64 (x14_2 + 1)), (by first | rfl | (simp; done) | (simp [*]; done)), (by first | rfl | (simp; done) | (simp [*]; done)), H', ⟨by have := HK1.out; have := HK2.out; omega⟩, ⟨by (with_reducible repeat (first | apply Kd.R_alloc | apply Kd.R_drewN | apply Kd.R_drew)); exact HO_9.out⟩, ⟨by repeat (first | (with_reducible first | exact HB.out | apply below_alloc | apply pw_below_drewN | apply below_drew1) | exact HB.out)⟩⟩
           ·replace c13 := Bool.eq_false_iff.mpr c13
            subst c13
            have H1 : ((mainsheetref19_Wish.f k2 l1 (rd ((rd_T90 l0 x14_2).f0) 0)).bind fun bt436 => ((mainsheetref07_Allows.f bt436.2.2.1 bt436.2.2.2 a2).bind fun t440 => ((mainsheetref04_Has.f t440 x10_1).bind fun t441 => (if t441 = true then (mainsheetref19_Idle.l1 k2 l0 l1 a2 l3 x9_1 x10_1 true (wrap64 (x14_2 + 1))) else (mainsheetref19_Idle.l1 k2 l0 l1 a2 l3 x9_1 x10_1 x13_2 (wrap64 (x14_2 + 1))))))) = some r := by rw [if_neg (show ¬ (false = true) by decide)] at H; exact H
            clear H
            have H := H1
            clear H1
            replace H := Option.bind_eq_some_iff.mp H
            obtain ⟨⟨t436, t437, t438, t439⟩, A140, H⟩ := H
            replace H : ((mainsheetref07_Allows.f t438 t439 a2).bind fun t440 => ((mainsheetref04_Has.f t440 x10_1).bind fun t441 => (if t441 = true then (mainsheetref19_Idle.l1 k2 l0 l1 a2 l3 x9_1 x10_1 true (wrap64 (x14_2 + 1))) else (mainsheetref19_Idle.l1 k2 l0 l1 a2 l3 x9_1 x10_1 x13_2 (wrap64 (x14_2 + 1)))))) = some r := H
            have A14 := Aside0.mk A140
            clear A140
            replace H := Option.bind_eq_some_iff.mp H
            obtain ⟨t440, A150, H⟩ := H
            replace H : ((mainsheetref04_Has.f t440 x10_1).bind fun t441 => (if t441 = true then (mainsheetref19_Idle.l1 k2 l0 l1 a2 l3 x9_1 x10_1 true (wrap64 (x14_2 + 1))) else (mainsheetref19_Idle.l1 k2 l0 l1 a2 l3 x9_1 x10_1 x13_2 (wrap64 (x14_2 + 1))))) = some r := H
            have A15 := Aside0.mk A150
            clear A150
            replace H := Option.bind_eq_some_iff.mp H
            obtain ⟨t441, A160, H⟩ := H
            replace H : (if t441 = true then (mainsheetref19_Idle.l1 k2 l0 l1 a2 l3 x9_1 x10_1 true (wrap64 (x14_2 + 1))) else (mainsheetref19_Idle.l1 k2 l0 l1 a2 l3 x9_1 x10_1 x13_2 (wrap64 (x14_2 + 1)))) = some r := H
            have A16 := Aside0.mk A160
            clear A160
            by_cases c17 : t441 = true
            ·subst c17
             have H1 : (mainsheetref19_Idle.l1 k2 l0 l1 a2 l3 x9_1 x10_1 true (wrap64 (x14_2 + 1))) = some r := by rw [if_pos rfl] at H; exact H
             clear H
             have H := H1
             clear H1
             have H' := Aside0.mk H
             clear H
             have p431 : 0 ≤ (x14_2 : Int) := of_decide_eq_true (by first | (with_reducible assumption) | assumption)
             have q431 : x14_2 < (l0.length : Int) := of_decide_eq_true (by first | (with_reducible assumption) | assumption)
             obtain ⟨ad431, A431_0, c431_0, e431, hx431_0, hx431_1, hx431_2, hx431_3, hx431_4, hx431_5, hl431_0, hi431_0⟩ := at_T90 HR0.out x14_2 p431 q431
             cases e431
             replace hx431_0 := (HB.out.cell (World.block_lt_of_cell? w _ hx431_0)).trans hx431_0
             replace hx431_1 := (HB.out.cell (World.block_lt_of_cell? w _ hx431_1)).trans hx431_1
             replace hx431_2 := (HB.out.cell (World.block_lt_of_cell? w _ hx431_2)).trans hx431_2
             replace hx431_3 := (HB.out.cell (World.block_lt_of_cell? w _ hx431_3)).trans hx431_3
             replace hx431_4 := (HB.out.cell (World.block_lt_of_cell? w _ hx431_4)).trans hx431_4
             replace hx431_5 := (HB.out.cell (World.block_lt_of_cell? w _ hx431_5)).trans hx431_5
             have HR431_0 := Aside0.mk hi431_0
             have HC431_0 := Aside0.mk hl431_0
             clear hi431_0 hl431_0
             replace p431 := eq_true p431
             replace q431 := eq_true q431
             have p432 : 0 ≤ (x14_2 : Int) := of_decide_eq_true (by first | (with_reducible assumption) | assumption)
             have q432 : x14_2 < (l0.length : Int) := of_decide_eq_true (by first | (with_reducible assumption) | assumption)
             obtain ⟨ad432, A432_0, c432_0, e432, hx432_0, hx432_1, hx432_2, hx432_3, hx432_4, hx432_5, hl432_0, hi432_0⟩ := at_T90 HR0.out x14_2 p432 q432
             obtain rfl : ad431 = ad432 := (by injection e432)
             replace hx432_0 := (HB.out.cell (World.block_lt_of_cell? w _ hx432_0)).trans hx432_0
             replace hx432_1 := (HB.out.cell (World.block_lt_of_cell? w _ hx432_1)).trans hx432_1
             replace hx432_2 := (HB.out.cell (World.block_lt_of_cell? w _ hx432_2)).trans hx432_2
             replace hx432_3 := (HB.out.cell (World.block_lt_of_cell? w _ hx432_3)).trans hx432_3
             replace hx432_4 := (HB.out.cell (World.block_lt_of_cell? w _ hx432_4)).trans hx432_4
             replace hx432_5 := (HB.out.cell (World.block_lt_of_cell? w _ hx432_5)).trans hx432_5
             have HR432_0 := Aside0.mk hi432_0
             have HC432_0 := Aside0.mk hl432_0
             clear hi432_0 hl432_0
             replace p432 := eq_true p432
             replace q432 := eq_true q432
             have ea_ := Option.some.inj (hx431_0.symm.trans hx432_0)
             injection ea_ with ea_ en_ ec_
             subst ea_
             subst ec_
             clear en_
             have p433 : 0 ≤ (0 : Int) := (by omega)
             have q433 : 0 < (((rd_T90 l0 x14_2).f0).length : Int) := of_decide_eq_true (by first | (with_reducible assumption) | assumption)
             obtain ⟨ad433, e433, hx433_0⟩ := Kd.at_int HR432_0.out 0 p433 q433
             cases e433
             have qi433 : (0 < ((rd_T90 l0 x14_2).f0).length) = True := eq_true (by omega)
             (try rw [show ((0 : Int)).toNat = 0 from rfl] at hx433_0)
             (try rw [Addr.add_zero'] at hx433_0)
             replace hx433_0 := (HB.out.cell (World.block_lt_of_cell? w _ hx433_0)).trans hx433_0
             replace p433 := eq_true p433
             replace q433 := eq_true q433
             go_wp2_with (first | ((with_reducible refine gate_callee (f := 28) rfl ?_); refine goesL_ (some 52) rfl rfl Tryd.func28 (by kernel_rfl) rfl #[.slice A3 l3.length c3, .int .i64 (rd ((rd_T90 l0 x14_2).f0) 0)] rfl (by (try simp only [List.map_toArray, List.map_cons, List.map_nil]); first | done | rfl | (simp only [List.length_drop, List.length_take]; rfl)) ?_; (with_reducible refine (mainsheetref19_On.calls k2 _ _ l3 (rd ((rd_T90 l0 x14_2).f0) 0) t434 false _ ?side1 ?side2 A12.out).mono ?_); (case side1 => repeat (first | exact (Kd.C_below HR3.out HB.out) | (with_reducible refine Kd.C_alloc ?_ _) | (with_reducible refine Kd.C_drewN ?_ _) | (with_reducible refine Kd.C_drew ?_))); (case side2 => exact HC3.out); rintro e w' ⟨rfl, ⟨nd, rfl⟩⟩; refine ⟨_, rfl, ?_⟩) | (go_at_call 78; (with_reducible refine (mainsheetref19_Wish.calls k2 _ _ l1 (rd ((rd_T90 l0 x14_2).f0) 0) t436 t437 t438 t439 _ ?side1 ?side2 A14.out).mono ?_); (case side1 => repeat (first | exact (Kd.C_below HR1.out (by repeat (first | (with_reducible first | exact HB.out | apply below_alloc | apply pw_below_drewN | apply below_drew1) | exact HB.out))) | (with_reducible refine Kd.C_alloc ?_ _) | (with_reducible refine Kd.C_drewN ?_ _) | (with_reducible refine Kd.C_drew ?_))); (case side2 => exact HC1.out); rintro e w18 ⟨rfl, hb⟩; have n0_ := Aside0.mk (Kd.R_below (by (with_reducible repeat (first | apply Kd.R_alloc | apply Kd.R_drewN | apply Kd.R_drew)); exact HO_9.out) hb); have n1_ := Aside0.mk (below_step (by repeat (first | (with_reducible first | exact HB.out | apply below_alloc | apply pw_below_drewN | apply below_drew1) | exact HB.out)) hb); clear HO_9; clear HB; have HO_9 := n0_; have HB := n1_; clear n0_ n1_; (try clear hb); (try clear hb2); (try clear hk); (try clear hi)) | (go_at_call 77; (with_reducible refine (mainsheetref07_Allows.calls t438 t439 a2 t440 _ A15.out).mono ?_); rintro e w19 ⟨rfl, hb⟩; have n0_ := Aside0.mk (Kd.R_below (by (with_reducible repeat (first | apply Kd.R_alloc | apply Kd.R_drewN | apply Kd.R_drew)); exact HO_9.out) hb); have n1_ := Aside0.mk (below_step (by repeat (first | (with_reducible first | exact HB.out | apply below_alloc | apply pw_below_drewN | apply below_drew1) | exact HB.out)) hb); clear HO_9; clear HB; have HO_9 := n0_; have HB := n1_; clear n0_ n1_; (try clear hb); (try clear hb2); (try clear hk); (try clear hi)) | (go_at_call 76; (with_reducible refine (mainsheetref04_Has.calls t440 x10_1 true _ A16.out).mono ?_); rintro e w' ⟨rfl, ⟨nd, rfl⟩⟩))
             go_roundg k2
             case measure => have := HK1.out; have := HK2.out; omega
             case rel => exact ⟨(true), (wrap64 (x14_2 + 1)), (by first | rfl | (simp; done) | (simp [*]; done)), (by first | rfl | (simp; done) | (simp [*]; done)), H', ⟨by have := HK1.out; have := HK2.out; omega⟩, ⟨by (with_reducible repeat (first | apply Kd.R_alloc | apply Kd.R_drewN | apply Kd.R_drew)); exact HO_9.out⟩, ⟨by repeat (first | (with_reducible first | exact HB.out | apply below_alloc | apply pw_below_drewN | apply below_drew1) | exact HB.out)⟩⟩
            ·replace c17 := Bool.eq_false_iff.mpr c17
             subst c17
             have H1 : (mainsheetref19_Idle.l1 k2 l0 l1 a2 l3 x9_1 x10_1 x13_2 (wrap64 (x14_2 + 1))) = some r := by rw [if_neg (show ¬ (false = true) by decide)] at H; exact H
             clear H
             have H := H1
             clear H1
             have H' := Aside0.mk H
             clear H
             have p431 : 0 ≤ (x14_2 : Int) := of_decide_eq_true (by first | (with_reducible assumption) | assumption)
             have q431 : x14_2 < (l0.length : Int) := of_decide_eq_true (by first | (with_reducible assumption) | assumption)
             obtain ⟨ad431, A431_0, c431_0, e431, hx431_0, hx431_1, hx431_2, hx431_3, hx431_4, hx431_5, hl431_0, hi431_0⟩ := at_T90 HR0.out x14_2 p431 q431
             cases e431
             replace hx431_0 := (HB.out.cell (World.block_lt_of_cell? w _ hx431_0)).trans hx431_0
             replace hx431_1 := (HB.out.cell (World.block_lt_of_cell? w _ hx431_1)).trans hx431_1
             replace hx431_2 := (HB.out.cell (World.block_lt_of_cell? w _ hx431_2)).trans hx431_2
             replace hx431_3 := (HB.out.cell (World.block_lt_of_cell? w _ hx431_3)).trans hx431_3
             replace hx431_4 := (HB.out.cell (World.block_lt_of_cell? w _ hx431_4)).trans hx431_4
             replace hx431_5 := (HB.out.cell (World.block_lt_of_cell? w _ hx431_5)).trans hx431_5
             have HR431_0 := Aside0.mk hi431_0
             have HC431_0 := Aside0.mk hl431_0
             clear hi431_0 hl431_0
             replace p431 := eq_true p431
             replace q431 := eq_true q431
             have p432 : 0 ≤ (x14_2 : Int) := of_decide_eq_true (by first | (with_reducible assumption) | assumption)
             have q432 : x14_2 < (l0.length : Int) := of_decide_eq_true (by first | (with_reducible assumption) | assumption)
             obtain ⟨ad432, A432_0, c432_0, e432, hx432_0, hx432_1, hx432_2, hx432_3, hx432_4, hx432_5, hl432_0, hi432_0⟩ := at_T90 HR0.out x14_2 p432 q432
             obtain rfl : ad431 = ad432 := (by injection e432)
             replace hx432_0 := (HB.out.cell (World.block_lt_of_cell? w _ hx432_0)).trans hx432_0
             replace hx432_1 := (HB.out.cell (World.block_lt_of_cell? w _ hx432_1)).trans hx432_1
             replace hx432_2 := (HB.out.cell (World.block_lt_of_cell? w _ hx432_2)).trans hx432_2
             replace hx432_3 := (HB.out.cell (World.block_lt_of_cell? w _ hx432_3)).trans hx432_3
             replace hx432_4 := (HB.out.cell (World.block_lt_of_cell? w _ hx432_4)).trans hx432_4
             replace hx432_5 := (HB.out.cell (World.block_lt_of_cell? w _ hx432_5)).trans hx432_5
             have HR432_0 := Aside0.mk hi432_0
             have HC432_0 := Aside0.mk hl432_0
             clear hi432_0 hl432_0
             replace p432 := eq_true p432
             replace q432 := eq_true q432
             have ea_ := Option.some.inj (hx431_0.symm.trans hx432_0)
             injection ea_ with ea_ en_ ec_
             subst ea_
             subst ec_
             clear en_
             have p433 : 0 ≤ (0 : Int) := (by omega)
             have q433 : 0 < (((rd_T90 l0 x14_2).f0).length : Int) := of_decide_eq_true (by first | (with_reducible assumption) | assumption)
             obtain ⟨ad433, e433, hx433_0⟩ := Kd.at_int HR432_0.out 0 p433 q433
             cases e433
             have qi433 : (0 < ((rd_T90 l0 x14_2).f0).length) = True := eq_true (by omega)
             (try rw [show ((0 : Int)).toNat = 0 from rfl] at hx433_0)
             (try rw [Addr.add_zero'] at hx433_0)
             replace hx433_0 := (HB.out.cell (World.block_lt_of_cell? w _ hx433_0)).trans hx433_0
             replace p433 := eq_true p433
             replace q433 := eq_true q433
             go_wp2_with (first | ((with_reducible refine gate_callee (f := 28) rfl ?_); refine goesL_ (some 52) rfl rfl Tryd.func28 (by kernel_rfl) rfl #[.slice A3 l3.length c3, .int .i64 (rd ((rd_T90 l0 x14_2).f0) 0)] rfl (by (try simp only [List.map_toArray, List.map_cons, List.map_nil]); first | done | rfl | (simp only [List.length_drop, List.length_take]; rfl)) ?_; (with_reducible refine (mainsheetref19_On.calls k2 _ _ l3 (rd ((rd_T90 l0 x14_2).f0) 0) t434 false _ ?side1 ?side2 A12.out).mono ?_); (case side1 => repeat (first | exact (Kd.C_below HR3.out HB.out) | (with_reducible refine Kd.C_alloc ?_ _) | (with_reducible refine Kd.C_drewN ?_ _) | (with_reducible refine Kd.C_drew ?_))); (case side2 => exact HC3.out); rintro e w' ⟨rfl, ⟨nd, rfl⟩⟩; refine ⟨_, rfl, ?_⟩) | (go_at_call 78; (with_reducible refine (mainsheetref19_Wish.calls k2 _ _ l1 (rd ((rd_T90 l0 x14_2).f0) 0) t436 t437 t438 t439 _ ?side1 ?side2 A14.out).mono ?_); (case side1 => repeat (first | exact (Kd.C_below HR1.out (by repeat (first | (with_reducible first | exact HB.out | apply below_alloc | apply pw_below_drewN | apply below_drew1) | exact HB.out))) | (with_reducible refine Kd.C_alloc ?_ _) | (with_reducible refine Kd.C_drewN ?_ _) | (with_reducible refine Kd.C_drew ?_))); (case side2 => exact HC1.out); rintro e w20 ⟨rfl, hb⟩; have n0_ := Aside0.mk (Kd.R_below (by (with_reducible repeat (first | apply Kd.R_alloc | apply Kd.R_drewN | apply Kd.R_drew)); exact HO_9.out) hb); have n1_ := Aside0.mk (below_step (by repeat (first | (with_reducible first | exact HB.out | apply below_alloc | apply pw_below_drewN | apply below_drew1) | exact HB.out)) hb); clear HO_9; clear HB; have HO_9 := n0_; have HB := n1_; clear n0_ n1_; (try clear hb); (try clear hb2); (try clear hk); (try clear hi)) | (go_at_call 77; (with_reducible refine (mainsheetref07_Allows.calls t438 t439 a2 t440 _ A15.out).mono ?_); rintro e w21 ⟨rfl, hb⟩; have n0_ := Aside0.mk (Kd.R_below (by (with_reducible repeat (first | apply Kd.R_alloc | apply Kd.R_drewN | apply Kd.R_drew)); exact HO_9.out) hb); have n1_ := Aside0.mk (below_step (by repeat (first | (with_reducible first | exact HB.out | apply below_alloc | apply pw_below_drewN | apply below_drew1) | exact HB.out)) hb); clear HO_9; clear HB; have HO_9 := n0_; have HB := n1_; clear n0_ n1_; (try clear hb); (try clear hb2); (try clear hk); (try clear hi)) | (go_at_call 76; (with_reducible refine (mainsheetref04_Has.calls t440 x10_1 false _ A16.out).mono ?_); rintro e w' ⟨rfl, ⟨nd, rfl⟩⟩))
             go_roundg k2
             case measure => have := HK1.out; have := HK2.out; omega
             case rel => exact ⟨(x13_2), (wrap64 (x14_2 + 1)), (by first | rfl | (simp; done) | (simp [*]; done)), (by first | rfl | (simp; done) | (simp [*]; done)), H', ⟨by have := HK1.out; have := HK2.out; omega⟩, ⟨by (with_reducible repeat (first | apply Kd.R_alloc | apply Kd.R_drewN | apply Kd.R_drew)); exact HO_9.out⟩, ⟨by repeat (first | (with_reducible first | exact HB.out | apply below_alloc | apply pw_below_drewN | apply below_drew1) | exact HB.out)⟩⟩
          ·rw [if_neg c11] at H
           exact absurd H (by simp)
        ·rw [if_neg c9] at H
         exact absurd H (by simp)
       ·rw [if_neg c8] at H
        have c8b0 : decide (x14_2 < (l0.length : Int)) = false := decide_eq_false c8
        clear c8
        by_cases c22 : x13_2 = true
        ·subst c22
         have H1 : (if x9_1.length < 17592186044416 then (mainsheetref19_Idle.l0 k2 l0 l1 a2 l3 (x9_1 ++ [x10_1]) (wrap64 (x10_1 + 1))) else (none)) = some r := by rw [if_pos rfl] at H; exact H
         clear H
         have H := H1
         clear H1
         by_cases c23 : x9_1.length < 17592186044416
         ·rw [if_pos c23] at H
          have LMc23 := Aside0.mk c23
          clear c23
          obtain ⟨y428, hy428⟩ : ∃ y_ : List Int, y_ = (x9_1 ++ [x10_1]) := ⟨_, rfl⟩
          replace H : (mainsheetref19_Idle.l0 k2 l0 l1 a2 l3 y428 (wrap64 (x10_1 + 1))) = some r := by first | (rw [hy428]; with_reducible exact H) | (have H2_ := (Option.bind_some _ _).symm.trans H; rw [hy428]; with_reducible exact H2_) | (have H2_ := (Option.bind_some _ _).symm.trans H; with_reducible exact H2_) | with_reducible exact H | (rw [hy428]; exact H) | exact H
          have Ny428 := Aside0.mk hy428
          clear hy428
          have H' := Aside0.mk H
          clear H
          go_wp2_with (first | ((with_reducible refine gate_builtin (b := .append) (xs := #[.tmp 68, .tmp 70]) rfl ?_); at_builtin; refine Kd.R_append (Kd.int .i64) (w0 := w) w.heap.size rfl (.tmp 68) (.tmp 70) 42 3 (.int .i64 0) 8 rfl Tryd.underlying42 info3 rfl (by decide) (by omega) u9 x9_1 x10_1 [.int .i64 x10_1] (fun _ => True) (fun _ => False) rfl rfl ?aP (fun _ hk => hk.elim) ?aF ?aO ?aB ?aS ?aL ?_; (case aP => exact rfl); (case aB => exact (by repeat (first | (with_reducible first | exact HB.out | apply below_alloc | apply pw_below_drewN | apply below_drew1) | exact HB.out))); (case aF => exact (fun _ _ => trivial)); (case aO => exact (by (with_reducible repeat (first | apply Kd.R_alloc | apply Kd.R_drewN | apply Kd.R_drew)); exact HO_9.out)); (case aS => exact (below_size (by repeat (first | (with_reducible first | exact HB.out | apply below_alloc | apply pw_below_drewN | apply below_drew1) | exact HB.out)))); (case aL => have := LMc23.out; omega); intro v429 w24 ho hb hg hat; rw [← Ny428.out] at ho; have n0_ := Aside0.mk (hb); have n1_ := Aside0.mk (ho); clear HB; clear HO_9; have HB := n0_; have HO430 := n1_; clear n0_ n1_; clear ho hb hg hat))
          go_roundg k2
          case measure => have := HK1.out; have := HK2.out; omega
          case rel => exact ⟨(y428), (wrap64 (x10_1 + 1)), (by first | rfl | (simp; done) | (simp [*]; done)), H', ⟨by have := HK1.out; have := HK2.out; omega⟩, ⟨by (with_reducible repeat (first | apply Kd.R_alloc | apply Kd.R_drewN | apply Kd.R_drew)); exact HO430.out⟩, ⟨by repeat (first | (with_reducible first | exact HB.out | apply below_alloc | apply pw_below_drewN | apply below_drew1) | exact HB.out)⟩⟩
         ·rw [if_neg c23] at H
          exact absurd H (by simp)
        ·replace c22 := Bool.eq_false_iff.mpr c22
         subst c22
         have H1 : (mainsheetref19_Idle.l0 k2 l0 l1 a2 l3 x9_1 (wrap64 (x10_1 + 1))) = some r := by rw [if_neg (show ¬ (false = true) by decide)] at H; exact H
         clear H
         have H := H1
         clear H1
         have H' := Aside0.mk H
         clear H
         go_wp2
         go_roundg k2
         case measure => have := HK1.out; have := HK2.out; omega
         case rel => exact ⟨(x9_1), (wrap64 (x10_1 + 1)), (by first | rfl | (simp; done) | (simp [*]; done)), H', ⟨by have := HK1.out; have := HK2.out; omega⟩, ⟨by (with_reducible repeat (first | apply Kd.R_alloc | apply Kd.R_drewN | apply Kd.R_drew)); exact HO_9.out⟩, ⟨by repeat (first | (with_reducible first | exact HB.out | apply below_alloc | apply pw_below_drewN | apply below_drew1) | exact HB.out)⟩⟩
   ·rw [if_neg c5] at H
    have c5b0 : decide (x10_1 < 8) = false := decide_eq_false c5
    clear c5
    obtain rfl := Option.some.inj H
    go_wp2
    go_ret
    exact ⟨_, by first | rfl | (simp [errW_none, errW_some] <;> rfl) | (simp [*, errW_none, errW_some] <;> rfl), by (with_reducible repeat (first | apply Kd.R_alloc | apply Kd.R_drewN | apply Kd.R_drew)); exact HO_9.out, by repeat (first | (with_reducible first | exact HB.out | apply below_alloc | apply pw_below_drewN | apply below_drew1) | exact HB.out)⟩

end Go.Proofs.YtdmieaidheelbaaDoor.Q
end
/- QFpickWhole -/
section
namespace Go.Proofs.YtdmieaidheelbaaDoor.Q
open Go.RowKit Go.Proofs.YtdmieaidheelbaaDoorW.PrintWords Go.Proofs.YtdmieaidheelbaaDoorW.PrintLast Go.Proofs.YtdmieaidheelbaaDoorW.PrintMore
attribute [local go_sem] max2_int min2_int max_two min_two max_three min_three max_four min_four
set_option linter.unusedVariables false
set_option linter.unusedSimpArgs false

mutual
def pick_Whole.l0 : Nat → List (S31) → List (S90) → Int → Int → Option (Bool)
 | 0, _, _, _, _ => none
 | k + 1, x1, x12, x13, x14 => if x14 < x13 then (if 0 ≤ x14 then (if x14 < (x12.length : Int) then (pick_Whole.l1 k x1 0 x12 x13 x14 ((rd_T90 x12 x14).f0) (((rd_T90 x12 x14).f0).length : Int) 0 ((rd_T90 x12 x14).f0) ((rd_T90 x12 x14).f1.f0.f0) ((rd_T90 x12 x14).f1.f0.f1) ((rd_T90 x12 x14).f1.f1) ((rd_T90 x12 x14).f2) ((rd_T90 x12 x14).f3)) else (none)) else (none)) else (some true)
def pick_Whole.l1 : Nat → List (S31) → Int → List (S90) → Int → Int → List Int → Int → Int → List Int → Int → Int → Int → Int → Bool → Option (Bool)
 | 0, _, _, _, _, _, _, _, _, _, _, _, _, _, _ => none
 | k + 1, x1, x7, x12, x13, x14, x19, x20, x21, x379000, x379001, x379002, x379003, x379004, x379005 => if x21 < x20 then (if 0 ≤ x21 then (if x21 < (x19.length : Int) then ((pick_On.f x1 (rd x19 x21)).bind fun bt380 => (if bt380.2 = true then (pick_Whole.l1 k x1 (wrap64 (x7 + 1)) x12 x13 x14 x19 x20 (wrap64 (x21 + 1)) x379000 x379001 x379002 x379003 x379004 x379005) else (pick_Whole.l1 k x1 x7 x12 x13 x14 x19 x20 (wrap64 (x21 + 1)) x379000 x379001 x379002 x379003 x379004 x379005))) else (none)) else (none)) else (if x7 > 0 then (if x7 < (x379000.length : Int) then (some false) else (pick_Whole.l0 k x1 x12 x13 (wrap64 (x14 + 1)))) else (pick_Whole.l0 k x1 x12 x13 (wrap64 (x14 + 1))))
end
def pick_Whole.f (k : Nat) (l0 : List (S90)) (l1 : List (S31)) : Option (Bool) := pick_Whole.l0 k l1 l0 (l0.length : Int) 0
set_option maxHeartbeats 8000000 in
set_option maxRecDepth 100000 in
theorem pick_Whole.calls (k : Nat) (A0 : Option Addr) (c0 : Nat) (l0 : List (S90)) (A1 : Option Addr) (c1 : Nat) (l1 : List (S31)) (r : Bool) (w : World) (hr0 : Kd.C k90 w A0 l0.length l0) (hc0 : l0.length ≤ c0) (hr1 : Kd.C k31 w A1 l1.length l1) (hc1 : l1.length ≤ c1) (h : pick_Whole.f k l0 l1 = some r) :
  Calls Tryd.prog 26 #[.slice A0 l0.length c0, .slice A1 l1.length c1] w fun e w' => e = .returned (.bool r) ∧ Below w.heap.size w w' := by
 have hu90 := Tryd.underlying90
 have HR0 := Aside0.mk hr0
 have HC0 := Aside0.mk hc0
 clear hr0 hc0
 have HR1 := Aside0.mk hr1
 have HC1 := Aside0.mk hc1
 clear hr1 hc1
 have HB := Aside0.mk (Below.refl w.heap.size w)
 have H : (pick_Whole.l0 k l1 l0 (l0.length : Int) 0) = some r := h
 clear h
 have H' := Aside0.mk H
 clear H
 go_enter Tryd.func26, Tryd.ntmps26
 go_wp2
 go_loopg [14] k (fun kq v14 w' => ∃ (x14_1 : Int), v14 = .int .i64 x14_1 ∧ Aside0 (pick_Whole.l0 kq l1 l0 (l0.length : Int) x14_1 = some r) ∧ Aside0 (kq ≤ k) ∧ Aside0 (Below w.heap.size w w'))
 case atStart => exact ⟨(0), (by first | rfl | (simp; done) | (simp [*]; done)), H', ⟨Nat.le_refl _⟩, ⟨by repeat (first | (with_reducible first | exact HB.out | apply below_alloc | apply pw_below_drewN | apply below_drew1) | exact HB.out)⟩⟩
 case round =>
  clear H'
  try clear c1
  try clear c2
  try clear p2
  obtain ⟨x14_1, rfl, HA, HK1, HB⟩ := hrel
  cases gk with
  | zero => exact absurd HA.out (by simp [pick_Whole.l0])
  | succ k1 =>
   have H := HA.out
   clear HA
   simp only [pick_Whole.l0] at H
   by_cases c3 : x14_1 < (l0.length : Int)
   ·rw [if_pos c3] at H
    have c3b0 : decide (x14_1 < (l0.length : Int)) = true := decide_eq_true c3
    clear c3
    by_cases c4 : 0 ≤ x14_1
    ·rw [if_pos c4] at H
     have c4b0 : decide (0 ≤ x14_1) = true := decide_eq_true c4
     clear c4
     by_cases c5 : x14_1 < (l0.length : Int)
     ·rw [if_pos c5] at H
      have c5b0 : decide (x14_1 < (l0.length : Int)) = true := decide_eq_true c5
      clear c5
      have H' := Aside0.mk H
      clear H
      have p377 : 0 ≤ (x14_1 : Int) := of_decide_eq_true (by first | (with_reducible assumption) | assumption)
      have q377 : x14_1 < (l0.length : Int) := of_decide_eq_true (by first | (with_reducible assumption) | assumption)
      obtain ⟨ad377, A377_0, c377_0, e377, hx377_0, hx377_1, hx377_2, hx377_3, hx377_4, hx377_5, hl377_0, hi377_0⟩ := at_T90 HR0.out x14_1 p377 q377
      cases e377
      replace hx377_0 := (HB.out.cell (World.block_lt_of_cell? w _ hx377_0)).trans hx377_0
      replace hx377_1 := (HB.out.cell (World.block_lt_of_cell? w _ hx377_1)).trans hx377_1
      replace hx377_2 := (HB.out.cell (World.block_lt_of_cell? w _ hx377_2)).trans hx377_2
      replace hx377_3 := (HB.out.cell (World.block_lt_of_cell? w _ hx377_3)).trans hx377_3
      replace hx377_4 := (HB.out.cell (World.block_lt_of_cell? w _ hx377_4)).trans hx377_4
      replace hx377_5 := (HB.out.cell (World.block_lt_of_cell? w _ hx377_5)).trans hx377_5
      have HR377_0 := Aside0.mk hi377_0
      have HC377_0 := Aside0.mk hl377_0
      clear hi377_0 hl377_0
      replace p377 := eq_true p377
      replace q377 := eq_true q377
      go_wp2_with (first | ((with_reducible refine gate_dst (N := 6) rfl ?_); (try (refine gate_guard (by rfl) ?_; dsimp only)); refine box_event ?hg (N := 6) ?hd (cs := #[.slice none 0 0, .int .u64 0, .int .u64 0, .int .u64 0, .int .u64 0, .bool false]) (t := 90) ?hr ?_; (case hd => rfl); (case hg => rfl); (case hr => first | (go_simp; done) | (go_simp; rfl)); intro gb378 hg w6 hbox hb; have n0_ := Aside0.mk (below_step (by repeat (first | (with_reducible first | exact HB.out | apply below_alloc | apply pw_below_drewN | apply below_drew1) | exact HB.out)) hb); have n1_ := Aside0.mk (hbox); have n2_ := Aside0.mk ((by rw [hg]; exact (below_size (by repeat (first | (with_reducible first | exact HB.out | apply below_alloc | apply pw_below_drewN | apply below_drew1) | exact HB.out))) : w.heap.size ≤ gb378)); have n3_ := Aside0.mk ((by rw [hg]; exact (below_size (by repeat (first | (with_reducible first | exact HB.out | apply below_alloc | apply pw_below_drewN | apply below_drew1) | exact HB.out))) : w.heap.size ≤ gb378)); clear HB; have HB := n0_; have BK378 := n1_; have GW378 := n2_; have GE378 := n3_; clear n0_ n1_ n2_ n3_; clear hb hbox hg; have hcz7_0 : w6.cell? ⟨gb378, 0, none⟩ = some (.slice none 0 0) := (blk_cell BK378.out 0).trans rfl; have hcz7_1 : w6.cell? ⟨gb378, 1, none⟩ = some (.int .u64 0) := (blk_cell BK378.out 1).trans rfl; have hcz7_2 : w6.cell? ⟨gb378, 2, none⟩ = some (.int .u64 0) := (blk_cell BK378.out 2).trans rfl; have hcz7_3 : w6.cell? ⟨gb378, 3, none⟩ = some (.int .u64 0) := (blk_cell BK378.out 3).trans rfl; have hcz7_4 : w6.cell? ⟨gb378, 4, none⟩ = some (.int .u64 0) := (blk_cell BK378.out 4).trans rfl; have hcz7_5 : w6.cell? ⟨gb378, 5, none⟩ = some (.bool false) := (blk_cell BK378.out 5).trans rfl; have hfz7_0 := blk_frozen BK378.out 0; have hfz7_1 := blk_frozen BK378.out 1; have hfz7_2 := blk_frozen BK378.out 2; have hfz7_3 := blk_frozen BK378.out 3; have hfz7_4 := blk_frozen BK378.out 4; have hfz7_5 := blk_frozen BK378.out 5))
      go_loopg [7, 21] k1 (fun kq v7 v21 w' => ∃ (x7_2 : Int) (x21_2 : Int), v7 = .int .i64 x7_2 ∧ v21 = .int .i64 x21_2 ∧ Aside0 (pick_Whole.l1 kq l1 x7_2 l0 (l0.length : Int) x14_1 ((rd_T90 l0 x14_1).f0) (((rd_T90 l0 x14_1).f0).length : Int) x21_2 ((rd_T90 l0 x14_1).f0) ((rd_T90 l0 x14_1).f1.f0.f0) ((rd_T90 l0 x14_1).f1.f0.f1) ((rd_T90 l0 x14_1).f1.f1) ((rd_T90 l0 x14_1).f2) ((rd_T90 l0 x14_1).f3) = some r) ∧ Aside0 (kq ≤ k1) ∧ Aside0 (w'.heap[gb378]? = some (.cells #[(.slice A377_0 ((rd_T90 l0 x14_1).f0).length c377_0), .int .u64 ((rd_T90 l0 x14_1).f1.f0.f0), .int .u64 ((rd_T90 l0 x14_1).f1.f0.f1), .int .u64 ((rd_T90 l0 x14_1).f1.f1), .int .u64 ((rd_T90 l0 x14_1).f2), .bool ((rd_T90 l0 x14_1).f3)] 90 (0, 0))) ∧ Aside0 (Below w.heap.size w w'))
      case atStart => exact ⟨(0), (0), (by first | rfl | (simp; done) | (simp [*]; done)), (by first | rfl | (simp; done) | (simp [*]; done)), H', ⟨Nat.le_refl _⟩, ⟨by (with_reducible repeat (first | refine blk_drewN ?_ _ | refine blk_drew ?_ | refine blk_alloc ?_ _)); refine blk_put (cs := #[.slice A377_0 ((rd_T90 l0 x14_1).f0).length c377_0, .int .u64 ((rd_T90 l0 x14_1).f1.f0.f0), .int .u64 ((rd_T90 l0 x14_1).f1.f0.f1), .int .u64 ((rd_T90 l0 x14_1).f1.f1), .int .u64 ((rd_T90 l0 x14_1).f2), .bool false]) ?_ 5 _ rfl; (with_reducible repeat (first | refine blk_drewN ?_ _ | refine blk_drew ?_ | refine blk_alloc ?_ _)); refine blk_put (cs := #[.slice A377_0 ((rd_T90 l0 x14_1).f0).length c377_0, .int .u64 ((rd_T90 l0 x14_1).f1.f0.f0), .int .u64 ((rd_T90 l0 x14_1).f1.f0.f1), .int .u64 ((rd_T90 l0 x14_1).f1.f1), .int .u64 0, .bool false]) ?_ 4 _ rfl; (with_reducible repeat (first | refine blk_drewN ?_ _ | refine blk_drew ?_ | refine blk_alloc ?_ _)); refine blk_put (cs := #[.slice A377_0 ((rd_T90 l0 x14_1).f0).length c377_0, .int .u64 ((rd_T90 l0 x14_1).f1.f0.f0), .int .u64 ((rd_T90 l0 x14_1).f1.f0.f1), .int .u64 0, .int .u64 0, .bool false]) ?_ 3 _ rfl; (with_reducible repeat (first | refine blk_drewN ?_ _ | refine blk_drew ?_ | refine blk_alloc ?_ _)); refine blk_put (cs := #[.slice A377_0 ((rd_T90 l0 x14_1).f0).length c377_0, .int .u64 ((rd_T90 l0 x14_1).f1.f0.f0), .int .u64 0, .int .u64 0, .int .u64 0, .bool false]) ?_ 2 _ rfl; (with_reducible repeat (first | refine blk_drewN ?_ _ | refine blk_drew ?_ | refine blk_alloc ?_ _)); refine blk_put (cs := #[.slice A377_0 ((rd_T90 l0 x14_1).f0).length c377_0, .int .u64 0, .int .u64 0, .int .u64 0, .int .u64 0, .bool false]) ?_ 1 _ rfl; (with_reducible repeat (first | refine blk_drewN ?_ _ | refine blk_drew ?_ | refine blk_alloc ?_ _)); refine blk_put (cs := #[.slice none 0 0, .int .u64 0, .int .u64 0, .int .u64 0, .int .u64 0, .bool false]) ?_ 0 _ rfl; (with_reducible repeat (first | refine blk_drewN ?_ _ | refine blk_drew ?_ | refine blk_alloc ?_ _)); exact BK378.out⟩, ⟨by repeat (first | (with_reducible first | exact HB.out | apply below_alloc | apply pw_below_drewN | apply below_drew1 | refine below_set ?_ GE378.out) | exact HB.out)⟩⟩
      case round =>
       clear H'
       try clear c1
       try clear c2
       try clear p2
       try clear c3
       try clear c3b0
       try clear p3
       try clear q3
       try clear hx3
       try clear c4
       try clear c4b0
       try clear c5
       try clear c5b0
       try clear hcz7_0
       try clear hcz7_1
       try clear hcz7_2
       try clear hcz7_3
       try clear hcz7_4
       try clear hcz7_5
       try clear hfz7_0
       try clear hfz7_1
       try clear hfz7_2
       try clear hfz7_3
       try clear hfz7_4
       try clear hfz7_5
       try clear hx377_0
       try clear hx377_1
       try clear hx377_2
       try clear hx377_3
       try clear hx377_4
       try clear hx377_5
       try clear p2
       try clear p377
       try clear q377
       obtain ⟨x7_2, x21_2, rfl, rfl, HA, HK2, BK378, HB⟩ := hrel
       cases gk with
       | zero => exact absurd HA.out (by simp [pick_Whole.l1])
       | succ k2 =>
        have H := HA.out
        clear HA
        simp only [pick_Whole.l1] at H
        by_cases c8 : x21_2 < (((rd_T90 l0 x14_1).f0).length : Int)
        ·rw [if_pos c8] at H
         have c8b0 : decide (x21_2 < (((rd_T90 l0 x14_1).f0).length : Int)) = true := decide_eq_true c8
         clear c8
         by_cases c9 : 0 ≤ x21_2
         ·rw [if_pos c9] at H
          have c9b0 : decide (0 ≤ x21_2) = true := decide_eq_true c9
          clear c9
          by_cases c10 : x21_2 < (((rd_T90 l0 x14_1).f0).length : Int)
          ·rw [if_pos c10] at H
           have c10b0 : decide (x21_2 < (((rd_T90 l0 x14_1).f0).length : Int)) = true := decide_eq_true c10
           clear c10
           replace H := Option.bind_eq_some_iff.mp H
           obtain ⟨⟨t380, t381⟩, A110, H⟩ := H
           replace H : (if t381 = true then (pick_Whole.l1 k2 l1 (wrap64 (x7_2 + 1)) l0 (l0.length : Int) x14_1 ((rd_T90 l0 x14_1).f0) (((rd_T90 l0 x14_1).f0).length : Int) (wrap64 (x21_2 + 1)) ((rd_T90 l0 x14_1).f0) ((rd_T90 l0 x14_1).f1.f0.f0) ((rd_T90 l0 x14_1).f1.f0.f1) ((rd_T90 l0 x14_1).f1.f1) ((rd_T90 l0 x14_1).f2) ((rd_T90 l0 x14_1).f3)) else (pick_Whole.l1 k2 l1 x7_2 l0 (l0.length : Int) x14_1 ((rd_T90 l0 x14_1).f0) (((rd_T90 l0 x14_1).f0).length : Int) (wrap64 (x21_2 + 1)) ((rd_T90 l0 x14_1).f0) ((rd_T90 l0 x14_1).f1.f0.f0) ((rd_T90 l0 x14_1).f1.f0.f1) ((rd_T90 l0 x14_1).f1.f1) ((rd_T90 l0 x14_1).f2) ((rd_T90 l0 x14_1).f3))) = some r := H
           have A11 := Aside0.mk A110
           clear A110
           by_cases c12 : t381 = true
           ·subst c12
            have H1 : (pick_Whole.l1 k2 l1 (wrap64 (x7_2 + 1)) l0 (l0.length : Int) x14_1 ((rd_T90 l0 x14_1).f0) (((rd_T90 l0 x14_1).f0).length : Int) (wrap64 (x21_2 + 1)) ((rd_T90 l0 x14_1).f0) ((rd_T90 l0 x14_1).f1.f0.f0) ((rd_T90 l0 x14_1).f1.f0.f1) ((rd_T90 l0 x14_1).f1.f1) ((rd_T90 l0 x14_1).f2) ((rd_T90 l0 x14_1).f3)) = some r := by rw [if_pos rfl] at H; exact H
            clear H
            have H := H1
            clear H1
            have H' := Aside0.mk H
            clear H
            have p379 : 0 ≤ (x21_2 : Int) := of_decide_eq_true (by first | (with_reducible assumption) | assumption)
            have q379 : x21_2 < (((rd_T90 l0 x14_1).f0).length : Int) := of_decide_eq_true (by first | (with_reducible assumption) | assumption)
            obtain ⟨ad379, e379, hx379_0⟩ := Kd.at_int HR377_0.out x21_2 p379 q379
            cases e379
            replace hx379_0 := (HB.out.cell (World.block_lt_of_cell? w _ hx379_0)).trans hx379_0
            replace p379 := eq_true p379
            replace q379 := eq_true q379
            go_wp2_with (first | ((with_reducible refine gate_callee (f := 24) rfl ?_); refine goesL_ (some 28) rfl rfl Tryd.func24 (by kernel_rfl) rfl #[.slice A1 l1.length c1, .int .i64 (rd ((rd_T90 l0 x14_1).f0) x21_2)] rfl (by (try simp only [List.map_toArray, List.map_cons, List.map_nil]); first | done | rfl | (simp only [List.length_drop, List.length_take]; rfl)) ?_; (with_reducible refine (pick_On.calls _ _ l1 (rd ((rd_T90 l0 x14_1).f0) x21_2) t380 true _ ?side1 ?side2 A11.out).mono ?_); (case side1 => repeat (first | exact (Kd.C_below HR1.out HB.out) | (with_reducible refine Kd.C_alloc ?_ _) | (with_reducible refine Kd.C_drewN ?_ _) | (with_reducible refine Kd.C_drew ?_))); (case side2 => exact HC1.out); rintro e w13 ⟨rfl, hb⟩; refine ⟨_, rfl, ?_⟩; have n0_ := Aside0.mk (blk_below (g := gb378) (o := .cells #[.slice (some ad379) ((rd_T90 l0 x14_1).f0).length c377_0, .int .u64 ((rd_T90 l0 x14_1).f1.f0.f0), .int .u64 ((rd_T90 l0 x14_1).f1.f0.f1), .int .u64 ((rd_T90 l0 x14_1).f1.f1), .int .u64 ((rd_T90 l0 x14_1).f2), .bool ((rd_T90 l0 x14_1).f3)] 90 (0, 0)) (by (with_reducible repeat (first | refine blk_drewN ?_ _ | refine blk_drew ?_ | refine blk_alloc ?_ _)); exact BK378.out) hb); have n1_ := Aside0.mk (below_step (by repeat (first | (with_reducible first | exact HB.out | apply below_alloc | apply pw_below_drewN | apply below_drew1 | refine below_set ?_ GE378.out) | exact HB.out)) hb); clear BK378; clear HB; have BK378 := n0_; have HB := n1_; clear n0_ n1_; (try clear hb); (try clear hb2); (try clear hk); (try clear hi)))
            go_roundg k2
            case measure => have := HK1.out; have := HK2.out; omega
            case rel => exact ⟨(wrap64 (x7_2 + 1)), (wrap64 (x21_2 + 1)), (by first | rfl | (simp; done) | (simp [*]; done)), (by first | rfl | (simp; done) | (simp [*]; done)), H', ⟨by have := HK1.out; have := HK2.out; omega⟩, ⟨by (with_reducible repeat (first | refine blk_drewN ?_ _ | refine blk_drew ?_ | refine blk_alloc ?_ _)); exact BK378.out⟩, ⟨by repeat (first | (with_reducible first | exact HB.out | apply below_alloc | apply pw_below_drewN | apply below_drew1 | refine below_set ?_ GE378.out) | exact HB.out)⟩⟩
           ·replace c12 := Bool.eq_false_iff.mpr c12
            subst c12
            have H1 : (pick_Whole.l1 k2 l1 x7_2 l0 (l0.length : Int) x14_1 ((rd_T90 l0 x14_1).f0) (((rd_T90 l0 x14_1).f0).length : Int) (wrap64 (x21_2 + 1)) ((rd_T90 l0 x14_1).f0) ((rd_T90 l0 x14_1).f1.f0.f0) ((rd_T90 l0 x14_1).f1.f0.f1) ((rd_T90 l0 x14_1).f1.f1) ((rd_T90 l0 x14_1).f2) ((rd_T90 l0 x14_1).f3)) = some r := by rw [if_neg (show ¬ (false = true) by decide)] at H; exact H
            clear H
            have H := H1
            clear H1
            have H' := Aside0.mk H
            clear H
            have p379 : 0 ≤ (x21_2 : Int) := of_decide_eq_true (by first | (with_reducible assumption) | assumption)
            have q379 : x21_2 < (((rd_T90 l0 x14_1).f0).length : Int) := of_decide_eq_true (by first | (with_reducible assumption) | assumption)
            obtain ⟨ad379, e379, hx379_0⟩ := Kd.at_int HR377_0.out x21_2 p379 q379
            cases e379
            replace hx379_0 := (HB.out.cell (World.block_lt_of_cell? w _ hx379_0)).trans hx379_0
            replace p379 := eq_true p379
            replace q379 := eq_true q379
            go_wp2_with (first | ((with_reducible refine gate_callee (f := 24) rfl ?_); refine goesL_ (some 28) rfl rfl Tryd.func24 (by kernel_rfl) rfl #[.slice A1 l1.length c1, .int .i64 (rd ((rd_T90 l0 x14_1).f0) x21_2)] rfl (by (try simp only [List.map_toArray, List.map_cons, List.map_nil]); first | done | rfl | (simp only [List.length_drop, List.length_take]; rfl)) ?_; (with_reducible refine (pick_On.calls _ _ l1 (rd ((rd_T90 l0 x14_1).f0) x21_2) t380 false _ ?side1 ?side2 A11.out).mono ?_); (case side1 => repeat (first | exact (Kd.C_below HR1.out HB.out) | (with_reducible refine Kd.C_alloc ?_ _) | (with_reducible refine Kd.C_drewN ?_ _) | (with_reducible refine Kd.C_drew ?_))); (case side2 => exact HC1.out); rintro e w14 ⟨rfl, hb⟩; refine ⟨_, rfl, ?_⟩; have n0_ := Aside0.mk (blk_below (g := gb378) (o := .cells #[.slice (some ad379) ((rd_T90 l0 x14_1).f0).length c377_0, .int .u64 ((rd_T90 l0 x14_1).f1.f0.f0), .int .u64 ((rd_T90 l0 x14_1).f1.f0.f1), .int .u64 ((rd_T90 l0 x14_1).f1.f1), .int .u64 ((rd_T90 l0 x14_1).f2), .bool ((rd_T90 l0 x14_1).f3)] 90 (0, 0)) (by (with_reducible repeat (first | refine blk_drewN ?_ _ | refine blk_drew ?_ | refine blk_alloc ?_ _)); exact BK378.out) hb); have n1_ := Aside0.mk (below_step (by repeat (first | (with_reducible first | exact HB.out | apply below_alloc | apply pw_below_drewN | apply below_drew1 | refine below_set ?_ GE378.out) | exact HB.out)) hb); clear BK378; clear HB; have BK378 := n0_; have HB := n1_; clear n0_ n1_; (try clear hb); (try clear hb2); (try clear hk); (try clear hi)))
            go_roundg k2
            case measure => have := HK1.out; have := HK2.out; omega
            case rel => exact ⟨(x7_2), (wrap64 (x21_2 + 1)), (by first | rfl | (simp; done) | (simp [*]; done)), (by first | rfl | (simp; done) | (simp [*]; done)), H', ⟨by have := HK1.out; have := HK2.out; omega⟩, ⟨by (with_reducible repeat (first | refine blk_drewN ?_ _ | refine blk_drew ?_ | refine blk_alloc ?_ _)); exact BK378.out⟩, ⟨by repeat (first | (with_reducible first | exact HB.out | apply below_alloc | apply pw_below_drewN | apply below_drew1 | refine below_set ?_ GE378.out) | exact HB.out)⟩⟩
          ·rw [if_neg c10] at H
           exact absurd H (by simp)
         ·rw [if_neg c9] at H
          exact absurd H (by simp)
        ·rw [if_neg c8] at H
         have c8b0 : decide (x21_2 < (((rd_T90 l0 x14_1).f0).length : Int)) = false := decide_eq_false c8
         clear c8
         by_cases c15 : x7_2 > 0
         ·rw [if_pos c15] at H
          have c15b0 : decide (0 < x7_2) = true := decide_eq_true c15
          clear c15
          by_cases c16 : x7_2 < (((rd_T90 l0 x14_1).f0).length : Int)
          ·rw [if_pos c16] at H
           have c16b0 : decide (x7_2 < (((rd_T90 l0 x14_1).f0).length : Int)) = true := decide_eq_true c16
           clear c16
           obtain rfl := Option.some.inj H
           have hcz17_0 : wr.cell? ⟨gb378, 0, none⟩ = some (.slice A377_0 ((rd_T90 l0 x14_1).f0).length c377_0) := (blk_cell BK378.out 0).trans rfl
           have hcz17_1 : wr.cell? ⟨gb378, 1, none⟩ = some (.int .u64 ((rd_T90 l0 x14_1).f1.f0.f0)) := (blk_cell BK378.out 1).trans rfl
           have hcz17_2 : wr.cell? ⟨gb378, 2, none⟩ = some (.int .u64 ((rd_T90 l0 x14_1).f1.f0.f1)) := (blk_cell BK378.out 2).trans rfl
           have hcz17_3 : wr.cell? ⟨gb378, 3, none⟩ = some (.int .u64 ((rd_T90 l0 x14_1).f1.f1)) := (blk_cell BK378.out 3).trans rfl
           have hcz17_4 : wr.cell? ⟨gb378, 4, none⟩ = some (.int .u64 ((rd_T90 l0 x14_1).f2)) := (blk_cell BK378.out 4).trans rfl
           have hcz17_5 : wr.cell? ⟨gb378, 5, none⟩ = some (.bool ((rd_T90 l0 x14_1).f3)) := (blk_cell BK378.out 5).trans rfl
           have hfz17_0 := blk_frozen BK378.out 0
           have hfz17_1 := blk_frozen BK378.out 1
           have hfz17_2 := blk_frozen BK378.out 2
           have hfz17_3 := blk_frozen BK378.out 3
           have hfz17_4 := blk_frozen BK378.out 4
           have hfz17_5 := blk_frozen BK378.out 5
           go_wp2
           go_ret
           exact ⟨by first | rfl | (simp [errW_none, errW_some] <;> rfl) | (simp [*, errW_none, errW_some] <;> rfl), by repeat (first | (with_reducible first | exact HB.out | apply below_alloc | apply pw_below_drewN | apply below_drew1 | refine below_set ?_ GE378.out) | exact HB.out)⟩
          ·rw [if_neg c16] at H
           have c16b0 : decide (x7_2 < (((rd_T90 l0 x14_1).f0).length : Int)) = false := decide_eq_false c16
           clear c16
           have H' := Aside0.mk H
           clear H
           have hcz18_0 : wr.cell? ⟨gb378, 0, none⟩ = some (.slice A377_0 ((rd_T90 l0 x14_1).f0).length c377_0) := (blk_cell BK378.out 0).trans rfl
           have hcz18_1 : wr.cell? ⟨gb378, 1, none⟩ = some (.int .u64 ((rd_T90 l0 x14_1).f1.f0.f0)) := (blk_cell BK378.out 1).trans rfl
           have hcz18_2 : wr.cell? ⟨gb378, 2, none⟩ = some (.int .u64 ((rd_T90 l0 x14_1).f1.f0.f1)) := (blk_cell BK378.out 2).trans rfl
           have hcz18_3 : wr.cell? ⟨gb378, 3, none⟩ = some (.int .u64 ((rd_T90 l0 x14_1).f1.f1)) := (blk_cell BK378.out 3).trans rfl
           have hcz18_4 : wr.cell? ⟨gb378, 4, none⟩ = some (.int .u64 ((rd_T90 l0 x14_1).f2)) := (blk_cell BK378.out 4).trans rfl
           have hcz18_5 : wr.cell? ⟨gb378, 5, none⟩ = some (.bool ((rd_T90 l0 x14_1).f3)) := (blk_cell BK378.out 5).trans rfl
           have hfz18_0 := blk_frozen BK378.out 0
           have hfz18_1 := blk_frozen BK378.out 1
           have hfz18_2 := blk_frozen BK378.out 2
           have hfz18_3 := blk_frozen BK378.out 3
           have hfz18_4 := blk_frozen BK378.out 4
           have hfz18_5 := blk_frozen BK378.out 5
           go_wp2
           go_roundg k2
           case measure => have := HK1.out; have := HK2.out; omega
           case rel => exact ⟨(wrap64 (x14_1 + 1)), (by first | rfl | (simp; done) | (simp [*]; done)), H', ⟨by have := HK1.out; have := HK2.out; omega⟩, ⟨by repeat (first | (with_reducible first | exact HB.out | apply below_alloc | apply pw_below_drewN | apply below_drew1 | refine below_set ?_ GE378.out) | exact HB.out)⟩⟩
         ·rw [if_neg c15] at H
          have c15b0 : decide (0 < x7_2) = false := decide_eq_false c15
          clear c15
          have H' := Aside0.mk H
          clear H
          go_wp2
          go_roundg k2
          case measure => have := HK1.out; have := HK2.out; omega
          case rel => exact ⟨(wrap64 (x14_1 + 1)), (by first | rfl | (simp; done) | (simp [*]; done)), H', ⟨by have := HK1.out; have := HK2.out; omega⟩, ⟨by repeat (first | (with_reducible first | exact HB.out | apply below_alloc | apply pw_below_drewN | apply below_drew1 | refine below_set ?_ GE378.out) | exact HB.out)⟩⟩
     ·rw [if_neg c5] at H
      exact absurd H (by simp)
    ·rw [if_neg c4] at H
     exact absurd H (by simp)
   ·rw [if_neg c3] at H
    have c3b0 : decide (x14_1 < (l0.length : Int)) = false := decide_eq_false c3
    clear c3
    obtain rfl := Option.some.inj H
    go_wp2
    go_ret
    exact ⟨by first | rfl | (simp [errW_none, errW_some] <;> rfl) | (simp [*, errW_none, errW_some] <;> rfl), by repeat (first | (with_reducible first | exact HB.out | apply below_alloc | apply pw_below_drewN | apply below_drew1) | exact HB.out)⟩

end Go.Proofs.YtdmieaidheelbaaDoor.Q
end
/- QFpickIdle -/
section
namespace Go.Proofs.YtdmieaidheelbaaDoor.Q
open Go.RowKit Go.Proofs.YtdmieaidheelbaaDoorW.PrintWords Go.Proofs.YtdmieaidheelbaaDoorW.PrintLast Go.Proofs.YtdmieaidheelbaaDoorW.PrintMore
attribute [local go_sem] max2_int min2_int max_two min_two max_three min_three max_four min_four
set_option linter.unusedVariables false
set_option linter.unusedSimpArgs false

mutual
def pick_Idle.l0 : Nat → List (S36) → Int → List (S31) → Int → List (S90) → Int → Int → Option (List Int × Int)
 | 0, _, _, _, _, _, _, _ => none
 | k + 1, x1, x2, x3, x11, x25, x26, x27 => if x27 < x26 then (if 0 ≤ x27 then (if x27 < (x25.length : Int) then (if 0 < (((rd_T90 x25 x27).f0).length : Int) then ((pick_On.f x3 (rd ((rd_T90 x25 x27).f0) 0)).bind fun bt365 => (if (((rd_T90 x25 x27).f0).length : Int) = 1 then (pick_Idle.j1 k x1 x2 x3 x11 x25 x26 x27 (!bt365.2) ((rd_T90 x25 x27).f0) ((rd_T90 x25 x27).f1.f0.f0) ((rd_T90 x25 x27).f1.f0.f1) ((rd_T90 x25 x27).f1.f1) ((rd_T90 x25 x27).f2) ((rd_T90 x25 x27).f3)) else (pick_Idle.j1 k x1 x2 x3 x11 x25 x26 x27 false ((rd_T90 x25 x27).f0) ((rd_T90 x25 x27).f1.f0.f0) ((rd_T90 x25 x27).f1.f0.f1) ((rd_T90 x25 x27).f1.f1) ((rd_T90 x25 x27).f2) ((rd_T90 x25 x27).f3)))) else (none)) else (none)) else (none)) else (pick_Idle.l1 k x11 x3 (x3.length : Int) 0)
def pick_Idle.j1 : Nat → List (S36) → Int → List (S31) → Int → List (S90) → Int → Int → Bool → List Int → Int → Int → Int → Int → Bool → Option (List Int × Int)
 | 0, _, _, _, _, _, _, _, _, _, _, _, _, _, _ => none
 | k + 1, x1, x2, x3, x11, x25, x26, x27, x47, x364000, x364001, x364002, x364003, x364004, x364005 => if x47 = true then ((pick_wishes.f k x1 x364000).bind fun t367 => (if 0 < (t367.length : Int) then ((mask_Allows.f k ((rd_T36 t367 0).f2.f0) ((rd_T36 t367 0).f2.f1) x2).bind fun t371 => (pick_Idle.l0 k x1 x2 x3 (Go.bits .or .u32 x11 t371) x25 x26 (wrap64 (x27 + 1)))) else (none))) else (pick_Idle.l0 k x1 x2 x3 x11 x25 x26 (wrap64 (x27 + 1)))
def pick_Idle.l1 : Nat → Int → List (S31) → Int → Int → Option (List Int × Int)
 | 0, _, _, _, _ => none
 | k + 1, x11, x60, x61, x62 => if x62 < x61 then (if 0 ≤ x62 then (if x62 < (x60.length : Int) then (if ((rd_T31 x60 x62).f1) ≥ 0 then (if ((rd_T31 x60 x62).f1) < 8 then (if 0 ≤ ((rd_T31 x60 x62).f1) then (pick_Idle.l1 k (Go.bits .andNot .u32 x11 (shl .u32 1 ((rd_T31 x60 x62).f1))) x60 x61 (wrap64 (x62 + 1))) else (none)) else (pick_Idle.l1 k x11 x60 x61 (wrap64 (x62 + 1)))) else (pick_Idle.l1 k x11 x60 x61 (wrap64 (x62 + 1)))) else (none)) else (none)) else ((cpuset_List.f x11).bind fun t374 => (some (t374, 0)))
end
def pick_Idle.f (k : Nat) (l0 : List (S90)) (l1 : List (S36)) (a2 : Int) (l3 : List (S31)) : Option (List Int × Int) := (pick_asked.f l0 l1 a2).bind fun t361 => (if t361 = 0 then (pick_Idle.l0 k l1 a2 l3 0 l0 (l0.length : Int) 0) else (some (([] : List Int), t361)))
set_option maxHeartbeats 8000000 in
set_option maxRecDepth 100000 in
theorem pick_Idle.calls (k : Nat) (A0 : Option Addr) (c0 : Nat) (l0 : List (S90)) (A1 : Option Addr) (c1 : Nat) (l1 : List (S36)) (a2 : Int) (A3 : Option Addr) (c3 : Nat) (l3 : List (S31)) (r1 : List Int) (r2 : Int) (w : World) (hr0 : Kd.C k90 w A0 l0.length l0) (hc0 : l0.length ≤ c0) (hr1 : Kd.C k36 w A1 l1.length l1) (hc1 : l1.length ≤ c1) (hr3 : Kd.C k31 w A3 l3.length l3) (hc3 : l3.length ≤ c3) (hT : TabW w) (h : pick_Idle.f k l0 l1 a2 l3 = some (r1, r2)) :
  Calls Tryd.prog 25 #[.slice A0 l0.length c0, .slice A1 l1.length c1, .int .u32 a2, .slice A3 l3.length c3] w fun e w' => ∃ v0_ : Value, e = .returned (.tuple #[v0_, .int .i64 r2]) ∧ Kd.R (Kd.int .i64) 3 w' w.heap.size (fun _ => True) v0_ r1 ∧ Below w.heap.size w w' := by
 have HT := Aside0.mk hT
 clear hT
 have hu90 := Tryd.underlying90
 have hu34 := Tryd.underlying34
 have hu31 := Tryd.underlying31
 have HR0 := Aside0.mk hr0
 have HC0 := Aside0.mk hc0
 clear hr0 hc0
 have HR1 := Aside0.mk hr1
 have HC1 := Aside0.mk hc1
 clear hr1 hc1
 have HR3 := Aside0.mk hr3
 have HC3 := Aside0.mk hc3
 clear hr3 hc3
 have HB := Aside0.mk (Below.refl w.heap.size w)
 have H : ((pick_asked.f l0 l1 a2).bind fun t361 => (if t361 = 0 then (pick_Idle.l0 k l1 a2 l3 0 l0 (l0.length : Int) 0) else (some (([] : List Int), t361)))) = some (r1, r2) := h
 clear h
 replace H := Option.bind_eq_some_iff.mp H
 obtain ⟨t361, A50, H⟩ := H
 replace H : (if t361 = 0 then (pick_Idle.l0 k l1 a2 l3 0 l0 (l0.length : Int) 0) else (some (([] : List Int), t361))) = some (r1, r2) := H
 have A5 := Aside0.mk A50
 clear A50
 by_cases c6 : t361 = 0
 ·rw [if_pos c6] at H
  have c6b0 : (t361 == 0) = true := beq_iff_eq.mpr c6
  have c6b1 : (t361 != 0) = false := bne_eq_false_iff_eq.mpr c6
  clear c6
  have H' := Aside0.mk H
  clear H
  go_enter Tryd.func25, Tryd.ntmps25
  go_wp2_with (first | ((with_reducible refine gate_callee (f := 60) rfl ?_); refine goesL_ (some 21) rfl rfl Tryd.func60 (by kernel_rfl) rfl #[.slice A0 l0.length c0, .slice A1 l1.length c1, .int .u32 a2] rfl (by (try simp only [List.map_toArray, List.map_cons, List.map_nil]); first | done | rfl | (simp only [List.length_drop, List.length_take]; rfl)) ?_; (with_reducible refine (pick_asked.calls _ _ l0 _ _ l1 a2 t361 _ ?side1 ?side2 ?side3 ?side4 A5.out).mono ?_); (case side1 => repeat (first | exact HR0.out | (with_reducible refine Kd.C_alloc ?_ _) | (with_reducible refine Kd.C_drewN ?_ _) | (with_reducible refine Kd.C_drew ?_))); (case side2 => exact HC0.out); (case side3 => repeat (first | exact HR1.out | (with_reducible refine Kd.C_alloc ?_ _) | (with_reducible refine Kd.C_drewN ?_ _) | (with_reducible refine Kd.C_drew ?_))); (case side4 => exact HC1.out); rintro e w7 ⟨rfl, hb⟩; refine ⟨_, rfl, ?_⟩; have n0_ := Aside0.mk (below_step (by repeat (first | (with_reducible first | exact HB.out | apply below_alloc | apply pw_below_drewN | apply below_drew1) | exact HB.out)) hb); clear HB; have HB := n0_; clear n0_; (try clear hb); (try clear hb2); (try clear hk); (try clear hi)))
  go_loopg [11, 27] k (fun kq v11 v27 w' => ∃ (x11_1 : Int) (x27_1 : Int), v11 = .int .u32 x11_1 ∧ v27 = .int .i64 x27_1 ∧ Aside0 (pick_Idle.l0 kq l1 a2 l3 x11_1 l0 (l0.length : Int) x27_1 = some (r1, r2)) ∧ Aside0 (kq ≤ k) ∧ Aside0 (Below w.heap.size w w'))
  case atStart => exact ⟨(0), (0), (by first | rfl | (simp; done) | (simp [*]; done)), (by first | rfl | (simp; done) | (simp [*]; done)), H', ⟨Nat.le_refl _⟩, ⟨by repeat (first | (with_reducible first | exact HB.out | apply below_alloc | apply pw_below_drewN | apply below_drew1) | exact HB.out)⟩⟩
  case round =>
   clear H'
   try clear c1
   try clear c2
   try clear p2
   try clear c3
   try clear c6
   try clear c6b0
   try clear c6b1
   obtain ⟨x11_1, x27_1, rfl, rfl, HA, HK1, HB⟩ := hrel
   cases gk with
   | zero => exact absurd HA.out (by simp [pick_Idle.l0])
   | succ k1 =>
    have H := HA.out
    clear HA
    simp only [pick_Idle.l0] at H
    by_cases c8 : x27_1 < (l0.length : Int)
    ·rw [if_pos c8] at H
     have c8b0 : decide (x27_1 < (l0.length : Int)) = true := decide_eq_true c8
     clear c8
     by_cases c9 : 0 ≤ x27_1
     ·rw [if_pos c9] at H
      have c9b0 : decide (0 ≤ x27_1) = true := decide_eq_true c9
      clear c9
      by_cases c10 : x27_1 < (l0.length : Int)
      ·rw [if_pos c10] at H
       have c10b0 : decide (x27_1 < (l0.length : Int)) = true := decide_eq_true c10
       clear c10
       by_cases c11 : 0 < (((rd_T90 l0 x27_1).f0).length : Int)
       ·rw [if_pos c11] at H
        have c11b0 : decide (0 < (((rd_T90 l0 x27_1).f0).length : Int)) = true := decide_eq_true c11
        have c11b1 : decide (0 < ((rd_T90 l0 x27_1).f0).length) = true := decide_eq_true (by omega)
        clear c11
        replace H := Option.bind_eq_some_iff.mp H
        obtain ⟨⟨t365, t366⟩, A120, H⟩ := H
        replace H : (if (((rd_T90 l0 x27_1).f0).length : Int) = 1 then (pick_Idle.j1 k1 l1 a2 l3 x11_1 l0 (l0.length : Int) x27_1 (!t366) ((rd_T90 l0 x27_1).f0) ((rd_T90 l0 x27_1).f1.f0.f0) ((rd_T90 l0 x27_1).f1.f0.f1) ((rd_T90 l0 x27_1).f1.f1) ((rd_T90 l0 x27_1).f2) ((rd_T90 l0 x27_1).f3)) else (pick_Idle.j1 k1 l1 a2 l3 x11_1 l0 (l0.length : Int) x27_1 false ((rd_T90 l0 x27_1).f0) ((rd_T90 l0 x27_1).f1.f0.f0) ((rd_T90 l0 x27_1).f1.f0.f1) ((rd_T90 l0 x27_1).f1.f1) ((rd_T90 l0 x27_1).f2) ((rd_T90 l0 x27_1).f3))) = some (r1, r2) := H
        have A12 := Aside0.mk A120
        clear A120
        have HC13 := Aside0.mk H
        clear H
        have p362 : 0 ≤ (x27_1 : Int) := of_decide_eq_true (by first | (with_reducible assumption) | assumption)
        have q362 : x27_1 < (l0.length : Int) := of_decide_eq_true (by first | (with_reducible assumption) | assumption)
        obtain ⟨ad362, A362_0, c362_0, e362, hx362_0, hx362_1, hx362_2, hx362_3, hx362_4, hx362_5, hl362_0, hi362_0⟩ := at_T90 HR0.out x27_1 p362 q362
        cases e362
        replace hx362_0 := (HB.out.cell (World.block_lt_of_cell? w _ hx362_0)).trans hx362_0
        replace hx362_1 := (HB.out.cell (World.block_lt_of_cell? w _ hx362_1)).trans hx362_1
        replace hx362_2 := (HB.out.cell (World.block_lt_of_cell? w _ hx362_2)).trans hx362_2
        replace hx362_3 := (HB.out.cell (World.block_lt_of_cell? w _ hx362_3)).trans hx362_3
        replace hx362_4 := (HB.out.cell (World.block_lt_of_cell? w _ hx362_4)).trans hx362_4
        replace hx362_5 := (HB.out.cell (World.block_lt_of_cell? w _ hx362_5)).trans hx362_5
        have HR362_0 := Aside0.mk hi362_0
        have HC362_0 := Aside0.mk hl362_0
        clear hi362_0 hl362_0
        replace p362 := eq_true p362
        replace q362 := eq_true q362
        go_upto_region 9 with (first | ((with_reducible refine gate_dst (N := 13) rfl ?_); refine box_event ?hg (N := 13) ?hd (cs := #[.slice none 0 0, .int .u64 0, .int .u64 0, .int .u64 0, .int .u64 0, .bool false]) (t := 90) ?hr ?_; (case hd => rfl); (case hg => rfl); (case hr => first | (go_simp; done) | (go_simp; rfl)); intro gb363 hg w14 hbox hb; have n0_ := Aside0.mk (below_step (by repeat (first | (with_reducible first | exact HB.out | apply below_alloc | apply pw_below_drewN | apply below_drew1) | exact HB.out)) hb); have n1_ := Aside0.mk (hbox); have n2_ := Aside0.mk ((by rw [hg]; exact (below_size (by repeat (first | (with_reducible first | exact HB.out | apply below_alloc | apply pw_below_drewN | apply below_drew1) | exact HB.out))) : w.heap.size ≤ gb363)); have n3_ := Aside0.mk ((by rw [hg]; exact (below_size (by repeat (first | (with_reducible first | exact HB.out | apply below_alloc | apply pw_below_drewN | apply below_drew1) | exact HB.out))) : w.heap.size ≤ gb363)); clear HB; have HB := n0_; have BK363 := n1_; have GW363 := n2_; have GE363 := n3_; clear n0_ n1_ n2_ n3_; clear hb hbox hg; have hcz15_0 : w14.cell? ⟨gb363, 0, none⟩ = some (.slice none 0 0) := (blk_cell BK363.out 0).trans rfl; have hcz15_1 : w14.cell? ⟨gb363, 1, none⟩ = some (.int .u64 0) := (blk_cell BK363.out 1).trans rfl; have hcz15_2 : w14.cell? ⟨gb363, 2, none⟩ = some (.int .u64 0) := (blk_cell BK363.out 2).trans rfl; have hcz15_3 : w14.cell? ⟨gb363, 3, none⟩ = some (.int .u64 0) := (blk_cell BK363.out 3).trans rfl; have hcz15_4 : w14.cell? ⟨gb363, 4, none⟩ = some (.int .u64 0) := (blk_cell BK363.out 4).trans rfl; have hcz15_5 : w14.cell? ⟨gb363, 5, none⟩ = some (.bool false) := (blk_cell BK363.out 5).trans rfl; have hfz15_0 := blk_frozen BK363.out 0; have hfz15_1 := blk_frozen BK363.out 1; have hfz15_2 := blk_frozen BK363.out 2; have hfz15_3 := blk_frozen BK363.out 3; have hfz15_4 := blk_frozen BK363.out 4; have hfz15_5 := blk_frozen BK363.out 5; have p364 : 0 ≤ (0 : Int) := (by omega); have q364 : 0 < (((rd_T90 l0 x27_1).f0).length : Int) := of_decide_eq_true (by first | (with_reducible assumption) | assumption); obtain ⟨ad364, e364, hx364_0⟩ := Kd.at_int HR362_0.out 0 p364 q364; cases e364; have qi364 : (0 < ((rd_T90 l0 x27_1).f0).length) = True := eq_true (by omega); (try rw [show ((0 : Int)).toNat = 0 from rfl] at hx364_0); (try rw [Addr.add_zero'] at hx364_0); have hn364_0 : ad364.block ≠ gb363 := Nat.ne_of_lt (Nat.lt_of_lt_of_le (by have := World.block_lt_of_cell? _ _ hx364_0; first | rwa [add_block] at this | exact this) GW363.out); have hn364_1 : ad364.block ≠ gb363 := Nat.ne_of_lt (Nat.lt_of_lt_of_le (by have := World.block_lt_of_cell? _ _ hx364_0; first | rwa [add_block] at this | exact this) GW363.out); have hn364_2 : ad364.block ≠ gb363 := Nat.ne_of_lt (Nat.lt_of_lt_of_le (by have := World.block_lt_of_cell? _ _ hx364_0; first | rwa [add_block] at this | exact this) GW363.out); have hn364_3 : ad364.block ≠ gb363 := Nat.ne_of_lt (Nat.lt_of_lt_of_le (by have := World.block_lt_of_cell? _ _ hx364_0; first | rwa [add_block] at this | exact this) GW363.out); have hn364_4 : ad364.block ≠ gb363 := Nat.ne_of_lt (Nat.lt_of_lt_of_le (by have := World.block_lt_of_cell? _ _ hx364_0; first | rwa [add_block] at this | exact this) GW363.out); have hn364_5 : ad364.block ≠ gb363 := Nat.ne_of_lt (Nat.lt_of_lt_of_le (by have := World.block_lt_of_cell? _ _ hx364_0; first | rwa [add_block] at this | exact this) GW363.out); replace hx364_0 := (HB.out.cell (World.block_lt_of_cell? w _ hx364_0)).trans hx364_0; replace hx364_0 := (cell_far (p := ⟨gb363, 0, none⟩) (by first | (rw [add_block]; exact hn364_0) | (show (Addr.add _ _).block ≠ _; rw [add_block]; exact hn364_0) | exact hn364_0) (.slice (some ad364) ((rd_T90 l0 x27_1).f0).length c362_0)).trans hx364_0; replace hx364_0 := (cell_far (p := ⟨gb363, 1, none⟩) (by first | (rw [add_block]; exact hn364_1) | (show (Addr.add _ _).block ≠ _; rw [add_block]; exact hn364_1) | exact hn364_1) (.int .u64 ((rd_T90 l0 x27_1).f1.f0.f0))).trans hx364_0; replace hx364_0 := (cell_far (p := ⟨gb363, 2, none⟩) (by first | (rw [add_block]; exact hn364_2) | (show (Addr.add _ _).block ≠ _; rw [add_block]; exact hn364_2) | exact hn364_2) (.int .u64 ((rd_T90 l0 x27_1).f1.f0.f1))).trans hx364_0; replace hx364_0 := (cell_far (p := ⟨gb363, 3, none⟩) (by first | (rw [add_block]; exact hn364_3) | (show (Addr.add _ _).block ≠ _; rw [add_block]; exact hn364_3) | exact hn364_3) (.int .u64 ((rd_T90 l0 x27_1).f1.f1))).trans hx364_0; replace hx364_0 := (cell_far (p := ⟨gb363, 4, none⟩) (by first | (rw [add_block]; exact hn364_4) | (show (Addr.add _ _).block ≠ _; rw [add_block]; exact hn364_4) | exact hn364_4) (.int .u64 ((rd_T90 l0 x27_1).f2))).trans hx364_0; replace hx364_0 := (cell_far (p := ⟨gb363, 5, none⟩) (by first | (rw [add_block]; exact hn364_5) | (show (Addr.add _ _).block ≠ _; rw [add_block]; exact hn364_5) | exact hn364_5) (.bool ((rd_T90 l0 x27_1).f3))).trans hx364_0; clear hn364_0; clear hn364_1; clear hn364_2; clear hn364_3; clear hn364_4; clear hn364_5; replace p364 := eq_true p364; replace q364 := eq_true q364) | ((with_reducible refine gate_callee (f := 24) rfl ?_); refine goesL_ (some 37) rfl rfl Tryd.func24 (by kernel_rfl) rfl #[.slice A3 l3.length c3, .int .i64 (rd ((rd_T90 l0 x27_1).f0) 0)] rfl (by (try simp only [List.map_toArray, List.map_cons, List.map_nil]); first | done | rfl | (simp only [List.length_drop, List.length_take]; rfl)) ?_; (with_reducible refine (pick_On.calls _ _ l3 (rd ((rd_T90 l0 x27_1).f0) 0) t365 t366 _ ?side1 ?side2 A12.out).mono ?_); (case side1 => exact Kd.C_below HR3.out (by repeat (first | (with_reducible first | exact HB.out | apply below_alloc | apply pw_below_drewN | apply below_drew1 | refine below_set ?_ GE363.out) | exact HB.out))); (case side2 => exact HC3.out); rintro e w16 ⟨rfl, hb⟩; refine ⟨_, rfl, ?_⟩; have n0_ := Aside0.mk (blk_below (g := gb363) (o := .cells #[.slice (some ad364) ((rd_T90 l0 x27_1).f0).length c362_0, .int .u64 ((rd_T90 l0 x27_1).f1.f0.f0), .int .u64 ((rd_T90 l0 x27_1).f1.f0.f1), .int .u64 ((rd_T90 l0 x27_1).f1.f1), .int .u64 ((rd_T90 l0 x27_1).f2), .bool ((rd_T90 l0 x27_1).f3)] 90 (0, 0)) (by (with_reducible repeat (first | refine blk_drewN ?_ _ | refine blk_drew ?_ | refine blk_alloc ?_ _)); refine blk_put (cs := #[.slice (some ad364) ((rd_T90 l0 x27_1).f0).length c362_0, .int .u64 ((rd_T90 l0 x27_1).f1.f0.f0), .int .u64 ((rd_T90 l0 x27_1).f1.f0.f1), .int .u64 ((rd_T90 l0 x27_1).f1.f1), .int .u64 ((rd_T90 l0 x27_1).f2), .bool false]) ?_ 5 _ rfl; (with_reducible repeat (first | refine blk_drewN ?_ _ | refine blk_drew ?_ | refine blk_alloc ?_ _)); refine blk_put (cs := #[.slice (some ad364) ((rd_T90 l0 x27_1).f0).length c362_0, .int .u64 ((rd_T90 l0 x27_1).f1.f0.f0), .int .u64 ((rd_T90 l0 x27_1).f1.f0.f1), .int .u64 ((rd_T90 l0 x27_1).f1.f1), .int .u64 0, .bool false]) ?_ 4 _ rfl; (with_reducible repeat (first | refine blk_drewN ?_ _ | refine blk_drew ?_ | refine blk_alloc ?_ _)); refine blk_put (cs := #[.slice (some ad364) ((rd_T90 l0 x27_1).f0).length c362_0, .int .u64 ((rd_T90 l0 x27_1).f1.f0.f0), .int .u64 ((rd_T90 l0 x27_1).f1.f0.f1), .int .u64 0, .int .u64 0, .bool false]) ?_ 3 _ rfl; (with_reducible repeat (first | refine blk_drewN ?_ _ | refine blk_drew ?_ | refine blk_alloc ?_ _)); refine blk_put (cs := #[.slice (some ad364) ((rd_T90 l0 x27_1).f0).length c362_0, .int .u64 ((rd_T90 l0 x27_1).f1.f0.f0), .int .u64 0, .int .u64 0, .int .u64 0, .bool false]) ?_ 2 _ rfl; (with_reducible repeat (first | refine blk_drewN ?_ _ | refine blk_drew ?_ | refine blk_alloc ?_ _)); refine blk_put (cs := #[.slice (some ad364) ((rd_T90 l0 x27_1).f0).length c362_0, .int .u64 0, .int .u64 0, .int .u64 0, .int .u64 0, .bool false]) ?_ 1 _ rfl; (with_reducible repeat (first | refine blk_drewN ?_ _ | refine blk_drew ?_ | refine blk_alloc ?_ _)); refine blk_put (cs := #[.slice none 0 0, .int .u64 0, .int .u64 0, .int .u64 0, .int .u64 0, .bool false]) ?_ 0 _ rfl; (with_reducible repeat (first | refine blk_drewN ?_ _ | refine blk_drew ?_ | refine blk_alloc ?_ _)); exact BK363.out) hb); have n1_ := Aside0.mk (below_step (by repeat (first | (with_reducible first | exact HB.out | apply below_alloc | apply pw_below_drewN | apply below_drew1 | refine below_set ?_ GE363.out) | exact HB.out)) hb); clear BK363; clear HB; have BK363 := n0_; have HB := n1_; clear n0_ n1_; (try clear hb); (try clear hb2); (try clear hk); (try clear hi)))
        (try simp only [Act.put, List.setIfInBounds_toArray, List.set_cons_zero, List.set_cons_succ])
        go_cut [47] (fun v47 wc => ∃ (kq : Nat) (x47_12 : Bool), v47 = .bool x47_12 ∧ Aside0 (pick_Idle.j1 kq l1 a2 l3 x11_1 l0 (l0.length : Int) x27_1 x47_12 ((rd_T90 l0 x27_1).f0) ((rd_T90 l0 x27_1).f1.f0.f0) ((rd_T90 l0 x27_1).f1.f0.f1) ((rd_T90 l0 x27_1).f1.f1) ((rd_T90 l0 x27_1).f2) ((rd_T90 l0 x27_1).f3) = some (r1, r2)) ∧ Aside0 (kq ≤ k1) ∧ Aside0 (wc.heap[gb363]? = some (.cells #[(.slice (some ad364) ((rd_T90 l0 x27_1).f0).length c362_0), .int .u64 ((rd_T90 l0 x27_1).f1.f0.f0), .int .u64 ((rd_T90 l0 x27_1).f1.f0.f1), .int .u64 ((rd_T90 l0 x27_1).f1.f1), .int .u64 ((rd_T90 l0 x27_1).f2), .bool ((rd_T90 l0 x27_1).f3)] 90 (0, 0))) ∧ Aside0 (Below w.heap.size w wc))
        case first =>
         have H := HC13.out
         clear HC13
         by_cases c17 : (((rd_T90 l0 x27_1).f0).length : Int) = 1
         ·rw [if_pos c17] at H
          have c17b0 : ((((rd_T90 l0 x27_1).f0).length : Int) == 1) = true := beq_iff_eq.mpr c17
          have c17b1 : ((((rd_T90 l0 x27_1).f0).length : Int) != 1) = false := bne_eq_false_iff_eq.mpr c17
          clear c17
          (first | rw [c17b0] | (simp only [i64_w, i32_w]; rw [c17b0]) | skip)
          have H' := Aside0.mk H
          clear H
          have hcz18_0 : w16.cell? ⟨gb363, 0, none⟩ = some (.slice (some ad364) ((rd_T90 l0 x27_1).f0).length c362_0) := (blk_cell BK363.out 0).trans rfl
          have hcz18_1 : w16.cell? ⟨gb363, 1, none⟩ = some (.int .u64 ((rd_T90 l0 x27_1).f1.f0.f0)) := (blk_cell BK363.out 1).trans rfl
          have hcz18_2 : w16.cell? ⟨gb363, 2, none⟩ = some (.int .u64 ((rd_T90 l0 x27_1).f1.f0.f1)) := (blk_cell BK363.out 2).trans rfl
          have hcz18_3 : w16.cell? ⟨gb363, 3, none⟩ = some (.int .u64 ((rd_T90 l0 x27_1).f1.f1)) := (blk_cell BK363.out 3).trans rfl
          have hcz18_4 : w16.cell? ⟨gb363, 4, none⟩ = some (.int .u64 ((rd_T90 l0 x27_1).f2)) := (blk_cell BK363.out 4).trans rfl
          have hcz18_5 : w16.cell? ⟨gb363, 5, none⟩ = some (.bool ((rd_T90 l0 x27_1).f3)) := (blk_cell BK363.out 5).trans rfl
          have hfz18_0 := blk_frozen BK363.out 0
          have hfz18_1 := blk_frozen BK363.out 1
          have hfz18_2 := blk_frozen BK363.out 2
          have hfz18_3 := blk_frozen BK363.out 3
          have hfz18_4 := blk_frozen BK363.out 4
          have hfz18_5 := blk_frozen BK363.out 5
          go_wp2
          go_meet
          case rel => exact ⟨_, (!t366), (by first | rfl | (simp; done) | (simp [*]; done)), H', ⟨by have := HK1.out; first | omega | exact Nat.le_refl _⟩, ⟨by (with_reducible repeat (first | refine blk_drewN ?_ _ | refine blk_drew ?_ | refine blk_alloc ?_ _)); exact BK363.out⟩, ⟨by repeat (first | (with_reducible first | exact HB.out | apply below_alloc | apply pw_below_drewN | apply below_drew1 | refine below_set ?_ GE363.out) | exact HB.out)⟩⟩
         ·rw [if_neg c17] at H
          have c17b0 : ((((rd_T90 l0 x27_1).f0).length : Int) == 1) = false := beq_eq_false_iff_ne.mpr c17
          have c17b1 : ((((rd_T90 l0 x27_1).f0).length : Int) != 1) = true := bne_iff_ne.mpr c17
          (first | rw [c17b0] | (simp only [i64_w, i32_w]; rw [c17b0]) | skip)
          have H' := Aside0.mk H
          clear H
          have hcz19_0 : w16.cell? ⟨gb363, 0, none⟩ = some (.slice (some ad364) ((rd_T90 l0 x27_1).f0).length c362_0) := (blk_cell BK363.out 0).trans rfl
          have hcz19_1 : w16.cell? ⟨gb363, 1, none⟩ = some (.int .u64 ((rd_T90 l0 x27_1).f1.f0.f0)) := (blk_cell BK363.out 1).trans rfl
          have hcz19_2 : w16.cell? ⟨gb363, 2, none⟩ = some (.int .u64 ((rd_T90 l0 x27_1).f1.f0.f1)) := (blk_cell BK363.out 2).trans rfl
          have hcz19_3 : w16.cell? ⟨gb363, 3, none⟩ = some (.int .u64 ((rd_T90 l0 x27_1).f1.f1)) := (blk_cell BK363.out 3).trans rfl
          have hcz19_4 : w16.cell? ⟨gb363, 4, none⟩ = some (.int .u64 ((rd_T90 l0 x27_1).f2)) := (blk_cell BK363.out 4).trans rfl
          have hcz19_5 : w16.cell? ⟨gb363, 5, none⟩ = some (.bool ((rd_T90 l0 x27_1).f3)) := (blk_cell BK363.out 5).trans rfl
          have hfz19_0 := blk_frozen BK363.out 0
          have hfz19_1 := blk_frozen BK363.out 1
          have hfz19_2 := blk_frozen BK363.out 2
          have hfz19_3 := blk_frozen BK363.out 3
          have hfz19_4 := blk_frozen BK363.out 4
          have hfz19_5 := blk_frozen BK363.out 5
          go_wp2
          go_meet
          case rel => exact ⟨_, (false), (by first | rfl | (simp; done) | (simp [*]; done)), H', ⟨by have := HK1.out; first | omega | exact Nat.le_refl _⟩, ⟨by (with_reducible repeat (first | refine blk_drewN ?_ _ | refine blk_drew ?_ | refine blk_alloc ?_ _)); exact BK363.out⟩, ⟨by repeat (first | (with_reducible first | exact HB.out | apply below_alloc | apply pw_below_drewN | apply below_drew1 | refine below_set ?_ GE363.out) | exact HB.out)⟩⟩
        case rest =>
         clear HC13
         try clear c1
         try clear c2
         try clear p2
         try clear c3
         try clear p3
         try clear q3
         try clear hx3
         try clear qi3
         try clear c6
         try clear c6b0
         try clear c6b1
         try clear c8
         try clear c8b0
         try clear c9
         try clear c9b0
         try clear c10
         try clear c10b0
         try clear c11
         try clear c11b0
         try clear c11b1
         try clear c17
         try clear c17b0
         try clear c17b1
         try clear hcz15_0
         try clear hcz15_1
         try clear hcz15_2
         try clear hcz15_3
         try clear hcz15_4
         try clear hcz15_5
         try clear hcz18_0
         try clear hcz18_1
         try clear hcz18_2
         try clear hcz18_3
         try clear hcz18_4
         try clear hcz18_5
         try clear hcz19_0
         try clear hcz19_1
         try clear hcz19_2
         try clear hcz19_3
         try clear hcz19_4
         try clear hcz19_5
         try clear hfz15_0
         try clear hfz15_1
         try clear hfz15_2
         try clear hfz15_3
         try clear hfz15_4
         try clear hfz15_5
         try clear hfz18_0
         try clear hfz18_1
         try clear hfz18_2
         try clear hfz18_3
         try clear hfz18_4
         try clear hfz18_5
         try clear hfz19_0
         try clear hfz19_1
         try clear hfz19_2
         try clear hfz19_3
         try clear hfz19_4
         try clear hfz19_5
         try clear hx362_0
         try clear hx362_1
         try clear hx362_2
         try clear hx362_3
         try clear hx362_4
         try clear hx362_5
         try clear hx364_0
         try clear p2
         try clear p362
         try clear p364
         try clear q362
         try clear q364
         obtain ⟨kq, x47_12, rfl, HA, HJ12, BK363, HB⟩ := hcut
         cases kq with
         | zero => exact absurd HA.out (by simp [pick_Idle.j1])
         | succ kj12 =>
          have H := HA.out
          clear HA
          simp only [pick_Idle.j1] at H
          by_cases c20 : x47_12 = true
          ·subst c20
           have H1 : ((pick_wishes.f kj12 l1 ((rd_T90 l0 x27_1).f0)).bind fun t367 => (if 0 < (t367.length : Int) then ((mask_Allows.f kj12 ((rd_T36 t367 0).f2.f0) ((rd_T36 t367 0).f2.f1) a2).bind fun t371 => (pick_Idle.l0 kj12 l1 a2 l3 (Go.bits .or .u32 x11_1 t371) l0 (l0.length : Int) (wrap64 (x27_1 + 1)))) else (none))) = some (r1, r2) := by rw [if_pos rfl] at H; exact H
           clear H
           have H := H1
           clear H1
           replace H := Option.bind_eq_some_iff.mp H
           obtain ⟨t367, A210, H⟩ := H
           replace H : (if 0 < (t367.length : Int) then ((mask_Allows.f kj12 ((rd_T36 t367 0).f2.f0) ((rd_T36 t367 0).f2.f1) a2).bind fun t371 => (pick_Idle.l0 kj12 l1 a2 l3 (Go.bits .or .u32 x11_1 t371) l0 (l0.length : Int) (wrap64 (x27_1 + 1)))) else (none)) = some (r1, r2) := H
           have A21 := Aside0.mk A210
           clear A210
           by_cases c22 : 0 < (t367.length : Int)
           ·rw [if_pos c22] at H
            have c22b0 : decide (0 < (t367.length : Int)) = true := decide_eq_true c22
            have c22b1 : decide (0 < t367.length) = true := decide_eq_true (by omega)
            clear c22
            replace H := Option.bind_eq_some_iff.mp H
            obtain ⟨t371, A230, H⟩ := H
            replace H : (pick_Idle.l0 kj12 l1 a2 l3 (Go.bits .or .u32 x11_1 t371) l0 (l0.length : Int) (wrap64 (x27_1 + 1))) = some (r1, r2) := H
            have A23 := Aside0.mk A230
            clear A230
            have H' := Aside0.mk H
            clear H
            have hcz24_0 : wc.cell? ⟨gb363, 0, none⟩ = some (.slice (some ad364) ((rd_T90 l0 x27_1).f0).length c362_0) := (blk_cell BK363.out 0).trans rfl
            have hcz24_1 : wc.cell? ⟨gb363, 1, none⟩ = some (.int .u64 ((rd_T90 l0 x27_1).f1.f0.f0)) := (blk_cell BK363.out 1).trans rfl
            have hcz24_2 : wc.cell? ⟨gb363, 2, none⟩ = some (.int .u64 ((rd_T90 l0 x27_1).f1.f0.f1)) := (blk_cell BK363.out 2).trans rfl
            have hcz24_3 : wc.cell? ⟨gb363, 3, none⟩ = some (.int .u64 ((rd_T90 l0 x27_1).f1.f1)) := (blk_cell BK363.out 3).trans rfl
            have hcz24_4 : wc.cell? ⟨gb363, 4, none⟩ = some (.int .u64 ((rd_T90 l0 x27_1).f2)) := (blk_cell BK363.out 4).trans rfl
            have hcz24_5 : wc.cell? ⟨gb363, 5, none⟩ = some (.bool ((rd_T90 l0 x27_1).f3)) := (blk_cell BK363.out 5).trans rfl
            have hfz24_0 := blk_frozen BK363.out 0
            have hfz24_1 := blk_frozen BK363.out 1
            have hfz24_2 := blk_frozen BK363.out 2
            have hfz24_3 := blk_frozen BK363.out 3
            have hfz24_4 := blk_frozen BK363.out 4
            have hfz24_5 := blk_frozen BK363.out 5
            go_wp2_with (first | ((with_reducible refine gate_callee (f := 67) rfl ?_); refine goesL_ (some 52) rfl rfl Tryd.func67 (by kernel_rfl) rfl #[.slice A1 l1.length c1, .slice (some ad364) ((rd_T90 l0 x27_1).f0).length c362_0] rfl (by (try simp only [List.map_toArray, List.map_cons, List.map_nil]); first | done | rfl | (simp only [List.length_drop, List.length_take]; rfl)) ?_; (with_reducible refine (pick_wishes.calls kj12 _ _ l1 _ _ ((rd_T90 l0 x27_1).f0) t367 _ ?side1 ?side2 ?side3 ?side4 A21.out).mono ?_); (case side1 => repeat (first | exact (Kd.C_below HR1.out HB.out) | (with_reducible refine Kd.C_alloc ?_ _) | (with_reducible refine Kd.C_drewN ?_ _) | (with_reducible refine Kd.C_drew ?_))); (case side2 => exact HC1.out); (case side3 => repeat (first | exact (Kd.C_below HR362_0.out HB.out) | (with_reducible refine Kd.C_alloc ?_ _) | (with_reducible refine Kd.C_drewN ?_ _) | (with_reducible refine Kd.C_drew ?_))); (case side4 => exact HC362_0.out); rintro e w25 ⟨v368, rfl, ho0, hb⟩; refine ⟨_, rfl, ?_⟩; have n0_ := Aside0.mk (Kd.R_lower ho0 (below_size (by repeat (first | (with_reducible first | exact HB.out | apply below_alloc | apply pw_below_drewN | apply below_drew1 | refine below_set ?_ GE363.out) | exact HB.out)))); have n1_ := Aside0.mk (blk_below (g := gb363) (o := .cells #[.slice (some ad364) ((rd_T90 l0 x27_1).f0).length c362_0, .int .u64 ((rd_T90 l0 x27_1).f1.f0.f0), .int .u64 ((rd_T90 l0 x27_1).f1.f0.f1), .int .u64 ((rd_T90 l0 x27_1).f1.f1), .int .u64 ((rd_T90 l0 x27_1).f2), .bool ((rd_T90 l0 x27_1).f3)] 90 (0, 0)) (by (with_reducible repeat (first | refine blk_drewN ?_ _ | refine blk_drew ?_ | refine blk_alloc ?_ _)); exact BK363.out) hb); have n2_ := Aside0.mk (below_step (by repeat (first | (with_reducible first | exact HB.out | apply below_alloc | apply pw_below_drewN | apply below_drew1 | refine below_set ?_ GE363.out) | exact HB.out)) hb); clear BK363; clear HB; have HO369 := n0_; have BK363 := n1_; have HB := n2_; clear n0_ n1_ n2_; (try clear hb); (try clear hb2); (try clear hk); (try clear hi); (try clear ho0); obtain ⟨Ao26, co26, eo26⟩ := Kd.R_slice HO369.out; subst eo26; have p370 : 0 ≤ (0 : Int) := (by omega); have q370 : 0 < (t367.length : Int) := of_decide_eq_true (by first | (with_reducible assumption) | assumption); obtain ⟨ad370, e370, hx370_0, hx370_1, hx370_2, hx370_3⟩ := at_T36 (Kd.R_reads' HO369.out).2.2 0 p370 q370; cases e370; have qi370 : (0 < t367.length) = True := eq_true (by omega); (try rw [show ((0 : Int)).toNat = 0 from rfl] at hx370_0); (try rw [show 0 * 4 = 0 from rfl] at hx370_0); (try rw [Addr.add_zero'] at hx370_0); (try rw [show ((0 : Int)).toNat = 0 from rfl] at hx370_1); (try rw [show 0 * 4 = 0 from rfl] at hx370_1); (try rw [Addr.add_zero'] at hx370_1); (try rw [show ((0 : Int)).toNat = 0 from rfl] at hx370_2); (try rw [show 0 * 4 = 0 from rfl] at hx370_2); (try rw [Addr.add_zero'] at hx370_2); (try rw [show ((0 : Int)).toNat = 0 from rfl] at hx370_3); (try rw [show 0 * 4 = 0 from rfl] at hx370_3); (try rw [Addr.add_zero'] at hx370_3); replace p370 := eq_true p370; replace q370 := eq_true q370) | ((with_reducible refine gate_callee (f := 22) rfl ?_); refine goesL_ (some 57) rfl rfl Tryd.func22 (by kernel_rfl) rfl #[.agg #[.int .u32 ((rd_T36 t367 0).f2.f0), .int .u32 ((rd_T36 t367 0).f2.f1)], .int .u32 a2] rfl (by (try simp only [List.map_toArray, List.map_cons, List.map_nil]); first | done | rfl | (simp only [List.length_drop, List.length_take]; rfl)) ?_; (with_reducible refine (mask_Allows.calls kj12 ((rd_T36 t367 0).f2.f0) ((rd_T36 t367 0).f2.f1) a2 t371 _ A23.out).mono ?_); rintro e w27 ⟨rfl, hb⟩; refine ⟨_, rfl, ?_⟩; have n0_ := Aside0.mk (Kd.R_below (by (with_reducible repeat (first | apply Kd.R_alloc | apply Kd.R_drewN | apply Kd.R_drew)); exact HO369.out) hb); have n1_ := Aside0.mk (blk_below (g := gb363) (o := .cells #[.slice (some ad364) ((rd_T90 l0 x27_1).f0).length c362_0, .int .u64 ((rd_T90 l0 x27_1).f1.f0.f0), .int .u64 ((rd_T90 l0 x27_1).f1.f0.f1), .int .u64 ((rd_T90 l0 x27_1).f1.f1), .int .u64 ((rd_T90 l0 x27_1).f2), .bool ((rd_T90 l0 x27_1).f3)] 90 (0, 0)) (by (with_reducible repeat (first | refine blk_drewN ?_ _ | refine blk_drew ?_ | refine blk_alloc ?_ _)); exact BK363.out) hb); have n2_ := Aside0.mk (below_step (by repeat (first | (with_reducible first | exact HB.out | apply below_alloc | apply pw_below_drewN | apply below_drew1 | refine below_set ?_ GE363.out) | exact HB.out)) hb); clear HO369; clear BK363; clear HB; have HO369 := n0_; have BK363 := n1_; have HB := n2_; clear n0_ n1_ n2_; (try clear hb); (try clear hb2); (try clear hk); (try clear hi)))
            go_roundg kj12
            case measure => have := HK1.out; have := HJ12.out; omega
            case rel => exact ⟨(Go.bits .or .u32 x11_1 t371), (wrap64 (x27_1 + 1)), (by first | rfl | (simp; done) | (simp [*]; done)), (by first | rfl | (simp; done) | (simp [*]; done)), H', ⟨by have := HK1.out; have := HJ12.out; omega⟩, ⟨by repeat (first | (with_reducible first | exact HB.out | apply below_alloc | apply pw_below_drewN | apply below_drew1 | refine below_set ?_ GE363.out) | exact HB.out)⟩⟩
           ·rw [if_neg c22] at H
            exact absurd H (by simp)
          ·replace c20 := Bool.eq_false_iff.mpr c20
           subst c20
           have H1 : (pick_Idle.l0 kj12 l1 a2 l3 x11_1 l0 (l0.length : Int) (wrap64 (x27_1 + 1))) = some (r1, r2) := by rw [if_neg (show ¬ (false = true) by decide)] at H; exact H
           clear H
           have H := H1
           clear H1
           have H' := Aside0.mk H
           clear H
           go_wp2
           go_roundg kj12
           case measure => have := HK1.out; have := HJ12.out; omega
           case rel => exact ⟨(x11_1), (wrap64 (x27_1 + 1)), (by first | rfl | (simp; done) | (simp [*]; done)), (by first | rfl | (simp; done) | (simp [*]; done)), H', ⟨by have := HK1.out; have := HJ12.out; omega⟩, ⟨by repeat (first | (with_reducible first | exact HB.out | apply below_alloc | apply pw_below_drewN | apply below_drew1 | refine below_set ?_ GE363.out) | exact HB.out)⟩⟩
       ·rw [if_neg c11] at H
        exact absurd H (by simp)
      ·rw [if_neg c10] at H
       exact absurd H (by simp)
     ·rw [if_neg c9] at H
      exact absurd H (by simp)
    ·rw [if_neg c8] at H
     have c8b0 : decide (x27_1 < (l0.length : Int)) = false := decide_eq_false c8
     clear c8
     have H' := Aside0.mk H
     clear H
     go_wp2
     go_loopg [11, 62] k1 (fun kq v11 v62 w' => ∃ (x11_2 : Int) (x62_2 : Int), v11 = .int .u32 x11_2 ∧ v62 = .int .i64 x62_2 ∧ Aside0 (pick_Idle.l1 kq x11_2 l3 (l3.length : Int) x62_2 = some (r1, r2)) ∧ Aside0 (kq ≤ k1) ∧ Aside0 (Below w.heap.size w w'))
     case atStart => exact ⟨(x11_1), (0), (by first | rfl | (simp; done) | (simp [*]; done)), (by first | rfl | (simp; done) | (simp [*]; done)), H', ⟨Nat.le_refl _⟩, ⟨by repeat (first | (with_reducible first | exact HB.out | apply below_alloc | apply pw_below_drewN | apply below_drew1) | exact HB.out)⟩⟩
     case round =>
      clear H'
      try clear c1
      try clear c2
      try clear p2
      try clear c3
      try clear p3
      try clear q3
      try clear hx3
      try clear qi3
      try clear c6
      try clear c6b0
      try clear c6b1
      try clear p6
      try clear c8
      try clear c8b0
      try clear c9
      try clear c9b0
      try clear c10
      try clear c10b0
      try clear c11
      try clear c11b0
      try clear c11b1
      try clear c17
      try clear c17b0
      try clear c17b1
      try clear c20
      try clear c22
      try clear c22b0
      try clear c22b1
      try clear c24
      try clear c25
      try clear hcz15_0
      try clear hcz15_1
      try clear hcz15_2
      try clear hcz15_3
      try clear hcz15_4
      try clear hcz15_5
      try clear hcz18_0
      try clear hcz18_1
      try clear hcz18_2
      try clear hcz18_3
      try clear hcz18_4
      try clear hcz18_5
      try clear hcz19_0
      try clear hcz19_1
      try clear hcz19_2
      try clear hcz19_3
      try clear hcz19_4
      try clear hcz19_5
      try clear hcz24_0
      try clear hcz24_1
      try clear hcz24_2
      try clear hcz24_3
      try clear hcz24_4
      try clear hcz24_5
      try clear hfz15_0
      try clear hfz15_1
      try clear hfz15_2
      try clear hfz15_3
      try clear hfz15_4
      try clear hfz15_5
      try clear hfz18_0
      try clear hfz18_1
      try clear hfz18_2
      try clear hfz18_3
      try clear hfz18_4
      try clear hfz18_5
      try clear hfz19_0
      try clear hfz19_1
      try clear hfz19_2
      try clear hfz19_3
      try clear hfz19_4
      try clear hfz19_5
      try clear hfz24_0
      try clear hfz24_1
      try clear hfz24_2
      try clear hfz24_3
      try clear hfz24_4
      try clear hfz24_5
      try clear hx362_0
      try clear hx362_1
      try clear hx362_2
      try clear hx362_3
      try clear hx362_4
      try clear hx362_5
      try clear hx364_0
      try clear hx370_0
      try clear hx370_1
      try clear hx370_2
      try clear hx370_3
      try clear p2
      try clear p3
      try clear p362
      try clear p364
      try clear p370
      try clear q3
      try clear q362
      try clear q364
      try clear q370
      obtain ⟨x11_2, x62_2, rfl, rfl, HA, HK2, HB⟩ := hrel
      cases gk with
      | zero => exact absurd HA.out (by simp [pick_Idle.l1])
      | succ k2 =>
       have H := HA.out
       clear HA
       simp only [pick_Idle.l1] at H
       by_cases c28 : x62_2 < (l3.length : Int)
       ·rw [if_pos c28] at H
        have c28b0 : decide (x62_2 < (l3.length : Int)) = true := decide_eq_true c28
        clear c28
        by_cases c29 : 0 ≤ x62_2
        ·rw [if_pos c29] at H
         have c29b0 : decide (0 ≤ x62_2) = true := decide_eq_true c29
         clear c29
         by_cases c30 : x62_2 < (l3.length : Int)
         ·rw [if_pos c30] at H
          have c30b0 : decide (x62_2 < (l3.length : Int)) = true := decide_eq_true c30
          clear c30
          by_cases c31 : ((rd_T31 l3 x62_2).f1) ≥ 0
          ·rw [if_pos c31] at H
           have c31b0 : decide (0 ≤ ((rd_T31 l3 x62_2).f1)) = true := decide_eq_true c31
           clear c31
           by_cases c32 : ((rd_T31 l3 x62_2).f1) < 8
           ·rw [if_pos c32] at H
            have c32b0 : decide (((rd_T31 l3 x62_2).f1) < 8) = true := decide_eq_true c32
            clear c32
            by_cases c33 : 0 ≤ ((rd_T31 l3 x62_2).f1)
            ·rw [if_pos c33] at H
             have c33b0 := eq_true c33
             have c33b1 : decide (0 ≤ ((rd_T31 l3 x62_2).f1)) = true := decide_eq_true c33
             clear c33
             obtain ⟨ji34, hji34⟩ : ∃ j_ : Int, (shl .u32 1 ((rd_T31 l3 x62_2).f1)) = j_ := ⟨_, rfl⟩
             replace H : (pick_Idle.l1 k2 (Go.bits .andNot .u32 x11_2 (ji34)) l3 (l3.length : Int) (wrap64 (x62_2 + 1))) = some (r1, r2) := by first | (rw [hji34] at H; exact H) | (simp only [hji34] at H ⊢; exact H)
             have hji34_ : (IntKind.u32.wrap (1 * 2 ^ min ((rd_T31 l3 x62_2).f1).toNat 32)) = ji34 := hji34
             have hji34z : ((rd_T31 l3 x62_2).f1) ≤ 32 → (IntKind.u32.wrap (1 * 2 ^ ((rd_T31 l3 x62_2).f1).toNat)) = ji34 := shl_small hji34
             have hji34u : (IntKind.u32.wrap (2 ^ min ((rd_T31 l3 x62_2).f1).toNat 32)) = ji34 := by have h_ := hji34_; rw [Int.one_mul] at h_; exact h_
             have hji34v : ((rd_T31 l3 x62_2).f1) ≤ 32 → (IntKind.u32.wrap (2 ^ ((rd_T31 l3 x62_2).f1).toNat)) = ji34 := fun hle_ => by have h_ := hji34z hle_; rw [Int.one_mul] at h_; exact h_
             have H' := Aside0.mk H
             clear H
             have p372 : 0 ≤ (x62_2 : Int) := of_decide_eq_true (by first | (with_reducible assumption) | assumption)
             have q372 : x62_2 < (l3.length : Int) := of_decide_eq_true (by first | (with_reducible assumption) | assumption)
             obtain ⟨ad372, e372, hx372_0, hx372_1⟩ := at_T31 HR3.out x62_2 p372 q372
             cases e372
             replace hx372_0 := (HB.out.cell (World.block_lt_of_cell? w _ hx372_0)).trans hx372_0
             replace hx372_1 := (HB.out.cell (World.block_lt_of_cell? w _ hx372_1)).trans hx372_1
             replace p372 := eq_true p372
             replace q372 := eq_true q372
             go_wp2_with (first | ((with_reducible refine gate_dst (N := 17) rfl ?_); refine box_event ?hg (N := 17) ?hd (cs := #[.int .i64 0, .int .i64 0]) (t := 31) ?hr ?_; (case hd => rfl); (case hg => rfl); (case hr => first | (go_simp; done) | (go_simp; rfl)); intro gb373 hg w35 hbox hb; have n0_ := Aside0.mk (below_step (by repeat (first | (with_reducible first | exact HB.out | apply below_alloc | apply pw_below_drewN | apply below_drew1) | exact HB.out)) hb); have n1_ := Aside0.mk (hbox); have n2_ := Aside0.mk ((by rw [hg]; exact (below_size (by repeat (first | (with_reducible first | exact HB.out | apply below_alloc | apply pw_below_drewN | apply below_drew1) | exact HB.out))) : w.heap.size ≤ gb373)); have n3_ := Aside0.mk ((by rw [hg]; exact (below_size (by repeat (first | (with_reducible first | exact HB.out | apply below_alloc | apply pw_below_drewN | apply below_drew1) | exact HB.out))) : w.heap.size ≤ gb373)); clear HB; have HB := n0_; have BK373 := n1_; have GW373 := n2_; have GE373 := n3_; clear n0_ n1_ n2_ n3_; clear hb hbox hg; have hcz36_0 : w35.cell? ⟨gb373, 0, none⟩ = some (.int .i64 0) := (blk_cell BK373.out 0).trans rfl; have hcz36_1 : w35.cell? ⟨gb373, 1, none⟩ = some (.int .i64 0) := (blk_cell BK373.out 1).trans rfl; have hfz36_0 := blk_frozen BK373.out 0; have hfz36_1 := blk_frozen BK373.out 1))
             go_roundg k2
             case measure => have := HK1.out; have := HK2.out; omega
             case rel => exact ⟨(Go.bits .andNot .u32 x11_2 (ji34)), (wrap64 (x62_2 + 1)), (by first | rfl | (simp; done) | (simp only [← hji34] <;> (first | rfl | simp)) | (simp [*]; done)), (by first | rfl | (simp; done) | (simp [*]; done)), H', ⟨by have := HK1.out; have := HK2.out; omega⟩, ⟨by repeat (first | (with_reducible first | exact HB.out | apply below_alloc | apply pw_below_drewN | apply below_drew1 | refine below_set ?_ GE373.out) | exact HB.out)⟩⟩
            ·rw [if_neg c33] at H
             exact absurd H (by simp)
           ·rw [if_neg c32] at H
            have c32b0 : decide (((rd_T31 l3 x62_2).f1) < 8) = false := decide_eq_false c32
            clear c32
            have H' := Aside0.mk H
            clear H
            have p372 : 0 ≤ (x62_2 : Int) := of_decide_eq_true (by first | (with_reducible assumption) | assumption)
            have q372 : x62_2 < (l3.length : Int) := of_decide_eq_true (by first | (with_reducible assumption) | assumption)
            obtain ⟨ad372, e372, hx372_0, hx372_1⟩ := at_T31 HR3.out x62_2 p372 q372
            cases e372
            replace hx372_0 := (HB.out.cell (World.block_lt_of_cell? w _ hx372_0)).trans hx372_0
            replace hx372_1 := (HB.out.cell (World.block_lt_of_cell? w _ hx372_1)).trans hx372_1
            replace p372 := eq_true p372
            replace q372 := eq_true q372
            go_wp2_with (first | ((with_reducible refine gate_dst (N := 17) rfl ?_); refine box_event ?hg (N := 17) ?hd (cs := #[.int .i64 0, .int .i64 0]) (t := 31) ?hr ?_; (case hd => rfl); (case hg => rfl); (case hr => first | (go_simp; done) | (go_simp; rfl)); intro gb373 hg w37 hbox hb; have n0_ := Aside0.mk (below_step (by repeat (first | (with_reducible first | exact HB.out | apply below_alloc | apply pw_below_drewN | apply below_drew1) | exact HB.out)) hb); have n1_ := Aside0.mk (hbox); have n2_ := Aside0.mk ((by rw [hg]; exact (below_size (by repeat (first | (with_reducible first | exact HB.out | apply below_alloc | apply pw_below_drewN | apply below_drew1) | exact HB.out))) : w.heap.size ≤ gb373)); have n3_ := Aside0.mk ((by rw [hg]; exact (below_size (by repeat (first | (with_reducible first | exact HB.out | apply below_alloc | apply pw_below_drewN | apply below_drew1) | exact HB.out))) : w.heap.size ≤ gb373)); clear HB; have HB := n0_; have BK373 := n1_; have GW373 := n2_; have GE373 := n3_; clear n0_ n1_ n2_ n3_; clear hb hbox hg; have hcz38_0 : w37.cell? ⟨gb373, 0, none⟩ = some (.int .i64 0) := (blk_cell BK373.out 0).trans rfl; have hcz38_1 : w37.cell? ⟨gb373, 1, none⟩ = some (.int .i64 0) := (blk_cell BK373.out 1).trans rfl; have hfz38_0 := blk_frozen BK373.out 0; have hfz38_1 := blk_frozen BK373.out 1))
            go_roundg k2
            case measure => have := HK1.out; have := HK2.out; omega
            case rel => exact ⟨(x11_2), (wrap64 (x62_2 + 1)), (by first | rfl | (simp; done) | (simp [*]; done)), (by first | rfl | (simp; done) | (simp [*]; done)), H', ⟨by have := HK1.out; have := HK2.out; omega⟩, ⟨by repeat (first | (with_reducible first | exact HB.out | apply below_alloc | apply pw_below_drewN | apply below_drew1 | refine below_set ?_ GE373.out) | exact HB.out)⟩⟩
          ·rw [if_neg c31] at H
           have c31b0 : decide (0 ≤ ((rd_T31 l3 x62_2).f1)) = false := decide_eq_false c31
           clear c31
           have H' := Aside0.mk H
           clear H
           have p372 : 0 ≤ (x62_2 : Int) := of_decide_eq_true (by first | (with_reducible assumption) | assumption)
           have q372 : x62_2 < (l3.length : Int) := of_decide_eq_true (by first | (with_reducible assumption) | assumption)
           obtain ⟨ad372, e372, hx372_0, hx372_1⟩ := at_T31 HR3.out x62_2 p372 q372
           cases e372
           replace hx372_0 := (HB.out.cell (World.block_lt_of_cell? w _ hx372_0)).trans hx372_0
           replace hx372_1 := (HB.out.cell (World.block_lt_of_cell? w _ hx372_1)).trans hx372_1
           replace p372 := eq_true p372
           replace q372 := eq_true q372
           go_wp2_with (first | ((with_reducible refine gate_dst (N := 17) rfl ?_); refine box_event ?hg (N := 17) ?hd (cs := #[.int .i64 0, .int .i64 0]) (t := 31) ?hr ?_; (case hd => rfl); (case hg => rfl); (case hr => first | (go_simp; done) | (go_simp; rfl)); intro gb373 hg w39 hbox hb; have n0_ := Aside0.mk (below_step (by repeat (first | (with_reducible first | exact HB.out | apply below_alloc | apply pw_below_drewN | apply below_drew1) | exact HB.out)) hb); have n1_ := Aside0.mk (hbox); have n2_ := Aside0.mk ((by rw [hg]; exact (below_size (by repeat (first | (with_reducible first | exact HB.out | apply below_alloc | apply pw_below_drewN | apply below_drew1) | exact HB.out))) : w.heap.size ≤ gb373)); have n3_ := Aside0.mk ((by rw [hg]; exact (below_size (by repeat (first | (with_reducible first | exact HB.out | apply below_alloc | apply pw_below_drewN | apply below_drew1) | exact HB.out))) : w.heap.size ≤ gb373)); clear HB; have HB := n0_; have BK373 := n1_; have GW373 := n2_; have GE373 := n3_; clear n0_ n1_ n2_ n3_; clear hb hbox hg; have hcz40_0 : w39.cell? ⟨gb373, 0, none⟩ = some (.int .i64 0) := (blk_cell BK373.out 0).trans rfl; have hcz40_1 : w39.cell? ⟨gb373, 1, none⟩ = some (.int .i64 0) := (blk_cell BK373.out 1).trans rfl; have hfz40_0 := blk_frozen BK373.out 0; have hfz40_1 := blk_frozen BK373.out 1))
           go_roundg k2
           case measure => have := HK1.out; have := HK2.out; omega
           case rel => exact ⟨(x11_2), (wrap64 (x62_2 + 1)), (by first | rfl | (simp; done) | (simp [*]; done)), (by first | rfl | (simp; done) | (simp [*]; done)), H', ⟨by have := HK1.out; have := HK2.out; omega⟩, ⟨by repeat (first | (with_reducible first | exact HB.out | apply below_alloc | apply pw_below_drewN | apply below_drew1 | refine below_set ?_ GE373.out) | exact HB.out)⟩⟩
         ·rw [if_neg c30] at H
          exact absurd H (by simp)
        ·rw [if_neg c29] at H
         exact absurd H (by simp)
       ·rw [if_neg c28] at H
        have c28b0 : decide (x62_2 < (l3.length : Int)) = false := decide_eq_false c28
        clear c28
        replace H := Option.bind_eq_some_iff.mp H
        obtain ⟨t374, A410, H⟩ := H
        replace H : (some (t374, 0)) = some (r1, r2) := H
        have A41 := Aside0.mk A410
        clear A410
        simp only [Option.some.injEq, Prod.mk.injEq] at H
        obtain ⟨rfl, rfl⟩ := H
        go_wp2_with (first | ((with_reducible refine gate_callee (f := 68) rfl ?_); refine goesL_ (some 81) rfl rfl Tryd.func68 (by kernel_rfl) rfl #[.int .u32 x11_2] rfl (by (try simp only [List.map_toArray, List.map_cons, List.map_nil]); first | done | rfl | (simp only [List.length_drop, List.length_take]; rfl)) ?_; (with_reducible refine (cpuset_List.calls x11_2 t374 _ ?tb A41.out).mono ?_); (case tb => exact HT.out.step (by repeat (first | (with_reducible first | exact HB.out | apply below_alloc | apply pw_below_drewN | apply below_drew1) | exact HB.out))); rintro e w42 ⟨v375, rfl, ho0, hb⟩; refine ⟨_, rfl, ?_⟩; have n0_ := Aside0.mk (Kd.R_lower ho0 (below_size (by repeat (first | (with_reducible first | exact HB.out | apply below_alloc | apply pw_below_drewN | apply below_drew1) | exact HB.out)))); have n1_ := Aside0.mk (below_step (by repeat (first | (with_reducible first | exact HB.out | apply below_alloc | apply pw_below_drewN | apply below_drew1) | exact HB.out)) hb); clear HB; have HO376 := n0_; have HB := n1_; clear n0_ n1_; (try clear hb); (try clear hb2); (try clear hk); (try clear hi); (try clear ho0)))
        go_ret2
        exact ⟨_, by first | rfl | (simp [errW_none, errW_some] <;> rfl) | (simp [*, errW_none, errW_some] <;> rfl), by (with_reducible repeat (first | apply Kd.R_alloc | apply Kd.R_drewN | apply Kd.R_drew)); exact HO376.out, by repeat (first | (with_reducible first | exact HB.out | apply below_alloc | apply pw_below_drewN | apply below_drew1) | exact HB.out)⟩
 ·rw [if_neg c6] at H
  have c6b0 : (t361 == 0) = false := beq_eq_false_iff_ne.mpr c6
  have c6b1 : (t361 != 0) = true := bne_iff_ne.mpr c6
  simp only [Option.some.injEq, Prod.mk.injEq] at H
  obtain ⟨rfl, rfl⟩ := H
  go_enter Tryd.func25, Tryd.ntmps25
  go_wp2_with (first | ((with_reducible refine gate_callee (f := 60) rfl ?_); refine goesL_ (some 21) rfl rfl Tryd.func60 (by kernel_rfl) rfl #[.slice A0 l0.length c0, .slice A1 l1.length c1, .int .u32 a2] rfl (by (try simp only [List.map_toArray, List.map_cons, List.map_nil]); first | done | rfl | (simp only [List.length_drop, List.length_take]; rfl)) ?_; (with_reducible refine (pick_asked.calls _ _ l0 _ _ l1 a2 t361 _ ?side1 ?side2 ?side3 ?side4 A5.out).mono ?_); (case side1 => repeat (first | exact HR0.out | (with_reducible refine Kd.C_alloc ?_ _) | (with_reducible refine Kd.C_drewN ?_ _) | (with_reducible refine Kd.C_drew ?_))); (case side2 => exact HC0.out); (case side3 => repeat (first | exact HR1.out | (with_reducible refine Kd.C_alloc ?_ _) | (with_reducible refine Kd.C_drewN ?_ _) | (with_reducible refine Kd.C_drew ?_))); (case side4 => exact HC1.out); rintro e w43 ⟨rfl, hb⟩; refine ⟨_, rfl, ?_⟩; have n0_ := Aside0.mk (below_step (by repeat (first | (with_reducible first | exact HB.out | apply below_alloc | apply pw_below_drewN | apply below_drew1) | exact HB.out)) hb); clear HB; have HB := n0_; clear n0_; (try clear hb); (try clear hb2); (try clear hk); (try clear hi)))
  go_ret2
  exact ⟨_, by first | rfl | (simp [errW_none, errW_some] <;> rfl) | (simp [*, errW_none, errW_some] <;> rfl), by first | exact Kd.R_nil _ _ _ _ _ | exact Kd.N_nil _ _ _ _ _ | exact Kd.V_nil _ _ _ _ _ | exact Kd.Q_nil _ _ _ _ _ | exact Kd.S_nil _ _ _ _ _, by repeat (first | (with_reducible first | exact HB.out | apply below_alloc | apply pw_below_drewN | apply below_drew1) | exact HB.out)⟩

end Go.Proofs.YtdmieaidheelbaaDoor.Q
end
/- TellsV -/
section
/- What the answers that PickTells compares are worth, at any placements: who is where, whole, idle. Lists and numbers alone. -/
namespace Go.Proofs.YtdmieaidheelbaaDoor.Q
open Go Go.RowKit Go.Proofs.YtdmieaidheelbaaDoorW.PrintWords Go.Proofs.YtdmieaidheelbaaDoorW.PrintLast Go.Proofs.YtdmieaidheelbaaDoorW.PrintMore
set_option linter.unusedVariables false
set_option linter.unusedSimpArgs false

theorem rd31_eq2 (l : List S31) (i : Nat) (h : i < l.length) : rd_T31 l (i : Int) = l[i] := by simp [rd_T31, h]
theorem ron_loop (l : List S31) (hl : l.length ≤ 1000000) (v : Int) (d : Nat) : ∀ (k i : Nat), i + d = l.length → d < k → mainsheetref19_On.l0 k l v (i : Int) = some (onP (l.drop i) v) := by
  induction d with
  | zero =>
    intro k i hi hk
    obtain ⟨k, rfl⟩ : ∃ m, k = m + 1 := ⟨k - 1, by omega⟩
    rw [mainsheetref19_On.l0, if_neg (by omega), List.drop_eq_nil_of_le (by omega)]
    rfl
  | succ d ih =>
    intro k i hi hk
    obtain ⟨k, rfl⟩ : ∃ m, k = m + 1 := ⟨k - 1, by omega⟩
    have hlt : i < l.length := by omega
    rw [mainsheetref19_On.l0, if_pos (by omega), if_pos (by omega), rd31_eq2 l i hlt, w64 _ (by omega) (by omega), show (i : Int) + 1 = ((i + 1 : Nat) : Int) by omega, ih k (i + 1) (by omega) (by omega), List.drop_eq_getElem_cons hlt]
    unfold onP
    rw [List.find?_cons]
    by_cases h : l[i].f0 = v
    · rw [if_pos h, show (l[i].f0 == v) = true by simpa using h]
    · rw [if_neg h, show (l[i].f0 == v) = false by simpa using h]
theorem rOn_val (l : List S31) (hl : l.length ≤ 1000000) (v : Int) (k : Nat) (hk : l.length < k) : mainsheetref19_On.f k l v = some (onP l v) := by
  unfold mainsheetref19_On.f
  have := ron_loop l hl v l.length k 0 (by omega) hk
  simpa using this
theorem rat_loop (l : List S31) (hl : l.length ≤ 1000000) (v : Int) (d : Nat) : ∀ (k i : Nat), i + d = l.length → d < k → mainsheetref19_At.l0 k l v (i : Int) = some (atP (l.drop i) v) := by
  induction d with
  | zero =>
    intro k i hi hk
    obtain ⟨k, rfl⟩ : ∃ m, k = m + 1 := ⟨k - 1, by omega⟩
    rw [mainsheetref19_At.l0, if_neg (by omega), List.drop_eq_nil_of_le (by omega)]
    rfl
  | succ d ih =>
    intro k i hi hk
    obtain ⟨k, rfl⟩ : ∃ m, k = m + 1 := ⟨k - 1, by omega⟩
    have hlt : i < l.length := by omega
    rw [mainsheetref19_At.l0, if_pos (by omega), if_pos (by omega), rd31_eq2 l i hlt, w64 _ (by omega) (by omega), show (i : Int) + 1 = ((i + 1 : Nat) : Int) by omega, ih k (i + 1) (by omega) (by omega), List.drop_eq_getElem_cons hlt]
    unfold atP
    rw [List.find?_cons]
    by_cases h : l[i].f1 = v
    · rw [if_pos h, show (l[i].f1 == v) = true by simpa using h]
    · rw [if_neg h, show (l[i].f1 == v) = false by simpa using h]
theorem rAt_val (l : List S31) (hl : l.length ≤ 1000000) (v : Int) (k : Nat) (hk : l.length < k) : mainsheetref19_At.f k l v = some (atP l v) := by
  unfold mainsheetref19_At.f
  have := rat_loop l hl v l.length k 0 (by omega) hk
  simpa using this
theorem at_any (l : List S31) (v : Int) : (atP l v).2 = l.any (fun p => p.f1 == v) := by
  unfold atP
  induction l with
  | nil => rfl
  | cons x l ih =>
    rw [List.find?_cons, List.any_cons]
    cases h : (x.f1 == v) with
    | true => rfl
    | false => rw [Bool.false_or]; exact ih

def cntOn (ps : List S31) (ms : List Int) : Nat := ms.countP (fun v => (onP ps v).2)
def wholeP (ps : List S31) : List Ent → Bool
  | [] => true
  | x :: l => if 0 < cntOn ps x.f0 ∧ cntOn ps x.f0 < x.f0.length then false else wholeP ps l
theorem cnt_cons (ps : List S31) (v : Int) (ms : List Int) : cntOn ps (v :: ms) = cntOn ps ms + if (onP ps v).2 = true then 1 else 0 := by unfold cntOn; rw [List.countP_cons]
theorem cnt_le (ps : List S31) (ms : List Int) : cntOn ps ms ≤ ms.length := List.countP_le_length
theorem cnt_some (ps : List S31) (ms : List Int) : (0 < cntOn ps ms) ↔ ms.any (fun v => (onP ps v).2) = true := by
  unfold cntOn; rw [List.countP_pos_iff, List.any_eq_true]
theorem cnt_all (ps : List S31) (ms : List Int) : (cntOn ps ms < ms.length) ↔ ms.all (fun v => (onP ps v).2) = false := by
  have h1 := cnt_le ps ms
  have h2 : cntOn ps ms = ms.length ↔ ∀ v ∈ ms, (onP ps v).2 = true := by unfold cntOn; exact List.countP_eq_length
  have h3 : ms.all (fun v => (onP ps v).2) = true ↔ ∀ v ∈ ms, (onP ps v).2 = true := List.all_eq_true
  rw [← Bool.not_eq_true, h3, ← h2]
  omega
section
variable (l : List Ent) (ps : List S31) (hpl : ps.length ≤ 1000000) (hl : l.length ≤ 1000000)
include hpl hl
theorem pw_inner (i : Nat) (hi : i < l.length) (hlen : l[i].f0.length ≤ 1000) (K : Nat) (R : Bool) (hnext : ∀ k, K ≤ k → pick_Whole.l0 k ps l (l.length : Int) ((i + 1 : Nat) : Int) = some R) (d : Nat) : ∀ (k j n : Nat), j + d = l[i].f0.length → K + d + 1 ≤ k → n ≤ j →
    pick_Whole.l1 k ps (n : Int) l (l.length : Int) (i : Int) l[i].f0 (l[i].f0.length : Int) (j : Int) l[i].f0 l[i].f1.f0.f0 l[i].f1.f0.f1 l[i].f1.f1 l[i].f2 l[i].f3 = some (if 0 < n + cntOn ps (l[i].f0.drop j) ∧ n + cntOn ps (l[i].f0.drop j) < l[i].f0.length then false else R) := by
  induction d with
  | zero =>
    intro k j n hj hk hn
    obtain ⟨k, rfl⟩ : ∃ m, k = m + 1 := ⟨k - 1, by omega⟩
    rw [pick_Whole.l1, if_neg (by omega), w64 _ (by omega) (by omega), show (i : Int) + 1 = ((i + 1 : Nat) : Int) by omega, hnext k (by omega), List.drop_eq_nil_of_le (by omega), show cntOn ps [] = 0 from rfl, Nat.add_zero]
    by_cases h0 : 0 < n
    · rw [if_pos (by omega)]
      by_cases h1 : n < l[i].f0.length
      · rw [if_pos (by omega), if_pos ⟨h0, h1⟩]
      · rw [if_neg (by omega), if_neg (fun h => h1 h.2)]
    · rw [if_neg (by omega), if_neg (fun h => h0 h.1)]
  | succ d ih =>
    intro k j n hj hk hn
    obtain ⟨k, rfl⟩ : ∃ m, k = m + 1 := ⟨k - 1, by omega⟩
    have hjl : j < l[i].f0.length := by omega
    rw [pick_Whole.l1, if_pos (by omega), if_pos (by omega), if_pos (by omega), rd_eq _ _ hjl, On_val ps hpl, Option.bind_some, w64 ((j : Int) + 1) (by omega) (by omega), show (j : Int) + 1 = ((j + 1 : Nat) : Int) by omega, w64 ((n : Int) + 1) (by omega) (by omega), show (n : Int) + 1 = ((n + 1 : Nat) : Int) by omega, List.drop_eq_getElem_cons hjl, cnt_cons]
    by_cases hq : (onP ps l[i].f0[j]).2 = true
    · rw [if_pos hq, if_pos hq, ih k (j + 1) (n + 1) (by omega) (by omega) (by omega), show n + 1 + cntOn ps (l[i].f0.drop (j + 1)) = n + (cntOn ps (l[i].f0.drop (j + 1)) + 1) by omega]
    · rw [if_neg hq, if_neg hq, Nat.add_zero]
      exact ih k (j + 1) n (by omega) (by omega) (by omega)
theorem pw_outer (hlen : ∀ x ∈ l, x.f0.length ≤ 40) (d : Nat) : ∀ (k i : Nat), i + d = l.length → d * 50 + 1 ≤ k → pick_Whole.l0 k ps l (l.length : Int) (i : Int) = some (wholeP ps (l.drop i)) := by
  induction d with
  | zero =>
    intro k i hi hk
    obtain ⟨k, rfl⟩ : ∃ m, k = m + 1 := ⟨k - 1, by omega⟩
    rw [pick_Whole.l0, if_neg (by omega), List.drop_eq_nil_of_le (by omega)]
    rfl
  | succ d ih =>
    intro k i hi hk
    obtain ⟨k, rfl⟩ : ∃ m, k = m + 1 := ⟨k - 1, by omega⟩
    have hil : i < l.length := by omega
    have h40 := hlen _ (List.getElem_mem hil)
    have := pw_inner l ps hpl hl i hil (by omega) (d * 50 + 1) _ (fun k' hk' => ih k' (i + 1) (by omega) hk') l[i].f0.length k 0 0 (by omega) (by omega) (by omega)
    rw [List.drop_zero, Nat.zero_add] at this
    rw [pick_Whole.l0, if_pos (by omega), if_pos (by omega), if_pos (by omega), rd90_eq l i hil, List.drop_eq_getElem_cons hil]
    exact this
theorem rw_inner (i : Nat) (hi : i < l.length) (hlen : l[i].f0.length ≤ 1000) (K : Nat) (hKp : ps.length < K) (R : Bool) (hnext : ∀ k, K ≤ k → mainsheetref19_Whole.l0 k l ps ((i + 1 : Nat) : Int) = some R) (d : Nat) : ∀ (k j : Nat) (s a : Bool), j + d = l[i].f0.length → K + d + 1 ≤ k →
    mainsheetref19_Whole.l1 k l ps (i : Int) s a (j : Int) = some (if (s || (l[i].f0.drop j).any (fun v => (onP ps v).2)) = true ∧ (a && (l[i].f0.drop j).all (fun v => (onP ps v).2)) = false then false else R) := by
  induction d with
  | zero =>
    intro k j s a hj hk
    obtain ⟨k, rfl⟩ : ∃ m, k = m + 1 := ⟨k - 1, by omega⟩
    rw [mainsheetref19_Whole.l1, if_pos (by omega), if_pos (by omega), rd90_eq l i hi, if_neg (by omega), w64 _ (by omega) (by omega), show (i : Int) + 1 = ((i + 1 : Nat) : Int) by omega, hnext k (by omega), List.drop_eq_nil_of_le (by omega)]
    cases s <;> cases a <;> simp
  | succ d ih =>
    intro k j s a hj hk
    obtain ⟨k, rfl⟩ : ∃ m, k = m + 1 := ⟨k - 1, by omega⟩
    have hjl : j < l[i].f0.length := by omega
    rw [mainsheetref19_Whole.l1, if_pos (by omega), if_pos (by omega), rd90_eq l i hi, if_pos (by omega), if_pos (by omega), rd_eq _ _ hjl, rOn_val ps hpl _ k (by omega), Option.bind_some, w64 ((j : Int) + 1) (by omega) (by omega), show (j : Int) + 1 = ((j + 1 : Nat) : Int) by omega, List.drop_eq_getElem_cons hjl, List.any_cons, List.all_cons]
    by_cases hq : (onP ps l[i].f0[j]).2 = true
    · rw [if_pos hq, ih k (j + 1) true a (by omega) (by omega), hq]
      simp
    · rw [if_neg hq, ih k (j + 1) s false (by omega) (by omega), Bool.not_eq_true _ |>.mp hq]
      simp
theorem rw_outer (hlen : ∀ x ∈ l, x.f0.length ≤ 40) (d : Nat) : ∀ (k i : Nat), i + d = l.length → d * 50 + ps.length + 2 ≤ k → mainsheetref19_Whole.l0 k l ps (i : Int) = some (wholeP ps (l.drop i)) := by
  induction d with
  | zero =>
    intro k i hi hk
    obtain ⟨k, rfl⟩ : ∃ m, k = m + 1 := ⟨k - 1, by omega⟩
    rw [mainsheetref19_Whole.l0, if_neg (by omega), List.drop_eq_nil_of_le (by omega)]
    rfl
  | succ d ih =>
    intro k i hi hk
    obtain ⟨k, rfl⟩ : ∃ m, k = m + 1 := ⟨k - 1, by omega⟩
    have hil : i < l.length := by omega
    have h40 := hlen _ (List.getElem_mem hil)
    have := rw_inner l ps hpl hl i hil (by omega) (d * 50 + ps.length + 2) (by omega) _ (fun k' hk' => ih k' (i + 1) (by omega) hk') l[i].f0.length k 0 false true (by omega) (by omega)
    rw [List.drop_zero, Bool.false_or, Bool.true_and] at this
    rw [mainsheetref19_Whole.l0, if_pos (by omega), List.drop_eq_getElem_cons hil]
    refine this.trans (congrArg some ?_)
    have e1 := cnt_some ps l[i].f0
    have e2 := cnt_all ps l[i].f0
    rw [wholeP]
    by_cases h : 0 < cntOn ps l[i].f0 ∧ cntOn ps l[i].f0 < l[i].f0.length
    · rw [if_pos h, if_pos ⟨e1.1 h.1, e2.1 h.2⟩]
    · rw [if_neg h, if_neg (fun g => h ⟨e1.2 g.1, e2.2 g.2⟩)]
end
theorem pWhole_val (l : List Ent) (ps : List S31) (hpl : ps.length ≤ 60) (hl : l.length ≤ 40) (hlen : ∀ x ∈ l, x.f0.length ≤ 40) (k : Nat) (hk : 3000 ≤ k) : pick_Whole.f k l ps = some (wholeP ps l) := by
  have := pw_outer l ps (by omega) (by omega) hlen l.length k 0 (by omega) (by omega)
  rwa [List.drop_zero] at this
theorem rWhole_val (l : List Ent) (ps : List S31) (hpl : ps.length ≤ 60) (hl : l.length ≤ 40) (hlen : ∀ x ∈ l, x.f0.length ≤ 40) (k : Nat) (hk : 3000 ≤ k) : mainsheetref19_Whole.f k l ps = some (wholeP ps l) := by
  have := rw_outer l ps (by omega) (by omega) hlen l.length k 0 (by omega) (by omega)
  rwa [List.drop_zero] at this

def soloB (w : List S36) (free : Nat) (ps : List S31) (b : Nat) (x : Ent) : Bool := decide (x.f0.length = 1) && !(onP ps (rd x.f0 0)).2 && (mayN w (rd x.f0 0) free).testBit b
def idleP (l : List Ent) (w : List S36) (free : Nat) (ps : List S31) : List Int := ((List.range 8).filter fun b => l.any (soloB w free ps b) && !(atP ps (b : Int)).2).map fun (c : Nat) => (c : Int)
theorem andNot_minus2 (a b : Nat) (ha : a < 256) (hb : b < 256) : Go.bits .andNot .u32 (a : Int) (b : Int) = ((minus a b : Nat) : Int) := by
  rw [andNot_nat a b (by omega) hb]
  congr 1
  refine Nat.eq_of_testBit_eq fun i => ?_
  rw [Nat.testBit_and]
  cases hai : a.testBit i with
  | false => unfold minus; rw [Nat.testBit_and, hai]; rfl
  | true =>
    have hi := bit_lt a i ha hai
    rw [minus_bit _ _ _ hb hi, testBit_max_sub b i (by omega) (by omega), hai]
theorem shl_bit2 (c : Int) (h0 : 0 ≤ c) (h8 : c < 8) : shl .u32 1 c = ((2 ^ c.toNat : Nat) : Int) := by
  have := shl_one c.toNat (by omega)
  rwa [show ((c.toNat : Nat) : Int) = c by omega] at this
theorem idle_off2 (ps : List S31) (hl : ps.length ≤ 1000000) (d : Nat) : ∀ (k i M : Nat), i + d = ps.length → d < k → M < 256 →
    ∃ R : Nat, pick_Idle.l1 k (M : Int) ps (ps.length : Int) (i : Int) = some (listOf (R : Int), 0) ∧ ∀ b, b < 8 → R.testBit b = (M.testBit b && !(ps.drop i).any (fun p => p.f1 == (b : Int))) := by
  induction d with
  | zero =>
    intro k i M hi hk hM
    obtain ⟨k, rfl⟩ : ∃ m, k = m + 1 := ⟨k - 1, by omega⟩
    rw [pick_Idle.l1, if_neg (by omega), List_val M (by omega), Option.bind_some, List.drop_eq_nil_of_le (by omega)]
    exact ⟨M, rfl, fun b _ => by simp⟩
  | succ d ih =>
    intro k i M hi hk hM
    obtain ⟨k, rfl⟩ : ∃ m, k = m + 1 := ⟨k - 1, by omega⟩
    have hlt : i < ps.length := by omega
    rw [pick_Idle.l1, if_pos (by omega), if_pos (by omega), if_pos (by omega), rd31_eq2 ps i hlt, w64 _ (by omega) (by omega), show (i : Int) + 1 = ((i + 1 : Nat) : Int) by omega, List.drop_eq_getElem_cons hlt]
    by_cases h0 : ps[i].f1 ≥ 0
    · rw [if_pos h0]
      by_cases h8 : ps[i].f1 < 8
      · have hp := pow_lt256 ps[i].f1.toNat (by omega)
        rw [if_pos h8, if_pos (by omega), shl_bit2 _ h0 h8, andNot_minus2 M _ hM hp]
        obtain ⟨R, h1, h2⟩ := ih k (i + 1) _ (by omega) (by omega) (minus_lt M (2 ^ ps[i].f1.toNat) hM)
        refine ⟨R, h1, fun b hb => ?_⟩
        rw [h2 b hb, minus_bit _ _ _ hp hb, pow_bit, List.any_cons, Bool.not_or, Bool.and_assoc]
        congr 2
        by_cases e : ps[i].f1 = (b : Int)
        · have : ps[i].f1.toNat = b := by omega
          simp [e, this]
        · have : ps[i].f1.toNat ≠ b := by omega
          simp [e, this]
      · rw [if_neg h8]
        obtain ⟨R, h1, h2⟩ := ih k (i + 1) M (by omega) (by omega) hM
        refine ⟨R, h1, fun b hb => ?_⟩
        rw [h2 b hb, List.any_cons, show (ps[i].f1 == (b : Int)) = false by simp only [beq_eq_false_iff_ne]; omega, Bool.false_or]
    · rw [if_neg h0]
      obtain ⟨R, h1, h2⟩ := ih k (i + 1) M (by omega) (by omega) hM
      refine ⟨R, h1, fun b hb => ?_⟩
      rw [h2 b hb, List.any_cons, show (ps[i].f1 == (b : Int)) = false by simp only [beq_eq_false_iff_ne]; omega, Bool.false_or]
section
variable {l : List Ent} {w : List S36} {free : Nat}
theorem idle_ents2 (hs : Shape l w) (hll : l.length ≤ 40) (hwl : w.length ≤ 60) (hwf : ∀ x ∈ w, Wf36 x) (hf : free < 256) (ps : List S31) (hpl : ps.length ≤ 60) (d : Nat) :
    ∀ (k i M : Nat), i + d = l.length → d * 20 + 300 ≤ k → M < 256 →
    ∃ R : Nat, pick_Idle.l0 k w (free : Int) ps (M : Int) l (l.length : Int) (i : Int) = some (listOf (R : Int), 0) ∧ ∀ b, b < 8 → R.testBit b = ((M.testBit b || (l.drop i).any (soloB w free ps b)) && !ps.any (fun p => p.f1 == (b : Int))) := by
  induction d with
  | zero =>
    intro k i M hi hk hM
    obtain ⟨k, rfl⟩ : ∃ m, k = m + 1 := ⟨k - 1, by omega⟩
    obtain rfl : i = l.length := by omega
    obtain ⟨R, h1, h2⟩ := idle_off2 ps (by omega) ps.length k 0 M (by omega) (by omega) hM
    rw [pick_Idle.l0, if_neg (by omega), show (0 : Int) = ((0 : Nat) : Int) from rfl]
    refine ⟨R, h1, fun b hb => ?_⟩
    rw [h2 b hb, List.drop_length, List.drop_zero]
    simp
  | succ d ih =>
    intro k i M hi hk hM
    obtain ⟨k, rfl⟩ : ∃ m, k = m + 2 := ⟨k - 2, by omega⟩
    have hil : i < l.length := by omega
    have hm := List.getElem_mem hil
    obtain ⟨h1, h8⟩ := hs.len _ hm
    have hr0 : rd l[i].f0 0 = l[i].f0[0]'(by omega) := rd_eq l[i].f0 0 (by omega)
    have hgo : soloB w free ps 0 l[i] = false → (∀ b, soloB w free ps b l[i] = false) → ∃ R : Nat, pick_Idle.j1 (k + 1) w (free : Int) ps (M : Int) l (l.length : Int) (i : Int) false l[i].f0 l[i].f1.f0.f0 l[i].f1.f0.f1 l[i].f1.f1 l[i].f2 l[i].f3 = some (listOf (R : Int), 0) ∧ ∀ b, b < 8 → R.testBit b = ((M.testBit b || (l.drop i).any (soloB w free ps b)) && !ps.any (fun p => p.f1 == (b : Int))) := by
      intro _ hno
      obtain ⟨R, g1, g2⟩ := ih k (i + 1) M (by omega) (by omega) hM
      rw [pick_Idle.j1, if_neg (by simp), w64 _ (by omega) (by omega), show (i : Int) + 1 = ((i + 1 : Nat) : Int) by omega]
      refine ⟨R, g1, fun b hb => ?_⟩
      rw [g2 b hb, List.drop_eq_getElem_cons hil, List.any_cons, hno b, Bool.false_or]
    rw [pick_Idle.l0, if_pos (by omega), if_pos (by omega), if_pos (by omega), rd90_eq l i hil, if_pos (by omega), On_val ps (by omega), Option.bind_some]
    by_cases hone : ((l[i].f0.length : Nat) : Int) = 1
    · rw [if_pos hone]
      cases hq : (onP ps (rd l[i].f0 0)).2 with
      | true =>
        have hno : ∀ b, soloB w free ps b l[i] = false := fun b => by unfold soloB; rw [hq]; simp
        exact hgo (hno 0) hno
      | false =>
        obtain ⟨v, hv⟩ := List.length_eq_one_iff.1 (show l[i].f0.length = 1 by omega)
        have hvm : v ∈ members l := List.mem_flatMap.2 ⟨l[i], hm, by rw [hv]; simp⟩
        have hwo := (wishOf_mem hs v hvm).1
        obtain ⟨w1, w2, w3, w4⟩ := hwf _ hwo
        have hA' := Allows_val (wishOf w v).f2.f0.toNat (wishOf w v).f2.f1.toNat free (by omega) (by omega) (by omega) k (by omega)
        rw [show (((wishOf w v).f2.f0.toNat : Nat) : Int) = (wishOf w v).f2.f0 by omega, show (((wishOf w v).f2.f1.toNat : Nat) : Int) = (wishOf w v).f2.f1 by omega] at hA'
        have hwl1 := hs.wishes_len _ hm
        have e2 : l[i].f0[0]'(by omega) = v := by simp [hv]
        have hrd : rd_T36 (wishesN w l[i].f0) 0 = wishOf w v := by
          have e := rd36_eq (wishesN w l[i].f0) 0 (by omega)
          obtain ⟨g1, g2⟩ := wishes_get hs _ hm 0 (by omega)
          rw [e2] at g2
          exact e.trans g2
        have hsolo : ∀ b, soloB w free ps b l[i] = (mayN w v free).testBit b := fun b => by
          unfold soloB
          rw [hq, decide_eq_true (show l[i].f0.length = 1 by omega), hr0, e2]
          simp
        rw [pick_Idle.j1, if_pos (by rfl), wishes_val w _ (by omega) (by omega) k (by omega), Option.bind_some, if_pos (by omega), hrd, hA', Option.bind_some, or_nat _ _ (by omega) (by have := allowsN_lt (wishOf w v).f2.f0.toNat (wishOf w v).f2.f1.toNat free; omega), w64 _ (by omega) (by omega), show (i : Int) + 1 = ((i + 1 : Nat) : Int) by omega]
        obtain ⟨R, g1, g2⟩ := ih k (i + 1) _ (by omega) (by omega) (or_lt256 _ _ hM (allowsN_lt (wishOf w v).f2.f0.toNat (wishOf w v).f2.f1.toNat free))
        refine ⟨R, g1, fun b hb => ?_⟩
        rw [g2 b hb, List.drop_eq_getElem_cons hil, List.any_cons, hsolo b, Nat.testBit_or, Bool.or_assoc]
        rfl
    · rw [if_neg hone]
      have hno : ∀ b, soloB w free ps b l[i] = false := fun b => by unfold soloB; rw [decide_eq_false (by omega)]; simp
      exact hgo (hno 0) hno
theorem pIdle_zero (hs : Shape l w) (hll : l.length ≤ 40) (hwl : w.length ≤ 60) (hwf : ∀ x ∈ w, Wf36 x) (hf : free < 256) (ps : List S31) (hpl : ps.length ≤ 60) (k : Nat) (hk : 1200 ≤ k) : pick_Idle.l0 k w (free : Int) ps 0 l (l.length : Int) 0 = some (idleP l w free ps, 0) := by
  obtain ⟨R, h1, h2⟩ := idle_ents2 hs hll hwl hwf hf ps hpl l.length k 0 0 (by omega) (by omega) (by omega)
  rw [show (0 : Int) = ((0 : Nat) : Int) from rfl, h1]
  refine congrArg (fun z => some (z, (0 : Int))) ?_
  unfold listOf idleP
  congr 1
  refine List.filter_congr fun b hb => ?_
  have hb8 : b < 8 := by simpa using hb
  rw [Int.toNat_natCast, h2 b hb8, at_any, List.drop_zero, Nat.zero_testBit, Bool.false_or]
theorem hasN_nat' (s i : Nat) (hi : i < 8) : hasN s (i : Int) = s.testBit i := by
  unfold hasN
  have h1 : (0 : Int) ≤ i := by omega
  have h2 : (i : Int) < 8 := by omega
  simp [h1, h2]
def restI (l : List Ent) (w : List S36) (free : Nat) (ps : List S31) (c : Nat) : List Int := (((List.range 8).drop c).filter fun b => l.any (soloB w free ps b) && !(atP ps (b : Int)).2).map fun (c : Nat) => (c : Int)
theorem rest_step (ps : List S31) (c : Nat) (hc : c < 8) : restI l w free ps c = (if (l.any (soloB w free ps c) && !(atP ps (c : Int)).2) = true then [(c : Int)] else []) ++ restI l w free ps (c + 1) := by
  unfold restI
  rw [List.drop_eq_getElem_cons (by simpa using hc), List.filter_cons, List.getElem_range]
  split <;> simp_all
theorem may_eq (w : List S36) (v : Int) (free : Nat) (hf : free < 256) (hok : okM (wishOf w v).f2 = true) : mayN w v free = (wishOf w v).f2.f0.toNat &&& free := by
  unfold okM at hok
  unfold mayN allowsN
  rw [hok]; simp [hf]
theorem ri_inner (hs : Shape l w) (hok : ∀ x ∈ w, okM x.f2 = true) (hll : l.length ≤ 40) (hwl : w.length ≤ 60) (hwf : ∀ x ∈ w, Wf36 x) (hf : free < 256) (ps : List S31) (hpl : ps.length ≤ 60) (c : Nat) (hc : c < 8) (K : Nat) (hK : 100 ≤ K)
    (hnext : ∀ k out, K ≤ k → out.length ≤ c + 1 → mainsheetref19_Idle.l0 k l w (free : Int) ps out ((c + 1 : Nat) : Int) = some (out ++ restI l w free ps (c + 1))) (d : Nat) : ∀ (k i : Nat) (out : List Int) (wt : Bool), i + d = l.length → K + d + 1 ≤ k → out.length ≤ c →
    mainsheetref19_Idle.l1 k l w (free : Int) ps out (c : Int) wt (i : Int) = some ((out ++ if (wt || (l.drop i).any (soloB w free ps c)) = true then [(c : Int)] else []) ++ restI l w free ps (c + 1)) := by
  induction d with
  | zero =>
    intro k i out wt hi hk ho
    obtain ⟨k, rfl⟩ : ∃ m, k = m + 1 := ⟨k - 1, by omega⟩
    rw [mainsheetref19_Idle.l1, if_neg (by omega), List.drop_eq_nil_of_le (by omega), List.any_nil, Bool.or_false, w64 _ (by omega) (by omega), show (c : Int) + 1 = ((c + 1 : Nat) : Int) by omega]
    cases wt with
    | true => rw [if_pos rfl, if_pos (by omega), if_pos rfl]; exact hnext k _ (by omega) (by simp; omega)
    | false => rw [if_neg (by simp), if_neg (by simp), List.append_nil]; exact hnext k _ (by omega) (by omega)
  | succ d ih =>
    intro k i out wt hi hk ho
    obtain ⟨k, rfl⟩ : ∃ m, k = m + 1 := ⟨k - 1, by omega⟩
    have hil : i < l.length := by omega
    have hm := List.getElem_mem hil
    obtain ⟨h1, h8⟩ := hs.len _ hm
    have hr0 : rd l[i].f0 0 = l[i].f0[0]'(by omega) := rd_eq l[i].f0 0 (by omega)
    rw [mainsheetref19_Idle.l1, if_pos (by omega), if_pos (by omega), rd90_eq l i hil, w64 _ (by omega) (by omega), show (i : Int) + 1 = ((i + 1 : Nat) : Int) by omega, List.drop_eq_getElem_cons hil, List.any_cons]
    by_cases hone : l[i].f0.length = 1
    · rw [if_neg (by omega), if_pos (by omega), rOn_val ps (by omega) _ k (by omega), Option.bind_some]
      cases hq : (onP ps (rd l[i].f0 0)).2 with
      | true =>
        have hno : soloB w free ps c l[i] = false := by unfold soloB; rw [hq]; simp
        rw [if_pos rfl, hno, Bool.false_or]
        exact ih k (i + 1) out wt (by omega) (by omega) ho
      | false =>
        obtain ⟨v, hv⟩ := List.length_eq_one_iff.1 hone
        have hvm : v ∈ members l := List.mem_flatMap.2 ⟨l[i], hm, by rw [hv]; simp⟩
        have hwo := (wishOf_mem hs v hvm).1
        obtain ⟨w1, w2, w3, w4⟩ := hwf _ hwo
        have hA' := MAllows_val (wishOf w v).f2.f0.toNat (wishOf w v).f2.f1.toNat free (by omega) (by omega)
        rw [show (((wishOf w v).f2.f0.toNat : Nat) : Int) = (wishOf w v).f2.f0 by omega, show (((wishOf w v).f2.f1.toNat : Nat) : Int) = (wishOf w v).f2.f1 by omega, ← may_eq w v free hf (hok _ hwo)] at hA'
        have e2 : l[i].f0[0]'(by omega) = v := by simp [hv]
        have hlt : mayN w v free < 256 := allowsN_lt _ _ _
        have hsolo : soloB w free ps c l[i] = (mayN w v free).testBit c := by
          unfold soloB
          rw [hq, decide_eq_true hone, hr0, e2]
          simp
        rw [if_neg (by simp), rwish_val w (by omega) _ k (by omega), Option.bind_some, hr0, e2, hA', Option.bind_some, RHas_val _ (by omega), Option.bind_some, hasN_nat' _ _ hc, hsolo]
        by_cases hb : (mayN w v free).testBit c = true
        · rw [if_pos hb, ih k (i + 1) out true (by omega) (by omega) ho, hb]
          simp
        · rw [if_neg hb, ih k (i + 1) out wt (by omega) (by omega) ho, Bool.not_eq_true _ |>.mp hb]
          simp
    · have hno : soloB w free ps c l[i] = false := by unfold soloB; rw [decide_eq_false hone]; simp
      rw [if_pos (by omega), hno, Bool.false_or]
      exact ih k (i + 1) out wt (by omega) (by omega) ho
theorem ri_outer (hs : Shape l w) (hok : ∀ x ∈ w, okM x.f2 = true) (hll : l.length ≤ 40) (hwl : w.length ≤ 60) (hwf : ∀ x ∈ w, Wf36 x) (hf : free < 256) (ps : List S31) (hpl : ps.length ≤ 60) (d : Nat) : ∀ (k c : Nat) (out : List Int), c + d = 8 → d * 50 + 100 ≤ k → out.length ≤ c →
    mainsheetref19_Idle.l0 k l w (free : Int) ps out (c : Int) = some (out ++ restI l w free ps c) := by
  induction d with
  | zero =>
    intro k c out hc hk ho
    obtain ⟨k, rfl⟩ : ∃ m, k = m + 1 := ⟨k - 1, by omega⟩
    obtain rfl : c = 8 := by omega
    have e : restI l w free ps 8 = [] := by unfold restI; rw [show (List.range 8).drop 8 = [] from rfl]; rfl
    rw [mainsheetref19_Idle.l0, if_neg (by omega), e, List.append_nil]
  | succ d ih =>
    intro k c out hc hk ho
    obtain ⟨k, rfl⟩ : ∃ m, k = m + 1 := ⟨k - 1, by omega⟩
    have hc8 : c < 8 := by omega
    rw [mainsheetref19_Idle.l0, if_pos (by omega), rAt_val ps (by omega) _ k (by omega), Option.bind_some, rest_step ps c hc8]
    cases hq : (atP ps (c : Int)).2 with
    | true =>
      rw [if_pos rfl, w64 _ (by omega) (by omega), show (c : Int) + 1 = ((c + 1 : Nat) : Int) by omega, ih k (c + 1) out (by omega) (by omega) (by omega)]
      simp
    | false =>
      have := ri_inner hs hok hll hwl hwf hf ps hpl c hc8 (d * 50 + 100) (by omega) (fun k' out' hk' ho' => ih k' (c + 1) out' (by omega) hk' ho') l.length k 0 out false (by omega) (by omega) ho
      rw [List.drop_zero, Bool.false_or] at this
      rw [if_neg (by simp), show (0 : Int) = ((0 : Nat) : Int) from rfl, this]
      simp
theorem rIdle_val (hs : Shape l w) (hok : ∀ x ∈ w, okM x.f2 = true) (hll : l.length ≤ 40) (hwl : w.length ≤ 60) (hwf : ∀ x ∈ w, Wf36 x) (hf : free < 256) (ps : List S31) (hpl : ps.length ≤ 60) (k : Nat) (hk : 1200 ≤ k) : mainsheetref19_Idle.f k l w (free : Int) ps = some (idleP l w free ps) := by
  unfold mainsheetref19_Idle.f
  rw [show (0 : Int) = ((0 : Nat) : Int) from rfl, ri_outer hs hok hll hwl hwf hf ps hpl 8 k 0 [] (by omega) (by omega) (by simp)]
  rfl
end
theorem pIdle_val (l : List Ent) (w : List S36) (a : Int) (hok : okPickArgs l w a) (hll : l.length ≤ 40) (hwl : w.length ≤ 60) (ps : List S31) (hpl : ps.length ≤ 60) (k : Nat) (hk : 1200 ≤ k) :
    pick_Idle.f k l w a ps = some (if askedP l w a = 0 then (idleP l w a.toNat ps, 0) else ([], askedP l w a)) := by
  unfold pick_Idle.f
  rw [askedP_val l w a hok, Option.bind_some]
  by_cases he : askedP l w a = 0
  · rw [if_pos he, if_pos he]
    obtain ⟨hc, ha⟩ := askedP_ok.1 he
    obtain ⟨hs, hpc⟩ := (pickCheck_zero l w).1 hc
    have h0 := hok.2.1
    have := pIdle_zero hs hll hwl hok.1.1 (free := a.toNat) (by omega) ps hpl k hk
    rwa [show ((a.toNat : Nat) : Int) = a by omega] at this
  · rw [if_neg he, if_neg he]
end Go.Proofs.YtdmieaidheelbaaDoor.Q
end
/- Sort -/
section
/- slices.Sort at []int: the kit's contract, laid at this program by its tool (lay-plain), and what a row of the call's own is behind it. -/
namespace Go.Proofs.YtdmieaidheelbaaDoor.Q
open Go Go.RowKit Go.Shelf
set_option linter.unusedVariables false
set_option linter.unusedSimpArgs false
def lays189_ren : Go.Shelf.Ren := ⟨fun | 189 => 71 | 125 => 98 | 257 => 97 | 128 => 120 | 129 => 121 | 294 => 111 | 295 => 112 | 296 => 113 | 297 => 114 | 298 => 115 | 299 => 116 | 216 => 117 | 300 => 118 | 301 => 119 | 328 => 126 | 329 => 127 | 330 => 128 | 331 => 129 | 332 => 130 | 215 => 131 | 343 => 134 | n => n, fun | 28 => 42 | 3 => 3 | 46 => 126 | 0 => 0 | 51 => 23 | 53 => 84 | 4 => 4 | 183 => 151 | 182 => 150 | 131 => 48 | 5 => 5 | 9 => 9 | 218 => 161 | 222 => 165 | 228 => 170 | 229 => 171 | n => n, fun | n => n⟩
theorem lays189 : Go.Proofs.Lays.n189 Tryd.prog lays189_ren := {
  mixed := by kernel_rfl
  f125 := Tryd.func98.trans (congrArg some (by kernel_rfl))
  f128 := Tryd.func120.trans (congrArg some (by kernel_rfl))
  f129 := Tryd.func121.trans (congrArg some (by kernel_rfl))
  f189 := Tryd.func71.trans (congrArg some (by kernel_rfl))
  f215 := Tryd.func131.trans (congrArg some (by kernel_rfl))
  f216 := Tryd.func117.trans (congrArg some (by kernel_rfl))
  f257 := Tryd.func97.trans (congrArg some (by kernel_rfl))
  f294 := Tryd.func111.trans (congrArg some (by kernel_rfl))
  f295 := Tryd.func112.trans (congrArg some (by kernel_rfl))
  f296 := Tryd.func113.trans (congrArg some (by kernel_rfl))
  f297 := Tryd.func114.trans (congrArg some (by kernel_rfl))
  f298 := Tryd.func115.trans (congrArg some (by kernel_rfl))
  f299 := Tryd.func116.trans (congrArg some (by kernel_rfl))
  f300 := Tryd.func118.trans (congrArg some (by kernel_rfl))
  f301 := Tryd.func119.trans (congrArg some (by kernel_rfl))
  f328 := Tryd.func126.trans (congrArg some (by kernel_rfl))
  f329 := Tryd.func127.trans (congrArg some (by kernel_rfl))
  f330 := Tryd.func128.trans (congrArg some (by kernel_rfl))
  f331 := Tryd.func129.trans (congrArg some (by kernel_rfl))
  f332 := Tryd.func130.trans (congrArg some (by kernel_rfl))
  f343 := Tryd.func134.trans (congrArg some (by kernel_rfl))
  t0 := Tryd.underlying0
  a0 := Tryd.isAgg0
  z0 := Tryd.sizeOf0
  v0 := Tryd.zeroValue0
  t3 := Tryd.underlying3
  a3 := Tryd.isAgg3
  z3 := Tryd.sizeOf3
  v3 := Tryd.zeroValue3
  t4 := Tryd.underlying4
  a4 := Tryd.isAgg4
  z4 := Tryd.sizeOf4
  v4 := Tryd.zeroValue4
  t5 := Tryd.underlying5
  a5 := Tryd.isAgg5
  z5 := Tryd.sizeOf5
  v5 := Tryd.zeroValue5
  t9 := Tryd.underlying9
  a9 := Tryd.isAgg9
  z9 := Tryd.sizeOf9
  v9 := Tryd.zeroValue9
  t28 := Tryd.underlying42
  a28 := Tryd.isAgg42
  z28 := Tryd.sizeOf42
  v28 := Tryd.zeroValue42
  t46 := Tryd.underlying126
  a46 := Tryd.isAgg126
  z46 := Tryd.sizeOf126
  v46 := Tryd.zeroValue126
  t51 := Tryd.underlying23
  a51 := Tryd.isAgg23
  z51 := Tryd.sizeOf23
  v51 := Tryd.zeroValue23
  t53 := Tryd.underlying84
  a53 := Tryd.isAgg84
  z53 := Tryd.sizeOf84
  v53 := Tryd.zeroValue84
  t131 := Tryd.underlying48
  a131 := Tryd.isAgg48
  z131 := Tryd.sizeOf48
  v131 := Tryd.zeroValue48
  t182 := Tryd.underlying150
  a182 := Tryd.isAgg150
  z182 := Tryd.sizeOf150
  v182 := Tryd.zeroValue150
  t183 := Tryd.underlying151
  a183 := Tryd.isAgg151
  z183 := Tryd.sizeOf151
  v183 := Tryd.zeroValue151
  t218 := Tryd.underlying161
  a218 := Tryd.isAgg161
  z218 := Tryd.sizeOf161
  v218 := Tryd.zeroValue161
  t222 := Tryd.underlying165
  a222 := Tryd.isAgg165
  z222 := Tryd.sizeOf165
  v222 := Tryd.zeroValue165
  t228 := Tryd.underlying170
  a228 := Tryd.isAgg170
  z228 := Tryd.sizeOf170
  v228 := Tryd.zeroValue170
  t229 := Tryd.underlying171
  a229 := Tryd.isAgg171
  z229 := Tryd.sizeOf171
  v229 := Tryd.zeroValue171 }
open Go.Sort Go.RowKit in
theorem slices_Sort_int (blk off cap : Nat) (zs : List Int) (w : World) (hH : Holds (Value.int .i64) w blk off zs.toArray) (hblk : blk < w.heap.size) (hsz : zs.length < 4611686018427387904) :
    Calls Tryd.prog 71 #[.slice (some ⟨blk, off, none⟩) zs.length cap] w fun e w' =>
      e = .returned (.tuple #[]) ∧ ∃ n os, w' = grow (putRow (Value.int .i64) (Sort.ahead w n) blk off (zs.mergeSort fun x y => decide (x ≤ y)).toArray) os := Any.slices_Sort_int lays189 blk off cap zs w hH hblk hsz
open Go.RowKit Go.Sort in
theorem slices_Sort_int_none (p : Option Addr) (cap : Nat) (w : World) :
    Calls Tryd.prog 71 #[.slice p 0 cap] w fun e w' => e = .returned (.tuple #[]) ∧ w' = w := Any.slices_Sort_int_none lays189 p cap w

def sortI (l : List Int) : List Int := l.mergeSort fun x y => decide (x ≤ y)
open Go.Sort in
theorem sort_calls (xs : List Int) (base : Nat) (v : Value) (w : World) (hl : xs.length ≤ 1000000) (h : w.ownsRow base 3 1 v xs.length (xs.map (Value.int .i64))) :
    Calls Tryd.prog 71 #[v] w fun e w' => e = .returned (.tuple #[]) ∧ w'.ownsRow base 3 1 v xs.length ((sortI xs).map (Value.int .i64)) ∧ w.grownBy w' v.ownBlock := by
  have hlen : (sortI xs).length = xs.length := by simp [sortI]
  rcases h.2 with ⟨rfl, h0⟩ | ⟨g, cap, cur, rfl, hg, hb, hn, hcap, hsz, ht⟩
  · refine (slices_Sort_int_none _ _ w).mono ?_
    rintro e w' ⟨rfl, rfl⟩
    have hx : xs = [] := List.eq_nil_of_length_eq_zero (by simpa using h0)
    subst hx
    exact ⟨rfl, by simpa [sortI] using h, ⟨rfl, rfl, rfl, Nat.le_refl _, fun _ _ _ => rfl⟩⟩
  · rw [Nat.mul_one] at ht
    refine (slices_Sort_int g 0 cap xs w (holds_of_blockI hb ht) (Array.getElem?_eq_some_iff.1 hb).1 (by omega)).mono ?_
    rintro e w' ⟨rfl, n, os, rfl⟩
    have h2 := ownsRow_sortedI (w := w) (base := base) (n := n) (os := os) (ts := sortI xs) hlen hg hb hn hcap hsz
    exact ⟨rfl, h2, grownBy_sortedI _⟩
end Go.Proofs.YtdmieaidheelbaaDoor.Q
end
/- Chg -/
section
/- pick.Changed's closure by its contract: those that a map holds and a predicate wants, in order. -/
namespace Go.Proofs.YtdmieaidheelbaaDoor.Q
open Go Go.RowKit Go.Proofs.YtdmieaidheelbaaDoor.Rng Go.Proofs.YtdmieaidheelbaaDoorW.PrintWords Go.Proofs.YtdmieaidheelbaaDoorW.PrintLast Go.Proofs.YtdmieaidheelbaaDoorW.PrintMore
open Go.Maps (Keyed IsMap)
set_option linter.unusedVariables false
set_option linter.unusedSimpArgs false

def cameP (a : Int) (f : Bool) (b : Int) (t : Bool) : Bool := t && !f
def wentP (a : Int) (f : Bool) (b : Int) (t : Bool) : Bool := f && !t
def movedP (a : Int) (f : Bool) (b : Int) (t : Bool) : Bool := (f && t) && (a != b)
set_option maxRecDepth 100000 in
theorem came_calls (a b : Int) (f t : Bool) (W : World) : Calls Tryd.prog 72 #[.int .i64 a, .bool f, .int .i64 b, .bool t] W fun e w' => e = .returned (.bool (cameP a f b t)) ∧ Below W.heap.size W w' := by
  have HB := Aside0.mk (Below.refl W.heap.size W)
  cases hq : (a != b) <;> cases f <;> cases t <;> (go_enter Tryd.func72, Tryd.ntmps72; go_wp2; go_ret; exact ⟨by simp [cameP, hq], by first | exact HB.out | exact pw_below_drewN HB.out _⟩)
set_option maxRecDepth 100000 in
theorem went_calls (a b : Int) (f t : Bool) (W : World) : Calls Tryd.prog 73 #[.int .i64 a, .bool f, .int .i64 b, .bool t] W fun e w' => e = .returned (.bool (wentP a f b t)) ∧ Below W.heap.size W w' := by
  have HB := Aside0.mk (Below.refl W.heap.size W)
  cases hq : (a != b) <;> cases f <;> cases t <;> (go_enter Tryd.func73, Tryd.ntmps73; go_wp2; go_ret; exact ⟨by simp [wentP, hq], by first | exact HB.out | exact pw_below_drewN HB.out _⟩)
set_option maxRecDepth 100000 in
theorem moved_calls (a b : Int) (f t : Bool) (W : World) : Calls Tryd.prog 74 #[.int .i64 a, .bool f, .int .i64 b, .bool t] W fun e w' => e = .returned (.bool (movedP a f b t)) ∧ Below W.heap.size W w' := by
  have HB := Aside0.mk (Below.refl W.heap.size W)
  cases hq : (a != b) <;> cases f <;> cases t <;> (go_enter Tryd.func74, Tryd.ntmps74; go_wp2; go_ret; exact ⟨by simp [movedP, hq], by first | exact HB.out | exact pw_below_drewN HB.out _⟩)

def CollI (D : DataW Unit) (left : Lit → Bool) (c : Int → Bool) (g : List Int) : Prop := g.Nodup ∧ ∀ x, x ∈ g ↔ (Maps.has D (.int .i64 x) = true ∧ left (.int .i64 x) = false ∧ c x = true)
theorem CollI.start (D : DataW Unit) (c : Int → Bool) : CollI D (Maps.has D) c [] := ⟨List.nodup_nil, fun x => by cases Maps.has D (.int .i64 x) <;> simp⟩
theorem CollI.step {D : DataW Unit} {left : Lit → Bool} {c : Int → Bool} {g : List Int} (h : CollI D left c g) {x : Int} {y : DataW Unit} (hlk : left (.int .i64 x) = true) (hat : ∀ zd, D.atKey (.int .i64 x) zd = y) :
    CollI D (fun z => left z && !z.sameKey (.int .i64 x)) c (g ++ if c x = true then [x] else []) := by
  have hhas : Maps.has D (.int .i64 x) = true := Maps.has_true_of_atKey hat
  have hnew : x ∉ g := fun hx => by have := ((h.2 x).1 hx).2.1; rw [hlk] at this; cases this
  refine ⟨?_, fun y => ?_⟩
  · split
    · refine List.nodup_append.2 ⟨h.1, by simp, fun a ha b hb => by simp at hb; subst hb; exact fun e => hnew (e ▸ ha)⟩
    · simpa using h.1
  · by_cases hy : y = x
    · subst hy
      by_cases hc : c y = true
      · simp [hc, hhas, Lit.sameKey]
      · simp [hc, hnew]
    · by_cases hc : c x = true
      · simp [hc, h.2 y, hy, Lit.sameKey]
      · simp [hc, h.2 y, hy, Lit.sameKey]
theorem sortI_mem (g : List Int) (x : Int) : x ∈ sortI g ↔ x ∈ g := (List.mergeSort_perm g _).mem_iff
theorem sortI_lt {g : List Int} (h : g.Nodup) : (sortI g).Pairwise (· < ·) := by
  have h1 : (sortI g).Pairwise (fun a b => decide (a ≤ b) = true) := List.pairwise_mergeSort (fun a b c h1 h2 => by simp only [decide_eq_true_eq] at *; omega) (fun a b => by simp only [Bool.or_eq_true, decide_eq_true_eq]; omega) g
  have h2 : (sortI g).Nodup := (List.mergeSort_perm g _).nodup_iff.2 h
  refine (h1.and h2).imp ?_
  rintro a b ⟨h3, h4⟩
  simp only [decide_eq_true_eq] at h3
  omega
def chOf (p : Int → Bool → Int → Bool → Bool) (l0 l1 : List S31) (x : Int) : Bool := p (onP l0 x).1 (onP l0 x).2 (onP l1 x).1 (onP l1 x).2
theorem onF {l : List S31} (hl : l.length ≤ 1000000) (x : Int) : pick_On.f l x = some ((onP l x).1, (onP l x).2) := by unfold pick_On.f; rw [if_pos hl]
theorem rowc_from {w : World} {base : Nat} {e : TypeId} {size : Nat} {v : Value} {n : Nat} {xs : List Value} (h : w.ownsRow base e size v n xs) : ∀ k, v.ownBlock = some k → base ≤ k := fun k hk => (h.lt k hk).1
theorem rowc_not_iter {w : World} {base : Nat} {e : TypeId} {size : Nat} {v : Value} {n : Nat} {xs : List Value} {b r m cnt : Nat} {D : DataW Unit} {k : TypeId} {R : Value → Option (DataW Unit × List MemPlace)} {left : Lit → Bool} (h : w.ownsRow base e size v n xs) (hm : w.ranges Tryd.prog k R b r m D left cnt) : v.ownBlock = none ∨ v.ownBlock ≠ some r := by
  rcases h.2 with ⟨rfl, _⟩ | ⟨g, cap, cur, rfl, _, hg, _⟩
  · exact .inl rfl
  · right
    obtain ⟨es, clock, since, seen, c0, _, _, _, _, hr, _⟩ := hm
    intro e
    have e' : g = r := by simpa [Value.ownBlock] using e
    rw [e', hr] at hg; cases hg
theorem rowc_not_map {w : World} {base : Nat} {e : TypeId} {size : Nat} {v : Value} {n : Nat} {xs : List Value} {b r m cnt : Nat} {D : DataW Unit} {k : TypeId} {R : Value → Option (DataW Unit × List MemPlace)} {left : Lit → Bool} (h : w.ownsRow base e size v n xs) (hm : w.ranges Tryd.prog k R b r m D left cnt) : some b ≠ v.ownBlock ∧ some r ≠ v.ownBlock := by
  rcases h.2 with ⟨rfl, _⟩ | ⟨g, cap, cur, rfl, _, hg, _⟩
  · simp [Value.ownBlock]
  · obtain ⟨es, clock, since, seen, c0, hb, _, _, _, hr, _⟩ := hm
    constructor
    · intro e
      have e' : b = g := by simpa [Value.ownBlock] using e
      rw [← e', hb] at hg; cases hg
    · intro e
      have e' : r = g := by simpa [Value.ownBlock] using e
      rw [← e', hr] at hg; cases hg
theorem rowc_kept {w w' : World} {base : Nat} {e : TypeId} {size : Nat} {v : Value} {n : Nat} {xs : List Value} (h : w.ownsRow base e size v n xs) (hb : Below w.heap.size w w') : w'.ownsRow base e size v n xs := by
  refine h.kept (grown_of_below hb none) ?_
  cases v.ownBlock <;> simp
theorem info3C : (Tryd.prog.info? 3).map (fun i => (i.zero, i.size, i.bytes)) = some (some (.int .i64 0), 1, 8) := by kernel_rfl

set_option maxRecDepth 100000 in
set_option maxHeartbeats 8000000 in
theorem came_list (bm nm b1 b2 b3 : Nat) (D : DataW Unit) (A0 : Option Addr) (c0 : Nat) (l0 : List S31) (A1 : Option Addr) (c1 : Nat) (l1 : List S31) (w : World) (hr0 : Kd.C k31 w A0 l0.length l0) (hc0 : l0.length ≤ c0) (hl0 : l0.length ≤ 1000000)
    (hr1 : Kd.C k31 w A1 l1.length l1) (hc1 : l1.length ≤ c1) (hl1 : l1.length ≤ 1000000) (hm : w.ownsMap Tryd.prog 3 (plainElem Tryd.prog 4) bm nm D) (hsz : Maps.size D ≤ 1000000)
    (hb1 : Boxed w b1 108 (.map (some bm))) (hb2 : Boxed w b2 26 (.slice A0 l0.length c0)) (hb3 : Boxed w b3 26 (.slice A1 l1.length c1)) :
    Calls Tryd.prog 70 #[.func (.func 72) #[] #[], .pointer (some ⟨b1, 0, none⟩), .pointer (some ⟨b2, 0, none⟩), .pointer (some ⟨b3, 0, none⟩)] w fun e w' =>
      ∃ (v : Value) (r : List Int), e = .returned v ∧ w'.ownsRow w.heap.size 3 1 v r.length (r.map (Value.int .i64)) ∧ r.Pairwise (· < ·) ∧ (∀ x, x ∈ r ↔ (Maps.has D (.int .i64 x) = true ∧ chOf cameP l0 l1 x = true)) ∧ r.length ≤ Maps.size D ∧ Below w.heap.size w w' := by
  have HR0 := Aside0.mk hr0
  have HC0 := Aside0.mk hc0
  have HL0 := Aside0.mk hl0
  have HR1 := Aside0.mk hr1
  have HC1 := Aside0.mk hc1
  have HL1 := Aside0.mk hl1
  have HM := Aside0.mk hm
  have HSZ := Aside0.mk hsz
  have HX2 := Aside0.mk hb2
  have HX3 := Aside0.mk hb3
  have hcell1 := hb1.cell
  clear hr0 hc0 hl0 hr1 hc1 hl1 hm hsz hb1 hb2 hb3
  go_enter Tryd.func70, Tryd.ntmps70
  go_wp2_with (at_range; refine wpList_range_own _ rfl _ 108 rfl 3 4 lawG Tryd.underlying108 _ bm nm _ rfl HM.out ?_; intro w1 hrg1 hg1 hs1; have HRG1 := Aside0.mk hrg1; have HG1 := Aside0.mk hg1; clear hrg1 hg1 hs1)
  go_frame
  clear hcell1
  go_loopw [6] (fun s6 wr => ∃ (left : Lit → Bool) (cnt : Nat) (g : List Int), Aside0 (wr.ranges Tryd.prog 3 (plainElem Tryd.prog 4) bm w.heap.size nm D left cnt) ∧ Aside0 (CollI D left (chOf cameP l0 l1) g) ∧ Aside0 (g.length + cnt ≤ Maps.size D) ∧
      Aside0 (wr.ownsRow w.heap.size 3 1 s6 g.length (g.map (Value.int .i64))) ∧ Aside0 (Below w.heap.size w wr))
    (fun _ wr => wr.rangeLeft bm w.heap.size)
  case atStart => exact ⟨_, _, [], HRG1, ⟨CollI.start _ _⟩, ⟨by simp⟩, ⟨⟨rfl, .inl ⟨rfl, rfl⟩⟩⟩, ⟨(Below.refl _ w).grown HG1.out (Nat.le_refl _) (fun k hk => by cases hk)⟩⟩
  case round =>
    obtain ⟨left, cnt, g, HRG, HCO, HN, HROW, HB⟩ := hrel
    go_wp2_with (at_next; refine wpList_next_ranges _ rfl _ rfl 3 lawG (plainElem Tryd.prog 4) (Value.int .i64) (fun c : Nat => Value.bool (c == 1)) (fun key kl hkey => by obtain ⟨x, rfl, _⟩ := Maps.keyOf_int_inv Tryd.underlying3 hkey; exact ⟨x, rfl⟩) (fun v y hv => by obtain ⟨c, rfl, _⟩ := plainElem_bool_inv Tryd.underlying4 hv; exact ⟨if c then 1 else 0, by cases c <;> rfl⟩) bm w.heap.size nm _ _ _ rfl HRG.out ?_ ?_)
    · intro h0 hl0'
      have HLF := Aside0.mk hl0'
      have hgl : g.length ≤ 1000000 := by have := HN.out; have := HSZ.out; omega
      have HGL := Aside0.mk hgl
      clear h0 hl0' hgl
      go_wp2_with (go_at_call 71; refine (sort_calls g w.heap.size _ _ HGL.out HROW.out).mono ?_; rintro e w5 ⟨rfl, hs5, hg5⟩; have HS5 := Aside0.mk hs5; have HG5 := Aside0.mk hg5; clear hs5 hg5)
      go_ret
      have hlen : (sortI g).length = g.length := by simp [sortI]
      refine ⟨_, sortI g, rfl, by rw [hlen]; exact HS5.out, sortI_lt HCO.out.1, fun x => ?_, by rw [hlen]; have := HN.out; omega, HB.out.grown HG5.out HB.out.size (rowc_from HROW.out)⟩
      rw [sortI_mem, HCO.out.2 x, HLF.out]; simp
    · intro x c kl ya yb w2 cnt2 hkey hlk hv hat hrg2 hlt hg2 hs2 hen
      obtain ⟨x', ex, rfl, hwx⟩ := Maps.keyOf_int_inv Tryd.underlying3 hkey
      cases ex
      have hne : some w.heap.size ≠ (none : Option Nat) := by simp
      have HRG2 := Aside0.mk hrg2
      have HLT := Aside0.mk hlt
      have HC2 := Aside0.mk (HCO.out.step hlk hat)
      have HB2 := Aside0.mk (HB.out.grown hg2 HB.out.size (fun k hk => by cases hk; exact Nat.le_refl _))
      have HROW2 := Aside0.mk (HROW.out.kept hg2 (rowc_not_iter HROW.out HRG.out))
      have HBW := Aside0.mk (Below.refl w2.heap.size w2)
      have hcell2 := Boxed.cell (show Boxed w2 b2 26 (.slice A0 l0.length c0) from (HB2.out.block _ HX2.out.lt).trans HX2.out)
      have hcell3 := Boxed.cell (show Boxed w2 b3 26 (.slice A1 l1.length c1) from (HB2.out.block _ HX3.out.lt).trans HX3.out)
      clear hkey hlk hv hat hrg2 hlt hg2 hs2 hwx hne
      have hf0 := onF HL0.out x
      have hf1 := onF HL1.out x
      have HCH := Aside0.mk (show chOf cameP l0 l1 x = cameP (onP l0 x).1 (onP l0 x).2 (onP l1 x).1 (onP l1 x).2 from rfl)
      generalize (onP l0 x).1 = a at *
      generalize (onP l0 x).2 = f at *
      generalize (onP l1 x).1 = b at *
      generalize (onP l1 x).2 = t at *
      have HMK := Aside0.mk True.intro
      have HF0 := Aside0.mk hf0
      have HF1 := Aside0.mk hf1
      clear hf0 hf1
      cases hq : cameP a f b t with
      | false =>
        go_wp2_with ((first
          | (go_at_call 24; first
              | (clear HMK; refine (pick_On.calls A0 c0 l0 x a f _ (Kd.C_below HR0.out (HB2.out.trans (HBW.out.mono HB2.out.size))) HC0.out HF0.out).mono ?_; rintro e w5 ⟨rfl, hb5⟩; replace HBW := Aside0.mk (below_step HBW.out hb5); clear hb5; have hcell4 := Boxed.cell (show Boxed w5 b3 26 (.slice A1 l1.length c1) from (HBW.out.block _ (Nat.lt_of_lt_of_le HX3.out.lt HB2.out.size)).trans ((HB2.out.block _ HX3.out.lt).trans HX3.out)))
              | (refine (pick_On.calls A1 c1 l1 x b t _ (Kd.C_below HR1.out (HB2.out.trans (HBW.out.mono HB2.out.size))) HC1.out HF1.out).mono ?_; rintro e w5 ⟨rfl, hb5⟩; replace HBW := Aside0.mk (below_step HBW.out hb5); clear hb5))
          | (go_at_call 72; refine (came_calls a b f t _).mono ?_; rintro e w7 ⟨rfl, hb5⟩; replace HBW := Aside0.mk (below_step HBW.out hb5); clear hb5; rw [hq])))
        have h2 := HC2.out
        rw [HCH.out, hq, if_neg (by simp), List.append_nil] at h2
        go_roundw
        case measure => have h3 := HRG2.out.kept (grown_of_below HBW.out none) (by simp) (by simp); rw [h3.left_eq, HRG.out.left_eq]; exact HLT.out
        case rel => exact ⟨_, _, g, ⟨HRG2.out.kept (grown_of_below HBW.out none) (by simp) (by simp)⟩, ⟨h2⟩, ⟨by have := HN.out; have := HLT.out; omega⟩, ⟨rowc_kept HROW2.out HBW.out⟩, ⟨HB2.out.trans (HBW.out.mono HB2.out.size)⟩⟩
      | true =>
        obtain ⟨i0, hi, hz0, hz1, hz2⟩ := info_parts info3C
        have hgl : g.length < 1000000 := by have := HN.out; have := HLT.out; have := HSZ.out; omega
        have h2 := HC2.out
        rw [HCH.out, hq, if_pos rfl] at h2
        have HC3 := Aside0.mk h2
        clear h2
        go_wp2_with (first | (first
          | (go_at_call 24; first
              | (clear HMK; refine (pick_On.calls A0 c0 l0 x a f _ (Kd.C_below HR0.out (HB2.out.trans (HBW.out.mono HB2.out.size))) HC0.out HF0.out).mono ?_; rintro e w5 ⟨rfl, hb5⟩; replace HBW := Aside0.mk (below_step HBW.out hb5); clear hb5; have hcell4 := Boxed.cell (show Boxed w5 b3 26 (.slice A1 l1.length c1) from (HBW.out.block _ (Nat.lt_of_lt_of_le HX3.out.lt HB2.out.size)).trans ((HB2.out.block _ HX3.out.lt).trans HX3.out)))
              | (refine (pick_On.calls A1 c1 l1 x b t _ (Kd.C_below HR1.out (HB2.out.trans (HBW.out.mono HB2.out.size))) HC1.out HF1.out).mono ?_; rintro e w5 ⟨rfl, hb5⟩; replace HBW := Aside0.mk (below_step HBW.out hb5); clear hb5))
          | (go_at_call 72; refine (came_calls a b f t _).mono ?_; rintro e w7 ⟨rfl, hb5⟩; replace HBW := Aside0.mk (below_step HBW.out hb5); clear hb5; rw [hq])) | (at_builtin; refine wpList_append_own _ rfl _ _ 42 rfl w.heap.size 3 i0 (.int .i64 0) 1 8 Tryd.underlying42 hi hz0 hz1 hz2 rfl (by decide) _ _ _ rfl ((rowc_kept HROW2.out HBW.out).alloc _) ⟨w7.heap.size, 0, none⟩ 1 1 [.int .i64 x] rfl rfl (cell_one_new w7 (.int .i64 x) 3) (by simp [Value.oneCell']) (by unfold maxLen; omega) (by omega) (by have := HB2.out.size; have := HBW.out.size; simp; omega) ?_; intro v' w8 hown' hgrow' _; have HOWN := Aside0.mk hown'; have HGROW := Aside0.mk hgrow'; clear hown' hgrow'))
        go_roundw
        case measure =>
          have h3 := HRG2.out.kept (grown_of_below HBW.out none) (by simp) (by simp)
          have hnm := rowc_not_map (rowc_kept HROW2.out HBW.out) h3
          have h4 := (h3.kept (grown_of_below ((Below.refl _ _).alloc (Nat.le_refl _) _) none) (by simp) (by simp)).kept HGROW.out hnm.1 hnm.2
          rw [h4.left_eq, HRG.out.left_eq]; exact HLT.out
        case rel =>
          have h3 := HRG2.out.kept (grown_of_below HBW.out none) (by simp) (by simp)
          have hnm := rowc_not_map (rowc_kept HROW2.out HBW.out) h3
          have h4 := (h3.kept (grown_of_below ((Below.refl _ _).alloc (Nat.le_refl _) _) none) (by simp) (by simp)).kept HGROW.out hnm.1 hnm.2
          refine ⟨_, _, g ++ [x], ⟨h4⟩, HC3, ⟨by have := HN.out; have := HLT.out; simp; omega⟩, ⟨by have := HOWN.out; simpa using this⟩, ⟨((HB2.out.trans (HBW.out.mono HB2.out.size)).alloc (by have := HB2.out.size; have := HBW.out.size; omega) _).grown HGROW.out (by have := HB2.out.size; have := HBW.out.size; simp; omega) (rowc_from HROW2.out)⟩⟩
set_option maxRecDepth 100000 in
set_option maxHeartbeats 8000000 in
theorem went_list (bm nm b1 b2 b3 : Nat) (D : DataW Unit) (A0 : Option Addr) (c0 : Nat) (l0 : List S31) (A1 : Option Addr) (c1 : Nat) (l1 : List S31) (w : World) (hr0 : Kd.C k31 w A0 l0.length l0) (hc0 : l0.length ≤ c0) (hl0 : l0.length ≤ 1000000)
    (hr1 : Kd.C k31 w A1 l1.length l1) (hc1 : l1.length ≤ c1) (hl1 : l1.length ≤ 1000000) (hm : w.ownsMap Tryd.prog 3 (plainElem Tryd.prog 4) bm nm D) (hsz : Maps.size D ≤ 1000000)
    (hb1 : Boxed w b1 108 (.map (some bm))) (hb2 : Boxed w b2 26 (.slice A0 l0.length c0)) (hb3 : Boxed w b3 26 (.slice A1 l1.length c1)) :
    Calls Tryd.prog 70 #[.func (.func 73) #[] #[], .pointer (some ⟨b1, 0, none⟩), .pointer (some ⟨b2, 0, none⟩), .pointer (some ⟨b3, 0, none⟩)] w fun e w' =>
      ∃ (v : Value) (r : List Int), e = .returned v ∧ w'.ownsRow w.heap.size 3 1 v r.length (r.map (Value.int .i64)) ∧ r.Pairwise (· < ·) ∧ (∀ x, x ∈ r ↔ (Maps.has D (.int .i64 x) = true ∧ chOf wentP l0 l1 x = true)) ∧ r.length ≤ Maps.size D ∧ Below w.heap.size w w' := by
  have HR0 := Aside0.mk hr0
  have HC0 := Aside0.mk hc0
  have HL0 := Aside0.mk hl0
  have HR1 := Aside0.mk hr1
  have HC1 := Aside0.mk hc1
  have HL1 := Aside0.mk hl1
  have HM := Aside0.mk hm
  have HSZ := Aside0.mk hsz
  have HX2 := Aside0.mk hb2
  have HX3 := Aside0.mk hb3
  have hcell1 := hb1.cell
  clear hr0 hc0 hl0 hr1 hc1 hl1 hm hsz hb1 hb2 hb3
  go_enter Tryd.func70, Tryd.ntmps70
  go_wp2_with (at_range; refine wpList_range_own _ rfl _ 108 rfl 3 4 lawG Tryd.underlying108 _ bm nm _ rfl HM.out ?_; intro w1 hrg1 hg1 hs1; have HRG1 := Aside0.mk hrg1; have HG1 := Aside0.mk hg1; clear hrg1 hg1 hs1)
  go_frame
  clear hcell1
  go_loopw [6] (fun s6 wr => ∃ (left : Lit → Bool) (cnt : Nat) (g : List Int), Aside0 (wr.ranges Tryd.prog 3 (plainElem Tryd.prog 4) bm w.heap.size nm D left cnt) ∧ Aside0 (CollI D left (chOf wentP l0 l1) g) ∧ Aside0 (g.length + cnt ≤ Maps.size D) ∧
      Aside0 (wr.ownsRow w.heap.size 3 1 s6 g.length (g.map (Value.int .i64))) ∧ Aside0 (Below w.heap.size w wr))
    (fun _ wr => wr.rangeLeft bm w.heap.size)
  case atStart => exact ⟨_, _, [], HRG1, ⟨CollI.start _ _⟩, ⟨by simp⟩, ⟨⟨rfl, .inl ⟨rfl, rfl⟩⟩⟩, ⟨(Below.refl _ w).grown HG1.out (Nat.le_refl _) (fun k hk => by cases hk)⟩⟩
  case round =>
    obtain ⟨left, cnt, g, HRG, HCO, HN, HROW, HB⟩ := hrel
    go_wp2_with (at_next; refine wpList_next_ranges _ rfl _ rfl 3 lawG (plainElem Tryd.prog 4) (Value.int .i64) (fun c : Nat => Value.bool (c == 1)) (fun key kl hkey => by obtain ⟨x, rfl, _⟩ := Maps.keyOf_int_inv Tryd.underlying3 hkey; exact ⟨x, rfl⟩) (fun v y hv => by obtain ⟨c, rfl, _⟩ := plainElem_bool_inv Tryd.underlying4 hv; exact ⟨if c then 1 else 0, by cases c <;> rfl⟩) bm w.heap.size nm _ _ _ rfl HRG.out ?_ ?_)
    · intro h0 hl0'
      have HLF := Aside0.mk hl0'
      have hgl : g.length ≤ 1000000 := by have := HN.out; have := HSZ.out; omega
      have HGL := Aside0.mk hgl
      clear h0 hl0' hgl
      go_wp2_with (go_at_call 71; refine (sort_calls g w.heap.size _ _ HGL.out HROW.out).mono ?_; rintro e w5 ⟨rfl, hs5, hg5⟩; have HS5 := Aside0.mk hs5; have HG5 := Aside0.mk hg5; clear hs5 hg5)
      go_ret
      have hlen : (sortI g).length = g.length := by simp [sortI]
      refine ⟨_, sortI g, rfl, by rw [hlen]; exact HS5.out, sortI_lt HCO.out.1, fun x => ?_, by rw [hlen]; have := HN.out; omega, HB.out.grown HG5.out HB.out.size (rowc_from HROW.out)⟩
      rw [sortI_mem, HCO.out.2 x, HLF.out]; simp
    · intro x c kl ya yb w2 cnt2 hkey hlk hv hat hrg2 hlt hg2 hs2 hen
      obtain ⟨x', ex, rfl, hwx⟩ := Maps.keyOf_int_inv Tryd.underlying3 hkey
      cases ex
      have hne : some w.heap.size ≠ (none : Option Nat) := by simp
      have HRG2 := Aside0.mk hrg2
      have HLT := Aside0.mk hlt
      have HC2 := Aside0.mk (HCO.out.step hlk hat)
      have HB2 := Aside0.mk (HB.out.grown hg2 HB.out.size (fun k hk => by cases hk; exact Nat.le_refl _))
      have HROW2 := Aside0.mk (HROW.out.kept hg2 (rowc_not_iter HROW.out HRG.out))
      have HBW := Aside0.mk (Below.refl w2.heap.size w2)
      have hcell2 := Boxed.cell (show Boxed w2 b2 26 (.slice A0 l0.length c0) from (HB2.out.block _ HX2.out.lt).trans HX2.out)
      have hcell3 := Boxed.cell (show Boxed w2 b3 26 (.slice A1 l1.length c1) from (HB2.out.block _ HX3.out.lt).trans HX3.out)
      clear hkey hlk hv hat hrg2 hlt hg2 hs2 hwx hne
      have hf0 := onF HL0.out x
      have hf1 := onF HL1.out x
      have HCH := Aside0.mk (show chOf wentP l0 l1 x = wentP (onP l0 x).1 (onP l0 x).2 (onP l1 x).1 (onP l1 x).2 from rfl)
      generalize (onP l0 x).1 = a at *
      generalize (onP l0 x).2 = f at *
      generalize (onP l1 x).1 = b at *
      generalize (onP l1 x).2 = t at *
      have HMK := Aside0.mk True.intro
      have HF0 := Aside0.mk hf0
      have HF1 := Aside0.mk hf1
      clear hf0 hf1
      cases hq : wentP a f b t with
      | false =>
        go_wp2_with ((first
          | (go_at_call 24; first
              | (clear HMK; refine (pick_On.calls A0 c0 l0 x a f _ (Kd.C_below HR0.out (HB2.out.trans (HBW.out.mono HB2.out.size))) HC0.out HF0.out).mono ?_; rintro e w5 ⟨rfl, hb5⟩; replace HBW := Aside0.mk (below_step HBW.out hb5); clear hb5; have hcell4 := Boxed.cell (show Boxed w5 b3 26 (.slice A1 l1.length c1) from (HBW.out.block _ (Nat.lt_of_lt_of_le HX3.out.lt HB2.out.size)).trans ((HB2.out.block _ HX3.out.lt).trans HX3.out)))
              | (refine (pick_On.calls A1 c1 l1 x b t _ (Kd.C_below HR1.out (HB2.out.trans (HBW.out.mono HB2.out.size))) HC1.out HF1.out).mono ?_; rintro e w5 ⟨rfl, hb5⟩; replace HBW := Aside0.mk (below_step HBW.out hb5); clear hb5))
          | (go_at_call 73; refine (went_calls a b f t _).mono ?_; rintro e w7 ⟨rfl, hb5⟩; replace HBW := Aside0.mk (below_step HBW.out hb5); clear hb5; rw [hq])))
        have h2 := HC2.out
        rw [HCH.out, hq, if_neg (by simp), List.append_nil] at h2
        go_roundw
        case measure => have h3 := HRG2.out.kept (grown_of_below HBW.out none) (by simp) (by simp); rw [h3.left_eq, HRG.out.left_eq]; exact HLT.out
        case rel => exact ⟨_, _, g, ⟨HRG2.out.kept (grown_of_below HBW.out none) (by simp) (by simp)⟩, ⟨h2⟩, ⟨by have := HN.out; have := HLT.out; omega⟩, ⟨rowc_kept HROW2.out HBW.out⟩, ⟨HB2.out.trans (HBW.out.mono HB2.out.size)⟩⟩
      | true =>
        obtain ⟨i0, hi, hz0, hz1, hz2⟩ := info_parts info3C
        have hgl : g.length < 1000000 := by have := HN.out; have := HLT.out; have := HSZ.out; omega
        have h2 := HC2.out
        rw [HCH.out, hq, if_pos rfl] at h2
        have HC3 := Aside0.mk h2
        clear h2
        go_wp2_with (first | (first
          | (go_at_call 24; first
              | (clear HMK; refine (pick_On.calls A0 c0 l0 x a f _ (Kd.C_below HR0.out (HB2.out.trans (HBW.out.mono HB2.out.size))) HC0.out HF0.out).mono ?_; rintro e w5 ⟨rfl, hb5⟩; replace HBW := Aside0.mk (below_step HBW.out hb5); clear hb5; have hcell4 := Boxed.cell (show Boxed w5 b3 26 (.slice A1 l1.length c1) from (HBW.out.block _ (Nat.lt_of_lt_of_le HX3.out.lt HB2.out.size)).trans ((HB2.out.block _ HX3.out.lt).trans HX3.out)))
              | (refine (pick_On.calls A1 c1 l1 x b t _ (Kd.C_below HR1.out (HB2.out.trans (HBW.out.mono HB2.out.size))) HC1.out HF1.out).mono ?_; rintro e w5 ⟨rfl, hb5⟩; replace HBW := Aside0.mk (below_step HBW.out hb5); clear hb5))
          | (go_at_call 73; refine (went_calls a b f t _).mono ?_; rintro e w7 ⟨rfl, hb5⟩; replace HBW := Aside0.mk (below_step HBW.out hb5); clear hb5; rw [hq])) | (at_builtin; refine wpList_append_own _ rfl _ _ 42 rfl w.heap.size 3 i0 (.int .i64 0) 1 8 Tryd.underlying42 hi hz0 hz1 hz2 rfl (by decide) _ _ _ rfl ((rowc_kept HROW2.out HBW.out).alloc _) ⟨w7.heap.size, 0, none⟩ 1 1 [.int .i64 x] rfl rfl (cell_one_new w7 (.int .i64 x) 3) (by simp [Value.oneCell']) (by unfold maxLen; omega) (by omega) (by have := HB2.out.size; have := HBW.out.size; simp; omega) ?_; intro v' w8 hown' hgrow' _; have HOWN := Aside0.mk hown'; have HGROW := Aside0.mk hgrow'; clear hown' hgrow'))
        go_roundw
        case measure =>
          have h3 := HRG2.out.kept (grown_of_below HBW.out none) (by simp) (by simp)
          have hnm := rowc_not_map (rowc_kept HROW2.out HBW.out) h3
          have h4 := (h3.kept (grown_of_below ((Below.refl _ _).alloc (Nat.le_refl _) _) none) (by simp) (by simp)).kept HGROW.out hnm.1 hnm.2
          rw [h4.left_eq, HRG.out.left_eq]; exact HLT.out
        case rel =>
          have h3 := HRG2.out.kept (grown_of_below HBW.out none) (by simp) (by simp)
          have hnm := rowc_not_map (rowc_kept HROW2.out HBW.out) h3
          have h4 := (h3.kept (grown_of_below ((Below.refl _ _).alloc (Nat.le_refl _) _) none) (by simp) (by simp)).kept HGROW.out hnm.1 hnm.2
          refine ⟨_, _, g ++ [x], ⟨h4⟩, HC3, ⟨by have := HN.out; have := HLT.out; simp; omega⟩, ⟨by have := HOWN.out; simpa using this⟩, ⟨((HB2.out.trans (HBW.out.mono HB2.out.size)).alloc (by have := HB2.out.size; have := HBW.out.size; omega) _).grown HGROW.out (by have := HB2.out.size; have := HBW.out.size; simp; omega) (rowc_from HROW2.out)⟩⟩
set_option maxRecDepth 100000 in
set_option maxHeartbeats 8000000 in
theorem moved_list (bm nm b1 b2 b3 : Nat) (D : DataW Unit) (A0 : Option Addr) (c0 : Nat) (l0 : List S31) (A1 : Option Addr) (c1 : Nat) (l1 : List S31) (w : World) (hr0 : Kd.C k31 w A0 l0.length l0) (hc0 : l0.length ≤ c0) (hl0 : l0.length ≤ 1000000)
    (hr1 : Kd.C k31 w A1 l1.length l1) (hc1 : l1.length ≤ c1) (hl1 : l1.length ≤ 1000000) (hm : w.ownsMap Tryd.prog 3 (plainElem Tryd.prog 4) bm nm D) (hsz : Maps.size D ≤ 1000000)
    (hb1 : Boxed w b1 108 (.map (some bm))) (hb2 : Boxed w b2 26 (.slice A0 l0.length c0)) (hb3 : Boxed w b3 26 (.slice A1 l1.length c1)) :
    Calls Tryd.prog 70 #[.func (.func 74) #[] #[], .pointer (some ⟨b1, 0, none⟩), .pointer (some ⟨b2, 0, none⟩), .pointer (some ⟨b3, 0, none⟩)] w fun e w' =>
      ∃ (v : Value) (r : List Int), e = .returned v ∧ w'.ownsRow w.heap.size 3 1 v r.length (r.map (Value.int .i64)) ∧ r.Pairwise (· < ·) ∧ (∀ x, x ∈ r ↔ (Maps.has D (.int .i64 x) = true ∧ chOf movedP l0 l1 x = true)) ∧ r.length ≤ Maps.size D ∧ Below w.heap.size w w' := by
  have HR0 := Aside0.mk hr0
  have HC0 := Aside0.mk hc0
  have HL0 := Aside0.mk hl0
  have HR1 := Aside0.mk hr1
  have HC1 := Aside0.mk hc1
  have HL1 := Aside0.mk hl1
  have HM := Aside0.mk hm
  have HSZ := Aside0.mk hsz
  have HX2 := Aside0.mk hb2
  have HX3 := Aside0.mk hb3
  have hcell1 := hb1.cell
  clear hr0 hc0 hl0 hr1 hc1 hl1 hm hsz hb1 hb2 hb3
  go_enter Tryd.func70, Tryd.ntmps70
  go_wp2_with (at_range; refine wpList_range_own _ rfl _ 108 rfl 3 4 lawG Tryd.underlying108 _ bm nm _ rfl HM.out ?_; intro w1 hrg1 hg1 hs1; have HRG1 := Aside0.mk hrg1; have HG1 := Aside0.mk hg1; clear hrg1 hg1 hs1)
  go_frame
  clear hcell1
  go_loopw [6] (fun s6 wr => ∃ (left : Lit → Bool) (cnt : Nat) (g : List Int), Aside0 (wr.ranges Tryd.prog 3 (plainElem Tryd.prog 4) bm w.heap.size nm D left cnt) ∧ Aside0 (CollI D left (chOf movedP l0 l1) g) ∧ Aside0 (g.length + cnt ≤ Maps.size D) ∧
      Aside0 (wr.ownsRow w.heap.size 3 1 s6 g.length (g.map (Value.int .i64))) ∧ Aside0 (Below w.heap.size w wr))
    (fun _ wr => wr.rangeLeft bm w.heap.size)
  case atStart => exact ⟨_, _, [], HRG1, ⟨CollI.start _ _⟩, ⟨by simp⟩, ⟨⟨rfl, .inl ⟨rfl, rfl⟩⟩⟩, ⟨(Below.refl _ w).grown HG1.out (Nat.le_refl _) (fun k hk => by cases hk)⟩⟩
  case round =>
    obtain ⟨left, cnt, g, HRG, HCO, HN, HROW, HB⟩ := hrel
    go_wp2_with (at_next; refine wpList_next_ranges _ rfl _ rfl 3 lawG (plainElem Tryd.prog 4) (Value.int .i64) (fun c : Nat => Value.bool (c == 1)) (fun key kl hkey => by obtain ⟨x, rfl, _⟩ := Maps.keyOf_int_inv Tryd.underlying3 hkey; exact ⟨x, rfl⟩) (fun v y hv => by obtain ⟨c, rfl, _⟩ := plainElem_bool_inv Tryd.underlying4 hv; exact ⟨if c then 1 else 0, by cases c <;> rfl⟩) bm w.heap.size nm _ _ _ rfl HRG.out ?_ ?_)
    · intro h0 hl0'
      have HLF := Aside0.mk hl0'
      have hgl : g.length ≤ 1000000 := by have := HN.out; have := HSZ.out; omega
      have HGL := Aside0.mk hgl
      clear h0 hl0' hgl
      go_wp2_with (go_at_call 71; refine (sort_calls g w.heap.size _ _ HGL.out HROW.out).mono ?_; rintro e w5 ⟨rfl, hs5, hg5⟩; have HS5 := Aside0.mk hs5; have HG5 := Aside0.mk hg5; clear hs5 hg5)
      go_ret
      have hlen : (sortI g).length = g.length := by simp [sortI]
      refine ⟨_, sortI g, rfl, by rw [hlen]; exact HS5.out, sortI_lt HCO.out.1, fun x => ?_, by rw [hlen]; have := HN.out; omega, HB.out.grown HG5.out HB.out.size (rowc_from HROW.out)⟩
      rw [sortI_mem, HCO.out.2 x, HLF.out]; simp
    · intro x c kl ya yb w2 cnt2 hkey hlk hv hat hrg2 hlt hg2 hs2 hen
      obtain ⟨x', ex, rfl, hwx⟩ := Maps.keyOf_int_inv Tryd.underlying3 hkey
      cases ex
      have hne : some w.heap.size ≠ (none : Option Nat) := by simp
      have HRG2 := Aside0.mk hrg2
      have HLT := Aside0.mk hlt
      have HC2 := Aside0.mk (HCO.out.step hlk hat)
      have HB2 := Aside0.mk (HB.out.grown hg2 HB.out.size (fun k hk => by cases hk; exact Nat.le_refl _))
      have HROW2 := Aside0.mk (HROW.out.kept hg2 (rowc_not_iter HROW.out HRG.out))
      have HBW := Aside0.mk (Below.refl w2.heap.size w2)
      have hcell2 := Boxed.cell (show Boxed w2 b2 26 (.slice A0 l0.length c0) from (HB2.out.block _ HX2.out.lt).trans HX2.out)
      have hcell3 := Boxed.cell (show Boxed w2 b3 26 (.slice A1 l1.length c1) from (HB2.out.block _ HX3.out.lt).trans HX3.out)
      clear hkey hlk hv hat hrg2 hlt hg2 hs2 hwx hne
      have hf0 := onF HL0.out x
      have hf1 := onF HL1.out x
      have HCH := Aside0.mk (show chOf movedP l0 l1 x = movedP (onP l0 x).1 (onP l0 x).2 (onP l1 x).1 (onP l1 x).2 from rfl)
      generalize (onP l0 x).1 = a at *
      generalize (onP l0 x).2 = f at *
      generalize (onP l1 x).1 = b at *
      generalize (onP l1 x).2 = t at *
      have HMK := Aside0.mk True.intro
      have HF0 := Aside0.mk hf0
      have HF1 := Aside0.mk hf1
      clear hf0 hf1
      cases hq : movedP a f b t with
      | false =>
        go_wp2_with ((first
          | (go_at_call 24; first
              | (clear HMK; refine (pick_On.calls A0 c0 l0 x a f _ (Kd.C_below HR0.out (HB2.out.trans (HBW.out.mono HB2.out.size))) HC0.out HF0.out).mono ?_; rintro e w5 ⟨rfl, hb5⟩; replace HBW := Aside0.mk (below_step HBW.out hb5); clear hb5; have hcell4 := Boxed.cell (show Boxed w5 b3 26 (.slice A1 l1.length c1) from (HBW.out.block _ (Nat.lt_of_lt_of_le HX3.out.lt HB2.out.size)).trans ((HB2.out.block _ HX3.out.lt).trans HX3.out)))
              | (refine (pick_On.calls A1 c1 l1 x b t _ (Kd.C_below HR1.out (HB2.out.trans (HBW.out.mono HB2.out.size))) HC1.out HF1.out).mono ?_; rintro e w5 ⟨rfl, hb5⟩; replace HBW := Aside0.mk (below_step HBW.out hb5); clear hb5))
          | (go_at_call 74; refine (moved_calls a b f t _).mono ?_; rintro e w7 ⟨rfl, hb5⟩; replace HBW := Aside0.mk (below_step HBW.out hb5); clear hb5; rw [hq])))
        have h2 := HC2.out
        rw [HCH.out, hq, if_neg (by simp), List.append_nil] at h2
        go_roundw
        case measure => have h3 := HRG2.out.kept (grown_of_below HBW.out none) (by simp) (by simp); rw [h3.left_eq, HRG.out.left_eq]; exact HLT.out
        case rel => exact ⟨_, _, g, ⟨HRG2.out.kept (grown_of_below HBW.out none) (by simp) (by simp)⟩, ⟨h2⟩, ⟨by have := HN.out; have := HLT.out; omega⟩, ⟨rowc_kept HROW2.out HBW.out⟩, ⟨HB2.out.trans (HBW.out.mono HB2.out.size)⟩⟩
      | true =>
        obtain ⟨i0, hi, hz0, hz1, hz2⟩ := info_parts info3C
        have hgl : g.length < 1000000 := by have := HN.out; have := HLT.out; have := HSZ.out; omega
        have h2 := HC2.out
        rw [HCH.out, hq, if_pos rfl] at h2
        have HC3 := Aside0.mk h2
        clear h2
        go_wp2_with (first | (first
          | (go_at_call 24; first
              | (clear HMK; refine (pick_On.calls A0 c0 l0 x a f _ (Kd.C_below HR0.out (HB2.out.trans (HBW.out.mono HB2.out.size))) HC0.out HF0.out).mono ?_; rintro e w5 ⟨rfl, hb5⟩; replace HBW := Aside0.mk (below_step HBW.out hb5); clear hb5; have hcell4 := Boxed.cell (show Boxed w5 b3 26 (.slice A1 l1.length c1) from (HBW.out.block _ (Nat.lt_of_lt_of_le HX3.out.lt HB2.out.size)).trans ((HB2.out.block _ HX3.out.lt).trans HX3.out)))
              | (refine (pick_On.calls A1 c1 l1 x b t _ (Kd.C_below HR1.out (HB2.out.trans (HBW.out.mono HB2.out.size))) HC1.out HF1.out).mono ?_; rintro e w5 ⟨rfl, hb5⟩; replace HBW := Aside0.mk (below_step HBW.out hb5); clear hb5))
          | (go_at_call 74; refine (moved_calls a b f t _).mono ?_; rintro e w7 ⟨rfl, hb5⟩; replace HBW := Aside0.mk (below_step HBW.out hb5); clear hb5; rw [hq])) | (at_builtin; refine wpList_append_own _ rfl _ _ 42 rfl w.heap.size 3 i0 (.int .i64 0) 1 8 Tryd.underlying42 hi hz0 hz1 hz2 rfl (by decide) _ _ _ rfl ((rowc_kept HROW2.out HBW.out).alloc _) ⟨w7.heap.size, 0, none⟩ 1 1 [.int .i64 x] rfl rfl (cell_one_new w7 (.int .i64 x) 3) (by simp [Value.oneCell']) (by unfold maxLen; omega) (by omega) (by have := HB2.out.size; have := HBW.out.size; simp; omega) ?_; intro v' w8 hown' hgrow' _; have HOWN := Aside0.mk hown'; have HGROW := Aside0.mk hgrow'; clear hown' hgrow'))
        go_roundw
        case measure =>
          have h3 := HRG2.out.kept (grown_of_below HBW.out none) (by simp) (by simp)
          have hnm := rowc_not_map (rowc_kept HROW2.out HBW.out) h3
          have h4 := (h3.kept (grown_of_below ((Below.refl _ _).alloc (Nat.le_refl _) _) none) (by simp) (by simp)).kept HGROW.out hnm.1 hnm.2
          rw [h4.left_eq, HRG.out.left_eq]; exact HLT.out
        case rel =>
          have h3 := HRG2.out.kept (grown_of_below HBW.out none) (by simp) (by simp)
          have hnm := rowc_not_map (rowc_kept HROW2.out HBW.out) h3
          have h4 := (h3.kept (grown_of_below ((Below.refl _ _).alloc (Nat.le_refl _) _) none) (by simp) (by simp)).kept HGROW.out hnm.1 hnm.2
          refine ⟨_, _, g ++ [x], ⟨h4⟩, HC3, ⟨by have := HN.out; have := HLT.out; simp; omega⟩, ⟨by have := HOWN.out; simpa using this⟩, ⟨((HB2.out.trans (HBW.out.mono HB2.out.size)).alloc (by have := HB2.out.size; have := HBW.out.size; omega) _).grown HGROW.out (by have := HB2.out.size; have := HBW.out.size; simp; omega) (rowc_from HROW2.out)⟩⟩
end Go.Proofs.YtdmieaidheelbaaDoor.Q
end
/- Grow -/
section
/- slices.Grow at []api.Put: the kit's contract, laid at this program by its tool (lay-plain). -/
namespace Go.Proofs.YtdmieaidheelbaaDoor.Q
open Go Go.RowKit Go.Shelf
set_option linter.unusedVariables false
set_option linter.unusedSimpArgs false
def lays804_ren : Go.Shelf.Ren := ⟨fun | 4 => 96 | n => n, fun | 22 => 26 | 25 => 31 | 3 => 3 | 4 => 4 | 9 => 9 | 20 => 20 | 0 => 0 | 2 => 3 | n => n, fun | n => n⟩
theorem lays804 : Go.Proofs.Lays8.n4 Tryd.prog lays804_ren := {
  mixed := by kernel_rfl
  f4 := ⟨Tryd.f96.name, by decide, Tryd.func96.trans (congrArg some (by kernel_rfl))⟩
  t0 := Tryd.underlying0
  a0 := Tryd.isAgg0
  z0 := Tryd.sizeOf0
  v0 := Tryd.zeroValue0
  t3 := Tryd.underlying3
  a3 := Tryd.isAgg3
  z3 := Tryd.sizeOf3
  v3 := Tryd.zeroValue3
  t4 := Tryd.underlying4
  a4 := Tryd.isAgg4
  z4 := Tryd.sizeOf4
  v4 := Tryd.zeroValue4
  t9 := Tryd.underlying9
  a9 := Tryd.isAgg9
  z9 := Tryd.sizeOf9
  v9 := Tryd.zeroValue9
  t20 := Tryd.underlying20
  a20 := Tryd.isAgg20
  z20 := Tryd.sizeOf20
  v20 := Tryd.zeroValue20
  t22 := Tryd.underlying26
  a22 := Tryd.isAgg26
  z22 := Tryd.sizeOf26
  v22 := Tryd.zeroValue26 }

theorem grow_zero (w : World) : Calls Tryd.prog 96 #[.slice none 0 0, .int .i64 0] w fun e w' => e = .returned (.slice none 0 0) ∧ w' = w :=
  Any8.slices_Grow_room lays804 none 0 0 0 w (Nat.le_refl _) (by decide) (by decide) (Nat.le_refl _)
theorem info31G : (Tryd.prog.info? 31).map (fun i => (i.zero, i.size, i.bytes)) = some (some (.agg #[.int .i64 0, .int .i64 0]), 2, 16) := by kernel_rfl
theorem grow_some (n : Nat) (h0 : 0 < n) (hn : n ≤ 1000000) (w : World) : Calls Tryd.prog 96 #[.slice none 0 0, .int .i64 n] w fun e w' =>
    e = .returned (.slice (some ⟨w.heap.size, 0, none⟩) 0 (grownCap w n 0 31)) ∧ w' = w.drew.alloc (.cells ((#[] : Array Value) ++ Builtin.zeroCells #[.int .i64 0, .int .i64 0] n ++ Builtin.zeroCells #[.int .i64 0, .int .i64 0] (grownCap w n 0 31 - n)) 31) := by
  obtain ⟨i0, hi, hz0, hz1, hz2⟩ := info_parts info31G
  have h := Any8.slices_Grow_grow lays804 i0 (.agg #[.int .i64 0, .int .i64 0]) hi hz0 (by rw [hz1]; decide) none 0 0 n [] w (Nat.le_refl _) (by omega) (by rw [hz2]; omega) (by omega) (by simp) (fun _ => rfl) (fun a h => by cases h)
  refine h.mono ?_
  rintro e w' ⟨h1, h2⟩
  rw [Nat.zero_add] at h1 h2
  exact ⟨h1, h2⟩
theorem grow_calls (n : Nat) (hn : n ≤ 1000000) (w : World) : Calls Tryd.prog 96 #[.slice none 0 0, .int .i64 n] w fun e w' => ∃ v, e = .returned v ∧ w'.ownsRow w.heap.size 31 2 v 0 [] ∧ Below w.heap.size w w' := by
  rcases Nat.eq_zero_or_pos n with h0 | h0
  · subst h0
    refine (grow_zero w).mono ?_
    rintro e w' ⟨rfl, rfl⟩
    exact ⟨_, rfl, ⟨rfl, .inl ⟨rfl, rfl⟩⟩, Below.refl _ _⟩
  · refine (grow_some n h0 hn w).mono ?_
    rintro e w' ⟨rfl, rfl⟩
    have hge := grownCap_ge w n 0 31
    have hle := grownCap_le_maxLen w n 0 31 (by unfold maxLen; omega)
    refine ⟨_, rfl, ⟨rfl, .inr ⟨w.heap.size, _, _, rfl, Nat.le_refl _, heap_alloc_new w.drew _, Nat.zero_le _, hle, ?_, by simp⟩⟩, (Below.refl _ w).drew.alloc (Nat.le_refl _) _⟩
    simp [Builtin.zeroCells]
    omega
end Go.Proofs.YtdmieaidheelbaaDoor.Q
end
/- Concat -/
section
/- slices.Concat at two rows of placements: a row of the call's own with the cells of both. -/
namespace Go.Proofs.YtdmieaidheelbaaDoor.Q
open Go Go.RowKit Go.Shelf Go.Proofs.YtdmieaidheelbaaDoorW.PrintWords Go.Proofs.YtdmieaidheelbaaDoorW.PrintLast Go.Proofs.YtdmieaidheelbaaDoorW.PrintMore
set_option linter.unusedVariables false
set_option linter.unusedSimpArgs false

set_option maxRecDepth 100000 in
set_option maxHeartbeats 4000000 in
theorem concat_calls (bk : Nat) (a0 a1 : Addr) (n0 c0 n1 c1 : Nat) (x0 x1 : List Value) (w : World) (h0 : n0 ≤ 1000) (h1 : n1 ≤ 1000)
    (hbk0 : w.cell? ⟨bk, 0, none⟩ = some (.slice (some a0) n0 c0)) (hbk1 : w.cell? ⟨bk, 1, none⟩ = some (.slice (some a1) n1 c1))
    (hl0 : x0.length = n0 * 2) (hc0 : ∀ j u, x0[j]? = some u → w.cell? (a0.add j) = some u) (ho0 : ∀ u ∈ x0, u.oneCell' = true)
    (hl1 : x1.length = n1 * 2) (hc1 : ∀ j u, x1[j]? = some u → w.cell? (a1.add j) = some u) (ho1 : ∀ u ∈ x1, u.oneCell' = true) :
    Calls Tryd.prog 69 #[.slice (some ⟨bk, 0, none⟩) 2 2] w fun e w' => ∃ v, e = .returned v ∧ w'.ownsRow w.heap.size 31 2 v (n0 + n1) (x0 ++ x1) ∧ Below w.heap.size w w' := by
  have HL0 := Aside0.mk hl0
  have HC0 := Aside0.mk hc0
  have HO0 := Aside0.mk ho0
  have HL1 := Aside0.mk hl1
  have HC1 := Aside0.mk hc1
  have HO1 := Aside0.mk ho1
  have HK0 := Aside0.mk hbk0
  have HK1 := Aside0.mk hbk1
  clear hl0 hc0 ho0 hl1 hc1 ho1
  go_enter Tryd.func69, Tryd.ntmps69
  go_wp2
  go_loopw [3, 11] (fun s3 s11 wr => wr = w ∧ ((s3 = .int .i64 0 ∧ s11 = .int .i64 0) ∨ (s3 = .int .i64 (n0 : Int) ∧ s11 = .int .i64 1) ∨ (s3 = .int .i64 ((n0 + n1 : Nat) : Int) ∧ s11 = .int .i64 2)))
    (fun _ s11 _ => 2 - (intOf s11).toNat)
  case atStart => exact ⟨rfl, .inl ⟨rfl, rfl⟩⟩
  case round =>
    obtain ⟨hw, hs⟩ := hrel
    have hw := hw.symm
    subst hw
    rcases hs with ⟨rfl, rfl⟩ | ⟨rfl, rfl⟩ | ⟨rfl, rfl⟩
    · have hlt : ¬ ((n0 : Int) < 0) := by omega
      go_wp2
      go_roundw
      case measure => simp only [intOf]; omega
      case rel => exact ⟨by trivial, .inr (.inl (by simp))⟩
    · have hlt : ¬ ((n0 : Int) + (n1 : Int) < 0) := by omega
      have hwr : wrap64 ((n0 : Int) + (n1 : Int)) = (n0 : Int) + (n1 : Int) := by unfold wrap64; omega
      go_wp2
      go_roundw
      case measure => simp only [intOf]; omega
      case rel => exact ⟨by trivial, .inr (.inr (by simp))⟩
    · go_wp2_with (go_at_call 96; refine (grow_calls (n0 + n1) (by omega) _).mono ?_; rintro e w5 ⟨v5, rfl, ho5, hb5⟩; have HO5 := Aside0.mk ho5; have HB5 := Aside0.mk hb5; clear ho5 hb5)
      go_loopw [6, 27] (fun s6 s27 wr' => Aside0 (Below w.heap.size w wr') ∧ ((s27 = .int .i64 0 ∧ Aside0 (wr'.ownsRow w.heap.size 31 2 s6 0 [])) ∨ (s27 = .int .i64 1 ∧ Aside0 (wr'.ownsRow w.heap.size 31 2 s6 n0 x0)) ∨ (s27 = .int .i64 2 ∧ Aside0 (wr'.ownsRow w.heap.size 31 2 s6 (n0 + n1) (x0 ++ x1)))))
        (fun _ s27 _ => 2 - (intOf s27).toNat)
      case atStart => exact ⟨HB5, .inl ⟨rfl, HO5⟩⟩
      case round =>
        obtain ⟨HB, hs⟩ := hrel
        obtain ⟨i0, hi, hz0, hz1, hz2⟩ := info_parts info31G
        have hk0 := pw_cell_below HB.out HK0.out
        have hk1 := pw_cell_below HB.out HK1.out
        rcases hs with ⟨rfl, HR⟩ | ⟨rfl, HR⟩ | ⟨rfl, HR⟩
        · go_wp2_with (at_builtin; refine wpList_append_own _ rfl _ _ 26 rfl w.heap.size 31 i0 (.agg #[.int .i64 0, .int .i64 0]) 2 16 Tryd.underlying26 hi hz0 hz1 hz2 rfl (by decide) _ _ _ rfl HR.out a0 n0 c0 x0 rfl HL0.out (fun j u hu => pw_cell_below HB.out (HC0.out j u hu)) HO0.out (by unfold maxLen; omega) (by omega) HB.out.size ?_; intro v' w8 hown' hgrow' _; have HOWN := Aside0.mk hown'; have HGROW := Aside0.mk hgrow'; clear hown' hgrow')
          go_roundw
          case measure => simp only [intOf]; omega
          case rel => exact ⟨⟨HB.out.grown HGROW.out HB.out.size (fun k hk => (HR.out.lt k hk).1)⟩, .inr (.inl ⟨rfl, ⟨by have := HOWN.out; simpa using this⟩⟩)⟩
        · go_wp2_with (at_builtin; refine wpList_append_own _ rfl _ _ 26 rfl w.heap.size 31 i0 (.agg #[.int .i64 0, .int .i64 0]) 2 16 Tryd.underlying26 hi hz0 hz1 hz2 rfl (by decide) _ _ _ rfl HR.out a1 n1 c1 x1 rfl HL1.out (fun j u hu => pw_cell_below HB.out (HC1.out j u hu)) HO1.out (by unfold maxLen; omega) (by omega) HB.out.size ?_; intro v' w8 hown' hgrow' _; have HOWN := Aside0.mk hown'; have HGROW := Aside0.mk hgrow'; clear hown' hgrow')
          go_roundw
          case measure => simp only [intOf]; omega
          case rel => exact ⟨⟨HB.out.grown HGROW.out HB.out.size (fun k hk => (HR.out.lt k hk).1)⟩, .inr (.inr ⟨rfl, HOWN⟩)⟩
        · go_wp2
          go_ret
          exact ⟨_, rfl, HR.out, HB.out⟩
end Go.Proofs.YtdmieaidheelbaaDoor.Q
end
/- Without -/
section
/- (Ask).without by its contract: an ask without an entity, and without its members' wishes. -/
namespace Go.Proofs.YtdmieaidheelbaaDoor.Q
open Go Go.RowKit Go.Shelf Go.Proofs.YtdmieaidheelbaaDoor.Rng Go.Proofs.YtdmieaidheelbaaDoorW.PrintWords Go.Proofs.YtdmieaidheelbaaDoorW.PrintLast Go.Proofs.YtdmieaidheelbaaDoorW.PrintMore
open Go.Maps (Keyed IsMap)
set_option linter.unusedVariables false
set_option linter.unusedSimpArgs false

def okWithout (l : List Ent) (w : List S36) (n : Int) : Prop := l.length ≤ 1000000 ∧ w.length ≤ 1000000 ∧ 0 ≤ n ∧ n < l.length ∧ (∀ x ∈ l, x.f0.length ≤ 1000000 ∧ ∀ v ∈ x.f0, 0 ≤ v ∧ v ≤ 1000) ∧ (∀ y ∈ w, 0 ≤ y.f0 ∧ y.f0 ≤ 1000)
instance (l : List Ent) (w : List S36) (n : Int) : Decidable (okWithout l w n) := inferInstanceAs (Decidable (_ ∧ _ ∧ _ ∧ _ ∧ _ ∧ _))
def stays (ms : List Int) (w : List S36) : List S36 := w.filter fun y => decide (y.f0 ∉ ms)
theorem map_same {W W' : World} {P : Program} {k : TypeId} {R : Value → Option (DataW Unit × List MemPlace)} {b n : Nat} {D : DataW Unit} (h : W.ownsMap P k R b n D) (hb : W'.heap[b]? = W.heap[b]?) : W'.ownsMap P k R b n D := by
  obtain ⟨es, clock, h1, r⟩ := h
  exact ⟨es, clock, hb.trans h1, r⟩
end Go.Proofs.YtdmieaidheelbaaDoor.Q
end
/- Changed -/
section
/- pick.Changed by its contract: who came, who went, who is elsewhere, each in order. -/
namespace Go.Proofs.YtdmieaidheelbaaDoor.Q
open Go Go.RowKit Go.Proofs.YtdmieaidheelbaaDoor.Rng Go.Proofs.YtdmieaidheelbaaDoorW.PrintWords Go.Proofs.YtdmieaidheelbaaDoorW.PrintLast Go.Proofs.YtdmieaidheelbaaDoorW.PrintMore
open Go.Maps (Keyed IsMap)
set_option linter.unusedVariables false
set_option linter.unusedSimpArgs false

def KeysAre (D : DataW Unit) (l : List S31) : Prop := ∀ x, Maps.has D (.int .i64 x) = true ↔ x ∈ l.map (·.f0)
theorem KeysAre.nil : KeysAre (.map []) [] := fun x => by simp [Maps.has, Maps.has_eq]
theorem KeysAre.put {D : DataW Unit} {l : List S31} (h : KeysAre D l) (hD : IsMap D) (p : S31) (hw : (Lit.int .i64 p.f0).wf = true) : KeysAre (D.put (.int .i64 p.f0) (.lit (.bool true))) (l ++ [p]) := fun x => by
  by_cases hx : x = p.f0
  · subst hx
    rw [Maps.has_put_same hD (keyG hw)]; simp
  · rw [Maps.has_put_other (lit_ne hx), h x]; simp [hx]
def IsChg (p : Int → Bool → Int → Bool → Bool) (l0 l1 : List S31) (r : List Int) : Prop := r.Pairwise (· < ·) ∧ (∀ x, x ∈ r ↔ (x ∈ (l0 ++ l1).map (·.f0) ∧ chOf p l0 l1 x = true)) ∧ r.length ≤ 2000

theorem cells31 {w : World} {p : S31} {c : List Value} (h : k31.K w p c) : c = [.int .i64 p.f0, .int .i64 p.f1] := by
  obtain ⟨c1, c2, h1, h2, h3⟩ := h
  have e1 : c1 = [.int .i64 p.f0] := h2
  have e2 : c2 = [.int .i64 p.f1] := h3
  rw [h1, e1, e2]; rfl
theorem one31 {w : World} {ps : List S31} {cs : List Value} (h : Reps (k31.K w) 2 ps cs) : ∀ u ∈ cs, u.oneCell' = true := by
  intro u hu
  obtain ⟨j, hj, rfl⟩ := List.mem_iff_getElem.1 hu
  have hj2 : j / 2 < ps.length := by have := h.1; omega
  have hc := cells31 (h.2 (j / 2) ps[j / 2] (List.getElem?_eq_getElem hj2))
  have hm : ((cs.drop (j / 2 * 2)).take 2)[j % 2]? = some cs[j] := by
    rw [List.getElem?_take_of_lt (by omega), List.getElem?_drop, show j / 2 * 2 + j % 2 = j by omega, List.getElem?_eq_getElem hj]
  rw [hc] at hm
  rcases Nat.mod_two_eq_zero_or_one j with e | e <;> rw [e] at hm <;> simp at hm <;> rw [← hm] <;> rfl
theorem chg_start (w : World) (u v : Value) : ∃ W5, W5 = (((((w.alloc (.cells #[u] 26)).alloc (.cells #[v] 26)).alloc (.map #[] 0)).alloc (.cells #[.map (some (w.heap.size + 1 + 1))] 108)).alloc (.cells #[u, v] 26)) ∧ Boxed W5 w.heap.size 26 u ∧ Boxed W5 (w.heap.size + 1) 26 v ∧ W5.ownsMap Tryd.prog 3 (plainElem (H := Unit) Tryd.prog 4) (w.heap.size + 1 + 1) 0 (.map []) ∧
    Boxed W5 (w.heap.size + 1 + 1 + 1) 108 (.map (some (w.heap.size + 1 + 1))) ∧ W5.heap[w.heap.size + 1 + 1 + 1 + 1]? = some (.cells #[u, v] 26 (0, 0)) ∧ Below w.heap.size w W5 ∧ W5.heap.size = w.heap.size + 5 := by
  refine ⟨_, rfl, ?_, ?_, ?_, ?_, ?_, ?_, by simp⟩
  · exact blk_alloc (blk_alloc (blk_alloc (blk_alloc (blk_new w _) _) _) _) _
  · have := blk_new (w.alloc (.cells #[u] 26)) (.cells #[v] 26)
    rw [World.size_alloc] at this
    exact blk_alloc (blk_alloc (blk_alloc this _) _) _
  · have := World.ownsMap_made (H := Unit) ((w.alloc (.cells #[u] 26)).alloc (.cells #[v] 26)) Tryd.prog 3 (plainElem Tryd.prog 4)
    rw [World.size_alloc, World.size_alloc] at this
    exact (this.alloc _).alloc _
  · have := blk_new (((w.alloc (.cells #[u] 26)).alloc (.cells #[v] 26)).alloc (.map #[] 0)) (.cells #[.map (some (w.heap.size + 1 + 1))] 108)
    rw [World.size_alloc, World.size_alloc, World.size_alloc] at this
    exact blk_alloc this _
  · have := blk_new ((((w.alloc (.cells #[u] 26)).alloc (.cells #[v] 26)).alloc (.map #[] 0)).alloc (.cells #[.map (some (w.heap.size + 1 + 1))] 108)) (.cells #[u, v] 26)
    rw [World.size_alloc, World.size_alloc, World.size_alloc, World.size_alloc] at this
    exact this
  · exact (((((Below.refl _ w).alloc (Nat.le_refl _) _).alloc (by simp) _).alloc (by simp; omega) _).alloc (by simp; omega) _).alloc (by simp; omega) _
theorem rowc_mono {w : World} {base base' : Nat} {e : TypeId} {size : Nat} {v : Value} {n : Nat} {xs : List Value} (h : w.ownsRow base e size v n xs) (hb : base' ≤ base) : w.ownsRow base' e size v n xs :=
  ⟨h.1, h.2.imp id fun ⟨g, cap, cur, a, b, c⟩ => ⟨g, cap, cur, a, Nat.le_trans hb b, c⟩⟩
theorem grown_cell {w w' : World} {b n : Nat} {D : DataW Unit} {a : Addr} {v : Value} (h : w.ownsMap Tryd.prog 3 (plainElem Tryd.prog 4) b n D) (hg : w.grownBy w' (some b)) (hc : w.cell? a = some v) : w'.cell? a = some v := by
  have hlt := World.block_lt_of_cell? w a hc
  refine (World.cell?_of_block (hg.block _ hlt (fun e => ?_))).trans hc
  have e' : a.block = b := Option.some.inj e
  obtain ⟨es, clock, hb, _⟩ := h
  simp [World.cell?, e', hb] at hc
set_option maxRecDepth 100000 in
set_option maxHeartbeats 8000000 in
theorem pick_Changed.calls (a0 a1 : Addr) (c0 : Nat) (l0 : List S31) (c1 : Nat) (l1 : List S31) (w : World) (hr0 : Kd.C k31 w (some a0) l0.length l0) (hc0 : l0.length ≤ c0) (hr1 : Kd.C k31 w (some a1) l1.length l1) (hc1 : l1.length ≤ c1) (hl0 : l0.length ≤ 1000) (hl1 : l1.length ≤ 1000)
    (hw0 : ∀ p ∈ l0 ++ l1, (Lit.int .i64 p.f0).wf = true) :
    Calls Tryd.prog 27 #[.slice (some a0) l0.length c0, .slice (some a1) l1.length c1] w fun e w' => ∃ (v0 v1 v2 : Value) (r0 r1 r2 : List Int), e = .returned (.tuple #[v0, v1, v2]) ∧
      w'.ownsRow w.heap.size 3 1 v0 r0.length (r0.map (Value.int .i64)) ∧ w'.ownsRow w.heap.size 3 1 v1 r1.length (r1.map (Value.int .i64)) ∧ w'.ownsRow w.heap.size 3 1 v2 r2.length (r2.map (Value.int .i64)) ∧
      IsChg cameP l0 l1 r0 ∧ IsChg wentP l0 l1 r1 ∧ IsChg movedP l0 l1 r2 ∧ Below w.heap.size w w' := by
  obtain ⟨x0, hx0r, hx0c⟩ := ReadsRow.inner_ hr0
  obtain ⟨x1, hx1r, hx1c⟩ := ReadsRow.inner_ hr1
  have hmm := @run_makeMap Tryd.prog
  have hu31 := Tryd.underlying31
  have HR0 := Aside0.mk hr0
  have HR1 := Aside0.mk hr1
  have HC0 := Aside0.mk hc0
  have HC1 := Aside0.mk hc1
  have HX0R := Aside0.mk hx0r
  have HX0C := Aside0.mk hx0c
  have HX1R := Aside0.mk hx1r
  have HX1C := Aside0.mk hx1c
  have HW0 := Aside0.mk hw0
  clear hr0 hr1 hc0 hc1 hx0r hx0c hx1r hx1c hw0
  go_enter Tryd.func27, Tryd.ntmps27
  go_wp2_with (go_at_call 69; obtain ⟨W5, hW5, hB1, hB2, hMM, hB3, hB4, hBel, hS5⟩ := chg_start w (.slice (some a0) l0.length c0) (.slice (some a1) l1.length c1); rw [← hW5]; clear hW5; have hq0 := blk_cell hB4 0; have hq1 := blk_cell hB4 1; simp only [List.getElem?_toArray, List.getElem?_cons_zero, List.getElem?_cons_succ] at hq0 hq1; refine (concat_calls (w.heap.size + 1 + 1 + 1 + 1) a0 a1 l0.length c0 l1.length c1 x0 x1 W5 hl0 hl1 hq0 hq1 HX0R.out.1 (fun j u hu => pw_cell_below hBel (HX0C.out j u hu)) (one31 HX0R.out) HX1R.out.1 (fun j u hu => pw_cell_below hBel (HX1C.out j u hu)) (one31 HX1R.out)).mono ?_; rintro e w6 ⟨v6, rfl, ho6, hb6⟩; obtain ⟨A6, c6, hv6, hrd⟩ : ∃ A c, v6 = .slice A (l0.length + l1.length) c ∧ Kd.C k31 w6 A (l0.length + l1.length) (l0 ++ l1) := own_reads_row ho6 (Kd.reps_append HX0R.out HX1R.out) (by simp); subst hv6; have HRD := Aside0.mk hrd; have HB6 := Aside0.mk (hBel.trans (hb6.mono (by omega))); have HBX1 := Aside0.mk ((hb6.block _ hB1.lt).trans hB1); have HBX2 := Aside0.mk ((hb6.block _ hB2.lt).trans hB2); have HBX3 := Aside0.mk ((hb6.block _ hB3.lt).trans hB3); have HMM := Aside0.mk (map_same hMM (hb6.block _ hMM.lt)); clear hrd ho6 hb6 hB1 hB2 hB3 hB4 hMM hq0 hq1 hBel)
  obtain ⟨L, hL⟩ : ∃ L, L = l0 ++ l1 := ⟨_, rfl⟩
  have hLl : l0.length + l1.length = L.length := by rw [hL]; simp
  have HLL := Aside0.mk hL
  rw [← hL, hLl] at HRD
  rw [← hL] at HW0
  have hLc : (l0.length : Int) + (l1.length : Int) = (L.length : Int) := by omega
  rw [hLl, hLc]
  clear hL
  go_loopw [20] (fun s20 wr => ∃ (k nm : Nat) (D : DataW Unit), k ≤ L.length ∧ s20 = .int .i64 k ∧ Aside0 (wr.ownsMap Tryd.prog 3 (plainElem Tryd.prog 4) (w.heap.size + 1 + 1) nm D) ∧ Aside0 (nm ≤ k) ∧ Aside0 (KeysAre D (L.take k)) ∧ Aside0 (w6.grownBy wr (some (w.heap.size + 1 + 1))))
    (fun s20 _ => L.length - (intOf s20).toNat)
  case atStart => exact ⟨0, 0, .map [], Nat.zero_le _, rfl, HMM, ⟨Nat.le_refl _⟩, ⟨KeysAre.nil⟩, ⟨rfl, rfl, rfl, Nat.le_refl _, fun _ _ _ => rfl⟩⟩
  case round =>
    obtain ⟨k, nm, D, hk, rfl, HM, HNM, HKA, HG⟩ := hrel
    by_cases hlt : k < L.length
    case neg =>
      obtain rfl : k = L.length := by omega
      have hka := HKA.out
      rw [List.take_length] at hka
      have HKL := Aside0.mk hka
      have HSZ := Aside0.mk (show Maps.size D ≤ 1000000 from Nat.le_trans HM.out.size_le (by have := HNM.out; omega))
      have HS2 := Aside0.mk (show Maps.size D ≤ 2000 from Nat.le_trans HM.out.size_le (by have := HNM.out; omega))
      have HBR := Aside0.mk (HB6.out.grown HG.out HB6.out.size (fun j hj => by cases hj; omega))
      have BX1 := Aside0.mk (show Boxed wr w.heap.size 26 (.slice (some a0) l0.length c0) from (HG.out.block _ (blk_lt HBX1.out) (by simp; omega)).trans HBX1.out)
      have BX2 := Aside0.mk (show Boxed wr (w.heap.size + 1) 26 (.slice (some a1) l1.length c1) from (HG.out.block _ (blk_lt HBX2.out) (by simp)).trans HBX2.out)
      have BX3 := Aside0.mk (show Boxed wr (w.heap.size + 1 + 1 + 1) 108 (.map (some (w.heap.size + 1 + 1))) from (HG.out.block _ (blk_lt HBX3.out) (by simp)).trans HBX3.out)
      have HMK1 := Aside0.mk True.intro
      have HMK2 := Aside0.mk True.intro
      clear hka HKA HG HNM hlt hk HBX1 HBX2 HBX3 HMM
      go_wp2_with (go_at_call 70; first
        | (clear HMK1; refine (came_list (w.heap.size + 1 + 1) nm (w.heap.size + 1 + 1 + 1) w.heap.size (w.heap.size + 1) D (some a0) c0 l0 (some a1) c1 l1 wr (Kd.C_below HR0.out (HBR.out.trans ((Below.refl wr.heap.size wr).mono HBR.out.size))) HC0.out (by omega) (Kd.C_below HR1.out (HBR.out.trans ((Below.refl wr.heap.size wr).mono HBR.out.size))) HC1.out (by omega) (map_same HM.out ((Below.refl wr.heap.size wr).block _ HM.out.lt)) HSZ.out (((Below.refl wr.heap.size wr).block _ BX3.out.lt).trans BX3.out) (((Below.refl wr.heap.size wr).block _ BX1.out.lt).trans BX1.out) (((Below.refl wr.heap.size wr).block _ BX2.out.lt).trans BX2.out)).mono ?_; rintro e w7 ⟨v7, r7, rfl, hp1, hp2, hp3, hp4, hp5⟩; have HP71 := Aside0.mk hp1; have HP72 := Aside0.mk hp2; have HP73 := Aside0.mk hp3; have HP74 := Aside0.mk hp4; have HP75 := Aside0.mk hp5; have HQ7 := Aside0.mk (below_step (Below.refl wr.heap.size wr) hp5); clear hp1 hp2 hp3 hp4 hp5)
        | (clear HMK2; refine (went_list (w.heap.size + 1 + 1) nm (w.heap.size + 1 + 1 + 1) w.heap.size (w.heap.size + 1) D (some a0) c0 l0 (some a1) c1 l1 w7 (Kd.C_below HR0.out (HBR.out.trans (HQ7.out.mono HBR.out.size))) HC0.out (by omega) (Kd.C_below HR1.out (HBR.out.trans (HQ7.out.mono HBR.out.size))) HC1.out (by omega) (map_same HM.out (HQ7.out.block _ HM.out.lt)) HSZ.out ((HQ7.out.block _ BX3.out.lt).trans BX3.out) ((HQ7.out.block _ BX1.out.lt).trans BX1.out) ((HQ7.out.block _ BX2.out.lt).trans BX2.out)).mono ?_; rintro e w8 ⟨v8, r8, rfl, hp1, hp2, hp3, hp4, hp5⟩; have HP81 := Aside0.mk hp1; have HP82 := Aside0.mk hp2; have HP83 := Aside0.mk hp3; have HP84 := Aside0.mk hp4; have HP85 := Aside0.mk hp5; have HQ8 := Aside0.mk (below_step HQ7.out hp5); clear hp1 hp2 hp3 hp4 hp5)
        | (refine (moved_list (w.heap.size + 1 + 1) nm (w.heap.size + 1 + 1 + 1) w.heap.size (w.heap.size + 1) D (some a0) c0 l0 (some a1) c1 l1 w8 (Kd.C_below HR0.out (HBR.out.trans (HQ8.out.mono HBR.out.size))) HC0.out (by omega) (Kd.C_below HR1.out (HBR.out.trans (HQ8.out.mono HBR.out.size))) HC1.out (by omega) (map_same HM.out (HQ8.out.block _ HM.out.lt)) HSZ.out ((HQ8.out.block _ BX3.out.lt).trans BX3.out) ((HQ8.out.block _ BX1.out.lt).trans BX1.out) ((HQ8.out.block _ BX2.out.lt).trans BX2.out)).mono ?_; rintro e w9 ⟨v9, r9, rfl, hp1, hp2, hp3, hp4, hp5⟩; have HP91 := Aside0.mk hp1; have HP92 := Aside0.mk hp2; have HP93 := Aside0.mk hp3; have HP94 := Aside0.mk hp4; have HP95 := Aside0.mk hp5; have HQ9 := Aside0.mk (below_step HQ8.out hp5); clear hp1 hp2 hp3 hp4 hp5))
      refine bodyPost_ret (results_tmp3 rfl _ _ _) rfl ?_
      have hs7 := HP75.out.size
      have hs8 := HP85.out.size
      have hbr := HBR.out.size
      have hk := HKL.out
      have hmem : ∀ y, Maps.has D (.int .i64 y) = true ↔ y ∈ (l0 ++ l1).map (·.f0) := fun y => by rw [hk y, HLL.out]
      refine ⟨v7, v8, v9, r7, r8, r9, rfl, rowc_kept (rowc_kept (rowc_mono HP71.out hbr) HP85.out) HP95.out, rowc_kept (rowc_mono HP81.out (by omega)) HP95.out, rowc_mono HP91.out (by omega), ⟨HP72.out, fun y => by rw [HP73.out y, hmem], Nat.le_trans HP74.out HS2.out⟩, ⟨HP82.out, fun y => by rw [HP83.out y, hmem], Nat.le_trans HP84.out HS2.out⟩, ⟨HP92.out, fun y => by rw [HP93.out y, hmem], Nat.le_trans HP94.out HS2.out⟩, HBR.out.trans (HQ9.out.mono hbr)⟩
    case pos =>
      obtain ⟨ad, rfl, hx0, hx1⟩ := at_T31 (show Kd.C k31 w6 A6 L.length L from HRD.out) (k : Int) (by omega) (by omega)
      rw [Int.toNat_natCast] at hx0 hx1
      replace hx0 := grown_cell HMM.out HG.out hx0
      replace hx1 := grown_cell HMM.out HG.out hx1
      have hbx := grown_cell HMM.out HG.out (Boxed.cell HBX3.out)
      have hwf := HW0.out L[k] (List.getElem_mem hlt)
      have hka := HKA.out.put HM.out.isMap L[k] hwf
      rw [← List.take_succ_eq_append_getElem hlt] at hka
      rw [show L[k] = rd_T31 L (k : Int) by simp [rd_T31, hlt]] at hka hwf
      have HKA1 := Aside0.mk hka
      have HWF := Aside0.mk hwf
      clear hka hwf
      generalize rd_T31 L (k : Int) = x at *
      have hp : decide ((k : Int) < (L.length : Int)) = true := decide_eq_true (by omega)
      have hbx1 := pw_cell_below ((Below.refl wr.heap.size wr).alloc (Nat.le_refl _) (.cells #[.int .i64 x.f0, .int .i64 x.f1] 31)) hbx
      have HM1 := Aside0.mk (HM.out.alloc (.cells #[.int .i64 x.f0, .int .i64 x.f1] 31))
      have HNX := Aside0.mk (show nm < maxLen by have := HNM.out; unfold maxLen; omega)
      go_wp2_with (at_mapUpdate; refine wpList_mapUpdate_own _ rfl _ _ _ 108 rfl 3 4 lawG Tryd.underlying108 _ (w.heap.size + 1 + 1) nm D rfl HM1.out HNX.out _ _ (.int .i64 x.f0) rfl rfl (Maps.keyOf_int_mk Tryd.underlying3 HWF.out) (.lit (.bool true)) [] (plainElem_bool Tryd.underlying4 true) ?_; intro W7 hM7 hg7; have HM7 := Aside0.mk hM7; have HG7 := Aside0.mk hg7; clear hM7 hg7)
      go_roundw
      case measure => simp only [intOf]; omega
      case rel => exact ⟨k + 1, nm + 1, _, by omega, by simp, HM7, ⟨by have := HNM.out; omega⟩, HKA1, ⟨(HG.out.andThen (World.grownBy_alloc wr _ none) (fun j hj => by cases hj)).andThen HG7.out (fun j hj => by cases hj; exact .inr rfl)⟩⟩
end Go.Proofs.YtdmieaidheelbaaDoor.Q
end
/- Picks -/
section
/- mainsheetlaw19.PickPicks by hand: the law's own walk (its print is too long for a claim). -/
namespace Go.Proofs.YtdmieaidheelbaaDoor.Q
open Go Go.RowKit Go.Proofs.YtdmieaidheelbaaDoorW.PrintWords Go.Proofs.YtdmieaidheelbaaDoorW.PrintLast Go.Proofs.YtdmieaidheelbaaDoorW.PrintMore
set_option linter.unusedVariables false
set_option linter.unusedSimpArgs false

end Go.Proofs.YtdmieaidheelbaaDoor.Q
end
/- TellsW -/
section
/- Words for PickTells' walk: a copy of a row of placements, and the lists of those that came, went and moved. -/
namespace Go.Proofs.YtdmieaidheelbaaDoor.Q
open Go Go.RowKit Go.Proofs.YtdmieaidheelbaaDoorW.PrintWords Go.Proofs.YtdmieaidheelbaaDoorW.PrintLast Go.Proofs.YtdmieaidheelbaaDoorW.PrintMore
set_option linter.unusedVariables false
set_option linter.unusedSimpArgs false

theorem info31W : (Tryd.prog.info? 31).map (fun i => (i.zero, i.size, i.bytes)) = some (some (.agg #[.int .i64 0, .int .i64 0]), 2, 16) := by kernel_rfl
theorem info3W : (Tryd.prog.info? 3).map (fun i => (i.zero, i.size, i.bytes)) = some (some (.int .i64 0), 1, 8) := by kernel_rfl
theorem copy_put {ops : Array Oper} {rest : List Oper} {o : Oper} {a : Act} {Q : Exit → Act → World → Prop} (W : World) (hgd : o.guard = none) (s x : Operand)
    (ho : o.op = .call { callee := .builtin .append, args := #[s, x], argTypes := #[26, 26] }) (A : Option Addr) (m c : Nat) (ys : List S31)
    (hs : a.eval s = .slice (some ⟨W.heap.size, 0, none⟩) 0 0) (hx : a.eval x = .slice A m c) (HR : Kd.C k31 W A m ys) (hm : m ≤ 1000000)
    (h : ∀ ad c1 w1, m ≤ c1 → Kd.R k31 31 w1 W.heap.size (fun _ => True) (.slice (some ad) m c1) ys → Below W.heap.size W w1 → wpList Tryd.prog ops Q rest (a.put o.dst (.slice (some ad) m c1)) w1) :
    wpList Tryd.prog ops Q (o :: rest) a (W.alloc (.cells #[] 31)) := by
  have hlen : ys.length = m := HR.1
  have hR0 : Kd.R k31 31 (W.alloc (.cells #[] 31)) W.heap.size (fun _ => True) (.slice (some ⟨W.heap.size, 0, none⟩) 0 0) [] := by
    refine ⟨fun _ _ => trivial, [], ?_, Reps.none _ _⟩
    have h2 := World.ownsRow_lit (base := W.heap.size) (e := 31) (size := 2) W #[] 0 (Nat.le_refl _) (by simp [maxLen]) (by simp)
    exact h2
  refine Kd.R_append_rows k31 (w0 := W) W.heap.size hgd s x 26 31 (.agg #[.int .i64 0, .int .i64 0]) 16 ho Tryd.underlying26 info31W rfl (by decide) (by omega) _ [] ys A m c (fun _ => True) (fun _ => False) hs hx hR0 (Kd.C_alloc HR _) (fun _ _ h => h) (fun _ h => h.elim) (fun _ _ => trivial) ((Below.refl _ W).alloc (Nat.le_refl _) _) (by simp) (by simp; omega) ?_
  intro v1 w1 hR1 hb1 _ hat
  rw [List.nil_append] at hR1
  obtain ⟨A1, c1, rfl, hc1, _⟩ := Kd.R_reads hR1
  cases A1 with
  | none => exfalso; rcases hat with hat | ⟨b, hat, _⟩ <;> simp [Value.ownBlock] at hat
  | some ad =>
    rw [hlen] at hc1 hR1 ⊢
    exact h ad c1 w1 hc1 hR1 hb1
theorem more_put {ops : Array Oper} {rest : List Oper} {o : Oper} {a : Act} {Q : Exit → Act → World → Prop} (W : World) (base : Nat) (hgd : o.guard = none) (s x : Operand)
    (ho : o.op = .call { callee := .builtin .append, args := #[s, x], argTypes := #[26, 26] }) (v : Value) (xs : List S31) (A : Option Addr) (m c : Nat) (ys : List S31)
    (hs : a.eval s = v) (hx : a.eval x = .slice A m c) (HO : Kd.R k31 31 W base (fun _ => True) v xs) (HR : Kd.C k31 W A m ys) (hm : xs.length + m ≤ 1000000) (L : List S31) (hL : L = xs ++ ys) (w0 : World) (HB : Below base w0 W) (hbase : base ≤ W.heap.size)
    (h : ∀ A1 c1 w1, L.length ≤ c1 → Kd.C k31 w1 A1 L.length L → Below base w0 w1 → wpList Tryd.prog ops Q rest (a.put o.dst (.slice A1 L.length c1)) w1) :
    wpList Tryd.prog ops Q (o :: rest) a W := by
  refine Kd.R_append_rows k31 (w0 := w0) base hgd s x 26 31 (.agg #[.int .i64 0, .int .i64 0]) 16 ho Tryd.underlying26 info31W rfl (by decide) (by omega) v xs ys A m c (fun _ => True) (fun _ => False) hs hx HO HR (fun _ _ h => h) (fun _ h => h.elim) (fun _ _ => trivial) HB hbase (by omega) ?_
  intro v1 w1 hR1 hb1 _ _
  rw [← hL] at hR1
  obtain ⟨A1, c1, rfl, hc1, hC1⟩ := Kd.R_reads hR1
  exact h A1 c1 w1 hc1 hC1 hb1

theorem below_dd {b : Nat} {u W : World} {n : Nat} (h : Below b u (W.drewN n)) (m : Nat) : Below b u (W.drewN (n + m)) := by
  have := pw_below_drewN h m
  rwa [World.drewN_drewN] at this
theorem drawn_below {w w' : World} (h : Drawn0 w w') : Below w.heap.size w w' := by obtain ⟨n, rfl⟩ := h; exact pw_below_drewN (Below.refl _ _) n
theorem same_b (A0 : Option Addr) (c0 : Nat) (l0 : List Int) (A1 : Option Addr) (c1 : Nat) (w : World) (hr0 : Kd.C (Kd.int .i64) w A0 l0.length l0) (hc0 : l0.length ≤ c0) (hr1 : Kd.C (Kd.int .i64) w A1 l0.length l0) (hc1 : l0.length ≤ c1) (h : l0.length ≤ 1000) :
    Calls Tryd.prog 31 #[.slice A0 l0.length c0, .slice A1 l0.length c1] w fun e w' => e = .returned (.bool true) ∧ Below w.heap.size w w' :=
  (mainsheetref04_SameInts.calls 2000 A0 c0 l0 A1 c1 l0 true w hr0 hc0 hr1 hc1 (by rw [Same_val l0 l0 (by omega) 2000 (by omega)]; simp)).mono fun e w' h => ⟨h.1, drawn_below h.2⟩
theorem rwhole_b (k : Nat) (A0 : Option Addr) (c0 : Nat) (l0 : List Ent) (A1 : Option Addr) (c1 : Nat) (l1 : List S31) (r : Bool) (w : World) (hr0 : Kd.C k90 w A0 l0.length l0) (hc0 : l0.length ≤ c0) (hr1 : Kd.C k31 w A1 l1.length l1) (hc1 : l1.length ≤ c1) (h : mainsheetref19_Whole.f k l0 l1 = some r) :
    Calls Tryd.prog 32 #[.slice A0 l0.length c0, .slice A1 l1.length c1] w fun e w' => e = .returned (.bool r) ∧ Below w.heap.size w w' :=
  (mainsheetref19_Whole.calls k A0 c0 l0 A1 c1 l1 r w hr0 hc0 hr1 hc1 h).mono fun e w' h => ⟨h.1, drawn_below h.2⟩
def vsK (k : Nat) : List Int := (List.range k).map fun i => ((i : Nat) : Int) - 3
def tellsK (p : Int → Bool → Int → Bool → Bool) (P Q : List S31) (k : Nat) : List Int := (vsK k).filter (chOf p P Q)
theorem tellsK_succ (p : Int → Bool → Int → Bool → Bool) (P Q : List S31) (k : Nat) : tellsK p P Q (k + 1) = tellsK p P Q k ++ if chOf p P Q ((k : Int) - 3) = true then [(k : Int) - 3] else [] := by
  unfold tellsK vsK
  rw [List.range_succ, List.map_append, List.filter_append]
  congr 1
  simp only [List.map_cons, List.map_nil, List.filter_cons, List.filter_nil]
theorem vsK_len (k : Nat) : (vsK k).length = k := by simp [vsK]
theorem tellsK_len (p : Int → Bool → Int → Bool → Bool) (P Q : List S31) (k : Nat) : (tellsK p P Q k).length ≤ k := Nat.le_trans (List.length_filter_le _ _) (Nat.le_of_eq (vsK_len k))
theorem vsK_mem (k : Nat) (x : Int) : x ∈ vsK k ↔ -3 ≤ x ∧ x < (k : Int) - 3 := by
  unfold vsK
  rw [List.mem_map]
  constructor
  · rintro ⟨i, hi, rfl⟩
    have := List.mem_range.1 hi
    omega
  · rintro ⟨h1, h2⟩
    exact ⟨(x + 3).toNat, List.mem_range.2 (by omega), by omega⟩
theorem tellsK_rise (p : Int → Bool → Int → Bool → Bool) (P Q : List S31) (k : Nat) : (tellsK p P Q k).Pairwise (· < ·) := by
  refine List.Pairwise.filter _ ?_
  unfold vsK
  rw [List.pairwise_map]
  exact List.pairwise_lt_range.imp (fun {a b} h => by omega)
theorem rise_ext : ∀ (a b : List Int), a.Pairwise (· < ·) → b.Pairwise (· < ·) → (∀ x, x ∈ a ↔ x ∈ b) → a = b := by
  intro a
  induction a with
  | nil =>
    intro b _ _ h
    cases b with
    | nil => rfl
    | cons y b => exact absurd ((h y).2 (by simp)) (by simp)
  | cons x a ih =>
    intro b ha hb h
    cases b with
    | nil => exact absurd ((h x).1 (by simp)) (by simp)
    | cons y b =>
      obtain ⟨a1, a2⟩ := List.pairwise_cons.1 ha
      obtain ⟨b1, b2⟩ := List.pairwise_cons.1 hb
      have hx := (h x).1 (by simp)
      have hy := (h y).2 (by simp)
      have e : x = y := by
        rcases List.mem_cons.1 hx with e | hx
        · exact e
        · rcases List.mem_cons.1 hy with e | hy
          · exact e.symm
          · have h1 := a1 y hy
            have h2 := b1 x hx
            omega
      subst e
      congr 1
      refine ih b a2 b2 fun z => ?_
      constructor
      · intro hz
        have h1 := a1 z hz
        rcases List.mem_cons.1 ((h z).1 (by simp [hz])) with e | hz2
        · omega
        · exact hz2
      · intro hz
        have h1 := b1 z hz
        rcases List.mem_cons.1 ((h z).2 (by simp [hz])) with e | hz2
        · omega
        · exact hz2
theorem on_mem (l : List S31) (x : Int) (h : (onP l x).2 = true) : x ∈ l.map (·.f0) := by
  unfold onP at h
  cases hq : l.find? (fun p => p.f0 == x) with
  | none => rw [hq] at h; cases h
  | some p =>
    have h1 := List.mem_of_find?_eq_some hq
    have h2 := List.find?_some hq
    exact List.mem_map.2 ⟨p, h1, by simpa using h2⟩
theorem chg_eq (p : Int → Bool → Int → Bool → Bool) (hp : ∀ a f b t, p a f b t = true → f = true ∨ t = true) (P Q : List S31) (hr : ∀ x ∈ P ++ Q, -3 ≤ x.f0 ∧ x.f0 ≤ 20) (r : List Int) (h : IsChg p P Q r) : r = tellsK p P Q 24 := by
  refine rise_ext _ _ h.1 (tellsK_rise p P Q 24) fun x => ?_
  rw [h.2.1 x]
  unfold tellsK
  rw [List.mem_filter, vsK_mem]
  constructor
  · rintro ⟨h1, h2⟩
    obtain ⟨y, hy, rfl⟩ := List.mem_map.1 h1
    have := hr y hy
    exact ⟨by omega, h2⟩
  · rintro ⟨_, h2⟩
    refine ⟨?_, h2⟩
    rw [List.map_append, List.mem_append]
    rcases hp _ _ _ _ h2 with e | e
    · exact .inl (on_mem P x e)
    · exact .inr (on_mem Q x e)
theorem came_some (a : Int) (f : Bool) (b : Int) (t : Bool) (h : cameP a f b t = true) : f = true ∨ t = true := by unfold cameP at h; cases t <;> simp_all
theorem went_some (a : Int) (f : Bool) (b : Int) (t : Bool) (h : wentP a f b t = true) : f = true ∨ t = true := by unfold wentP at h; cases f <;> simp_all
theorem moved_some (a : Int) (f : Bool) (b : Int) (t : Bool) (h : movedP a f b t = true) : f = true ∨ t = true := by unfold movedP at h; cases f <;> simp_all
end Go.Proofs.YtdmieaidheelbaaDoor.Q
end
/- Tells -/
section
/- mainsheetlaw19.PickTells by hand: the law's own walk. -/
namespace Go.Proofs.YtdmieaidheelbaaDoor.Q
open Go Go.RowKit Go.Proofs.YtdmieaidheelbaaDoorW.PrintWords Go.Proofs.YtdmieaidheelbaaDoorW.PrintLast Go.Proofs.YtdmieaidheelbaaDoorW.PrintMore
set_option linter.unusedVariables false
set_option linter.unusedSimpArgs false

set_option maxRecDepth 100000 in
set_option maxHeartbeats 20000000 in
theorem tells_walk (A0 : Option Addr) (c0 : Nat) (l0 : List Ent) (A1 : Option Addr) (c1 : Nat) (l1 : List S36) (a : Int) (A2 : Option Addr) (c2 : Nat) (P : List S31) (A3 : Option Addr) (c3 : Nat) (Q : List S31) (w : World) (hr0 : Kd.C k90 w A0 l0.length l0) (hc0 : l0.length ≤ c0) (hr1 : Kd.C k36 w A1 l1.length l1) (hc1 : l1.length ≤ c1)
    (hr2 : Kd.C k31 w A2 P.length P) (hc2 : P.length ≤ c2) (hr3 : Kd.C k31 w A3 Q.length Q) (hc3 : Q.length ≤ c3) (hT : TabW w) (ho : mainsheetlaw19_Ask_over.f 100 l0 l1 a = some false) (hP : P.length ≤ 60) (hQ : Q.length ≤ 60) (hwf : ∀ p ∈ P ++ Q, (Lit.int .i64 p.f0).wf = true)
    (K : Nat) (R : Bool) (hw1 : pick_Whole.f K l0 Q = some R) (hw2 : mainsheetref19_Whole.f K l0 Q = some R) (I : List Int) (e0 : Int) (hid : pick_Idle.f K l0 l1 a Q = some (I, e0)) (hwy : mainsheetlaw19_Ask_why.f l0 l1 a = some e0) (hz : e0 = 0 → mainsheetref19_Idle.f K l0 l1 a Q = some I ∧ I.length ≤ 8) (hn : e0 ≠ 0 → I = []) :
    Calls Tryd.prog 6 #[.agg #[.slice A0 l0.length c0, .slice A1 l1.length c1, .int .u32 a], .slice A2 P.length c2, .slice A3 Q.length c3] w fun e w' => e = .returned (.bool true) ∧ Below w.heap.size w w' := by
  have hu41 := Tryd.underlying41
  have hu31 := Tryd.underlying31
  have HR0 := Aside0.mk hr0
  have HR1 := Aside0.mk hr1
  have HR2 := Aside0.mk hr2
  have HR3 := Aside0.mk hr3
  have HC0 := Aside0.mk hc0
  have HC1 := Aside0.mk hc1
  have HC2 := Aside0.mk hc2
  have HC3 := Aside0.mk hc3
  have HO := Aside0.mk ho
  have HWF := Aside0.mk hwf
  have HW1 := Aside0.mk hw1
  have HW2 := Aside0.mk hw2
  have HID := Aside0.mk hid
  have HWY := Aside0.mk hwy
  have HZ := Aside0.mk hz
  have HN := Aside0.mk hn
  have HMK := Aside0.mk True.intro
  have hp1 : decide ((60 : Int) < (P.length : Int)) = false := decide_eq_false (by omega)
  have hq1 : decide ((60 : Int) < (Q.length : Int)) = false := decide_eq_false (by omega)
  have HP := Aside0.mk hP
  have HQ := Aside0.mk hQ
  have HBA := Aside0.mk ((Below.refl w.heap.size w).alloc (Nat.le_refl _) (.cells #[.slice A0 l0.length c0, .slice A1 l1.length c1, .int .u32 a] 41))
  have HTA := Aside0.mk hT
  have HX := Aside0.mk (heap_alloc_new w (.cells #[.slice A0 l0.length c0, .slice A1 l1.length c1, .int .u32 a] 41))
  clear hr0 hr1 hc0 hc1 hr2 hr3 hc2 hc3 ho hT hwf hw1 hw2 hid hwy hz hn
  go_enter Tryd.func6, Tryd.ntmps6
  go_wp2_with (first
    | (go_at_call 18; refine (mainsheetlaw19_wakes.calls true _ (HTA.out.step HBA.out) wakes19).mono ?_; rintro e w1 ⟨rfl, hb1⟩; have HB1 := Aside0.mk (below_step HBA.out hb1); have HX1 := Aside0.mk ((hb1.block _ (blk_lt HX.out)).trans HX.out); have hk0 := blk_cell HX1.out 0; have hk1 := blk_cell HX1.out 1; have hk2 := blk_cell HX1.out 2; simp only [List.getElem?_toArray, List.getElem?_cons_zero, List.getElem?_cons_succ] at hk0 hk1 hk2; clear hb1)
    | (go_at_call 19; refine (mainsheetlaw19_Ask_over.calls 100 A0 c0 l0 A1 c1 l1 a false _ (Kd.C_below HR0.out HB1.out) HC0.out (Kd.C_below HR1.out HB1.out) HC1.out HO.out).mono ?_; rintro e w2 ⟨rfl, hb2⟩; have HB2 := Aside0.mk (below_step HB1.out hb2); have HX2 := Aside0.mk ((hb2.block _ (blk_lt HX1.out)).trans HX1.out); clear hk0 hk1 hk2; clear hb2)
    | (at_builtin; first
        | (clear HMK; refine copy_put w2 rfl _ _ rfl A2 P.length c2 P rfl rfl (Kd.C_below HR2.out HB2.out) (by have := HP.out; omega) ?_; intro ad3 k3 w3 hk3 hR3 hb3; have HK3 := Aside0.mk hk3; have HR23 := Aside0.mk hR3; have HB3 := Aside0.mk (below_step HB2.out hb3); have HQ3 := Aside0.mk hb3; clear hk3 hR3 hb3)
        | (refine copy_put w3 rfl _ _ rfl A3 Q.length c3 Q rfl rfl (Kd.C_below HR3.out HB3.out) (by have := HQ.out; omega) ?_; intro ad4 k4 w4 hk4 hR4 hb4; have HK4 := Aside0.mk hk4; have HR34 := Aside0.mk hR4; have HB4 := Aside0.mk (below_step HB3.out hb4); have HQ4 := Aside0.mk hb4; clear hk4 hR4 hb4))
    | (go_at_call 27; refine (pick_Changed.calls ad3 ad4 k3 P k4 Q w4 (Kd.C_below (Kd.R_reads' HR23.out).2.2 HQ4.out) HK3.out (Kd.R_reads' HR34.out).2.2 HK4.out (by have := HP.out; omega) (by have := HQ.out; omega) HWF.out).mono ?_; rintro e w5 ⟨v0, v1, v2, r0, r1, r2, rfl, ho0, ho1, ho2, hi0, hi1, hi2, hb5⟩; obtain ⟨A5, c5, rfl, hc5, hC5⟩ := slice_own rfl ho0; obtain ⟨A6, c6, rfl, hc6, hC6⟩ := slice_own rfl ho1; obtain ⟨A7, c7, rfl, hc7, hC7⟩ := slice_own rfl ho2; have HC5 := Aside0.mk hC5; have HC6 := Aside0.mk hC6; have HC7 := Aside0.mk hC7; have HK5 := Aside0.mk hc5; have HK6 := Aside0.mk hc6; have HK7 := Aside0.mk hc7; have HI0 := Aside0.mk hi0; have HI1 := Aside0.mk hi1; have HI2 := Aside0.mk hi2; have HB5 := Aside0.mk (below_step HB4.out hb5); have hx3 := (HQ3.out.block _ (blk_lt HX2.out)).trans HX2.out; have hx4 := (HQ4.out.block _ (blk_lt hx3)).trans hx3; have HX5 := Aside0.mk ((hb5.block _ (blk_lt hx4)).trans hx4); clear hx3 hx4; clear ho0 ho1 ho2 hi0 hi1 hi2 hb5 hc5 hc6 hc7 hC5 hC6 hC7))
  clear HX HX1 HX2 HB1 HBA HP HQ
  go_loopw [10, 11, 12, 13] (fun s10 s11 s12 s13 wr => ∃ (k : Nat) (q0 q1 q2 : List Int), k ≤ 24 ∧ s13 = .int .i64 ((k : Int) - 3) ∧ Aside0 (q0 = tellsK cameP P Q k ∧ q1 = tellsK wentP P Q k ∧ q2 = tellsK movedP P Q k) ∧
      Aside0 (wr.ownsRow w5.heap.size 3 1 s10 q0.length (nums .i64 q0)) ∧ Aside0 (wr.ownsRow w5.heap.size 3 1 s11 q1.length (nums .i64 q1)) ∧ Aside0 (wr.ownsRow w5.heap.size 3 1 s12 q2.length (nums .i64 q2)) ∧
      Aside0 (NeRow s10 s11 ∧ NeRow s10 s12 ∧ NeRow s11 s12) ∧ Aside0 (Below w5.heap.size w5 wr))
    (fun _ _ _ s13 _ => 24 - (intOf s13 + 3).toNat)
  case atStart => exact ⟨0, [], [], [], Nat.zero_le _, rfl, ⟨rfl, rfl, rfl⟩, ⟨own_nil _ _ _ _⟩, ⟨own_nil _ _ _ _⟩, ⟨own_nil _ _ _ _⟩, ⟨ne_nil _, ne_nil _, ne_nil _⟩, ⟨Below.refl _ w5⟩⟩
  case round =>
    obtain ⟨k, q0, q1, q2, hk, rfl, HTK, HO0, HO1, HO2, HNE, HG⟩ := hrel
    by_cases hlt : k < 24
    case neg =>
      obtain rfl : k = 24 := by omega
      obtain ⟨L, hL⟩ : ∃ L, L = P ++ Q := ⟨_, rfl⟩
      have hLl : L.length = P.length + Q.length := by rw [hL]; simp
      have HL := Aside0.mk hL
      have HMC := Aside0.mk True.intro
      obtain ⟨B0, d0, rfl, hd0, hD0⟩ := slice_own rfl HO0.out
      obtain ⟨B1, d1, rfl, hd1, hD1⟩ := slice_own rfl HO1.out
      obtain ⟨B2, d2, rfl, hd2, hD2⟩ := slice_own rfl HO2.out
      have HD0 := Aside0.mk hD0
      have HD1 := Aside0.mk hD1
      have HD2 := Aside0.mk hD2
      have HE0 := Aside0.mk hd0
      have HE1 := Aside0.mk hd1
      have HE2 := Aside0.mk hd2
      have HBW := Aside0.mk (below_step HB5.out HG.out)
      clear hL hlt hk HO0 HO1 HO2 HNE hD0 hD1 hD2 hd0 hd1 hd2 hp1 hq1
      go_wp2_with (at_builtin; first
        | (clear HMC; refine copy_put wr rfl _ _ rfl A2 P.length c2 P rfl rfl (Kd.C_below HR2.out HBW.out) (by omega) ?_; intro ad6 k6 w6 hk6 hR6 hb6; have HK6' := Aside0.mk hk6; have HR6 := Aside0.mk hR6; have HB6 := Aside0.mk hb6; clear hk6 hR6 hb6)
        | (refine more_put w6 wr.heap.size rfl _ _ rfl (.slice (some ad6) P.length k6) P A3 Q.length c3 Q rfl rfl HR6.out (Kd.C_below HR3.out (below_step HBW.out HB6.out)) (by omega) L HL.out wr HB6.out HB6.out.size ?_; intro A9 k9 w7 hk9 hC9 hb7; have HK9 := Aside0.mk hk9; have HC9 := Aside0.mk hC9; have HB7 := Aside0.mk hb7; clear hk9 hC9 hb7))
      go_loopw [146] (fun s146 wq => ∃ (j : Nat), j ≤ L.length ∧ s146 = .int .i64 (j : Int) ∧ Aside0 (∀ x ∈ L.take j, -3 ≤ x.f0 ∧ x.f0 ≤ 20) ∧ Aside0 (Below w7.heap.size w7 wq))
        (fun s146 _ => L.length - (intOf s146).toNat)
      case atStart => exact ⟨0, Nat.zero_le _, rfl, ⟨fun x hx => by simp at hx⟩, ⟨Below.refl _ w7⟩⟩
      case round =>
        obtain ⟨j, hj, rfl, HIN, HBQ⟩ := hrel
        by_cases hjl : j < L.length
        case neg =>
          obtain rfl : j = L.length := by omega
          have hall := HIN.out
          rw [List.take_length, HL.out] at hall
          obtain ⟨t0, t1, t2⟩ := HTK.out
          have g0 := (chg_eq cameP came_some P Q hall r0 HI0.out).trans t0.symm
          have g1 := (chg_eq wentP went_some P Q hall r1 HI1.out).trans t1.symm
          have g2 := (chg_eq movedP moved_some P Q hall r2 HI2.out).trans t2.symm
          have HLN := Aside0.mk (show q0.length ≤ 1000 ∧ q1.length ≤ 1000 ∧ q2.length ≤ 1000 from ⟨by rw [t0]; exact Nat.le_trans (tellsK_len _ _ _ _) (by omega), by rw [t1]; exact Nat.le_trans (tellsK_len _ _ _ _) (by omega), by rw [t2]; exact Nat.le_trans (tellsK_len _ _ _ _) (by omega)⟩)
          clear t0 t1 t2 hall HIN hjl hj HTK HI0 HI1 HI2
          subst g0 g1 g2
          have HRQ := Aside0.mk (below_step HB7.out HBQ.out)
          have HGQ := Aside0.mk (below_step HG.out HRQ.out)
          have HWQ := Aside0.mk (below_step HBW.out HRQ.out)
          have hxq := (HGQ.out.block _ (blk_lt HX5.out)).trans HX5.out
          have HXQ := Aside0.mk hxq
          have HS := Aside0.mk ((blk_cell hxq 0).trans rfl)
          clear hxq
          have BW := Aside0.mk (below_drew (Below.refl wr.heap.size wr))
          have hrr : (R != R) = false := by simp
          have HM1 := Aside0.mk True.intro
          have HM2 := Aside0.mk True.intro
          clear HL HC9 HB6 HB7 HBQ HBW HG HR6
          go_wp2
          go_region_held3 (fun W => W.cell? ⟨w.heap.size, 0, none⟩ = some (.slice A0 l0.length c0))
            (first | exact HS.out | go_keep)
            (first
              | (go_at_call 31; first
                  | (clear HM1; refine (same_b A5 c5 r0 B0 d0 _ (Kd.C_below HC5.out (below_step HGQ.out BW.out)) HK5.out (Kd.C_below HD0.out (below_step HRQ.out BW.out)) HE0.out HLN.out.1).mono ?_; rintro e w10 ⟨rfl, hb⟩; replace HS := Aside0.mk (pw_cell_below hb HS.out); replace BW := Aside0.mk (below_step BW.out hb); clear hb)
                  | (clear HM2; refine (same_b A6 c6 r1 B1 d1 _ (Kd.C_below HC6.out (below_step HGQ.out BW.out)) HK6.out (Kd.C_below HD1.out (below_step HRQ.out BW.out)) HE1.out HLN.out.2.1).mono ?_; rintro e w11 ⟨rfl, hb⟩; replace HS := Aside0.mk (pw_cell_below hb HS.out); replace BW := Aside0.mk (below_step BW.out hb); clear hb)
                  | (refine (same_b A7 c7 r2 B2 d2 _ (Kd.C_below HC7.out (below_step HGQ.out BW.out)) HK7.out (Kd.C_below HD2.out (below_step HRQ.out BW.out)) HE2.out HLN.out.2.2).mono ?_; rintro e w12 ⟨rfl, hb⟩; replace HS := Aside0.mk (pw_cell_below hb HS.out); replace BW := Aside0.mk (below_step BW.out hb); clear hb))
              | (go_at_call 26; refine (pick_Whole.calls K A0 c0 l0 A3 c3 Q R _ (Kd.C_below HR0.out (below_step HWQ.out BW.out)) HC0.out (Kd.C_below HR3.out (below_step HWQ.out BW.out)) HC3.out HW1.out).mono ?_; rintro e w13 ⟨rfl, hb⟩; replace HS := Aside0.mk (pw_cell_below hb HS.out); replace BW := Aside0.mk (below_step BW.out hb); clear hb)
              | (go_at_call 32; refine (rwhole_b K A0 c0 l0 A3 c3 Q R _ (Kd.C_below HR0.out (below_step HWQ.out BW.out)) HC0.out (Kd.C_below HR3.out (below_step HWQ.out BW.out)) HC3.out HW2.out).mono ?_; rintro e w14 ⟨rfl, hb⟩; replace HS := Aside0.mk (pw_cell_below hb HS.out); replace BW := Aside0.mk (below_step BW.out hb); clear hb))
          all_goals
            have HB14 := Aside0.mk (below_step HWQ.out BW.out)
            have HX14 := Aside0.mk ((BW.out.block _ (blk_lt HXQ.out)).trans HXQ.out)
            have hm0 := blk_cell HX14.out 0
            have hm1 := blk_cell HX14.out 1
            have hm2 := blk_cell HX14.out 2
            simp only [List.getElem?_toArray, List.getElem?_cons_zero, List.getElem?_cons_succ] at hm0 hm1 hm2
            clear HS BW HXQ HC5 HC6 HC7 HD0 HD1 HD2 HRQ HGQ HWQ
            by_cases hz : e0 = 0
            · obtain ⟨z1, z2⟩ := HZ.out hz
              have HZ1 := Aside0.mk z1
              have HZ2 := Aside0.mk z2
              subst hz
              clear z1 z2 HZ HN
              go_wp2_with (first
                | (go_at_call 25; refine (pick_Idle.calls K A0 c0 l0 A1 c1 l1 a A3 c3 Q I 0 _ (Kd.C_below HR0.out HB14.out) HC0.out (Kd.C_below HR1.out HB14.out) HC1.out (Kd.C_below HR3.out HB14.out) HC3.out (HTA.out.step HB14.out) HID.out).mono ?_; rintro e w15 ⟨v15, rfl, hR15, hb15⟩; obtain ⟨A15, c15, rfl, hc15, hC15⟩ := Kd.R_reads hR15; have HC15 := Aside0.mk hC15; have HK15 := Aside0.mk hc15; have HB15 := Aside0.mk (below_step HB14.out hb15); have HX15 := Aside0.mk ((hb15.block _ (blk_lt HX14.out)).trans HX14.out); clear hm0 hm1 hm2 hR15 hb15 hc15 hC15; have hp0 := blk_cell HX15.out 0; have hp1 := blk_cell HX15.out 1; have hp2 := blk_cell HX15.out 2; simp only [List.getElem?_toArray, List.getElem?_cons_zero, List.getElem?_cons_succ] at hp0 hp1 hp2)
                | (go_at_call 33; refine (mainsheetlaw19_Ask_why.calls A0 c0 l0 A1 c1 l1 a 0 _ (Kd.C_below HR0.out HB15.out) HC0.out (Kd.C_below HR1.out HB15.out) HC1.out HWY.out).mono ?_; rintro e w16 ⟨rfl, hb16⟩; have HB16 := Aside0.mk (below_step HB15.out hb16); have HX16 := Aside0.mk ((hb16.block _ (blk_lt HX15.out)).trans HX15.out); have HC16 := Aside0.mk (Kd.C_below HC15.out hb16); clear hp0 hp1 hp2 hb16; have hs0 := blk_cell HX16.out 0; have hs1 := blk_cell HX16.out 1; have hs2 := blk_cell HX16.out 2; simp only [List.getElem?_toArray, List.getElem?_cons_zero, List.getElem?_cons_succ] at hs0 hs1 hs2)
                | (go_at_call 34; refine (mainsheetref19_Idle.calls K A0 c0 l0 A1 c1 l1 a A3 c3 Q I _ (Kd.C_below HR0.out HB16.out) HC0.out (Kd.C_below HR1.out HB16.out) HC1.out (Kd.C_below HR3.out HB16.out) HC3.out HZ1.out).mono ?_; rintro e w17 ⟨v17, rfl, hR17, hb17⟩; obtain ⟨A17, c17, rfl, hc17, hC17⟩ := Kd.R_reads hR17; have HC17 := Aside0.mk hC17; have HK17 := Aside0.mk hc17; have HB17 := Aside0.mk (below_step HB16.out hb17); have HC165 := Aside0.mk (Kd.C_below HC16.out hb17); clear hs0 hs1 hs2 hR17 hb17 hc17 hC17)
                | (go_at_call 31; refine (same_b A15 c15 I A17 c17 _ HC165.out HK15.out HC17.out HK17.out (by have := HZ2.out; omega)).mono ?_; rintro e w18 ⟨rfl, hb18⟩; have HB18 := Aside0.mk (below_step HB17.out hb18); clear hb18))
              go_ret
              exact ⟨rfl, HB18.out⟩
            · obtain rfl := HN.out hz
              have hne : (e0 != 0) = true := by simpa using hz
              have hee : (e0 == e0) = true := by simp
              clear hz HZ HN
              go_wp2_with (first
                | (go_at_call 25; refine (pick_Idle.calls K A0 c0 l0 A1 c1 l1 a A3 c3 Q [] e0 _ (Kd.C_below HR0.out HB14.out) HC0.out (Kd.C_below HR1.out HB14.out) HC1.out (Kd.C_below HR3.out HB14.out) HC3.out (HTA.out.step HB14.out) HID.out).mono ?_; rintro e w15 ⟨v15, rfl, hR15, hb15⟩; obtain ⟨A15, c15, rfl, hc15, hC15⟩ := Kd.R_reads hR15; have HC15 := Aside0.mk hC15; have HK15 := Aside0.mk hc15; have HB15 := Aside0.mk (below_step HB14.out hb15); have HX15 := Aside0.mk ((hb15.block _ (blk_lt HX14.out)).trans HX14.out); clear hm0 hm1 hm2 hR15 hb15 hc15 hC15; have hp0 := blk_cell HX15.out 0; have hp1 := blk_cell HX15.out 1; have hp2 := blk_cell HX15.out 2; simp only [List.getElem?_toArray, List.getElem?_cons_zero, List.getElem?_cons_succ] at hp0 hp1 hp2)
                | (go_at_call 33; refine (mainsheetlaw19_Ask_why.calls A0 c0 l0 A1 c1 l1 a e0 _ (Kd.C_below HR0.out HB15.out) HC0.out (Kd.C_below HR1.out HB15.out) HC1.out HWY.out).mono ?_; rintro e w16 ⟨rfl, hb16⟩; have HB16 := Aside0.mk (below_step HB15.out hb16); have HX16 := Aside0.mk ((hb16.block _ (blk_lt HX15.out)).trans HX15.out); have HC16 := Aside0.mk (Kd.C_below HC15.out hb16); clear hp0 hp1 hp2 hb16; have hs0 := blk_cell HX16.out 0; have hs1 := blk_cell HX16.out 1; have hs2 := blk_cell HX16.out 2; simp only [List.getElem?_toArray, List.getElem?_cons_zero, List.getElem?_cons_succ] at hs0 hs1 hs2))
              go_ret
              exact ⟨by first | rfl | (simp; done), HB16.out⟩
        case pos =>
          obtain ⟨ad, rfl, hx0, hx1⟩ := at_T31 (Kd.C_below HC9.out HBQ.out) (j : Int) (by omega) (by omega)
          rw [Int.toNat_natCast] at hx0 hx1
          have hin := HIN.out
          have hst := List.take_succ_eq_append_getElem hjl
          rw [show L[j] = rd_T31 L (j : Int) by simp [rd_T31, hjl]] at hst
          generalize rd_T31 L (j : Int) = x at *
          have HIN2 := Aside0.mk (show -3 ≤ x.f0 → x.f0 ≤ 20 → ∀ y ∈ L.take (j + 1), -3 ≤ y.f0 ∧ y.f0 ≤ 20 from fun h1 h2 y hy => by
            rw [hst] at hy
            rcases List.mem_append.1 hy with hy | hy
            · exact hin y hy
            · rcases List.mem_singleton.1 hy with rfl
              exact ⟨h1, h2⟩)
          have hp : decide ((j : Int) < (L.length : Int)) = true := decide_eq_true (by omega)
          have HBN := Aside0.mk ((HBQ.out.alloc HBQ.out.size (.cells #[.int .i64 x.f0, .int .i64 x.f1] 31)))
          have HWN := Aside0.mk (below_step HBW.out (below_step HB7.out HBN.out))
          clear hin hst HIN
          by_cases h1 : x.f0 < -3
          · have hd1 : decide (x.f0 < -3) = true := decide_eq_true h1
            clear h1
            go_wp2
            go_ret
            exact ⟨rfl, HWN.out⟩
          · have hd1 : decide (x.f0 < -3) = false := decide_eq_false h1
            by_cases h2 : 20 < x.f0
            · have hd2 : decide (20 < x.f0) = true := decide_eq_true h2
              clear h1 h2
              go_wp2
              go_ret
              exact ⟨rfl, HWN.out⟩
            · have hd2 : decide (20 < x.f0) = false := decide_eq_false h2
              have HIN3 := Aside0.mk (HIN2.out (by omega) (by omega))
              clear h1 h2
              go_wp2
              go_roundw
              case measure => simp only [intOf]; omega
              case rel => exact ⟨j + 1, by omega, by go_num, HIN3, HBN⟩
    case pos =>
      obtain ⟨v, hv⟩ : ∃ v : Int, v = (k : Int) - 3 := ⟨_, rfl⟩
      rw [← hv]
      have hv20 : decide (v ≤ 20) = true := decide_eq_true (by omega)
      have hf0 := rOn_val P (by omega) v 100 (by omega)
      have hf1 := rOn_val Q (by omega) v 100 (by omega)
      have hf2 := onF (l := Q) (by omega) v
      have hf3 := rAt_val Q (by omega) v 100 (by omega)
      have hf4 : pick_At.f Q v = some (atP Q v) := by unfold pick_At.f; exact if_pos (by omega)
      have hS0 := tellsK_succ cameP P Q k
      have hS1 := tellsK_succ wentP P Q k
      have hS2 := tellsK_succ movedP P Q k
      obtain ⟨hq0, hq1', hq2⟩ := HTK.out
      have HLQ := Aside0.mk (show q0.length ≤ 24 ∧ q1.length ≤ 24 ∧ q2.length ≤ 24 from ⟨by rw [hq0]; exact Nat.le_trans (tellsK_len _ _ _ _) (by omega), by rw [hq1']; exact Nat.le_trans (tellsK_len _ _ _ _) (by omega), by rw [hq2]; exact Nat.le_trans (tellsK_len _ _ _ _) (by omega)⟩)
      rw [← hq0, ← hv, show chOf cameP P Q v = cameP (onP P v).1 (onP P v).2 (onP Q v).1 (onP Q v).2 from rfl] at hS0
      rw [← hq1', ← hv, show chOf wentP P Q v = wentP (onP P v).1 (onP P v).2 (onP Q v).1 (onP Q v).2 from rfl] at hS1
      rw [← hq2, ← hv, show chOf movedP P Q v = movedP (onP P v).1 (onP P v).2 (onP Q v).1 (onP Q v).2 from rfl] at hS2
      clear hq0 hq1' hq2 HTK
      rw [show onP P v = ((onP P v).1, (onP P v).2) from rfl] at hf0
      rw [show onP Q v = ((onP Q v).1, (onP Q v).2) from rfl] at hf1
      rw [show atP Q v = ((atP Q v).1, (atP Q v).2) from rfl] at hf3 hf4
      have HRA := Aside0.mk hf0
      have HRB := Aside0.mk hf1
      have HPB := Aside0.mk hf2
      have HRC := Aside0.mk hf3
      have HPC := Aside0.mk hf4
      have HS0 := Aside0.mk hS0
      have HS1 := Aside0.mk hS1
      have HS2 := Aside0.mk hS2
      have HV := Aside0.mk hv
      have HWR := Aside0.mk (show wrap64 (v + 1) = v + 1 from wrap_small _ (by omega) (by omega))
      clear hf0 hf1 hf2 hf3 hf4 hS0 hS1 hS2 hv
      generalize (onP P v).1 = x at *
      generalize (onP P v).2 = f at *
      generalize (onP Q v).1 = y at *
      generalize (onP Q v).2 = t at *
      generalize (atP Q v).1 = z at *
      generalize (atP Q v).2 = o at *
      have HQW := Aside0.mk (Below.refl wr.heap.size wr)
      have HMA := Aside0.mk True.intro
      cases f with
      | false =>
        cases t with
        | false =>
          have e0 := HS0.out
          have e1 := HS1.out
          have e2 := HS2.out
          simp only [cameP, wentP, movedP, Bool.not_true, Bool.not_false, Bool.and_true, Bool.and_false, Bool.true_and, Bool.false_and, if_true, Bool.false_eq_true, if_false, List.append_nil] at e0 e1 e2
          have HE := Aside0.mk (And.intro e0 (And.intro e1 e2))
          clear e0 e1 e2
          go_wp2_with (first
            | (go_at_call 28; first
                | (clear HMA; refine (mainsheetref19_On.calls 100 A2 c2 P v x false _ (Kd.C_below HR2.out (below_step (below_step HB5.out HG.out) HQW.out)) HC2.out HRA.out).mono ?_; rintro e w6 ⟨rfl, ⟨n1, rfl⟩⟩; replace HQW := Aside0.mk (pw_below_drewN HQW.out n1))
                | (refine (mainsheetref19_On.calls 100 A3 c3 Q v y false _ (Kd.C_below HR3.out (below_step (below_step HB5.out HG.out) HQW.out)) HC3.out HRB.out).mono ?_; rintro e w6 ⟨rfl, ⟨n2, rfl⟩⟩; replace HQW := Aside0.mk (below_dd HQW.out n2)))
            | (go_at_call 24; refine (pick_On.calls A3 c3 Q v y false _ (Kd.C_below HR3.out (below_step (below_step HB5.out HG.out) HQW.out)) HC3.out HPB.out).mono ?_; rintro e w7 ⟨rfl, hb7⟩; replace HQW := Aside0.mk (below_step HQW.out hb7); clear hb7)
            | (go_at_call 29; refine (mainsheetref19_At.calls 100 A3 c3 Q v z o _ (Kd.C_below HR3.out (below_step (below_step HB5.out HG.out) HQW.out)) HC3.out HRC.out).mono ?_; rintro e w6 ⟨rfl, ⟨n3, rfl⟩⟩; replace HQW := Aside0.mk (pw_below_drewN HQW.out n3))
            | (go_at_call 30; refine (pick_At.calls A3 c3 Q v z o _ (Kd.C_below HR3.out (below_step (below_step HB5.out HG.out) HQW.out)) HC3.out HPC.out).mono ?_; rintro e w8 ⟨rfl, hb8⟩; replace HQW := Aside0.mk (below_step HQW.out hb8); clear hb8))
          go_roundw
          case measure => have := HV.out; have := HWR.out; simp only [intOf]; omega
          case rel => exact ⟨k + 1, q0, q1, q2, by omega, congrArg (Value.int .i64) (by have := HV.out; have := HWR.out; omega), ⟨HE.out.1.symm, HE.out.2.1.symm, HE.out.2.2.symm⟩, ⟨rowc_kept HO0.out HQW.out⟩, ⟨rowc_kept HO1.out HQW.out⟩, ⟨rowc_kept HO2.out HQW.out⟩, HNE, ⟨below_step HG.out HQW.out⟩⟩
        | true =>
          have e0 := HS0.out
          have e1 := HS1.out
          have e2 := HS2.out
          simp only [cameP, wentP, movedP, Bool.not_true, Bool.not_false, Bool.and_true, Bool.and_false, Bool.true_and, Bool.false_and, if_true, Bool.false_eq_true, if_false, List.append_nil] at e0 e1 e2
          have HE := Aside0.mk (And.intro e0 (And.intro e1 e2))
          clear e0 e1 e2
          go_wp2_with (first
            | (go_at_call 28; first
                | (clear HMA; refine (mainsheetref19_On.calls 100 A2 c2 P v x false _ (Kd.C_below HR2.out (below_step (below_step HB5.out HG.out) HQW.out)) HC2.out HRA.out).mono ?_; rintro e w6 ⟨rfl, ⟨n1, rfl⟩⟩; replace HQW := Aside0.mk (pw_below_drewN HQW.out n1))
                | (refine (mainsheetref19_On.calls 100 A3 c3 Q v y true _ (Kd.C_below HR3.out (below_step (below_step HB5.out HG.out) HQW.out)) HC3.out HRB.out).mono ?_; rintro e w6 ⟨rfl, ⟨n2, rfl⟩⟩; replace HQW := Aside0.mk (below_dd HQW.out n2)))
            | (go_at_call 24; refine (pick_On.calls A3 c3 Q v y true _ (Kd.C_below HR3.out (below_step (below_step HB5.out HG.out) HQW.out)) HC3.out HPB.out).mono ?_; rintro e w7 ⟨rfl, hb7⟩; replace HQW := Aside0.mk (below_step HQW.out hb7); clear hb7)
            | (go_at_call 29; refine (mainsheetref19_At.calls 100 A3 c3 Q v z o _ (Kd.C_below HR3.out (below_step (below_step HB5.out HG.out) HQW.out)) HC3.out HRC.out).mono ?_; rintro e w6 ⟨rfl, ⟨n3, rfl⟩⟩; replace HQW := Aside0.mk (pw_below_drewN HQW.out n3))
            | (go_at_call 30; refine (pick_At.calls A3 c3 Q v z o _ (Kd.C_below HR3.out (below_step (below_step HB5.out HG.out) HQW.out)) HC3.out HPC.out).mono ?_; rintro e w8 ⟨rfl, hb8⟩; replace HQW := Aside0.mk (below_step HQW.out hb8); clear hb8)
            | (at_builtin; refine print_append_num (w0 := w5) w5.heap.size rfl _ _ 42 3 .i64 8 rfl Tryd.underlying42 info3W (by omega) u10 q0 v rfl rfl (rowc_kept HO0.out HQW.out) (below_step HG.out HQW.out) (below_step HG.out HQW.out).size (by have := HLQ.out; omega) ?_; intro v' w9 hown hb9 hg9 hat9; have HOWN := Aside0.mk hown; have HB9 := Aside0.mk hb9; have HG9 := Aside0.mk hg9; have HAT := Aside0.mk hat9; clear hown hb9 hg9 hat9))
          go_roundw
          case measure => have := HV.out; have := HWR.out; simp only [intOf]; omega
          case rel => exact ⟨k + 1, q0 ++ [v], q1, q2, by omega, congrArg (Value.int .i64) (by have := HV.out; have := HWR.out; omega), ⟨HE.out.1.symm, HE.out.2.1.symm, HE.out.2.2.symm⟩, HOWN, ⟨World.ownsRow.kept (rowc_kept HO1.out HQW.out) HG9.out (ne_other HNE.out.1)⟩, ⟨World.ownsRow.kept (rowc_kept HO2.out HQW.out) HG9.out (ne_other HNE.out.2.1)⟩, ⟨ne_append HNE.out.1 HAT.out (rowc_kept HO1.out HQW.out), ne_append HNE.out.2.1 HAT.out (rowc_kept HO2.out HQW.out), HNE.out.2.2⟩, HB9⟩
      | true =>
        cases t with
        | false =>
          have e0 := HS0.out
          have e1 := HS1.out
          have e2 := HS2.out
          simp only [cameP, wentP, movedP, Bool.not_true, Bool.not_false, Bool.and_true, Bool.and_false, Bool.true_and, Bool.false_and, if_true, Bool.false_eq_true, if_false, List.append_nil] at e0 e1 e2
          have HE := Aside0.mk (And.intro e0 (And.intro e1 e2))
          clear e0 e1 e2
          go_wp2_with (first
            | (go_at_call 28; first
                | (clear HMA; refine (mainsheetref19_On.calls 100 A2 c2 P v x true _ (Kd.C_below HR2.out (below_step (below_step HB5.out HG.out) HQW.out)) HC2.out HRA.out).mono ?_; rintro e w6 ⟨rfl, ⟨n1, rfl⟩⟩; replace HQW := Aside0.mk (pw_below_drewN HQW.out n1))
                | (refine (mainsheetref19_On.calls 100 A3 c3 Q v y false _ (Kd.C_below HR3.out (below_step (below_step HB5.out HG.out) HQW.out)) HC3.out HRB.out).mono ?_; rintro e w6 ⟨rfl, ⟨n2, rfl⟩⟩; replace HQW := Aside0.mk (below_dd HQW.out n2)))
            | (go_at_call 24; refine (pick_On.calls A3 c3 Q v y false _ (Kd.C_below HR3.out (below_step (below_step HB5.out HG.out) HQW.out)) HC3.out HPB.out).mono ?_; rintro e w7 ⟨rfl, hb7⟩; replace HQW := Aside0.mk (below_step HQW.out hb7); clear hb7)
            | (go_at_call 29; refine (mainsheetref19_At.calls 100 A3 c3 Q v z o _ (Kd.C_below HR3.out (below_step (below_step HB5.out HG.out) HQW.out)) HC3.out HRC.out).mono ?_; rintro e w6 ⟨rfl, ⟨n3, rfl⟩⟩; replace HQW := Aside0.mk (pw_below_drewN HQW.out n3))
            | (go_at_call 30; refine (pick_At.calls A3 c3 Q v z o _ (Kd.C_below HR3.out (below_step (below_step HB5.out HG.out) HQW.out)) HC3.out HPC.out).mono ?_; rintro e w8 ⟨rfl, hb8⟩; replace HQW := Aside0.mk (below_step HQW.out hb8); clear hb8)
            | (at_builtin; refine print_append_num (w0 := w5) w5.heap.size rfl _ _ 42 3 .i64 8 rfl Tryd.underlying42 info3W (by omega) u11 q1 v rfl rfl (rowc_kept HO1.out HQW.out) (below_step HG.out HQW.out) (below_step HG.out HQW.out).size (by have := HLQ.out; omega) ?_; intro v' w9 hown hb9 hg9 hat9; have HOWN := Aside0.mk hown; have HB9 := Aside0.mk hb9; have HG9 := Aside0.mk hg9; have HAT := Aside0.mk hat9; clear hown hb9 hg9 hat9))
          go_roundw
          case measure => have := HV.out; have := HWR.out; simp only [intOf]; omega
          case rel => exact ⟨k + 1, q0, q1 ++ [v], q2, by omega, congrArg (Value.int .i64) (by have := HV.out; have := HWR.out; omega), ⟨HE.out.1.symm, HE.out.2.1.symm, HE.out.2.2.symm⟩, ⟨World.ownsRow.kept (rowc_kept HO0.out HQW.out) HG9.out (ne_other (ne_symm HNE.out.1))⟩, HOWN, ⟨World.ownsRow.kept (rowc_kept HO2.out HQW.out) HG9.out (ne_other HNE.out.2.2)⟩, ⟨ne_append' HNE.out.1 HAT.out (rowc_kept HO0.out HQW.out), HNE.out.2.1, ne_append HNE.out.2.2 HAT.out (rowc_kept HO2.out HQW.out)⟩, HB9⟩
        | true =>
          cases hxy : (x != y) with
          | false =>
            have e0 := HS0.out
            have e1 := HS1.out
            have e2 := HS2.out
            simp only [cameP, wentP, movedP, Bool.not_true, Bool.not_false, Bool.and_true, Bool.and_false, Bool.true_and, Bool.false_and, hxy, if_true, Bool.false_eq_true, if_false, List.append_nil] at e0 e1 e2
            have HE := Aside0.mk (And.intro e0 (And.intro e1 e2))
            clear e0 e1 e2
            go_wp2_with (first
              | (go_at_call 28; first
                  | (clear HMA; refine (mainsheetref19_On.calls 100 A2 c2 P v x true _ (Kd.C_below HR2.out (below_step (below_step HB5.out HG.out) HQW.out)) HC2.out HRA.out).mono ?_; rintro e w6 ⟨rfl, ⟨n1, rfl⟩⟩; replace HQW := Aside0.mk (pw_below_drewN HQW.out n1))
                  | (refine (mainsheetref19_On.calls 100 A3 c3 Q v y true _ (Kd.C_below HR3.out (below_step (below_step HB5.out HG.out) HQW.out)) HC3.out HRB.out).mono ?_; rintro e w6 ⟨rfl, ⟨n2, rfl⟩⟩; replace HQW := Aside0.mk (below_dd HQW.out n2)))
              | (go_at_call 24; refine (pick_On.calls A3 c3 Q v y true _ (Kd.C_below HR3.out (below_step (below_step HB5.out HG.out) HQW.out)) HC3.out HPB.out).mono ?_; rintro e w7 ⟨rfl, hb7⟩; replace HQW := Aside0.mk (below_step HQW.out hb7); clear hb7)
              | (go_at_call 29; refine (mainsheetref19_At.calls 100 A3 c3 Q v z o _ (Kd.C_below HR3.out (below_step (below_step HB5.out HG.out) HQW.out)) HC3.out HRC.out).mono ?_; rintro e w6 ⟨rfl, ⟨n3, rfl⟩⟩; replace HQW := Aside0.mk (pw_below_drewN HQW.out n3))
              | (go_at_call 30; refine (pick_At.calls A3 c3 Q v z o _ (Kd.C_below HR3.out (below_step (below_step HB5.out HG.out) HQW.out)) HC3.out HPC.out).mono ?_; rintro e w8 ⟨rfl, hb8⟩; replace HQW := Aside0.mk (below_step HQW.out hb8); clear hb8))
            go_roundw
            case measure => have := HV.out; have := HWR.out; simp only [intOf]; omega
            case rel => exact ⟨k + 1, q0, q1, q2, by omega, congrArg (Value.int .i64) (by have := HV.out; have := HWR.out; omega), ⟨HE.out.1.symm, HE.out.2.1.symm, HE.out.2.2.symm⟩, ⟨rowc_kept HO0.out HQW.out⟩, ⟨rowc_kept HO1.out HQW.out⟩, ⟨rowc_kept HO2.out HQW.out⟩, HNE, ⟨below_step HG.out HQW.out⟩⟩
          | true =>
            have e0 := HS0.out
            have e1 := HS1.out
            have e2 := HS2.out
            simp only [cameP, wentP, movedP, Bool.not_true, Bool.not_false, Bool.and_true, Bool.and_false, Bool.true_and, Bool.false_and, hxy, if_true, Bool.false_eq_true, if_false, List.append_nil] at e0 e1 e2
            have HE := Aside0.mk (And.intro e0 (And.intro e1 e2))
            clear e0 e1 e2
            go_wp2_with (first
              | (go_at_call 28; first
                  | (clear HMA; refine (mainsheetref19_On.calls 100 A2 c2 P v x true _ (Kd.C_below HR2.out (below_step (below_step HB5.out HG.out) HQW.out)) HC2.out HRA.out).mono ?_; rintro e w6 ⟨rfl, ⟨n1, rfl⟩⟩; replace HQW := Aside0.mk (pw_below_drewN HQW.out n1))
                  | (refine (mainsheetref19_On.calls 100 A3 c3 Q v y true _ (Kd.C_below HR3.out (below_step (below_step HB5.out HG.out) HQW.out)) HC3.out HRB.out).mono ?_; rintro e w6 ⟨rfl, ⟨n2, rfl⟩⟩; replace HQW := Aside0.mk (below_dd HQW.out n2)))
              | (go_at_call 24; refine (pick_On.calls A3 c3 Q v y true _ (Kd.C_below HR3.out (below_step (below_step HB5.out HG.out) HQW.out)) HC3.out HPB.out).mono ?_; rintro e w7 ⟨rfl, hb7⟩; replace HQW := Aside0.mk (below_step HQW.out hb7); clear hb7)
              | (go_at_call 29; refine (mainsheetref19_At.calls 100 A3 c3 Q v z o _ (Kd.C_below HR3.out (below_step (below_step HB5.out HG.out) HQW.out)) HC3.out HRC.out).mono ?_; rintro e w6 ⟨rfl, ⟨n3, rfl⟩⟩; replace HQW := Aside0.mk (pw_below_drewN HQW.out n3))
              | (go_at_call 30; refine (pick_At.calls A3 c3 Q v z o _ (Kd.C_below HR3.out (below_step (below_step HB5.out HG.out) HQW.out)) HC3.out HPC.out).mono ?_; rintro e w8 ⟨rfl, hb8⟩; replace HQW := Aside0.mk (below_step HQW.out hb8); clear hb8)
              | (at_builtin; refine print_append_num (w0 := w5) w5.heap.size rfl _ _ 42 3 .i64 8 rfl Tryd.underlying42 info3W (by omega) u12 q2 v rfl rfl (rowc_kept HO2.out HQW.out) (below_step HG.out HQW.out) (below_step HG.out HQW.out).size (by have := HLQ.out; omega) ?_; intro v' w9 hown hb9 hg9 hat9; have HOWN := Aside0.mk hown; have HB9 := Aside0.mk hb9; have HG9 := Aside0.mk hg9; have HAT := Aside0.mk hat9; clear hown hb9 hg9 hat9))
            go_roundw
            case measure => have := HV.out; have := HWR.out; simp only [intOf]; omega
            case rel => exact ⟨k + 1, q0, q1, q2 ++ [v], by omega, congrArg (Value.int .i64) (by have := HV.out; have := HWR.out; omega), ⟨HE.out.1.symm, HE.out.2.1.symm, HE.out.2.2.symm⟩, ⟨World.ownsRow.kept (rowc_kept HO0.out HQW.out) HG9.out (ne_other (ne_symm HNE.out.2.1))⟩, ⟨World.ownsRow.kept (rowc_kept HO1.out HQW.out) HG9.out (ne_other (ne_symm HNE.out.2.2))⟩, HOWN, ⟨HNE.out.1, ne_append' HNE.out.2.1 HAT.out (rowc_kept HO0.out HQW.out), ne_append' HNE.out.2.2 HAT.out (rowc_kept HO1.out HQW.out)⟩, HB9⟩
end Go.Proofs.YtdmieaidheelbaaDoor.Q
end
/- PureTells -/
section
/- PickTells: its contract. Where more is asked than is gone through, it answers at once; else its walk's answers are the document's. -/
namespace Go.Proofs.YtdmieaidheelbaaDoor.Q
open Go Go.RowKit Go.Proofs.YtdmieaidheelbaaDoorW.PrintWords Go.Proofs.YtdmieaidheelbaaDoorW.PrintLast Go.Proofs.YtdmieaidheelbaaDoorW.PrintMore
set_option linter.unusedVariables false
set_option linter.unusedSimpArgs false

set_option maxRecDepth 100000 in
set_option maxHeartbeats 20000000 in
theorem tells_out (A0 : Option Addr) (c0 : Nat) (l0 : List Ent) (A1 : Option Addr) (c1 : Nat) (l1 : List S36) (a : Int) (A2 : Option Addr) (c2 n2 : Nat) (A3 : Option Addr) (c3 n3 : Nat) (w : World) (hr0 : Kd.C k90 w A0 l0.length l0) (hc0 : l0.length ≤ c0) (hr1 : Kd.C k36 w A1 l1.length l1) (hc1 : l1.length ≤ c1)
    (hT : TabW w) (b p q : Bool) (ho : mainsheetlaw19_Ask_over.f 100 l0 l1 a = some b) (hp : decide ((60 : Int) < (n2 : Int)) = p) (hq : decide ((60 : Int) < (n3 : Int)) = q) (hor : (b || p || q) = true) :
    Calls Tryd.prog 6 #[.agg #[.slice A0 l0.length c0, .slice A1 l1.length c1, .int .u32 a], .slice A2 n2 c2, .slice A3 n3 c3] w fun e w' => e = .returned (.bool true) ∧ Below w.heap.size w w' := by
  have hu41 := Tryd.underlying41
  have HR0 := Aside0.mk hr0
  have HR1 := Aside0.mk hr1
  have HC0 := Aside0.mk hc0
  have HC1 := Aside0.mk hc1
  have HO := Aside0.mk ho
  have HBA := Aside0.mk ((Below.refl w.heap.size w).alloc (Nat.le_refl _) (.cells #[.slice A0 l0.length c0, .slice A1 l1.length c1, .int .u32 a] 41))
  have HTA := Aside0.mk (hT.step HBA.out)
  have HX := Aside0.mk (heap_alloc_new w (.cells #[.slice A0 l0.length c0, .slice A1 l1.length c1, .int .u32 a] 41))
  clear hr0 hr1 hc0 hc1 ho hT
  cases b <;> cases p <;> cases q <;> first
    | (exfalso; exact absurd hor (by decide))
    | (clear hor
       go_enter Tryd.func6, Tryd.ntmps6
       go_wp2_with (first
         | (go_at_call 18; refine (mainsheetlaw19_wakes.calls true _ HTA.out wakes19).mono ?_; rintro e w1 ⟨rfl, hb1⟩; have HB1 := Aside0.mk (below_step HBA.out hb1); have hx1 := (hb1.block _ (blk_lt HX.out)).trans HX.out; have hk0 := blk_cell hx1 0; have hk1 := blk_cell hx1 1; have hk2 := blk_cell hx1 2; simp only [List.getElem?_toArray, List.getElem?_cons_zero, List.getElem?_cons_succ] at hk0 hk1 hk2; clear hb1 hx1)
         | (go_at_call 19; refine (mainsheetlaw19_Ask_over.calls 100 A0 c0 l0 A1 c1 l1 a _ _ (Kd.C_below HR0.out HB1.out) HC0.out (Kd.C_below HR1.out HB1.out) HC1.out HO.out).mono ?_; rintro e w2 ⟨rfl, hb2⟩; have HB2 := Aside0.mk (below_step HB1.out hb2); clear hb2))
       go_ret
       exact ⟨rfl, HB2.out⟩)
theorem idleP_len (l : List Ent) (w : List S36) (free : Nat) (ps : List S31) : (idleP l w free ps).length ≤ 8 := by
  unfold idleP
  rw [List.length_map]
  exact Nat.le_trans (List.length_filter_le _ _) (by simp)
theorem mainsheetlaw19_PickTells.calls (A0 : Option Addr) (c0 : Nat) (l0 : List Ent) (A1 : Option Addr) (c1 : Nat) (l1 : List S36) (a : Int) (A2 : Option Addr) (c2 : Nat) (P : List S31) (A3 : Option Addr) (c3 : Nat) (Q : List S31) (w : World) (hr0 : Kd.C k90 w A0 l0.length l0) (hc0 : l0.length ≤ c0) (hr1 : Kd.C k36 w A1 l1.length l1) (hc1 : l1.length ≤ c1) (hwf : ∀ x ∈ l1, Wf36 x) (h0 : 0 ≤ a) (h1 : a < 4294967296)
    (hr2 : Kd.C k31 w A2 P.length P) (hc2 : P.length ≤ c2) (hwP : ∀ p ∈ P, (Lit.int .i64 p.f0).wf = true ∧ (Lit.int .i64 p.f1).wf = true) (hr3 : Kd.C k31 w A3 Q.length Q) (hc3 : Q.length ≤ c3) (hwQ : ∀ p ∈ Q, (Lit.int .i64 p.f0).wf = true ∧ (Lit.int .i64 p.f1).wf = true) (hT : TabW w) :
    Calls Tryd.prog 6 #[.agg #[.slice A0 l0.length c0, .slice A1 l1.length c1, .int .u32 a], .slice A2 P.length c2, .slice A3 Q.length c3] w fun e w' => e = .returned (.bool true) ∧ Below w.heap.size w w' := by
  rcases over_val l0 l1 a 100 (by omega) with ho | ⟨ho, hl, hw, hm⟩
  · exact tells_out A0 c0 l0 A1 c1 l1 a A2 c2 P.length A3 c3 Q.length w hr0 hc0 hr1 hc1 hT true _ _ ho rfl rfl (by simp)
  · by_cases hP : P.length ≤ 60
    · by_cases hQ : Q.length ≤ 60
      · have hok : okPickArgs l0 l1 a := ⟨⟨hwf, by omega, by omega⟩, h0, h1⟩
        have hE : mainsheetref19_Error.f l0 l1 = some (pickCheck l0 l1) := by unfold mainsheetref19_Error.f; exact if_pos hok.1
        have hW := why19_val l0 l1 a hE
        have hI := pIdle_val l0 l1 a hok hl hw Q hQ 3000 (by omega)
        have hwPQ : ∀ p ∈ P ++ Q, (Lit.int .i64 p.f0).wf = true := fun p hp => by
          rcases List.mem_append.1 hp with hp | hp
          · exact (hwP p hp).1
          · exact (hwQ p hp).1
        by_cases he : askedP l0 l1 a = 0
        · rw [if_pos he] at hI
          rw [he] at hW
          obtain ⟨hc, ha⟩ := askedP_ok.1 he
          obtain ⟨hs, hpc⟩ := (pickCheck_zero l0 l1).1 hc
          have hri := rIdle_val hs (fun x hx => places_ok l1 _ _ hpc x hx) hl hw hwf (free := a.toNat) (by omega) Q hQ 3000 (by omega)
          rw [show ((a.toNat : Nat) : Int) = a by omega] at hri
          exact tells_walk A0 c0 l0 A1 c1 l1 a A2 c2 P A3 c3 Q w hr0 hc0 hr1 hc1 hr2 hc2 hr3 hc3 hT ho hP hQ hwPQ 3000 _ (pWhole_val l0 Q hQ hl hm 3000 (by omega)) (rWhole_val l0 Q hQ hl hm 3000 (by omega)) _ 0 hI hW (fun _ => ⟨hri, idleP_len _ _ _ _⟩) (fun h => absurd rfl h)
        · rw [if_neg he] at hI
          exact tells_walk A0 c0 l0 A1 c1 l1 a A2 c2 P A3 c3 Q w hr0 hc0 hr1 hc1 hr2 hc2 hr3 hc3 hT ho hP hQ hwPQ 3000 _ (pWhole_val l0 Q hQ hl hm 3000 (by omega)) (rWhole_val l0 Q hQ hl hm 3000 (by omega)) [] _ hI hW (fun h => absurd h he) (fun _ => rfl)
      · exact tells_out A0 c0 l0 A1 c1 l1 a A2 c2 P.length A3 c3 Q.length w hr0 hc0 hr1 hc1 hT false _ true ho rfl (decide_eq_true (by omega)) (by simp)
    · exact tells_out A0 c0 l0 A1 c1 l1 a A2 c2 P.length A3 c3 Q.length w hr0 hc0 hr1 hc1 hT false true _ ho (decide_eq_true (by omega)) rfl (by simp)
end Go.Proofs.YtdmieaidheelbaaDoor.Q
end
/- OpenPick -/
section
/- What a law of layer 19 is handed: a wish, and an ask (its two rows and the free pCPUs), opened to the words of the walks. -/
namespace Go.Proofs.YtdmieaidheelbaaDoor.Q
open Go Go.ChangeShapes Go.WideShapes Go.ChangeAt Go.RowKit
set_option linter.unusedVariables false
set_option maxRecDepth 100000
open Go.Proofs.YtdmieaidheelbaaDoorW.PrintWords
section
variable {H : Type} {enc : TypeId × Value → H} {w : World} {base : Nat} {spare : Nat → Bool} {held : Bool}
theorem three_of {α : Type} {l : List α} (h : l.length = 3) : ∃ a b c, l = [a, b, c] := by
  match l, h with
  | [a, b, c], _ => exact ⟨a, b, c, rfl⟩
theorem open_row {α : Type} {t e : TypeId} {d : Kd α} {Wf : α → Prop} (ht : Tryd.prog.underlying t = some (.slice e)) (hC : Tryd.prog.cellsOf e = d.sz) (hE : Elem enc w base spare held e d Wf)
    {fuel : Nat} {c : Value} {x : DataW H × List MemPlace} (h : DataW.trod enc Tryd.prog w base spare held fuel t [c] = some x) :
    ∃ (A : Option Addr) (l : List α) (cap : Nat), c = .slice A l.length cap ∧ l.length ≤ cap ∧ Kd.C d w A l.length l ∧ ∀ y ∈ l, Wf y := by
  obtain ⟨A, len, cap, rfl⟩ : ∃ A len cap, c = .slice A len cap := by
    rcases Go.Deep.open_slice ht h with ⟨e, _⟩ | ⟨a, l, c, _, _, _, _, e, _⟩
    · injection e with e; exact ⟨_, _, _, e⟩
    · injection e with e; exact ⟨_, _, _, e⟩
  obtain ⟨l, hml, hcap, hC, hw⟩ := rowOf ht hC hE h
  subst hml
  exact ⟨A, l, cap, rfl, hcap, hC, hw⟩
theorem open_ask {v : Value} {b2 : Nat} {d : DataW H} {p : List MemPlace} (ok : Value.okWide Tryd.prog w .any b2 41 v) (h : DataW.Trod enc Tryd.prog w base spare held 41 v d p) :
    ∃ (A : Option Addr) (l : List S90) (c : Nat) (B : Option Addr) (m : List S36) (b : Nat) (a : Int), v = .agg #[.slice A l.length c, .slice B m.length b, .int .u32 a] ∧ l.length ≤ c ∧ m.length ≤ b ∧ Kd.C k90 w A l.length l ∧ Kd.C k36 w B m.length m ∧ (∀ x ∈ m, Wf36 x) ∧ (Lit.int .u32 a).wf = true := by
  obtain ⟨cs, rfl, hsz⟩ := okWide_struct Tryd.underlying41 ok
  obtain ⟨fuel, hf⟩ := h
  obtain ⟨xs, n, _, _, hlen, hxl, hg⟩ := DataW.trod_struct Tryd.underlying41 hf
  have hc : Tryd.prog.cellsOf 41 = 3 := by kernel_rfl
  have ce : Tryd.prog.cellsOf 39 = 1 := by kernel_rfl
  have cw : Tryd.prog.cellsOf 22 = 1 := by kernel_rfl
  have cu : Tryd.prog.cellsOf 24 = 1 := by kernel_rfl
  have c1 : Tryd.prog.cellsOf 90 = k90.sz := by kernel_rfl
  have c2 : Tryd.prog.cellsOf 36 = k36.sz := by kernel_rfl
  obtain ⟨c0, c1', c2', hcs⟩ := three_of (hlen.trans hc)
  have hcs' : cs.toList = [c0, c1', c2'] := hcs
  rw [show (Value.agg cs).cells.toList = [c0, c1', c2'] from hcs] at hg
  have h0 : DataW.trod enc Tryd.prog w base spare held n 39 (([c0, c1', c2'].drop 0).take (Tryd.prog.cellsOf 39)) = xs[0]? := hg 0 _ rfl
  rw [ce] at h0
  have h1 : DataW.trod enc Tryd.prog w base spare held n 22 (([c0, c1', c2'].drop 1).take (Tryd.prog.cellsOf 22)) = xs[1]? := hg 1 _ rfl
  rw [cw] at h1
  have h2 : DataW.trod enc Tryd.prog w base spare held n 24 (([c0, c1', c2'].drop 2).take (Tryd.prog.cellsOf 24)) = xs[2]? := hg 2 _ rfl
  rw [cu] at h2
  have hx2 : xs.length = 3 := hxl
  obtain ⟨a, rfl, wa⟩ := int_field (by omega) Tryd.underlying24 h2
  rw [List.getElem?_eq_getElem (by omega)] at h0 h1
  obtain ⟨A, l, c, rfl, hlc, hC, _⟩ := open_row Tryd.underlying39 c1 elem_entity h0
  obtain ⟨B, m, b, rfl, hmb, hD, hw⟩ := open_row Tryd.underlying22 c2 elem_wish h1
  refine ⟨A, l, c, B, m, b, a, ?_, hlc, hmb, hC, hD, hw, wa⟩
  obtain ⟨q⟩ := cs
  simp only at hcs'
  rw [hcs']
end
end Go.Proofs.YtdmieaidheelbaaDoor.Q
end
