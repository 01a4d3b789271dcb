/- Texts of the proof of PickPicks, joined. -/
import Derived.WalkMore
import Derived.BigQuiet
import Derived.Deep.QuietTactic
import Derived.Deep.RegionHeld3
import Derived.Test.YtdmieaidheelbaaDoorPkPickPickse
/- QFref19Pick -/
section
namespace Go.Proofs.YtdmieaidheelbaaDoor.Q
open Go.RowKit Go.Proofs.YtdmieaidheelbaaDoorW.PrintWords Go.Proofs.YtdmieaidheelbaaDoorW.PrintLast Go.Proofs.YtdmieaidheelbaaDoorW.PrintMore
attribute [local go_sem] max2_int min2_int max_two min_two max_three min_three max_four min_four
set_option linter.unusedVariables false
set_option linter.unusedSimpArgs false

mutual
def mainsheetref19_Pick.l0 : Nat → List (S90) → List (S36) → Int → List (S31) → List Int → Int → Option ((List (S31)) × List Int)
 | 0, _, _, _, _, _, _ => none
 | k + 1, x0, x1, x2, x8, x9, x10 => if x10 < (x0.length : Int) then (if 0 ≤ x10 then ((mainsheetref19_Takes.f k ((rd_T90 x0 x10).f0) ((rd_T90 x0 x10).f1.f0.f0) ((rd_T90 x0 x10).f1.f0.f1) ((rd_T90 x0 x10).f1.f1) ((rd_T90 x0 x10).f2) ((rd_T90 x0 x10).f3) x1 x2).bind fun bt600 => (mainsheetref19_Pick.l1 k x0 x1 x2 x8 x9 x10 bt600.1 bt600.2 0)) else (none)) else (some (x8, x9))
def mainsheetref19_Pick.l1 : Nat → List (S90) → List (S36) → Int → List (S31) → List Int → Int → List Int → Bool → Int → Option ((List (S31)) × List Int)
 | 0, _, _, _, _, _, _, _, _, _ => none
 | k + 1, x0, x1, x2, x8, x9, x10, x11, x12, x13 => if 0 ≤ x10 then (if x10 < (x0.length : Int) then (if x13 < (((rd_T90 x0 x10).f0).length : Int) then (if x12 = true then (if 0 ≤ x13 then (if x13 < (x11.length : Int) then (if x8.length < 8796093022208 then (mainsheetref19_Pick.l1 k x0 x1 x2 (x8 ++ [(⟨rd ((rd_T90 x0 x10).f0) x13, rd x11 x13⟩ : S31)]) x9 x10 x11 x12 (wrap64 (x13 + 1))) else (none)) else (none)) else (none)) else (if 0 ≤ x13 then (if x9.length < 17592186044416 then (mainsheetref19_Pick.l1 k x0 x1 x2 x8 (x9 ++ [rd ((rd_T90 x0 x10).f0) x13]) x10 x11 x12 (wrap64 (x13 + 1))) else (none)) else (none))) else (if x12 = true then ((mainsheetref19_Less.f k x2 x11).bind fun t616 => (mainsheetref19_Pick.l0 k x0 x1 t616 x8 x9 (wrap64 (x10 + 1)))) else (mainsheetref19_Pick.l0 k x0 x1 x2 x8 x9 (wrap64 (x10 + 1))))) else (none)) else (none)
end
def mainsheetref19_Pick.f (k : Nat) (l0 : List (S90)) (l1 : List (S36)) (a2 : Int) : Option ((List (S31)) × List Int) := mainsheetref19_Pick.l0 k l0 l1 a2 ([] : List (S31)) ([] : List Int) 0
def mainsheetref19_Pick.T11 : Bool × List (List Nat × List Nat) := (true, [([], []), ([], []), ([], []), ([1, 2], [1, 2]), ([3], [3]), ([4], [4]), ([], []), ([5, 6], [5, 6]), ([7], [7]), ([], []), ([], []), ([9, 10], [9, 10]), ([11], [11]), ([8, 12], [8, 12]), ([13], [13]), ([0, 14], [0, 14]), ([15, 15, 0, 1, 2, 3, 4, 5, 6, 7, 8, 9, 10, 11, 12, 13, 14, 15], [0, 15])])
def mainsheetref19_Pick.B11 : List Nat := [0, 0, 0, 6, 14, 30, 0, 126, 254, 0, 0, 1536, 3584, 8190, 16382, 32767, 65535]
theorem mainsheetref19_Pick.tab11 : rtab .any (opsOf Tryd.f50 11) = mainsheetref19_Pick.T11 := by kernel_rfl
theorem mainsheetref19_Pick.bits11 : waitsOk mainsheetref19_Pick.T11.2 mainsheetref19_Pick.B11 = true := by kernel_rfl
set_option maxHeartbeats 8000000 in
set_option maxRecDepth 100000 in
theorem mainsheetref19_Pick.calls (k : Nat) (A0 : Option Addr) (c0 : Nat) (l0 : List (S90)) (A1 : Option Addr) (c1 : Nat) (l1 : List (S36)) (a2 : Int) (r1 : List (S31)) (r2 : List Int) (w : World) (hr0 : Kd.C k90 w A0 l0.length l0) (hc0 : l0.length ≤ c0) (hr1 : Kd.C k36 w A1 l1.length l1) (hc1 : l1.length ≤ c1) (h : mainsheetref19_Pick.f k l0 l1 a2 = some (r1, r2)) :
  Calls Tryd.prog 50 #[.slice A0 l0.length c0, .slice A1 l1.length c1, .int .u32 a2] w fun e w' => ∃ v0_ v1_ : Value, e = .returned (.tuple #[v0_, v1_]) ∧ Kd.R k31 31 w' w.heap.size (fun _ => True) v0_ r1 ∧ Kd.R (Kd.int .i64) 3 w' w.heap.size (fun _ => True) v1_ r2 ∧ Below w.heap.size w w' := by
 have hu90 := Tryd.underlying90
 have hu31 := Tryd.underlying31
 have HR0 := Aside0.mk hr0
 have HC0 := Aside0.mk hc0
 clear hr0 hc0
 have HR1 := Aside0.mk hr1
 have HC1 := Aside0.mk hc1
 clear hr1 hc1
 have HB := Aside0.mk (Below.refl w.heap.size w)
 have H : (mainsheetref19_Pick.l0 k l0 l1 a2 ([] : List (S31)) ([] : List Int) 0) = some (r1, r2) := h
 clear h
 have H' := Aside0.mk H
 clear H
 go_enter Tryd.func50, Tryd.ntmps50
 go_wp2
 go_loopg [2, 8, 9, 10] k (fun kq v2 v8 v9 v10 w' => ∃ (x2_1 : Int) (x8_1 : List (S31)) (x9_1 : List Int) (x10_1 : Int), v2 = .int .u32 x2_1 ∧ v10 = .int .i64 x10_1 ∧ Aside0 (mainsheetref19_Pick.l0 kq l0 l1 x2_1 x8_1 x9_1 x10_1 = some (r1, r2)) ∧ Aside0 (kq ≤ k) ∧ Aside0 (Kd.R k31 31 w' w.heap.size (fun _ => True) v8 x8_1) ∧ Aside0 (Kd.R (Kd.int .i64) 3 w' w.heap.size (fun _ => True) v9 x9_1) ∧ Aside0 (Below w.heap.size w w'))
 case atStart => exact ⟨(a2), (([] : List (S31))), (([] : List Int)), (0), (by first | rfl | (simp; done) | (simp [*]; done)), (by first | rfl | (simp; done) | (simp [*]; done)), H', ⟨Nat.le_refl _⟩, ⟨by first | exact Kd.R_nil _ _ _ _ _ | exact Kd.N_nil _ _ _ _ _ | exact Kd.V_nil _ _ _ _ _ | exact Kd.Q_nil _ _ _ _ _ | exact Kd.S_nil _ _ _ _ _⟩, ⟨by first | exact Kd.R_nil _ _ _ _ _ | exact Kd.N_nil _ _ _ _ _ | exact Kd.V_nil _ _ _ _ _ | exact Kd.Q_nil _ _ _ _ _ | exact Kd.S_nil _ _ _ _ _⟩, ⟨by repeat (first | (with_reducible first | exact HB.out | apply below_alloc | apply pw_below_drewN | apply below_drew1) | exact HB.out)⟩⟩
 case round =>
  clear H'
  try clear c1
  try clear p2
  obtain ⟨x2_1, x8_1, x9_1, x10_1, rfl, rfl, HA, HK1, HO_8, HO_9, HB⟩ := hrel
  cases gk with
  | zero => exact absurd HA.out (by simp [mainsheetref19_Pick.l0])
  | succ k1 =>
   have H := HA.out
   clear HA
   simp only [mainsheetref19_Pick.l0] at H
   by_cases c4 : x10_1 < (l0.length : Int)
   ·rw [if_pos c4] at H
    have c4b0 : decide (x10_1 < (l0.length : Int)) = true := decide_eq_true c4
    clear c4
    by_cases c5 : 0 ≤ x10_1
    ·rw [if_pos c5] at H
     have c5b0 : decide (0 ≤ x10_1) = true := decide_eq_true c5
     clear c5
     replace H := Option.bind_eq_some_iff.mp H
     obtain ⟨⟨t600, t603⟩, A60, H⟩ := H
     replace H : (mainsheetref19_Pick.l1 k1 l0 l1 x2_1 x8_1 x9_1 x10_1 t600 t603 0) = some (r1, r2) := H
     have A6 := Aside0.mk A60
     clear A60
     have H' := Aside0.mk H
     clear H
     have p599 : 0 ≤ (x10_1 : Int) := of_decide_eq_true (by first | (with_reducible assumption) | assumption)
     have q599 : x10_1 < (l0.length : Int) := of_decide_eq_true (by first | (with_reducible assumption) | assumption)
     obtain ⟨ad599, A599_0, c599_0, e599, hx599_0, hx599_1, hx599_2, hx599_3, hx599_4, hx599_5, hl599_0, hi599_0⟩ := at_T90 HR0.out x10_1 p599 q599
     cases e599
     replace hx599_0 := (HB.out.cell (World.block_lt_of_cell? w _ hx599_0)).trans hx599_0
     replace hx599_1 := (HB.out.cell (World.block_lt_of_cell? w _ hx599_1)).trans hx599_1
     replace hx599_2 := (HB.out.cell (World.block_lt_of_cell? w _ hx599_2)).trans hx599_2
     replace hx599_3 := (HB.out.cell (World.block_lt_of_cell? w _ hx599_3)).trans hx599_3
     replace hx599_4 := (HB.out.cell (World.block_lt_of_cell? w _ hx599_4)).trans hx599_4
     replace hx599_5 := (HB.out.cell (World.block_lt_of_cell? w _ hx599_5)).trans hx599_5
     have HR599_0 := Aside0.mk hi599_0
     have HC599_0 := Aside0.mk hl599_0
     clear hi599_0 hl599_0
     replace p599 := eq_true p599
     replace q599 := eq_true q599
     go_wp2_with (first | ((with_reducible refine gate_callee (f := 84) rfl ?_); refine goesL_ (some 27) rfl rfl Tryd.func84 (by kernel_rfl) rfl #[.agg #[.slice A599_0 ((rd_T90 l0 x10_1).f0).length c599_0, .int .u64 ((rd_T90 l0 x10_1).f1.f0.f0), .int .u64 ((rd_T90 l0 x10_1).f1.f0.f1), .int .u64 ((rd_T90 l0 x10_1).f1.f1), .int .u64 ((rd_T90 l0 x10_1).f2), .bool ((rd_T90 l0 x10_1).f3)], .slice A1 l1.length c1, .int .u32 x2_1] rfl (by (try simp only [List.map_toArray, List.map_cons, List.map_nil]); first | done | rfl | (simp only [List.length_drop, List.length_take]; rfl)) ?_; (with_reducible refine (mainsheetref19_Takes.calls k1 _ _ ((rd_T90 l0 x10_1).f0) ((rd_T90 l0 x10_1).f1.f0.f0) ((rd_T90 l0 x10_1).f1.f0.f1) ((rd_T90 l0 x10_1).f1.f1) ((rd_T90 l0 x10_1).f2) ((rd_T90 l0 x10_1).f3) _ _ l1 x2_1 t600 t603 _ ?side1 ?side2 ?side3 ?side4 A6.out).mono ?_); (case side1 => repeat (first | exact (Kd.C_below HR599_0.out HB.out) | (with_reducible refine Kd.C_alloc ?_ _) | (with_reducible refine Kd.C_drewN ?_ _) | (with_reducible refine Kd.C_drew ?_))); (case side2 => exact HC599_0.out); (case side3 => repeat (first | exact (Kd.C_below HR1.out HB.out) | (with_reducible refine Kd.C_alloc ?_ _) | (with_reducible refine Kd.C_drewN ?_ _) | (with_reducible refine Kd.C_drew ?_))); (case side4 => exact HC1.out); rintro e w7 ⟨v601, rfl, ho0, hb⟩; refine ⟨_, rfl, ?_⟩; have n0_ := Aside0.mk (Kd.R_below (by (with_reducible repeat (first | apply Kd.R_alloc | apply Kd.R_drewN | apply Kd.R_drew)); exact HO_8.out) hb); have n1_ := Aside0.mk (Kd.R_elder' (by (with_reducible repeat (first | apply Kd.R_alloc | apply Kd.R_drewN | apply Kd.R_drew)); exact HO_9.out) (Kd.R_base ho0) hb); have n2_ := Aside0.mk (Kd.R_lower (Kd.R_new' ho0 (Kd.R_lt (by (with_reducible repeat (first | apply Kd.R_alloc | apply Kd.R_drewN | apply Kd.R_drew)); exact HO_9.out))) (below_size (by repeat (first | (with_reducible first | exact HB.out | apply below_alloc | apply pw_below_drewN | apply below_drew1) | exact HB.out)))); have n3_ := Aside0.mk (below_step (by repeat (first | (with_reducible first | exact HB.out | apply below_alloc | apply pw_below_drewN | apply below_drew1) | exact HB.out)) hb); clear HO_8; clear HO_9; clear HB; have HO_8 := n0_; have HO_9 := n1_; have HO602 := n2_; have HB := n3_; clear n0_ n1_ n2_ n3_; (try clear hb); (try clear hb2); (try clear hk); (try clear hi); (try clear ho0)))
     go_loopg [8, 9, 13] k1 (fun kq v8 v9 v13 w' => ∃ (x8_2 : List (S31)) (x9_2 : List Int) (x13_2 : Int), v13 = .int .i64 x13_2 ∧ Aside0 (mainsheetref19_Pick.l1 kq l0 l1 x2_1 x8_2 x9_2 x10_1 t600 t603 x13_2 = some (r1, r2)) ∧ Aside0 (kq ≤ k1) ∧ Aside0 (Kd.R k31 31 w' w.heap.size (fun _ => True) v8 x8_2) ∧ Aside0 (Kd.R (Kd.int .i64) 3 w' w.heap.size (fun k_ => some k_ ≠ (v601 : Value).ownBlock) v9 x9_2) ∧ Aside0 (Kd.R (Kd.int .i64) 3 w' w.heap.size (fun k_ => some k_ ≠ (v9 : Value).ownBlock) v601 t600) ∧ Aside0 (Below w.heap.size w w'))
     case atStart => exact ⟨(x8_1), (x9_1), (0), (by first | rfl | (simp; done) | (simp [*]; done)), H', ⟨Nat.le_refl _⟩, ⟨by (with_reducible repeat (first | apply Kd.R_alloc | apply Kd.R_drewN | apply Kd.R_drew)); exact HO_8.out⟩, ⟨by (with_reducible repeat (first | apply Kd.R_alloc | apply Kd.R_drewN | apply Kd.R_drew)); exact Kd.R_mono HO_9.out (fun _ hk => hk.2)⟩, ⟨by (with_reducible repeat (first | apply Kd.R_alloc | apply Kd.R_drewN | apply Kd.R_drew)); exact Kd.R_mono HO602.out (fun _ hk => hk.2)⟩, ⟨by repeat (first | (with_reducible first | exact HB.out | apply below_alloc | apply pw_below_drewN | apply below_drew1) | exact HB.out)⟩⟩
     case round =>
      clear H'
      try clear c1
      try clear p2
      try clear c4
      try clear c4b0
      try clear c5
      try clear c5b0
      try clear p5
      try clear q5
      try clear hx5
      try clear hx599_0
      try clear hx599_1
      try clear hx599_2
      try clear hx599_3
      try clear hx599_4
      try clear hx599_5
      try clear p2
      try clear p599
      try clear q599
      obtain ⟨x8_2, x9_2, x13_2, rfl, HA, HK2, HO_8, HO_9, HO_11, HB⟩ := hrel
      cases gk with
      | zero => exact absurd HA.out (by simp [mainsheetref19_Pick.l1])
      | succ k2 =>
       have H := HA.out
       clear HA
       simp only [mainsheetref19_Pick.l1] at H
       by_cases c8 : 0 ≤ x10_1
       ·rw [if_pos c8] at H
        have c8b0 : decide (0 ≤ x10_1) = true := decide_eq_true c8
        clear c8
        by_cases c9 : x10_1 < (l0.length : Int)
        ·rw [if_pos c9] at H
         have c9b0 : decide (x10_1 < (l0.length : Int)) = true := decide_eq_true c9
         clear c9
         by_cases c10 : x13_2 < (((rd_T90 l0 x10_1).f0).length : Int)
         ·rw [if_pos c10] at H
          have c10b0 : decide (x13_2 < (((rd_T90 l0 x10_1).f0).length : Int)) = true := decide_eq_true c10
          clear c10
          by_cases c11 : t603 = true
          ·subst c11
           have H1 : (if 0 ≤ x13_2 then (if x13_2 < (t600.length : Int) then (if x8_2.length < 8796093022208 then (mainsheetref19_Pick.l1 k2 l0 l1 x2_1 (x8_2 ++ [(⟨rd ((rd_T90 l0 x10_1).f0) x13_2, rd t600 x13_2⟩ : S31)]) x9_2 x10_1 t600 true (wrap64 (x13_2 + 1))) else (none)) else (none)) else (none)) = some (r1, r2) := by rw [if_pos rfl] at H; exact H
           clear H
           have H := H1
           clear H1
           by_cases c12 : 0 ≤ x13_2
           ·rw [if_pos c12] at H
            have c12b0 : decide (0 ≤ x13_2) = true := decide_eq_true c12
            clear c12
            by_cases c13 : x13_2 < (t600.length : Int)
            ·rw [if_pos c13] at H
             have c13b0 : decide (x13_2 < (t600.length : Int)) = true := decide_eq_true c13
             clear c13
             by_cases c14 : x8_2.length < 8796093022208
             ·rw [if_pos c14] at H
              have LMc14 := Aside0.mk c14
              clear c14
              obtain ⟨y608, hy608⟩ : ∃ y_ : List (S31), y_ = (x8_2 ++ [(⟨rd ((rd_T90 l0 x10_1).f0) x13_2, rd t600 x13_2⟩ : S31)]) := ⟨_, rfl⟩
              replace H : (mainsheetref19_Pick.l1 k2 l0 l1 x2_1 y608 x9_2 x10_1 t600 true (wrap64 (x13_2 + 1))) = some (r1, r2) := by first | (rw [hy608]; with_reducible exact H) | (have H2_ := (Option.bind_some _ _).symm.trans H; rw [hy608]; with_reducible exact H2_) | (have H2_ := (Option.bind_some _ _).symm.trans H; with_reducible exact H2_) | with_reducible exact H | (rw [hy608]; exact H) | exact H
              have Ny608 := Aside0.mk hy608
              clear hy608
              have H' := Aside0.mk H
              clear H
              have p604 : 0 ≤ (x10_1 : Int) := of_decide_eq_true (by first | (with_reducible assumption) | assumption)
              have q604 : x10_1 < (l0.length : Int) := of_decide_eq_true (by first | (with_reducible assumption) | assumption)
              obtain ⟨ad604, A604_0, c604_0, e604, hx604_0, hx604_1, hx604_2, hx604_3, hx604_4, hx604_5, hl604_0, hi604_0⟩ := at_T90 HR0.out x10_1 p604 q604
              obtain rfl : ad599 = ad604 := (by injection e604)
              replace hx604_0 := (HB.out.cell (World.block_lt_of_cell? w _ hx604_0)).trans hx604_0
              replace hx604_1 := (HB.out.cell (World.block_lt_of_cell? w _ hx604_1)).trans hx604_1
              replace hx604_2 := (HB.out.cell (World.block_lt_of_cell? w _ hx604_2)).trans hx604_2
              replace hx604_3 := (HB.out.cell (World.block_lt_of_cell? w _ hx604_3)).trans hx604_3
              replace hx604_4 := (HB.out.cell (World.block_lt_of_cell? w _ hx604_4)).trans hx604_4
              replace hx604_5 := (HB.out.cell (World.block_lt_of_cell? w _ hx604_5)).trans hx604_5
              have HR604_0 := Aside0.mk hi604_0
              have HC604_0 := Aside0.mk hl604_0
              clear hi604_0 hl604_0
              replace p604 := eq_true p604
              replace q604 := eq_true q604
              try go_wp2
              have n0_ := Aside0.mk (Kd.R_drew HO_8.out)
              have n1_ := Aside0.mk (Kd.R_drew HO_9.out)
              have n2_ := Aside0.mk (Kd.R_drew HO_11.out)
              have n3_ := Aside0.mk (below_drew1 HB.out)
              clear HO_8
              clear HO_9
              clear HO_11
              clear HB
              have HO_8 := n0_
              have HO_9 := n1_
              have HO_11 := n2_
              have HB := n3_
              clear n0_ n1_ n2_ n3_
              have p605 : 0 ≤ (x10_1 : Int) := of_decide_eq_true (by first | (with_reducible assumption) | assumption)
              have q605 : x10_1 < (l0.length : Int) := of_decide_eq_true (by first | (with_reducible assumption) | assumption)
              obtain ⟨ad605, A605_0, c605_0, e605, hx605_0, hx605_1, hx605_2, hx605_3, hx605_4, hx605_5, hl605_0, hi605_0⟩ := at_T90 HR0.out x10_1 p605 q605
              have hw605_5 := hx605_5
              have hw605_4 := hx605_4
              have hw605_3 := hx605_3
              have hw605_2 := hx605_2
              have hw605_1 := hx605_1
              have hw605_0 := hx605_0
              obtain rfl : ad599 = ad605 := (by injection e605)
              replace hx605_0 := (HB.out.cell (World.block_lt_of_cell? w _ hx605_0)).trans hx605_0
              replace hx605_1 := (HB.out.cell (World.block_lt_of_cell? w _ hx605_1)).trans hx605_1
              replace hx605_2 := (HB.out.cell (World.block_lt_of_cell? w _ hx605_2)).trans hx605_2
              replace hx605_3 := (HB.out.cell (World.block_lt_of_cell? w _ hx605_3)).trans hx605_3
              replace hx605_4 := (HB.out.cell (World.block_lt_of_cell? w _ hx605_4)).trans hx605_4
              replace hx605_5 := (HB.out.cell (World.block_lt_of_cell? w _ hx605_5)).trans hx605_5
              have HR605_0 := Aside0.mk hi605_0
              have HC605_0 := Aside0.mk hl605_0
              clear hi605_0 hl605_0
              replace p605 := eq_true p605
              replace q605 := eq_true q605
              have p606 : 0 ≤ (x13_2 : Int) := of_decide_eq_true (by first | (with_reducible assumption) | assumption)
              have q606 : x13_2 < (((rd_T90 l0 x10_1).f0).length : Int) := of_decide_eq_true (by first | (with_reducible assumption) | assumption)
              obtain ⟨ad606, e606, hx606_0⟩ := Kd.at_int HR605_0.out x13_2 p606 q606
              have hw606_0 := hx606_0
              cases e606
              replace hx606_0 := (HB.out.cell (World.block_lt_of_cell? w _ hx606_0)).trans hx606_0
              replace p606 := eq_true p606
              replace q606 := eq_true q606
              obtain ⟨Ao16, co16, eo16⟩ := Kd.R_slice HO_11.out
              (first | subst eo16 | (injection eo16 with f1_ f2_ f3_; have f4_ := f1_.symm; have f5_ := f3_.symm; clear f1_ f2_ f3_; subst f4_; subst f5_))
              have p607 : 0 ≤ (x13_2 : Int) := of_decide_eq_true (by first | (with_reducible assumption) | assumption)
              have q607 : x13_2 < (t600.length : Int) := of_decide_eq_true (by first | (with_reducible assumption) | assumption)
              obtain ⟨ad607, e607, hx607_0⟩ := Kd.at_int (Kd.R_reads' HO_11.out).2.2 x13_2 p607 q607
              cases e607
              replace p607 := eq_true p607
              replace q607 := eq_true q607
              refine start_ (n := 17) (S := fun w' => w'.cell? (ad599.add ((x10_1).toNat * 6)) = some (.slice (some ad606) ((rd_T90 l0 x10_1).f0).length c605_0) ∧ w'.cell? ⟨(ad599.add ((x10_1).toNat * 6)).block, (ad599.add ((x10_1).toNat * 6)).off + 1, none⟩ = some (.int .u64 ((rd_T90 l0 x10_1).f1.f0.f0)) ∧ w'.cell? ⟨(ad599.add ((x10_1).toNat * 6)).block, (ad599.add ((x10_1).toNat * 6)).off + 2, none⟩ = some (.int .u64 ((rd_T90 l0 x10_1).f1.f0.f1)) ∧ w'.cell? ⟨(ad599.add ((x10_1).toNat * 6)).block, (ad599.add ((x10_1).toNat * 6)).off + 3, none⟩ = some (.int .u64 ((rd_T90 l0 x10_1).f1.f1)) ∧ w'.cell? ⟨(ad599.add ((x10_1).toNat * 6)).block, (ad599.add ((x10_1).toNat * 6)).off + 4, none⟩ = some (.int .u64 ((rd_T90 l0 x10_1).f2)) ∧ w'.cell? ⟨(ad599.add ((x10_1).toNat * 6)).block, (ad599.add ((x10_1).toNat * 6)).off + 5, none⟩ = some (.bool ((rd_T90 l0 x10_1).f3)) ∧ w'.cell? (ad606.add (x13_2).toNat) = some (.int .i64 (rd ((rd_T90 l0 x10_1).f0) x13_2)) ∧ w'.cell? (ad607.add (x13_2).toNat) = some (.int .i64 (rd t600 x13_2))) (ds := [14, 15]) #[false, false, false, false, false, false, false, false, false, false, false, false, false, false, false, false, false] (by kernel_rfl) rfl rfl ⟨((HB.out.cell (World.block_lt_of_cell? w _ hw605_0)).trans hw605_0), ((HB.out.cell (World.block_lt_of_cell? w _ hw605_1)).trans hw605_1), ((HB.out.cell (World.block_lt_of_cell? w _ hw605_2)).trans hw605_2), ((HB.out.cell (World.block_lt_of_cell? w _ hw605_3)).trans hw605_3), ((HB.out.cell (World.block_lt_of_cell? w _ hw605_4)).trans hw605_4), ((HB.out.cell (World.block_lt_of_cell? w _ hw605_5)).trans hw605_5), ((HB.out.cell (World.block_lt_of_cell? w _ hw606_0)).trans hw606_0), hx607_0⟩ (fun hHeld => ?_); refine with_tabW mainsheetref19_Pick.tab11 mainsheetref19_Pick.bits11 (fun HT_ HW_ => ?_)
              generalize wr.drew = w15 at HO_8 HO_9 HO_11 HB HR605_0 hx605_0 hx605_1 hx605_2 hx605_3 hx605_4 hx605_5 hx606_0 hx607_0 hHeld ⊢
              refine pure_ (i := 0) (N := some 41) (v := ?_) (a' := ?_) #[true, false, false, false, false, false, false, false, false, false, false, false, false, false, false, false, false] rfl rfl (any_of HT_.out (by kernel_rfl)) (fun _ _ _ h => h) (Or.inl ⟨by rfl, ?_⟩) ?_ ?_
              rotate_left
              ·intro w'
               go_simp
               with_reducible rfl
              rotate_left
              ·simp only [Act.put, List.setIfInBounds_toArray, List.set_cons_zero, List.set_cons_succ, i64_w, i32_w]
               rfl
              refine pure_ (i := 1) (N := some 42) (v := ?_) (a' := ?_) #[true, true, false, false, false, false, false, false, false, false, false, false, false, false, false, false, false] rfl rfl (any_of HT_.out (by kernel_rfl)) (fun _ _ _ h => h) (Or.inl ⟨by rfl, ?_⟩) ?_ ?_
              rotate_left
              ·intro w'
               go_simp
               with_reducible rfl
              rotate_left
              ·simp only [Act.put, List.setIfInBounds_toArray, List.set_cons_zero, List.set_cons_succ, i64_w, i32_w]
               rfl
              refine pure_ (i := 2) (N := some 43) (v := ?_) (a' := ?_) #[true, true, true, false, false, false, false, false, false, false, false, false, false, false, false, false, false] rfl rfl (any_of HT_.out (by kernel_rfl)) (fun _ _ _ h => h) (Or.inl ⟨by rfl, ?_⟩) ?_ ?_
              rotate_left
              ·intro w'
               go_simp
               with_reducible rfl
              rotate_left
              ·simp only [Act.put, List.setIfInBounds_toArray, List.set_cons_zero, List.set_cons_succ, i64_w, i32_w]
               rfl
              refine pure_ (i := 3) (N := some 44) (v := ?_) (a' := ?_) #[true, true, true, true, false, false, false, false, false, false, false, false, false, false, false, false, false] rfl rfl (any_of HT_.out (by kernel_rfl)) (fun _ _ _ h => h) (Or.inl ⟨by rfl, ?_⟩) ?_ ?_
              rotate_left
              ·intro w'
               go_simp
               with_reducible rfl
              rotate_left
              ·simp only [Act.put, List.setIfInBounds_toArray, List.set_cons_zero, List.set_cons_succ, i64_w, i32_w]
               rfl
              refine pure_ (i := 4) (N := some 45) (v := ?_) (a' := ?_) #[true, true, true, true, true, false, false, false, false, false, false, false, false, false, false, false, false] rfl rfl (any_of HT_.out (by kernel_rfl)) (fun _ _ _ h => h) (Or.inl ⟨by rfl, ?_⟩) ?_ ?_
              rotate_left
              ·intro w'
               go_simp
               with_reducible rfl
              rotate_left
              ·simp only [Act.put, List.setIfInBounds_toArray, List.set_cons_zero, List.set_cons_succ, i64_w, i32_w]
               rfl
              refine pure_ (i := 6) (N := some 47) (v := ?_) (a' := ?_) #[true, true, true, true, true, false, true, false, false, false, false, false, false, false, false, false, false] rfl rfl (any_of HT_.out (by kernel_rfl)) (fun _ _ _ h => h) (Or.inl ⟨by rfl, ?_⟩) ?_ ?_
              rotate_left
              ·intro w'
               go_simp
               with_reducible rfl
              rotate_left
              ·simp only [Act.put, List.setIfInBounds_toArray, List.set_cons_zero, List.set_cons_succ, i64_w, i32_w]
               rfl
              refine pure_ (i := 9) (N := some 50) (v := ?_) (a' := ?_) #[true, true, true, true, true, false, true, false, false, true, false, false, false, false, false, false, false] rfl rfl (any_of HT_.out (by kernel_rfl)) (fun _ _ _ h => h) (Or.inl ⟨by rfl, ?_⟩) ?_ ?_
              rotate_left
              ·intro w'
               go_simp
               with_reducible rfl
              rotate_left
              ·simp only [Act.put, List.setIfInBounds_toArray, List.set_cons_zero, List.set_cons_succ, i64_w, i32_w]
               rfl
              refine pure_ (i := 10) (N := some 51) (v := ?_) (a' := ?_) #[true, true, true, true, true, false, true, false, false, true, true, false, false, false, false, false, false] rfl rfl (any_of HT_.out (by kernel_rfl)) (fun _ _ _ h => h) (Or.inl ⟨by rfl, ?_⟩) ?_ ?_
              rotate_left
              ·intro w'
               go_simp
               with_reducible rfl
              rotate_left
              ·simp only [Act.put, List.setIfInBounds_toArray, List.set_cons_zero, List.set_cons_succ, i64_w, i32_w]
               rfl
              refine pure_ (i := 11) (N := some 52) (v := ?_) (a' := ?_) #[true, true, true, true, true, false, true, false, false, true, true, true, false, false, false, false, false] rfl rfl (any_of HT_.out (by kernel_rfl)) (fun _ _ _ h => h) (Or.inl ⟨by rfl, ?_⟩) ?_ ?_
              rotate_left
              ·intro w'
               go_simp
               with_reducible rfl
              rotate_left
              ·simp only [Act.put, List.setIfInBounds_toArray, List.set_cons_zero, List.set_cons_succ, i64_w, i32_w]
               rfl
              refine take_ (i := 5) (N := some 46) (v := ?_) (a' := ?_) #[true, true, true, true, true, true, true, false, false, true, true, true, false, false, false, false, false] rfl rfl (take_ofW HT_.out HW_.out (by kernel_rfl)) (fun _ _ _ h => h) (Or.inl ⟨by rfl, ?_⟩) hHeld ?_ ?_
              rotate_left
              ·rintro w' ⟨s0, s1, s2, s3, s4, s5, s6, s7⟩
               go_simp
               with_reducible rfl
              rotate_left
              ·simp only [Act.put, List.setIfInBounds_toArray, List.set_cons_zero, List.set_cons_succ, i64_w, i32_w]
               rfl
              refine pure_ (i := 7) (N := some 48) (v := ?_) (a' := ?_) #[true, true, true, true, true, true, true, true, false, true, true, true, false, false, false, false, false] rfl rfl (any_of HT_.out (by kernel_rfl)) (fun _ _ _ h => h) (Or.inl ⟨by rfl, ?_⟩) ?_ ?_
              rotate_left
              ·intro w'
               go_simp
               with_reducible rfl
              rotate_left
              ·simp only [Act.put, List.setIfInBounds_toArray, List.set_cons_zero, List.set_cons_succ, i64_w, i32_w]
               rfl
              refine take_ (i := 8) (N := some 49) (v := ?_) (a' := ?_) #[true, true, true, true, true, true, true, true, true, true, true, true, false, false, false, false, false] rfl rfl (take_ofW HT_.out HW_.out (by kernel_rfl)) (fun _ _ _ h => h) (Or.inl ⟨by rfl, ?_⟩) hHeld ?_ ?_
              rotate_left
              ·rintro w' ⟨s0, s1, s2, s3, s4, s5, s6, s7⟩
               go_simp
               with_reducible rfl
              rotate_left
              ·simp only [Act.put, List.setIfInBounds_toArray, List.set_cons_zero, List.set_cons_succ, i64_w, i32_w]
               rfl
              refine take_ (i := 12) (N := some 53) (v := ?_) (a' := ?_) #[true, true, true, true, true, true, true, true, true, true, true, true, true, false, false, false, false] rfl rfl (take_ofW HT_.out HW_.out (by kernel_rfl)) (fun _ _ _ h => h) (Or.inl ⟨by rfl, ?_⟩) hHeld ?_ ?_
              rotate_left
              ·rintro w' ⟨s0, s1, s2, s3, s4, s5, s6, s7⟩
               go_simp
               with_reducible rfl
              rotate_left
              ·simp only [Act.put, List.setIfInBounds_toArray, List.set_cons_zero, List.set_cons_succ, i64_w, i32_w]
               rfl
              refine pure_ (i := 13) (N := some 54) (v := ?_) (a' := ?_) #[true, true, true, true, true, true, true, true, true, true, true, true, true, true, false, false, false] rfl rfl (any_of HT_.out (by kernel_rfl)) (fun _ _ _ h => h) (Or.inl ⟨by rfl, ?_⟩) ?_ ?_
              rotate_left
              ·intro w'
               go_simp
               with_reducible rfl
              rotate_left
              ·simp only [Act.put, List.setIfInBounds_toArray, List.set_cons_zero, List.set_cons_succ, i64_w, i32_w]
               rfl
              refine last_ (i := 14) (N := some 55) #[true, true, true, true, true, true, true, true, true, true, true, true, true, true, true, false, false] rfl rfl (one_of HT_.out (by kernel_rfl)) (by decide) (fun K hK => ?_)
              refine value_ (w1 := ?_) (v := ?_) (by rfl) rfl ?_ ?_
              rotate_left 2
              ·go_simp
               constructor
               ·rfl
               ·rfl
              refine hK.out _ _ ?_
              clear hK K
              refine norm_ (a' := ?_) ?_ ?_
              rotate_left
              ·show Act.put _ (some 55) _ = _
               simp only [Act.put, List.setIfInBounds_toArray, List.set_cons_zero, List.set_cons_succ, i64_w, i32_w]
               rfl
              refine last_ (i := 15) (N := some 56) #[true, true, true, true, true, true, true, true, true, true, true, true, true, true, true, true, false] rfl rfl (one_of HT_.out (by kernel_rfl)) (by decide) (fun K hK => ?_)
              refine Kd.R_append_step k31 (w0 := w) w.heap.size (by rfl) (.tmp 41) (.tmp 55) 26 31 (.agg #[(.int .i64 0), (.int .i64 0)]) 16 rfl Tryd.underlying26 info31 rfl (by decide) (by omega) u8 x8_2 (⟨rd ((rd_T90 l0 x10_1).f0) x13_2, rd t600 x13_2⟩ : S31) [.int .i64 (rd ((rd_T90 l0 x10_1).f0) x13_2), .int .i64 (rd t600 x13_2)] (fun _ => True) (fun _ => False) rfl rfl ?aP (fun _ hk => hk.elim) ?aF ?aO ?aB ?aS ?aL ?_
              (case aP => exact k31_mkM _ _ _ (⟨rd ((rd_T90 l0 x10_1).f0) x13_2, rd t600 x13_2⟩ : S31))
              (case aB => exact (by repeat (first | (with_reducible first | exact HB.out | apply below_alloc | apply pw_below_drewN | apply below_drew1) | exact HB.out)))
              (case aF => exact (fun _ _ => trivial))
              (case aO => exact (by (with_reducible repeat (first | apply Kd.R_alloc | apply Kd.R_drewN | apply Kd.R_drew)); exact HO_8.out))
              (case aS => exact (below_size (by repeat (first | (with_reducible first | exact HB.out | apply below_alloc | apply pw_below_drewN | apply below_drew1) | exact HB.out))))
              (case aL => have := LMc14.out; omega)
              intro v609 w17 ho hb hg hat
              rw [← Ny608.out] at ho
              have n0_ := Aside0.mk (Kd.R_over' (by (with_reducible repeat (first | apply Kd.R_alloc | apply Kd.R_drewN | apply Kd.R_drew)); exact HO_9.out) (Kd.R_typed (by (with_reducible repeat (first | apply Kd.R_alloc | apply Kd.R_drewN | apply Kd.R_drew)); exact HO_8.out)) (by decide) hg)
              have n1_ := Aside0.mk (Kd.R_over' (by (with_reducible repeat (first | apply Kd.R_alloc | apply Kd.R_drewN | apply Kd.R_drew)); exact HO_11.out) (Kd.R_typed (by (with_reducible repeat (first | apply Kd.R_alloc | apply Kd.R_drewN | apply Kd.R_drew)); exact HO_8.out)) (by decide) hg)
              have n2_ := Aside0.mk (hb)
              have n3_ := Aside0.mk (ho)
              clear HO_9
              clear HO_11
              clear HB
              clear HO_8
              have HO_9 := n0_
              have HO_11 := n1_
              have HB := n2_
              have HO610 := n3_
              clear n0_ n1_ n2_ n3_
              clear ho hb hg hat
              refine hK.out _ _ ?_
              clear hK K
              refine norm_ (a' := ?_) ?_ ?_
              rotate_left
              ·show Act.put _ (some 56) _ = _
               simp only [Act.put, List.setIfInBounds_toArray, List.set_cons_zero, List.set_cons_succ, i64_w, i32_w]
               rfl
              refine pure_ (i := 16) (N := some 8) (v := ?_) (a' := ?_) #[true, true, true, true, true, true, true, true, true, true, true, true, true, true, true, true, true] rfl rfl (any_of HT_.out (by kernel_rfl)) (fun _ _ _ h => h) (Or.inl ⟨by rfl, ?_⟩) ?_ ?_
              rotate_left
              ·intro w'
               go_simp
               with_reducible rfl
              rotate_left
              ·simp only [Act.put, List.setIfInBounds_toArray, List.set_cons_zero, List.set_cons_succ, i64_w, i32_w]
               rfl
              refine done_ (done_of HT_.out (by kernel_rfl)) ?_
              try go_wp2
              go_roundg k2
              case measure => have := HK1.out; have := HK2.out; omega
              case rel => exact ⟨(y608), (x9_2), (wrap64 (x13_2 + 1)), (by first | rfl | (simp; done) | (simp [*]; done)), H', ⟨by have := HK1.out; have := HK2.out; omega⟩, ⟨by (with_reducible repeat (first | apply Kd.R_alloc | apply Kd.R_drewN | apply Kd.R_drew)); exact HO610.out⟩, ⟨by (with_reducible repeat (first | apply Kd.R_alloc | apply Kd.R_drewN | apply Kd.R_drew)); exact HO_9.out⟩, ⟨by (with_reducible repeat (first | apply Kd.R_alloc | apply Kd.R_drewN | apply Kd.R_drew)); exact HO_11.out⟩, ⟨by repeat (first | (with_reducible first | exact HB.out | apply below_alloc | apply pw_below_drewN | apply below_drew1) | exact HB.out)⟩⟩
             ·rw [if_neg c14] at H
              exact absurd H (by simp)
            ·rw [if_neg c13] at H
             exact absurd H (by simp)
           ·rw [if_neg c12] at H
            exact absurd H (by simp)
          ·replace c11 := Bool.eq_false_iff.mpr c11
           subst c11
           have H1 : (if 0 ≤ x13_2 then (if x9_2.length < 17592186044416 then (mainsheetref19_Pick.l1 k2 l0 l1 x2_1 x8_2 (x9_2 ++ [rd ((rd_T90 l0 x10_1).f0) x13_2]) x10_1 t600 false (wrap64 (x13_2 + 1))) else (none)) else (none)) = some (r1, r2) := by rw [if_neg (show ¬ (false = true) by decide)] at H; exact H
           clear H
           have H := H1
           clear H1
           by_cases c18 : 0 ≤ x13_2
           ·rw [if_pos c18] at H
            have c18b0 : decide (0 ≤ x13_2) = true := decide_eq_true c18
            clear c18
            by_cases c19 : x9_2.length < 17592186044416
            ·rw [if_pos c19] at H
             have LMc19 := Aside0.mk c19
             clear c19
             obtain ⟨y613, hy613⟩ : ∃ y_ : List Int, y_ = (x9_2 ++ [rd ((rd_T90 l0 x10_1).f0) x13_2]) := ⟨_, rfl⟩
             replace H : (mainsheetref19_Pick.l1 k2 l0 l1 x2_1 x8_2 y613 x10_1 t600 false (wrap64 (x13_2 + 1))) = some (r1, r2) := by first | (rw [hy613]; with_reducible exact H) | (have H2_ := (Option.bind_some _ _).symm.trans H; rw [hy613]; with_reducible exact H2_) | (have H2_ := (Option.bind_some _ _).symm.trans H; with_reducible exact H2_) | with_reducible exact H | (rw [hy613]; exact H) | exact H
             have Ny613 := Aside0.mk hy613
             clear hy613
             have H' := Aside0.mk H
             clear H
             have p604 : 0 ≤ (x10_1 : Int) := of_decide_eq_true (by first | (with_reducible assumption) | assumption)
             have q604 : x10_1 < (l0.length : Int) := of_decide_eq_true (by first | (with_reducible assumption) | assumption)
             obtain ⟨ad604, A604_0, c604_0, e604, hx604_0, hx604_1, hx604_2, hx604_3, hx604_4, hx604_5, hl604_0, hi604_0⟩ := at_T90 HR0.out x10_1 p604 q604
             obtain rfl : ad599 = ad604 := (by injection e604)
             replace hx604_0 := (HB.out.cell (World.block_lt_of_cell? w _ hx604_0)).trans hx604_0
             replace hx604_1 := (HB.out.cell (World.block_lt_of_cell? w _ hx604_1)).trans hx604_1
             replace hx604_2 := (HB.out.cell (World.block_lt_of_cell? w _ hx604_2)).trans hx604_2
             replace hx604_3 := (HB.out.cell (World.block_lt_of_cell? w _ hx604_3)).trans hx604_3
             replace hx604_4 := (HB.out.cell (World.block_lt_of_cell? w _ hx604_4)).trans hx604_4
             replace hx604_5 := (HB.out.cell (World.block_lt_of_cell? w _ hx604_5)).trans hx604_5
             have HR604_0 := Aside0.mk hi604_0
             have HC604_0 := Aside0.mk hl604_0
             clear hi604_0 hl604_0
             replace p604 := eq_true p604
             replace q604 := eq_true q604
             have p611 : 0 ≤ (x10_1 : Int) := of_decide_eq_true (by first | (with_reducible assumption) | assumption)
             have q611 : x10_1 < (l0.length : Int) := of_decide_eq_true (by first | (with_reducible assumption) | assumption)
             obtain ⟨ad611, A611_0, c611_0, e611, hx611_0, hx611_1, hx611_2, hx611_3, hx611_4, hx611_5, hl611_0, hi611_0⟩ := at_T90 HR0.out x10_1 p611 q611
             obtain rfl : ad599 = ad611 := (by injection e611)
             replace hx611_0 := (HB.out.cell (World.block_lt_of_cell? w _ hx611_0)).trans hx611_0
             replace hx611_1 := (HB.out.cell (World.block_lt_of_cell? w _ hx611_1)).trans hx611_1
             replace hx611_2 := (HB.out.cell (World.block_lt_of_cell? w _ hx611_2)).trans hx611_2
             replace hx611_3 := (HB.out.cell (World.block_lt_of_cell? w _ hx611_3)).trans hx611_3
             replace hx611_4 := (HB.out.cell (World.block_lt_of_cell? w _ hx611_4)).trans hx611_4
             replace hx611_5 := (HB.out.cell (World.block_lt_of_cell? w _ hx611_5)).trans hx611_5
             have HR611_0 := Aside0.mk hi611_0
             have HC611_0 := Aside0.mk hl611_0
             clear hi611_0 hl611_0
             replace p611 := eq_true p611
             replace q611 := eq_true q611
             have ea_ := Option.some.inj (hx604_0.symm.trans hx611_0)
             injection ea_ with ea_ en_ ec_
             subst ea_
             subst ec_
             clear en_
             have p612 : 0 ≤ (x13_2 : Int) := of_decide_eq_true (by first | (with_reducible assumption) | assumption)
             have q612 : x13_2 < (((rd_T90 l0 x10_1).f0).length : Int) := of_decide_eq_true (by first | (with_reducible assumption) | assumption)
             obtain ⟨ad612, e612, hx612_0⟩ := Kd.at_int HR611_0.out x13_2 p612 q612
             cases e612
             replace hx612_0 := (HB.out.cell (World.block_lt_of_cell? w _ hx612_0)).trans hx612_0
             replace p612 := eq_true p612
             replace q612 := eq_true q612
             go_wp2_with (first | ((with_reducible refine gate_builtin (b := .append) (xs := #[.tmp 57, .tmp 66]) rfl ?_); at_builtin; refine Kd.R_append (Kd.int .i64) (w0 := w) w.heap.size rfl (.tmp 57) (.tmp 66) 42 3 (.int .i64 0) 8 rfl Tryd.underlying42 info3 rfl (by decide) (by omega) u9 x9_2 (rd ((rd_T90 l0 x10_1).f0) x13_2) [.int .i64 (rd ((rd_T90 l0 x10_1).f0) x13_2)] (fun k_ => some k_ ≠ (v601 : Value).ownBlock) (fun _ => False) rfl rfl ?aP (fun _ hk => hk.elim) ?aF ?aO ?aB ?aS ?aL ?_; (case aP => exact rfl); (case aB => exact (by repeat (first | (with_reducible first | exact HB.out | apply below_alloc | apply pw_below_drewN | apply below_drew1) | exact HB.out))); (case aF => exact (fun k_ hk => Kd.fresh' (Kd.R_lt (by (with_reducible repeat (first | apply Kd.R_alloc | apply Kd.R_drewN | apply Kd.R_drew)); exact HO_11.out)) k_ hk)); (case aO => exact (by (with_reducible repeat (first | apply Kd.R_alloc | apply Kd.R_drewN | apply Kd.R_drew)); exact HO_9.out)); (case aS => exact (below_size (by repeat (first | (with_reducible first | exact HB.out | apply below_alloc | apply pw_below_drewN | apply below_drew1) | exact HB.out)))); (case aL => have := LMc19.out; omega); intro v614 w20 ho hb hg hat; rw [← Ny613.out] at ho; have n0_ := Aside0.mk (Kd.R_over' (by (with_reducible repeat (first | apply Kd.R_alloc | apply Kd.R_drewN | apply Kd.R_drew)); exact HO_8.out) (Kd.R_typed (by (with_reducible repeat (first | apply Kd.R_alloc | apply Kd.R_drewN | apply Kd.R_drew)); exact HO_9.out)) (by decide) hg); have n1_ := Aside0.mk (Kd.R_after (ok := (fun _ => True)) (by (with_reducible repeat (first | apply Kd.R_alloc | apply Kd.R_drewN | apply Kd.R_drew)); exact Kd.R_mono HO_11.out (fun _ hk => ⟨trivial, hk⟩)) hg hat); have n2_ := Aside0.mk (hb); have n3_ := Aside0.mk (ho); clear HO_8; clear HO_11; clear HB; clear HO_9; have HO_8 := n0_; have HO_11 := n1_; have HB := n2_; have HO615 := n3_; clear n0_ n1_ n2_ n3_; clear ho hb hg hat))
             go_roundg k2
             case measure => have := HK1.out; have := HK2.out; omega
             case rel => exact ⟨(x8_2), (y613), (wrap64 (x13_2 + 1)), (by first | rfl | (simp; done) | (simp [*]; done)), H', ⟨by have := HK1.out; have := HK2.out; omega⟩, ⟨by (with_reducible repeat (first | apply Kd.R_alloc | apply Kd.R_drewN | apply Kd.R_drew)); exact HO_8.out⟩, ⟨by (with_reducible repeat (first | apply Kd.R_alloc | apply Kd.R_drewN | apply Kd.R_drew)); exact HO615.out⟩, ⟨by (with_reducible repeat (first | apply Kd.R_alloc | apply Kd.R_drewN | apply Kd.R_drew)); exact Kd.R_mono HO_11.out (fun _ hk => hk.2)⟩, ⟨by repeat (first | (with_reducible first | exact HB.out | apply below_alloc | apply pw_below_drewN | apply below_drew1) | exact HB.out)⟩⟩
            ·rw [if_neg c19] at H
             exact absurd H (by simp)
           ·rw [if_neg c18] at H
            exact absurd H (by simp)
         ·rw [if_neg c10] at H
          have c10b0 : decide (x13_2 < (((rd_T90 l0 x10_1).f0).length : Int)) = false := decide_eq_false c10
          clear c10
          by_cases c21 : t603 = true
          ·subst c21
           have H1 : ((mainsheetref19_Less.f k2 x2_1 t600).bind fun t616 => (mainsheetref19_Pick.l0 k2 l0 l1 t616 x8_2 x9_2 (wrap64 (x10_1 + 1)))) = some (r1, r2) := by rw [if_pos rfl] at H; exact H
           clear H
           have H := H1
           clear H1
           replace H := Option.bind_eq_some_iff.mp H
           obtain ⟨t616, A220, H⟩ := H
           replace H : (mainsheetref19_Pick.l0 k2 l0 l1 t616 x8_2 x9_2 (wrap64 (x10_1 + 1))) = some (r1, r2) := H
           have A22 := Aside0.mk A220
           clear A220
           have H' := Aside0.mk H
           clear H
           have p604 : 0 ≤ (x10_1 : Int) := of_decide_eq_true (by first | (with_reducible assumption) | assumption)
           have q604 : x10_1 < (l0.length : Int) := of_decide_eq_true (by first | (with_reducible assumption) | assumption)
           obtain ⟨ad604, A604_0, c604_0, e604, hx604_0, hx604_1, hx604_2, hx604_3, hx604_4, hx604_5, hl604_0, hi604_0⟩ := at_T90 HR0.out x10_1 p604 q604
           obtain rfl : ad599 = ad604 := (by injection e604)
           replace hx604_0 := (HB.out.cell (World.block_lt_of_cell? w _ hx604_0)).trans hx604_0
           replace hx604_1 := (HB.out.cell (World.block_lt_of_cell? w _ hx604_1)).trans hx604_1
           replace hx604_2 := (HB.out.cell (World.block_lt_of_cell? w _ hx604_2)).trans hx604_2
           replace hx604_3 := (HB.out.cell (World.block_lt_of_cell? w _ hx604_3)).trans hx604_3
           replace hx604_4 := (HB.out.cell (World.block_lt_of_cell? w _ hx604_4)).trans hx604_4
           replace hx604_5 := (HB.out.cell (World.block_lt_of_cell? w _ hx604_5)).trans hx604_5
           have HR604_0 := Aside0.mk hi604_0
           have HC604_0 := Aside0.mk hl604_0
           clear hi604_0 hl604_0
           replace p604 := eq_true p604
           replace q604 := eq_true q604
           obtain ⟨Ao23, co23, eo23⟩ := Kd.R_slice HO_11.out
           subst eo23
           go_wp2_with (first | ((with_reducible refine gate_callee (f := 85) rfl ?_); refine goesL_ (some 71) rfl rfl Tryd.func85 (by kernel_rfl) rfl #[.int .u32 x2_1, .slice Ao23 t600.length co23] rfl (by (try simp only [List.map_toArray, List.map_cons, List.map_nil]); first | done | rfl | (simp only [List.length_drop, List.length_take]; rfl)) ?_; (with_reducible refine (mainsheetref19_Less.calls k2 x2_1 _ _ t600 t616 _ ?side1 ?side2 A22.out).mono ?_); (case side1 => repeat (first | exact (Kd.R_reads' HO_11.out).2.2 | (with_reducible refine Kd.C_alloc ?_ _) | (with_reducible refine Kd.C_drewN ?_ _) | (with_reducible refine Kd.C_drew ?_))); (case side2 => exact (Kd.R_reads' HO_11.out).2.1); rintro e w24 ⟨rfl, hb⟩; refine ⟨_, rfl, ?_⟩; have n0_ := Aside0.mk (Kd.R_below (by (with_reducible repeat (first | apply Kd.R_alloc | apply Kd.R_drewN | apply Kd.R_drew)); exact HO_8.out) hb); have n1_ := Aside0.mk (Kd.R_below (by (with_reducible repeat (first | apply Kd.R_alloc | apply Kd.R_drewN | apply Kd.R_drew)); exact HO_9.out) hb); have n2_ := Aside0.mk (Kd.R_below (by (with_reducible repeat (first | apply Kd.R_alloc | apply Kd.R_drewN | apply Kd.R_drew)); exact HO_11.out) hb); have n3_ := Aside0.mk (below_step (by repeat (first | (with_reducible first | exact HB.out | apply below_alloc | apply pw_below_drewN | apply below_drew1) | exact HB.out)) hb); clear HO_8; clear HO_9; clear HO_11; clear HB; have HO_8 := n0_; have HO_9 := n1_; have HO_11 := n2_; have HB := n3_; clear n0_ n1_ n2_ n3_; (try clear hb); (try clear hb2); (try clear hk); (try clear hi)))
           go_roundg k2
           case measure => have := HK1.out; have := HK2.out; omega
           case rel => exact ⟨(t616), (x8_2), (x9_2), (wrap64 (x10_1 + 1)), (by first | rfl | (simp; done) | (simp [*]; done)), (by first | rfl | (simp; done) | (simp [*]; done)), H', ⟨by have := HK1.out; have := HK2.out; omega⟩, ⟨by (with_reducible repeat (first | apply Kd.R_alloc | apply Kd.R_drewN | apply Kd.R_drew)); exact HO_8.out⟩, ⟨by (with_reducible repeat (first | apply Kd.R_alloc | apply Kd.R_drewN | apply Kd.R_drew)); exact Kd.R_mono HO_9.out (fun _ hk => trivial)⟩, ⟨by repeat (first | (with_reducible first | exact HB.out | apply below_alloc | apply pw_below_drewN | apply below_drew1) | exact HB.out)⟩⟩
          ·replace c21 := Bool.eq_false_iff.mpr c21
           subst c21
           have H1 : (mainsheetref19_Pick.l0 k2 l0 l1 x2_1 x8_2 x9_2 (wrap64 (x10_1 + 1))) = some (r1, r2) := by rw [if_neg (show ¬ (false = true) by decide)] at H; exact H
           clear H
           have H := H1
           clear H1
           have H' := Aside0.mk H
           clear H
           have p604 : 0 ≤ (x10_1 : Int) := of_decide_eq_true (by first | (with_reducible assumption) | assumption)
           have q604 : x10_1 < (l0.length : Int) := of_decide_eq_true (by first | (with_reducible assumption) | assumption)
           obtain ⟨ad604, A604_0, c604_0, e604, hx604_0, hx604_1, hx604_2, hx604_3, hx604_4, hx604_5, hl604_0, hi604_0⟩ := at_T90 HR0.out x10_1 p604 q604
           obtain rfl : ad599 = ad604 := (by injection e604)
           replace hx604_0 := (HB.out.cell (World.block_lt_of_cell? w _ hx604_0)).trans hx604_0
           replace hx604_1 := (HB.out.cell (World.block_lt_of_cell? w _ hx604_1)).trans hx604_1
           replace hx604_2 := (HB.out.cell (World.block_lt_of_cell? w _ hx604_2)).trans hx604_2
           replace hx604_3 := (HB.out.cell (World.block_lt_of_cell? w _ hx604_3)).trans hx604_3
           replace hx604_4 := (HB.out.cell (World.block_lt_of_cell? w _ hx604_4)).trans hx604_4
           replace hx604_5 := (HB.out.cell (World.block_lt_of_cell? w _ hx604_5)).trans hx604_5
           have HR604_0 := Aside0.mk hi604_0
           have HC604_0 := Aside0.mk hl604_0
           clear hi604_0 hl604_0
           replace p604 := eq_true p604
           replace q604 := eq_true q604
           go_wp2
           go_roundg k2
           case measure => have := HK1.out; have := HK2.out; omega
           case rel => exact ⟨(x2_1), (x8_2), (x9_2), (wrap64 (x10_1 + 1)), (by first | rfl | (simp; done) | (simp [*]; done)), (by first | rfl | (simp; done) | (simp [*]; done)), H', ⟨by have := HK1.out; have := HK2.out; omega⟩, ⟨by (with_reducible repeat (first | apply Kd.R_alloc | apply Kd.R_drewN | apply Kd.R_drew)); exact HO_8.out⟩, ⟨by (with_reducible repeat (first | apply Kd.R_alloc | apply Kd.R_drewN | apply Kd.R_drew)); exact Kd.R_mono HO_9.out (fun _ hk => trivial)⟩, ⟨by repeat (first | (with_reducible first | exact HB.out | apply below_alloc | apply pw_below_drewN | apply below_drew1) | exact HB.out)⟩⟩
        ·rw [if_neg c9] at H
         exact absurd H (by simp)
       ·rw [if_neg c8] at H
        exact absurd H (by simp)
    ·rw [if_neg c5] at H
     exact absurd H (by simp)
   ·rw [if_neg c4] at H
    have c4b0 : decide (x10_1 < (l0.length : Int)) = false := decide_eq_false c4
    clear c4
    simp only [Option.some.injEq, Prod.mk.injEq] at H
    obtain ⟨rfl, rfl⟩ := H
    go_wp2
    go_ret2
    exact ⟨_, _, by first | rfl | (simp [errW_none, errW_some] <;> rfl) | (simp [*, errW_none, errW_some] <;> rfl), by (with_reducible repeat (first | apply Kd.R_alloc | apply Kd.R_drewN | apply Kd.R_drew)); exact HO_8.out, by (with_reducible repeat (first | apply Kd.R_alloc | apply Kd.R_drewN | apply Kd.R_drew)); exact HO_9.out, by repeat (first | (with_reducible first | exact HB.out | apply below_alloc | apply pw_below_drewN | apply below_drew1) | exact HB.out)⟩

end Go.Proofs.YtdmieaidheelbaaDoor.Q
end
/- PurePickPicks0 -/
section
/- PickPicks, the plain law: the picture is the document's. -/
namespace Go.Proofs.YtdmieaidheelbaaDoor.Q
open Go Go.RowKit Go.Proofs.YtdmieaidheelbaaDoorW.PrintWords Go.Proofs.YtdmieaidheelbaaDoorW.PrintLast Go.Proofs.YtdmieaidheelbaaDoorW.PrintMore
set_option linter.unusedVariables false
set_option linter.unusedSimpArgs false

theorem lift {α : Type} {F : Nat → Option α} (hm : ∀ k, LeO (F k) (F (k + 1))) {k0 : Nat} {r : α} (h : F k0 = some r) : ∀ k, k0 ≤ k → F k = some r := by
  intro k hk
  induction k with
  | zero => obtain rfl : k0 = 0 := by omega
            exact h
  | succ k ih =>
    rcases Nat.lt_or_ge k k0 with hlt | hge
    · obtain rfl : k0 = k + 1 := by omega
      exact h
    · exact hm k _ (ih hge)

theorem Takes_val (x : S36) (hwf : Wf36 x) (hok : okM x.f2 = true) (free : Nat) (hf : free < 256) (k : Nat) (hk : 9 ≤ k) : mainsheetref13_Takes.f k x.f0 x.f1 x.f2.f0 x.f2.f1 (free : Int) = some (takesOf x free) := by
  obtain ⟨w1, w2, w3, w4⟩ := hwf
  have e1 : ((x.f2.f0.toNat : Nat) : Int) = x.f2.f0 := by omega
  have e2 : ((x.f2.f1.toNat : Nat) : Int) = x.f2.f1 := by omega
  have hA := MAllows_val x.f2.f0.toNat x.f2.f1.toNat free (by omega) (by omega)
  have hL := MLikes_val x.f2.f0.toNat x.f2.f1.toNat free (by omega) (by omega) (by omega)
  rw [e1, e2] at hA hL
  unfold okM at hok
  have e0 : allowsN x.f2.f0.toNat x.f2.f1.toNat free = x.f2.f0.toNat &&& free := by unfold allowsN; rw [hok]; simp [hf]
  have hl : ((likesN x.f2.f0.toNat x.f2.f1.toNat free : Nat) : Int) = if x.f2.f0.toNat &&& free &&& x.f2.f1.toNat = 0 then ((x.f2.f0.toNat &&& free : Nat) : Int) else ((x.f2.f0.toNat &&& free &&& x.f2.f1.toNat : Nat) : Int) := by unfold likesN; rw [e0]; split <;> rfl
  have hlt := likesN_lt x.f2.f0.toNat x.f2.f1.toNat free
  have hlt2 := allowsN_lt x.f2.f0.toNat x.f2.f1.toNat free
  rw [← hl] at hL
  rw [← e0] at hA
  unfold mainsheetref13_Takes.f takesOf bestN
  rw [hA, Option.bind_some, RHas_val _ (by omega), Option.bind_some]
  cases hasN (allowsN x.f2.f0.toNat x.f2.f1.toNat free) x.f1 with
  | true => rfl
  | false =>
    rw [if_neg (by simp), hL, Option.bind_some, RNext_val _ (by omega) _ _ hk, Option.bind_some]
    simp only [Bool.false_eq_true, if_false]
    split <;> rfl

theorem same_puts (a : List S31) (ha : a.length ≤ 1000000) (n : Nat) : ∀ (k i : Nat), i ≤ a.length → a.length - i = n → n + 1 ≤ k → mainsheetref13_SamePuts.l0 k a a (i : Int) = some true := by
  induction n with
  | zero =>
    intro k i hi hn hk
    obtain ⟨k, rfl⟩ : ∃ m, k = m + 1 := ⟨k - 1, by omega⟩
    rw [mainsheetref13_SamePuts.l0, if_neg (by omega)]
  | succ n ih =>
    intro k i hi hn hk
    obtain ⟨k, rfl⟩ : ∃ m, k = m + 1 := ⟨k - 1, by omega⟩
    rw [mainsheetref13_SamePuts.l0, if_pos (by omega), if_pos (by omega), if_pos (by omega), wrap_small _ (by omega) (by omega), show (i : Int) + 1 = ((i + 1 : Nat) : Int) by omega, ih k (i + 1) (by omega) (by omega) (by omega)]
    simp

theorem has14_loop (xs : List Int) (v : Int) (hl : xs.length ≤ 1000000) (d : Nat) : ∀ (k i : Nat), i + d = xs.length → d < k → mainsheetref14_has.l0 k v xs (xs.length : Int) (i : Int) = some (decide (v ∈ xs.drop i)) := by
  induction d with
  | zero =>
    intro k i hi hk
    obtain ⟨k, rfl⟩ : ∃ m, k = m + 1 := ⟨k - 1, by omega⟩
    rw [mainsheetref14_has.l0, if_neg (by omega), List.drop_eq_nil_of_le (by omega)]; simp
  | succ d ih =>
    intro k i hi hk
    obtain ⟨k, rfl⟩ : ∃ m, k = m + 1 := ⟨k - 1, by omega⟩
    have hlt : i < xs.length := by omega
    rw [List.drop_eq_getElem_cons hlt, mainsheetref14_has.l0, if_pos (by omega), if_pos (by omega), if_pos (by omega), rd_eq _ _ hlt]
    by_cases e : xs[i] = v
    · rw [if_pos e, decide_eq_true (by rw [e]; exact List.mem_cons_self)]
    · rw [if_neg e, w64 _ (by omega) (by omega), show (i : Int) + 1 = ((i + 1 : Nat) : Int) by omega, ih k (i + 1) (by omega) (by omega)]
      congr 2
      exact propext ⟨fun h => List.mem_cons_of_mem _ h, fun h => (List.mem_cons.1 h).resolve_left (fun h => e h.symm)⟩
theorem has14_val (xs : List Int) (v : Int) (hl : xs.length ≤ 1000000) (k : Nat) (hk : xs.length < k) : mainsheetref14_has.f k xs v = some (decide (v ∈ xs)) := by
  unfold mainsheetref14_has.f
  rw [show (0 : Int) = ((0 : Nat) : Int) from rfl, has14_loop xs v hl xs.length k 0 (by omega) hk, List.drop_zero]
def optP (o : Option (List Int)) : List Int × Bool := match o with | some m => (m, true) | none => ([], false)
theorem match14_loop (rows : List (List Int)) (taken row : List Int) (rest : List (List Int)) (hr : row.length ≤ 1000000) (ht : taken.length ≤ 1000000)
    (ih : ∀ c, ∃ K, ∀ k, K ≤ k → mainsheetref14_Match.f k rows (taken ++ [c]) = some (optP (matchFrom rest (taken ++ [c])))) (d : Nat) : ∀ i, i + d = row.length →
    ∃ K, ∀ k, K ≤ k → mainsheetref14_Match.l0 k rows taken row (row.length : Int) (i : Int) = some (optP ((row.drop i).findSome? fun c => if c ∈ taken then none else matchFrom rest (taken ++ [c]))) := by
  induction d with
  | zero =>
    intro i hi
    refine ⟨1, fun k hk => ?_⟩
    obtain ⟨k, rfl⟩ : ∃ m, k = m + 1 := ⟨k - 1, by omega⟩
    rw [mainsheetref14_Match.l0, if_neg (by omega), List.drop_eq_nil_of_le (by omega)]
    rfl
  | succ d ihd =>
    intro i hi
    obtain ⟨K1, hK1⟩ := ihd (i + 1) (by omega)
    have hlt : i < row.length := by omega
    obtain ⟨K2, hK2⟩ := ih row[i]
    refine ⟨K1 + K2 + taken.length + 2, fun k hk => ?_⟩
    obtain ⟨k, rfl⟩ : ∃ m, k = m + 1 := ⟨k - 1, by omega⟩
    rw [mainsheetref14_Match.l0, if_pos (by omega), if_pos (by omega), if_pos (by omega), rd_eq _ _ hlt, has14_val taken _ ht k (by omega), Option.bind_some, List.drop_eq_getElem_cons hlt, List.findSome?_cons, w64 _ (by omega) (by omega), show (i : Int) + 1 = ((i + 1 : Nat) : Int) by omega, hK1 k (by omega)]
    by_cases hc : row[i] ∈ taken
    · rw [if_pos (by simpa using hc), if_pos hc]
    · rw [if_neg (by simpa using hc), if_neg hc]
      simp only [Option.bind_some, List.nil_append, List.length_nil, Nat.zero_add]
      rw [if_pos (by omega), if_pos (by omega), hK2 k (by omega), Option.bind_some]
      cases hq : matchFrom rest (taken ++ [row[i]]) with
      | some m => rfl
      | none => rfl
theorem match14 (rows : List (List Int)) (hr : ∀ r ∈ rows, r.length ≤ 1000000) (hl : rows.length ≤ 1000000) (d : Nat) : ∀ (taken : List Int), taken.length + d = rows.length →
    ∃ K, ∀ k, K ≤ k → mainsheetref14_Match.f k rows taken = some (optP (matchFrom (rows.drop taken.length) taken)) := by
  induction d with
  | zero =>
    intro taken ht
    refine ⟨1, fun k hk => ?_⟩
    obtain ⟨k, rfl⟩ : ∃ m, k = m + 1 := ⟨k - 1, by omega⟩
    rw [mainsheetref14_Match.f, if_pos (by omega), List.drop_eq_nil_of_le (by omega)]
    rfl
  | succ d ih =>
    intro taken ht
    have hlt : taken.length < rows.length := by omega
    have e : rd_L7 rows (taken.length : Int) = rows[taken.length] := by simp [rd_L7, hlt]
    obtain ⟨K, hK⟩ := match14_loop rows taken rows[taken.length] (rows.drop (taken.length + 1)) (hr _ (List.getElem_mem hlt)) (by omega) (fun c => by
      have := ih (taken ++ [c]) (by simp; omega)
      simpa using this) rows[taken.length].length 0 (by omega)
    refine ⟨K + 1, fun k hk => ?_⟩
    obtain ⟨k, rfl⟩ : ∃ m, k = m + 1 := ⟨k - 1, by omega⟩
    rw [mainsheetref14_Match.f, if_neg (by omega), if_pos (by omega), if_pos (by omega), e, show (0 : Int) = ((0 : Nat) : Int) from rfl, hK k (by omega), List.drop_zero, List.drop_eq_getElem_cons hlt, matchFrom]

theorem rwish_loop (w : List S36) (hl : w.length ≤ 1000000) (v : Int) (d : Nat) : ∀ (k i : Nat), i + d = w.length → d < k →
    mainsheetref19_Wish.l0 k w v (i : Int) = some ((wishOf (w.drop i) v).f0, (wishOf (w.drop i) v).f1, (wishOf (w.drop i) v).f2.f0, (wishOf (w.drop i) v).f2.f1) := by
  induction d with
  | zero =>
    intro k i hi hk
    obtain ⟨k, rfl⟩ : ∃ m, k = m + 1 := ⟨k - 1, by omega⟩
    rw [mainsheetref19_Wish.l0, if_neg (by omega), List.drop_eq_nil_of_le (by omega)]
    rfl
  | succ d ih =>
    intro k i hi hk
    obtain ⟨k, rfl⟩ : ∃ m, k = m + 1 := ⟨k - 1, by omega⟩
    have hlt : i < w.length := by omega
    rw [mainsheetref19_Wish.l0, if_pos (by omega), if_pos (by omega), rd36_eq w i hlt, List.drop_eq_getElem_cons hlt]
    by_cases h : w[i].f0 = v
    · rw [if_pos h, wishOf_pos h]
    · rw [if_neg h, w64 _ (by omega) (by omega), show (i : Int) + 1 = ((i + 1 : Nat) : Int) by omega, ih k (i + 1) (by omega) (by omega), wishOf_neg h]
theorem rwish_val (w : List S36) (hl : w.length ≤ 1000000) (v : Int) (k : Nat) (hk : w.length < k) : mainsheetref19_Wish.f k w v = some ((wishOf w v).f0, (wishOf w v).f1, (wishOf w v).f2.f0, (wishOf w v).f2.f1) := by
  unfold mainsheetref19_Wish.f
  have := rwish_loop w hl v w.length k 0 (by omega) hk
  simpa using this
section
variable {l : List Ent} {w : List S36}
theorem wishes_map (hs : Shape l w) (x : Ent) (hx : x ∈ l) : wishesN w x.f0 = x.f0.map (wishOf w) := by
  have hl := hs.wishes_len x hx
  refine List.ext_getElem (by simpa using hl) (fun j h1 h2 => ?_)
  obtain ⟨_, g⟩ := wishes_get hs x hx j (by simpa using h2)
  rw [g, List.getElem_map]
theorem rchoices (hs : Shape l w) (hwf : ∀ x ∈ w, Wf36 x) (hok : ∀ x ∈ w, okM x.f2 = true) (free : Nat) (hf : free < 256) (v : Int) (hv : v ∈ members l) (k : Nat) (hk : 100 < k) :
    mainsheetref19_Choices.f k (wishOf w v).f0 (wishOf w v).f1 (wishOf w v).f2.f0 (wishOf w v).f2.f1 (free : Int) = some (choicesN free (wishOf w v)) := by
  have hm := (wishOf_mem hs v hv).1
  obtain ⟨w1, w2, w3, w4⟩ := hwf _ hm
  have := RChoices_val (wishOf w v).f2.f0.toNat (wishOf w v).f2.f1.toNat free (wishOf w v).f0 (wishOf w v).f1 (hok _ hm) hf k hk
  rw [show (((wishOf w v).f2.f0.toNat : Nat) : Int) = (wishOf w v).f2.f0 by omega, show (((wishOf w v).f2.f1.toNat : Nat) : Int) = (wishOf w v).f2.f1 by omega] at this
  exact this
theorem rtakes_loop (hs : Shape l w) (hw : w.length ≤ 60) (hwf : ∀ x ∈ w, Wf36 x) (hok : ∀ x ∈ w, okM x.f2 = true) (free : Nat) (hf : free < 256) (ms : List Int) (hms : ∀ v ∈ ms, v ∈ members l) (hml : ms.length ≤ 1000) (b1 b2 b3 b4 : Int) (b5 : Bool) (r : List Int × Bool) (K : Nat)
    (hfin : ∀ k, K ≤ k → mainsheetref14_Match.f k (ms.map fun v => choicesN free (wishOf w v)) [] = some r) (d : Nat) : ∀ (k i : Nat), i + d = ms.length → K + d + 200 ≤ k →
    mainsheetref19_Takes.l0 k w (free : Int) ((ms.take i).map fun v => choicesN free (wishOf w v)) (i : Int) ms b1 b2 b3 b4 b5 = some r := by
  induction d with
  | zero =>
    intro k i hi hk
    obtain ⟨k, rfl⟩ : ∃ m, k = m + 1 := ⟨k - 1, by omega⟩
    obtain rfl : i = ms.length := by omega
    rw [mainsheetref19_Takes.l0, if_neg (by omega), List.take_length, hfin k (by omega), Option.bind_some]
  | succ d ih =>
    intro k i hi hk
    obtain ⟨k, rfl⟩ : ∃ m, k = m + 1 := ⟨k - 1, by omega⟩
    have hlt : i < ms.length := by omega
    have := ih k (i + 1) (by omega) (by omega)
    rw [List.take_succ_eq_append_getElem hlt, List.map_append] at this
    rw [mainsheetref19_Takes.l0, if_pos (by omega), if_pos (by omega), rd_eq _ _ hlt, rwish_val w (by omega) _ k (by omega), Option.bind_some, rchoices hs hwf hok free hf _ (hms _ (List.getElem_mem hlt)) k (by omega), Option.bind_some, if_pos (by simp; omega), w64 _ (by omega) (by omega), show (i : Int) + 1 = ((i + 1 : Nat) : Int) by omega]
    exact this
theorem rtakes (hs : Shape l w) (hw : w.length ≤ 60) (hwf : ∀ x ∈ w, Wf36 x) (hok : ∀ x ∈ w, okM x.f2 = true) (free : Nat) (hf : free < 256) (x : Ent) (hx : x ∈ l) :
    ∃ (at_ : List Int) (b : Bool) (K : Nat), (∀ k, K ≤ k → mainsheetref19_Takes.f k x.f0 x.f1.f0.f0 x.f1.f0.f1 x.f1.f1 x.f2 x.f3 w (free : Int) = some (at_, b)) ∧ (b = true → atOf w free x = some at_) ∧ (b = false → atOf w free x = none) := by
  obtain ⟨h1, h8⟩ := hs.len x hx
  have hmap := wishes_map hs x hx
  by_cases hone : x.f0.length = 1
  · obtain ⟨v, hv⟩ := List.length_eq_one_iff.1 hone
    have hvm : v ∈ members l := List.mem_flatMap.2 ⟨x, hx, by rw [hv]; simp⟩
    have hm := (wishOf_mem hs v hvm).1
    have hr0 : rd x.f0 0 = v := by rw [hv]; rfl
    have hat : atOf w free x = if (bestN (wishOf w v).f2.f0.toNat (wishOf w v).f2.f1.toNat free (wishOf w v).f1).2 then some [(bestN (wishOf w v).f2.f0.toNat (wishOf w v).f2.f1.toNat free (wishOf w v).f1).1] else none := by
      unfold atOf; rw [hmap, hv]; rfl
    have htk : takesOf (wishOf w v) free = if (bestN (wishOf w v).f2.f0.toNat (wishOf w v).f2.f1.toNat free (wishOf w v).f1).2 then (bestN (wishOf w v).f2.f0.toNat (wishOf w v).f2.f1.toNat free (wishOf w v).f1).1 else -1 := rfl
    refine ⟨[takesOf (wishOf w v) free], decide (takesOf (wishOf w v) free ≥ 0), 200, fun k hk => ?_, fun hb => ?_, fun hb => ?_⟩
    · unfold mainsheetref19_Takes.f
      rw [if_pos (by omega), if_pos (by omega), hr0, rwish_val w (by omega) v k (by omega), Option.bind_some]
      simp only
      rw [Takes_val (wishOf w v) (hwf _ hm) (hok _ hm) free hf k (by omega), Option.bind_some]
    · have hb' := of_decide_eq_true hb
      rw [hat, htk]
      rw [htk] at hb'
      cases hq : (bestN (wishOf w v).f2.f0.toNat (wishOf w v).f2.f1.toNat free (wishOf w v).f1).2 with
      | true => simp
      | false => rw [hq] at hb'; simp at hb'
    · have hb' := of_decide_eq_false hb
      rw [hat]
      rw [htk] at hb'
      cases hq : (bestN (wishOf w v).f2.f0.toNat (wishOf w v).f2.f1.toNat free (wishOf w v).f1).2 with
      | true =>
        have hr := bestN_range _ _ _ _ hq
        rw [hq, if_pos rfl] at hb'
        omega
      | false => simp
  · have hrows : (wishesN w x.f0).map (choicesN free) = x.f0.map fun v => choicesN free (wishOf w v) := by rw [hmap, List.map_map]; rfl
    have hml : (wishesN w x.f0).length = x.f0.length := hs.wishes_len x hx
    obtain ⟨K, hK⟩ := match14 (x.f0.map fun v => choicesN free (wishOf w v)) (fun r hr => by
      obtain ⟨v, _, rfl⟩ := List.mem_map.1 hr
      have := (choice_ok free (wishOf w v)).len
      omega) (by simp; omega) x.f0.length [] (by simp)
    have hat : atOf w free x = matchFrom (x.f0.map fun v => choicesN free (wishOf w v)) [] := by
      have h1' : 1 < (wishesN w x.f0).length := by omega
      unfold atOf takesP
      rw [if_pos h1', hrows]
      unfold matchP
      cases matchFrom (x.f0.map fun v => choicesN free (wishOf w v)) [] with
      | some m => rfl
      | none => rfl
    have hmem : ∀ v ∈ x.f0, v ∈ members l := fun v hv => List.mem_flatMap.2 ⟨x, hx, hv⟩
    refine ⟨(optP (atOf w free x)).1, (optP (atOf w free x)).2, K + 400, fun k hk => ?_, fun hb => ?_, fun hb => ?_⟩
    · unfold mainsheetref19_Takes.f
      rw [if_neg (by omega)]
      have := rtakes_loop hs hw hwf hok free hf x.f0 hmem (by omega) x.f1.f0.f0 x.f1.f0.f1 x.f1.f1 x.f2 x.f3 (optP (atOf w free x)) K (fun k hk => by rw [hat]; exact hK k hk) x.f0.length k 0 (by omega) (by omega)
      exact this
    · cases hq : atOf w free x with
      | some m => rfl
      | none => rw [hq] at hb; cases hb
    · cases hq : atOf w free x with
      | some m => rw [hq] at hb; cases hb
      | none => rfl
end

def upFrom (s i : Nat) : List Int := (((List.range 8).drop i).filter fun c => s.testBit c).map fun (c : Nat) => (c : Int)
theorem of_list : ∀ s : Fin 256, mainsheetref04_Of.f 100 (upFrom s.val 0) = some ((s.val : Int), true) := by decide +kernel
theorem upFrom_step (s i : Nat) (hi : i < 8) : upFrom s i = if s.testBit i then (i : Int) :: upFrom s (i + 1) else upFrom s (i + 1) := by
  unfold upFrom
  rw [List.drop_eq_getElem_cons (by simpa using hi), List.filter_cons, List.getElem_range]
  split <;> simp
theorem less_loop (s : Nat) (hs : s < 256) (m : List Int) (hm : ∀ c ∈ m, 0 ≤ c ∧ c < 8) (hml : m.length ≤ 1000) (d : Nat) : ∀ (k i : Nat) (acc : List Int), i + d = 8 → acc.length ≤ i → 200 + m.length + d ≤ k → acc ++ upFrom (lessAll s m) i = upFrom (lessAll s m) 0 →
    mainsheetref19_Less.l0 k (s : Int) m acc (i : Int) = some ((lessAll s m : Nat) : Int) := by
  induction d with
  | zero =>
    intro k i acc hi ha hk he
    obtain ⟨k, rfl⟩ : ∃ m, k = m + 1 := ⟨k - 1, by omega⟩
    have hn : upFrom (lessAll s m) i = [] := by unfold upFrom; rw [List.drop_eq_nil_of_le (by simp; omega)]; rfl
    rw [hn, List.append_nil] at he
    have := lift (mainsheetref04_Of.mono _) (of_list ⟨lessAll s m, lessAll_lt _ hs _⟩) k (by omega)
    simp only at this
    rw [mainsheetref19_Less.l0, if_neg (by omega), he, this, Option.bind_some]
  | succ d ih =>
    intro k i acc hi ha hk he
    obtain ⟨k, rfl⟩ : ∃ m, k = m + 1 := ⟨k - 1, by omega⟩
    have hi8 : i < 8 := by omega
    have hbit := lessAll_bit m hm s i hi8
    rw [upFrom_step _ _ hi8] at he
    have hh : hasN s (i : Int) = s.testBit i := by simp [hasN]; omega
    rw [mainsheetref19_Less.l0, if_pos (by omega), RHas_val s (by omega), Option.bind_some, hh, has19_val m _ (by omega) k (by omega), Option.bind_some, w64 _ (by omega) (by omega), show (i : Int) + 1 = ((i + 1 : Nat) : Int) by omega]
    cases h1 : s.testBit i with
    | false =>
      rw [if_neg (by simp)]
      rw [hbit, h1] at he
      exact ih k (i + 1) acc (by omega) (by omega) (by omega) (by simpa using he)
    | true =>
      rw [if_pos rfl]
      by_cases h2 : (i : Int) ∈ m
      · rw [if_pos (by simpa using h2)]
        rw [hbit, h1, decide_eq_true h2] at he
        exact ih k (i + 1) acc (by omega) (by omega) (by omega) (by simpa using he)
      · rw [if_neg (by simpa using h2), if_pos (by omega)]
        rw [hbit, h1, decide_eq_false h2] at he
        exact ih k (i + 1) (acc ++ [(i : Int)]) (by omega) (by simp; omega) (by omega) (by simpa using he)
theorem Less_val (s : Nat) (hs : s < 256) (m : List Int) (hm : ∀ c ∈ m, 0 ≤ c ∧ c < 8) (hml : m.length ≤ 1000) (k : Nat) (hk : 300 + m.length ≤ k) : mainsheetref19_Less.f k (s : Int) m = some ((lessAll s m : Nat) : Int) := by
  unfold mainsheetref19_Less.f
  exact less_loop s hs m hm hml 8 k 0 [] (by omega) (by simp) (by omega) rfl

section
variable {l : List Ent} {w : List S36}
theorem rp_true (hl : l.length ≤ 40) (free : Nat) (hf : free < 256) (i : Nat) (hi : i < l.length) (h8 : l[i].f0.length ≤ 8) (m : List Int) (hm : m.length = l[i].f0.length) (hmr : ∀ c ∈ m, 0 ≤ c ∧ c < 8) (waits : List Int) (r : List S31 × List Int) (K : Nat)
    (d : Nat) : ∀ (k j : Nat) (puts : List S31), j + d = l[i].f0.length → puts.length ≤ 1000 + j → K + d + 400 ≤ k →
    (∀ k', K ≤ k' → mainsheetref19_Pick.l0 k' l w ((lessAll free m : Nat) : Int) (puts ++ zipP (l[i].f0.drop j) (m.drop j)) waits ((i + 1 : Nat) : Int) = some r) →
    mainsheetref19_Pick.l1 k l w (free : Int) puts waits (i : Int) m true (j : Int) = some r := by
  induction d with
  | zero =>
    intro k j puts hj hp hk hn
    obtain ⟨k, rfl⟩ : ∃ m, k = m + 1 := ⟨k - 1, by omega⟩
    have := hn k (by omega)
    rw [List.drop_eq_nil_of_le (by omega)] at this
    rw [mainsheetref19_Pick.l1, if_pos (by omega), if_pos (by omega), rd90_eq l i hi, if_neg (by omega), if_pos rfl, Less_val free hf m hmr (by omega) k (by omega), Option.bind_some, w64 _ (by omega) (by omega), show (i : Int) + 1 = ((i + 1 : Nat) : Int) by omega]
    simpa [zipP] using this
  | succ d ih =>
    intro k j puts hj hp hk hn
    obtain ⟨k, rfl⟩ : ∃ m, k = m + 1 := ⟨k - 1, by omega⟩
    have hjl : j < l[i].f0.length := by omega
    have hjm : j < m.length := by omega
    rw [mainsheetref19_Pick.l1, if_pos (by omega), if_pos (by omega), rd90_eq l i hi, if_pos (by omega), if_pos rfl, if_pos (by omega), if_pos (by omega), if_pos (by omega), rd_eq _ _ hjl, rd_eq _ _ hjm, w64 _ (by omega) (by omega), show (j : Int) + 1 = ((j + 1 : Nat) : Int) by omega]
    refine ih k (j + 1) _ (by omega) (by simp; omega) (by omega) (fun k' hk' => ?_)
    have := hn k' hk'
    rw [List.drop_eq_getElem_cons hjl, List.drop_eq_getElem_cons hjm] at this
    rw [List.append_assoc]
    exact this
theorem rp_false (hl : l.length ≤ 40) (free : Nat) (hf : free < 256) (i : Nat) (hi : i < l.length) (h8 : l[i].f0.length ≤ 8) (m : List Int) (puts : List S31) (r : List S31 × List Int) (K : Nat)
    (d : Nat) : ∀ (k j : Nat) (waits : List Int), j + d = l[i].f0.length → waits.length ≤ 1000 + j → K + d + 400 ≤ k →
    (∀ k', K ≤ k' → mainsheetref19_Pick.l0 k' l w (free : Int) puts (waits ++ l[i].f0.drop j) ((i + 1 : Nat) : Int) = some r) →
    mainsheetref19_Pick.l1 k l w (free : Int) puts waits (i : Int) m false (j : Int) = some r := by
  induction d with
  | zero =>
    intro k j waits hj hp hk hn
    obtain ⟨k, rfl⟩ : ∃ m, k = m + 1 := ⟨k - 1, by omega⟩
    have := hn k (by omega)
    rw [List.drop_eq_nil_of_le (by omega), List.append_nil] at this
    rw [mainsheetref19_Pick.l1, if_pos (by omega), if_pos (by omega), rd90_eq l i hi, if_neg (by omega), if_neg (by simp), w64 _ (by omega) (by omega), show (i : Int) + 1 = ((i + 1 : Nat) : Int) by omega]
    exact this
  | succ d ih =>
    intro k j waits hj hp hk hn
    obtain ⟨k, rfl⟩ : ∃ m, k = m + 1 := ⟨k - 1, by omega⟩
    have hjl : j < l[i].f0.length := by omega
    rw [mainsheetref19_Pick.l1, if_pos (by omega), if_pos (by omega), rd90_eq l i hi, if_pos (by omega), if_neg (by simp), if_pos (by omega), if_pos (by omega), rd_eq _ _ hjl, w64 _ (by omega) (by omega), show (j : Int) + 1 = ((j + 1 : Nat) : Int) by omega]
    refine ih k (j + 1) _ (by omega) (by simp; omega) (by omega) (fun k' hk' => ?_)
    have := hn k' hk'
    rw [List.drop_eq_getElem_cons hjl] at this
    rw [List.append_assoc]
    exact this
theorem rpick_loop (hs : Shape l w) (hl : l.length ≤ 40) (hw : w.length ≤ 60) (hwf : ∀ x ∈ w, Wf36 x) (hok : ∀ x ∈ w, okM x.f2 = true) (d : Nat) : ∀ (i free : Nat) (puts : List S31) (waits : List Int), i + d = l.length → free < 256 → puts.length ≤ 8 * i → waits.length ≤ 8 * i →
    ∃ K, ∀ k, K ≤ k → mainsheetref19_Pick.l0 k l w (free : Int) puts waits (i : Int) = some (puts ++ pickPuts (pickTurns w free (l.drop i)), waits ++ pickWaits (pickTurns w free (l.drop i))) := by
  induction d with
  | zero =>
    intro i free puts waits hi hf hp hq
    refine ⟨1, fun k hk => ?_⟩
    obtain ⟨k, rfl⟩ : ∃ m, k = m + 1 := ⟨k - 1, by omega⟩
    rw [mainsheetref19_Pick.l0, if_neg (by omega), List.drop_eq_nil_of_le (by omega)]
    simp [pickTurns, pickPuts, pickWaits]
  | succ d ih =>
    intro i free puts waits hi hf hp hq
    have hil : i < l.length := by omega
    have hm := List.getElem_mem hil
    have h8 := (hs.len _ hm).2
    obtain ⟨at_, b, K1, hT, hb1, hb0⟩ := rtakes hs hw hwf hok free hf l[i] hm
    have pw : ∀ (p : Ent × Option (List Int)) (ts : Turns), pickWaits (p :: ts) = waitsP p ++ pickWaits ts := fun p ts => by simp [pickWaits]
    have hd := List.drop_eq_getElem_cons hil
    cases b with
    | true =>
      have hat := hb1 rfl
      have htk := took hs _ hm free at_ hat
      have hmr := took_range htk
      obtain ⟨K2, hK2⟩ := ih (i + 1) (lessAll free at_) (puts ++ zipP l[i].f0 at_) waits (by omega) (lessAll_lt _ hf _) (by simp [zipP]; omega) (by omega)
      refine ⟨K1 + K2 + 500, fun k hk => ?_⟩
      obtain ⟨k, rfl⟩ : ∃ m, k = m + 1 := ⟨k - 1, by omega⟩
      rw [mainsheetref19_Pick.l0, if_pos (by omega), if_pos (by omega), rd90_eq l i hil, hT k (by omega), Option.bind_some]
      simp only
      rw [show (0 : Int) = ((0 : Nat) : Int) from rfl]
      refine rp_true hl free hf i hil h8 at_ htk.len hmr waits _ K2 l[i].f0.length k 0 puts (by omega) (by omega) (by omega) (fun k' hk' => ?_)
      rw [List.drop_zero, List.drop_zero, hK2 k' hk', hd, pickTurns, puts_cons, pw, hat]
      simp [putsP, waitsP]
    | false =>
      have hat := hb0 rfl
      obtain ⟨K2, hK2⟩ := ih (i + 1) free puts (waits ++ l[i].f0) (by omega) hf (by omega) (by simp; omega)
      refine ⟨K1 + K2 + 500, fun k hk => ?_⟩
      obtain ⟨k, rfl⟩ : ∃ m, k = m + 1 := ⟨k - 1, by omega⟩
      rw [mainsheetref19_Pick.l0, if_pos (by omega), if_pos (by omega), rd90_eq l i hil, hT k (by omega), Option.bind_some]
      simp only
      rw [show (0 : Int) = ((0 : Nat) : Int) from rfl]
      refine rp_false hl free hf i hil h8 at_ puts _ K2 l[i].f0.length k 0 waits (by omega) (by omega) (by omega) (fun k' hk' => ?_)
      rw [List.drop_zero, hK2 k' hk', hd, pickTurns, puts_cons, pw, hat]
      simp [putsP, waitsP, lessAll]
end
theorem copied_loop (l : List Ent) (hl : l.length ≤ 40) (hm : ∀ x ∈ l, x.f0.length ≤ 40) (w : List S36) (a : Int) (d : Nat) : ∀ (k i : Nat), i + d = l.length → d < k → mainsheetlaw19_Ask_copied.l0 k l (l.length : Int) (i : Int) (l.take i) w a = some (l, w, a) := by
  induction d with
  | zero =>
    intro k i hi hk
    obtain ⟨k, rfl⟩ : ∃ m, k = m + 1 := ⟨k - 1, by omega⟩
    obtain rfl : i = l.length := by omega
    rw [mainsheetlaw19_Ask_copied.l0, if_neg (by omega), List.take_length]
  | succ d ih =>
    intro k i hi hk
    obtain ⟨k, rfl⟩ : ∃ m, k = m + 1 := ⟨k - 1, by omega⟩
    have hil : i < l.length := by omega
    have h40 := hm _ (List.getElem_mem hil)
    have := ih k (i + 1) (by omega) (by omega)
    rw [List.take_succ_eq_append_getElem hil] at this
    rw [mainsheetlaw19_Ask_copied.l0, if_pos (by omega), if_pos (by omega), if_pos (by omega), rd90_eq l i hil, Option.bind_some]
    rw [if_pos (by simp; omega), if_pos (by simp; omega), w64 _ (by omega) (by omega), show (i : Int) + 1 = ((i + 1 : Nat) : Int) by omega, List.nil_append]
    exact this
theorem copied_val (l : List Ent) (hl : l.length ≤ 40) (hm : ∀ x ∈ l, x.f0.length ≤ 40) (w : List S36) (hw : w.length ≤ 60) (a : Int) (k : Nat) (hk : 50 ≤ k) : mainsheetlaw19_Ask_copied.f k l w a = some (l, w, a) := by
  unfold mainsheetlaw19_Ask_copied.f
  rw [Option.bind_some, if_pos (by simp; omega), List.nil_append]
  exact copied_loop l hl hm w a l.length k 0 (by omega) (by omega)
theorem why19_val (l : List Ent) (w : List S36) (a : Int) (hE : mainsheetref19_Error.f l w = some (pickCheck l w)) : mainsheetlaw19_Ask_why.f l w a = some (askedP l w a) := by
  unfold mainsheetlaw19_Ask_why.f askedP
  rw [hE, Option.bind_some, RRight_val, Option.bind_some]
  by_cases hc : pickCheck l w = 0
  · have e1 : ¬ (pickCheck l w ≠ 0) := fun h => h hc
    rw [if_pos hc, if_neg e1]
    by_cases ha : a < 256
    · have e2 : decide (a < 256) = true := decide_eq_true ha
      rw [if_pos e2, if_pos ha]
    · have e2 : ¬ (decide (a < 256) = true) := by simpa using ha
      rw [if_neg e2, if_neg ha]
  · rw [if_neg hc, if_pos hc]
end Go.Proofs.YtdmieaidheelbaaDoor.Q
end
/- Picks -/
section
/- mainsheetlaw19.PickPicks by hand: the law's own walk (its print is too long for a claim). -/
namespace Go.Proofs.YtdmieaidheelbaaDoor.Q
open Go Go.RowKit Go.Proofs.YtdmieaidheelbaaDoorW.PrintWords Go.Proofs.YtdmieaidheelbaaDoorW.PrintLast Go.Proofs.YtdmieaidheelbaaDoorW.PrintMore
set_option linter.unusedVariables false
set_option linter.unusedSimpArgs false

set_option maxRecDepth 100000 in
set_option maxHeartbeats 20000000 in
theorem picks_over (A0 : Option Addr) (c0 : Nat) (l0 : List Ent) (A1 : Option Addr) (c1 : Nat) (l1 : List S36) (a : Int) (w : World) (hr0 : Kd.C k90 w A0 l0.length l0) (hc0 : l0.length ≤ c0) (hr1 : Kd.C k36 w A1 l1.length l1) (hc1 : l1.length ≤ c1) (hT : TabW w) (ho : mainsheetlaw19_Ask_over.f 100 l0 l1 a = some true) :
    Calls Tryd.prog 10 #[.agg #[.slice A0 l0.length c0, .slice A1 l1.length c1, .int .u32 a]] w fun e w' => e = .returned (.bool true) ∧ Below w.heap.size w w' := by
  have hu41 := Tryd.underlying41
  have HR0 := Aside0.mk hr0
  have HR1 := Aside0.mk hr1
  have HC0 := Aside0.mk hc0
  have HC1 := Aside0.mk hc1
  have HO := Aside0.mk ho
  have HBA := Aside0.mk ((Below.refl w.heap.size w).alloc (Nat.le_refl _) (.cells #[.slice A0 l0.length c0, .slice A1 l1.length c1, .int .u32 a] 41))
  have HTA := Aside0.mk (hT.step HBA.out)
  have HX := Aside0.mk (heap_alloc_new w (.cells #[.slice A0 l0.length c0, .slice A1 l1.length c1, .int .u32 a] 41))
  clear hr0 hr1 hc0 hc1 ho hT
  go_enter Tryd.func10, Tryd.ntmps10
  go_wp2_with (first
    | (go_at_call 18; refine (mainsheetlaw19_wakes.calls true _ HTA.out wakes19).mono ?_; rintro e w1 ⟨rfl, hb1⟩; have HB1 := Aside0.mk (below_step HBA.out hb1); have hx1 := (hb1.block _ (blk_lt HX.out)).trans HX.out; have hk0 := blk_cell hx1 0; have hk1 := blk_cell hx1 1; have hk2 := blk_cell hx1 2; simp only [List.getElem?_toArray, List.getElem?_cons_zero, List.getElem?_cons_succ] at hk0 hk1 hk2; clear hb1 hx1)
    | (go_at_call 19; refine (mainsheetlaw19_Ask_over.calls 100 A0 c0 l0 A1 c1 l1 a true _ (Kd.C_below HR0.out HB1.out) HC0.out (Kd.C_below HR1.out HB1.out) HC1.out HO.out).mono ?_; rintro e w2 ⟨rfl, hb2⟩; have HB2 := Aside0.mk (below_step HB1.out hb2); clear hb2))
  go_ret
  exact ⟨rfl, HB2.out⟩
set_option maxRecDepth 100000 in
set_option maxHeartbeats 20000000 in
theorem picks_walk (A0 : Option Addr) (c0 : Nat) (l0 : List Ent) (A1 : Option Addr) (c1 : Nat) (l1 : List S36) (a : Int) (P : List S31) (Wt : List Int) (q e0 : Int) (k : Nat) (w : World) (hr0 : Kd.C k90 w A0 l0.length l0) (hc0 : l0.length ≤ c0) (hr1 : Kd.C k36 w A1 l1.length l1) (hc1 : l1.length ≤ c1) (hT : TabW w)
    (ho : mainsheetlaw19_Ask_over.f 100 l0 l1 a = some false) (hcp : mainsheetlaw19_Ask_copied.f 100 l0 l1 a = some (l0, l1, a)) (hP : pick_Pick.f l0 l1 a = some (P, Wt, e0)) (hC : pick_Check.f l0 l1 = some q) (hE : mainsheetref19_Error.f l0 l1 = some q) (hW : mainsheetlaw19_Ask_why.f l0 l1 a = some e0)
    (hz : e0 = 0 → mainsheetref19_Pick.f k l0 l1 a = some (P, Wt) ∧ mainsheetref13_SamePuts.f k P P = some true ∧ mainsheetref04_SameInts.f k Wt Wt = some true) (hn : e0 ≠ 0 → P = [] ∧ Wt = []) :
    Calls Tryd.prog 10 #[.agg #[.slice A0 l0.length c0, .slice A1 l1.length c1, .int .u32 a]] w fun e w' => e = .returned (.bool true) ∧ Below w.heap.size w w' := by
  have hu41 := Tryd.underlying41
  have HR0 := Aside0.mk hr0
  have HR1 := Aside0.mk hr1
  have HC0 := Aside0.mk hc0
  have HC1 := Aside0.mk hc1
  have HO := Aside0.mk ho
  have HCP := Aside0.mk hcp
  have HP := Aside0.mk hP
  have HC := Aside0.mk hC
  have HE := Aside0.mk hE
  have HW := Aside0.mk hW
  have HZ := Aside0.mk hz
  have HN := Aside0.mk hn
  have HBA := Aside0.mk ((Below.refl w.heap.size w).alloc (Nat.le_refl _) (.cells #[.slice A0 l0.length c0, .slice A1 l1.length c1, .int .u32 a] 41))
  have HTA := Aside0.mk hT
  have HX := Aside0.mk (heap_alloc_new w (.cells #[.slice A0 l0.length c0, .slice A1 l1.length c1, .int .u32 a] 41))
  clear hr0 hr1 hc0 hc1 ho hT hcp hP hC hE hW hz hn
  go_enter Tryd.func10, Tryd.ntmps10
  go_wp2_with (first
    | (go_at_call 18; refine (mainsheetlaw19_wakes.calls true _ (HTA.out.step HBA.out) wakes19).mono ?_; rintro e w1 ⟨rfl, hb1⟩; have HB1 := Aside0.mk (below_step HBA.out hb1); have HX1 := Aside0.mk ((hb1.block _ (blk_lt HX.out)).trans HX.out); have hk0 := blk_cell HX1.out 0; have hk1 := blk_cell HX1.out 1; have hk2 := blk_cell HX1.out 2; simp only [List.getElem?_toArray, List.getElem?_cons_zero, List.getElem?_cons_succ] at hk0 hk1 hk2; clear hb1)
    | (go_at_call 19; refine (mainsheetlaw19_Ask_over.calls 100 A0 c0 l0 A1 c1 l1 a false _ (Kd.C_below HR0.out HB1.out) HC0.out (Kd.C_below HR1.out HB1.out) HC1.out HO.out).mono ?_; rintro e w2 ⟨rfl, hb2⟩; have HB2 := Aside0.mk (below_step HB1.out hb2); have HX2 := Aside0.mk ((hb2.block _ (blk_lt HX1.out)).trans HX1.out); clear hk0 hk1 hk2; have hj0 := blk_cell HX2.out 0; have hj1 := blk_cell HX2.out 1; have hj2 := blk_cell HX2.out 2; simp only [List.getElem?_toArray, List.getElem?_cons_zero, List.getElem?_cons_succ] at hj0 hj1 hj2; clear hb2)
    | (go_at_call 47; refine (mainsheetlaw19_Ask_copied.calls 100 A0 c0 l0 A1 c1 l1 a l0 l1 a _ (Kd.C_below HR0.out HB2.out) HC0.out (Kd.C_below HR1.out HB2.out) HC1.out HCP.out).mono ?_; rintro e w3 ⟨v0, v1, rfl, hS, hR, hb3⟩; obtain ⟨A2, c2, rfl, hc2, hC2⟩ := Kd.R_reads (Kd.S_R hS); obtain ⟨A3, c3, rfl, hc3, hC3⟩ := Kd.R_reads hR; have HC2 := Aside0.mk hC2; have HC3 := Aside0.mk hC3; have HK2 := Aside0.mk hc2; have HK3 := Aside0.mk hc3; have HB3 := Aside0.mk (below_step HB2.out hb3); have HX3 := Aside0.mk ((hb3.block _ (blk_lt HX2.out)).trans HX2.out); clear hj0 hj1 hj2 hS hR hc2 hc3 hC2 hC3 hb3)
    | (go_at_call 20; refine (pick_Pick.calls A2 c2 l0 A3 c3 l1 a P Wt e0 _ (Kd.C_alloc HC2.out _) HK2.out (Kd.C_alloc HC3.out _) HK3.out (HTA.out.step (below_alloc HB3.out _)) HP.out).mono ?_; rintro e w4 ⟨v2, v3, rfl, hP4, hW4, hb4⟩; obtain ⟨A4, c4, rfl, hc4, hC4⟩ := Kd.R_reads hP4; obtain ⟨A5, c5, rfl, hc5, hC5⟩ := Kd.R_reads hW4; have HC4 := Aside0.mk hC4; have HC5 := Aside0.mk hC5; have HK4 := Aside0.mk hc4; have HK5 := Aside0.mk hc5; have HB4 := Aside0.mk (below_step (below_alloc HB3.out _) hb4); have HX4 := Aside0.mk ((hb4.block _ (by have := blk_lt HX3.out; simp; omega)).trans (blk_alloc HX3.out _)); have HO4 := Aside0.mk ((hb4.block _ (blk_lt (blk_new w3 (.cells #[.slice A2 l0.length c2, .slice A3 l1.length c3, .int .u32 a] 41)))).trans (blk_new w3 _)); have HC24 := Aside0.mk (Kd.C_below (Kd.C_alloc HC2.out (.cells #[.slice A2 l0.length c2, .slice A3 l1.length c3, .int .u32 a] 41)) hb4); have HC34 := Aside0.mk (Kd.C_below (Kd.C_alloc HC3.out (.cells #[.slice A2 l0.length c2, .slice A3 l1.length c3, .int .u32 a] 41)) hb4); clear hP4 hW4 hc4 hc5 hC4 hC5 hb4))
  have hs0 := blk_cell HO4.out 0
  have hs1 := blk_cell HO4.out 1
  have hs2 := blk_cell HX4.out 0
  have hs3 := blk_cell HX4.out 1
  simp only [List.getElem?_toArray, List.getElem?_cons_zero, List.getElem?_cons_succ] at hs0 hs1 hs2 hs3
  have HS := Aside0.mk (And.intro hs0 (And.intro hs1 (And.intro hs2 hs3)))
  clear hs0 hs1 hs2 hs3
  have hqq : (q != q) = false := by simp
  generalize hg3 : w3.heap.size = b3 at *
  have BW := Aside0.mk (below_drew (Below.refl w4.heap.size w4))
  go_region_held3 (fun W => W.cell? ⟨b3, 0, none⟩ = some (.slice A2 l0.length c2) ∧ W.cell? ⟨b3, 1, none⟩ = some (.slice A3 l1.length c3) ∧ W.cell? ⟨w.heap.size, 0, none⟩ = some (.slice A0 l0.length c0) ∧ W.cell? ⟨w.heap.size, 1, none⟩ = some (.slice A1 l1.length c1))
    (first | exact HS.out | go_keep)
    (first
      | (go_at_call 48; refine (pick_Check.calls A2 c2 l0 A3 c3 l1 q _ (Kd.C_below HC24.out BW.out) HK2.out (Kd.C_below HC34.out BW.out) HK3.out HC.out).mono ?_; rintro e w5 ⟨rfl, hb5⟩; replace HS := Aside0.mk (And.intro (pw_cell_below hb5 HS.out.1) (And.intro (pw_cell_below hb5 HS.out.2.1) (And.intro (pw_cell_below hb5 HS.out.2.2.1) (pw_cell_below hb5 HS.out.2.2.2)))); replace BW := Aside0.mk (below_step BW.out hb5); clear hb5)
      | (go_at_call 49; refine (mainsheetref19_Error.calls A0 c0 l0 A1 c1 l1 q _ (Kd.C_below HR0.out (below_step HB4.out BW.out)) HC0.out (Kd.C_below HR1.out (below_step HB4.out BW.out)) HC1.out HE.out).mono ?_; rintro e w5 ⟨rfl, hb5⟩; replace HS := Aside0.mk (And.intro (pw_cell_below hb5 HS.out.1) (And.intro (pw_cell_below hb5 HS.out.2.1) (And.intro (pw_cell_below hb5 HS.out.2.2.1) (pw_cell_below hb5 HS.out.2.2.2)))); replace BW := Aside0.mk (below_step BW.out hb5); clear hb5))
  all_goals
    have HB7 := Aside0.mk (below_step HB4.out BW.out)
    have HX7 := Aside0.mk ((BW.out.block _ (blk_lt HX4.out)).trans HX4.out)
    have HC47 := Aside0.mk (Kd.C_below HC4.out BW.out)
    have HC57 := Aside0.mk (Kd.C_below HC5.out BW.out)
    have hm0 := blk_cell HX7.out 0
    have hm1 := blk_cell HX7.out 1
    have hm2 := blk_cell HX7.out 2
    simp only [List.getElem?_toArray, List.getElem?_cons_zero, List.getElem?_cons_succ] at hm0 hm1 hm2
    clear HS BW HX4 HX3 HX2 HX1 HX HO4 HB3 HB2 HB1 HBA HC24 HC34 HC2 HC3 HC4 HC5 HB4
    by_cases hz : e0 = 0
    · obtain ⟨z1, z2, z3⟩ := HZ.out hz
      subst hz
      have HZ1 := Aside0.mk z1
      have HZ2 := Aside0.mk z2
      have HZ3 := Aside0.mk z3
      clear z1 z2 z3
      go_wp2_with (first
        | (go_at_call 33; refine (mainsheetlaw19_Ask_why.calls A0 c0 l0 A1 c1 l1 a 0 _ (Kd.C_below HR0.out HB7.out) HC0.out (Kd.C_below HR1.out HB7.out) HC1.out HW.out).mono ?_; rintro e w8 ⟨rfl, hb8⟩; have HB8 := Aside0.mk (below_step HB7.out hb8); have HX8 := Aside0.mk ((hb8.block _ (blk_lt HX7.out)).trans HX7.out); have HC48 := Aside0.mk (Kd.C_below HC47.out hb8); have HC58 := Aside0.mk (Kd.C_below HC57.out hb8); clear hm0 hm1 hm2; have hp0 := blk_cell HX8.out 0; have hp1 := blk_cell HX8.out 1; have hp2 := blk_cell HX8.out 2; simp only [List.getElem?_toArray, List.getElem?_cons_zero, List.getElem?_cons_succ] at hp0 hp1 hp2; clear hb8)
        | (go_at_call 50; refine (mainsheetref19_Pick.calls k A0 c0 l0 A1 c1 l1 a P Wt _ (Kd.C_below HR0.out HB8.out) HC0.out (Kd.C_below HR1.out HB8.out) HC1.out HZ1.out).mono ?_; rintro e w9 ⟨v6, v7, rfl, hP9, hW9, hb9⟩; obtain ⟨A6, c6, rfl, hc6, hC6⟩ := Kd.R_reads hP9; obtain ⟨A7, c7, rfl, hc7, hC7⟩ := Kd.R_reads hW9; have HB9 := Aside0.mk (below_step HB8.out hb9); have HC49 := Aside0.mk (Kd.C_below HC48.out hb9); have HC59 := Aside0.mk (Kd.C_below HC58.out hb9); have HC6 := Aside0.mk hC6; have HC7 := Aside0.mk hC7; have HK6 := Aside0.mk hc6; have HK7 := Aside0.mk hc7; clear hp0 hp1 hp2 hP9 hW9 hb9 hc6 hc7 hC6 hC7)
        | (go_at_call 41; refine (mainsheetref13_SamePuts.calls k A4 c4 P A6 c6 P true _ HC49.out HK4.out HC6.out HK6.out HZ2.out).mono ?_; rintro e w10 ⟨rfl, ⟨n1, rfl⟩⟩)
        | (go_at_call 31; refine (mainsheetref04_SameInts.calls k A5 c5 Wt A7 c7 Wt true _ (Kd.C_drewN HC59.out _) HK5.out (Kd.C_drewN HC7.out _) HK7.out HZ3.out).mono ?_; rintro e w11 ⟨rfl, ⟨n2, rfl⟩⟩))
      go_ret
      exact ⟨rfl, pw_below_drewN HB9.out _⟩
    · obtain ⟨rfl, rfl⟩ := HN.out hz
      have hne : (e0 != 0) = true := by simpa using hz
      have hee : (e0 == e0) = true := by simp
      clear hz
      go_wp2_with (go_at_call 33; refine (mainsheetlaw19_Ask_why.calls A0 c0 l0 A1 c1 l1 a e0 _ (Kd.C_below HR0.out HB7.out) HC0.out (Kd.C_below HR1.out HB7.out) HC1.out HW.out).mono ?_; rintro e w8 ⟨rfl, hb8⟩; have HB8 := Aside0.mk (below_step HB7.out hb8); clear hb8)
      go_ret
      exact ⟨by first | rfl | (simp; done), HB8.out⟩
theorem mainsheetlaw19_PickPicks.calls (A0 : Option Addr) (c0 : Nat) (l0 : List Ent) (A1 : Option Addr) (c1 : Nat) (l1 : List S36) (a : Int) (w : World) (hr0 : Kd.C k90 w A0 l0.length l0) (hc0 : l0.length ≤ c0) (hr1 : Kd.C k36 w A1 l1.length l1) (hc1 : l1.length ≤ c1) (hwf : ∀ x ∈ l1, Wf36 x) (h0 : 0 ≤ a) (h1 : a < 4294967296) (hT : TabW w) :
    Calls Tryd.prog 10 #[.agg #[.slice A0 l0.length c0, .slice A1 l1.length c1, .int .u32 a]] w fun e w' => e = .returned (.bool true) ∧ Below w.heap.size w w' := by
  rcases over_val l0 l1 a 100 (by omega) with ho | ⟨ho, hl, hw, hm⟩
  · exact picks_over A0 c0 l0 A1 c1 l1 a w hr0 hc0 hr1 hc1 hT ho
  · have hok : okPickArgs l0 l1 a := ⟨⟨hwf, by omega, by omega⟩, h0, h1⟩
    have hP : pick_Pick.f l0 l1 a = some (if askedP l0 l1 a = 0 then (pickPuts (pickTurns l1 a.toNat l0), pickWaits (pickTurns l1 a.toNat l0), 0) else ([], [], askedP l0 l1 a)) := by unfold pick_Pick.f; exact if_pos hok
    have hC : pick_Check.f l0 l1 = some (pickCheck l0 l1) := by unfold pick_Check.f; exact if_pos hok.1
    have hE : mainsheetref19_Error.f l0 l1 = some (pickCheck l0 l1) := by unfold mainsheetref19_Error.f; exact if_pos hok.1
    have hW : mainsheetlaw19_Ask_why.f l0 l1 a = some (askedP l0 l1 a) := why19_val l0 l1 a hE
    have hcp := copied_val l0 hl hm l1 hw a 100 (by omega)
    by_cases he : askedP l0 l1 a = 0
    · obtain ⟨hc, ha⟩ := askedP_ok.1 he
      obtain ⟨hs, hpc⟩ := (pickCheck_zero l0 l1).1 hc
      obtain ⟨hpl, hwtl⟩ := pickPuts_le (pickTurns l1 a.toNat l0)
      rw [turns_fst, ← hs.count] at hpl hwtl
      obtain ⟨K, hK⟩ := rpick_loop hs hl hw hwf (fun x hx => places_ok l1 _ _ hpc x hx) l0.length 0 a.toNat [] [] (by omega) (by omega) (by simp) (by simp)
      rw [if_pos he] at hP
      rw [he] at hW
      refine picks_walk A0 c0 l0 A1 c1 l1 a _ _ _ 0 (K + 300) w hr0 hc0 hr1 hc1 hT ho hcp hP hC hE hW (fun _ => ⟨?_, ?_, ?_⟩) (fun h => absurd rfl h)
      · unfold mainsheetref19_Pick.f
        have := hK (K + 300) (by omega)
        rw [show ((a.toNat : Nat) : Int) = a by omega, List.drop_zero, List.nil_append, List.nil_append] at this
        exact this
      · unfold mainsheetref13_SamePuts.f
        rw [if_pos rfl]
        exact same_puts _ (by omega) _ (K + 300) 0 (by omega) rfl (by omega)
      · rw [Same_val _ _ (by omega) (K + 300) (by omega)]
        simp
    · rw [if_neg he] at hP
      exact picks_walk A0 c0 l0 A1 c1 l1 a [] [] _ _ 0 w hr0 hc0 hr1 hc1 hT ho hcp hP hC hE hW (fun h => absurd h he) (fun _ => ⟨rfl, rfl⟩)
end Go.Proofs.YtdmieaidheelbaaDoor.Q
end
/- OpenPick -/
section
/- What a law of layer 19 is handed: a wish, and an ask (its two rows and the free pCPUs), opened to the words of the walks. -/
namespace Go.Proofs.YtdmieaidheelbaaDoor.Q
open Go Go.ChangeShapes Go.WideShapes Go.ChangeAt Go.RowKit
set_option linter.unusedVariables false
set_option maxRecDepth 100000
open Go.Proofs.YtdmieaidheelbaaDoorW.PrintWords
section
variable {H : Type} {enc : TypeId × Value → H} {w : World} {base : Nat} {spare : Nat → Bool} {held : Bool}
theorem three_of {α : Type} {l : List α} (h : l.length = 3) : ∃ a b c, l = [a, b, c] := by
  match l, h with
  | [a, b, c], _ => exact ⟨a, b, c, rfl⟩
theorem open_row {α : Type} {t e : TypeId} {d : Kd α} {Wf : α → Prop} (ht : Tryd.prog.underlying t = some (.slice e)) (hC : Tryd.prog.cellsOf e = d.sz) (hE : Elem enc w base spare held e d Wf)
    {fuel : Nat} {c : Value} {x : DataW H × List MemPlace} (h : DataW.trod enc Tryd.prog w base spare held fuel t [c] = some x) :
    ∃ (A : Option Addr) (l : List α) (cap : Nat), c = .slice A l.length cap ∧ l.length ≤ cap ∧ Kd.C d w A l.length l ∧ ∀ y ∈ l, Wf y := by
  obtain ⟨A, len, cap, rfl⟩ : ∃ A len cap, c = .slice A len cap := by
    rcases Go.Deep.open_slice ht h with ⟨e, _⟩ | ⟨a, l, c, _, _, _, _, e, _⟩
    · injection e with e; exact ⟨_, _, _, e⟩
    · injection e with e; exact ⟨_, _, _, e⟩
  obtain ⟨l, hml, hcap, hC, hw⟩ := rowOf ht hC hE h
  subst hml
  exact ⟨A, l, cap, rfl, hcap, hC, hw⟩
theorem open_ask {v : Value} {b2 : Nat} {d : DataW H} {p : List MemPlace} (ok : Value.okWide Tryd.prog w .any b2 41 v) (h : DataW.Trod enc Tryd.prog w base spare held 41 v d p) :
    ∃ (A : Option Addr) (l : List S90) (c : Nat) (B : Option Addr) (m : List S36) (b : Nat) (a : Int), v = .agg #[.slice A l.length c, .slice B m.length b, .int .u32 a] ∧ l.length ≤ c ∧ m.length ≤ b ∧ Kd.C k90 w A l.length l ∧ Kd.C k36 w B m.length m ∧ (∀ x ∈ m, Wf36 x) ∧ (Lit.int .u32 a).wf = true := by
  obtain ⟨cs, rfl, hsz⟩ := okWide_struct Tryd.underlying41 ok
  obtain ⟨fuel, hf⟩ := h
  obtain ⟨xs, n, _, _, hlen, hxl, hg⟩ := DataW.trod_struct Tryd.underlying41 hf
  have hc : Tryd.prog.cellsOf 41 = 3 := by kernel_rfl
  have ce : Tryd.prog.cellsOf 39 = 1 := by kernel_rfl
  have cw : Tryd.prog.cellsOf 22 = 1 := by kernel_rfl
  have cu : Tryd.prog.cellsOf 24 = 1 := by kernel_rfl
  have c1 : Tryd.prog.cellsOf 90 = k90.sz := by kernel_rfl
  have c2 : Tryd.prog.cellsOf 36 = k36.sz := by kernel_rfl
  obtain ⟨c0, c1', c2', hcs⟩ := three_of (hlen.trans hc)
  have hcs' : cs.toList = [c0, c1', c2'] := hcs
  rw [show (Value.agg cs).cells.toList = [c0, c1', c2'] from hcs] at hg
  have h0 : DataW.trod enc Tryd.prog w base spare held n 39 (([c0, c1', c2'].drop 0).take (Tryd.prog.cellsOf 39)) = xs[0]? := hg 0 _ rfl
  rw [ce] at h0
  have h1 : DataW.trod enc Tryd.prog w base spare held n 22 (([c0, c1', c2'].drop 1).take (Tryd.prog.cellsOf 22)) = xs[1]? := hg 1 _ rfl
  rw [cw] at h1
  have h2 : DataW.trod enc Tryd.prog w base spare held n 24 (([c0, c1', c2'].drop 2).take (Tryd.prog.cellsOf 24)) = xs[2]? := hg 2 _ rfl
  rw [cu] at h2
  have hx2 : xs.length = 3 := hxl
  obtain ⟨a, rfl, wa⟩ := int_field (by omega) Tryd.underlying24 h2
  rw [List.getElem?_eq_getElem (by omega)] at h0 h1
  obtain ⟨A, l, c, rfl, hlc, hC, _⟩ := open_row Tryd.underlying39 c1 elem_entity h0
  obtain ⟨B, m, b, rfl, hmb, hD, hw⟩ := open_row Tryd.underlying22 c2 elem_wish h1
  refine ⟨A, l, c, B, m, b, a, ?_, hlc, hmb, hC, hD, hw, wa⟩
  obtain ⟨q⟩ := cs
  simp only at hcs'
  rw [hcs']
end
end Go.Proofs.YtdmieaidheelbaaDoor.Q
end
