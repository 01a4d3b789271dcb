/- Texts of the proof of PickTells, joined. -/
import Derived.WalkMore
import Derived.BigQuiet
import Derived.Deep.QuietTactic
import Derived.Deep.RegionHeld3
import Derived.WalkSmall
import Derived.WalkSpells
import Derived.BigRegionIn
import Derived.Deep.LoopGhost
import Derived.Test.YtdmieaidheelbaaDoorPkPickTellsb
/- QFpicktakes -/
section
namespace Go.Proofs.YtdmieaidheelbaaDoor.Q
open Go.RowKit Go.Proofs.YtdmieaidheelbaaDoorW.PrintWords Go.Proofs.YtdmieaidheelbaaDoorW.PrintLast Go.Proofs.YtdmieaidheelbaaDoorW.PrintMore
attribute [local go_sem] max2_int min2_int max_two min_two max_three min_three max_four min_four
set_option linter.unusedVariables false
set_option linter.unusedSimpArgs false

def pick_takes.f (k : Nat) (l0 : List (S36)) (a1 : Int) : Option (List Int × Bool) := if (l0.length : Int) > 1 then ((pick_rows.f k a1 l0).bind fun t834 => ((gang_Match.f k t834).bind fun bt837 => (some (bt837.1, bt837.2)))) else (if 0 < (l0.length : Int) then ((mask_Best.f k ((rd_T36 l0 0).f2.f0) ((rd_T36 l0 0).f2.f1) a1 ((rd_T36 l0 0).f1)).bind fun bt843 => (some ((([bt843.1] : List Int)), bt843.2))) else (none))
def pick_takes.T3 : Bool × List (List Nat × List Nat) := (true, [([], []), ([0], [0]), ([1], [1]), ([2], [2]), ([], []), ([], []), ([5], [5]), ([6], [6]), ([7], [7]), ([3, 4, 8], [3, 4, 8]), ([9], [9]), ([10], [10]), ([10], [10]), ([11, 9, 0, 1, 2, 3, 4, 5, 6, 7, 8, 9, 10, 11], [11]), ([12, 13, 0, 1, 2, 3, 4, 5, 6, 7, 8, 9, 10, 11, 12, 13], [12])])
def pick_takes.B3 : List Nat := [0, 1, 3, 7, 0, 0, 32, 96, 224, 511, 1023, 2047, 2047, 4095, 16383]
theorem pick_takes.tab3 : rtab .any (opsOf Tryd.f91 3) = pick_takes.T3 := by kernel_rfl
theorem pick_takes.bits3 : waitsOk pick_takes.T3.2 pick_takes.B3 = true := by kernel_rfl
set_option maxHeartbeats 8000000 in
set_option maxRecDepth 100000 in
theorem pick_takes.calls (k : Nat) (A0 : Option Addr) (c0 : Nat) (l0 : List (S36)) (a1 : Int) (r1 : List Int) (r2 : Bool) (w : World) (hr0 : Kd.C k36 w A0 l0.length l0) (hc0 : l0.length ≤ c0) (hT : TabW w) (h : pick_takes.f k l0 a1 = some (r1, r2)) :
  Calls Tryd.prog 91 #[.slice A0 l0.length c0, .int .u32 a1] w fun e w' => ∃ v0_ : Value, e = .returned (.tuple #[v0_, .bool r2]) ∧ Kd.R (Kd.int .i64) 3 w' w.heap.size (fun _ => True) v0_ r1 ∧ Below w.heap.size w w' := by
 have HT := Aside0.mk hT
 clear hT
 have hu34 := Tryd.underlying34
 have HR0 := Aside0.mk hr0
 have HC0 := Aside0.mk hc0
 clear hr0 hc0
 have HB := Aside0.mk (Below.refl w.heap.size w)
 have H : (if (l0.length : Int) > 1 then ((pick_rows.f k a1 l0).bind fun t834 => ((gang_Match.f k t834).bind fun bt837 => (some (bt837.1, bt837.2)))) else (if 0 < (l0.length : Int) then ((mask_Best.f k ((rd_T36 l0 0).f2.f0) ((rd_T36 l0 0).f2.f1) a1 ((rd_T36 l0 0).f1)).bind fun bt843 => (some ((([bt843.1] : List Int)), bt843.2))) else (none))) = some (r1, r2) := h
 clear h
 by_cases c3 : (l0.length : Int) > 1
 ·rw [if_pos c3] at H
  have c3b0 : decide (1 < (l0.length : Int)) = true := decide_eq_true c3
  have c3b1 : decide (1 < l0.length) = true := decide_eq_true (by omega)
  clear c3
  replace H := Option.bind_eq_some_iff.mp H
  obtain ⟨t834, A40, H⟩ := H
  replace H : ((gang_Match.f k t834).bind fun bt837 => (some (bt837.1, bt837.2))) = some (r1, r2) := H
  have A4 := Aside0.mk A40
  clear A40
  replace H := Option.bind_eq_some_iff.mp H
  obtain ⟨⟨t837, t838⟩, A50, H⟩ := H
  replace H : (some (t837, t838)) = some (r1, r2) := H
  have A5 := Aside0.mk A50
  clear A50
  simp only [Option.some.injEq, Prod.mk.injEq] at H
  obtain ⟨rfl, rfl⟩ := H
  go_enter Tryd.func91, Tryd.ntmps91
  go_wp2_with (first | ((with_reducible refine gate_callee (f := 106) rfl ?_); refine goesL_ (some 13) rfl rfl Tryd.func106 (by kernel_rfl) rfl #[.int .u32 a1, .slice A0 l0.length c0] rfl (by (try simp only [List.map_toArray, List.map_cons, List.map_nil]); first | done | rfl | (simp only [List.length_drop, List.length_take]; rfl)) ?_; (with_reducible refine (pick_rows.calls k a1 _ _ l0 t834 _ ?side1 ?side2 ?tb A4.out).mono ?_); (case tb => exact HT.out.step (by repeat (first | (with_reducible first | exact HB.out | apply below_alloc | apply pw_below_drewN | apply below_drew1) | exact HB.out))); (case side1 => repeat (first | exact HR0.out | (with_reducible refine Kd.C_alloc ?_ _) | (with_reducible refine Kd.C_drewN ?_ _) | (with_reducible refine Kd.C_drew ?_))); (case side2 => exact HC0.out); rintro e w6 ⟨v835, rfl, ho0, hb⟩; refine ⟨_, rfl, ?_⟩; have n0_ := Aside0.mk (Kd.S_lower ho0 (below_size (by repeat (first | (with_reducible first | exact HB.out | apply below_alloc | apply pw_below_drewN | apply below_drew1) | exact HB.out)))); have n1_ := Aside0.mk (below_step (by repeat (first | (with_reducible first | exact HB.out | apply below_alloc | apply pw_below_drewN | apply below_drew1) | exact HB.out)) hb); clear HB; have HO836 := n0_; have HB := n1_; clear n0_ n1_; (try clear hb); (try clear hb2); (try clear hk); (try clear hi); (try clear ho0); obtain ⟨Ao7, co7, eo7⟩ := Kd.S_slice HO836.out; subst eo7) | ((with_reducible refine gate_callee (f := 105) rfl ?_); refine goesL_ (some 14) rfl rfl Tryd.func105 (by kernel_rfl) rfl #[.slice Ao7 t834.length co7] rfl (by (try simp only [List.map_toArray, List.map_cons, List.map_nil]); first | done | rfl | (simp only [List.length_drop, List.length_take]; rfl)) ?_; (with_reducible refine (gang_Match.calls k _ _ t834 t837 t838 _ ?side1 ?side2 A5.out).mono ?_); (case side1 => repeat (first | exact (Kd.S_reads' HO836.out).2.2 | (with_reducible refine Kd.C_alloc ?_ _) | (with_reducible refine Kd.C_drewN ?_ _) | (with_reducible refine Kd.C_drew ?_))); (case side2 => exact (Kd.S_reads' HO836.out).2.1); rintro e w8 ⟨v839, rfl, ho0, hb⟩; refine ⟨_, rfl, ?_⟩; have n0_ := Aside0.mk (Kd.S_elder' (by (with_reducible repeat (first | apply Kd.S_alloc | apply Kd.S_drewN | apply Kd.S_drew)); exact HO836.out) (Kd.R_base ho0) hb); have n1_ := Aside0.mk (Kd.R_lower ho0 (below_size (by repeat (first | (with_reducible first | exact HB.out | apply below_alloc | apply pw_below_drewN | apply below_drew1) | exact HB.out)))); have n2_ := Aside0.mk (below_step (by repeat (first | (with_reducible first | exact HB.out | apply below_alloc | apply pw_below_drewN | apply below_drew1) | exact HB.out)) hb); clear HO836; clear HB; have HO836 := n0_; have HO840 := n1_; have HB := n2_; clear n0_ n1_ n2_; (try clear hb); (try clear hb2); (try clear hk); (try clear hi); (try clear ho0)))
  go_ret2
  exact ⟨_, by first | rfl | (simp [errW_none, errW_some] <;> rfl) | (simp [*, errW_none, errW_some] <;> rfl), by (with_reducible repeat (first | apply Kd.R_alloc | apply Kd.R_drewN | apply Kd.R_drew)); exact HO840.out, by repeat (first | (with_reducible first | exact HB.out | apply below_alloc | apply pw_below_drewN | apply below_drew1) | exact HB.out)⟩
 ·rw [if_neg c3] at H
  have c3b0 : decide (1 < (l0.length : Int)) = false := decide_eq_false c3
  have c3b1 : decide (1 < l0.length) = false := decide_eq_false (by omega)
  clear c3
  by_cases c9 : 0 < (l0.length : Int)
  ·rw [if_pos c9] at H
   have c9b0 : decide (0 < (l0.length : Int)) = true := decide_eq_true c9
   have c9b1 : decide (0 < l0.length) = true := decide_eq_true (by omega)
   clear c9
   replace H := Option.bind_eq_some_iff.mp H
   obtain ⟨⟨t843, t844⟩, A100, H⟩ := H
   replace H : (some ((([t843] : List Int)), t844)) = some (r1, r2) := H
   have A10 := Aside0.mk A100
   clear A100
   obtain ⟨y845, hy845⟩ : ∃ y_ : List Int, y_ = (([t843] : List Int)) := ⟨_, rfl⟩
   replace H : (some (y845, t844)) = some (r1, r2) := by first | (rw [hy845]; with_reducible exact H) | (have H2_ := (Option.bind_some _ _).symm.trans H; rw [hy845]; with_reducible exact H2_) | (have H2_ := (Option.bind_some _ _).symm.trans H; with_reducible exact H2_) | with_reducible exact H | (rw [hy845]; exact H) | exact H
   have Ny845 := Aside0.mk hy845
   clear hy845
   simp only [Option.some.injEq, Prod.mk.injEq] at H
   obtain ⟨rfl, rfl⟩ := H
   go_enter Tryd.func91, Tryd.ntmps91
   try go_wp2
   have n0_ := Aside0.mk (below_drew1 HB.out)
   clear HB
   have HB := n0_
   clear n0_
   have p841 : 0 ≤ (0 : Int) := (by omega)
   have q841 : 0 < (l0.length : Int) := of_decide_eq_true (by first | (with_reducible assumption) | assumption)
   obtain ⟨ad841, e841, hx841_0, hx841_1, hx841_2, hx841_3⟩ := at_T36 HR0.out 0 p841 q841
   have hw841_3 := hx841_3
   (try rw [show ((0 : Int)).toNat = 0 from rfl] at hw841_3)
   (try rw [show 0 * 4 = 0 from rfl] at hw841_3)
   (try rw [Addr.add_zero'] at hw841_3)
   have hw841_2 := hx841_2
   (try rw [show ((0 : Int)).toNat = 0 from rfl] at hw841_2)
   (try rw [show 0 * 4 = 0 from rfl] at hw841_2)
   (try rw [Addr.add_zero'] at hw841_2)
   have hw841_1 := hx841_1
   (try rw [show ((0 : Int)).toNat = 0 from rfl] at hw841_1)
   (try rw [show 0 * 4 = 0 from rfl] at hw841_1)
   (try rw [Addr.add_zero'] at hw841_1)
   have hw841_0 := hx841_0
   (try rw [show ((0 : Int)).toNat = 0 from rfl] at hw841_0)
   (try rw [show 0 * 4 = 0 from rfl] at hw841_0)
   (try rw [Addr.add_zero'] at hw841_0)
   cases e841
   have qi841 : (0 < l0.length) = True := eq_true (by omega)
   (try rw [show ((0 : Int)).toNat = 0 from rfl] at hx841_0)
   (try rw [show 0 * 4 = 0 from rfl] at hx841_0)
   (try rw [Addr.add_zero'] at hx841_0)
   (try rw [show ((0 : Int)).toNat = 0 from rfl] at hx841_1)
   (try rw [show 0 * 4 = 0 from rfl] at hx841_1)
   (try rw [Addr.add_zero'] at hx841_1)
   (try rw [show ((0 : Int)).toNat = 0 from rfl] at hx841_2)
   (try rw [show 0 * 4 = 0 from rfl] at hx841_2)
   (try rw [Addr.add_zero'] at hx841_2)
   (try rw [show ((0 : Int)).toNat = 0 from rfl] at hx841_3)
   (try rw [show 0 * 4 = 0 from rfl] at hx841_3)
   (try rw [Addr.add_zero'] at hx841_3)
   replace hx841_0 := (HB.out.cell (World.block_lt_of_cell? w _ hx841_0)).trans hx841_0
   replace hx841_1 := (HB.out.cell (World.block_lt_of_cell? w _ hx841_1)).trans hx841_1
   replace hx841_2 := (HB.out.cell (World.block_lt_of_cell? w _ hx841_2)).trans hx841_2
   replace hx841_3 := (HB.out.cell (World.block_lt_of_cell? w _ hx841_3)).trans hx841_3
   replace p841 := eq_true p841
   replace q841 := eq_true q841
   have p842 : 0 ≤ (0 : Int) := (by omega)
   have q842 : 0 < (l0.length : Int) := of_decide_eq_true (by first | (with_reducible assumption) | assumption)
   obtain ⟨ad842, e842, hx842_0, hx842_1, hx842_2, hx842_3⟩ := at_T36 HR0.out 0 p842 q842
   have hw842_3 := hx842_3
   (try rw [show ((0 : Int)).toNat = 0 from rfl] at hw842_3)
   (try rw [show 0 * 4 = 0 from rfl] at hw842_3)
   (try rw [Addr.add_zero'] at hw842_3)
   have hw842_2 := hx842_2
   (try rw [show ((0 : Int)).toNat = 0 from rfl] at hw842_2)
   (try rw [show 0 * 4 = 0 from rfl] at hw842_2)
   (try rw [Addr.add_zero'] at hw842_2)
   have hw842_1 := hx842_1
   (try rw [show ((0 : Int)).toNat = 0 from rfl] at hw842_1)
   (try rw [show 0 * 4 = 0 from rfl] at hw842_1)
   (try rw [Addr.add_zero'] at hw842_1)
   have hw842_0 := hx842_0
   (try rw [show ((0 : Int)).toNat = 0 from rfl] at hw842_0)
   (try rw [show 0 * 4 = 0 from rfl] at hw842_0)
   (try rw [Addr.add_zero'] at hw842_0)
   obtain rfl : ad841 = ad842 := (by injection e842)
   have qi842 : (0 < l0.length) = True := eq_true (by omega)
   (try rw [show ((0 : Int)).toNat = 0 from rfl] at hx842_0)
   (try rw [show 0 * 4 = 0 from rfl] at hx842_0)
   (try rw [Addr.add_zero'] at hx842_0)
   (try rw [show ((0 : Int)).toNat = 0 from rfl] at hx842_1)
   (try rw [show 0 * 4 = 0 from rfl] at hx842_1)
   (try rw [Addr.add_zero'] at hx842_1)
   (try rw [show ((0 : Int)).toNat = 0 from rfl] at hx842_2)
   (try rw [show 0 * 4 = 0 from rfl] at hx842_2)
   (try rw [Addr.add_zero'] at hx842_2)
   (try rw [show ((0 : Int)).toNat = 0 from rfl] at hx842_3)
   (try rw [show 0 * 4 = 0 from rfl] at hx842_3)
   (try rw [Addr.add_zero'] at hx842_3)
   replace hx842_0 := (HB.out.cell (World.block_lt_of_cell? w _ hx842_0)).trans hx842_0
   replace hx842_1 := (HB.out.cell (World.block_lt_of_cell? w _ hx842_1)).trans hx842_1
   replace hx842_2 := (HB.out.cell (World.block_lt_of_cell? w _ hx842_2)).trans hx842_2
   replace hx842_3 := (HB.out.cell (World.block_lt_of_cell? w _ hx842_3)).trans hx842_3
   replace p842 := eq_true p842
   replace q842 := eq_true q842
   refine start_ (n := 15) (S := fun w' => w'.cell? ad841 = some (.int .i64 ((rd_T36 l0 0).f0)) ∧ w'.cell? ⟨ad841.block, ad841.off + 1, none⟩ = some (.int .i64 ((rd_T36 l0 0).f1)) ∧ w'.cell? ⟨ad841.block, ad841.off + 2, none⟩ = some (.int .u32 ((rd_T36 l0 0).f2.f0)) ∧ w'.cell? ⟨ad841.block, ad841.off + 3, none⟩ = some (.int .u32 ((rd_T36 l0 0).f2.f1)) ∧ w'.cell? ad841 = some (.int .i64 ((rd_T36 l0 0).f0)) ∧ w'.cell? ⟨ad841.block, ad841.off + 1, none⟩ = some (.int .i64 ((rd_T36 l0 0).f1)) ∧ w'.cell? ⟨ad841.block, ad841.off + 2, none⟩ = some (.int .u32 ((rd_T36 l0 0).f2.f0)) ∧ w'.cell? ⟨ad841.block, ad841.off + 3, none⟩ = some (.int .u32 ((rd_T36 l0 0).f2.f1))) (ds := []) #[false, false, false, false, false, false, false, false, false, false, false, false, false, false, false] (by kernel_rfl) rfl rfl ⟨((HB.out.cell (World.block_lt_of_cell? w _ hw841_0)).trans hw841_0), ((HB.out.cell (World.block_lt_of_cell? w _ hw841_1)).trans hw841_1), ((HB.out.cell (World.block_lt_of_cell? w _ hw841_2)).trans hw841_2), ((HB.out.cell (World.block_lt_of_cell? w _ hw841_3)).trans hw841_3), ((HB.out.cell (World.block_lt_of_cell? w _ hw842_0)).trans hw842_0), ((HB.out.cell (World.block_lt_of_cell? w _ hw842_1)).trans hw842_1), ((HB.out.cell (World.block_lt_of_cell? w _ hw842_2)).trans hw842_2), ((HB.out.cell (World.block_lt_of_cell? w _ hw842_3)).trans hw842_3)⟩ (fun hHeld => ?_); refine with_tabW pick_takes.tab3 pick_takes.bits3 (fun HT_ HW_ => ?_)
   generalize w.drew = w11 at HB hx841_0 hx841_1 hx841_2 hx841_3 hx842_0 hx842_1 hx842_2 hx842_3 hHeld ⊢
   refine pure_ (i := 0) (N := some 18) (v := ?_) (a' := ?_) #[true, false, false, false, false, false, false, false, false, false, false, false, false, false, false] rfl rfl (any_of HT_.out (by kernel_rfl)) (fun _ _ _ h => h) (Or.inl ⟨by rfl, ?_⟩) ?_ ?_
   rotate_left
   ·intro w'
    go_simp
    with_reducible rfl
   rotate_left
   ·simp only [Act.put, List.setIfInBounds_toArray, List.set_cons_zero, List.set_cons_succ, i64_w, i32_w]
    rfl
   refine pure_ (i := 1) (N := some 19) (v := ?_) (a' := ?_) #[true, true, false, false, false, false, false, false, false, false, false, false, false, false, false] rfl rfl (any_of HT_.out (by kernel_rfl)) (fun _ _ _ h => h) (Or.inl ⟨by rfl, ?_⟩) ?_ ?_
   rotate_left
   ·intro w'
    go_simp
    with_reducible rfl
   rotate_left
   ·simp only [Act.put, List.setIfInBounds_toArray, List.set_cons_zero, List.set_cons_succ, i64_w, i32_w]
    rfl
   refine pure_ (i := 2) (N := some 20) (v := ?_) (a' := ?_) #[true, true, true, false, false, false, false, false, false, false, false, false, false, false, false] rfl rfl (any_of HT_.out (by kernel_rfl)) (fun _ _ _ h => h) (Or.inl ⟨by rfl, ?_⟩) ?_ ?_
   rotate_left
   ·intro w'
    go_simp
    with_reducible rfl
   rotate_left
   ·simp only [Act.put, List.setIfInBounds_toArray, List.set_cons_zero, List.set_cons_succ, i64_w, i32_w]
    rfl
   refine pure_ (i := 4) (N := some 22) (v := ?_) (a' := ?_) #[true, true, true, false, true, false, false, false, false, false, false, false, false, false, false] rfl rfl (any_of HT_.out (by kernel_rfl)) (fun _ _ _ h => h) (Or.inl ⟨by rfl, ?_⟩) ?_ ?_
   rotate_left
   ·intro w'
    go_simp
    with_reducible rfl
   rotate_left
   ·simp only [Act.put, List.setIfInBounds_toArray, List.set_cons_zero, List.set_cons_succ, i64_w, i32_w]
    rfl
   refine pure_ (i := 5) (N := some 23) (v := ?_) (a' := ?_) #[true, true, true, false, true, true, false, false, false, false, false, false, false, false, false] rfl rfl (any_of HT_.out (by kernel_rfl)) (fun _ _ _ h => h) (Or.inl ⟨by rfl, ?_⟩) ?_ ?_
   rotate_left
   ·intro w'
    go_simp
    with_reducible rfl
   rotate_left
   ·simp only [Act.put, List.setIfInBounds_toArray, List.set_cons_zero, List.set_cons_succ, i64_w, i32_w]
    rfl
   refine pure_ (i := 6) (N := some 24) (v := ?_) (a' := ?_) #[true, true, true, false, true, true, true, false, false, false, false, false, false, false, false] rfl rfl (any_of HT_.out (by kernel_rfl)) (fun _ _ _ h => h) (Or.inl ⟨by rfl, ?_⟩) ?_ ?_
   rotate_left
   ·intro w'
    go_simp
    with_reducible rfl
   rotate_left
   ·simp only [Act.put, List.setIfInBounds_toArray, List.set_cons_zero, List.set_cons_succ, i64_w, i32_w]
    rfl
   refine pure_ (i := 7) (N := some 25) (v := ?_) (a' := ?_) #[true, true, true, false, true, true, true, true, false, false, false, false, false, false, false] rfl rfl (any_of HT_.out (by kernel_rfl)) (fun _ _ _ h => h) (Or.inl ⟨by rfl, ?_⟩) ?_ ?_
   rotate_left
   ·intro w'
    go_simp
    with_reducible rfl
   rotate_left
   ·simp only [Act.put, List.setIfInBounds_toArray, List.set_cons_zero, List.set_cons_succ, i64_w, i32_w]
    rfl
   refine take_ (i := 3) (N := some 21) (v := ?_) (a' := ?_) #[true, true, true, true, true, true, true, true, false, false, false, false, false, false, false] rfl rfl (take_ofW HT_.out HW_.out (by kernel_rfl)) (fun _ _ _ h => h) (Or.inl ⟨by rfl, ?_⟩) hHeld ?_ ?_
   rotate_left
   ·rintro w' ⟨s0, s1, s2, s3, s4, s5, s6, s7⟩
    go_simp
    with_reducible rfl
   rotate_left
   ·simp only [Act.put, List.setIfInBounds_toArray, List.set_cons_zero, List.set_cons_succ, i64_w, i32_w]
    rfl
   refine take_ (i := 8) (N := some 26) (v := ?_) (a' := ?_) #[true, true, true, true, true, true, true, true, true, false, false, false, false, false, false] rfl rfl (take_ofW HT_.out HW_.out (by kernel_rfl)) (fun _ _ _ h => h) (Or.inl ⟨by rfl, ?_⟩) hHeld ?_ ?_
   rotate_left
   ·rintro w' ⟨s0, s1, s2, s3, s4, s5, s6, s7⟩
    go_simp
    with_reducible rfl
   rotate_left
   ·simp only [Act.put, List.setIfInBounds_toArray, List.set_cons_zero, List.set_cons_succ, i64_w, i32_w]
    rfl
   refine one_ (i := 9) (N := some 27) #[true, true, true, true, true, true, true, true, true, true, false, false, false, false, false] rfl rfl (one_of HT_.out (by kernel_rfl)) (by decide) (fun K hK => ?_)
   refine goes_ Tryd.func89 (by kernel_rfl) rfl #[.agg #[.int .u32 ((rd_T36 l0 0).f2.f0), .int .u32 ((rd_T36 l0 0).f2.f1)], .int .u32 a1, .int .i64 ((rd_T36 l0 0).f1)] (by rfl) rfl rfl (by (try simp only [List.map_toArray, List.map_cons, List.map_nil]); first | done | rfl | (simp only [List.length_drop, List.length_take]; rfl)) ?_
   with_reducible refine (mask_Best.calls k ((rd_T36 l0 0).f2.f0) ((rd_T36 l0 0).f2.f1) a1 ((rd_T36 l0 0).f1) t843 t844 _ ?tb A10.out).mono ?_
   case tb => exact HT.out.step (by repeat (first | (with_reducible first | exact HB.out | apply below_alloc | apply pw_below_drewN | apply below_drew1) | exact HB.out))
   rintro e w12 ⟨rfl, hb⟩
   refine ⟨_, rfl, ?_⟩
   have n0_ := Aside0.mk (below_step (by repeat (first | (with_reducible first | exact HB.out | apply below_alloc | apply pw_below_drewN | apply below_drew1) | exact HB.out)) hb)
   clear HB
   have HB := n0_
   clear n0_
   (try clear hb)
   (try clear hb2)
   (try clear hk)
   (try clear hi)
   refine hK.out _ _ ⟨((HB.out.cell (World.block_lt_of_cell? w _ hw841_0)).trans hw841_0), ((HB.out.cell (World.block_lt_of_cell? w _ hw841_1)).trans hw841_1), ((HB.out.cell (World.block_lt_of_cell? w _ hw841_2)).trans hw841_2), ((HB.out.cell (World.block_lt_of_cell? w _ hw841_3)).trans hw841_3), ((HB.out.cell (World.block_lt_of_cell? w _ hw842_0)).trans hw842_0), ((HB.out.cell (World.block_lt_of_cell? w _ hw842_1)).trans hw842_1), ((HB.out.cell (World.block_lt_of_cell? w _ hw842_2)).trans hw842_2), ((HB.out.cell (World.block_lt_of_cell? w _ hw842_3)).trans hw842_3)⟩ (fun hHeld => ?_)
   clear hK K
   refine norm_ (a' := ?_) ?_ ?_
   rotate_left
   ·show Act.put _ (some 27) _ = _
    simp only [Act.put, List.setIfInBounds_toArray, List.set_cons_zero, List.set_cons_succ, i64_w, i32_w]
    rfl
   refine pure_ (i := 10) (N := some 17) (v := ?_) (a' := ?_) #[true, true, true, true, true, true, true, true, true, true, true, false, false, false, false] rfl rfl (any_of HT_.out (by kernel_rfl)) (fun _ _ _ h => h) (Or.inl ⟨by rfl, ?_⟩) ?_ ?_
   rotate_left
   ·intro w'
    go_simp
    with_reducible rfl
   rotate_left
   ·simp only [Act.put, List.setIfInBounds_toArray, List.set_cons_zero, List.set_cons_succ, i64_w, i32_w]
    rfl
   refine pure_ (i := 11) (N := some 28) (v := ?_) (a' := ?_) #[true, true, true, true, true, true, true, true, true, true, true, true, false, false, false] rfl rfl (any_of HT_.out (by kernel_rfl)) (fun _ _ _ h => h) (Or.inl ⟨by rfl, ?_⟩) ?_ ?_
   rotate_left
   ·intro w'
    go_simp
    with_reducible rfl
   rotate_left
   ·simp only [Act.put, List.setIfInBounds_toArray, List.set_cons_zero, List.set_cons_succ, i64_w, i32_w]
    rfl
   refine pure_ (i := 12) (N := some 29) (v := ?_) (a' := ?_) #[true, true, true, true, true, true, true, true, true, true, true, true, true, false, false] rfl rfl (any_of HT_.out (by kernel_rfl)) (fun _ _ _ h => h) (Or.inl ⟨by rfl, ?_⟩) ?_ ?_
   rotate_left
   ·intro w'
    go_simp
    with_reducible rfl
   rotate_left
   ·simp only [Act.put, List.setIfInBounds_toArray, List.set_cons_zero, List.set_cons_succ, i64_w, i32_w]
    rfl
   refine pure_ (i := 13) (N := some 6) (v := ?_) (a' := ?_) #[true, true, true, true, true, true, true, true, true, true, true, true, true, true, false] rfl rfl (any_of HT_.out (by kernel_rfl)) (fun _ _ _ h => h) (Or.inl ⟨by rfl, ?_⟩) ?_ ?_
   rotate_left
   ·intro w'
    go_simp
    with_reducible rfl
   rotate_left
   ·simp only [Act.put, List.setIfInBounds_toArray, List.set_cons_zero, List.set_cons_succ, i64_w, i32_w]
    rfl
   refine pure_ (i := 14) (N := some 7) (v := ?_) (a' := ?_) #[true, true, true, true, true, true, true, true, true, true, true, true, true, true, true] rfl rfl (any_of HT_.out (by kernel_rfl)) (fun _ _ _ h => h) (Or.inl ⟨by rfl, ?_⟩) ?_ ?_
   rotate_left
   ·intro w'
    go_simp
    with_reducible rfl
   rotate_left
   ·simp only [Act.put, List.setIfInBounds_toArray, List.set_cons_zero, List.set_cons_succ, i64_w, i32_w]
    rfl
   refine done_ (done_of HT_.out (by kernel_rfl)) ?_
   try go_wp2_with (first | ((with_reducible refine gate_dst (N := 31) rfl ?_); refine Kd.R_lit (Kd.int .i64) _ 3 ?hg (N := 31) ?hd (xs := ([t843] : List Int)) (inner := [.int .i64 t843]) (ok := fun _ => True) (okp := fun _ => True) ?hr ?hp (fun _ hk => hk) trivial (Below.refl _ _) (Nat.le_refl _) (by simp) ?_; (case hd => rfl); (case hg => rfl); (case hr => first | (go_simp; done) | (go_simp; rfl)); (case hp => exact (Reps.one (show Kd.M (Kd.int .i64) _ _ _ t843 [.int .i64 t843] from rfl) (Reps.none _ _))); intro v846 w13 ho14 hb hg_ hnew_; clear hg_ hnew_; (first | rw [← Ny845.out] at ho14 | (simp only [Int.reduceToNat] at ho14; rw [← Ny845.out] at ho14)); have n0_ := Aside0.mk (Kd.R_lower ho14 (below_size (by repeat (first | (with_reducible first | exact HB.out | apply below_alloc | apply pw_below_drewN | apply below_drew1) | exact HB.out)))); have n1_ := Aside0.mk (below_step (by repeat (first | (with_reducible first | exact HB.out | apply below_alloc | apply pw_below_drewN | apply below_drew1) | exact HB.out)) hb); clear HB; have HO847 := n0_; have HB := n1_; clear n0_ n1_; clear hb ho14))
   go_ret2
   exact ⟨_, by first | rfl | (simp [errW_none, errW_some] <;> rfl) | (simp [*, errW_none, errW_some] <;> rfl), by (with_reducible repeat (first | apply Kd.R_alloc | apply Kd.R_drewN | apply Kd.R_drew)); exact HO847.out, by repeat (first | (with_reducible first | exact HB.out | apply below_alloc | apply pw_below_drewN | apply below_drew1) | exact HB.out)⟩
  ·rw [if_neg c9] at H
   exact absurd H (by simp)

end Go.Proofs.YtdmieaidheelbaaDoor.Q
end
/- QFpickwishes -/
section
namespace Go.Proofs.YtdmieaidheelbaaDoor.Q
open Go.RowKit Go.Proofs.YtdmieaidheelbaaDoorW.PrintWords Go.Proofs.YtdmieaidheelbaaDoorW.PrintLast Go.Proofs.YtdmieaidheelbaaDoorW.PrintMore
attribute [local go_sem] max2_int min2_int max_two min_two max_three min_three max_four min_four
set_option linter.unusedVariables false
set_option linter.unusedSimpArgs false

def pick_wishes.l0 : Nat → List Int → List (S36) → List (S36) → Int → Int → Option ((List (S36)))
 | 0, _, _, _, _, _ => none
 | k + 1, x1, x5, x8, x9, x10 => if x10 < x9 then (if 0 ≤ x10 then (if x10 < (x8.length : Int) then ((slices_Contains_int_int.f k x1 ((rd_T36 x8 x10).f0)).bind fun t357 => (if t357 = true then (if x5.length < 5864062014805 then (pick_wishes.l0 k x1 (x5 ++ [(⟨(rd_T36 x8 x10).f0, (rd_T36 x8 x10).f1, (⟨(rd_T36 x8 x10).f2.f0, (rd_T36 x8 x10).f2.f1⟩ : S34)⟩ : S36)]) x8 x9 (wrap64 (x10 + 1))) else (none)) else (pick_wishes.l0 k x1 x5 x8 x9 (wrap64 (x10 + 1))))) else (none)) else (none)) else (some x5)
def pick_wishes.f (k : Nat) (l0 : List (S36)) (l1 : List Int) : Option ((List (S36))) := pick_wishes.l0 k l1 ([] : List (S36)) l0 (l0.length : Int) 0
set_option maxHeartbeats 8000000 in
set_option maxRecDepth 100000 in
theorem pick_wishes.calls (k : Nat) (A0 : Option Addr) (c0 : Nat) (l0 : List (S36)) (A1 : Option Addr) (c1 : Nat) (l1 : List Int) (r : List (S36)) (w : World) (hr0 : Kd.C k36 w A0 l0.length l0) (hc0 : l0.length ≤ c0) (hr1 : Kd.C (Kd.int .i64) w A1 l1.length l1) (hc1 : l1.length ≤ c1) (h : pick_wishes.f k l0 l1 = some r) :
  Calls Tryd.prog 67 #[.slice A0 l0.length c0, .slice A1 l1.length c1] w fun e w' => ∃ v0_ : Value, e = .returned (v0_) ∧ Kd.R k36 36 w' w.heap.size (fun _ => True) v0_ r ∧ Below w.heap.size w w' := by
 have hu36 := Tryd.underlying36
 have HR0 := Aside0.mk hr0
 have HC0 := Aside0.mk hc0
 clear hr0 hc0
 have HR1 := Aside0.mk hr1
 have HC1 := Aside0.mk hc1
 clear hr1 hc1
 have HB := Aside0.mk (Below.refl w.heap.size w)
 have H : (pick_wishes.l0 k l1 ([] : List (S36)) l0 (l0.length : Int) 0) = some r := h
 clear h
 have H' := Aside0.mk H
 clear H
 go_enter Tryd.func67, Tryd.ntmps67
 go_wp2
 go_loopg [5, 10] k (fun kq v5 v10 w' => ∃ (x5_1 : List (S36)) (x10_1 : Int), v10 = .int .i64 x10_1 ∧ Aside0 (pick_wishes.l0 kq l1 x5_1 l0 (l0.length : Int) x10_1 = some r) ∧ Aside0 (kq ≤ k) ∧ Aside0 (Kd.R k36 36 w' w.heap.size (fun _ => True) v5 x5_1) ∧ Aside0 (Below w.heap.size w w'))
 case atStart => exact ⟨(([] : List (S36))), (0), (by first | rfl | (simp; done) | (simp [*]; done)), H', ⟨Nat.le_refl _⟩, ⟨by first | exact Kd.R_nil _ _ _ _ _ | exact Kd.N_nil _ _ _ _ _ | exact Kd.V_nil _ _ _ _ _ | exact Kd.Q_nil _ _ _ _ _ | exact Kd.S_nil _ _ _ _ _⟩, ⟨by repeat (first | (with_reducible first | exact HB.out | apply below_alloc | apply pw_below_drewN | apply below_drew1) | exact HB.out)⟩⟩
 case round =>
  clear H'
  try clear c1
  try clear p2
  obtain ⟨x5_1, x10_1, rfl, HA, HK1, HO_5, HB⟩ := hrel
  cases gk with
  | zero => exact absurd HA.out (by simp [pick_wishes.l0])
  | succ k1 =>
   have H := HA.out
   clear HA
   simp only [pick_wishes.l0] at H
   by_cases c3 : x10_1 < (l0.length : Int)
   ·rw [if_pos c3] at H
    have c3b0 : decide (x10_1 < (l0.length : Int)) = true := decide_eq_true c3
    clear c3
    by_cases c4 : 0 ≤ x10_1
    ·rw [if_pos c4] at H
     have c4b0 : decide (0 ≤ x10_1) = true := decide_eq_true c4
     clear c4
     by_cases c5 : x10_1 < (l0.length : Int)
     ·rw [if_pos c5] at H
      have c5b0 : decide (x10_1 < (l0.length : Int)) = true := decide_eq_true c5
      clear c5
      replace H := Option.bind_eq_some_iff.mp H
      obtain ⟨t357, A60, H⟩ := H
      replace H : (if t357 = true then (if x5_1.length < 5864062014805 then (pick_wishes.l0 k1 l1 (x5_1 ++ [(⟨(rd_T36 l0 x10_1).f0, (rd_T36 l0 x10_1).f1, (⟨(rd_T36 l0 x10_1).f2.f0, (rd_T36 l0 x10_1).f2.f1⟩ : S34)⟩ : S36)]) l0 (l0.length : Int) (wrap64 (x10_1 + 1))) else (none)) else (pick_wishes.l0 k1 l1 x5_1 l0 (l0.length : Int) (wrap64 (x10_1 + 1)))) = some r := H
      have A6 := Aside0.mk A60
      clear A60
      by_cases c7 : t357 = true
      ·subst c7
       have H1 : (if x5_1.length < 5864062014805 then (pick_wishes.l0 k1 l1 (x5_1 ++ [(⟨(rd_T36 l0 x10_1).f0, (rd_T36 l0 x10_1).f1, (⟨(rd_T36 l0 x10_1).f2.f0, (rd_T36 l0 x10_1).f2.f1⟩ : S34)⟩ : S36)]) l0 (l0.length : Int) (wrap64 (x10_1 + 1))) else (none)) = some r := by rw [if_pos rfl] at H; exact H
       clear H
       have H := H1
       clear H1
       by_cases c8 : x5_1.length < 5864062014805
       ·rw [if_pos c8] at H
        have LMc8 := Aside0.mk c8
        clear c8
        obtain ⟨y358, hy358⟩ : ∃ y_ : List (S36), y_ = (x5_1 ++ [(⟨(rd_T36 l0 x10_1).f0, (rd_T36 l0 x10_1).f1, (⟨(rd_T36 l0 x10_1).f2.f0, (rd_T36 l0 x10_1).f2.f1⟩ : S34)⟩ : S36)]) := ⟨_, rfl⟩
        replace H : (pick_wishes.l0 k1 l1 y358 l0 (l0.length : Int) (wrap64 (x10_1 + 1))) = some r := by first | (rw [hy358]; with_reducible exact H) | (have H2_ := (Option.bind_some _ _).symm.trans H; rw [hy358]; with_reducible exact H2_) | (have H2_ := (Option.bind_some _ _).symm.trans H; with_reducible exact H2_) | with_reducible exact H | (rw [hy358]; exact H) | exact H
        have Ny358 := Aside0.mk hy358
        clear hy358
        have H' := Aside0.mk H
        clear H
        have p355 : 0 ≤ (x10_1 : Int) := of_decide_eq_true (by first | (with_reducible assumption) | assumption)
        have q355 : x10_1 < (l0.length : Int) := of_decide_eq_true (by first | (with_reducible assumption) | assumption)
        obtain ⟨ad355, e355, hx355_0, hx355_1, hx355_2, hx355_3⟩ := at_T36 HR0.out x10_1 p355 q355
        cases e355
        replace hx355_0 := (HB.out.cell (World.block_lt_of_cell? w _ hx355_0)).trans hx355_0
        replace hx355_1 := (HB.out.cell (World.block_lt_of_cell? w _ hx355_1)).trans hx355_1
        replace hx355_2 := (HB.out.cell (World.block_lt_of_cell? w _ hx355_2)).trans hx355_2
        replace hx355_3 := (HB.out.cell (World.block_lt_of_cell? w _ hx355_3)).trans hx355_3
        replace p355 := eq_true p355
        replace q355 := eq_true q355
        go_wp2_with (first | ((with_reducible refine gate_dst (N := 7) rfl ?_); refine box_event ?hg (N := 7) ?hd (cs := #[.int .i64 0, .int .i64 0, .int .u32 0, .int .u32 0]) (t := 36) ?hr ?_; (case hd => rfl); (case hg => rfl); (case hr => first | (go_simp; done) | (go_simp; rfl)); intro gb356 hg w9 hbox hb; have n0_ := Aside0.mk (Kd.R_below (Kd.R_elderB (by (with_reducible repeat (first | apply Kd.R_alloc | apply Kd.R_drewN | apply Kd.R_drew)); exact HO_5.out) gb356 (Nat.le_of_eq hg.symm)) hb); have n1_ := Aside0.mk (below_step (by repeat (first | (with_reducible first | exact HB.out | apply below_alloc | apply pw_below_drewN | apply below_drew1) | exact HB.out)) hb); have n2_ := Aside0.mk (hbox); have n3_ := Aside0.mk ((by rw [hg]; exact (below_size (by repeat (first | (with_reducible first | exact HB.out | apply below_alloc | apply pw_below_drewN | apply below_drew1) | exact HB.out))) : w.heap.size ≤ gb356)); have n4_ := Aside0.mk ((by rw [hg]; exact (below_size (by repeat (first | (with_reducible first | exact HB.out | apply below_alloc | apply pw_below_drewN | apply below_drew1) | exact HB.out))) : w.heap.size ≤ gb356)); clear HO_5; clear HB; have HO_5 := n0_; have HB := n1_; have BK356 := n2_; have GW356 := n3_; have GE356 := n4_; clear n0_ n1_ n2_ n3_ n4_; clear hb hbox hg; have hcz10_0 : w9.cell? ⟨gb356, 0, none⟩ = some (.int .i64 0) := (blk_cell BK356.out 0).trans rfl; have hcz10_1 : w9.cell? ⟨gb356, 1, none⟩ = some (.int .i64 0) := (blk_cell BK356.out 1).trans rfl; have hcz10_2 : w9.cell? ⟨gb356, 2, none⟩ = some (.int .u32 0) := (blk_cell BK356.out 2).trans rfl; have hcz10_3 : w9.cell? ⟨gb356, 3, none⟩ = some (.int .u32 0) := (blk_cell BK356.out 3).trans rfl; have hfz10_0 := blk_frozen BK356.out 0; have hfz10_1 := blk_frozen BK356.out 1; have hfz10_2 := blk_frozen BK356.out 2; have hfz10_3 := blk_frozen BK356.out 3) | ((with_reducible refine gate_callee (f := 93) rfl ?_); refine goesL_ (some 17) rfl rfl Tryd.func93 (by kernel_rfl) rfl #[.slice A1 l1.length c1, .int .i64 ((rd_T36 l0 x10_1).f0)] rfl (by (try simp only [List.map_toArray, List.map_cons, List.map_nil]); first | done | rfl | (simp only [List.length_drop, List.length_take]; rfl)) ?_; (with_reducible refine (slices_Contains_int_int.calls k1 _ _ l1 ((rd_T36 l0 x10_1).f0) true _ ?side1 ?side2 A6.out).mono ?_); (case side1 => exact Kd.C_below HR1.out (by repeat (first | (with_reducible first | exact HB.out | apply below_alloc | apply pw_below_drewN | apply below_drew1 | refine below_set ?_ GE356.out) | exact HB.out))); (case side2 => exact HC1.out); rintro e w' ⟨rfl, ⟨nd, rfl⟩⟩; refine ⟨_, rfl, ?_⟩) | ((with_reducible refine gate_builtin (b := .append) (xs := #[.tmp 18, .tmp 20]) rfl ?_); at_builtin; refine Kd.R_append k36 (w0 := w) w.heap.size rfl (.tmp 18) (.tmp 20) 22 36 (.agg #[(.int .i64 0), (.int .i64 0), (.int .u32 0), (.int .u32 0)]) 24 rfl Tryd.underlying22 info36 rfl (by decide) (by omega) u5 x5_1 (⟨(rd_T36 l0 x10_1).f0, (rd_T36 l0 x10_1).f1, (⟨(rd_T36 l0 x10_1).f2.f0, (rd_T36 l0 x10_1).f2.f1⟩ : S34)⟩ : S36) [.int .i64 ((rd_T36 l0 x10_1).f0), .int .i64 ((rd_T36 l0 x10_1).f1), .int .u32 ((rd_T36 l0 x10_1).f2.f0), .int .u32 ((rd_T36 l0 x10_1).f2.f1)] (fun k_ => k_ ≠ gb356) (fun _ => False) rfl (by first | (go_simp; done) | (go_simp; rfl)) ?aP (fun _ hk => hk.elim) ?aF ?aO ?aB ?aS ?aL ?_; (case aP => exact k36_mkM _ _ _ (⟨(rd_T36 l0 x10_1).f0, (rd_T36 l0 x10_1).f1, (⟨(rd_T36 l0 x10_1).f2.f0, (rd_T36 l0 x10_1).f2.f1⟩ : S34)⟩ : S36)); (case aB => exact (by repeat (first | (with_reducible first | exact HB.out | apply below_alloc | apply pw_below_drewN | apply below_drew1 | refine below_set ?_ GE356.out) | exact HB.out))); (case aF => exact (fun k_ hk => Kd.freshB (g := gb356) (o := .cells #[.int .i64 ((rd_T36 l0 x10_1).f0), .int .i64 ((rd_T36 l0 x10_1).f1), .int .u32 ((rd_T36 l0 x10_1).f2.f0), .int .u32 ((rd_T36 l0 x10_1).f2.f1)] 36 (0, 0)) (by (with_reducible repeat (first | refine blk_drewN ?_ _ | refine blk_drew ?_ | refine blk_alloc ?_ _)); refine blk_put (cs := #[.int .i64 ((rd_T36 l0 x10_1).f0), .int .i64 ((rd_T36 l0 x10_1).f1), .int .u32 ((rd_T36 l0 x10_1).f2.f0), .int .u32 0]) ?_ 3 _ rfl; (with_reducible repeat (first | refine blk_drewN ?_ _ | refine blk_drew ?_ | refine blk_alloc ?_ _)); refine blk_put (cs := #[.int .i64 ((rd_T36 l0 x10_1).f0), .int .i64 ((rd_T36 l0 x10_1).f1), .int .u32 0, .int .u32 0]) ?_ 2 _ rfl; (with_reducible repeat (first | refine blk_drewN ?_ _ | refine blk_drew ?_ | refine blk_alloc ?_ _)); refine blk_put (cs := #[.int .i64 ((rd_T36 l0 x10_1).f0), .int .i64 0, .int .u32 0, .int .u32 0]) ?_ 1 _ rfl; (with_reducible repeat (first | refine blk_drewN ?_ _ | refine blk_drew ?_ | refine blk_alloc ?_ _)); refine blk_put (cs := #[.int .i64 0, .int .i64 0, .int .u32 0, .int .u32 0]) ?_ 0 _ rfl; (with_reducible repeat (first | refine blk_drewN ?_ _ | refine blk_drew ?_ | refine blk_alloc ?_ _)); exact BK356.out) k_ hk)); (case aO => exact (by (with_reducible repeat (first | apply Kd.R_alloc | apply Kd.R_drewN | apply Kd.R_drew)); exact Kd.R_mono (Kd.R_far (p := ⟨gb356, 3, none⟩) (Kd.R_far (p := ⟨gb356, 2, none⟩) (Kd.R_far (p := ⟨gb356, 1, none⟩) (Kd.R_far (p := ⟨gb356, 0, none⟩) (Kd.R_mono HO_5.out (fun k_ hk => (⟨hk, hk.2⟩ : _ ∧ k_ ≠ gb356))) (fun _ hk => hk.2) (.int .i64 ((rd_T36 l0 x10_1).f0))) (fun _ hk => hk.2) (.int .i64 ((rd_T36 l0 x10_1).f1))) (fun _ hk => hk.2) (.int .u32 ((rd_T36 l0 x10_1).f2.f0))) (fun _ hk => hk.2) (.int .u32 ((rd_T36 l0 x10_1).f2.f1))) (fun _ hk => hk.1.2))); (case aS => exact (below_size (by repeat (first | (with_reducible first | exact HB.out | apply below_alloc | apply pw_below_drewN | apply below_drew1 | refine below_set ?_ GE356.out) | exact HB.out)))); (case aL => have := LMc8.out; omega); intro v359 w11 ho hb hg hat; rw [← Ny358.out] at ho; have n0_ := Aside0.mk (blk_grown (g := gb356) (o := .cells #[.int .i64 ((rd_T36 l0 x10_1).f0), .int .i64 ((rd_T36 l0 x10_1).f1), .int .u32 ((rd_T36 l0 x10_1).f2.f0), .int .u32 ((rd_T36 l0 x10_1).f2.f1)] 36 (0, 0)) (by (with_reducible repeat (first | refine blk_drewN ?_ _ | refine blk_drew ?_ | refine blk_alloc ?_ _)); refine blk_put (cs := #[.int .i64 ((rd_T36 l0 x10_1).f0), .int .i64 ((rd_T36 l0 x10_1).f1), .int .u32 ((rd_T36 l0 x10_1).f2.f0), .int .u32 0]) ?_ 3 _ rfl; (with_reducible repeat (first | refine blk_drewN ?_ _ | refine blk_drew ?_ | refine blk_alloc ?_ _)); refine blk_put (cs := #[.int .i64 ((rd_T36 l0 x10_1).f0), .int .i64 ((rd_T36 l0 x10_1).f1), .int .u32 0, .int .u32 0]) ?_ 2 _ rfl; (with_reducible repeat (first | refine blk_drewN ?_ _ | refine blk_drew ?_ | refine blk_alloc ?_ _)); refine blk_put (cs := #[.int .i64 ((rd_T36 l0 x10_1).f0), .int .i64 0, .int .u32 0, .int .u32 0]) ?_ 1 _ rfl; (with_reducible repeat (first | refine blk_drewN ?_ _ | refine blk_drew ?_ | refine blk_alloc ?_ _)); refine blk_put (cs := #[.int .i64 0, .int .i64 0, .int .u32 0, .int .u32 0]) ?_ 0 _ rfl; (with_reducible repeat (first | refine blk_drewN ?_ _ | refine blk_drew ?_ | refine blk_alloc ?_ _)); exact BK356.out) hg (Kd.R_away HO_5.out (fun _ hk => hk.2))); have n1_ := Aside0.mk (hb); have n2_ := Aside0.mk (ho); clear BK356; clear HB; clear HO_5; have BK356 := n0_; have HB := n1_; have HO360 := n2_; clear n0_ n1_ n2_; clear ho hb hg hat))
        go_roundg k1
        case measure => have := HK1.out; omega
        case rel => exact ⟨(y358), (wrap64 (x10_1 + 1)), (by first | rfl | (simp; done) | (simp [*]; done)), H', ⟨by have := HK1.out; omega⟩, ⟨by (with_reducible repeat (first | apply Kd.R_alloc | apply Kd.R_drewN | apply Kd.R_drew)); exact Kd.R_mono HO360.out (fun _ hk => trivial)⟩, ⟨by repeat (first | (with_reducible first | exact HB.out | apply below_alloc | apply pw_below_drewN | apply below_drew1 | refine below_set ?_ GE356.out) | exact HB.out)⟩⟩
       ·rw [if_neg c8] at H
        exact absurd H (by simp)
      ·replace c7 := Bool.eq_false_iff.mpr c7
       subst c7
       have H1 : (pick_wishes.l0 k1 l1 x5_1 l0 (l0.length : Int) (wrap64 (x10_1 + 1))) = some r := by rw [if_neg (show ¬ (false = true) by decide)] at H; exact H
       clear H
       have H := H1
       clear H1
       have H' := Aside0.mk H
       clear H
       have p355 : 0 ≤ (x10_1 : Int) := of_decide_eq_true (by first | (with_reducible assumption) | assumption)
       have q355 : x10_1 < (l0.length : Int) := of_decide_eq_true (by first | (with_reducible assumption) | assumption)
       obtain ⟨ad355, e355, hx355_0, hx355_1, hx355_2, hx355_3⟩ := at_T36 HR0.out x10_1 p355 q355
       cases e355
       replace hx355_0 := (HB.out.cell (World.block_lt_of_cell? w _ hx355_0)).trans hx355_0
       replace hx355_1 := (HB.out.cell (World.block_lt_of_cell? w _ hx355_1)).trans hx355_1
       replace hx355_2 := (HB.out.cell (World.block_lt_of_cell? w _ hx355_2)).trans hx355_2
       replace hx355_3 := (HB.out.cell (World.block_lt_of_cell? w _ hx355_3)).trans hx355_3
       replace p355 := eq_true p355
       replace q355 := eq_true q355
       go_wp2_with (first | ((with_reducible refine gate_dst (N := 7) rfl ?_); refine box_event ?hg (N := 7) ?hd (cs := #[.int .i64 0, .int .i64 0, .int .u32 0, .int .u32 0]) (t := 36) ?hr ?_; (case hd => rfl); (case hg => rfl); (case hr => first | (go_simp; done) | (go_simp; rfl)); intro gb356 hg w12 hbox hb; have n0_ := Aside0.mk (Kd.R_below (Kd.R_elderB (by (with_reducible repeat (first | apply Kd.R_alloc | apply Kd.R_drewN | apply Kd.R_drew)); exact HO_5.out) gb356 (Nat.le_of_eq hg.symm)) hb); have n1_ := Aside0.mk (below_step (by repeat (first | (with_reducible first | exact HB.out | apply below_alloc | apply pw_below_drewN | apply below_drew1) | exact HB.out)) hb); have n2_ := Aside0.mk (hbox); have n3_ := Aside0.mk ((by rw [hg]; exact (below_size (by repeat (first | (with_reducible first | exact HB.out | apply below_alloc | apply pw_below_drewN | apply below_drew1) | exact HB.out))) : w.heap.size ≤ gb356)); have n4_ := Aside0.mk ((by rw [hg]; exact (below_size (by repeat (first | (with_reducible first | exact HB.out | apply below_alloc | apply pw_below_drewN | apply below_drew1) | exact HB.out))) : w.heap.size ≤ gb356)); clear HO_5; clear HB; have HO_5 := n0_; have HB := n1_; have BK356 := n2_; have GW356 := n3_; have GE356 := n4_; clear n0_ n1_ n2_ n3_ n4_; clear hb hbox hg; have hcz13_0 : w12.cell? ⟨gb356, 0, none⟩ = some (.int .i64 0) := (blk_cell BK356.out 0).trans rfl; have hcz13_1 : w12.cell? ⟨gb356, 1, none⟩ = some (.int .i64 0) := (blk_cell BK356.out 1).trans rfl; have hcz13_2 : w12.cell? ⟨gb356, 2, none⟩ = some (.int .u32 0) := (blk_cell BK356.out 2).trans rfl; have hcz13_3 : w12.cell? ⟨gb356, 3, none⟩ = some (.int .u32 0) := (blk_cell BK356.out 3).trans rfl; have hfz13_0 := blk_frozen BK356.out 0; have hfz13_1 := blk_frozen BK356.out 1; have hfz13_2 := blk_frozen BK356.out 2; have hfz13_3 := blk_frozen BK356.out 3) | ((with_reducible refine gate_callee (f := 93) rfl ?_); refine goesL_ (some 17) rfl rfl Tryd.func93 (by kernel_rfl) rfl #[.slice A1 l1.length c1, .int .i64 ((rd_T36 l0 x10_1).f0)] rfl (by (try simp only [List.map_toArray, List.map_cons, List.map_nil]); first | done | rfl | (simp only [List.length_drop, List.length_take]; rfl)) ?_; (with_reducible refine (slices_Contains_int_int.calls k1 _ _ l1 ((rd_T36 l0 x10_1).f0) false _ ?side1 ?side2 A6.out).mono ?_); (case side1 => exact Kd.C_below HR1.out (by repeat (first | (with_reducible first | exact HB.out | apply below_alloc | apply pw_below_drewN | apply below_drew1 | refine below_set ?_ GE356.out) | exact HB.out))); (case side2 => exact HC1.out); rintro e w' ⟨rfl, ⟨nd, rfl⟩⟩; refine ⟨_, rfl, ?_⟩))
       go_roundg k1
       case measure => have := HK1.out; omega
       case rel => exact ⟨(x5_1), (wrap64 (x10_1 + 1)), (by first | rfl | (simp; done) | (simp [*]; done)), H', ⟨by have := HK1.out; omega⟩, ⟨by (with_reducible repeat (first | apply Kd.R_alloc | apply Kd.R_drewN | apply Kd.R_drew)); exact Kd.R_mono (Kd.R_far (p := ⟨gb356, 3, none⟩) (Kd.R_far (p := ⟨gb356, 2, none⟩) (Kd.R_far (p := ⟨gb356, 1, none⟩) (Kd.R_far (p := ⟨gb356, 0, none⟩) (Kd.R_mono HO_5.out (fun k_ hk => (⟨hk, hk.2⟩ : _ ∧ k_ ≠ gb356))) (fun _ hk => hk.2) (.int .i64 ((rd_T36 l0 x10_1).f0))) (fun _ hk => hk.2) (.int .i64 ((rd_T36 l0 x10_1).f1))) (fun _ hk => hk.2) (.int .u32 ((rd_T36 l0 x10_1).f2.f0))) (fun _ hk => hk.2) (.int .u32 ((rd_T36 l0 x10_1).f2.f1))) (fun _ hk => trivial)⟩, ⟨by repeat (first | (with_reducible first | exact HB.out | apply below_alloc | apply pw_below_drewN | apply below_drew1 | refine below_set ?_ GE356.out) | exact HB.out)⟩⟩
     ·rw [if_neg c5] at H
      exact absurd H (by simp)
    ·rw [if_neg c4] at H
     exact absurd H (by simp)
   ·rw [if_neg c3] at H
    have c3b0 : decide (x10_1 < (l0.length : Int)) = false := decide_eq_false c3
    clear c3
    obtain rfl := Option.some.inj H
    go_wp2
    go_ret
    exact ⟨_, by first | rfl | (simp [errW_none, errW_some] <;> rfl) | (simp [*, errW_none, errW_some] <;> rfl), by (with_reducible repeat (first | apply Kd.R_alloc | apply Kd.R_drewN | apply Kd.R_drew)); exact HO_5.out, by repeat (first | (with_reducible first | exact HB.out | apply below_alloc | apply pw_below_drewN | apply below_drew1) | exact HB.out)⟩

end Go.Proofs.YtdmieaidheelbaaDoor.Q
end
/- PickVals -/
section
/- What the functions that pick hands its work to answer: over lists and numbers alone. -/
namespace Go.Proofs.YtdmieaidheelbaaDoor.Q
open Go Go.RowKit Go.Proofs.YtdmieaidheelbaaDoorW.PrintWords Go.Proofs.YtdmieaidheelbaaDoorW.PrintLast Go.Proofs.YtdmieaidheelbaaDoorW.PrintMore
set_option linter.unusedVariables false
set_option linter.unusedSimpArgs false

theorem w64 (n : Int) (h0 : 0 ≤ n) (h1 : n ≤ 1000000000) : wrap64 n = n := wrap_small n (by omega) (by omega)
theorem rd_eq (xs : List Int) (i : Nat) (h : i < xs.length) : rd xs (i : Int) = xs[i] := by simp [rd, h]
theorem rd36_eq (xs : List S36) (i : Nat) (h : i < xs.length) : rd_T36 xs (i : Int) = xs[i] := by simp [rd_T36, h]
theorem rdL7_eq (xs : List (List Int)) (i : Nat) (h : i < xs.length) : rd_L7 xs (i : Int) = xs[i] := by simp [rd_L7, h]

theorem index_loop (xs : List Int) (v : Int) (hl : xs.length ≤ 1000000) (d : Nat) : ∀ (k i : Nat), i + d = xs.length → d < k → ∃ r, slices_Index_int_int.l0 k xs v (xs.length : Int) (i : Int) = some r ∧ decide (r ≥ 0) = decide (v ∈ xs.drop i) := by
  induction d with
  | zero =>
    intro k i hi hk
    obtain ⟨k, rfl⟩ : ∃ m, k = m + 1 := ⟨k - 1, by omega⟩
    refine ⟨-1, by rw [slices_Index_int_int.l0, if_neg (by omega)], ?_⟩
    rw [List.drop_eq_nil_of_le (by omega)]; simp
  | succ d ih =>
    intro k i hi hk
    obtain ⟨k, rfl⟩ : ∃ m, k = m + 1 := ⟨k - 1, by omega⟩
    have hlt : i < xs.length := by omega
    rw [List.drop_eq_getElem_cons hlt]
    by_cases e : v = xs[i]
    · refine ⟨(i : Int), by rw [slices_Index_int_int.l0, if_pos (by omega), if_pos (by omega), if_pos (by omega), rd_eq _ _ hlt, if_pos e], ?_⟩
      rw [decide_eq_true (by omega), decide_eq_true (by rw [e]; exact List.mem_cons_self)]
    · obtain ⟨r, hr, hq⟩ := ih k (i + 1) (by omega) (by omega)
      refine ⟨r, ?_, ?_⟩
      · rw [slices_Index_int_int.l0, if_pos (by omega), if_pos (by omega), if_pos (by omega), rd_eq _ _ hlt, if_neg e, w64 _ (by omega) (by omega), show (i : Int) + 1 = ((i + 1 : Nat) : Int) by omega]
        exact hr
      · rw [hq]
        congr 1
        exact propext ⟨fun h => List.mem_cons_of_mem _ h, fun h => (List.mem_cons.1 h).resolve_left e⟩
theorem Contains_val (xs : List Int) (v : Int) (hl : xs.length ≤ 1000000) (k : Nat) (hk : xs.length < k) : slices_Contains_int_int.f k xs v = some (decide (v ∈ xs)) := by
  obtain ⟨r, hr, hq⟩ := index_loop xs v hl xs.length k 0 (by omega) hk
  unfold slices_Contains_int_int.f slices_Index_int_int.f
  rw [show (0 : Int) = ((0 : Nat) : Int) from rfl, hr, Option.bind_some]
  rw [List.drop_zero] at hq
  exact congrArg some hq

def wishesN (w : List S36) (ms : List Int) : List S36 := w.filter fun x => decide (x.f0 ∈ ms)
theorem wishes_loop (w : List S36) (ms : List Int) (hl : w.length ≤ 1000000) (hm : ms.length ≤ 1000000) (d : Nat) : ∀ (k i : Nat) (acc : List S36), i + d = w.length → acc.length ≤ i → d + ms.length < k →
    pick_wishes.l0 k ms acc w (w.length : Int) (i : Int) = some (acc ++ wishesN (w.drop i) ms) := by
  induction d with
  | zero =>
    intro k i acc hi ha hk
    obtain ⟨k, rfl⟩ : ∃ m, k = m + 1 := ⟨k - 1, by omega⟩
    rw [pick_wishes.l0, if_neg (by omega), List.drop_eq_nil_of_le (by omega)]; simp [wishesN]
  | succ d ih =>
    intro k i acc hi ha hk
    obtain ⟨k, rfl⟩ : ∃ m, k = m + 1 := ⟨k - 1, by omega⟩
    have hlt : i < w.length := by omega
    rw [pick_wishes.l0, if_pos (by omega), if_pos (by omega), if_pos (by omega), rd36_eq _ _ hlt, Contains_val _ _ hm _ (by omega), Option.bind_some, List.drop_eq_getElem_cons hlt, wishesN, List.filter_cons, w64 _ (by omega) (by omega), show (i : Int) + 1 = ((i + 1 : Nat) : Int) by omega]
    by_cases e : w[i].f0 ∈ ms
    · rw [if_pos (by simpa using e), if_pos (by omega), ih k (i + 1) _ (by omega) (by simp; omega) (by omega), if_pos (by simpa using e)]
      simp [wishesN]
    · rw [if_neg (by simpa using e), ih k (i + 1) _ (by omega) (by omega) (by omega), if_neg (by simpa using e)]
      rfl
theorem wishes_val (w : List S36) (ms : List Int) (hl : w.length ≤ 1000000) (hm : ms.length ≤ 1000000) (k : Nat) (hk : w.length + ms.length < k) : pick_wishes.f k w ms = some (wishesN w ms) := by
  unfold pick_wishes.f
  rw [show (0 : Int) = ((0 : Nat) : Int) from rfl, wishes_loop w ms hl hm w.length k 0 [] (by omega) (by simp) (by omega)]
  simp

theorem mem_listOf (s : Nat) (c : Int) : c ∈ listOf (s : Int) ↔ 0 ≤ c ∧ c < 8 ∧ s.testBit c.toNat = true := by
  unfold listOf
  rw [List.mem_map]
  constructor
  · rintro ⟨n, hn, rfl⟩
    obtain ⟨h1, h2⟩ := List.mem_filter.1 hn
    have : n < 8 := by simpa using h1
    exact ⟨by omega, by omega, by simpa using h2⟩
  · rintro ⟨h0, h1, h2⟩
    exact ⟨c.toNat, List.mem_filter.2 ⟨by simp; omega, by simpa using h2⟩, by omega⟩
theorem mem_listOf_has (s : Nat) (c : Int) : c ∈ listOf (s : Int) ↔ hasN s c = true := by
  rw [mem_listOf]; unfold hasN; simp [and_assoc]
theorem listOf_nodup (s : Nat) : (listOf (s : Int)).Nodup := by
  unfold listOf
  exact List.Pairwise.map _ (fun a b h e => h (by omega)) (List.Pairwise.filter _ List.nodup_range)
def choicesM (h s p : Nat) (at_ : Int) : List Int :=
  if hasN (allowsN h s p) at_ then at_ :: (listOf (minus (likesN h s p) (2 ^ at_.toNat) : Nat) ++ listOf (minus (minus (allowsN h s p) (2 ^ at_.toNat)) (minus (likesN h s p) (2 ^ at_.toNat)) : Nat))
  else listOf (likesN h s p : Nat) ++ listOf (minus (allowsN h s p) (likesN h s p) : Nat)
def choicesN (free : Nat) (x : S36) : List Int := choicesM x.f2.f0.toNat x.f2.f1.toNat free x.f1
theorem likes_sub (h s p c : Nat) (hc : (likesN h s p).testBit c = true) : (allowsN h s p).testBit c = true := by
  unfold likesN at hc
  split at hc
  · exact hc
  · rw [Nat.testBit_and] at hc
    simp only [Bool.and_eq_true] at hc
    exact hc.1
theorem mem_choicesM (h s p : Nat) (at_ c : Int) : c ∈ choicesM h s p at_ ↔ hasN (allowsN h s p) c = true := by
  have hA := allowsN_lt h s p
  have hL := likesN_lt h s p
  unfold choicesM
  by_cases ha : hasN (allowsN h s p) at_ = true
  · rw [if_pos ha]
    have h8 : 0 ≤ at_ ∧ at_ < 8 := by unfold hasN at ha; simp only [Bool.and_eq_true, decide_eq_true_eq] at ha; exact ha.1
    have hp := pow_lt256 at_.toNat (by omega)
    rw [List.mem_cons, List.mem_append, mem_listOf_has, mem_listOf_has]
    constructor
    · rintro (rfl | h1 | h1)
      · exact ha
      · unfold hasN at h1 ⊢
        simp only [Bool.and_eq_true, decide_eq_true_eq] at h1 ⊢
        obtain ⟨⟨h2, h3⟩, h4⟩ := h1
        rw [minus_bit _ _ _ hp (by omega)] at h4
        simp only [Bool.and_eq_true] at h4
        exact ⟨⟨h2, h3⟩, likes_sub _ _ _ _ h4.1⟩
      · unfold hasN at h1 ⊢
        simp only [Bool.and_eq_true, decide_eq_true_eq] at h1 ⊢
        obtain ⟨⟨h2, h3⟩, h4⟩ := h1
        rw [minus_bit _ _ _ (minus_lt _ _ hL) (by omega), minus_bit _ _ _ hp (by omega)] at h4
        simp only [Bool.and_eq_true] at h4
        exact ⟨⟨h2, h3⟩, h4.1.1⟩
    · intro hc
      by_cases e : c = at_
      · exact .inl e
      · have hc' := hc
        unfold hasN at hc'
        simp only [Bool.and_eq_true, decide_eq_true_eq] at hc'
        obtain ⟨⟨h2, h3⟩, h4⟩ := hc'
        have hb : (2 ^ at_.toNat).testBit c.toNat = false := by rw [pow_bit]; exact decide_eq_false (by omega)
        by_cases hl : (likesN h s p).testBit c.toNat = true
        · refine .inr (.inl ?_)
          unfold hasN
          simp only [Bool.and_eq_true, decide_eq_true_eq]
          exact ⟨⟨h2, h3⟩, by rw [minus_bit _ _ _ hp (by omega), hl, hb]; rfl⟩
        · refine .inr (.inr ?_)
          unfold hasN
          simp only [Bool.and_eq_true, decide_eq_true_eq]
          refine ⟨⟨h2, h3⟩, ?_⟩
          rw [minus_bit _ _ _ (minus_lt _ _ hL) (by omega), minus_bit _ _ _ hp (by omega), minus_bit _ _ _ hp (by omega), h4, hb, Bool.eq_false_iff.2 hl]; rfl
  · rw [if_neg ha, List.mem_append, mem_listOf_has, mem_listOf_has]
    constructor
    · rintro (h1 | h1) <;> unfold hasN at h1 ⊢ <;> simp only [Bool.and_eq_true, decide_eq_true_eq] at h1 ⊢ <;> obtain ⟨⟨h2, h3⟩, h4⟩ := h1
      · exact ⟨⟨h2, h3⟩, likes_sub _ _ _ _ h4⟩
      · rw [minus_bit _ _ _ hL (by omega)] at h4
        simp only [Bool.and_eq_true] at h4
        exact ⟨⟨h2, h3⟩, h4.1⟩
    · intro hc
      unfold hasN at hc ⊢
      simp only [Bool.and_eq_true, decide_eq_true_eq] at hc ⊢
      obtain ⟨⟨h2, h3⟩, h4⟩ := hc
      by_cases hl : (likesN h s p).testBit c.toNat = true
      · exact .inl ⟨⟨h2, h3⟩, hl⟩
      · exact .inr ⟨⟨h2, h3⟩, by rw [minus_bit _ _ _ hL (by omega), h4, Bool.eq_false_iff.2 hl]; rfl⟩
theorem choicesM_nodup (h s p : Nat) (at_ : Int) : (choicesM h s p at_).Nodup := by
  have hA := allowsN_lt h s p
  have hL := likesN_lt h s p
  unfold choicesM
  by_cases ha : hasN (allowsN h s p) at_ = true
  · rw [if_pos ha]
    have h8 : 0 ≤ at_ ∧ at_ < 8 := by unfold hasN at ha; simp only [Bool.and_eq_true, decide_eq_true_eq] at ha; exact ha.1
    have hp := pow_lt256 at_.toNat (by omega)
    refine List.nodup_cons.2 ⟨fun hm => ?_, List.nodup_append.2 ⟨listOf_nodup _, listOf_nodup _, fun a h1 b h2 e => ?_⟩⟩
    · rcases List.mem_append.1 hm with h1 | h1
      · obtain ⟨h2, h3, h4⟩ := (mem_listOf _ _).1 h1
        rw [minus_bit _ _ _ hp (by omega), pow_bit] at h4
        simp at h4
      · obtain ⟨h2, h3, h4⟩ := (mem_listOf _ _).1 h1
        rw [minus_bit _ _ _ (minus_lt _ _ hL) (by omega), minus_bit _ _ _ hp (by omega), pow_bit] at h4
        simp at h4
    · subst e
      obtain ⟨_, h3, h4⟩ := (mem_listOf _ _).1 h1
      obtain ⟨_, _, h5⟩ := (mem_listOf _ _).1 h2
      rw [minus_bit _ _ _ (minus_lt _ _ hL) (by omega), h4] at h5
      simp at h5
  · rw [if_neg ha]
    refine List.nodup_append.2 ⟨listOf_nodup _, listOf_nodup _, fun a h1 b h2 e => ?_⟩
    subst e
    obtain ⟨_, h3, h4⟩ := (mem_listOf _ _).1 h1
    obtain ⟨_, _, h5⟩ := (mem_listOf _ _).1 h2
    rw [minus_bit _ _ _ hL (by omega), h4] at h5
    simp at h5
theorem Choices_val (h s p : Nat) (v at_ : Int) (hh : h < 4294967296) (hs : s < 4294967296) (hp : p < 4294967296) (k : Nat) (hk : 2 ≤ k) : pick_Choices.f k v at_ (h : Int) (s : Int) (p : Int) = some (choicesM h s p at_) := by
  have hA := allowsN_lt h s p
  have hL := likesN_lt h s p
  unfold pick_Choices.f
  rw [Allows_val h s p hh hs hp k hk, Option.bind_some, Likes_val h s p hh hs hp k hk, Option.bind_some, Has_val _ (by omega), Option.bind_some]
  unfold choicesM
  by_cases ha : hasN (allowsN h s p) at_ = true
  · have h8 : 0 ≤ at_ ∧ at_ < 8 := by unfold hasN at ha; simp only [Bool.and_eq_true, decide_eq_true_eq] at ha; exact ha.1
    have hpw := pow_lt256 at_.toNat (by omega)
    have hsh : shl .u32 1 at_ = ((2 ^ at_.toNat : Nat) : Int) := by
      have := shl_one at_.toNat (by omega)
      rwa [show ((at_.toNat : Nat) : Int) = at_ by omega] at this
    rw [if_pos ha, if_pos ha, if_pos (by simp), Option.bind_some, if_pos h8.1, hsh, andNot_byte _ _ hL hpw, andNot_byte _ _ hA hpw, andNot_byte _ _ (minus_lt _ _ hA) (minus_lt _ _ hL)]
    have l1 := listOf_len (minus (likesN h s p) (2 ^ at_.toNat) : Nat)
    have l2 := listOf_len (minus (minus (allowsN h s p) (2 ^ at_.toNat)) (minus (likesN h s p) (2 ^ at_.toNat)) : Nat)
    have m1 := minus_lt (likesN h s p) (2 ^ at_.toNat) hL
    have m2 := minus_lt (minus (allowsN h s p) (2 ^ at_.toNat)) (minus (likesN h s p) (2 ^ at_.toNat)) (minus_lt _ _ hA)
    rw [List_val _ (by omega), Option.bind_some, if_pos (by simp; omega), Option.bind_some, List_val _ (by omega), Option.bind_some, if_pos (by simp; omega)]
    simp
  · rw [if_neg ha, if_neg ha]
    have l1 := listOf_len (likesN h s p : Nat)
    have l2 := listOf_len (minus (allowsN h s p) (likesN h s p) : Nat)
    have m2 := minus_lt (allowsN h s p) (likesN h s p) hA
    rw [List_val _ (by omega), Option.bind_some, if_pos (by simp; omega), Option.bind_some, andNot_byte _ _ hA hL, List_val _ (by omega), Option.bind_some, if_pos (by simp; omega)]
    simp
theorem rows_loop (ws : List S36) (free : Nat) (hf : free < 4294967296) (hwf : ∀ x ∈ ws, Wf34 x.f2) (hl : ws.length ≤ 1000000) (d : Nat) : ∀ (k i : Nat) (acc : List (List Int)), i + d = ws.length → acc.length ≤ i → d + 2 < k →
    pick_rows.l0 k (free : Int) acc ws (ws.length : Int) (i : Int) = some (acc ++ (ws.drop i).map (choicesN free)) := by
  induction d with
  | zero =>
    intro k i acc hi ha hk
    obtain ⟨k, rfl⟩ : ∃ m, k = m + 1 := ⟨k - 1, by omega⟩
    rw [pick_rows.l0, if_neg (by omega), List.drop_eq_nil_of_le (by omega)]; simp
  | succ d ih =>
    intro k i acc hi ha hk
    obtain ⟨k, rfl⟩ : ∃ m, k = m + 1 := ⟨k - 1, by omega⟩
    have hlt : i < ws.length := by omega
    obtain ⟨q1, q2, q3, q4⟩ := hwf _ (List.getElem_mem hlt)
    have hc := Choices_val ws[i].f2.f0.toNat ws[i].f2.f1.toNat free ws[i].f0 ws[i].f1 (by omega) (by omega) hf k (by omega)
    rw [show ((ws[i].f2.f0.toNat : Nat) : Int) = ws[i].f2.f0 by omega, show ((ws[i].f2.f1.toNat : Nat) : Int) = ws[i].f2.f1 by omega] at hc
    rw [pick_rows.l0, if_pos (by omega), if_pos (by omega), if_pos (by omega), rd36_eq _ _ hlt, hc, Option.bind_some, if_pos (by omega), w64 _ (by omega) (by omega), show (i : Int) + 1 = ((i + 1 : Nat) : Int) by omega, ih k (i + 1) _ (by omega) (by simp; omega) (by omega), List.drop_eq_getElem_cons hlt, List.append_assoc]
    rfl
theorem rows_val (ws : List S36) (free : Nat) (hf : free < 4294967296) (hwf : ∀ x ∈ ws, Wf34 x.f2) (hl : ws.length ≤ 1000000) (k : Nat) (hk : ws.length + 2 < k) : pick_rows.f k (free : Int) ws = some (ws.map (choicesN free)) := by
  unfold pick_rows.f
  rw [show (0 : Int) = ((0 : Nat) : Int) from rfl, rows_loop ws free hf hwf hl ws.length k 0 [] (by omega) (by simp) (by omega)]
  simp

def orRow (s : Nat) (row : List Int) : Nat := row.foldl (fun s c => s ||| 2 ^ c.toNat) s
theorem ones_or : ∀ s : Fin 256, ∀ c : Fin 8, s.val.testBit c.val = false → ones (s.val ||| 2 ^ c.val) = ones s.val + 1 := by decide +kernel
theorem bit_val (c : Int) (h0 : 0 ≤ c) (h8 : c < 8) : cpuset_bit.f c = some ((2 ^ c.toNat : Nat) : Int) := by
  unfold cpuset_bit.f
  have := shl_one c.toNat (by omega)
  rw [show ((c.toNat : Nat) : Int) = c by omega] at this
  rw [if_neg (by omega), if_neg (by omega), if_pos h0, this]
theorem of_loop (row : List Int) (hr : ∀ c ∈ row, 0 ≤ c ∧ c < 8) (hl : row.length ≤ 1000000) (d : Nat) : ∀ (k i s : Nat), i + d = row.length → s < 256 → d < k → cpuset_Of.l0 k (s : Int) row (row.length : Int) (i : Int) = some (((orRow s (row.drop i) : Nat) : Int), (0 : Int)) := by
  induction d with
  | zero =>
    intro k i s hi hs hk
    obtain ⟨k, rfl⟩ : ∃ m, k = m + 1 := ⟨k - 1, by omega⟩
    rw [cpuset_Of.l0, if_neg (by omega), List.drop_eq_nil_of_le (by omega)]; rfl
  | succ d ih =>
    intro k i s hi hs hk
    obtain ⟨k, rfl⟩ : ∃ m, k = m + 1 := ⟨k - 1, by omega⟩
    have hlt : i < row.length := by omega
    obtain ⟨h0, h8⟩ := hr _ (List.getElem_mem hlt)
    have hp := pow_lt256 row[i].toNat (by omega)
    have hpos : 0 < 2 ^ row[i].toNat := Nat.two_pow_pos _
    rw [cpuset_Of.l0, if_pos (by omega), if_pos (by omega), if_pos (by omega), rd_eq _ _ hlt, bit_val _ h0 h8, Option.bind_some, if_neg (by omega), or_nat _ _ (by omega) (by omega), w64 _ (by omega) (by omega), show (i : Int) + 1 = ((i + 1 : Nat) : Int) by omega, ih k (i + 1) _ (by omega) (or_lt256 _ _ hs hp) (by omega), List.drop_eq_getElem_cons hlt]
    rfl
theorem orRow_ones (row : List Int) (hr : ∀ c ∈ row, 0 ≤ c ∧ c < 8) (hn : row.Nodup) : ∀ s, s < 256 → (∀ c ∈ row, s.testBit c.toNat = false) → orRow s row < 256 ∧ ones (orRow s row) = ones s + row.length := by
  induction row with
  | nil => intro s hs _; exact ⟨hs, rfl⟩
  | cons c row ih =>
    intro s hs hb
    obtain ⟨h1, h2⟩ := List.nodup_cons.1 hn
    obtain ⟨h0, h8⟩ := hr c (by simp)
    have hp := pow_lt256 c.toNat (by omega)
    obtain ⟨g1, g2⟩ := ih (fun x hx => hr x (by simp [hx])) h2 (s ||| 2 ^ c.toNat) (or_lt256 _ _ hs hp) (fun x hx => by
      have hx8 := hr x (by simp [hx])
      rw [Nat.testBit_or, hb x (by simp [hx]), pow_bit, decide_eq_false]
      · rfl
      · intro e
        have : c = x := by omega
        exact h1 (this ▸ hx))
    refine ⟨g1, ?_⟩
    show ones (orRow (s ||| 2 ^ c.toNat) row) = _
    have h3 := ones_or ⟨s, hs⟩ ⟨c.toNat, by omega⟩ (hb c (by simp))
    simp only at h3
    rw [g2, h3, List.length_cons]
    omega
theorem Count_val2 (s : Nat) (hs : s < 256) : cpuset_Count.f (s : Int) = some ((ones s : Nat) : Int) := by
  unfold cpuset_Count.f
  rw [show (255 : Int) = ((255 : Nat) : Int) from rfl, and_nat s 255 (by omega) (by omega), show s &&& 255 = s by rw [Nat.and_two_pow_sub_one_eq_mod s 8]; omega]
  unfold bits_OnesCount32.f
  rw [if_pos (by omega)]
  simp
def okChoice (row : List Int) : Prop := row.Nodup ∧ ∀ c ∈ row, 0 ≤ c ∧ c < 8
theorem okChoice.len {row : List Int} (h : okChoice row) : row.length ≤ 8 := by
  have := nodup_le row [0, 1, 2, 3, 4, 5, 6, 7] h.1 (fun c hc => by
    obtain ⟨h0, h8⟩ := h.2 c hc
    have : c = 0 ∨ c = 1 ∨ c = 2 ∨ c = 3 ∨ c = 4 ∨ c = 5 ∨ c = 6 ∨ c = 7 := by omega
    simpa using this)
  simpa using this
theorem gchoices_loop (rows : List (List Int)) (hl : rows.length ≤ 8) (hr : ∀ r ∈ rows, okChoice r) (d : Nat) : ∀ (k i : Nat), i + d = rows.length → d + 9 < k → gang_choices.l0 k rows rows (rows.length : Int) (i : Int) = some true := by
  induction d with
  | zero =>
    intro k i hi hk
    obtain ⟨k, rfl⟩ : ∃ m, k = m + 1 := ⟨k - 1, by omega⟩
    rw [gang_choices.l0, if_neg (by omega), decide_eq_true (by omega)]
  | succ d ih =>
    intro k i hi hk
    obtain ⟨k, rfl⟩ : ∃ m, k = m + 1 := ⟨k - 1, by omega⟩
    have hlt : i < rows.length := by omega
    have hok := hr _ (List.getElem_mem hlt)
    have hlen := hok.len
    have ho := of_loop rows[i] hok.2 (by omega) rows[i].length k 0 0 (by omega) (by omega) (by omega)
    obtain ⟨g1, g2⟩ := orRow_ones rows[i] hok.2 hok.1 0 (by omega) (fun c _ => by simp)
    rw [List.drop_zero] at ho
    rw [gang_choices.l0, if_pos (by omega), if_pos (by omega), if_pos (by omega), rdL7_eq _ _ hlt, cpuset_Of.f, show (0 : Int) = ((0 : Nat) : Int) from rfl, ho, Option.bind_some]
    simp only [if_true, Int.ofNat_zero]
    rw [Count_val2 _ g1, Option.bind_some, g2, show ones 0 = 0 from by decide, Nat.zero_add, if_pos rfl, w64 _ (by omega) (by omega), show (i : Int) + 1 = ((i + 1 : Nat) : Int) by omega]
    exact ih k (i + 1) (by omega) (by omega)
theorem gchoices_val (rows : List (List Int)) (hl : rows.length ≤ 8) (hr : ∀ r ∈ rows, okChoice r) (k : Nat) (hk : rows.length + 9 < k) : gang_choices.f k rows = some true := by
  unfold gang_choices.f
  exact gchoices_loop rows hl hr rows.length k 0 (by omega) hk
theorem matching_val (rows : List (List Int)) (hl : rows.length ≤ 8) (hr : ∀ r ∈ rows, okChoice r) : gang_matching.f rows = some (matchFrom rows []).isSome := by
  unfold gang_matching.f
  rw [if_pos ⟨hl, fun r h => ⟨by have := (hr r h).len; omega, (hr r h).2⟩⟩]
theorem mem_one {x c : Int} (h : x ∈ [c]) : x = c := by simpa using h
theorem set_mid (out : List Int) (z : List Int) (rest : List (List Int)) (c : Int) : (out.map (fun c => [c]) ++ z :: rest).set out.length [c] = (out ++ [c]).map (fun c => [c]) ++ rest := by
  rw [List.set_append_right _ _ (by simp)]
  simp
theorem match_l0 (rows : List (List Int)) (hl : rows.length ≤ 8) (hr : ∀ r ∈ rows, okChoice r) (m : List Int) (d : Nat) : ∀ (i : Nat) (out : List Int), i + d = rows.length → out.length = i → out.Nodup → (∀ c ∈ out, 0 ≤ c ∧ c < 8) → matchFrom (rows.drop i) out = some m →
    ∃ K, ∀ k, K ≤ k → gang_Match.l0 k (out.map (fun c => [c]) ++ rows.drop i) out rows (rows.length : Int) (i : Int) = some (m, true) := by
  induction d with
  | zero =>
    intro i out hi ho hn hc hm
    refine ⟨1, fun k hk => ?_⟩
    obtain ⟨k, rfl⟩ : ∃ q, k = q + 1 := ⟨k - 1, by omega⟩
    rw [List.drop_eq_nil_of_le (by omega)] at hm
    obtain rfl : out = m := by simpa [matchFrom] using hm
    rw [gang_Match.l0, if_neg (by omega)]
  | succ d ih =>
    intro i out hi ho hn hc hm
    have hlt : i < rows.length := by omega
    have hok := hr _ (List.getElem_mem hlt)
    have hlen := hok.len
    have inner : ∀ (e j : Nat) (z : List Int), j + e = rows[i].length → okChoice z → (rows[i].drop j).findSome? (fun c => if c ∈ out then none else matchFrom (rows.drop (i + 1)) (out ++ [c])) = some m →
        ∃ K, ∀ k, K ≤ k → gang_Match.l1 k (out.map (fun c => [c]) ++ z :: rows.drop (i + 1)) out (i : Int) rows (rows.length : Int) (i : Int) rows[i] (rows[i].length : Int) (j : Int) = some (m, true) := by
      intro e
      induction e with
      | zero =>
        intro j z hj hz hf
        rw [show rows[i].drop j = [] from List.drop_eq_nil_of_le (by omega)] at hf
        cases hf
      | succ e ih2 =>
        intro j z hj hz hf
        have hjl : j < rows[i].length := by omega
        rw [List.drop_eq_getElem_cons hjl, List.findSome?_cons] at hf
        have hcj := hok.2 _ (List.getElem_mem hjl)
        generalize hcc : rows[i][j] = c at *
        by_cases hin : c ∈ out
        · rw [if_pos hin] at hf
          obtain ⟨K, hK⟩ := ih2 (j + 1) z (by omega) hz hf
          refine ⟨K + 20, fun k hk => ?_⟩
          obtain ⟨k, rfl⟩ : ∃ q, k = q + 1 := ⟨k - 1, by omega⟩
          rw [gang_Match.l1, if_pos (by omega), if_pos (by omega), if_pos (by omega), rd_eq _ _ hjl, hcc, Contains_val _ _ (by omega) _ (by omega), Option.bind_some, if_pos (by simpa using hin), w64 _ (by omega) (by omega), show (j : Int) + 1 = ((j + 1 : Nat) : Int) by omega]
          exact hK k (by omega)
        · rw [if_neg hin] at hf
          have hn2 : (out ++ [c]).Nodup := List.nodup_append.2 ⟨hn, by simp, fun a ha b hb e => hin (mem_one hb ▸ e ▸ ha)⟩
          have hc2 : ∀ x ∈ out ++ [c], 0 ≤ x ∧ x < 8 := fun x hx => by
            rcases List.mem_append.1 hx with h | h
            · exact hc x h
            · have : x = c := by simpa using h
              rw [this]; exact hcj
          have hys : ∀ r ∈ (out ++ [c]).map (fun c => [c]) ++ rows.drop (i + 1), okChoice r := fun r h => by
            rcases List.mem_append.1 h with h | h
            · obtain ⟨x, hx, rfl⟩ := List.mem_map.1 h
              exact ⟨by simp, fun y hy => mem_one hy ▸ hc2 x hx⟩
            · exact hr r (List.mem_of_mem_drop h)
          have hyl : ((out ++ [c]).map (fun c => [c]) ++ rows.drop (i + 1)).length ≤ 8 := by simp; omega
          have hmv := matching_val _ hyl hys
          rw [match_singles _ _ _ (by simpa using hn2), List.nil_append] at hmv
          have hset := set_mid out z (rows.drop (i + 1)) c
          rw [ho] at hset
          cases hq : matchFrom (rows.drop (i + 1)) (out ++ [c]) with
          | some m2 =>
            rw [hq] at hf hmv
            obtain rfl : m2 = m := by simpa using hf
            obtain ⟨K, hK⟩ := ih (i + 1) (out ++ [c]) (by omega) (by simp [ho]) hn2 hc2 hq
            refine ⟨K + 20, fun k hk => ?_⟩
            obtain ⟨k, rfl⟩ : ∃ q, k = q + 1 := ⟨k - 1, by omega⟩
            rw [gang_Match.l1, if_pos (by omega), if_pos (by omega), if_pos (by omega), rd_eq _ _ hjl, hcc, Contains_val _ _ (by omega) _ (by omega), Option.bind_some, if_neg (by simpa using hin), if_pos (by omega), if_pos (by simp; omega), Int.toNat_natCast, hset, Option.bind_some, hmv, Option.bind_some, if_pos (by simp), if_pos (by omega), w64 _ (by omega) (by omega), show (i : Int) + 1 = ((i + 1 : Nat) : Int) by omega]
            exact hK k (by omega)
          | none =>
            rw [hq] at hf hmv
            obtain ⟨K, hK⟩ := ih2 (j + 1) [c] (by omega) ⟨by simp, fun y hy => mem_one hy ▸ hcj⟩ hf
            refine ⟨K + 20, fun k hk => ?_⟩
            obtain ⟨k, rfl⟩ : ∃ q, k = q + 1 := ⟨k - 1, by omega⟩
            rw [gang_Match.l1, if_pos (by omega), if_pos (by omega), if_pos (by omega), rd_eq _ _ hjl, hcc, Contains_val _ _ (by omega) _ (by omega), Option.bind_some, if_neg (by simpa using hin), if_pos (by omega), if_pos (by simp; omega), Int.toNat_natCast, hset, Option.bind_some, hmv, Option.bind_some, if_neg (by simp), w64 _ (by omega) (by omega), show (j : Int) + 1 = ((j + 1 : Nat) : Int) by omega]
            have := hK k (by omega)
            simpa using this
    have hm2 := hm
    rw [List.drop_eq_getElem_cons hlt, matchFrom] at hm2
    obtain ⟨K, hK⟩ := inner rows[i].length 0 rows[i] (by omega) hok (by rw [List.drop_zero]; exact hm2)
    refine ⟨K + 1, fun k hk => ?_⟩
    obtain ⟨k, rfl⟩ : ∃ q, k = q + 1 := ⟨k - 1, by omega⟩
    rw [gang_Match.l0, if_pos (by omega), if_pos (by omega), if_pos (by omega), rdL7_eq _ _ hlt, List.drop_eq_getElem_cons hlt]
    exact hK k (by omega)
def matchP (rows : List (List Int)) : List Int × Bool := match matchFrom rows [] with | some m => (m, true) | none => ([], false)
theorem Match_val (rows : List (List Int)) (h0 : 0 < rows.length) (hl : rows.length ≤ 8) (hr : ∀ r ∈ rows, okChoice r) : ∃ K, ∀ k, K ≤ k → gang_Match.f k rows = some (matchP rows) := by
  have hmv := matching_val rows hl hr
  unfold matchP
  cases hq : matchFrom rows [] with
  | none =>
    rw [hq] at hmv
    refine ⟨20, fun k hk => ?_⟩
    unfold gang_Match.f
    obtain ⟨k, rfl⟩ : ∃ q, k = q + 1 := ⟨k - 1, by omega⟩
    rw [gchoices_val rows hl hr _ (by omega), Option.bind_some, if_pos rfl, hmv, Option.bind_some, gang_Match.j0, if_pos (by simp)]
  | some m =>
    rw [hq] at hmv
    obtain ⟨K, hK⟩ := match_l0 rows hl hr m rows.length 0 [] (by omega) rfl (by simp) (by simp) hq
    refine ⟨K + 20, fun k hk => ?_⟩
    unfold gang_Match.f
    obtain ⟨k, rfl⟩ : ∃ q, k = q + 1 := ⟨k - 1, by omega⟩
    rw [gchoices_val rows hl hr _ (by omega), Option.bind_some, if_pos rfl, hmv, Option.bind_some, gang_Match.j0, if_neg (by simp)]
    unfold slices_Clone_int_int.f
    rw [if_pos ⟨h0, by omega⟩, Option.bind_some]
    have := hK k (by omega)
    simpa using this
def takesP (free : Nat) (ws : List S36) : List Int × Bool := if 1 < ws.length then matchP (ws.map (choicesN free)) else match ws with
  | x :: _ => ([(bestN x.f2.f0.toNat x.f2.f1.toNat free x.f1).1], (bestN x.f2.f0.toNat x.f2.f1.toNat free x.f1).2)
  | [] => ([], false)
theorem choice_ok (free : Nat) (x : S36) : okChoice (choicesN free x) := ⟨choicesM_nodup _ _ _ _, fun c hc => by
  have := (mem_choicesM _ _ _ _ c).1 hc
  unfold hasN at this
  simp only [Bool.and_eq_true, decide_eq_true_eq] at this
  exact this.1⟩
theorem takes_val (ws : List S36) (free : Nat) (hf : free < 4294967296) (hwf : ∀ x ∈ ws, Wf34 x.f2) (h0 : 0 < ws.length) (hl : ws.length ≤ 8) : ∃ K, ∀ k, K ≤ k → pick_takes.f k ws (free : Int) = some (takesP free ws) := by
  unfold takesP
  by_cases h1 : 1 < ws.length
  · obtain ⟨K, hK⟩ := Match_val (ws.map (choicesN free)) (by simpa using h0) (by simpa using hl) (fun r h => by
      obtain ⟨x, _, rfl⟩ := List.mem_map.1 h
      exact choice_ok free x)
    refine ⟨K + 20, fun k hk => ?_⟩
    unfold pick_takes.f
    rw [if_pos (by omega), if_pos h1, rows_val ws free hf hwf (by omega) k (by omega), Option.bind_some, hK k (by omega), Option.bind_some]
  · refine ⟨2, fun k hk => ?_⟩
    unfold pick_takes.f
    obtain ⟨x, rfl⟩ : ∃ x, ws = [x] := by
      match ws, h0, h1 with
      | [x], _, _ => exact ⟨x, rfl⟩
      | _ :: _ :: _, _, h => simp at h
    obtain ⟨q1, q2, q3, q4⟩ := hwf x (by simp)
    have hb := Best_val x.f2.f0.toNat x.f2.f1.toNat free x.f1 (by omega) (by omega) hf k hk
    rw [show ((x.f2.f0.toNat : Nat) : Int) = x.f2.f0 by omega, show ((x.f2.f1.toNat : Nat) : Int) = x.f2.f1 by omega] at hb
    rw [if_neg (by simp), if_pos (by simp), if_neg (by simp), show rd_T36 [x] 0 = x from rfl, hb, Option.bind_some]
end Go.Proofs.YtdmieaidheelbaaDoor.Q
end
/- QFlaw19Askover -/
section
namespace Go.Proofs.YtdmieaidheelbaaDoor.Q
open Go.RowKit Go.Proofs.YtdmieaidheelbaaDoorW.PrintWords Go.Proofs.YtdmieaidheelbaaDoorW.PrintLast Go.Proofs.YtdmieaidheelbaaDoorW.PrintMore
attribute [local go_sem] max2_int min2_int max_two min_two max_three min_three max_four min_four
set_option linter.unusedVariables false
set_option linter.unusedSimpArgs false

mutual
def mainsheetlaw19_Ask_over.j0 : Nat → Bool → List (S90) → List (S36) → Int → Option (Bool)
 | 0, _, _, _, _ => none
 | k + 1, x14, x347000, x347001, x347002 => if x14 = true then (some true) else (mainsheetlaw19_Ask_over.l0 k x347000 (x347000.length : Int) 0)
def mainsheetlaw19_Ask_over.l0 : Nat → List (S90) → Int → Int → Option (Bool)
 | 0, _, _, _ => none
 | k + 1, x16, x17, x18 => if x18 < x17 then (if 0 ≤ x18 then (if x18 < (x16.length : Int) then (if (((rd_T90 x16 x18).f0).length : Int) > 40 then (some true) else (mainsheetlaw19_Ask_over.l0 k x16 x17 (wrap64 (x18 + 1)))) else (none)) else (none)) else (some false)
end
def mainsheetlaw19_Ask_over.f (k : Nat) (l0_0 : List (S90)) (l0_1 : List (S36)) (a0_2 : Int) : Option (Bool) := if (l0_0.length : Int) > 40 then (mainsheetlaw19_Ask_over.j0 k true l0_0 l0_1 a0_2) else (mainsheetlaw19_Ask_over.j0 k (decide ((l0_1.length : Int) > 60)) l0_0 l0_1 a0_2)
set_option maxHeartbeats 8000000 in
set_option maxRecDepth 100000 in
theorem mainsheetlaw19_Ask_over.calls (k : Nat) (A0_0 : Option Addr) (c0_0 : Nat) (l0_0 : List (S90)) (A0_1 : Option Addr) (c0_1 : Nat) (l0_1 : List (S36)) (a0_2 : Int) (r : Bool) (w : World) (hr0_0 : Kd.C k90 w A0_0 l0_0.length l0_0) (hc0_0 : l0_0.length ≤ c0_0) (hr0_1 : Kd.C k36 w A0_1 l0_1.length l0_1) (hc0_1 : l0_1.length ≤ c0_1) (h : mainsheetlaw19_Ask_over.f k l0_0 l0_1 a0_2 = some r) :
  Calls Tryd.prog 19 #[.agg #[.slice A0_0 l0_0.length c0_0, .slice A0_1 l0_1.length c0_1, .int .u32 a0_2]] w fun e w' => e = .returned (.bool r) ∧ Below w.heap.size w w' := by
 have hu41 := Tryd.underlying41
 have hu90 := Tryd.underlying90
 have HR0_0 := Aside0.mk hr0_0
 have HC0_0 := Aside0.mk hc0_0
 clear hr0_0 hc0_0
 have HR0_1 := Aside0.mk hr0_1
 have HC0_1 := Aside0.mk hc0_1
 clear hr0_1 hc0_1
 have HB := Aside0.mk (Below.refl w.heap.size w)
 have H : (if (l0_0.length : Int) > 40 then (mainsheetlaw19_Ask_over.j0 k true l0_0 l0_1 a0_2) else (mainsheetlaw19_Ask_over.j0 k (decide ((l0_1.length : Int) > 60)) l0_0 l0_1 a0_2)) = some r := h
 clear h
 have HC2 := Aside0.mk H
 clear H
 go_enter Tryd.func19, Tryd.ntmps19
 go_upto_region 1 with (first | ((with_reducible refine gate_dst (N := 1) rfl ?_); (try (refine gate_guard (by rfl) ?_; dsimp only)); refine box_event ?hg (N := 1) ?hd (cs := #[.slice A0_0 l0_0.length c0_0, .slice A0_1 l0_1.length c0_1, .int .u32 a0_2]) (t := 41) ?hr ?_; (case hd => rfl); (case hg => rfl); (case hr => first | (go_simp; done) | (go_simp; rfl)); intro gb346 hg w3 hbox hb; have n0_ := Aside0.mk (below_step (by repeat (first | (with_reducible first | exact HB.out | apply below_alloc | apply pw_below_drewN | apply below_drew1) | exact HB.out)) hb); have n1_ := Aside0.mk (hbox); have n2_ := Aside0.mk ((by rw [hg]; exact (below_size (by repeat (first | (with_reducible first | exact HB.out | apply below_alloc | apply pw_below_drewN | apply below_drew1) | exact HB.out))) : w.heap.size ≤ gb346)); have n3_ := Aside0.mk ((by rw [hg]; exact (below_size (by repeat (first | (with_reducible first | exact HB.out | apply below_alloc | apply pw_below_drewN | apply below_drew1) | exact HB.out))) : w.heap.size ≤ gb346)); clear HB; have HB := n0_; have BK346 := n1_; have GW346 := n2_; have GE346 := n3_; clear n0_ n1_ n2_ n3_; clear hb hbox hg))
 (try simp only [Act.put, List.setIfInBounds_toArray, List.set_cons_zero, List.set_cons_succ])
 go_cut [14] (fun v14 wc => ∃ (kq : Nat) (x14_1 : Bool), v14 = .bool x14_1 ∧ Aside0 (mainsheetlaw19_Ask_over.j0 kq x14_1 l0_0 l0_1 a0_2 = some r) ∧ Aside0 (kq ≤ k) ∧ Aside0 (wc.heap[gb346]? = some (.cells #[(.slice A0_0 l0_0.length c0_0), (.slice A0_1 l0_1.length c0_1), .int .u32 a0_2] 41 (0, 0))) ∧ Aside0 (Below w.heap.size w wc))
 case first =>
  have H := HC2.out
  clear HC2
  by_cases c4 : (l0_0.length : Int) > 40
  ·rw [if_pos c4] at H
   have c4b0 : decide (40 < (l0_0.length : Int)) = true := decide_eq_true c4
   have c4b1 : decide (40 < l0_0.length) = true := decide_eq_true (by omega)
   clear c4
   (first | rw [c4b0] | (simp only [i64_w, i32_w]; rw [c4b0]) | skip)
   have H' := Aside0.mk H
   clear H
   have hcz5_0 : w3.cell? ⟨gb346, 0, none⟩ = some (.slice A0_0 l0_0.length c0_0) := (blk_cell BK346.out 0).trans rfl
   have hcz5_1 : w3.cell? ⟨gb346, 1, none⟩ = some (.slice A0_1 l0_1.length c0_1) := (blk_cell BK346.out 1).trans rfl
   have hcz5_2 : w3.cell? ⟨gb346, 2, none⟩ = some (.int .u32 a0_2) := (blk_cell BK346.out 2).trans rfl
   have hfz5_0 := blk_frozen BK346.out 0
   have hfz5_1 := blk_frozen BK346.out 1
   have hfz5_2 := blk_frozen BK346.out 2
   go_wp2
   go_meet
   case rel => exact ⟨_, (true), (by first | rfl | (simp; done) | (simp [*]; done)), H', ⟨by first | omega | exact Nat.le_refl _⟩, ⟨by (with_reducible repeat (first | refine blk_drewN ?_ _ | refine blk_drew ?_ | refine blk_alloc ?_ _)); exact BK346.out⟩, ⟨by repeat (first | (with_reducible first | exact HB.out | apply below_alloc | apply pw_below_drewN | apply below_drew1 | refine below_set ?_ GE346.out) | exact HB.out)⟩⟩
  ·rw [if_neg c4] at H
   have c4b0 : decide (40 < (l0_0.length : Int)) = false := decide_eq_false c4
   have c4b1 : decide (40 < l0_0.length) = false := decide_eq_false (by omega)
   clear c4
   (first | rw [c4b0] | (simp only [i64_w, i32_w]; rw [c4b0]) | skip)
   have H' := Aside0.mk H
   clear H
   have hcz6_0 : w3.cell? ⟨gb346, 0, none⟩ = some (.slice A0_0 l0_0.length c0_0) := (blk_cell BK346.out 0).trans rfl
   have hcz6_1 : w3.cell? ⟨gb346, 1, none⟩ = some (.slice A0_1 l0_1.length c0_1) := (blk_cell BK346.out 1).trans rfl
   have hcz6_2 : w3.cell? ⟨gb346, 2, none⟩ = some (.int .u32 a0_2) := (blk_cell BK346.out 2).trans rfl
   have hfz6_0 := blk_frozen BK346.out 0
   have hfz6_1 := blk_frozen BK346.out 1
   have hfz6_2 := blk_frozen BK346.out 2
   go_wp2
   go_meet
   case rel => exact ⟨_, (decide ((l0_1.length : Int) > 60)), (by first | rfl | (simp; done) | (simp [*]; done)), H', ⟨by first | omega | exact Nat.le_refl _⟩, ⟨by (with_reducible repeat (first | refine blk_drewN ?_ _ | refine blk_drew ?_ | refine blk_alloc ?_ _)); exact BK346.out⟩, ⟨by repeat (first | (with_reducible first | exact HB.out | apply below_alloc | apply pw_below_drewN | apply below_drew1 | refine below_set ?_ GE346.out) | exact HB.out)⟩⟩
 case rest =>
  clear HC2
  try clear c1
  try clear p2
  try clear c4
  try clear c4b0
  try clear c4b1
  try clear hcz5_0
  try clear hcz5_1
  try clear hcz5_2
  try clear hcz6_0
  try clear hcz6_1
  try clear hcz6_2
  try clear hfz5_0
  try clear hfz5_1
  try clear hfz5_2
  try clear hfz6_0
  try clear hfz6_1
  try clear hfz6_2
  obtain ⟨kq, x14_1, rfl, HA, HJ1, BK346, HB⟩ := hcut
  cases kq with
  | zero => exact absurd HA.out (by simp [mainsheetlaw19_Ask_over.j0])
  | succ kj1 =>
   have H := HA.out
   clear HA
   simp only [mainsheetlaw19_Ask_over.j0] at H
   by_cases c7 : x14_1 = true
   ·subst c7
    have H1 : (some true) = some r := by rw [if_pos rfl] at H; exact H
    clear H
    have H := H1
    clear H1
    obtain rfl := Option.some.inj H
    go_wp2
    go_ret
    exact ⟨by first | rfl | (simp [errW_none, errW_some] <;> rfl) | (simp [*, errW_none, errW_some] <;> rfl), by repeat (first | (with_reducible first | exact HB.out | apply below_alloc | apply pw_below_drewN | apply below_drew1 | refine below_set ?_ GE346.out) | exact HB.out)⟩
   ·replace c7 := Bool.eq_false_iff.mpr c7
    subst c7
    have H1 : (mainsheetlaw19_Ask_over.l0 kj1 l0_0 (l0_0.length : Int) 0) = some r := by rw [if_neg (show ¬ (false = true) by decide)] at H; exact H
    clear H
    have H := H1
    clear H1
    have H' := Aside0.mk H
    clear H
    have hcz8_0 : wc.cell? ⟨gb346, 0, none⟩ = some (.slice A0_0 l0_0.length c0_0) := (blk_cell BK346.out 0).trans rfl
    have hcz8_1 : wc.cell? ⟨gb346, 1, none⟩ = some (.slice A0_1 l0_1.length c0_1) := (blk_cell BK346.out 1).trans rfl
    have hcz8_2 : wc.cell? ⟨gb346, 2, none⟩ = some (.int .u32 a0_2) := (blk_cell BK346.out 2).trans rfl
    have hfz8_0 := blk_frozen BK346.out 0
    have hfz8_1 := blk_frozen BK346.out 1
    have hfz8_2 := blk_frozen BK346.out 2
    go_wp2
    go_loopg [18] kj1 (fun kq v18 w' => ∃ (x18_2 : Int), v18 = .int .i64 x18_2 ∧ Aside0 (mainsheetlaw19_Ask_over.l0 kq l0_0 (l0_0.length : Int) x18_2 = some r) ∧ Aside0 (kq ≤ kj1) ∧ Aside0 (w'.heap[gb346]? = some (.cells #[(.slice A0_0 l0_0.length c0_0), (.slice A0_1 l0_1.length c0_1), .int .u32 a0_2] 41 (0, 0))) ∧ Aside0 (Below w.heap.size w w'))
    case atStart => exact ⟨(0), (by first | rfl | (simp; done) | (simp [*]; done)), H', ⟨Nat.le_refl _⟩, ⟨by (with_reducible repeat (first | refine blk_drewN ?_ _ | refine blk_drew ?_ | refine blk_alloc ?_ _)); exact BK346.out⟩, ⟨by repeat (first | (with_reducible first | exact HB.out | apply below_alloc | apply pw_below_drewN | apply below_drew1 | refine below_set ?_ GE346.out) | exact HB.out)⟩⟩
    case round =>
     clear H'
     try clear c1
     try clear p2
     try clear c4
     try clear c4b0
     try clear c4b1
     try clear c7
     try clear hcz5_0
     try clear hcz5_1
     try clear hcz5_2
     try clear hcz6_0
     try clear hcz6_1
     try clear hcz6_2
     try clear hcz8_0
     try clear hcz8_1
     try clear hcz8_2
     try clear hfz5_0
     try clear hfz5_1
     try clear hfz5_2
     try clear hfz6_0
     try clear hfz6_1
     try clear hfz6_2
     try clear hfz8_0
     try clear hfz8_1
     try clear hfz8_2
     try clear p2
     obtain ⟨x18_2, rfl, HA, HK2, BK346, HB⟩ := hrel
     cases gk with
     | zero => exact absurd HA.out (by simp [mainsheetlaw19_Ask_over.l0])
     | succ k2 =>
      have H := HA.out
      clear HA
      simp only [mainsheetlaw19_Ask_over.l0] at H
      by_cases c9 : x18_2 < (l0_0.length : Int)
      ·rw [if_pos c9] at H
       have c9b0 : decide (x18_2 < (l0_0.length : Int)) = true := decide_eq_true c9
       clear c9
       by_cases c10 : 0 ≤ x18_2
       ·rw [if_pos c10] at H
        have c10b0 : decide (0 ≤ x18_2) = true := decide_eq_true c10
        clear c10
        by_cases c11 : x18_2 < (l0_0.length : Int)
        ·rw [if_pos c11] at H
         have c11b0 : decide (x18_2 < (l0_0.length : Int)) = true := decide_eq_true c11
         clear c11
         by_cases c12 : (((rd_T90 l0_0 x18_2).f0).length : Int) > 40
         ·rw [if_pos c12] at H
          have c12b0 : decide (40 < (((rd_T90 l0_0 x18_2).f0).length : Int)) = true := decide_eq_true c12
          have c12b1 : decide (40 < ((rd_T90 l0_0 x18_2).f0).length) = true := decide_eq_true (by omega)
          clear c12
          obtain rfl := Option.some.inj H
          have p347 : 0 ≤ (x18_2 : Int) := of_decide_eq_true (by first | (with_reducible assumption) | assumption)
          have q347 : x18_2 < (l0_0.length : Int) := of_decide_eq_true (by first | (with_reducible assumption) | assumption)
          obtain ⟨ad347, A347_0, c347_0, e347, hx347_0, hx347_1, hx347_2, hx347_3, hx347_4, hx347_5, hl347_0, hi347_0⟩ := at_T90 HR0_0.out x18_2 p347 q347
          cases e347
          replace hx347_0 := (HB.out.cell (World.block_lt_of_cell? w _ hx347_0)).trans hx347_0
          replace hx347_1 := (HB.out.cell (World.block_lt_of_cell? w _ hx347_1)).trans hx347_1
          replace hx347_2 := (HB.out.cell (World.block_lt_of_cell? w _ hx347_2)).trans hx347_2
          replace hx347_3 := (HB.out.cell (World.block_lt_of_cell? w _ hx347_3)).trans hx347_3
          replace hx347_4 := (HB.out.cell (World.block_lt_of_cell? w _ hx347_4)).trans hx347_4
          replace hx347_5 := (HB.out.cell (World.block_lt_of_cell? w _ hx347_5)).trans hx347_5
          have HR347_0 := Aside0.mk hi347_0
          have HC347_0 := Aside0.mk hl347_0
          clear hi347_0 hl347_0
          replace p347 := eq_true p347
          replace q347 := eq_true q347
          go_wp2_with (first | ((with_reducible refine gate_dst (N := 4) rfl ?_); (try (refine gate_guard (by rfl) ?_; dsimp only)); refine box_event ?hg (N := 4) ?hd (cs := #[.slice none 0 0, .int .u64 0, .int .u64 0, .int .u64 0, .int .u64 0, .bool false]) (t := 90) ?hr ?_; (case hd => rfl); (case hg => rfl); (case hr => first | (go_simp; done) | (go_simp; rfl)); intro gb348 hg w13 hbox hb; have n0_ := Aside0.mk (blk_below (g := gb346) (o := .cells #[.slice (some ad347) l0_0.length c0_0, .slice A0_1 l0_1.length c0_1, .int .u32 a0_2] 41 (0, 0)) (by (with_reducible repeat (first | refine blk_drewN ?_ _ | refine blk_drew ?_ | refine blk_alloc ?_ _)); exact BK346.out) hb); have n1_ := Aside0.mk (below_step (by repeat (first | (with_reducible first | exact HB.out | apply below_alloc | apply pw_below_drewN | apply below_drew1 | refine below_set ?_ GE346.out) | exact HB.out)) hb); have n2_ := Aside0.mk (hbox); have n3_ := Aside0.mk ((by rw [hg]; exact (below_size (by repeat (first | (with_reducible first | exact HB.out | apply below_alloc | apply pw_below_drewN | apply below_drew1 | refine below_set ?_ GE346.out) | exact HB.out))) : w.heap.size ≤ gb348)); have n4_ := Aside0.mk ((by rw [hg]; exact (below_size (by repeat (first | (with_reducible first | exact HB.out | apply below_alloc | apply pw_below_drewN | apply below_drew1 | refine below_set ?_ GE346.out) | exact HB.out))) : w.heap.size ≤ gb348)); have n5_ := Aside0.mk ((by rw [hg]; exact Nat.ne_of_lt (blk_lt (g := gb346) (o := .cells #[.slice (some ad347) l0_0.length c0_0, .slice A0_1 l0_1.length c0_1, .int .u32 a0_2] 41 (0, 0)) (by (with_reducible repeat (first | refine blk_drewN ?_ _ | refine blk_drew ?_ | refine blk_alloc ?_ _)); exact BK346.out)) : gb346 ≠ gb348)); have n6_ := Aside0.mk ((by rw [hg]; exact Nat.ne_of_gt (blk_lt (g := gb346) (o := .cells #[.slice (some ad347) l0_0.length c0_0, .slice A0_1 l0_1.length c0_1, .int .u32 a0_2] 41 (0, 0)) (by (with_reducible repeat (first | refine blk_drewN ?_ _ | refine blk_drew ?_ | refine blk_alloc ?_ _)); exact BK346.out)) : gb348 ≠ gb346)); clear BK346; clear HB; have BK346 := n0_; have HB := n1_; have BK348 := n2_; have GW348 := n3_; have GE348 := n4_; have NB346_348 := n5_; have NB348_346 := n6_; clear n0_ n1_ n2_ n3_ n4_ n5_ n6_; clear hb hbox hg; have hnb14 := NB348_346.out; have hnc14 := NB346_348.out; have hcz15_0 : w13.cell? ⟨gb348, 0, none⟩ = some (.slice none 0 0) := (blk_cell BK348.out 0).trans rfl; have hcz15_1 : w13.cell? ⟨gb348, 1, none⟩ = some (.int .u64 0) := (blk_cell BK348.out 1).trans rfl; have hcz15_2 : w13.cell? ⟨gb348, 2, none⟩ = some (.int .u64 0) := (blk_cell BK348.out 2).trans rfl; have hcz15_3 : w13.cell? ⟨gb348, 3, none⟩ = some (.int .u64 0) := (blk_cell BK348.out 3).trans rfl; have hcz15_4 : w13.cell? ⟨gb348, 4, none⟩ = some (.int .u64 0) := (blk_cell BK348.out 4).trans rfl; have hcz15_5 : w13.cell? ⟨gb348, 5, none⟩ = some (.bool false) := (blk_cell BK348.out 5).trans rfl; have hfz15_0 := blk_frozen BK348.out 0; have hfz15_1 := blk_frozen BK348.out 1; have hfz15_2 := blk_frozen BK348.out 2; have hfz15_3 := blk_frozen BK348.out 3; have hfz15_4 := blk_frozen BK348.out 4; have hfz15_5 := blk_frozen BK348.out 5))
          go_ret
          exact ⟨by first | rfl | (simp [errW_none, errW_some] <;> rfl) | (simp [*, errW_none, errW_some] <;> rfl), by repeat (first | (with_reducible first | exact HB.out | apply below_alloc | apply pw_below_drewN | apply below_drew1 | refine below_set ?_ GE346.out | refine below_set ?_ GE348.out) | exact HB.out)⟩
         ·rw [if_neg c12] at H
          have c12b0 : decide (40 < (((rd_T90 l0_0 x18_2).f0).length : Int)) = false := decide_eq_false c12
          have c12b1 : decide (40 < ((rd_T90 l0_0 x18_2).f0).length) = false := decide_eq_false (by omega)
          clear c12
          have H' := Aside0.mk H
          clear H
          have p347 : 0 ≤ (x18_2 : Int) := of_decide_eq_true (by first | (with_reducible assumption) | assumption)
          have q347 : x18_2 < (l0_0.length : Int) := of_decide_eq_true (by first | (with_reducible assumption) | assumption)
          obtain ⟨ad347, A347_0, c347_0, e347, hx347_0, hx347_1, hx347_2, hx347_3, hx347_4, hx347_5, hl347_0, hi347_0⟩ := at_T90 HR0_0.out x18_2 p347 q347
          cases e347
          replace hx347_0 := (HB.out.cell (World.block_lt_of_cell? w _ hx347_0)).trans hx347_0
          replace hx347_1 := (HB.out.cell (World.block_lt_of_cell? w _ hx347_1)).trans hx347_1
          replace hx347_2 := (HB.out.cell (World.block_lt_of_cell? w _ hx347_2)).trans hx347_2
          replace hx347_3 := (HB.out.cell (World.block_lt_of_cell? w _ hx347_3)).trans hx347_3
          replace hx347_4 := (HB.out.cell (World.block_lt_of_cell? w _ hx347_4)).trans hx347_4
          replace hx347_5 := (HB.out.cell (World.block_lt_of_cell? w _ hx347_5)).trans hx347_5
          have HR347_0 := Aside0.mk hi347_0
          have HC347_0 := Aside0.mk hl347_0
          clear hi347_0 hl347_0
          replace p347 := eq_true p347
          replace q347 := eq_true q347
          go_wp2_with (first | ((with_reducible refine gate_dst (N := 4) rfl ?_); (try (refine gate_guard (by rfl) ?_; dsimp only)); refine box_event ?hg (N := 4) ?hd (cs := #[.slice none 0 0, .int .u64 0, .int .u64 0, .int .u64 0, .int .u64 0, .bool false]) (t := 90) ?hr ?_; (case hd => rfl); (case hg => rfl); (case hr => first | (go_simp; done) | (go_simp; rfl)); intro gb348 hg w16 hbox hb; have n0_ := Aside0.mk (blk_below (g := gb346) (o := .cells #[.slice (some ad347) l0_0.length c0_0, .slice A0_1 l0_1.length c0_1, .int .u32 a0_2] 41 (0, 0)) (by (with_reducible repeat (first | refine blk_drewN ?_ _ | refine blk_drew ?_ | refine blk_alloc ?_ _)); exact BK346.out) hb); have n1_ := Aside0.mk (below_step (by repeat (first | (with_reducible first | exact HB.out | apply below_alloc | apply pw_below_drewN | apply below_drew1 | refine below_set ?_ GE346.out) | exact HB.out)) hb); have n2_ := Aside0.mk (hbox); have n3_ := Aside0.mk ((by rw [hg]; exact (below_size (by repeat (first | (with_reducible first | exact HB.out | apply below_alloc | apply pw_below_drewN | apply below_drew1 | refine below_set ?_ GE346.out) | exact HB.out))) : w.heap.size ≤ gb348)); have n4_ := Aside0.mk ((by rw [hg]; exact (below_size (by repeat (first | (with_reducible first | exact HB.out | apply below_alloc | apply pw_below_drewN | apply below_drew1 | refine below_set ?_ GE346.out) | exact HB.out))) : w.heap.size ≤ gb348)); have n5_ := Aside0.mk ((by rw [hg]; exact Nat.ne_of_lt (blk_lt (g := gb346) (o := .cells #[.slice (some ad347) l0_0.length c0_0, .slice A0_1 l0_1.length c0_1, .int .u32 a0_2] 41 (0, 0)) (by (with_reducible repeat (first | refine blk_drewN ?_ _ | refine blk_drew ?_ | refine blk_alloc ?_ _)); exact BK346.out)) : gb346 ≠ gb348)); have n6_ := Aside0.mk ((by rw [hg]; exact Nat.ne_of_gt (blk_lt (g := gb346) (o := .cells #[.slice (some ad347) l0_0.length c0_0, .slice A0_1 l0_1.length c0_1, .int .u32 a0_2] 41 (0, 0)) (by (with_reducible repeat (first | refine blk_drewN ?_ _ | refine blk_drew ?_ | refine blk_alloc ?_ _)); exact BK346.out)) : gb348 ≠ gb346)); clear BK346; clear HB; have BK346 := n0_; have HB := n1_; have BK348 := n2_; have GW348 := n3_; have GE348 := n4_; have NB346_348 := n5_; have NB348_346 := n6_; clear n0_ n1_ n2_ n3_ n4_ n5_ n6_; clear hb hbox hg; have hnb17 := NB348_346.out; have hnc17 := NB346_348.out; have hcz18_0 : w16.cell? ⟨gb348, 0, none⟩ = some (.slice none 0 0) := (blk_cell BK348.out 0).trans rfl; have hcz18_1 : w16.cell? ⟨gb348, 1, none⟩ = some (.int .u64 0) := (blk_cell BK348.out 1).trans rfl; have hcz18_2 : w16.cell? ⟨gb348, 2, none⟩ = some (.int .u64 0) := (blk_cell BK348.out 2).trans rfl; have hcz18_3 : w16.cell? ⟨gb348, 3, none⟩ = some (.int .u64 0) := (blk_cell BK348.out 3).trans rfl; have hcz18_4 : w16.cell? ⟨gb348, 4, none⟩ = some (.int .u64 0) := (blk_cell BK348.out 4).trans rfl; have hcz18_5 : w16.cell? ⟨gb348, 5, none⟩ = some (.bool false) := (blk_cell BK348.out 5).trans rfl; have hfz18_0 := blk_frozen BK348.out 0; have hfz18_1 := blk_frozen BK348.out 1; have hfz18_2 := blk_frozen BK348.out 2; have hfz18_3 := blk_frozen BK348.out 3; have hfz18_4 := blk_frozen BK348.out 4; have hfz18_5 := blk_frozen BK348.out 5))
          go_roundg k2
          case measure => have := HJ1.out; have := HK2.out; omega
          case rel => exact ⟨(wrap64 (x18_2 + 1)), (by first | rfl | (simp; done) | (simp [*]; done)), H', ⟨by have := HJ1.out; have := HK2.out; omega⟩, ⟨by (with_reducible repeat (first | refine blk_drewN ?_ _ | refine blk_drew ?_ | refine blk_alloc ?_ _)); refine blk_far ?_ NB346_348.out _; (with_reducible repeat (first | refine blk_drewN ?_ _ | refine blk_drew ?_ | refine blk_alloc ?_ _)); refine blk_far ?_ NB346_348.out _; (with_reducible repeat (first | refine blk_drewN ?_ _ | refine blk_drew ?_ | refine blk_alloc ?_ _)); refine blk_far ?_ NB346_348.out _; (with_reducible repeat (first | refine blk_drewN ?_ _ | refine blk_drew ?_ | refine blk_alloc ?_ _)); refine blk_far ?_ NB346_348.out _; (with_reducible repeat (first | refine blk_drewN ?_ _ | refine blk_drew ?_ | refine blk_alloc ?_ _)); refine blk_far ?_ NB346_348.out _; (with_reducible repeat (first | refine blk_drewN ?_ _ | refine blk_drew ?_ | refine blk_alloc ?_ _)); refine blk_far ?_ NB346_348.out _; (with_reducible repeat (first | refine blk_drewN ?_ _ | refine blk_drew ?_ | refine blk_alloc ?_ _)); exact BK346.out⟩, ⟨by repeat (first | (with_reducible first | exact HB.out | apply below_alloc | apply pw_below_drewN | apply below_drew1 | refine below_set ?_ GE346.out | refine below_set ?_ GE348.out) | exact HB.out)⟩⟩
        ·rw [if_neg c11] at H
         exact absurd H (by simp)
       ·rw [if_neg c10] at H
        exact absurd H (by simp)
      ·rw [if_neg c9] at H
       have c9b0 : decide (x18_2 < (l0_0.length : Int)) = false := decide_eq_false c9
       clear c9
       obtain rfl := Option.some.inj H
       go_wp2
       go_ret
       exact ⟨by first | rfl | (simp [errW_none, errW_some] <;> rfl) | (simp [*, errW_none, errW_some] <;> rfl), by repeat (first | (with_reducible first | exact HB.out | apply below_alloc | apply pw_below_drewN | apply below_drew1 | refine below_set ?_ GE346.out) | exact HB.out)⟩

end Go.Proofs.YtdmieaidheelbaaDoor.Q
end
/- QFlaw19Askwish -/
section
namespace Go.Proofs.YtdmieaidheelbaaDoor.Q
open Go.RowKit Go.Proofs.YtdmieaidheelbaaDoorW.PrintWords Go.Proofs.YtdmieaidheelbaaDoorW.PrintLast Go.Proofs.YtdmieaidheelbaaDoorW.PrintMore
attribute [local go_sem] max2_int min2_int max_two min_two max_three min_three max_four min_four
set_option linter.unusedVariables false
set_option linter.unusedSimpArgs false

end Go.Proofs.YtdmieaidheelbaaDoor.Q
end
/- PureAsk -/
section
/- What the statements of layer 19 ask of an Ask: is it over, a vCPU's wish, are two rows of placements the same. Lists and numbers alone. -/
namespace Go.Proofs.YtdmieaidheelbaaDoor.Q
open Go Go.RowKit Go.Proofs.YtdmieaidheelbaaDoorW.PrintWords Go.Proofs.YtdmieaidheelbaaDoorW.PrintLast Go.Proofs.YtdmieaidheelbaaDoorW.PrintMore
set_option linter.unusedVariables false
set_option linter.unusedSimpArgs false

theorem rd90_eq (l : List S90) (i : Nat) (h : i < l.length) : rd_T90 l (i : Int) = l[i] := by simp [rd_T90, h]
theorem over_loop (l : List S90) (hl : l.length ≤ 40) (d : Nat) : ∀ (k i : Nat), i + d = l.length → d < k →
    mainsheetlaw19_Ask_over.l0 k l (l.length : Int) (i : Int) = some true ∨ (mainsheetlaw19_Ask_over.l0 k l (l.length : Int) (i : Int) = some false ∧ ∀ x ∈ l.drop i, x.f0.length ≤ 40) := by
  induction d with
  | zero =>
    intro k i hi hk
    obtain ⟨k, rfl⟩ : ∃ m, k = m + 1 := ⟨k - 1, by omega⟩
    refine .inr ⟨?_, by rw [List.drop_eq_nil_of_le (by omega)]; simp⟩
    rw [mainsheetlaw19_Ask_over.l0, if_neg (by omega)]
  | succ d ih =>
    intro k i hi hk
    obtain ⟨k, rfl⟩ : ∃ m, k = m + 1 := ⟨k - 1, by omega⟩
    have hlt : i < l.length := by omega
    rw [mainsheetlaw19_Ask_over.l0, if_pos (by omega), if_pos (by omega), if_pos (by omega), rd90_eq l i hlt]
    by_cases h : ((l[i].f0.length : Nat) : Int) > 40
    · rw [if_pos h]; exact .inl rfl
    · rw [if_neg h, w64 _ (by omega) (by omega), show (i : Int) + 1 = ((i + 1 : Nat) : Int) by omega]
      rcases ih k (i + 1) (by omega) (by omega) with g | ⟨g, g2⟩
      · exact .inl g
      · refine .inr ⟨g, fun x hx => ?_⟩
        rw [List.drop_eq_getElem_cons hlt] at hx
        rcases List.mem_cons.1 hx with rfl | hx
        · omega
        · exact g2 x hx
theorem over_val (l : List S90) (w : List S36) (a : Int) (k : Nat) (hk : 50 ≤ k) :
    mainsheetlaw19_Ask_over.f k l w a = some true ∨ (mainsheetlaw19_Ask_over.f k l w a = some false ∧ l.length ≤ 40 ∧ w.length ≤ 60 ∧ ∀ x ∈ l, x.f0.length ≤ 40) := by
  obtain ⟨k, rfl⟩ : ∃ m, k = m + 1 := ⟨k - 1, by omega⟩
  unfold mainsheetlaw19_Ask_over.f
  by_cases h1 : (l.length : Int) > 40
  · rw [if_pos h1]; exact .inl (by simp [mainsheetlaw19_Ask_over.j0])
  · rw [if_neg h1]
    by_cases h2 : (w.length : Int) > 60
    · exact .inl (by simp [mainsheetlaw19_Ask_over.j0, h2])
    · rw [mainsheetlaw19_Ask_over.j0, if_neg (by simpa using h2)]
      rcases over_loop l (by omega) l.length k 0 (by omega) (by omega) with g | ⟨g, g2⟩
      · exact .inl g
      · exact .inr ⟨g, by omega, by omega, by simpa using g2⟩


def wishOf (w : List S36) (v : Int) : S36 := (wishesN w [v]).headD z36
theorem wishOf_pos {x : S36} {w : List S36} {v : Int} (h : x.f0 = v) : wishOf (x :: w) v = x := by
  unfold wishOf wishesN
  rw [List.filter_cons, if_pos (by simp [h])]
  rfl
theorem wishOf_neg {x : S36} {w : List S36} {v : Int} (h : x.f0 ≠ v) : wishOf (x :: w) v = wishOf w v := by
  unfold wishOf wishesN
  rw [List.filter_cons, if_neg (by simp [h])]
end Go.Proofs.YtdmieaidheelbaaDoor.Q
end
/- PickCheck -/
section
/- pick.Check by its contract: at every row of entities and every row of wishes. -/
namespace Go.Proofs.YtdmieaidheelbaaDoor.Q
open Go Go.RowKit Go.Proofs.YtdmieaidheelbaaDoorW.PrintWords Go.Proofs.YtdmieaidheelbaaDoorW.PrintLast Go.Proofs.YtdmieaidheelbaaDoorW.PrintMore
set_option linter.unusedVariables false
set_option linter.unusedSimpArgs false

def low (prev : Option Int) (v : Int) : Bool := match prev with | some p => decide (v ≤ p) | none => false
def badMem (met : List Bool) (prev : Option Int) (v : Int) : Bool := decide (v < 1) || decide (16 < v) || met.getD v.toNat false || low prev v
def checkMems : List Bool → Option Int → List Int → Option (List Bool)
  | met, _, [] => some met
  | met, prev, v :: l => if badMem met prev v then none else checkMems (met.set v.toNat true) (some v) l
def checkEnts : List Bool → Nat → List S90 → Option (List Bool × Nat)
  | met, n, [] => some (met, n)
  | met, n, x :: l => if x.f0.length < 1 ∨ 8 < x.f0.length then none else match checkMems met none x.f0 with
    | none => none
    | some met' => checkEnts met' (n + x.f0.length) l
def badW (met : List Bool) (prev : Option Int) (v : Int) : Bool := decide (v < 1) || decide (16 < v) || !met.getD v.toNat false || low prev v
def checkWs : List Bool → Option Int → List S36 → Bool
  | _, _, [] => true
  | met, prev, x :: l => if badW met prev x.f0 then false else checkWs met (some x.f0) l
def met0 : List Bool := List.replicate 17 false
def placeChk (l : List S36) : Int := checkFrom met0 (List.replicate 8 false) l
def pickEnd (w : List S36) : Option (List Bool × Nat) → Int
  | none => 290
  | some (met, n) => if checkWs met none w then (if w.length = n then placeChk w else 290) else 290
def pickCheck (l : List S90) (w : List S36) : Int := pickEnd w (checkEnts met0 0 l)
def okPick (l : List S90) (w : List S36) : Prop := (∀ x ∈ w, Wf36 x) ∧ w.length ≤ 1000000 ∧ l.length ≤ 1000000
instance (l : List S90) (w : List S36) : Decidable (okPick l w) := inferInstanceAs (Decidable (_ ∧ _ ∧ _))
def pick_Check.f (l0 : List S90) (l1 : List S36) : Option Int := if okPick l0 l1 then some (pickCheck l0 l1) else none

theorem ents_step (met : List Bool) (n : Nat) (l : List S90) (k : Nat) (hk : k < l.length) : checkEnts met n (l.drop k) =
    if (rd_T90 l k).f0.length < 1 ∨ 8 < (rd_T90 l k).f0.length then none else match checkMems met none (rd_T90 l k).f0 with
    | none => none
    | some met' => checkEnts met' (n + (rd_T90 l k).f0.length) (l.drop (k + 1)) := by
  rw [List.drop_eq_getElem_cons hk, checkEnts]
  have : rd_T90 l (k : Int) = l[k] := by simp [rd_T90, hk]
  rw [this]
def prevAt (xs : List Int) (k : Nat) : Option Int := if k = 0 then none else some (rd xs ((k - 1 : Nat) : Int))
theorem mems_step (met : List Bool) (xs : List Int) (k : Nat) (hk : k < xs.length) : checkMems met (prevAt xs k) (xs.drop k) =
    if badMem met (prevAt xs k) (rd xs k) then none else checkMems (met.set (rd xs k).toNat true) (prevAt xs (k + 1)) (xs.drop (k + 1)) := by
  rw [List.drop_eq_getElem_cons hk, checkMems]
  have e : rd xs (k : Int) = xs[k] := by simp [rd, hk]
  have e2 : prevAt xs (k + 1) = some xs[k] := by unfold prevAt; rw [if_neg (by omega), ← e]; rfl
  rw [e, e2]

def prevW (l : List S36) (k : Nat) : Option Int := if k = 0 then none else some (rd_T36 l ((k - 1 : Nat) : Int)).f0
theorem ws_step (met : List Bool) (l : List S36) (k : Nat) (hk : k < l.length) : checkWs met (prevW l k) (l.drop k) =
    if badW met (prevW l k) (rd_T36 l k).f0 then false else checkWs met (prevW l (k + 1)) (l.drop (k + 1)) := by
  rw [List.drop_eq_getElem_cons hk, checkWs]
  have e : rd_T36 l (k : Int) = l[k] := by simp [rd_T36, hk]
  have e2 : prevW l (k + 1) = some l[k].f0 := by unfold prevW; rw [if_neg (by omega), ← e]; rfl
  rw [e, e2]

set_option maxRecDepth 100000 in
set_option maxHeartbeats 8000000 in
theorem pick_Check.calls (A0 : Option Addr) (c0 : Nat) (l0 : List (S90)) (A1 : Option Addr) (c1 : Nat) (l1 : List (S36)) (r : Int) (w : World) (hr0 : Kd.C k90 w A0 l0.length l0) (hc0 : l0.length ≤ c0) (hr1 : Kd.C k36 w A1 l1.length l1) (hc1 : l1.length ≤ c1) (h : pick_Check.f l0 l1 = some r) :
    Calls Tryd.prog 48 #[.slice A0 l0.length c0, .slice A1 l1.length c1] w fun e w' => e = .returned (.int .i64 r) ∧ Below w.heap.size w w' := by
  unfold pick_Check.f at h
  by_cases hok : okPick l0 l1
  case neg => rw [if_neg hok] at h; cases h
  rw [if_pos hok] at h
  have hR := Aside0.mk (Option.some.inj h)
  clear h
  obtain ⟨hwf, hl1m, hl0m⟩ := hok
  have hu36 := Tryd.underlying36
  have hu90 := Tryd.underlying90
  have HR0 := Aside0.mk hr0
  have HR1 := Aside0.mk hr1
  have HWF := Aside0.mk hwf
  have HC0 := Aside0.mk hc0
  have HC1 := Aside0.mk hc1
  clear hr0 hwf hc0 hr1 hc1
  go_enter Tryd.func48, Tryd.ntmps48
  go_wp2
  go_loopw [15, 6] (fun s15 s6 wr => ∃ (k n : Nat) (met : List Bool), k ≤ l0.length ∧ s15 = .int .i64 k ∧ s6 = .int .i64 n ∧ n ≤ 8 * k ∧ Aside0 (pickEnd l1 (checkEnts met n (l0.drop k)) = r) ∧ met.length = 17 ∧ Aside0 (Bools wr w.heap.size 114 met) ∧ Aside0 (Below w.heap.size w wr))
    (fun s15 _ _ => l0.length - (intOf s15).toNat)
  case atStart => exact ⟨0, 0, met0, Nat.zero_le _, rfl, rfl, Nat.zero_le _, hR, by simp [met0], ⟨heap_alloc_new w _⟩, ⟨(Below.refl _ w).alloc (Nat.le_refl _) _⟩⟩
  case round =>
    obtain ⟨k, n, met, hk, rfl, rfl, hn, HA, hml, HM, HB⟩ := hrel
    clear hR
    by_cases hlt : k < l0.length
    case neg =>
      obtain rfl : k = l0.length := by omega
      have ha := HA.out
      rw [List.drop_length, checkEnts] at ha
      have HAA : Aside0 ((if checkWs met none l1 then (if l1.length = n then placeChk l1 else 290) else 290) = r) := ⟨ha⟩
      clear ha HA hlt HR0 hu90
      have HM0 := HM
      have HB0 := HB
      clear HM HB
      go_wp2
      go_loopw [70] (fun s70 wi => ∃ (j : Nat), j ≤ l1.length ∧ s70 = .int .i64 j ∧ Aside0 (checkWs met (prevW l1 j) (l1.drop j) = checkWs met none l1) ∧ Aside0 (Bools wi w.heap.size 114 met) ∧ Aside0 (Below w.heap.size w wi))
        (fun s70 _ => l1.length - (intOf s70).toNat)
      case atStart => exact ⟨0, Nat.zero_le _, rfl, ⟨rfl⟩, HM0, HB0⟩
      case round =>
        obtain ⟨j, hj, rfl, HWS, HM1, HB1⟩ := hrel
        clear HM0 HB0
        by_cases hjl : j < l1.length
        case neg =>
          have hws := HWS.out
          rw [List.drop_eq_nil_of_le (by omega), checkWs] at hws
          obtain rfl : j = l1.length := by omega
          have haa := HAA.out
          rw [← hws, if_pos rfl] at haa
          clear hjl HWS
          by_cases hln : l1.length = n
          · rw [if_pos hln] at haa
            have hv : place_Check.f l1 = some r := by unfold place_Check.f; rw [if_pos ⟨HWF.out, hl1m⟩]; exact congrArg some haa
            have HV := Aside0.mk hv
            subst hln
            clear haa hv HAA hws
            go_wp2_with (go_at_call 37; refine (place_Check.calls A1 c1 l1 r _ (Kd.C_below HR1.out HB1.out) HC1.out HV.out).mono ?_; rintro e w5 ⟨rfl, hb5⟩; have HB5 := Aside0.mk (below_step HB1.out hb5); clear hb5)
            go_ret
            exact ⟨rfl, HB5.out⟩
          · rw [if_neg hln] at haa
            subst haa
            have hq : ((l1.length : Int) != (n : Int)) = true := by rw [bne_iff_ne]; omega
            clear HAA hws hln
            go_wp2
            go_ret
            exact ⟨rfl, HB1.out⟩
        case pos =>
          obtain ⟨ad, rfl, hx0, hx1, hx2, hx3⟩ := at_T36 (Kd.C_below HR1.out HB1.out) (j : Int) (by omega) (by omega)
          rw [Int.toNat_natCast] at hx0 hx1 hx2 hx3
          have hws := ws_step met l1 j hjl
          rw [HWS.out] at hws
          have hbad : badW met (prevW l1 j) (rd_T36 l1 (j : Int)).f0 = true → r = 290 := fun hb => by
            rw [← HAA.out, hws, if_pos hb]; rfl
          have HBAD := Aside0.mk hbad
          have HSTEP := Aside0.mk hws
          have hprev : ∀ m : Nat, j = m + 1 → wr.cell? (ad.add (m * 4)) = some (.int .i64 (rd_T36 l1 m).f0) := fun m e => by
            obtain ⟨ad2, e2, hv1, _⟩ := at_T36 (Kd.C_below HR1.out HB1.out) (m : Int) (by omega) (by omega)
            injection e2 with e2
            subst e2
            rw [Int.toNat_natCast] at hv1
            exact hv1
          have hpv : ∀ m : Nat, j = m + 1 → prevW l1 j = some (rd_T36 l1 m).f0 := fun m e => by unfold prevW; rw [if_neg (by omega), e]; rfl
          have hp0 : j = 0 → prevW l1 j = none := fun e => by unfold prevW; rw [if_pos e]
          have HPREV := Aside0.mk hprev
          have HPV := Aside0.mk hpv
          have HP0 := Aside0.mk hp0
          clear hws hbad hprev hpv hp0
          generalize rd_T36 l1 (j : Int) = x at *
          obtain ⟨v, f1, ⟨mh, ms⟩⟩ := x
          simp only at hx0 hx1 hx2 hx3
          have HBA := Aside0.mk (below_alloc HB1.out (.cells #[.int .i64 v, .int .i64 f1, .int .u32 mh, .int .u32 ms] 36))
          have HMA := Aside0.mk (HM1.out.alloc (.cells #[.int .i64 v, .int .i64 f1, .int .u32 mh, .int .u32 ms] 36))
          have hsz1 : w.heap.size < wr.heap.size := blk_lt HM1.out
          by_cases d1 : v < 1
          · obtain rfl := HBAD.out (by unfold badW; simp only [d1, decide_true, Bool.true_or])
            go_wp2
            go_quiet (fail)
            go_wp2
            go_ret
            exact ⟨rfl, pw_below_drewN HBA.out nq⟩
          replace d1 : 1 ≤ v := by omega
          have hn1 : decide (v < 1) = false := decide_eq_false (by omega)
          by_cases d2 : 16 < v
          · obtain rfl := HBAD.out (by unfold badW; simp only [d2, decide_true, Bool.true_or, Bool.or_true])
            go_wp2
            go_quiet (fail)
            go_wp2
            go_ret
            exact ⟨rfl, pw_below_drewN HBA.out nq⟩
          replace d2 : v ≤ 16 := by omega
          obtain ⟨v, rfl⟩ : ∃ u : Nat, v = u := ⟨v.toNat, by omega⟩
          have hmv := HMA.out.cell v (by omega)
          have hn2 : decide (16 < (v : Int)) = false := decide_eq_false (by omega)
          cases d3 : met.getD v false with
          | false =>
            obtain rfl := HBAD.out (by unfold badW; simp only [Int.toNat_natCast, d3, Bool.not_false, Bool.true_or, Bool.or_true])
            rw [d3] at hmv
            clear d3
            have hi0 : (0 : Int) ≤ v := by omega
            have hi1 : (v : Int) < 17 := by omega
            go_wp2
            go_quiet (fail)
            go_wp2
            go_ret
            exact ⟨rfl, pw_below_drewN HBA.out nq⟩
          | true =>
          rw [d3] at hmv
          have hi0 : (0 : Int) ≤ v := by omega
          have hi1 : (v : Int) < 17 := by omega
          have hfin : low (prevW l1 j) (v : Int) = false → Aside0 (checkWs met (prevW l1 (j + 1)) (l1.drop (j + 1)) = checkWs met none l1) := fun hl => ⟨by
            rw [HSTEP.out, if_neg (by
              unfold badW
              have a1 : ¬ ((v : Int) < 1) := by omega
              have a2 : ¬ (16 < (v : Int)) := by omega
              simp only [Int.toNat_natCast, d3, a1, a2, hl, decide_false, Bool.or_false, Bool.not_true]; decide)]⟩
          have HFIN := Aside0.mk hfin
          have hbad4 : low (prevW l1 j) (v : Int) = true → r = 290 := fun hl => HBAD.out (by unfold badW; simp only [hl, Bool.or_true])
          have HBAD4 := Aside0.mk hbad4
          clear hfin hbad4 d3
          cases j with
          | zero =>
            have HF := HFIN.out (by rw [HP0.out rfl]; rfl)
            have ea : ad.add (0 * 4) = ad := by unfold Addr.add; simp
            rw [ea] at hx0 hx1 hx2 hx3
            clear ea
            go_wp2
            go_quiet (fail)
            go_wp2
            go_roundw
            case measure => simp only [intOf]; omega
            case rel => exact ⟨1, by omega, rfl, HF, ⟨blk_at rfl HMA.out⟩, ⟨pw_below_drewN HBA.out nq⟩⟩
          | succ m =>
            have hpc := pw_cell_below ((Below.refl _ _).alloc (Nat.le_refl _) (.cells #[.int .i64 (v : Int), .int .i64 f1, .int .u32 mh, .int .u32 ms] 36)) (HPREV.out m rfl)
            have hpe := HPV.out m rfl
            have HPE := Aside0.mk hpe
            clear hpe
            generalize (rd_T36 l1 (m : Int)).f0 = u at *
            have hj1 : decide ((0 : Int) < (m : Int) + 1) = true := decide_eq_true (by omega)
            have hj2 : IntKind.i64.wrap ((m : Int) + 1 - 1) = (m : Int) := by rw [IntWalk.i64_in _ (by omega)]; omega
            by_cases d5 : (v : Int) ≤ u
            · obtain rfl := HBAD4.out (by rw [HPE.out]; unfold low; simp only [d5, decide_true])
              go_wp2
              go_quiet (fail)
              go_wp2
              go_ret
              exact ⟨rfl, pw_below_drewN HBA.out nq⟩
            · have HF := HFIN.out (by rw [HPE.out]; unfold low; simp only [d5, decide_false])
              have hd5 : decide ((v : Int) ≤ u) = false := decide_eq_false d5
              clear d5
              go_wp2
              go_quiet (fail)
              go_wp2
              go_roundw
              case measure => simp only [intOf]; omega
              case rel => exact ⟨m + 1 + 1, by omega, by go_num, HF, ⟨blk_at rfl HMA.out⟩, ⟨pw_below_drewN HBA.out nq⟩⟩
    case pos =>
    obtain ⟨ad, Am, cm, rfl, hx0, hx1, hx2, hx3, hx4, hx5, hcm, hCm⟩ := at_T90 HR0.out (k : Int) (by omega) (by omega)
    rw [Int.toNat_natCast] at hx0 hx1 hx2 hx3 hx4 hx5
    replace hx0 := pw_cell_below HB.out hx0
    replace hx1 := pw_cell_below HB.out hx1
    replace hx2 := pw_cell_below HB.out hx2
    replace hx3 := pw_cell_below HB.out hx3
    replace hx4 := pw_cell_below HB.out hx4
    replace hx5 := pw_cell_below HB.out hx5
    have hst := ents_step met n l0 k hlt
    generalize rd_T90 l0 (k : Int) = x at *
    obtain ⟨ms, ⟨⟨t1, t2⟩, t3⟩, t4, t5⟩ := x
    simp only at hx0 hx1 hx2 hx3 hx4 hx5 hcm hCm hst
    have hsz : w.heap.size < wr.heap.size := blk_lt HM.out
    by_cases c1 : ms.length < 1
    · obtain rfl : r = 290 := by rw [← HA.out, hst, if_pos (.inl c1)]; rfl
      clear hst HA
      go_wp2
      go_ret
      exact ⟨rfl, below_alloc HB.out _⟩
    by_cases c2 : 8 < ms.length
    · obtain rfl : r = 290 := by rw [← HA.out, hst, if_pos (.inr c2)]; rfl
      clear hst HA
      go_wp2
      go_ret
      exact ⟨rfl, below_alloc HB.out _⟩
    rw [if_neg (by omega)] at hst
    have HST := Aside0.mk hst
    have HCM := Aside0.mk hCm
    clear hst hCm
    go_wp2
    have H80 := Aside0.mk (heap_alloc_new wr (.cells #[.slice Am ms.length cm, .int .u64 t1, .int .u64 t2, .int .u64 t3, .int .u64 t4, .bool t5] 90))
    have HM0 := Aside0.mk (HM.out.alloc (.cells #[.slice Am ms.length cm, .int .u64 t1, .int .u64 t2, .int .u64 t3, .int .u64 t4, .bool t5] 90))
    have HB0 := Aside0.mk (below_alloc HB.out (.cells #[.slice Am ms.length cm, .int .u64 t1, .int .u64 t2, .int .u64 t3, .int .u64 t4, .bool t5] 90))
    have HHB := Aside0.mk HB.out
    clear hx0 hx1 hx2 hx3 hx4 hx5 HM HB
    generalize wr.alloc (.cells #[.slice Am ms.length cm, .int .u64 t1, .int .u64 t2, .int .u64 t3, .int .u64 t4, .bool t5] 90) = w1 at *
    generalize wr.heap.size = b8 at *
    go_loopw [32, 6] (fun s32 s6 wi => ∃ (j : Nat) (met1 : List Bool), j ≤ ms.length ∧ s32 = .int .i64 j ∧ s6 = .int .i64 ((n + j : Nat) : Int) ∧ Aside0 (checkMems met1 (prevAt ms j) (ms.drop j) = checkMems met none ms) ∧ met1.length = 17 ∧ Aside0 (Bools wi w.heap.size 114 met1) ∧
        Aside0 (wi.heap[b8]? = some (.cells #[.slice Am ms.length cm, .int .u64 t1, .int .u64 t2, .int .u64 t3, .int .u64 t4, .bool t5] 90 (0, 0))) ∧ Aside0 (Below w.heap.size w wi))
      (fun s32 _ _ => ms.length - (intOf s32).toNat)
    case atStart => exact ⟨0, met, Nat.zero_le _, rfl, rfl, ⟨rfl⟩, hml, HM0, H80, HB0⟩
    case round =>
      obtain ⟨j, met1, hj, rfl, rfl, HMS, hml1, HM1, H81, HB1⟩ := hrel
      clear HM0 H80 HB0
      by_cases hjl : j < ms.length
      case neg =>
        obtain rfl : j = ms.length := by omega
        have hms := HMS.out
        rw [List.drop_length, checkMems] at hms
        have hst2 := HST.out
        rw [← hms] at hst2
        simp only at hst2
        have hnew : pickEnd l1 (checkEnts met1 (n + ms.length) (l0.drop (k + 1))) = r := by rw [← HA.out, hst2]
        have HNEW := Aside0.mk hnew
        clear hms hst2 hnew HA HST HMS
        go_wp2
        go_roundw
        case measure => simp only [intOf]; omega
        case rel => exact ⟨k + 1, n + ms.length, met1, by omega, rfl, rfl, by omega, HNEW, hml1, HM1, HB1⟩
      case pos =>
        obtain ⟨ai, rfl, hv0⟩ := Kd.at_int (Kd.C_below HCM.out HB1.out) (j : Int) (by omega) (by omega)
        rw [Int.toNat_natCast] at hv0
        have hms := mems_step met1 ms j hjl
        rw [HMS.out] at hms
        have hbad : badMem met1 (prevAt ms j) (rd ms j) = true → r = 290 := fun hb => by
          rw [← HA.out, HST.out, hms, if_pos hb]; rfl
        have HBAD := Aside0.mk hbad
        have HSTEP := Aside0.mk hms
        have h8 := H81.out
        have k8 := blk_cell h8 0
        simp only [List.getElem?_toArray, List.getElem?_cons_zero] at k8
        have hsz1 : w.heap.size < wr.heap.size := blk_lt HM1.out
        have hprev : ∀ m : Nat, j = m + 1 → wr.cell? (ai.add m) = some (.int .i64 (rd ms m)) := fun m e => by
          obtain ⟨ai2, e2, hv1⟩ := Kd.at_int (Kd.C_below HCM.out HB1.out) (m : Int) (by omega) (by omega)
          injection e2 with e2
          subst e2
          rw [Int.toNat_natCast] at hv1
          exact hv1
        have hpv : ∀ m : Nat, j = m + 1 → prevAt ms j = some (rd ms m) := fun m e => by unfold prevAt; rw [if_neg (by omega), e]; rfl
        have hp0 : j = 0 → prevAt ms j = none := fun e => by unfold prevAt; rw [if_pos e]
        have HPREV := Aside0.mk hprev
        have HPV := Aside0.mk hpv
        have HP0 := Aside0.mk hp0
        clear hms hbad hprev hpv hp0
        generalize hvv : rd ms (j : Int) = v at *
        have HVV := Aside0.mk hvv
        clear hvv
        by_cases d1 : v < 1
        · obtain rfl := HBAD.out (by unfold badMem; simp only [d1, decide_true, Bool.true_or])
          go_wp2
          go_ret
          exact ⟨rfl, HB1.out⟩
        replace d1 : 1 ≤ v := by omega
        by_cases d2 : 16 < v
        · obtain rfl := HBAD.out (by unfold badMem; simp only [d2, decide_true, Bool.true_or, Bool.or_true])
          go_wp2
          go_ret
          exact ⟨rfl, HB1.out⟩
        replace d2 : v ≤ 16 := by omega
        obtain ⟨v, rfl⟩ : ∃ u : Nat, v = u := ⟨v.toNat, by omega⟩
        have hmv := HM1.out.cell v (by omega)
        have hmf := HM1.out.frozen v
        cases d3 : met1.getD v false with
        | true =>
          obtain rfl := HBAD.out (by unfold badMem; simp only [Int.toNat_natCast, d3, Bool.true_or, Bool.or_true])
          rw [d3] at hmv
          clear d3
          go_wp2
          go_ret
          exact ⟨rfl, HB1.out⟩
        | false =>
        rw [d3] at hmv
        have hfin : low (prevAt ms j) (v : Int) = false → Aside0 (checkMems (met1.set v true) (prevAt ms (j + 1)) (ms.drop (j + 1)) = checkMems met none ms) := fun hl => ⟨by
          rw [HSTEP.out, if_neg (by
            unfold badMem
            have a1 : ¬ ((v : Int) < 1) := by omega
            have a2 : ¬ (16 < (v : Int)) := by omega
            simp only [Int.toNat_natCast, d3, a1, a2, hl, decide_false, Bool.or_false]; decide), Int.toNat_natCast]⟩
        have HFIN := Aside0.mk hfin
        have hbad4 : low (prevAt ms j) (v : Int) = true → r = 290 := fun hl => HBAD.out (by unfold badMem; simp only [hl, Bool.or_true])
        have HBAD4 := Aside0.mk hbad4
        clear hfin hbad4 d3
        cases j with
        | zero =>
          have HF := HFIN.out (by rw [HP0.out rfl]; rfl)
          have ea : ai.add 0 = ai := by unfold Addr.add; simp
          rw [ea] at hv0
          clear ea
          go_wp2
          go_roundw
          case measure => simp only [intOf]; omega
          case rel => exact ⟨1, met1.set v true, by omega, by go_num, by go_num, HF, by simpa using hml1, ⟨HM1.out.set v true⟩, ⟨blk_far h8 (by simp; omega) _⟩, ⟨HB1.out.setCell (p := ⟨w.heap.size, v, none⟩) (Nat.le_refl _) _⟩⟩
        | succ m =>
          have hpc := HPREV.out m rfl
          have hpe := HPV.out m rfl
          have ea : ai.add (m + 1) = ⟨ai.block, ai.off + (m + 1), none⟩ := by unfold Addr.add; simp
          rw [ea] at hv0
          clear ea
          have HPE := Aside0.mk hpe
          clear hpe
          generalize rd ms (m : Int) = u at *
          by_cases d5 : (v : Int) ≤ u
          · obtain rfl := HBAD4.out (by rw [HPE.out]; unfold low; simp only [d5, decide_true])
            go_wp2
            go_ret
            exact ⟨rfl, HB1.out⟩
          · have HF := HFIN.out (by rw [HPE.out]; unfold low; simp only [d5, decide_false])
            replace d5 : u < v := by omega
            go_wp2
            go_roundw
            case measure => simp only [intOf]; omega
            case rel => exact ⟨m + 1 + 1, met1.set v true, by omega, by go_num, by go_num, HF, by simpa using hml1, ⟨HM1.out.set v true⟩, ⟨blk_far h8 (by simp; omega) _⟩, ⟨HB1.out.setCell (p := ⟨w.heap.size, v, none⟩) (Nat.le_refl _) _⟩⟩
end Go.Proofs.YtdmieaidheelbaaDoor.Q
end
/- PickGood -/
section
/- What pick.Check lets through: each member has one wish, in its order. Lists and numbers alone. -/
namespace Go.Proofs.YtdmieaidheelbaaDoor.Q
open Go Go.RowKit Go.Proofs.YtdmieaidheelbaaDoorW.PrintWords Go.Proofs.YtdmieaidheelbaaDoorW.PrintLast Go.Proofs.YtdmieaidheelbaaDoorW.PrintMore
set_option linter.unusedVariables false
set_option linter.unusedSimpArgs false

abbrev Ent := S90
def at17 (met : List Bool) (c : Int) : Bool := met.getD c.toNat false
theorem at17_set (met : List Bool) (hm : met.length = 17) (v : Int) (h1 : 1 ≤ v) (h2 : v ≤ 16) (c : Int) (hc : 0 ≤ c) : at17 (met.set v.toNat true) c = (at17 met c || decide (c = v)) := by
  unfold at17
  rw [List.getD_eq_getElem?_getD, List.getElem?_set, List.getD_eq_getElem?_getD]
  by_cases e : c = v
  · subst e
    rw [if_pos rfl, if_pos (by omega)]; simp
  · rw [if_neg (by omega)]; simp [e]
def Rises (prev : Option Int) (v : Int) : Prop := ∀ p, prev = some p → p < v
theorem low_iff (prev : Option Int) (v : Int) : low prev v = false ↔ Rises prev v := by
  unfold low Rises
  cases prev with
  | none => simp
  | some p => simp
theorem badMem_iff (met : List Bool) (prev : Option Int) (v : Int) : badMem met prev v = false ↔ 1 ≤ v ∧ v ≤ 16 ∧ at17 met v = false ∧ Rises prev v := by
  unfold badMem
  simp only [Bool.or_eq_false_iff, decide_eq_false_iff_not, low_iff]
  unfold at17
  constructor
  · rintro ⟨⟨⟨h1, h2⟩, h3⟩, h4⟩; exact ⟨by omega, by omega, h3, h4⟩
  · rintro ⟨h1, h2, h3, h4⟩; exact ⟨⟨⟨by omega, by omega⟩, h3⟩, h4⟩
def MemsOk (met : List Bool) (prev : Option Int) (l : List Int) : Prop := l.Pairwise (· < ·) ∧ ∀ v ∈ l, 1 ≤ v ∧ v ≤ 16 ∧ at17 met v = false ∧ Rises prev v
theorem mems_iff (l : List Int) : ∀ (met : List Bool) (prev : Option Int), met.length = 17 → ((∃ met', checkMems met prev l = some met') ↔ MemsOk met prev l) := by
  induction l with
  | nil => intro met prev _; exact ⟨fun _ => ⟨List.Pairwise.nil, by simp⟩, fun _ => ⟨met, rfl⟩⟩
  | cons v l ih =>
    intro met prev hm
    rw [checkMems]
    constructor
    · rintro ⟨met', h⟩
      split at h
      · cases h
      · next hb =>
        obtain ⟨h1, h2, h3, h4⟩ := (badMem_iff _ _ _).1 (by simpa using hb)
        obtain ⟨g1, g2⟩ := (ih (met.set v.toNat true) (some v) (by simpa using hm)).1 ⟨met', h⟩
        refine ⟨List.pairwise_cons.2 ⟨fun u hu => (g2 u hu).2.2.2 v rfl, g1⟩, fun u hu => ?_⟩
        rcases List.mem_cons.1 hu with rfl | hu
        · exact ⟨h1, h2, h3, h4⟩
        · obtain ⟨q1, q2, q3, q4⟩ := g2 u hu
          have := q4 v rfl
          rw [at17_set met hm v h1 h2 u (by omega)] at q3
          simp only [Bool.or_eq_false_iff] at q3
          exact ⟨q1, q2, q3.1, fun p hp => by have := h4 p hp; omega⟩
    · rintro ⟨g1, g2⟩
      obtain ⟨h1, h2⟩ := List.pairwise_cons.1 g1
      have hv := g2 v (by simp)
      rw [if_neg (by rw [(badMem_iff _ _ _).2 hv]; simp)]
      refine (ih (met.set v.toNat true) (some v) (by simpa using hm)).2 ⟨h2, fun u hu => ?_⟩
      obtain ⟨q1, q2, q3, q4⟩ := g2 u (by simp [hu])
      have := h1 u hu
      refine ⟨q1, q2, ?_, fun p hp => by cases hp; exact this⟩
      rw [at17_set met hm v hv.1 hv.2.1 u (by omega), q3, decide_eq_false (by omega)]; rfl
theorem mems_met (l : List Int) : ∀ (met met' : List Bool) (prev : Option Int), met.length = 17 → checkMems met prev l = some met' → met'.length = 17 ∧ ∀ c, 0 ≤ c → at17 met' c = (at17 met c || decide (c ∈ l)) := by
  induction l with
  | nil => intro met met' prev hm h; obtain rfl : met = met' := by simpa [checkMems] using h
           exact ⟨hm, fun c _ => by simp⟩
  | cons v l ih =>
    intro met met' prev hm h
    rw [checkMems] at h
    split at h
    · cases h
    · next hb =>
      obtain ⟨h1, h2, h3, h4⟩ := (badMem_iff _ _ _).1 (by simpa using hb)
      obtain ⟨g1, g2⟩ := ih _ met' _ (by simpa using hm) h
      refine ⟨g1, fun c hc => ?_⟩
      rw [g2 c hc, at17_set met hm v h1 h2 c hc]
      by_cases e : c = v
      · simp [e]
      · simp [e]

def EntsOk (met : List Bool) (l : List Ent) : Prop :=
  (∀ x ∈ l, 1 ≤ x.f0.length ∧ x.f0.length ≤ 8 ∧ MemsOk met none x.f0) ∧ l.Pairwise (fun x y => ∀ v ∈ x.f0, v ∉ y.f0)
def members (l : List Ent) : List Int := l.flatMap (·.f0)
theorem ents_iff (l : List Ent) : ∀ (met : List Bool) (n : Nat), met.length = 17 → ((∃ r, checkEnts met n l = some r) ↔ EntsOk met l) := by
  induction l with
  | nil => intro met n _; exact ⟨fun _ => ⟨by simp, List.Pairwise.nil⟩, fun _ => ⟨_, rfl⟩⟩
  | cons x l ih =>
    intro met n hm
    rw [checkEnts]
    constructor
    · rintro ⟨r, h⟩
      split at h
      · cases h
      · next hlen =>
        cases hq : checkMems met none x.f0 with
        | none => rw [hq] at h; cases h
        | some met' =>
          rw [hq] at h
          have hmo := (mems_iff x.f0 met none hm).1 ⟨met', hq⟩
          obtain ⟨hm', hmet⟩ := mems_met x.f0 met met' none hm hq
          obtain ⟨g1, g2⟩ := (ih met' _ hm').1 ⟨r, h⟩
          refine ⟨fun y hy => ?_, List.pairwise_cons.2 ⟨fun y hy v hv hvy => ?_, g2⟩⟩
          · rcases List.mem_cons.1 hy with rfl | hy
            · exact ⟨by omega, by omega, hmo⟩
            · obtain ⟨q1, q2, q3, q4⟩ := g1 y hy
              refine ⟨q1, q2, q3, fun v hv => ?_⟩
              obtain ⟨p1, p2, p3, p4⟩ := q4 v hv
              rw [hmet v (by omega)] at p3
              simp only [Bool.or_eq_false_iff] at p3
              exact ⟨p1, p2, p3.1, p4⟩
          · obtain ⟨p1, p2, p3, p4⟩ := (g1 y hy).2.2.2 v hvy
            rw [hmet v (by omega), decide_eq_true hv] at p3
            simp at p3
    · rintro ⟨g1, g2⟩
      obtain ⟨h1, h2⟩ := List.pairwise_cons.1 g2
      obtain ⟨q1, q2, q3⟩ := g1 x (by simp)
      rw [if_neg (by omega)]
      obtain ⟨met', hq⟩ := (mems_iff x.f0 met none hm).2 q3
      obtain ⟨hm', hmet⟩ := mems_met x.f0 met met' none hm hq
      rw [hq]
      refine (ih met' _ hm').2 ⟨fun y hy => ?_, h2⟩
      obtain ⟨p1, p2, p3, p4⟩ := g1 y (by simp [hy])
      refine ⟨p1, p2, p3, fun v hv => ?_⟩
      obtain ⟨r1, r2, r3, r4⟩ := p4 v hv
      refine ⟨r1, r2, ?_, r4⟩
      rw [hmet v (by omega), r3, decide_eq_false (fun h => h1 y hy v h hv)]; rfl
theorem ents_met (l : List Ent) : ∀ (met met' : List Bool) (n n' : Nat), met.length = 17 → checkEnts met n l = some (met', n') → n' = n + (members l).length ∧ ∀ c, 0 ≤ c → at17 met' c = (at17 met c || decide (c ∈ members l)) := by
  induction l with
  | nil => intro met met' n n' hm h; obtain ⟨rfl, rfl⟩ : met = met' ∧ n = n' := by simpa [checkEnts] using h
           exact ⟨by simp [members], fun c _ => by simp [members]⟩
  | cons x l ih =>
    intro met met' n n' hm h
    rw [checkEnts] at h
    split at h
    · cases h
    · cases hq : checkMems met none x.f0 with
      | none => rw [hq] at h; cases h
      | some met1 =>
        rw [hq] at h
        obtain ⟨hm1, hmet⟩ := mems_met x.f0 met met1 none hm hq
        obtain ⟨g1, g2⟩ := ih met1 met' _ n' hm1 h
        refine ⟨by rw [g1]; simp [members]; omega, fun c hc => ?_⟩
        rw [g2 c hc, hmet c hc]
        simp [members, Bool.or_assoc]
def WsOk (met : List Bool) (prev : Option Int) (w : List S36) : Prop := w.Pairwise (fun a b => a.f0 < b.f0) ∧ ∀ x ∈ w, 1 ≤ x.f0 ∧ x.f0 ≤ 16 ∧ at17 met x.f0 = true ∧ Rises prev x.f0
theorem badW_iff (met : List Bool) (prev : Option Int) (v : Int) : badW met prev v = false ↔ 1 ≤ v ∧ v ≤ 16 ∧ at17 met v = true ∧ Rises prev v := by
  unfold badW
  simp only [Bool.or_eq_false_iff, decide_eq_false_iff_not, low_iff, Bool.not_eq_false']
  unfold at17
  constructor
  · rintro ⟨⟨⟨h1, h2⟩, h3⟩, h4⟩; exact ⟨by omega, by omega, h3, h4⟩
  · rintro ⟨h1, h2, h3, h4⟩; exact ⟨⟨⟨by omega, by omega⟩, h3⟩, h4⟩
theorem ws_iff (w : List S36) : ∀ (met : List Bool) (prev : Option Int), checkWs met prev w = true ↔ WsOk met prev w := by
  induction w with
  | nil => intro met prev; exact ⟨fun _ => ⟨List.Pairwise.nil, by simp⟩, fun _ => rfl⟩
  | cons x w ih =>
    intro met prev
    rw [checkWs]
    constructor
    · intro h
      split at h
      · cases h
      · next hb =>
        have hv := (badW_iff _ _ _).1 (by simpa using hb)
        obtain ⟨g1, g2⟩ := (ih met (some x.f0)).1 h
        refine ⟨List.pairwise_cons.2 ⟨fun u hu => (g2 u hu).2.2.2 _ rfl, g1⟩, fun u hu => ?_⟩
        rcases List.mem_cons.1 hu with rfl | hu
        · exact hv
        · obtain ⟨q1, q2, q3, q4⟩ := g2 u hu
          exact ⟨q1, q2, q3, fun p hp => by have := hv.2.2.2 p hp; have := q4 _ rfl; omega⟩
    · rintro ⟨g1, g2⟩
      obtain ⟨h1, h2⟩ := List.pairwise_cons.1 g1
      rw [if_neg (by rw [(badW_iff _ _ _).2 (g2 x (by simp))]; simp)]
      refine (ih met (some x.f0)).2 ⟨h2, fun u hu => ?_⟩
      obtain ⟨q1, q2, q3, q4⟩ := g2 u (by simp [hu])
      exact ⟨q1, q2, q3, fun p hp => by cases hp; exact h1 u hu⟩

structure Shape (l : List Ent) (w : List S36) : Prop where
  len : ∀ x ∈ l, 1 ≤ x.f0.length ∧ x.f0.length ≤ 8
  rise : ∀ x ∈ l, x.f0.Pairwise (· < ·)
  range : ∀ x ∈ l, ∀ v ∈ x.f0, 1 ≤ v ∧ v ≤ 16
  apart : l.Pairwise (fun x y => ∀ v ∈ x.f0, v ∉ y.f0)
  wrise : w.Pairwise (fun a b => a.f0 < b.f0)
  wmem : ∀ x ∈ w, x.f0 ∈ members l
  count : w.length = (members l).length
theorem at17_met0 (c : Int) : at17 met0 c = false := by
  unfold at17 met0
  rw [List.getD_eq_getElem?_getD, List.getElem?_replicate]
  split <;> rfl
theorem shape_iff (l : List Ent) (w : List S36) : (∃ met n, checkEnts met0 0 l = some (met, n) ∧ checkWs met none w = true ∧ w.length = n) ↔ Shape l w := by
  constructor
  · rintro ⟨met, n, h1, h2, h3⟩
    obtain ⟨e1, e2⟩ := (ents_iff l met0 0 (by decide)).1 ⟨_, h1⟩
    obtain ⟨m1, m2⟩ := ents_met l met0 met 0 n (by decide) h1
    obtain ⟨w1, w2⟩ := (ws_iff w met none).1 h2
    refine ⟨fun x hx => ⟨(e1 x hx).1, (e1 x hx).2.1⟩, fun x hx => (e1 x hx).2.2.1, fun x hx v hv => ⟨((e1 x hx).2.2.2 v hv).1, ((e1 x hx).2.2.2 v hv).2.1⟩, e2, w1, fun x hx => ?_, by omega⟩
    obtain ⟨q1, q2, q3, q4⟩ := w2 x hx
    rw [m2 _ (by omega), at17_met0] at q3
    simpa using q3
  · intro h
    obtain ⟨r, hr⟩ := (ents_iff l met0 0 (by decide)).2 ⟨fun x hx => ⟨(h.len x hx).1, (h.len x hx).2, h.rise x hx, fun v hv => ⟨(h.range x hx v hv).1, (h.range x hx v hv).2, at17_met0 v, fun p hp => by cases hp⟩⟩, h.apart⟩
    obtain ⟨met, n⟩ := r
    obtain ⟨m1, m2⟩ := ents_met l met0 met 0 n (by decide) hr
    refine ⟨met, n, hr, (ws_iff w met none).2 ⟨h.wrise, fun x hx => ?_⟩, by rw [h.count]; omega⟩
    have hm := h.wmem x hx
    obtain ⟨y, hy, hv⟩ := List.mem_flatMap.1 hm
    obtain ⟨r1, r2⟩ := h.range y hy _ hv
    refine ⟨r1, r2, ?_, fun p hp => by cases hp⟩
    rw [m2 _ (by omega), decide_eq_true hm]; simp
theorem pickCheck_eq (l : List Ent) (w : List S36) : (Shape l w ∧ pickCheck l w = placeChk w) ∨ (¬ Shape l w ∧ pickCheck l w = 290) := by
  unfold pickCheck
  cases h1 : checkEnts met0 0 l with
  | none => exact .inr ⟨(fun h => by obtain ⟨met, n, g, _⟩ := (shape_iff l w).2 h; rw [h1] at g; cases g), rfl⟩
  | some r =>
    obtain ⟨met, n⟩ := r
    by_cases h2 : checkWs met none w = true
    · by_cases h3 : w.length = n
      · exact .inl ⟨(shape_iff l w).1 ⟨met, n, h1, h2, h3⟩, by show (if checkWs met none w then (if w.length = n then placeChk w else 290) else 290) = _; rw [if_pos h2, if_pos h3]⟩
      · refine .inr ⟨fun h => ?_, by show (if checkWs met none w then (if w.length = n then placeChk w else 290) else 290) = _; rw [if_pos h2, if_neg h3]⟩
        obtain ⟨met', n', g, _, g3⟩ := (shape_iff l w).2 h
        rw [h1] at g; cases g; exact h3 g3
    · refine .inr ⟨fun h => ?_, by show (if checkWs met none w then (if w.length = n then placeChk w else 290) else 290) = _; rw [if_neg h2]⟩
      obtain ⟨met', n', g, g2, _⟩ := (shape_iff l w).2 h
      rw [h1] at g; cases g; exact h2 g2
theorem pickCheck_zero (l : List Ent) (w : List S36) : pickCheck l w = 0 ↔ Shape l w ∧ placeChk w = 0 := by
  rcases pickCheck_eq l w with ⟨h1, h2⟩ | ⟨h1, h2⟩
  · rw [h2]; exact ⟨fun h => ⟨h1, h⟩, fun h => h.2⟩
  · rw [h2]; exact ⟨(fun h => by cases h), (fun h => absurd h.1 h1)⟩

theorem rising_ext : ∀ (a b : List Int), a.Pairwise (· < ·) → b.Pairwise (· < ·) → (∀ v, v ∈ a ↔ v ∈ b) → a = b := by
  intro a
  induction a with
  | nil =>
    intro b _ _ h
    cases b with
    | nil => rfl
    | cons y b => exact absurd ((h y).2 (by simp)) (by simp)
  | cons x a ih =>
    intro b ha hb h
    cases b with
    | nil => exact absurd ((h x).1 (by simp)) (by simp)
    | cons y b =>
      obtain ⟨a1, a2⟩ := List.pairwise_cons.1 ha
      obtain ⟨b1, b2⟩ := List.pairwise_cons.1 hb
      have hxy : x = y := by
        rcases List.mem_cons.1 ((h x).1 (by simp)) with e | e
        · exact e
        · rcases List.mem_cons.1 ((h y).2 (by simp)) with e2 | e2
          · exact e2.symm
          · have := a1 y e2; have := b1 x e; omega
      subst hxy
      rw [ih b a2 b2 (fun v => ⟨fun hv => ?_, fun hv => ?_⟩)]
      · rcases List.mem_cons.1 ((h v).1 (by simp [hv])) with e | e
        · have := a1 v hv; omega
        · exact e
      · rcases List.mem_cons.1 ((h v).2 (by simp [hv])) with e | e
        · have := b1 v hv; omega
        · exact e
section
variable {l : List Ent} {w : List S36} (h : Shape l w)
include h
theorem Shape.all_wish : ∀ v ∈ members l, v ∈ w.map (·.f0) := by
  intro v hv
  refine Decidable.byContradiction fun hn => ?_
  have hnod : (w.map (·.f0)).Nodup := by
    rw [List.nodup_iff_pairwise_ne, List.pairwise_map]
    exact h.wrise.imp (fun h e => by omega)
  have := nodup_le (v :: w.map (·.f0)) (members l) (List.nodup_cons.2 ⟨hn, hnod⟩) (fun x hx => by
    rcases List.mem_cons.1 hx with rfl | hx
    · exact hv
    · obtain ⟨y, hy, rfl⟩ := List.mem_map.1 hx
      exact h.wmem y hy)
  have hc := h.count
  simp at this
  omega
theorem Shape.wishes (x : Ent) (hx : x ∈ l) : (wishesN w x.f0).map (·.f0) = x.f0 := by
  refine rising_ext _ _ ?_ (h.rise x hx) (fun v => ⟨fun hv => ?_, fun hv => ?_⟩)
  · rw [List.pairwise_map]
    exact List.Pairwise.filter _ h.wrise
  · obtain ⟨y, hy, rfl⟩ := List.mem_map.1 hv
    have := (List.mem_filter.1 hy).2
    simpa using this
  · obtain ⟨y, hy, e⟩ := List.mem_map.1 (h.all_wish v (List.mem_flatMap.2 ⟨x, hx, hv⟩))
    exact List.mem_map.2 ⟨y, List.mem_filter.2 ⟨hy, by simpa [e] using hv⟩, e⟩
theorem Shape.wishes_len (x : Ent) (hx : x ∈ l) : (wishesN w x.f0).length = x.f0.length := by
  have := congrArg List.length (h.wishes x hx)
  simpa using this
end
end Go.Proofs.YtdmieaidheelbaaDoor.Q
end
/- RngR -/
section
/- A range over a function whose iterator hands on what lies in memory of its own: the statement's law. -/
namespace Go.Proofs.YtdmieaidheelbaaDoor.Rng
open Go Go.RowKit

variable {P : Program}
def IterR {α : Type} (P : Program) (g : Nat) (lb : Array Value) (R : α → World → Array Value → Prop) (c : Nat) (keep : Nat → Prop) (xs : List α) (w0 : World) : Prop :=
  ∀ (l : Nat) (J : List α → World → Prop) (Jx : World → Prop) (W : World), Below w0.heap.size w0 W →
    (∀ pre A B, J pre A → A.grownBy B (some c) → J pre B) →
    (∀ pre x post W1 vs, xs = pre ++ x :: post → J pre W1 → R x W1 vs → YieldAt Fence.wide 7 P l vs W1 fun e W' =>
      (e = .returned (.bool true) ∧ J (pre ++ [x]) W' ∧ Same keep W1 W') ∨ (e = .returned (.bool false) ∧ Jx W')) →
    J [] W → CallsIn Fence.wide 8 P g (#[.func (.yield l) #[] #[]] ++ lb) W fun e W' => (∃ v, e = .returned v) ∧ (J xs W' ∨ Jx W')
theorem wpIn_rangeR {α : Type} {g : Operand} {ps : Array Tmp} {assign body : Code} {Q : Exit → Act → World → Prop} {a : Act} {w : World}
    {gf : Nat} {lb : Array Value} (hg : a.eval g = .func (.func gf) #[] lb) (eg : ∀ args w, (callFunc gf args).run P w = .ok (.enter gf args) w)
    {R : α → World → Array Value → Prop} {c : Nat} {keep : Nat → Prop} {xs : List α} (hit : IterR P gf lb R c keep xs w) (hps : ∀ x W vs, R x W vs → vs.size = ps.size)
    (hc : c < w.heap.size) (hkeep : ∀ k, keep k → k < w.heap.size)
    (I : List α → World → Prop) (Ix : Code → World → Prop) (hI : Calm w.heap.size c I) (hIx : CalmB w.heap.size Ix) (h0 : I [] w)
    (Ax : List α → α → Act → World → Prop) (hAx : CalmB w.heap.size (fun (s : List α × α × Act) W => Ax s.1 s.2.1 s.2.2 W))
    (hassign : ∀ (l : Nat) (pre : List α) (x : α) (rest : List α) (W : World) (vs : Array Value) (K : Act → World → Prop), xs = pre ++ x :: rest → w.heap.size ≤ W.heap.size → I pre W → R x W vs →
      (∀ a' W', KeepsFrom w.heap.size W W' → Same keep W W' → Ax pre x a' W' → K a' W') →
      assign.wpIn (Fence.wide.inRound l) 7 P (Exit.then K (fun _ _ _ => False)) { tmps := (ps.zip vs).foldl (fun t (p, v) => t.setIfInBounds p v) a.tmps, defers := [] } W)
    (hbody : ∀ (l : Nat) (pre : List α) (x : α) (rest : List α) (a' : Act) (W : World), xs = pre ++ x :: rest → w.heap.size ≤ W.heap.size → Ax pre x a' W →
      body.wpIn (Fence.wide.inRound l) 7 P (post w.heap.size keep I Ix (pre ++ [x]) W) a' W)
    (hdone : ∀ (D : Nat) (W : World), w.heap.size ≤ D → I xs W → W.heap[D]? = some (.deferred (some [])) → Q .normal { a with defers := { target := .collected D, args := #[] } :: a.defers } W)
    (hstop : ∀ (D : Nat) (j : Code) (W : World), w.heap.size ≤ D → Ix j W → W.heap[D]? = some (.deferred (some [])) → j.wpIn Fence.wide 9 P Q { a with defers := { target := .collected D, args := #[] } :: a.defers } W) :
    (Code.rangeFunc g ps assign body).wpIn Fence.wide 9 P Q a w := by
  refine wpIn_rangeFunc ?_
  intro fn _
  obtain ⟨rec, hrec⟩ : ∃ rec : LoopState → Option Code → Loop, rec = fun st pe => { state := st, pending := pe, fn, tmps := a.tmps, params := ps, assign, body, defers := w.heap.size } := ⟨_, rfl⟩
  obtain ⟨W1, hW1⟩ : ∃ W1, (w.alloc (.deferred (some []))).alloc (.loop (rec .ready none)) = W1 := ⟨_, rfl⟩
  have hrun := run_enterLoop_outer (P := P) (w := w) fn a.tmps ps assign body
  rw [show ((w.alloc (.deferred (some []))).alloc (.loop { state := .ready, pending := none, fn, tmps := a.tmps, params := ps, assign, body, defers := w.heap.size })) = W1 by rw [← hW1, hrec]] at hrun
  have hL : W1.heap[w.heap.size + 1]? = some (.loop (rec .ready none)) := by
    have := World.alloc_heap_new (w.alloc (.deferred (some []))) (.loop (rec .ready none)); rw [World.size_alloc, hW1] at this; exact this
  have hD : W1.heap[w.heap.size]? = some (.deferred (some [])) := by
    rw [← hW1]; exact (Below.heap_alloc _ _ _ (by simp)).trans (World.alloc_heap_new w _)
  have hI1 : I [] W1 := by rw [← hW1]; exact hI.alloc _ (hI.alloc _ h0)
  have hB1 : Below w.heap.size w W1 := by rw [← hW1]; exact ((Below.refl _ w).alloc (Nat.le_refl _) _).alloc (by simp) _
  clear hW1 h0
  have far : ∀ {X Y : World} {k : Nat} {o : Obj}, X.grownBy Y (some c) → w.heap.size ≤ k → X.heap[k]? = some o → Y.heap[k]? = some o := fun hg' hk ho =>
    (hg'.block _ (Array.getElem?_eq_some_iff.1 ho).1 (fun e => by cases e; omega)).trans ho
  refine ⟨w.heap.size + 1, _, W1, { target := .fn (.func gf) lb, args := #[.func (.yield (w.heap.size + 1)) #[] #[]] }, W1, gf, #[.func (.yield (w.heap.size + 1)) #[] #[]] ++ lb, W1, hrun, ?_, fun _ _ => trivial, ?_, fun h => by simp [Fence.wide] at h, ?_⟩
  · simp only [resolve, hg]
    simp [go_sem]
  · simp [invoke, go_sem, eg]
  refine (hit (w.heap.size + 1)
    (fun pre W => (I pre W ∧ w.heap.size ≤ W.heap.size) ∧ W.heap[w.heap.size + 1]? = some (.loop (rec .ready none)) ∧ W.heap[w.heap.size]? = some (.deferred (some [])))
    (fun W => ∃ j, Ix j W ∧ W.heap[w.heap.size + 1]? = some (.loop (rec .done (some j))) ∧ W.heap[w.heap.size]? = some (.deferred (some [])))
    W1 hB1 (fun s X Y hs hg' => ⟨⟨hI s X Y c hs.1.1 hg' (.inl rfl), Nat.le_trans hs.1.2 hg'.size⟩, far hg' (by omega) hs.2.1, far hg' (Nat.le_refl _) hs.2.2⟩) ?_ ⟨⟨hI1, hB1.size⟩, hL, hD⟩).mono ?_
  · -- a round
    rintro pre x rest W vs hx ⟨⟨hi, hsz⟩, hl, hk⟩ hr0
    have hlt := (Array.getElem?_eq_some_iff.1 hl).1
    have hy := run_yield (P := P) (args := vs) hl (by rw [hrec]; exact hps x W vs hr0)
    rw [hrec] at hy
    refine ⟨fn, _, assign, body, hy, roundIn_of_wpIn trivial (hassign _ pre x rest W vs _ hx hsz hi hr0 ?_)⟩
    intro a' Wa hkf hsm hax
    replace hl := hkf.same _ _ (by omega) hl rfl
    replace hk := hkf.same _ _ (Nat.le_refl _) hk rfl
    replace hlt := (Array.getElem?_eq_some_iff.1 hl).1
    refine ⟨_, run_beginRound hl (by rw [hrec]), ?_⟩
    obtain ⟨Wb, hWb⟩ : ∃ Wb, Wa.putObj (w.heap.size + 1) (.loop { rec .ready none with state := .busy }) = Wb := ⟨_, rfl⟩
    have hlb : Wb.heap[w.heap.size + 1]? = some (.loop { rec .ready none with state := .busy }) := by rw [← hWb]; exact World.putObj_heap_same hlt
    have hkb : Wb.heap[w.heap.size]? = some (.deferred (some [])) := by rw [← hWb]; exact (World.putObj_heap_other (by omega)).trans hk
    have haxb : Ax pre x a' Wb := by rw [← hWb]; exact hAx.putObj (s := (pre, x, a')) _ hax (by omega) hl rfl
    have hszb : w.heap.size ≤ Wb.heap.size := by have := hkf.size; rw [← hWb]; simp only [World.putObj_size]; omega
    have hsmb : Same keep W Wb := hsm.trans (fun k hk' => by rw [← hWb]; exact World.putObj_heap_other (by have := hkeep k hk'; omega))
    rw [hWb]
    clear hWb
    refine wpIn_mono (hbody _ pre x rest a' Wb hx hszb haxb) ?_
    have fin : ∀ (jump : Option Code) (W3 : World), KeepsFrom w.heap.size Wb W3 → ∃ W4, (Instr.endRound (w.heap.size + 1) jump).run P W3 = .ok (.bool jump.isNone) W4 ∧ W4 = W3.putObj (w.heap.size + 1) (.loop (rec (if jump.isNone then .ready else .done) jump)) ∧
        W3.heap[w.heap.size + 1]? = some (.loop { rec .ready none with state := .busy }) ∧
        W4.heap[w.heap.size + 1]? = some (.loop (rec (if jump.isNone then .ready else .done) jump)) ∧ W4.heap[w.heap.size]? = some (.deferred (some [])) := fun jump W3 h3 => by
      have hl3 := h3.same _ _ (by omega) hlb rfl
      have hr3 := run_endRound (P := P) jump hl3
      have he : Obj.loop { ({ rec .ready none with state := .busy } : Loop) with state := if jump.isNone then .ready else .done, pending := jump } = .loop (rec (if jump.isNone then .ready else .done) jump) := by rw [hrec]
      rw [he] at hr3
      exact ⟨_, hr3, rfl, hl3, World.putObj_heap_same (Array.getElem?_eq_some_iff.1 hl3).1, (World.putObj_heap_other (by omega)).trans (h3.same _ _ (Nat.le_refl _) hkb rfl)⟩
    rintro e a3 W3 hp
    cases e with
    | normal =>
      obtain ⟨h3, hs3, hi3⟩ := hp
      obtain ⟨W4, hr, hW4, hl3, hl4, hk4⟩ := fin none W3 h3
      refine ⟨_, W4, hr, .inl ⟨rfl, ⟨⟨by rw [hW4]; exact hI.putObj _ hi3 (by omega) hl3 rfl, ?_⟩, hl4, hk4⟩, (hsmb.trans hs3).trans ?_⟩⟩
      · have := h3.size; rw [hW4]; simp only [World.putObj_size]; omega
      · intro k hk'; rw [hW4]; exact World.putObj_heap_other (by have := hkeep k hk'; omega)
    | ret =>
      obtain ⟨h3, hi3⟩ := hp
      obtain ⟨W4, hr, hW4, hl3, hl4, hk4⟩ := fin (some .ret) W3 h3
      exact ⟨_, W4, hr, .inr ⟨rfl, .ret, by rw [hW4]; exact hIx.putObj _ hi3 (by omega) hl3 rfl, hl4, hk4⟩⟩
    | exit id =>
      obtain ⟨h3, hi3⟩ := hp
      obtain ⟨W4, hr, hW4, hl3, hl4, hk4⟩ := fin (some (.exit id)) W3 h3
      exact ⟨_, W4, hr, .inr ⟨rfl, .exit id, by rw [hW4]; exact hIx.putObj _ hi3 (by omega) hl3 rfl, hl4, hk4⟩⟩
    | goto t =>
      obtain ⟨h3, hi3⟩ := hp
      obtain ⟨W4, hr, hW4, hl3, hl4, hk4⟩ := fin (some (.goto t)) W3 h3
      exact ⟨_, W4, hr, .inr ⟨rfl, .goto t, by rw [hW4]; exact hIx.putObj _ hi3 (by omega) hl3 rfl, hl4, hk4⟩⟩
    | panic ch => exact hp.elim
    | outgrown => exact hp.elim
  · -- behind the iterator
    rintro e W2 ⟨⟨v, rfl⟩, (⟨⟨hi, _⟩, hl, hk⟩ | ⟨j, hi, hl, hk⟩)⟩
    · have hend := run_endLoop (P := P) hl (by rw [hrec]; simp)
      rw [show (rec .ready none).pending = none by rw [hrec]] at hend
      exact ⟨none, _, hend, hdone _ _ (Nat.le_refl _) (hI.putObj _ hi (by omega) hl rfl) ((World.putObj_heap_other (by omega)).trans hk)⟩
    · have hend := run_endLoop (P := P) hl (by rw [hrec]; simp)
      rw [show (rec .done (some j)).pending = some j by rw [hrec]] at hend
      exact ⟨some j, _, hend, hstop _ j _ (Nat.le_refl _) (hIx.putObj _ hi (by omega) hl rfl) ((World.putObj_heap_other (by omega)).trans hk)⟩
end Go.Proofs.YtdmieaidheelbaaDoor.Rng
end
/- PickTurns -/
section
/- pick.turns: the iterator over entities and the pCPUs that they take, by its contract. -/
namespace Go.Proofs.YtdmieaidheelbaaDoor.Q
open Go Go.RowKit Go.Shelf Go.Proofs.YtdmieaidheelbaaDoor.Rng Go.Proofs.YtdmieaidheelbaaDoorW.PrintWords Go.Proofs.YtdmieaidheelbaaDoorW.PrintLast Go.Proofs.YtdmieaidheelbaaDoorW.PrintMore
set_option linter.unusedVariables false
set_option linter.unusedSimpArgs false

def lessAll (free : Nat) (l : List Int) : Nat := l.foldl (fun f c => minus f (2 ^ c.toNat)) free
def atOf (w : List S36) (free : Nat) (x : Ent) : Option (List Int) := if (takesP free (wishesN w x.f0)).2 then some (takesP free (wishesN w x.f0)).1 else none
def pickTurns (w : List S36) : Nat → List Ent → List (Ent × Option (List Int))
  | _, [] => []
  | free, x :: l => (x, atOf w free x) :: pickTurns w (lessAll free ((atOf w free x).getD [])) l
theorem lessAll_lt (free : Nat) (hf : free < 256) (l : List Int) : lessAll free l < 256 := by
  induction l generalizing free with
  | nil => exact hf
  | cons c l ih => exact ih _ (minus_lt _ _ hf)
theorem lessAll_step (free : Nat) (l : List Int) (k : Nat) (hk : k < l.length) : lessAll free (l.take (k + 1)) = minus (lessAll free (l.take k)) (2 ^ (rd l k).toNat) := by
  unfold lessAll
  rw [List.take_succ_eq_append_getElem hk, List.foldl_append, rd_eq l k hk]
  rfl
theorem ents_drop (l : List Ent) (k : Nat) (hk : k < l.length) : l.drop k = rd_T90 l k :: l.drop (k + 1) := by
  rw [List.drop_eq_getElem_cons hk]
  have : rd_T90 l (k : Int) = l[k] := by simp [rd_T90, hk]
  rw [this]
theorem ent_mem (l : List Ent) (k : Nat) (hk : k < l.length) : rd_T90 l (k : Int) ∈ l := by
  have : rd_T90 l (k : Int) = l[k] := by simp [rd_T90, hk]
  rw [this]; exact List.getElem_mem hk
theorem nextOf_mem2 (s : Nat) (a : Int) (h : (nextOf s a).2 = true) : (nextOf s a).1 ∈ listOf s := by
  unfold nextOf at h ⊢
  cases hf : (listOf s).find? fun c => decide (a < c) with
  | none => rw [hf] at h; simp at h
  | some c => exact List.mem_of_find?_eq_some hf
theorem best_range (h s p : Nat) (a : Int) (hb : (bestN h s p a).2 = true) : hasN (allowsN h s p) (bestN h s p a).1 = true := by
  unfold bestN at hb ⊢
  cases hh : hasN (allowsN h s p) a with
  | true => simpa using hh
  | false =>
    rw [hh] at hb
    simp only [Bool.false_eq_true, if_false] at hb ⊢
    have h1 := nextOf_mem2 _ _ hb
    rw [mem_listOf] at h1
    unfold hasN
    simp only [Bool.and_eq_true, decide_eq_true_eq]
    exact ⟨⟨h1.1, h1.2.1⟩, likes_sub _ _ _ _ h1.2.2⟩
theorem sdr_mem (rows : List (List Int)) : ∀ taken f, Sdr rows taken f → f.length = rows.length ∧ ∀ i (h : i < f.length), f[i] ∈ rowAt rows i := by
  intro taken f h
  have h1 := (sdr_fun rows taken f h).1
  have hl : f.length = rows.length := by
    clear h1
    induction rows generalizing taken f with
    | nil => simp [show f = [] from h]
    | cons row rest ih =>
      obtain ⟨c, g, rfl, _, _, hg⟩ := h
      simp [ih _ _ hg]
  exact ⟨hl, fun i hi => by have := (h1 i (by omega)).1; simpa [List.getD_eq_getElem?_getD, hi] using this⟩
theorem at_range (w : List S36) (free : Nat) (x : Ent) (hw : (wishesN w x.f0).length = x.f0.length) (m : List Int) (h : atOf w free x = some m) (hx : 0 < x.f0.length) :
    m.length = x.f0.length ∧ ∀ c ∈ m, 0 ≤ c ∧ c < 8 := by
  unfold atOf at h
  split at h
  case isFalse => cases h
  case isTrue ht =>
  obtain rfl := Option.some.inj h
  unfold takesP at ht ⊢
  by_cases h1 : 1 < (wishesN w x.f0).length
  · rw [if_pos h1] at ht ⊢
    unfold matchP at ht ⊢
    cases hq : matchFrom ((wishesN w x.f0).map (choicesN free)) [] with
    | none => rw [hq] at ht; cases ht
    | some m =>
      obtain ⟨f, rfl, hf⟩ := match_sdr _ _ _ hq
      obtain ⟨hl, hm⟩ := sdr_mem _ _ _ hf
      simp only [List.nil_append]
      refine ⟨by rw [hl, List.length_map, hw], fun c hc => ?_⟩
      obtain ⟨i, hi, rfl⟩ := List.mem_iff_getElem.1 hc
      have := hm i hi
      unfold rowAt at this
      rw [List.getD_eq_getElem?_getD, List.getElem?_map] at this
      rw [hl, List.length_map] at hi
      rw [List.getElem?_eq_getElem hi] at this
      exact (choice_ok free _).2 _ this
  · rw [if_neg h1] at ht ⊢
    match hws : wishesN w x.f0, hw, h1 with
    | [], hw, _ => simp at hw; omega
    | [y], hw, _ =>
      rw [hws] at ht
      simp only at ht ⊢
      have hb := best_range _ _ _ _ ht
      unfold hasN at hb
      simp only [Bool.and_eq_true, decide_eq_true_eq] at hb
      refine ⟨by simpa using hw, fun c hc => ?_⟩
      have hc' := mem_one hc
      rw [hc']; exact hb.1
    | _ :: _ :: _, _, h1 => simp at h1

theorem heap36 : Kd.Heap k36 := Kd.heap_iso _ (Kd.heap_pair (Kd.heap_int _) (Kd.heap_pair (Kd.heap_int _) (Kd.heap_iso _ (Kd.heap_pair (Kd.heap_int _) (Kd.heap_int _)))))
def Stays (w0 W : World) : Prop := ∀ k, k < w0.heap.size → W.heap[k]? = w0.heap[k]?
theorem Stays.step {w0 W W' : World} (h : Stays w0 W) (hs : w0.heap.size ≤ W.heap.size) (hb : Below W.heap.size W W') : Stays w0 W' := fun k hk => (hb.block k (by omega)).trans (h k hk)
theorem own_of_R {W : World} {base : Nat} {ok : Nat → Prop} {v : Value} {xs : List Int} (h : Kd.R (Kd.int .i64) 3 W base ok v xs) : W.ownsRow base 3 1 v xs.length (xs.map (Value.int .i64)) := by
  obtain ⟨_, inner, ho, hr⟩ := h
  have : inner = xs.map (Value.int .i64) := by
    have hl : inner.length = xs.length := by have := hr.1; simpa [Kd.int, Kd.scalar] using this
    refine List.ext_getElem (by simpa using hl) (fun j h1 h2 => ?_)
    have hj : j < xs.length := by omega
    have h3 : (inner.drop (j * 1)).take 1 = [Value.int .i64 xs[j]] := hr.2 j xs[j] (List.getElem?_eq_getElem hj)
    rw [Nat.mul_one] at h3
    have h4 := congrArg (fun l => l[0]?) h3
    simp [h1] at h4
    simp [h4]
  rw [← this]; exact ho
def Turn (w00 : World) (p : Ent × Option (List Int)) (W : World) (vs : Array Value) : Prop :=
  ∃ Am cm v, vs = #[.agg #[.slice Am p.1.f0.length cm, .int .u64 p.1.f1.f0.f0, .int .u64 p.1.f1.f0.f1, .int .u64 p.1.f1.f1, .int .u64 p.1.f2, .bool p.1.f3], v] ∧ p.1.f0.length ≤ cm ∧
    (Kd.int .i64).C w00 Am p.1.f0.length p.1.f0 ∧ W.ownsRow w00.heap.size 3 1 v (p.2.getD []).length ((p.2.getD []).map (Value.int .i64)) ∧
    (match p.2 with | none => v = .slice none 0 0 | some m => ∃ A n c, v = .slice (some A) n c)

set_option maxHeartbeats 1000000 in
theorem pturns_calls (A : Option Addr) (n c : Nat) (A1 : Option Addr) (n1 c1 : Nat) (free : Int) (w : World) : Calls Tryd.prog 61 #[.slice A n c, .slice A1 n1 c1, .int .u32 free] w fun e w' =>
    e = .returned (.func (.func 90) #[] #[.pointer (some ⟨w.heap.size, 0, none⟩), .pointer (some ⟨w.heap.size + 1, 0, none⟩), .pointer (some ⟨w.heap.size + 1 + 1, 0, none⟩)]) ∧
    w' = ((w.alloc (.cells #[.slice A n c] 39)).alloc (.cells #[.slice A1 n1 c1] 22)).alloc (.cells #[.int .u32 free] 24) := by
  go_enter Tryd.func61, Tryd.ntmps61
  go_wp2
  go_ret
  exact ⟨rfl, rfl⟩

set_option maxRecDepth 100000 in
set_option maxHeartbeats 8000000 in
theorem pturns1_iter (bl : Nat) (w00 : World) (A : Option Addr) (cap : Nat) (l : List Ent) (A1 : Option Addr) (cap1 : Nat) (ws : List S36) (free : Nat) (hf : free < 256) (hsh : Shape l ws) (hlen : l.length ≤ 1000000) (hwlen : ws.length ≤ 1000000) (hwf : ∀ x ∈ ws, Wf36 x) (w0 : World)
    (hr0 : Kd.C k90 w00 A l.length l) (hc0 : l.length ≤ cap) (hr1 : Kd.C k36 w00 A1 ws.length ws) (hc1 : ws.length ≤ cap1) (hst : Stays w00 w0)
    (hbl : Boxed w0 bl 39 (.slice A l.length cap)) (hbw : Boxed w0 (bl + 1) 22 (.slice A1 ws.length cap1)) (hbf : Boxed w0 (bl + 1 + 1) 24 (.int .u32 free)) (hT : TabW w00) (hn0 : w00.heap.size ≤ bl) :
    IterR Tryd.prog 90 #[.pointer (some ⟨bl, 0, none⟩), .pointer (some ⟨bl + 1, 0, none⟩), .pointer (some ⟨bl + 1 + 1, 0, none⟩)] (Turn w00) (bl + 1 + 1) (fun k => k = bl ∨ k = bl + 1 ∨ k = bl + 1 + 1 ∨ k < w00.heap.size) (pickTurns ws free l) w0 := by
  intro lp J Jx W hBW hJ hY h0
  have HY := Aside0.mk hY
  have HJ := Aside0.mk hJ
  have HWF := Aside0.mk hwf
  have HR0 := Aside0.mk hr0
  have HR1 := Aside0.mk hr1
  have HSH := Aside0.mk hsh
  have HC0 := Aside0.mk hc0
  have HC1 := Aside0.mk hc1
  have HTT := Aside0.mk hT
  have hlt0 := hbf.lt
  have HBL := Aside0.mk (show Boxed W bl 39 (.slice A l.length cap) from (hBW.block bl hbl.lt).trans hbl)
  have HBW := Aside0.mk (show Boxed W (bl + 1) 22 (.slice A1 ws.length cap1) from (hBW.block _ hbw.lt).trans hbw)
  have HBF := Aside0.mk (show Boxed W (bl + 1 + 1) 24 (.int .u32 free) from (hBW.block _ hbf.lt).trans hbf)
  have HST := Aside0.mk (show Stays w00 W from fun k hk => (hBW.block k (by omega)).trans (hst k hk))
  have H0 := Aside0.mk h0
  have HN := Aside0.mk hn0
  clear hY hJ hwf hbl hbw hbf hT hst hBW h0 hr0 hr1 hsh hc0 hc1 hlt0 hn0
  have hu90 := Tryd.underlying90
  have hcl := HBL.out.cell
  refine callsIn_of_wp Tryd.func90 rfl trivial ?_ rfl
  simp only [Tryd.ntmps90, List.size_toArray, List.length_cons, List.length_nil, Nat.reduceAdd, Nat.reduceSub, Array.replicate_succ, Array.replicate_zero, List.push_toArray, List.append_toArray, List.nil_append, List.cons_append]
  gi_wp2
  gi_loopw [13] (fun i wr => ∃ (k fr : Nat) (pre : List (Ent × Option (List Int))), k ≤ l.length ∧ i = .int .i64 k ∧ fr < 256 ∧ Aside0 (pickTurns ws free l = pre ++ pickTurns ws fr (l.drop k)) ∧ Aside0 (Boxed wr bl 39 (.slice A l.length cap)) ∧ Aside0 (Boxed wr (bl + 1) 22 (.slice A1 ws.length cap1)) ∧ Aside0 (Boxed wr (bl + 1 + 1) 24 (.int .u32 fr)) ∧ Aside0 (Stays w00 wr) ∧ Aside0 (J pre wr))
    (fun i _ => l.length - (intOf i).toNat)
  case atStart => exact ⟨0, free, [], Nat.zero_le _, rfl, hf, ⟨rfl⟩, HBL, HBW, HBF, HST, H0⟩
  case round =>
    obtain ⟨k, fr, pre, hk, rfl, hfr, HPRE, HBL1, HBW1, HBF1, HST1, HJ1⟩ := hrel
    clear hcl HBL HBW HBF HST H0 hf
    by_cases hlt : k < l.length
    case neg =>
      have hge : l.length ≤ k := by omega
      clear hlt
      have hJ' := HJ1.out
      have hp := HPRE.out
      rw [List.drop_eq_nil_of_le hge] at hp
      simp only [pickTurns, List.append_nil] at hp
      rw [← hp] at hJ'
      have HJ2 := Aside0.mk hJ'
      clear hJ' hp
      gi_wp2
      go_end0
      exact ⟨⟨_, rfl⟩, .inl HJ2.out⟩
    case pos =>
    obtain ⟨ad, Am, cm, rfl, hx0, hx1, hx2, hx3, hx4, hx5, hcm, hCm⟩ := at_T90 HR0.out (k : Int) (by omega) (by omega)
    rw [Int.toNat_natCast] at hx0 hx1 hx2 hx3 hx4 hx5
    have stay : ∀ {a : Addr} {v : Value}, w00.cell? a = some v → wr.cell? a = some v := fun {a v} h => (World.cell?_of_block (w := w00) (HST1.out a.block (World.block_lt_of_cell? w00 a h))).trans h
    replace hx0 := stay hx0
    replace hx1 := stay hx1
    replace hx2 := stay hx2
    replace hx3 := stay hx3
    replace hx4 := stay hx4
    replace hx5 := stay hx5
    have hpre := HPRE.out
    rw [ents_drop l k hlt, pickTurns] at hpre
    have hmem := ent_mem l k hlt
    generalize rd_T90 l (k : Int) = x at *
    have hwl := HSH.out.wishes_len x hmem
    have hml := HSH.out.len x hmem
    have hrange := at_range ws fr x hwl
    have hwx : ∀ y ∈ wishesN ws x.f0, Wf34 y.f2 := fun y hy => HWF.out y (List.mem_filter.1 hy).1
    obtain ⟨K1, hK1⟩ := takes_val (wishesN ws x.f0) fr (by omega) hwx (by omega) (by omega)
    have hwv := wishes_val ws x.f0 hwlen (by omega) (K1 + ws.length + x.f0.length + 1) (by omega)
    have htv := hK1 K1 (Nat.le_refl _)
    have hat : atOf ws fr x = if (takesP fr (wishesN ws x.f0)).2 then some (takesP fr (wishesN ws x.f0)).1 else none := rfl
    clear hK1 hwl hwx stay
    generalize wishesN ws x.f0 = wx at *
    generalize takesP fr wx = tk at *
    obtain ⟨m, there⟩ := tk
    simp only at hat
    obtain ⟨ms, ⟨⟨t1, t2⟩, t3⟩, t4, t5⟩ := x
    simp only at hx0 hx1 hx2 hx3 hx4 hx5 hcm hCm hml hwv
    have HWV := Aside0.mk hwv
    have HTV := Aside0.mk htv
    have HPR := Aside0.mk hpre
    have HAT := Aside0.mk hat
    have HRG := Aside0.mk hrange
    have HCM := Aside0.mk hCm
    clear hwv htv hpre hat hrange hCm HPRE hmem
    have hlf := HBF1.out.lt
    have HSZ := Aside0.mk (And.intro hlf (Nat.le_trans HN.out (show bl ≤ wr.heap.size by omega)))
    clear hlf
    gi_wp2
    have HBE := Aside0.mk ((Below.refl _ wr).alloc (Nat.le_refl _) (.cells #[.slice Am ms.length cm, .int .u64 t1, .int .u64 t2, .int .u64 t3, .int .u64 t4, .bool t5] 90))
    have HX := Aside0.mk (heap_alloc_new wr (.cells #[.slice Am ms.length cm, .int .u64 t1, .int .u64 t2, .int .u64 t3, .int .u64 t4, .bool t5] 90))
    clear hx0 hx1 hx2 hx3 hx4 hx5
    generalize hw1 : wr.alloc (.cells #[.slice Am ms.length cm, .int .u64 t1, .int .u64 t2, .int .u64 t3, .int .u64 t4, .bool t5] 90) = w1 at *
    have hs1 : w1.heap.size = wr.heap.size + 1 := by rw [← hw1]; simp
    clear hw1
    have cw := (show Boxed w1 (bl + 1) 22 (.slice A1 ws.length cap1) from (HBE.out.block _ HBW1.out.lt).trans HBW1.out).cell
    have cf := (show Boxed w1 (bl + 1 + 1) 24 (.int .u32 fr) from (HBE.out.block _ HBF1.out.lt).trans HBF1.out).cell
    have cx := blk_cell HX.out 0
    simp only [List.getElem?_toArray, List.getElem?_cons_zero] at cx
    have HS1 := Aside0.mk (HST1.out.step HSZ.out.2 HBE.out)
    have HT1 := Aside0.mk (HTT.out.same (HS1.out 0 HTT.out.pos))
    have HSZ1 := Aside0.mk hs1
    clear hs1
    refine wpIn_wide.2 ?_
    go_region_held3 (fun W => W.cell? ⟨bl + 1, 0, none⟩ = some (.slice A1 ws.length cap1) ∧ W.cell? ⟨wr.heap.size, 0, none⟩ = some (.slice Am ms.length cm) ∧ W.cell? ⟨bl + 1 + 1, 0, none⟩ = some (.int .u32 fr))
      (first | exact ⟨cw, cx, cf⟩ | exact ⟨kw, kx, kf⟩ | exact ⟨qw, qx, qf⟩ | go_keep)
      (first
        | (go_at_call 67; refine (pick_wishes.calls (K1 + ws.length + ms.length + 1) A1 cap1 ws Am cm ms wx _ ?_ HC1.out ?_ hcm HWV.out).mono ?_; exact heap36.C (fun k hk => HS1.out k hk) HR1.out; exact (Kd.heap_int _).C (fun k hk => HS1.out k hk) HCM.out; rintro e w2 ⟨v2, rfl, hR2, hb2⟩; have kw := pw_cell_below hb2 (show (w1.drew).cell? _ = _ from cw); have kx := pw_cell_below hb2 (show (w1.drew).cell? _ = _ from cx); have kf := pw_cell_below hb2 (show (w1.drew).cell? _ = _ from cf); obtain ⟨A2, c2, rfl, hc2, hC2⟩ := Kd.R_reads hR2; have HB2 := Aside0.mk (show Below w1.heap.size w1 w2 from ⟨hb2.os, hb2.tape, hb2.output, hb2.size, hb2.block⟩); have HC2 := Aside0.mk hC2; have HCC2 := Aside0.mk hc2; clear hb2 hR2 hC2 hc2)
        | (go_at_call 91; refine (pick_takes.calls K1 A2 c2 wx fr m there _ HC2.out HCC2.out (HT1.out.step HB2.out) HTV.out).mono ?_; rintro e w3 ⟨v3, rfl, hR3, hb3⟩; have qw := pw_cell_below hb3 kw; have qx := pw_cell_below hb3 kx; have qf := pw_cell_below hb3 kf; have HB3 := Aside0.mk (below_step HB2.out hb3); have HR3 := Aside0.mk (own_of_R (Kd.R_lower hR3 (show w00.heap.size ≤ w2.heap.size by have := HB2.out.size; have := HSZ.out.2; have := HSZ1.out; omega))); clear hb3 hR3))
    have hn3 : w1.heap.size ≤ w3.heap.size := HB3.out.size
    have HX3 := Aside0.mk ((HB3.out.block _ (by have := HSZ1.out; omega)).trans HX.out)
    have HBL3 := Aside0.mk (show Boxed w3 bl 39 (.slice (some ad) l.length cap) from (HB3.out.block _ (by have := HSZ1.out; have := HSZ.out.1; omega)).trans ((HBE.out.block _ (by have := HSZ.out.1; omega)).trans HBL1.out))
    have HBW3 := Aside0.mk (show Boxed w3 (bl + 1) 22 (.slice A1 ws.length cap1) from (HB3.out.block _ (by have := HSZ1.out; have := HSZ.out.1; omega)).trans ((HBE.out.block _ (by have := HSZ.out.1; omega)).trans HBW1.out))
    have HBF3 := Aside0.mk (show Boxed w3 (bl + 1 + 1) 24 (.int .u32 fr) from (HB3.out.block _ (by have := HSZ1.out; have := HSZ.out.1; omega)).trans ((HBE.out.block _ (by have := HSZ.out.1; omega)).trans HBF1.out))
    have HST3 := Aside0.mk (show Stays w00 w3 from HS1.out.step (by have := HSZ1.out; have := HSZ.out.2; omega) HB3.out)
    have HG3 := Aside0.mk (show wr.grownBy w3 (some (bl + 1 + 1)) from gb_trans (gb_of_below HBE.out _) (gb_of_below HB3.out none) (fun j e => by cases e))
    have HSZ3 := Aside0.mk (show bl + 1 + 1 < wr.heap.size ∧ wr.heap.size < w3.heap.size ∧ w00.heap.size ≤ bl by have := HSZ1.out; have := HSZ.out.1; have := HN.out; omega)
    clear HBE HX HS1 HT1 HSZ1 cw cf cx kw kx kf qw qx qf HB2 HB3 HC2 HCC2 HWV HTV hn3 HBL1 HBW1 HBF1 HST1
    cases there with
    | false =>
      have hat : atOf ws fr ⟨ms, ⟨⟨t1, t2⟩, t3⟩, t4, t5⟩ = none := HAT.out
      have HJ4 := Aside0.mk (HJ.out pre wr w3 HJ1.out HG3.out)
      have hp1 := HPR.out
      rw [hat] at hp1
      have HP1 := Aside0.mk hp1
      have HTN : Aside0 (Turn w00 (⟨ms, ⟨⟨t1, t2⟩, t3⟩, t4, t5⟩, none) w3 #[.agg #[.slice Am ms.length cm, .int .u64 t1, .int .u64 t2, .int .u64 t3, .int .u64 t4, .bool t5], .slice none 0 0]) :=
        ⟨⟨Am, cm, _, rfl, hcm, HCM.out, World.ownsRow_nil _ _ _ _, rfl⟩⟩
      clear hat hp1 HR3 HAT HRG HPR HJ1 HCM
      gi_wp2
      gi_loopw [30] (fun i wi => i = .int .i64 0 ∧ wi = w3) (fun _ _ => 0)
      case atStart => exact ⟨rfl, rfl⟩
      case round =>
        obtain ⟨rfl, rfl⟩ := hrel
        have kk0 := blk_cell HX3.out 0
        have kk1 := blk_cell HX3.out 1
        have kk2 := blk_cell HX3.out 2
        have kk3 := blk_cell HX3.out 3
        have kk4 := blk_cell HX3.out 4
        have kk5 := blk_cell HX3.out 5
        simp only [List.getElem?_toArray, List.getElem?_cons_zero, List.getElem?_cons_succ] at kk0 kk1 kk2 kk3 kk4 kk5
        gi_wp2
        obtain ⟨fn, tmps, assign, body, hy, hR⟩ := HY.out pre _ _ _ _ HP1.out HJ4.out HTN.out
        clear kk0 kk1 kk2 kk3 kk4 kk5
        rw [hy]
        refine ⟨fun h => (by simp [Fence.wide] at h), RoundIn.mono hR ?_⟩
        rintro e W5 (⟨rfl, hJ5, hk5⟩ | ⟨rfl, hJx5⟩)
        · have HR5 := Aside0.mk (And.intro hJ5 hk5)
          clear hJ5 hk5
          gi_wp2
          go_roundw
          case rel =>
            have hk5 := HR5.out.2
            exact ⟨k + 1, fr, _, by omega, by go_num, hfr, ⟨by rw [HP1.out, List.append_assoc]; rfl⟩, ⟨(hk5 bl (.inl rfl)).trans HBL3.out⟩, ⟨(hk5 _ (.inr (.inl rfl))).trans HBW3.out⟩, ⟨(hk5 _ (.inr (.inr (.inl rfl)))).trans HBF3.out⟩,
              ⟨fun j hj => (hk5 j (.inr (.inr (.inr hj)))).trans (HST3.out j hj)⟩, ⟨HR5.out.1⟩⟩
          case measure => simp [intOf]; omega
        · gi_wp2
          refine bodyPost_ret (results_none rfl _ _ _) rfl ?_
          exact ⟨⟨_, rfl⟩, .inr hJx5⟩
    | true =>
      have hat : atOf ws fr ⟨ms, ⟨⟨t1, t2⟩, t3⟩, t4, t5⟩ = some m := HAT.out
      obtain ⟨hml2, hmr⟩ := HRG.out m hat (by omega)
      have hp1 := HPR.out
      rw [hat] at hp1
      have HP1 := Aside0.mk hp1
      have HMR := Aside0.mk hmr
      obtain ⟨g, cap3, rfl, _, _⟩ := HR3.out.form (by omega)
      have hgg : g ≠ bl + 1 + 1 := fun e => (HBF3.out.not_row (by decide) HR3.out) (by rw [← e]; rfl)
      have HGG := Aside0.mk hgg
      have HML2 := Aside0.mk hml2
      have hm8 : m.length ≤ 8 := by omega
      clear hml2 hat hp1 hmr HAT HRG HPR hgg
      have HRW := HR3
      have HBB := HBF3
      have cB := HBB.out.cell
      clear HR3 HBF3 cB
      gi_wp2
      gi_loopw [30] (fun i wi => ∃ j : Nat, j ≤ m.length ∧ i = .int .i64 j ∧ Aside0 (Boxed wi (bl + 1 + 1) 24 (.int .u32 (lessAll fr (m.take j) : Nat))) ∧ Aside0 (wi.ownsRow w00.heap.size 3 1 (.slice (some ⟨g, 0, none⟩) m.length cap3) m.length (m.map (Value.int .i64))) ∧ Aside0 (w3.grownBy wi (some (bl + 1 + 1))))
        (fun i _ => m.length - (intOf i).toNat)
      case atStart => exact ⟨0, Nat.zero_le _, rfl, HBB, HRW, ⟨gb_refl _ _⟩⟩
      case round =>
        obtain ⟨j, hj, rfl, HB4, HR4, HG4⟩ := hrel
        by_cases hjl : j < m.length
        case neg =>
          obtain rfl : j = m.length := by omega
          have hB4 := HB4.out
          rw [List.take_length] at hB4
          have HB5 := Aside0.mk hB4
          have HX4 := Aside0.mk ((HG4.out.block _ (by have := HSZ3.out; omega) (fun e => by injection e; have := HSZ3.out; omega)).trans HX3.out)
          have kk0 := blk_cell HX4.out 0
          have kk1 := blk_cell HX4.out 1
          have kk2 := blk_cell HX4.out 2
          have kk3 := blk_cell HX4.out 3
          have kk4 := blk_cell HX4.out 4
          have kk5 := blk_cell HX4.out 5
          simp only [List.getElem?_toArray, List.getElem?_cons_zero, List.getElem?_cons_succ] at kk0 kk1 kk2 kk3 kk4 kk5
          have HSM := Aside0.mk (fun j (hj : j = bl ∨ j = bl + 1 ∨ j < w00.heap.size) => HG4.out.block j (by have := HSZ3.out; omega) (fun e => by injection e; have := HSZ3.out; omega))
          have HJ4 := Aside0.mk (HJ.out pre _ _ HJ1.out (gb_trans HG3.out HG4.out (fun j e => .inl (by cases e; rfl))))
          have HTN : Aside0 (Turn w00 (⟨ms, ⟨⟨t1, t2⟩, t3⟩, t4, t5⟩, some m) wr #[.agg #[.slice Am ms.length cm, .int .u64 t1, .int .u64 t2, .int .u64 t3, .int .u64 t4, .bool t5], .slice (some ⟨g, 0, none⟩) m.length cap3]) :=
            ⟨⟨Am, cm, _, rfl, hcm, HCM.out, HR4.out, _, _, _, rfl⟩⟩
          clear hB4 hjl HB4 HR4 HMR
          gi_wp2
          obtain ⟨fn, tmps, assign, body, hy, hR⟩ := HY.out pre _ _ _ _ HP1.out HJ4.out HTN.out
          clear kk0 kk1 kk2 kk3 kk4 kk5
          rw [hy]
          refine ⟨fun h => (by simp [Fence.wide] at h), RoundIn.mono hR ?_⟩
          rintro e W5 (⟨rfl, hJ5, hk5⟩ | ⟨rfl, hJx5⟩)
          · have HR5 := Aside0.mk (And.intro hJ5 hk5)
            clear hJ5 hk5
            gi_wp2
            go_roundw
            case rel =>
              have hk5 := HR5.out.2
              exact ⟨k + 1, lessAll fr m, _, by omega, by go_num, lessAll_lt fr hfr m, ⟨by rw [HP1.out, List.append_assoc]; rfl⟩, ⟨(hk5 bl (.inl rfl)).trans ((HSM.out _ (.inl rfl)).trans HBL3.out)⟩, ⟨(hk5 _ (.inr (.inl rfl))).trans ((HSM.out _ (.inr (.inl rfl))).trans HBW3.out)⟩, ⟨(hk5 _ (.inr (.inr (.inl rfl)))).trans HB5.out⟩,
                ⟨fun j hj => (hk5 j (.inr (.inr (.inr hj)))).trans ((HSM.out j (.inr (.inr hj))).trans (HST3.out j hj))⟩, ⟨HR5.out.1⟩⟩
            case measure => simp [intOf]; omega
          · gi_wp2
            refine bodyPost_ret (results_none rfl _ _ _) rfl ?_
            exact ⟨⟨_, rfl⟩, .inr hJx5⟩
        case pos =>
          have hcell := HR4.out.cellAt j (by omega)
          rw [List.getElem?_map, List.getElem?_eq_getElem hjl] at hcell
          simp only [Option.map_some] at hcell
          have hcr := HMR.out _ (List.getElem_mem hjl)
          have hls := lessAll_step fr m j hjl
          rw [rd_eq m j hjl] at hls
          have HLS := Aside0.mk hls
          have hfl := lessAll_lt fr hfr (m.take j)
          generalize m[j] = c at *
          obtain ⟨hc0, hc8⟩ := hcr
          obtain ⟨d, rfl⟩ : ∃ d : Nat, c = d := ⟨c.toNat, by omega⟩
          have hd8 : d < 8 := by omega
          have hd0 : (0 : Int) ≤ d := by omega
          have hcf := HB4.out.cell
          have hff := HB4.out.frozen
          generalize hfe : lessAll fr (m.take j) = fq at *
          have HFE := Aside0.mk hfe
          clear hls hfe hc0 hc8
          gi_wp2
          gi_region
          all_goals gi_wp2
          have hpw : (2 : Int) ^ d % 4294967296 = ((2 ^ d : Nat) : Int) := by
            have h2 := pow_lt256 d hd8
            rw [show (2 : Int) ^ d = ((2 ^ d : Nat) : Int) by simp]
            generalize 2 ^ d = q at h2 ⊢
            omega
          have e1 : bits BinOp.andNot IntKind.u32 (fq : Int) ((2 : Int) ^ d % 4294967296) = ((minus fq (2 ^ d) : Nat) : Int) := by
            rw [hpw]; exact andNot_byte fq (2 ^ d) hfl (pow_lt256 d hd8)
          rw [e1]
          have hg2 : wr.grownBy (wr.setCell ⟨bl + 1 + 1, 0, none⟩ (.int .u32 ((minus fq (2 ^ d) : Nat) : Int))).drew (some (bl + 1 + 1)) :=
            ⟨rfl, rfl, rfl, (grownBy_setCell' wr (bl + 1 + 1) _).size, fun j hj hne => (grownBy_setCell' wr (bl + 1 + 1) (.int .u32 ((minus fq (2 ^ d) : Nat) : Int))).block j hj hne⟩
          have hbf3 : Boxed (wr.setCell ⟨bl + 1 + 1, 0, none⟩ (.int .u32 ((minus fq (2 ^ d) : Nat) : Int))).drew (bl + 1 + 1) 24 (.int .u32 ((minus fq (2 ^ d) : Nat) : Int)) := HB4.out.set _
          clear hcell hcf hff
          go_roundw
          case rel =>
            refine ⟨j + 1, by omega, by go_num, ⟨?_⟩, ⟨HR4.out.kept hg2 (.inr (by simpa [Value.ownBlock] using HGG.out))⟩, ⟨gb_trans HG4.out hg2 (fun j e => .inl (by cases e; rfl))⟩⟩
            rw [HLS.out, Int.toNat_natCast]; exact hbf3
          case measure => simp [intOf]; omega
end Go.Proofs.YtdmieaidheelbaaDoor.Q
end
/- QFpickasked -/
section
namespace Go.Proofs.YtdmieaidheelbaaDoor.Q
open Go.RowKit Go.Proofs.YtdmieaidheelbaaDoorW.PrintWords Go.Proofs.YtdmieaidheelbaaDoorW.PrintLast Go.Proofs.YtdmieaidheelbaaDoorW.PrintMore
attribute [local go_sem] max2_int min2_int max_two min_two max_three min_three max_four min_four
set_option linter.unusedVariables false
set_option linter.unusedSimpArgs false

def pick_asked.f (l0 : List (S90)) (l1 : List (S36)) (a2 : Int) : Option (Int) := (pick_Check.f l0 l1).bind fun t319 => (if t319 = 0 then ((cpuset_Check.f a2).bind fun t320 => (some t320)) else (some t319))
set_option maxHeartbeats 8000000 in
set_option maxRecDepth 100000 in
theorem pick_asked.calls (A0 : Option Addr) (c0 : Nat) (l0 : List (S90)) (A1 : Option Addr) (c1 : Nat) (l1 : List (S36)) (a2 : Int) (r : Int) (w : World) (hr0 : Kd.C k90 w A0 l0.length l0) (hc0 : l0.length ≤ c0) (hr1 : Kd.C k36 w A1 l1.length l1) (hc1 : l1.length ≤ c1) (h : pick_asked.f l0 l1 a2 = some r) :
  Calls Tryd.prog 60 #[.slice A0 l0.length c0, .slice A1 l1.length c1, .int .u32 a2] w fun e w' => e = .returned (.int .i64 r) ∧ Below w.heap.size w w' := by
 have HR0 := Aside0.mk hr0
 have HC0 := Aside0.mk hc0
 clear hr0 hc0
 have HR1 := Aside0.mk hr1
 have HC1 := Aside0.mk hc1
 clear hr1 hc1
 have HB := Aside0.mk (Below.refl w.heap.size w)
 have H : ((pick_Check.f l0 l1).bind fun t319 => (if t319 = 0 then ((cpuset_Check.f a2).bind fun t320 => (some t320)) else (some t319))) = some r := h
 clear h
 replace H := Option.bind_eq_some_iff.mp H
 obtain ⟨t319, A40, H⟩ := H
 replace H : (if t319 = 0 then ((cpuset_Check.f a2).bind fun t320 => (some t320)) else (some t319)) = some r := H
 have A4 := Aside0.mk A40
 clear A40
 by_cases c5 : t319 = 0
 ·rw [if_pos c5] at H
  have c5b0 : (t319 == 0) = true := beq_iff_eq.mpr c5
  have c5b1 : (t319 != 0) = false := bne_eq_false_iff_eq.mpr c5
  clear c5
  replace H := Option.bind_eq_some_iff.mp H
  obtain ⟨t320, A60, H⟩ := H
  replace H : (some t320) = some r := H
  have A6 := Aside0.mk A60
  clear A60
  obtain rfl := Option.some.inj H
  go_enter Tryd.func60, Tryd.ntmps60
  go_wp2_with (first | ((with_reducible refine gate_callee (f := 48) rfl ?_); refine goesL_ (some 10) rfl rfl Tryd.func48 (by kernel_rfl) rfl #[.slice A0 l0.length c0, .slice A1 l1.length c1] rfl (by (try simp only [List.map_toArray, List.map_cons, List.map_nil]); first | done | rfl | (simp only [List.length_drop, List.length_take]; rfl)) ?_; (with_reducible refine (pick_Check.calls _ _ l0 _ _ l1 t319 _ ?side1 ?side2 ?side3 ?side4 A4.out).mono ?_); (case side1 => repeat (first | exact HR0.out | (with_reducible refine Kd.C_alloc ?_ _) | (with_reducible refine Kd.C_drewN ?_ _) | (with_reducible refine Kd.C_drew ?_))); (case side2 => exact HC0.out); (case side3 => repeat (first | exact HR1.out | (with_reducible refine Kd.C_alloc ?_ _) | (with_reducible refine Kd.C_drewN ?_ _) | (with_reducible refine Kd.C_drew ?_))); (case side4 => exact HC1.out); rintro e w7 ⟨rfl, hb⟩; refine ⟨_, rfl, ?_⟩; have n0_ := Aside0.mk (below_step (by repeat (first | (with_reducible first | exact HB.out | apply below_alloc | apply pw_below_drewN | apply below_drew1) | exact HB.out)) hb); clear HB; have HB := n0_; clear n0_; (try clear hb); (try clear hb2); (try clear hk); (try clear hi)) | ((with_reducible refine gate_callee (f := 64) rfl ?_); refine goesL_ (some 15) rfl rfl Tryd.func64 (by kernel_rfl) rfl #[.int .u32 a2] rfl (by (try simp only [List.map_toArray, List.map_cons, List.map_nil]); first | done | rfl | (simp only [List.length_drop, List.length_take]; rfl)) ?_; (with_reducible refine (cpuset_Check.calls a2 t320 _ A6.out).mono ?_); rintro e w' ⟨rfl, ⟨nd, rfl⟩⟩; refine ⟨_, rfl, ?_⟩))
  go_ret
  exact ⟨by first | rfl | (simp [errW_none, errW_some] <;> rfl) | (simp [*, errW_none, errW_some] <;> rfl), by repeat (first | (with_reducible first | exact HB.out | apply below_alloc | apply pw_below_drewN | apply below_drew1) | exact HB.out)⟩
 ·rw [if_neg c5] at H
  have c5b0 : (t319 == 0) = false := beq_eq_false_iff_ne.mpr c5
  have c5b1 : (t319 != 0) = true := bne_iff_ne.mpr c5
  obtain rfl := Option.some.inj H
  go_enter Tryd.func60, Tryd.ntmps60
  go_wp2_with (first | ((with_reducible refine gate_callee (f := 48) rfl ?_); refine goesL_ (some 10) rfl rfl Tryd.func48 (by kernel_rfl) rfl #[.slice A0 l0.length c0, .slice A1 l1.length c1] rfl (by (try simp only [List.map_toArray, List.map_cons, List.map_nil]); first | done | rfl | (simp only [List.length_drop, List.length_take]; rfl)) ?_; (with_reducible refine (pick_Check.calls _ _ l0 _ _ l1 t319 _ ?side1 ?side2 ?side3 ?side4 A4.out).mono ?_); (case side1 => repeat (first | exact HR0.out | (with_reducible refine Kd.C_alloc ?_ _) | (with_reducible refine Kd.C_drewN ?_ _) | (with_reducible refine Kd.C_drew ?_))); (case side2 => exact HC0.out); (case side3 => repeat (first | exact HR1.out | (with_reducible refine Kd.C_alloc ?_ _) | (with_reducible refine Kd.C_drewN ?_ _) | (with_reducible refine Kd.C_drew ?_))); (case side4 => exact HC1.out); rintro e w8 ⟨rfl, hb⟩; refine ⟨_, rfl, ?_⟩; have n0_ := Aside0.mk (below_step (by repeat (first | (with_reducible first | exact HB.out | apply below_alloc | apply pw_below_drewN | apply below_drew1) | exact HB.out)) hb); clear HB; have HB := n0_; clear n0_; (try clear hb); (try clear hb2); (try clear hk); (try clear hi)))
  go_ret
  exact ⟨by first | rfl | (simp [errW_none, errW_some] <;> rfl) | (simp [*, errW_none, errW_some] <;> rfl), by repeat (first | (with_reducible first | exact HB.out | apply below_alloc | apply pw_below_drewN | apply below_drew1) | exact HB.out)⟩

end Go.Proofs.YtdmieaidheelbaaDoor.Q
end
/- Pick -/
section
/- pick.Pick by its contract. -/
namespace Go.Proofs.YtdmieaidheelbaaDoor.Q
open Go Go.RowKit Go.Shelf Go.Proofs.YtdmieaidheelbaaDoor.Rng Go.Proofs.YtdmieaidheelbaaDoorW.PrintWords Go.Proofs.YtdmieaidheelbaaDoorW.PrintLast Go.Proofs.YtdmieaidheelbaaDoorW.PrintMore
set_option linter.unusedVariables false
set_option linter.unusedSimpArgs false
attribute [local go_sem] Oper.semAt_some

def encP (p : S31) : List Value := [.int .i64 p.f0, .int .i64 p.f1]
theorem encP_len (ps : List S31) : (ps.flatMap encP).length = ps.length * 2 := by
  induction ps with
  | nil => rfl
  | cons p ps ih => simp only [List.flatMap_cons, List.length_append, ih, List.length_cons, encP, List.length_nil]; omega
theorem encP_at (ps : List S31) : ∀ (j : Nat) (p : S31), ps[j]? = some p → ((ps.flatMap encP).drop (j * 2)).take 2 = encP p := by
  induction ps with
  | nil => intro j p h; simp at h
  | cons q ps ih =>
    intro j p h
    cases j with
    | zero => simp at h; subst h; simp [encP]
    | succ j =>
      simp at h
      rw [← ih j p h]
      rw [List.flatMap_cons, show (j + 1) * 2 = (encP q).length + j * 2 by simp [encP]; omega, List.drop_append, List.drop_eq_nil_of_le (by omega), List.nil_append, Nat.add_sub_cancel_left]
theorem RP_of_own {w : World} {base : Nat} {v : Value} {ps : List S31} (h : w.ownsRow base 31 2 v ps.length (ps.flatMap encP)) : Kd.R k31 31 w base (fun _ => True) v ps :=
  ⟨fun _ _ => trivial, _, h, encP_len ps, fun j p hj => by rw [show k31.sz = 2 from rfl, encP_at ps j p hj]; exact k31_mkM w base _ p⟩

def zipP (vs cs : List Int) : List S31 := List.zipWith (fun v c => (⟨v, c⟩ : S31)) vs cs
def putsP (p : Ent × Option (List Int)) : List S31 := match p.2 with | none => [] | some m => zipP p.1.f0 m
def waitsP (p : Ent × Option (List Int)) : List Int := match p.2 with | none => p.1.f0 | some _ => []
def pickPuts (ts : List (Ent × Option (List Int))) : List S31 := ts.flatMap putsP
def pickWaits (ts : List (Ent × Option (List Int))) : List Int := ts.flatMap waitsP
theorem pickPuts_snoc (ts : List (Ent × Option (List Int))) (p : Ent × Option (List Int)) : pickPuts (ts ++ [p]) = pickPuts ts ++ putsP p := by simp [pickPuts]
theorem pickWaits_snoc (ts : List (Ent × Option (List Int))) (p : Ent × Option (List Int)) : pickWaits (ts ++ [p]) = pickWaits ts ++ waitsP p := by simp [pickWaits]
def askedP (l : List Ent) (w : List S36) (a : Int) : Int := if pickCheck l w ≠ 0 then pickCheck l w else if a < 256 then 0 else 140
def okPickArgs (l : List Ent) (w : List S36) (a : Int) : Prop := okPick l w ∧ 0 ≤ a ∧ a < 4294967296
instance (l : List Ent) (w : List S36) (a : Int) : Decidable (okPickArgs l w a) := inferInstanceAs (Decidable (_ ∧ _ ∧ _))
theorem askedP_val (l : List Ent) (w : List S36) (a : Int) (h : okPickArgs l w a) : pick_asked.f l w a = some (askedP l w a) := by
  obtain ⟨h1, h3, h4⟩ := h
  have e1 : pick_Check.f l w = some (pickCheck l w) := by unfold pick_Check.f; exact if_pos h1
  have e2 := Check_val a.toNat (by omega)
  rw [show ((a.toNat : Nat) : Int) = a by omega] at e2
  unfold pick_asked.f askedP
  rw [e1, Option.bind_some]
  generalize pickCheck l w = q
  by_cases hq : q = 0
  · subst hq
    rw [if_pos rfl, e2]
    simp only [Option.bind_some, ne_eq, not_true_eq_false, if_false]
    congr 1
    by_cases h : a < 256
    · rw [if_pos h, if_pos (by omega)]
    · rw [if_neg h, if_neg (by omega)]
  · rw [if_neg hq, if_pos hq]
theorem askedP_ok {l : List Ent} {w : List S36} {a : Int} : askedP l w a = 0 ↔ pickCheck l w = 0 ∧ a < 256 := by
  unfold askedP
  generalize pickCheck l w = q
  by_cases h : q = 0
  · rw [if_neg (by simpa using h)]
    by_cases h2 : a < 256
    · rw [if_pos h2]; simp [h, h2]
    · rw [if_neg h2]; simp [h2]
  · rw [if_pos h]; simp [h]
def pick_Pick.f (l0 : List Ent) (l1 : List S36) (a2 : Int) : Option (List S31 × List Int × Int) :=
  if okPickArgs l0 l1 a2 then some (if askedP l0 l1 a2 = 0 then (pickPuts (pickTurns l1 a2.toNat l0), pickWaits (pickTurns l1 a2.toNat l0), 0) else ([], [], askedP l0 l1 a2)) else none

set_option maxRecDepth 100000 in
set_option maxHeartbeats 8000000 in
theorem pick_no (A0 : Option Addr) (c0 : Nat) (l0 : List Ent) (A1 : Option Addr) (c1 : Nat) (l1 : List S36) (a2 : Int) (w : World) (hr0 : Kd.C k90 w A0 l0.length l0) (hc0 : l0.length ≤ c0) (hr1 : Kd.C k36 w A1 l1.length l1) (hc1 : l1.length ≤ c1) (hok : okPickArgs l0 l1 a2) (hne : askedP l0 l1 a2 ≠ 0) :
    Calls Tryd.prog 20 #[.slice A0 l0.length c0, .slice A1 l1.length c1, .int .u32 a2] w fun e w' => e = .returned (.tuple #[.slice none 0 0, .slice none 0 0, .int .i64 (askedP l0 l1 a2)]) ∧ Below w.heap.size w w' := by
  have hv := Aside0.mk (askedP_val l0 l1 a2 hok)
  have HR0 := Aside0.mk hr0
  have HC0 := Aside0.mk hc0
  have HR1 := Aside0.mk hr1
  have HC1 := Aside0.mk hc1
  generalize askedP l0 l1 a2 = q at *
  have hq : (q != 0) = true := by rw [bne_iff_ne]; exact hne
  clear hne hr0 hc0 hr1 hc1 hok
  go_enter Tryd.func20, Tryd.ntmps20
  go_wp2_with (go_at_call 60; refine (pick_asked.calls A0 c0 l0 A1 c1 l1 a2 q _ HR0.out HC0.out HR1.out HC1.out hv.out).mono ?_; rintro e w1 ⟨rfl, hb1⟩; have HB1 := Aside0.mk hb1; clear hb1)
  go_ret3
  exact ⟨rfl, HB1.out⟩

theorem zip_step (vs cs : List Int) (j : Nat) (hv : j < vs.length) (hc : j < cs.length) : zipP (vs.take (j + 1)) (cs.take (j + 1)) = zipP (vs.take j) (cs.take j) ++ [⟨vs[j], cs[j]⟩] := by
  unfold zipP
  rw [List.take_succ_eq_append_getElem hv, List.take_succ_eq_append_getElem hc, List.zipWith_append (by simp; omega)]
  rfl
theorem turns_fst (w : List S36) (l : List Ent) : ∀ free, (pickTurns w free l).map (·.1) = l := by
  induction l with
  | nil => intro free; rfl
  | cons x l ih => intro free; simp [pickTurns, ih]
theorem pturns_range (w : List S36) (free : Nat) (hf : free < 256) (l0 : List Ent) (hs : Shape l0 w) (l : List Ent) (hl : ∀ x ∈ l, x ∈ l0) : ∀ p ∈ pickTurns w free l, p.1 ∈ l0 ∧ ∀ m, p.2 = some m → m.length = p.1.f0.length ∧ ∀ c ∈ m, 0 ≤ c ∧ c < 8 := by
  induction l generalizing free with
  | nil => intro p hp; simp [pickTurns] at hp
  | cons x l ih =>
    intro p hp
    rw [pickTurns] at hp
    have hx := hl x (by simp)
    rcases List.mem_cons.1 hp with rfl | hp
    · exact ⟨hx, fun m hm => at_range w free x (hs.wishes_len x hx) m hm (hs.len x hx).1⟩
    · exact ih _ (lessAll_lt _ hf _) (fun y hy => hl y (by simp [hy])) p hp
theorem pickPuts_le (ts : List (Ent × Option (List Int))) : (pickPuts ts).length ≤ (members (ts.map (·.1))).length ∧ (pickWaits ts).length ≤ (members (ts.map (·.1))).length := by
  induction ts with
  | nil => simp [pickPuts, pickWaits]
  | cons p ts ih =>
    have h1 : (putsP p).length ≤ p.1.f0.length := by unfold putsP; split <;> simp [zipP]; omega
    have h2 : (waitsP p).length ≤ p.1.f0.length := by unfold waitsP; split <;> simp
    have e1 : (pickPuts (p :: ts)).length = (putsP p).length + (pickPuts ts).length := by simp [pickPuts]
    have e2 : (pickWaits (p :: ts)).length = (waitsP p).length + (pickWaits ts).length := by simp [pickWaits]
    have e3 : (members ((p :: ts).map (·.1))).length = p.1.f0.length + (members (ts.map (·.1))).length := by simp [members]
    omega
theorem pturns_bound (w : List S36) (free : Nat) (l : List Ent) (hs : Shape l w) (pre : List (Ent × Option (List Int))) (p : Ent × Option (List Int)) (rest : List (Ent × Option (List Int))) (h : pickTurns w free l = pre ++ p :: rest) :
    (pickPuts pre).length + p.1.f0.length ≤ w.length ∧ (pickWaits pre).length + p.1.f0.length ≤ w.length := by
  have h1 := congrArg (fun ts => (members (ts.map (·.1))).length) h
  simp only [turns_fst] at h1
  have h2 := pickPuts_le pre
  have h3 := hs.count
  simp [members] at h1 h2 h3
  omega
theorem own_apart {W : World} {base base' : Nat} {e e' : TypeId} {size size' : Nat} {v v' : Value} {k k' : Nat} {xs xs' : List Value} (h : W.ownsRow base e size v k xs) (h' : W.ownsRow base' e' size' v' k' xs') (hne : e ≠ e') : v.ownBlock = none ∨ v.ownBlock ≠ v'.ownBlock := by
  cases hq : v.ownBlock with
  | none => exact .inl rfl
  | some g =>
    refine .inr (fun e => ?_)
    obtain ⟨c1, hc1⟩ := own_typed h g hq
    obtain ⟨c2, hc2⟩ := own_typed h' g e.symm
    rw [hc1] at hc2
    injection hc2 with hc2
    injection hc2 with _ hc2
    exact hne hc2
theorem appended1 {W w1 : World} {base B : Nat} {own : Nat → Prop} {t e : TypeId} {size : Nat} {v v' : Value} {k m : Nat} {xs ys : List Value}
    (hv : Boxed W B t v) (hte : t ≠ e) (hrow : W.ownsRow base e size v k xs) (hb : base ≤ W.heap.size) (hB : own B)
    (hown' : w1.ownsRow base e size v' m ys) (hgrow : W.grownBy w1 v.ownBlock) :
    Boxed w1 B t v ∧ Held (w1.setCell ⟨B, 0, none⟩ v') base B t e size m ys ∧ KeepsOthers W (w1.setCell ⟨B, 0, none⟩ v') ∧ Turned base own W (w1.setCell ⟨B, 0, none⟩ v') := by
  have hv1 : Boxed w1 B t v := hv.kept hgrow (hv.not_row hte hrow)
  refine ⟨hv1, ⟨v', hv1.set v', hown'.kept (grownBy_setCell' w1 B v') (.inr (hv1.not_row hte hown').symm)⟩, ?_, ?_⟩
  · refine (KeepsOthers.of_grownBy hgrow fun j o ej hj => ?_).trans (KeepsOthers.setCell _ _ _)
    rcases hrow.2 with ⟨rfl, _⟩ | ⟨g, cap, cur, rfl, _, hgb, _⟩
    · simp [Value.ownBlock] at ej
    · obtain rfl : g = j := by simpa [Value.ownBlock] using ej
      rw [hgb] at hj; cases hj; rfl
  · refine ((Turned.refl base own W).grown hgrow hb fun j ej => ?_).setCell (p := ⟨B, 0, none⟩) (.inl hB) v'
    rcases hrow.2 with ⟨rfl, _⟩ | ⟨g, cap, cur, rfl, hgb, _, _⟩
    · simp [Value.ownBlock] at ej
    · obtain rfl : g = j := by simpa [Value.ownBlock] using ej
      exact .inr hgb
theorem held_over {W w1 : World} {base base' B : Nat} {t e e' : TypeId} {size size' k k' : Nat} {v' : Value} {xs xs' : List Value} (h : Held W base B t e size k xs) (h' : W.ownsRow base' e' size' v' k' xs') (ht : t ≠ e') (he : e ≠ e') (hg : W.grownBy w1 v'.ownBlock) : Held w1 base B t e size k xs := by
  obtain ⟨v, h1, h2⟩ := h
  exact ⟨v, h1.kept hg (h1.not_row ht h'), h2.kept hg (own_apart h2 h' he)⟩
theorem Held.setOther {W : World} {base B B' : Nat} {t t' e : TypeId} {size k : Nat} {xs : List Value} {u : Value} (h : Held W base B t e size k xs) (hB : B ≠ B') (ht : t' ≠ e) (hb : Boxed W B' t' u) {z : Value} : Held (W.setCell ⟨B', 0, none⟩ z) base B t e size k xs := by
  obtain ⟨v, h1, h2⟩ := h
  exact ⟨v, h1.kept (grownBy_setCell' W B' z) (fun e => hB (by injection e)), h2.kept (grownBy_setCell' W B' z) (.inr (hb.not_row ht h2).symm)⟩
theorem wpAnyIn_round {n : Nat} {P : Program} {md : Region.Mode} {ops : Array Oper} {Q : Exit → Act → World → Prop} (l : Nat) (hd : ∀ (i : Nat) (o : Oper), ops[i]? = some o → ∀ c, o.op ≠ .defer c) :
    ∀ (fuel : Nat) (listed : Array Bool) (a : Act) (w : World), wpAnyIn Fence.wide n P md ops Q fuel listed a w → wpAnyIn (Fence.wide.inRound l) n P md ops Q fuel listed a w := by
  intro fuel
  induction fuel with
  | zero => intro listed a w h; exact h
  | succ fuel ih =>
    intro listed a w h
    refine ⟨h.1, fun i hi => ?_⟩
    have h2 := h.2 i hi
    unfold wpOpIn at h2 ⊢
    cases ho : ops[i]? with
    | none => rw [ho] at h2; exact ih _ _ _ h2
    | some o =>
      rw [ho] at h2
      simp only at h2 ⊢
      by_cases hw : Region.wanted o (yielded ops a.tmps) = true
      · rw [if_pos hw] at h2 ⊢
        have h3 := Oper.wpIn_mono (fun a w h => ih (listed.setIfInBounds i true) a w h) h2
        unfold Oper.wpIn at h3 ⊢
        rw [Oper.semAt_plain _ _ _ (hd i o ho)] at h3 ⊢
        exact h3
      · rw [if_neg hw] at h2 ⊢
        exact ⟨h2.1, ih _ _ _ h2.2⟩
theorem append_stepIn {n : Nat} {P : Program} {o : Oper} {a : Act} {W W' : World} {K : Act → World → Prop} {Q : Exit → Act → World → Prop} {c : Prop} [Decidable c] (hc : c) {R : Prop} (s x : Operand) (t : TypeId)
    (ho : o.op = .call { callee := .builtin .append, args := #[s, x], argTypes := #[t, t] }) (v vx v' : Value) (hs : a.eval s = v) (hx : a.eval x = vx)
    (hrun : (Builtin.append_ #[t, t] o.type #[v, vx]).run P W = .ok v' W') (h : K (a.put o.dst v') W') : if c then Oper.wpIn Fence.wide n P o a W K Q else R := by
  rw [if_pos hc]
  refine ⟨fun _ _ => trivial, ?_⟩
  rw [Oper.semAt_plain _ _ _ (fun c e => by rw [ho] at e; cases e)]
  unfold execOp
  simp only [ho, resolve, invoke, builtin, Sem.run_bind, Sem.run_pure, Result.andThen_ok, List.map_toArray, List.map_cons, List.map_nil, hs, hx, hrun]
  exact h
theorem keeps_drew {W W' : World} (h : KeepsOthers W.drew W') : KeepsOthers W W' := ⟨h.1, h.2⟩
def ownK (b k : Nat) : Prop := k = b ∨ k = b + 1 ∨ k = b + 1 + 1 + 1 + 1
def PickI (w4 : World) (b : Nat) (pre : List (Ent × Option (List Int))) (W : World) : Prop :=
  Held W w4.heap.size b 26 31 2 (pickPuts pre).length ((pickPuts pre).flatMap encP) ∧ Held W w4.heap.size (b + 1) 42 3 1 (pickWaits pre).length ((pickWaits pre).map (Value.int .i64)) ∧ Turned w4.heap.size (ownK b) w4 W
def NoExitK (_ : Code) (_ : World) : Prop := False

set_option maxRecDepth 100000 in
set_option maxHeartbeats 8000000 in
theorem pick_yes (A0 : Option Addr) (c0 : Nat) (l0 : List Ent) (A1 : Option Addr) (c1 : Nat) (l1 : List S36) (free : Nat) (w : World) (hr0 : Kd.C k90 w A0 l0.length l0) (hc0 : l0.length ≤ c0) (hr1 : Kd.C k36 w A1 l1.length l1) (hc1 : l1.length ≤ c1) (hok : okPickArgs l0 l1 free) (h0 : askedP l0 l1 free = 0) (hT : TabW w) :
    Calls Tryd.prog 20 #[.slice A0 l0.length c0, .slice A1 l1.length c1, .int .u32 free] w fun e w' => ∃ v0 v1, e = .returned (.tuple #[v0, v1, .int .i64 0]) ∧ Kd.R k31 31 w' w.heap.size (fun _ => True) v0 (pickPuts (pickTurns l1 free l0)) ∧ Kd.R (Kd.int .i64) 3 w' w.heap.size (fun _ => True) v1 (pickWaits (pickTurns l1 free l0)) ∧ Below w.heap.size w w' := by
  have hv := askedP_val l0 l1 free hok
  rw [h0] at hv
  obtain ⟨⟨hwf, hl1, hl0⟩, -, -⟩ := hok
  obtain ⟨hpc, hf⟩ := askedP_ok.1 h0
  have hsh := ((pickCheck_zero l0 l1).1 hpc).1
  have hf' : free < 256 := by omega
  have HV := Aside0.mk hv
  have HR0 := Aside0.mk hr0
  have HC0 := Aside0.mk hc0
  have HR1 := Aside0.mk hr1
  have HC1 := Aside0.mk hc1
  have HWF := Aside0.mk hwf
  have HT := Aside0.mk hT
  have HSH := Aside0.mk hsh
  clear hv hr0 hc0 hr1 hc1 hwf hT h0 hpc hsh hf
  refine (callsIn_wide (n := 9)).1 ?_
  refine callsIn_of_wp_marks Tryd.func20 rfl trivial ?_ rfl
  simp only [Tryd.ntmps20, List.size_toArray, List.length_cons, List.length_nil, Nat.reduceAdd, Nat.reduceSub, Array.replicate_succ, Array.replicate_zero, List.push_toArray, List.append_toArray, List.nil_append, List.cons_append]
  gi_wp2_with (first
    | (refine ⟨trivial, ?_⟩; gi_at_call 60; refine (callsIn_wide.2 (pick_asked.calls A0 c0 l0 A1 c1 l1 free 0 _ HR0.out HC0.out HR1.out HC1.out HV.out)).mono ?_; rintro e w1 ⟨rfl, hb1⟩; have HB1 := Aside0.mk hb1; clear hb1)
    | (refine ⟨trivial, ?_⟩; gi_at_call 61; refine (callsIn_wide.2 (pturns_calls _ _ _ _ _ _ _ _)).mono ?_; rintro e w2 ⟨rfl, rfl⟩))
  have hsz1 := HB1.out.size
  have hpos := HT.out.pos
  have HT1 := HT.out.step HB1.out
  have hB : Below w1.heap.size w1 (((((w1.alloc (.cells #[.slice none 0 0] 26)).alloc (.cells #[.slice none 0 0] 42)).alloc (.cells #[.slice A0 l0.length c0] 39)).alloc (.cells #[.slice A1 l1.length c1] 22)).alloc (.cells #[.int .u32 free] 24)) :=
    (((((Below.refl _ w1).alloc (Nat.le_refl _) _).alloc (by simp) _).alloc (by simp; omega) _).alloc (by simp; omega) _).alloc (by simp; omega) _
  have b0 := Boxed.new w1 26 (.slice none 0 0)
  have b1 := Boxed.new (w1.alloc (.cells #[.slice none 0 0] 26)) 42 (.slice none 0 0)
  have b2 := Boxed.new ((w1.alloc (.cells #[.slice none 0 0] 26)).alloc (.cells #[.slice none 0 0] 42)) 39 (.slice A0 l0.length c0)
  have b3 := Boxed.new (((w1.alloc (.cells #[.slice none 0 0] 26)).alloc (.cells #[.slice none 0 0] 42)).alloc (.cells #[.slice A0 l0.length c0] 39)) 22 (.slice A1 l1.length c1)
  have b4 := Boxed.new ((((w1.alloc (.cells #[.slice none 0 0] 26)).alloc (.cells #[.slice none 0 0] 42)).alloc (.cells #[.slice A0 l0.length c0] 39)).alloc (.cells #[.slice A1 l1.length c1] 22)) 24 (.int .u32 free)
  simp only [World.size_alloc] at b1 b2 b3 b4
  replace b0 := (((b0.alloc (.cells #[.slice none 0 0] 42)).alloc (.cells #[.slice A0 l0.length c0] 39)).alloc (.cells #[.slice A1 l1.length c1] 22)).alloc (.cells #[.int .u32 free] 24)
  replace b1 := ((b1.alloc (.cells #[.slice A0 l0.length c0] 39)).alloc (.cells #[.slice A1 l1.length c1] 22)).alloc (.cells #[.int .u32 free] 24)
  replace b2 := (b2.alloc (.cells #[.slice A1 l1.length c1] 22)).alloc (.cells #[.int .u32 free] 24)
  replace b3 := b3.alloc (.cells #[.int .u32 free] 24)
  have hsz : (((((w1.alloc (.cells #[.slice none 0 0] 26)).alloc (.cells #[.slice none 0 0] 42)).alloc (.cells #[.slice A0 l0.length c0] 39)).alloc (.cells #[.slice A1 l1.length c1] 22)).alloc (.cells #[.int .u32 free] 24)).heap.size = w1.heap.size + 5 := by simp
  obtain ⟨w4, hw4⟩ : ∃ w4, (((((w1.alloc (.cells #[.slice none 0 0] 26)).alloc (.cells #[.slice none 0 0] 42)).alloc (.cells #[.slice A0 l0.length c0] 39)).alloc (.cells #[.slice A1 l1.length c1] 22)).alloc (.cells #[.int .u32 free] 24)) = w4 := ⟨_, rfl⟩
  rw [hw4] at b0 b1 b2 b3 b4 hB hsz ⊢
  clear hw4
  have hST : Stays w1 w4 := fun k hk => hB.block k hk
  have hit := pturns1_iter (w1.heap.size + 1 + 1) w1 A0 c0 l0 A1 c1 l1 free hf' HSH.out hl0 hl1 HWF.out w4 (Kd.C_below HR0.out HB1.out) HC0.out (Kd.C_below HR1.out HB1.out) HC1.out hST b2 b3 b4 HT1 (by omega)
  have HBA := Aside0.mk (below_step HB1.out hB)
  refine wpIn_rangeR (gf := 90) (lb := #[.pointer (some ⟨w1.heap.size + 1 + 1, 0, none⟩), .pointer (some ⟨w1.heap.size + 1 + 1 + 1, 0, none⟩), .pointer (some ⟨w1.heap.size + 1 + 1 + 1 + 1, 0, none⟩)]) rfl (enters_of Tryd.func90 (by kernel_rfl) rfl) hit (fun x W vs h => by obtain ⟨_, _, _, rfl, _⟩ := h; rfl) (by omega) (fun k hk => by omega)
    (PickI w4 w1.heap.size) NoExitK
    ?calm (fun _ _ _ _ h _ _ => h.elim) ⟨⟨_, b0, World.ownsRow_nil _ _ _ _⟩, ⟨_, b1, World.ownsRow_nil _ _ _ _⟩, Turned.refl _ _ _⟩
    (fun pre x a' W => PickI w4 w1.heap.size pre W ∧
      ∃ bx Am cm v, w4.heap.size ≤ bx ∧ W.heap[bx]? = some (.cells #[.slice Am x.1.f0.length cm, .int .u64 x.1.f1.f0.f0, .int .u64 x.1.f1.f0.f1, .int .u64 x.1.f1.f1, .int .u64 x.1.f2, .bool x.1.f3] 90 (0, 0)) ∧
      (Kd.int .i64).C w1 Am x.1.f0.length x.1.f0 ∧ W.ownsRow w1.heap.size 3 1 v (x.2.getD []).length ((x.2.getD []).map (Value.int .i64)) ∧ (match x.2 with | none => v = .slice none 0 0 | some m => ∃ A n c, v = .slice (some A) n c) ∧
      a' = { tmps := ([.slice A0 l0.length c0, .slice A1 l1.length c1, .int .u32 free, undef, undef, undef, .slice none 0 0, .slice none 0 0, .int .i64 0, .int .i64 0, .pointer (some ⟨w1.heap.size, 0, none⟩), .pointer (some ⟨w1.heap.size + 1, 0, none⟩), .pointer (some ⟨bx, 0, none⟩), v, undef, undef,
        .slice A0 l0.length c0, .slice A1 l1.length c1, .int .u32 free, .int .i64 0, .int .i64 0, .bool false, undef, .slice A0 l0.length c0, .slice A1 l1.length c1, .int .u32 free,
        .func (.func 90) #[] #[.pointer (some ⟨w1.heap.size + 1 + 1, 0, none⟩), .pointer (some ⟨w1.heap.size + 1 + 1 + 1, 0, none⟩), .pointer (some ⟨w1.heap.size + 1 + 1 + 1 + 1, 0, none⟩)],
        .agg #[.slice Am x.1.f0.length cm, .int .u64 x.1.f1.f0.f0, .int .u64 x.1.f1.f0.f1, .int .u64 x.1.f1.f1, .int .u64 x.1.f2, .bool x.1.f3], v] ++ [undef, undef, undef, undef, undef, undef, undef, undef, undef, undef, undef, undef, undef, undef, undef, undef, undef, undef, undef, undef, undef, undef, undef, undef, undef, undef]).toArray, defers := [] })
    ?calma ?assign ?body ?done (fun _ _ _ _ h _ => h.elim)
  case calm =>
    rintro pre X Y r ⟨h1, h2, h3⟩ hg hr
    have hXs := h3.size
    refine ⟨h1.far hg ?_, h2.far hg ?_, h3.grown hg hXs (fun k e => by injection e with e; subst e; rcases hr with rfl | ⟨h, _⟩; exact .inl (.inr (.inr rfl)); exact .inr h)⟩
    · rcases hr with rfl | ⟨h, ho⟩
      · exact .inl ⟨by omega, by omega⟩
      · exact .inr ho
    · rcases hr with rfl | ⟨h, ho⟩
      · exact .inl ⟨by omega, by omega⟩
      · exact .inr ho
  case calma =>
    rintro ⟨pre, x, a'⟩ X Y r ⟨⟨h1, h2, h3⟩, bx, Am, cm, v, g1, g2, g3, g4, g5, g6⟩ hg ⟨hr, o, ho, hcl⟩
    have hXs := h3.size
    refine ⟨⟨h1.far hg (.inr ⟨o, ho, hcl⟩), h2.far hg (.inr ⟨o, ho, hcl⟩), h3.grown hg hXs (fun k e => by injection e with e; subst e; exact .inr hr)⟩, bx, Am, cm, v, g1, blk_grown g2 hg (fun e => ?_), g3, row_far g4 hg (.inr ⟨o, ho, hcl⟩), g5, g6⟩
    injection e with e
    subst e
    rw [g2] at ho; cases ho; cases hcl
  case assign =>
    rintro lp pre ⟨x, a⟩ rest W vs K hx hszW ⟨h1, h2, h3⟩ ⟨Am, cm, v, rfl, q1, q2, q3, q4⟩ hK
    have hu90 := Tryd.underlying90
    have HK := Aside0.mk hK
    have HQ := Aside0.mk (And.intro q2 (And.intro q3 q4))
    have hszl : w1.heap.size + 5 ≤ w4.heap.size := by omega
    clear hK hit hB b0 b1 b2 b3 b4 hsz hx q2 q3 q4
    gi_wp2
    refine HK.out _ _ ((KeepsOthers.alloc _ _).from _) (fun k hk => Below.heap_alloc _ _ _ (by omega)) ⟨⟨h1.alloc _, h2.alloc _, h3.alloc hszW _⟩, W.heap.size, Am, cm, v, hszW, heap_alloc_new W _, HQ.out.1, HQ.out.2.1.alloc _, HQ.out.2.2, rfl⟩
  case body =>
    rintro lp pre ⟨x, a⟩ rest a' W hx hszW ⟨⟨⟨v0, hv0, hrow0⟩, ⟨v1, hv1, hrow1⟩, h3⟩, bx, Am, cm, v, g1, g2, g3, g4, g5, rfl⟩
    simp only [List.cons_append, List.nil_append] at g2 g3 g4 g5 ⊢
    have hszl : w1.heap.size + 5 ≤ w4.heap.size := by omega
    have hmem : (x, a) ∈ pickTurns l1 free l0 := by rw [hx]; simp
    obtain ⟨hxl, hxm⟩ := pturns_range l1 free hf' l0 HSH.out l0 (fun _ h => h) _ hmem
    obtain ⟨hx1, hx8⟩ := HSH.out.len x hxl
    have hbound := pturns_bound l1 free l0 HSH.out pre (x, a) rest hx
    simp only at hxl hxm hx1 hx8 hbound
    have hST2 : Stays w1 W := fun k hk => (h3.block k (by omega) (by unfold ownK; omega)).trans (hB.block k hk)
    have HC1 := Aside0.mk ((Kd.heap_int .i64).C (fun k hk => hST2 k hk) g3)
    have HC0' := Aside0.mk g3
    obtain ⟨ad, rfl, _⟩ := g3.2.2 hx1
    have k0 := blk_cell g2 0
    simp only [List.getElem?_toArray, List.getElem?_cons_zero] at k0
    have HX2 := Aside0.mk h3
    have HSTW := Aside0.mk hST2
    have hbd : (pickPuts pre).length + x.f0.length ≤ 1000000 ∧ (pickWaits pre).length + x.f0.length ≤ 1000000 := by omega
    clear hit hB b0 b1 b2 b3 b4 h3 hsz hST hST2 g3 hx hmem hbound HSH
    cases a with
    | none =>
      simp only at g5
      subst g5
      obtain ⟨i0, hi, hz0, hz1, hz2⟩ := info_parts info3
      have hnil := Lib.run_eql_slice_nil (P := Tryd.prog) W 42 3 none 0 0 0 0 Tryd.underlying42
      have hnews : ∀ j u, (x.f0.map (Value.int .i64))[j]? = some u → W.cell? (ad.add j) = some u := fun j u hu => by
        rw [List.getElem?_map] at hu
        obtain ⟨y, hy, rfl⟩ := Option.map_eq_some_iff.1 hu
        obtain ⟨hj, rfl⟩ := List.getElem?_eq_some_iff.1 hy
        obtain ⟨ai, e, hc⟩ := Kd.at_int HC1.out (j : Int) (by omega) (by omega)
        injection e with e
        subst e
        rw [Int.toNat_natCast, rd_eq _ _ hj] at hc
        exact hc
      have HNW := Aside0.mk hnews
      have c1' := hv1.cell
      clear hnews g4 hxm
      gi_wp2_with (gi_at_builtin; (refine wpListIn_append_own _ rfl _ _ 42 rfl w4.heap.size 3 i0 (.int .i64 0) 1 8 Tryd.underlying42 hi hz0 hz1 hz2 rfl (by decide) _ _ _ rfl hrow1 ad x.f0.length cm (x.f0.map (Value.int .i64)) rfl (by simp) HNW.out (by simp [Value.oneCell']) (by unfold maxLen; omega) (by omega) hszW ?_); intro v' w2 hown' hgrow _; obtain ⟨g', cap', rfl, _, _⟩ := hown'.form (by omega); obtain ⟨hw1, hw2, hw3, hw4⟩ := appended1 (own := fun k => k = w1.heap.size + 1) hv1 (by decide) hrow1 hszW rfl hown' hgrow; have hp2 := held_over ⟨v0, hv0, hrow0⟩ hrow1 (by decide) (by decide) hgrow; have hc1 := hw1.cell; have hf1 := hw1.frozen)
      refine ⟨hw3.from _, hw4.same (fun k hk => ⟨by omega, by omega⟩), ?_, ?_, HX2.out.trans (hw4.weaken (fun k hk => .inr (.inl hk)))⟩
      · rw [pickPuts_snoc, show putsP (x, (none : Option (List Int))) = [] from rfl, List.append_nil]
        exact hp2.setOther (by omega) (by decide) hw1
      · rw [pickWaits_snoc, show waitsP (x, (none : Option (List Int))) = x.f0 from rfl]
        simpa using hw2
    | some m =>
      obtain ⟨Av, nv, cv, rfl⟩ := g5
      obtain ⟨hml, hmr⟩ := hxm m rfl
      simp only [Option.getD_some] at g4
      obtain ⟨g, cap3, e3, _, _⟩ := g4.form (by omega)
      injection e3 with e3 e4 e5
      injection e3 with e3
      subst e3 e4 e5
      obtain ⟨i0, hi, hz0, hz1, hz2⟩ := info_parts info31
      have hnil := Lib.run_eql_slice_nil (P := Tryd.prog) W 42 3 (some ⟨g, 0, none⟩) m.length cv 0 0 Tryd.underlying42
      have HML := Aside0.mk hml
      have HG2 := Aside0.mk g2
      have HG4 := Aside0.mk g4
      have HH0 := Aside0.mk (show Held W w4.heap.size w1.heap.size 26 31 2 (pickPuts pre).length ((pickPuts pre).flatMap encP) from ⟨v0, hv0, hrow0⟩)
      have HH1 := Aside0.mk (show Held W w4.heap.size (w1.heap.size + 1) 42 3 1 (pickWaits pre).length ((pickWaits pre).map (Value.int .i64)) from ⟨v1, hv1, hrow1⟩)
      have hu31 := Tryd.underlying31
      clear hml g2 g4 hv0 hrow0 hv1 hrow1 hxm hmr hxl
      gi_wp2
      gi_loopw [38] (fun s38 wi => ∃ j : Nat, j ≤ x.f0.length ∧ s38 = .int .i64 j ∧ Aside0 (Held wi w4.heap.size w1.heap.size 26 31 2 (pickPuts pre ++ zipP (x.f0.take j) (m.take j)).length ((pickPuts pre ++ zipP (x.f0.take j) (m.take j)).flatMap encP)) ∧
          Aside0 (Held wi w4.heap.size (w1.heap.size + 1) 42 3 1 (pickWaits pre).length ((pickWaits pre).map (Value.int .i64))) ∧ Aside0 (wi.ownsRow w1.heap.size 3 1 (.slice (some ⟨g, 0, none⟩) m.length cv) m.length (m.map (Value.int .i64))) ∧
          Aside0 (KeepsOthers W wi) ∧ Aside0 (Turned w4.heap.size (fun k => k = w1.heap.size) W wi))
        (fun s38 _ => x.f0.length - (intOf s38).toNat)
      case atStart => exact ⟨0, Nat.zero_le _, rfl, by simpa [zipP] using HH0, HH1, HG4, ⟨KeepsOthers.refl _⟩, ⟨Turned.refl _ _ _⟩⟩
      case round =>
        obtain ⟨j, hj, rfl, HP, HWt, HRw, HK, HTu⟩ := hrel
        clear HH0 HH1 HG4
        by_cases hjl : j < x.f0.length
        case neg =>
          obtain rfl : j = x.f0.length := by omega
          clear hjl
          gi_wp2
          refine ⟨HK.out.from _, HTu.out.same (fun k hk => ⟨by omega, by omega⟩), ?_, ?_, HX2.out.trans (HTu.out.weaken (fun k hk => .inl hk))⟩
          · have h1 := HP.out
            rw [List.take_length, show m.take x.f0.length = m by rw [← HML.out, List.take_length]] at h1
            rw [pickPuts_snoc]
            exact h1
          · rw [pickWaits_snoc, show waitsP (x, some m) = [] from rfl, List.append_nil]
            exact HWt.out
        case pos =>
          obtain ⟨v0, hv0, hrow0⟩ := HP.out
          obtain ⟨ai, e, hcm⟩ := Kd.at_int ((Kd.heap_int .i64).C (w1 := wr) (fun k hk => (HTu.out.block k (by omega) (by omega)).trans (HSTW.out k hk)) HC0'.out) (j : Int) (by omega) (by omega)
          injection e with e
          subst e
          rw [Int.toNat_natCast, rd_eq _ _ hjl] at hcm
          have hjm : j < m.length := by rw [HML.out]; exact hjl
          have hcr := HRw.out.cellAt j (by omega)
          rw [List.getElem?_map, List.getElem?_eq_getElem hjm] at hcr
          simp only [Option.map_some] at hcr
          have hzip : zipP (x.f0.take (j + 1)) (m.take (j + 1)) = zipP (x.f0.take j) (m.take j) ++ [⟨x.f0[j], m[j]⟩] := zip_step x.f0 m j hjl hjm
          have hzl : (zipP (x.f0.take j) (m.take j)).length ≤ j := by unfold zipP; simp; omega
          have hlen : (pickPuts pre ++ zipP (x.f0.take j) (m.take j)).length < 1000000 := by rw [List.length_append]; omega
          have HZ := Aside0.mk hzip
          generalize x.f0[j] = pv at *
          generalize m[j] = pc at *
          generalize hps : pickPuts pre ++ zipP (x.f0.take j) (m.take j) = ps at *
          have HPS := Aside0.mk hps
          clear hzip hps hzl
          have hwr : w4.heap.size ≤ wr.heap.size := Nat.le_trans hszW HTu.out.size
          have hd0 : Boxed wr.drew w1.heap.size 26 v0 := hv0
          have hdr : wr.drew.ownsRow w4.heap.size 31 2 v0 ps.length (ps.flatMap encP) := hrow0
          obtain ⟨v', w6, hrun, hown', hgrow, _⟩ := run_append_own (P := Tryd.prog) (wr.drew.alloc (.cells #[.int .i64 pv, .int .i64 pc] 31)) w4.heap.size 26 26 31 i0 (.agg #[.int .i64 0, .int .i64 0]) 2 16 Tryd.underlying26 hi hz0 hz1 hz2 rfl (by decide) v0 ps.length (ps.flatMap encP) (hdr.alloc _)
            ⟨wr.heap.size, 0, none⟩ 1 1 [.int .i64 pv, .int .i64 pc] rfl (cell_two_new wr.drew _ _ _) (by simp [Value.oneCell']) (by unfold maxLen; omega) (by omega) (by show w4.heap.size ≤ (wr.drew.alloc _).heap.size; rw [World.size_alloc]; show w4.heap.size ≤ wr.heap.size + 1; omega)
          obtain ⟨g', cap', rfl, _, _⟩ := hown'.form (by omega)
          obtain ⟨hw1, hw2, hw3, hw4⟩ := appended2 (own := fun k => k = w1.heap.size) hd0 (by decide) hdr hwr rfl hown' hgrow
          have cb := hd0.cell
          have cb3 := (hv0.alloc (.cells #[.int .i64 pv, .int .i64 pc] 31)).cell
          have hq1 : Held wr.drew w4.heap.size (w1.heap.size + 1) 42 3 1 (pickWaits pre).length ((pickWaits pre).map (Value.int .i64)) := HWt.out
          have hq2 := held_over (hq1.alloc (.cells #[.int .i64 pv, .int .i64 pc] 31)) (hdr.alloc _) (by decide) (by decide) hgrow
          have HQ4 := Aside0.mk (hq2.setOther (z := .slice (some ⟨g', 0, none⟩) (ps.length + 1) cap') (by omega) (by decide) hw1)
          have hs1 : wr.drew.ownsRow w1.heap.size 3 1 (.slice (some ⟨g, 0, none⟩) m.length cv) m.length (m.map (Value.int .i64)) := HRw.out
          have hs2 := (hs1.alloc (.cells #[.int .i64 pv, .int .i64 pc] 31)).kept hgrow (own_apart hs1 hdr (by decide))
          have HS4 := Aside0.mk (hs2.kept (grownBy_setCell' w6 w1.heap.size (.slice (some ⟨g', 0, none⟩) (ps.length + 1) cap')) (.inr (hw1.not_row (by decide) hs2).symm))
          clear hq1 hq2 hs1 hs2
          have cb2 := (hd0.alloc (.cells #[.int .i64 pv, .int .i64 pc] 31)).cell
          have cr1 : wr.drew.cell? ⟨g, j, none⟩ = some (.int .i64 pc) := hcr
          have cr2 := (World.cell?_alloc_lt wr.drew (.cells #[.int .i64 pv, .int .i64 pc] 31) _ (World.block_lt_of_cell? wr.drew _ cr1)).trans cr1
          have cw1 := hw1.cell
          have fw1 := hw1.frozen
          have HW2 := Aside0.mk hw2
          have HW3 := Aside0.mk hw3
          have HW4 := Aside0.mk hw4
          have HGR := Aside0.mk hgrow
          have HDR := Aside0.mk hdr
          have hj0 : (0 : Int) ≤ j := by omega
          have hj1 : (j : Int) < (m.length : Int) := by omega
          clear hv0 hrow0 hd0 hdr hown' hgrow hw1 hw2 hw3 hw4 hcr
          gi_wp2
          refine wpIn_region_any (by kernel_rfl) (wpAnyIn_round lp ?_ _ _ _ _ ?_)
          · intro i o ho c hc
            have : i < 10 := by
              have := (Array.getElem?_eq_some_iff.1 ho).1
              simpa using this
            have hi : i = 0 ∨ i = 1 ∨ i = 2 ∨ i = 3 ∨ i = 4 ∨ i = 5 ∨ i = 6 ∨ i = 7 ∨ i = 8 ∨ i = 9 := by omega
            rcases hi with rfl | rfl | rfl | rfl | rfl | rfl | rfl | rfl | rfl | rfl <;> (injection ho with ho; subst ho; cases hc)
          refine wpAnyIn_take (i := 1) (v := .int .i64 pv) rfl rfl (by kernel_rfl) (by kernel_rfl) (by kernel_rfl) (fun _ _ _ h => h) ⟨Or.inl ⟨by rfl, fun w => by go_simp⟩, fun _ => rfl⟩ ?_
          refine wpAnyIn_take (i := 2) (v := .slice (some ⟨g, 0, none⟩) m.length cv) rfl rfl (by kernel_rfl) (by kernel_rfl) (by kernel_rfl) (fun _ _ _ h => h) ⟨Or.inl ⟨by rfl, fun w => by go_simp⟩, fun _ => rfl⟩ ?_
          refine wpAnyIn_take (i := 3) (v := .int .i64 j) rfl rfl (by kernel_rfl) (by kernel_rfl) (by kernel_rfl) (fun _ _ _ h => h) ⟨Or.inl ⟨by rfl, fun w => by go_simp⟩, fun _ => rfl⟩ ?_
          refine wpAnyIn_take (i := 4) (v := .pointer (some ⟨g, j, none⟩)) rfl rfl (by kernel_rfl) (by kernel_rfl) (by kernel_rfl) (fun _ _ _ h => h) ⟨Or.inl ⟨by rfl, fun w => by go_simp⟩, fun _ => rfl⟩ ?_
          refine wpAnyIn_ready (rs := [0, 5]) (by kernel_rfl) (by simp) ?_
          refine AllReadyIn.cons rfl (fun K hK => ?_) (AllReadyIn.cons rfl (fun K hK => ?_) AllReadyIn.nil)
          · go_simp
            refine hK _ _ ?_
            clear hK K
            refine wpAnyIn_ready (rs := [5]) (by kernel_rfl) (by simp) ?_
            refine AllReadyIn.cons rfl (fun K hK => ?_) AllReadyIn.nil
            go_simp
            refine hK _ _ ?_
            clear hK K
            refine wpAnyIn_take (i := 6) (v := .agg #[.int .i64 pv, .int .i64 pc]) rfl rfl (by kernel_rfl) (by kernel_rfl) (by kernel_rfl) (fun _ _ _ h => h) ⟨Or.inl ⟨by rfl, fun w => by go_simp⟩, fun _ => rfl⟩ ?_
            refine wpAnyIn_ready (rs := [7]) (by kernel_rfl) (by simp) ?_
            refine AllReadyIn.cons rfl (fun K hK => ?_) AllReadyIn.nil
            go_simp
            refine hK _ _ ?_
            clear hK K
            refine wpAnyIn_ready (rs := [8]) (by kernel_rfl) (by simp) ?_
            refine AllReadyIn.cons rfl (fun K hK => ?_) AllReadyIn.nil
            refine append_stepIn (by rfl) _ _ 26 rfl v0 (.slice (some ⟨wr.heap.size, 0, none⟩) 1 1) _ rfl rfl hrun ?_
            refine hK _ _ ?_
            clear hK K
            refine wpAnyIn_ready (rs := [9]) (by kernel_rfl) (by simp) ?_
            refine AllReadyIn.cons rfl (fun K hK => ?_) AllReadyIn.nil
            go_simp
            refine hK _ _ ?_
            clear hK K
            refine wpAnyIn_done (by kernel_rfl) ?_ _
            gi_wp2
            go_roundw
            case rel =>
              refine ⟨j + 1, by omega, by go_num, ⟨?_⟩, HQ4, HS4, ⟨HK.out.trans (keeps_drew HW3.out)⟩, ⟨HTu.out.drew.trans HW4.out⟩⟩
              have h5 := HW2.out
              rw [HZ.out, ← List.append_assoc, HPS.out]
              simpa [encP] using h5
            case measure => simp only [intOf]; omega
          · go_simp
            refine hK _ _ ?_
            clear hK K
            refine wpAnyIn_take (i := 6) (v := .agg #[.int .i64 pv, .int .i64 pc]) rfl rfl (by kernel_rfl) (by kernel_rfl) (by kernel_rfl) (fun _ _ _ h => h) ⟨Or.inl ⟨by rfl, fun w => by go_simp⟩, fun _ => rfl⟩ ?_
            refine wpAnyIn_ready (rs := [0, 7]) (by kernel_rfl) (by simp) ?_
            refine AllReadyIn.cons rfl (fun K hK => ?_) (AllReadyIn.cons rfl (fun K hK => ?_) AllReadyIn.nil)
            · go_simp
              refine hK _ _ ?_
              clear hK K
              refine wpAnyIn_ready (rs := [7]) (by kernel_rfl) (by simp) ?_
              refine AllReadyIn.cons rfl (fun K hK => ?_) AllReadyIn.nil
              go_simp
              refine hK _ _ ?_
              clear hK K
              refine wpAnyIn_ready (rs := [8]) (by kernel_rfl) (by simp) ?_
              refine AllReadyIn.cons rfl (fun K hK => ?_) AllReadyIn.nil
              refine append_stepIn (by rfl) _ _ 26 rfl v0 (.slice (some ⟨wr.heap.size, 0, none⟩) 1 1) _ rfl rfl hrun ?_
              refine hK _ _ ?_
              clear hK K
              refine wpAnyIn_ready (rs := [9]) (by kernel_rfl) (by simp) ?_
              refine AllReadyIn.cons rfl (fun K hK => ?_) AllReadyIn.nil
              go_simp
              refine hK _ _ ?_
              clear hK K
              refine wpAnyIn_done (by kernel_rfl) ?_ _
              gi_wp2
              go_roundw
              case rel =>
                refine ⟨j + 1, by omega, by go_num, ⟨?_⟩, HQ4, HS4, ⟨HK.out.trans (keeps_drew HW3.out)⟩, ⟨HTu.out.drew.trans HW4.out⟩⟩
                have h5 := HW2.out
                rw [HZ.out, ← List.append_assoc, HPS.out]
                simpa [encP] using h5
              case measure => simp only [intOf]; omega
            · go_simp
              refine hK _ _ ?_
              clear hK K
              refine wpAnyIn_ready (rs := [0]) (by kernel_rfl) (by simp) ?_
              refine AllReadyIn.cons rfl (fun K hK => ?_) AllReadyIn.nil
              go_simp
              refine hK _ _ ?_
              clear hK K
              refine wpAnyIn_ready (rs := [8]) (by kernel_rfl) (by simp) ?_
              refine AllReadyIn.cons rfl (fun K hK => ?_) AllReadyIn.nil
              refine append_stepIn (by rfl) _ _ 26 rfl v0 (.slice (some ⟨wr.heap.size, 0, none⟩) 1 1) _ rfl rfl hrun ?_
              refine hK _ _ ?_
              clear hK K
              refine wpAnyIn_ready (rs := [9]) (by kernel_rfl) (by simp) ?_
              refine AllReadyIn.cons rfl (fun K hK => ?_) AllReadyIn.nil
              go_simp
              refine hK _ _ ?_
              clear hK K
              refine wpAnyIn_done (by kernel_rfl) ?_ _
              gi_wp2
              go_roundw
              case rel =>
                refine ⟨j + 1, by omega, by go_num, ⟨?_⟩, HQ4, HS4, ⟨HK.out.trans (keeps_drew HW3.out)⟩, ⟨HTu.out.drew.trans HW4.out⟩⟩
                have h5 := HW2.out
                rw [HZ.out, ← List.append_assoc, HPS.out]
                simpa [encP] using h5
              case measure => simp only [intOf]; omega
  case done =>
    rintro D W hD ⟨⟨v0, hv0, hrow0⟩, ⟨v1, hv1, hrow1⟩, h3⟩ hK
    have HKR := Aside0.mk (RP_of_own hrow0)
    have HKW := Aside0.mk (show Kd.R (Kd.int .i64) 3 W w4.heap.size (fun _ => True) v1 (pickWaits (pickTurns l1 free l0)) from Kd.R_of_own hrow1 (fun _ _ => trivial))
    have c0' := hv0.cell
    have c1' := hv1.cell
    have HX2 := Aside0.mk h3
    have HRow0 := Aside0.mk hrow0
    have HRow1 := Aside0.mk hrow1
    have HK := Aside0.mk hK
    clear hit hB b0 b1 b2 b3 b4 h3 hsz hrow0 hrow1 hv0 hv1 hK HT1 hST
    gi_wp2
    refine wpIn_wide.2 ?_
    go_quiet (fail)
    gi_wp2
    have hK' : (W.drewN nq).heap[D]? = some (.deferred (some [])) := HK.out
    refine ⟨by simp, .inl ⟨_, _, rfl, run_takeDeferred hK', ?_⟩⟩
    refine ⟨_, results_tmp3 rfl _ _ _, v0, v1, rfl, ?_, ?_, ?_⟩
    · exact RP_of_own (ownsRow_lower (ownsRow_putObj (show (W.drewN nq).ownsRow _ _ _ _ _ _ from HRow0.out) _ hK' rfl) HBA.out.size)
    · exact Kd.R_of_own (ownsRow_lower (ownsRow_putObj (show (W.drewN nq).ownsRow _ _ _ _ _ _ from HRow1.out) _ hK' rfl) HBA.out.size) (fun _ _ => trivial)
    · have hB1 : Below w.heap.size w4 W := HX2.out.below HBA.out.size (fun k hk => by unfold ownK at hk; omega)
      have hB2 : Below w.heap.size w (W.drewN nq) := pw_below_drewN (HBA.out.trans hB1) nq
      exact below_far hB2 (Nat.le_refl _) (B := w.heap.size) (Nat.le_refl _) (grownBy_putObj' _ D _) (by have := HBA.out.size; omega)
theorem pick_Pick.calls (A0 : Option Addr) (c0 : Nat) (l0 : List Ent) (A1 : Option Addr) (c1 : Nat) (l1 : List S36) (a2 : Int) (r1 : List S31) (r2 : List Int) (r3 : Int) (w : World) (hr0 : Kd.C k90 w A0 l0.length l0) (hc0 : l0.length ≤ c0) (hr1 : Kd.C k36 w A1 l1.length l1) (hc1 : l1.length ≤ c1) (hT : TabW w) (h : pick_Pick.f l0 l1 a2 = some (r1, r2, r3)) :
    Calls Tryd.prog 20 #[.slice A0 l0.length c0, .slice A1 l1.length c1, .int .u32 a2] w fun e w' => ∃ v0_ v1_ : Value, e = .returned (.tuple #[v0_, v1_, .int .i64 r3]) ∧ Kd.R k31 31 w' w.heap.size (fun _ => True) v0_ r1 ∧ Kd.R (Kd.int .i64) 3 w' w.heap.size (fun _ => True) v1_ r2 ∧ Below w.heap.size w w' := by
  unfold pick_Pick.f at h
  by_cases hok : okPickArgs l0 l1 a2
  case neg => rw [if_neg hok] at h; cases h
  rw [if_pos hok] at h
  replace h := Option.some.inj h
  by_cases h0 : askedP l0 l1 a2 = 0
  · rw [if_pos h0] at h
    injection h with e1 h
    injection h with e2 e3
    subst e1 e2 e3
    obtain ⟨free, rfl⟩ : ∃ n : Nat, a2 = n := ⟨a2.toNat, by have := hok.2.1; omega⟩
    exact pick_yes A0 c0 l0 A1 c1 l1 free w hr0 hc0 hr1 hc1 hok h0 hT
  · rw [if_neg h0] at h
    injection h with e1 h
    injection h with e2 e3
    subst e1 e2 e3
    exact (pick_no A0 c0 l0 A1 c1 l1 a2 w hr0 hc0 hr1 hc1 hok h0).mono fun e w' h => ⟨_, _, h.1, Kd.R_nil _ _ _ _ _, Kd.R_nil _ _ _ _ _, h.2⟩
end Go.Proofs.YtdmieaidheelbaaDoor.Q
end
/- PickOn -/
section
/- pick.On by its contract: the first placement of a vCPU, at every row of placements. -/
namespace Go.Proofs.YtdmieaidheelbaaDoor.Q
open Go Go.RowKit Go.Proofs.YtdmieaidheelbaaDoorW.PrintWords Go.Proofs.YtdmieaidheelbaaDoorW.PrintLast Go.Proofs.YtdmieaidheelbaaDoorW.PrintMore
set_option linter.unusedVariables false
set_option linter.unusedSimpArgs false

theorem field36_2 (v0 v1 v2 v3 : Value) (w : World) : (Instr.field 36 (.agg #[v0, v1, v2, v3]) 2).run Tryd.prog w = .ok (.agg #[v2, v3]) w := by
  simp [Instr.field, asAgg, go_sem]
def firstOn (v : Int) : List S31 → Nat → Int
  | [], _ => -1
  | x :: l, i => if (x.f0 == v) = true then (i : Int) else firstOn v l (i + 1)
def onP (l : List S31) (v : Int) : Int × Bool := match l.find? (fun x => x.f0 == v) with | some x => (x.f1, true) | none => (0, false)
def pick_On.f (l0 : List S31) (a1 : Int) : Option (Int × Bool) := if l0.length ≤ 1000000 then some (onP l0 a1) else none
theorem firstOn_spec (v : Int) (l : List S31) : ∀ i, (firstOn v l i = -1 ∧ l.find? (fun x => x.f0 == v) = none) ∨ (∃ j : Nat, firstOn v l i = ((i + j : Nat) : Int) ∧ ∃ h : j < l.length, l.find? (fun x => x.f0 == v) = some l[j]) := by
  induction l with
  | nil => intro i; exact .inl ⟨rfl, rfl⟩
  | cons x l ih =>
    intro i
    rw [firstOn, List.find?_cons]
    cases h : (x.f0 == v) with
    | true => exact .inr ⟨0, rfl, Nat.zero_lt_succ _, rfl⟩
    | false =>
      simp only [Bool.false_eq_true, if_false]
      rcases ih (i + 1) with ⟨h1, h2⟩ | ⟨j, h1, hj, h2⟩
      · exact .inl ⟨h1, h2⟩
      · exact .inr ⟨j + 1, by rw [h1]; congr 1; omega, by simpa using hj, by simpa using h2⟩

set_option maxRecDepth 100000 in
set_option maxHeartbeats 8000000 in
theorem on1_calls (b : Nat) (v : Int) (x0 x1 : Int) (W : World) (hb : Boxed W b 3 (.int .i64 v)) :
    Calls Tryd.prog 66 #[.agg #[.int .i64 x0, .int .i64 x1], .pointer (some ⟨b, 0, none⟩)] W fun e w' => e = .returned (.bool (x0 == v)) ∧ Below W.heap.size W w' := by
  have hu31 := Tryd.underlying31
  have hbl := hb.lt
  have HB := Aside0.mk ((Below.refl W.heap.size W).alloc (Nat.le_refl _) (.cells #[.int .i64 x0, .int .i64 x1] 31))
  have hcell := (hb.alloc (.cells #[.int .i64 x0, .int .i64 x1] 31)).cell
  clear hb
  go_enter Tryd.func66, Tryd.ntmps66
  go_wp2
  go_ret
  exact ⟨rfl, by first | exact HB.out | exact pw_below_drewN HB.out _⟩

set_option maxRecDepth 100000 in
set_option maxHeartbeats 8000000 in
theorem indexOn_calls (b : Nat) (v : Int) (A0 : Option Addr) (c0 : Nat) (l0 : List S31) (w : World) (hr0 : Kd.C k31 w A0 l0.length l0) (hc0 : l0.length ≤ c0) (hl : l0.length ≤ 1000000) (hb : Boxed w b 3 (.int .i64 v)) :
    Calls Tryd.prog 92 #[.slice A0 l0.length c0, .func (.func 66) #[] #[.pointer (some ⟨b, 0, none⟩)]] w fun e w' => e = .returned (.int .i64 (firstOn v l0 0)) ∧ Below w.heap.size w w' := by
  have hu31 := Tryd.underlying31
  have HR0 := Aside0.mk hr0
  have HC0 := Aside0.mk hc0
  have HBX := Aside0.mk hb
  clear hr0 hc0 hb
  go_enter Tryd.func92, Tryd.ntmps92
  go_wp2
  go_loopw [8] (fun s8 wr => ∃ (k : Nat), k ≤ l0.length ∧ s8 = .int .i64 k ∧ Aside0 (firstOn v (l0.drop k) k = firstOn v l0 0) ∧ Aside0 (Below w.heap.size w wr))
    (fun s8 _ => l0.length - (intOf s8).toNat)
  case atStart => exact ⟨0, Nat.zero_le _, rfl, ⟨rfl⟩, ⟨Below.refl _ w⟩⟩
  case round =>
    obtain ⟨k, hk, rfl, HF, HB⟩ := hrel
    by_cases hlt : k < l0.length
    case neg =>
      obtain rfl : k = l0.length := by omega
      have hf := HF.out
      rw [List.drop_length, firstOn] at hf
      have HFF := Aside0.mk hf
      clear hf HF hlt
      go_wp2
      go_ret
      exact ⟨by rw [← HFF.out]; rfl, HB.out⟩
    case pos =>
      have hf := HF.out
      rw [List.drop_eq_getElem_cons hlt, show l0[k] = rd_T31 l0 (k : Int) by simp [rd_T31, hlt], firstOn] at hf
      have HFF := Aside0.mk hf
      clear hf HF
      obtain ⟨ad, rfl, hx0, hx1⟩ := at_T31 (Kd.C_below HR0.out HB.out) (k : Int) (by omega) (by omega)
      rw [Int.toNat_natCast] at hx0 hx1
      generalize rd_T31 l0 (k : Int) = x at *
      have hp : decide ((k : Int) < (l0.length : Int)) = true := decide_eq_true (by omega)
      cases hq : (x.f0 == v) with
      | true =>
        have hf := HFF.out
        rw [hq, if_pos rfl] at hf
        have HFT := Aside0.mk hf
        clear HFF hf
        go_wp2_with (go_at_call 66; refine (on1_calls b v x.f0 x.f1 _ ((HB.out.block _ HBX.out.lt).trans HBX.out)).mono ?_; rintro e w5 ⟨rfl, hb5⟩; have HB5 := Aside0.mk (below_step HB.out hb5); clear hb5; try rw [hq])
        go_ret
        exact ⟨by rw [← HFT.out]; rfl, HB5.out⟩
      | false =>
        have hf := HFF.out
        rw [hq, if_neg (by simp)] at hf
        have HFN := Aside0.mk hf
        clear HFF hf
        go_wp2_with (go_at_call 66; refine (on1_calls b v x.f0 x.f1 _ ((HB.out.block _ HBX.out.lt).trans HBX.out)).mono ?_; rintro e w5 ⟨rfl, hb5⟩; have HB5 := Aside0.mk (below_step HB.out hb5); clear hb5; try rw [hq])
        go_roundw
        case measure => simp only [intOf]; omega
        case rel => exact ⟨k + 1, by omega, by simp, HFN, HB5⟩
def findP (l : List S31) (v : Int) : S31 × Bool := match l.find? (fun x => x.f0 == v) with | some x => (x, true) | none => (⟨0, 0⟩, false)
theorem on_find (l : List S31) (v : Int) : onP l v = ((findP l v).1.f1, (findP l v).2) := by
  unfold onP findP
  cases l.find? (fun x => x.f0 == v) <;> rfl
set_option maxRecDepth 100000 in
set_option maxHeartbeats 8000000 in
theorem findOn_calls (b : Nat) (v : Int) (A0 : Option Addr) (c0 : Nat) (l0 : List S31) (w : World) (hr0 : Kd.C k31 w A0 l0.length l0) (hc0 : l0.length ≤ c0) (hl : l0.length ≤ 1000000) (hb : Boxed w b 3 (.int .i64 v)) :
    Calls Tryd.prog 65 #[.slice A0 l0.length c0, .func (.func 66) #[] #[.pointer (some ⟨b, 0, none⟩)]] w fun e w' => e = .returned (.tuple #[.agg #[.int .i64 (findP l0 v).1.f0, .int .i64 (findP l0 v).1.f1], .bool (findP l0 v).2]) ∧ Below w.heap.size w w' := by
  have hu31 := Tryd.underlying31
  have HR0 := Aside0.mk hr0
  have HC0 := Aside0.mk hc0
  have HL := Aside0.mk hl
  have HB := Aside0.mk ((Below.refl w.heap.size w).alloc (Nat.le_refl _) (.cells #[.int .i64 0, .int .i64 0] 31))
  have HBX := Aside0.mk (hb.alloc (.cells #[.int .i64 0, .int .i64 0] 31))
  have hnew := heap_alloc_new w (.cells #[.int .i64 0, .int .i64 0] 31)
  have HN := Aside0.mk hnew
  clear hr0 hc0 hb hnew hl
  rcases firstOn_spec v l0 0 with ⟨hf, hfd⟩ | ⟨j, hf, hj, hfd⟩
  · have HP := Aside0.mk (show findP l0 v = (⟨0, 0⟩, false) by unfold findP; rw [hfd])
    have HF := Aside0.mk hf
    clear hf hfd
    go_enter Tryd.func65, Tryd.ntmps65
    go_wp2_with (go_at_call 92; refine (indexOn_calls b v A0 c0 l0 _ (Kd.C_below HR0.out HB.out) HC0.out HL.out HBX.out).mono ?_; rintro e w5 ⟨rfl, hb5⟩; rw [HF.out]; have HB5 := Aside0.mk (below_step HB.out hb5); have hn5 := (hb5.block _ (blk_lt HN.out)).trans HN.out; have hk0 := (blk_cell hn5 0); have hk1 := (blk_cell hn5 1); have hz0 := blk_frozen hn5 0; have hz1 := blk_frozen hn5 1; have HN5 := Aside0.mk hn5; simp only [List.getElem?_toArray, List.getElem?_cons_zero, List.getElem?_cons_succ] at hk0 hk1; clear hb5 hn5)
    refine bodyPost_ret (results_ct rfl _ _ w.heap.size 31 #[.int .i64 0, .int .i64 0] (0, 0) _ rfl (by refine blk_put (cs := #[.int .i64 0, .int .i64 0]) ?_ 1 _ rfl; refine blk_put (cs := #[.int .i64 0, .int .i64 0]) ?_ 0 _ rfl; exact HN5.out) hu31 rfl (by kernel_rfl)) rfl ?_
    exact ⟨by rw [HP.out]; rfl, (HB5.out.setCell (Nat.le_refl _) _).setCell (Nat.le_refl _) _⟩
  · have HP := Aside0.mk (show findP l0 v = (l0[j], true) by unfold findP; rw [hfd])
    have hf' : firstOn v l0 0 = (j : Int) := by rw [hf]; omega
    have HF := Aside0.mk hf'
    obtain ⟨ad, rfl, hx0, hx1⟩ := at_T31 HR0.out (j : Int) (by omega) (by omega)
    rw [Int.toNat_natCast] at hx0 hx1
    have HX0 := Aside0.mk hx0
    have HX1 := Aside0.mk hx1
    replace HP := Aside0.mk (HP.out.trans (by rw [show l0[j] = rd_T31 l0 (j : Int) by simp [rd_T31, hj]]))
    clear hf hfd hf' hx0 hx1
    generalize rd_T31 l0 (j : Int) = x at *
    have hj0 : decide ((j : Int) < 0) = false := decide_eq_false (by omega)
    go_enter Tryd.func65, Tryd.ntmps65
    go_wp2_with (go_at_call 92; refine (indexOn_calls b v (some ad) c0 l0 _ (Kd.C_below HR0.out HB.out) HC0.out HL.out HBX.out).mono ?_; rintro e w5 ⟨rfl, hb5⟩; rw [HF.out]; have HB5 := Aside0.mk (below_step HB.out hb5); have hn5 := (hb5.block _ (blk_lt HN.out)).trans HN.out; have hk0 := (blk_cell hn5 0); have hk1 := (blk_cell hn5 1); have hz0 := blk_frozen hn5 0; have hz1 := blk_frozen hn5 1; have HN5 := Aside0.mk hn5; simp only [List.getElem?_toArray, List.getElem?_cons_zero, List.getElem?_cons_succ] at hk0 hk1; have hy0 := pw_cell_below HB5.out HX0.out; have hy1 := pw_cell_below HB5.out HX1.out; clear hb5 hn5)
    refine bodyPost_ret (results_ct rfl _ _ w.heap.size 31 #[.int .i64 x.f0, .int .i64 x.f1] (0, 0) _ rfl (by refine blk_put (cs := #[.int .i64 x.f0, .int .i64 0]) ?_ 1 _ rfl; refine blk_put (cs := #[.int .i64 0, .int .i64 0]) ?_ 0 _ rfl; exact HN5.out) hu31 rfl (by kernel_rfl)) rfl ?_
    exact ⟨by rw [HP.out]; rfl, (HB5.out.setCell (Nat.le_refl _) _).setCell (Nat.le_refl _) _⟩
set_option maxRecDepth 100000 in
set_option maxHeartbeats 8000000 in
theorem pick_On.calls (A0 : Option Addr) (c0 : Nat) (l0 : List S31) (a1 : Int) (r1 : Int) (r2 : Bool) (w : World) (hr0 : Kd.C k31 w A0 l0.length l0) (hc0 : l0.length ≤ c0) (h : pick_On.f l0 a1 = some (r1, r2)) :
    Calls Tryd.prog 24 #[.slice A0 l0.length c0, .int .i64 a1] w fun e w' => e = .returned (.tuple #[.int .i64 r1, .bool r2]) ∧ Below w.heap.size w w' := by
  unfold pick_On.f at h
  by_cases hl : l0.length ≤ 1000000
  case neg => rw [if_neg hl] at h; cases h
  rw [if_pos hl] at h
  have e := (on_find l0 a1).symm.trans (Option.some.inj h)
  have HE1 := Aside0.mk (congrArg Prod.fst e)
  have HE2 := Aside0.mk (congrArg Prod.snd e)
  have hu31 := Tryd.underlying31
  have HR0 := Aside0.mk hr0
  have HC0 := Aside0.mk hc0
  have HL := Aside0.mk hl
  have HB := Aside0.mk ((Below.refl w.heap.size w).alloc (Nat.le_refl _) (.cells #[.int .i64 a1] 3))
  have HBX := Aside0.mk (show Boxed (w.alloc (.cells #[.int .i64 a1] 3)) w.heap.size 3 (.int .i64 a1) from heap_alloc_new w _)
  clear hr0 hc0 hl h e
  go_enter Tryd.func24, Tryd.ntmps24
  go_wp2_with (go_at_call 65; refine (findOn_calls w.heap.size a1 A0 c0 l0 _ (Kd.C_below HR0.out HB.out) HC0.out HL.out HBX.out).mono ?_; rintro e w5 ⟨rfl, hb5⟩; have HB5 := Aside0.mk (below_step HB.out hb5); clear hb5)
  refine bodyPost_ret (results_tmp2 rfl _ _ _) rfl ?_
  exact ⟨by rw [← HE1.out, ← HE2.out]; rfl, below_alloc HB5.out _⟩
end Go.Proofs.YtdmieaidheelbaaDoor.Q
end
/- PickFacts -/
section
/- What the turns of pick.Pick are: who is where, what is free when. Lists and numbers alone. -/
namespace Go.Proofs.YtdmieaidheelbaaDoor.Q
open Go Go.RowKit Go.Proofs.YtdmieaidheelbaaDoorW.PrintWords Go.Proofs.YtdmieaidheelbaaDoorW.PrintLast Go.Proofs.YtdmieaidheelbaaDoorW.PrintMore
set_option linter.unusedVariables false
set_option linter.unusedSimpArgs false

section
variable {l0 : List Ent} {w : List S36} (hs : Shape l0 w)
include hs
theorem wish_unique : ∀ x ∈ w, ∀ y ∈ w, x.f0 = y.f0 → x = y := by
  have h := hs.wrise
  clear hs
  induction w with
  | nil => intro x hx; simp at hx
  | cons z w ih =>
    obtain ⟨h1, h2⟩ := List.pairwise_cons.1 h
    intro x hx y hy e
    rcases List.mem_cons.1 hx with rfl | hx2
    · rcases List.mem_cons.1 hy with rfl | hy2
      · rfl
      · have := h1 y hy2; omega
    · rcases List.mem_cons.1 hy with e2 | hy2
      · subst e2; have := h1 x hx2; omega
      · exact ih h2 x hx2 y hy2 e
theorem wishOf_eq (y : S36) (hy : y ∈ w) : wishOf w y.f0 = y := by
  have hm : y ∈ wishesN w [y.f0] := List.mem_filter.2 ⟨hy, by simp⟩
  unfold wishOf
  match hq : wishesN w [y.f0], hm with
  | z :: rest, hm =>
    have hz : z ∈ wishesN w [y.f0] := by rw [hq]; simp
    obtain ⟨z1, z2⟩ := List.mem_filter.1 hz
    exact wish_unique hs z z1 y hy (by simpa using z2)
theorem wishOf_mem (v : Int) (hv : v ∈ members l0) : wishOf w v ∈ w ∧ (wishOf w v).f0 = v := by
  obtain ⟨y, hy, rfl⟩ := List.mem_map.1 (hs.all_wish v hv)
  rw [wishOf_eq hs y hy]
  exact ⟨hy, rfl⟩
theorem wishes_get (x : Ent) (hx : x ∈ l0) (j : Nat) (hj : j < x.f0.length) : ∃ h : j < (wishesN w x.f0).length, (wishesN w x.f0)[j] = wishOf w x.f0[j] := by
  have hl := hs.wishes_len x hx
  refine ⟨by omega, ?_⟩
  have hm0 : (wishesN w x.f0)[j]'(by omega) ∈ wishesN w x.f0 := List.getElem_mem _
  have hm : (wishesN w x.f0)[j]'(by omega) ∈ w := (List.mem_filter.1 hm0).1
  have hf : ((wishesN w x.f0)[j]'(by omega)).f0 = x.f0[j] := by
    have := hs.wishes x hx
    have h2 : ((wishesN w x.f0).map (·.f0))[j]? = x.f0[j]? := by rw [this]
    rw [List.getElem?_map, List.getElem?_eq_getElem (show j < (wishesN w x.f0).length by omega), List.getElem?_eq_getElem hj] at h2
    simpa using h2
  rw [← hf]; exact (wishOf_eq hs _ hm).symm
end
def mayN (w : List S36) (v : Int) (free : Nat) : Nat := allowsN (wishOf w v).f2.f0.toNat (wishOf w v).f2.f1.toNat free
structure Took (w : List S36) (free : Nat) (x : Ent) (m : List Int) : Prop where
  len : m.length = x.f0.length
  nodup : m.Nodup
  may : ∀ j (h : j < x.f0.length), hasN (mayN w x.f0[j] free) (m.getD j 0) = true
theorem bit_lt (a b : Nat) (ha : a < 256) (h : a.testBit b = true) : b < 8 := by
  rcases Nat.lt_or_ge b 8 with hb | hb
  · exact hb
  · rw [Nat.testBit_lt_two_pow (Nat.lt_of_lt_of_le ha (by have := Nat.pow_le_pow_right (n := 2) (by decide) hb; simpa using this))] at h
    cases h

theorem On_val (puts : List S31) (hl : puts.length ≤ 1000000) (v : Int) : pick_On.f puts v = some (onP puts v) := by unfold pick_On.f; rw [if_pos hl]
end Go.Proofs.YtdmieaidheelbaaDoor.Q
end
/- PickAt -/
section
/- pick.At by its contract: the first placement on a pCPU, at every row of placements. -/
namespace Go.Proofs.YtdmieaidheelbaaDoor.Q
open Go Go.RowKit Go.Proofs.YtdmieaidheelbaaDoorW.PrintWords Go.Proofs.YtdmieaidheelbaaDoorW.PrintLast Go.Proofs.YtdmieaidheelbaaDoorW.PrintMore
set_option linter.unusedVariables false
set_option linter.unusedSimpArgs false

def firstAt (v : Int) : List S31 → Nat → Int
  | [], _ => -1
  | x :: l, i => if (x.f1 == v) = true then (i : Int) else firstAt v l (i + 1)
def atP (l : List S31) (v : Int) : Int × Bool := match l.find? (fun x => x.f1 == v) with | some x => (x.f0, true) | none => (0, false)
def pick_At.f (l0 : List S31) (a1 : Int) : Option (Int × Bool) := if l0.length ≤ 1000000 then some (atP l0 a1) else none
theorem firstAt_spec (v : Int) (l : List S31) : ∀ i, (firstAt v l i = -1 ∧ l.find? (fun x => x.f1 == v) = none) ∨ (∃ j : Nat, firstAt v l i = ((i + j : Nat) : Int) ∧ ∃ h : j < l.length, l.find? (fun x => x.f1 == v) = some l[j]) := by
  induction l with
  | nil => intro i; exact .inl ⟨rfl, rfl⟩
  | cons x l ih =>
    intro i
    rw [firstAt, List.find?_cons]
    cases h : (x.f1 == v) with
    | true => exact .inr ⟨0, rfl, Nat.zero_lt_succ _, rfl⟩
    | false =>
      simp only [Bool.false_eq_true, if_false]
      rcases ih (i + 1) with ⟨h1, h2⟩ | ⟨j, h1, hj, h2⟩
      · exact .inl ⟨h1, h2⟩
      · exact .inr ⟨j + 1, by rw [h1]; congr 1; omega, by simpa using hj, by simpa using h2⟩

set_option maxRecDepth 100000 in
set_option maxHeartbeats 8000000 in
theorem at1_calls (b : Nat) (v : Int) (x0 x1 : Int) (W : World) (hb : Boxed W b 3 (.int .i64 v)) :
    Calls Tryd.prog 75 #[.agg #[.int .i64 x0, .int .i64 x1], .pointer (some ⟨b, 0, none⟩)] W fun e w' => e = .returned (.bool (x1 == v)) ∧ Below W.heap.size W w' := by
  have hu31 := Tryd.underlying31
  have hbl := hb.lt
  have HB := Aside0.mk ((Below.refl W.heap.size W).alloc (Nat.le_refl _) (.cells #[.int .i64 x0, .int .i64 x1] 31))
  have hcell := (hb.alloc (.cells #[.int .i64 x0, .int .i64 x1] 31)).cell
  clear hb
  go_enter Tryd.func75, Tryd.ntmps75
  go_wp2
  go_ret
  exact ⟨rfl, by first | exact HB.out | exact pw_below_drewN HB.out _⟩

set_option maxRecDepth 100000 in
set_option maxHeartbeats 8000000 in
theorem indexAt_calls (b : Nat) (v : Int) (A0 : Option Addr) (c0 : Nat) (l0 : List S31) (w : World) (hr0 : Kd.C k31 w A0 l0.length l0) (hc0 : l0.length ≤ c0) (hl : l0.length ≤ 1000000) (hb : Boxed w b 3 (.int .i64 v)) :
    Calls Tryd.prog 92 #[.slice A0 l0.length c0, .func (.func 75) #[] #[.pointer (some ⟨b, 0, none⟩)]] w fun e w' => e = .returned (.int .i64 (firstAt v l0 0)) ∧ Below w.heap.size w w' := by
  have hu31 := Tryd.underlying31
  have HR0 := Aside0.mk hr0
  have HC0 := Aside0.mk hc0
  have HBX := Aside0.mk hb
  clear hr0 hc0 hb
  go_enter Tryd.func92, Tryd.ntmps92
  go_wp2
  go_loopw [8] (fun s8 wr => ∃ (k : Nat), k ≤ l0.length ∧ s8 = .int .i64 k ∧ Aside0 (firstAt v (l0.drop k) k = firstAt v l0 0) ∧ Aside0 (Below w.heap.size w wr))
    (fun s8 _ => l0.length - (intOf s8).toNat)
  case atStart => exact ⟨0, Nat.zero_le _, rfl, ⟨rfl⟩, ⟨Below.refl _ w⟩⟩
  case round =>
    obtain ⟨k, hk, rfl, HF, HB⟩ := hrel
    by_cases hlt : k < l0.length
    case neg =>
      obtain rfl : k = l0.length := by omega
      have hf := HF.out
      rw [List.drop_length, firstAt] at hf
      have HFF := Aside0.mk hf
      clear hf HF hlt
      go_wp2
      go_ret
      exact ⟨by rw [← HFF.out]; rfl, HB.out⟩
    case pos =>
      have hf := HF.out
      rw [List.drop_eq_getElem_cons hlt, show l0[k] = rd_T31 l0 (k : Int) by simp [rd_T31, hlt], firstAt] at hf
      have HFF := Aside0.mk hf
      clear hf HF
      obtain ⟨ad, rfl, hx0, hx1⟩ := at_T31 (Kd.C_below HR0.out HB.out) (k : Int) (by omega) (by omega)
      rw [Int.toNat_natCast] at hx0 hx1
      generalize rd_T31 l0 (k : Int) = x at *
      have hp : decide ((k : Int) < (l0.length : Int)) = true := decide_eq_true (by omega)
      cases hq : (x.f1 == v) with
      | true =>
        have hf := HFF.out
        rw [hq, if_pos rfl] at hf
        have HFT := Aside0.mk hf
        clear HFF hf
        go_wp2_with (go_at_call 75; refine (at1_calls b v x.f0 x.f1 _ ((HB.out.block _ HBX.out.lt).trans HBX.out)).mono ?_; rintro e w5 ⟨rfl, hb5⟩; have HB5 := Aside0.mk (below_step HB.out hb5); clear hb5; try rw [hq])
        go_ret
        exact ⟨by rw [← HFT.out]; rfl, HB5.out⟩
      | false =>
        have hf := HFF.out
        rw [hq, if_neg (by simp)] at hf
        have HFN := Aside0.mk hf
        clear HFF hf
        go_wp2_with (go_at_call 75; refine (at1_calls b v x.f0 x.f1 _ ((HB.out.block _ HBX.out.lt).trans HBX.out)).mono ?_; rintro e w5 ⟨rfl, hb5⟩; have HB5 := Aside0.mk (below_step HB.out hb5); clear hb5; try rw [hq])
        go_roundw
        case measure => simp only [intOf]; omega
        case rel => exact ⟨k + 1, by omega, by simp, HFN, HB5⟩
def findA (l : List S31) (v : Int) : S31 × Bool := match l.find? (fun x => x.f1 == v) with | some x => (x, true) | none => (⟨0, 0⟩, false)
theorem at_find (l : List S31) (v : Int) : atP l v = ((findA l v).1.f0, (findA l v).2) := by
  unfold atP findA
  cases l.find? (fun x => x.f1 == v) <;> rfl
set_option maxRecDepth 100000 in
set_option maxHeartbeats 8000000 in
theorem findAt_calls (b : Nat) (v : Int) (A0 : Option Addr) (c0 : Nat) (l0 : List S31) (w : World) (hr0 : Kd.C k31 w A0 l0.length l0) (hc0 : l0.length ≤ c0) (hl : l0.length ≤ 1000000) (hb : Boxed w b 3 (.int .i64 v)) :
    Calls Tryd.prog 65 #[.slice A0 l0.length c0, .func (.func 75) #[] #[.pointer (some ⟨b, 0, none⟩)]] w fun e w' => e = .returned (.tuple #[.agg #[.int .i64 (findA l0 v).1.f0, .int .i64 (findA l0 v).1.f1], .bool (findA l0 v).2]) ∧ Below w.heap.size w w' := by
  have hu31 := Tryd.underlying31
  have HR0 := Aside0.mk hr0
  have HC0 := Aside0.mk hc0
  have HL := Aside0.mk hl
  have HB := Aside0.mk ((Below.refl w.heap.size w).alloc (Nat.le_refl _) (.cells #[.int .i64 0, .int .i64 0] 31))
  have HBX := Aside0.mk (hb.alloc (.cells #[.int .i64 0, .int .i64 0] 31))
  have hnew := heap_alloc_new w (.cells #[.int .i64 0, .int .i64 0] 31)
  have HN := Aside0.mk hnew
  clear hr0 hc0 hb hnew hl
  rcases firstAt_spec v l0 0 with ⟨hf, hfd⟩ | ⟨j, hf, hj, hfd⟩
  · have HP := Aside0.mk (show findA l0 v = (⟨0, 0⟩, false) by unfold findA; rw [hfd])
    have HF := Aside0.mk hf
    clear hf hfd
    go_enter Tryd.func65, Tryd.ntmps65
    go_wp2_with (go_at_call 92; refine (indexAt_calls b v A0 c0 l0 _ (Kd.C_below HR0.out HB.out) HC0.out HL.out HBX.out).mono ?_; rintro e w5 ⟨rfl, hb5⟩; rw [HF.out]; have HB5 := Aside0.mk (below_step HB.out hb5); have hn5 := (hb5.block _ (blk_lt HN.out)).trans HN.out; have hk0 := (blk_cell hn5 0); have hk1 := (blk_cell hn5 1); have hz0 := blk_frozen hn5 0; have hz1 := blk_frozen hn5 1; have HN5 := Aside0.mk hn5; simp only [List.getElem?_toArray, List.getElem?_cons_zero, List.getElem?_cons_succ] at hk0 hk1; clear hb5 hn5)
    refine bodyPost_ret (results_ct rfl _ _ w.heap.size 31 #[.int .i64 0, .int .i64 0] (0, 0) _ rfl (by refine blk_put (cs := #[.int .i64 0, .int .i64 0]) ?_ 1 _ rfl; refine blk_put (cs := #[.int .i64 0, .int .i64 0]) ?_ 0 _ rfl; exact HN5.out) hu31 rfl (by kernel_rfl)) rfl ?_
    exact ⟨by rw [HP.out]; rfl, (HB5.out.setCell (Nat.le_refl _) _).setCell (Nat.le_refl _) _⟩
  · have HP := Aside0.mk (show findA l0 v = (l0[j], true) by unfold findA; rw [hfd])
    have hf' : firstAt v l0 0 = (j : Int) := by rw [hf]; omega
    have HF := Aside0.mk hf'
    obtain ⟨ad, rfl, hx0, hx1⟩ := at_T31 HR0.out (j : Int) (by omega) (by omega)
    rw [Int.toNat_natCast] at hx0 hx1
    have HX0 := Aside0.mk hx0
    have HX1 := Aside0.mk hx1
    replace HP := Aside0.mk (HP.out.trans (by rw [show l0[j] = rd_T31 l0 (j : Int) by simp [rd_T31, hj]]))
    clear hf hfd hf' hx0 hx1
    generalize rd_T31 l0 (j : Int) = x at *
    have hj0 : decide ((j : Int) < 0) = false := decide_eq_false (by omega)
    go_enter Tryd.func65, Tryd.ntmps65
    go_wp2_with (go_at_call 92; refine (indexAt_calls b v (some ad) c0 l0 _ (Kd.C_below HR0.out HB.out) HC0.out HL.out HBX.out).mono ?_; rintro e w5 ⟨rfl, hb5⟩; rw [HF.out]; have HB5 := Aside0.mk (below_step HB.out hb5); have hn5 := (hb5.block _ (blk_lt HN.out)).trans HN.out; have hk0 := (blk_cell hn5 0); have hk1 := (blk_cell hn5 1); have hz0 := blk_frozen hn5 0; have hz1 := blk_frozen hn5 1; have HN5 := Aside0.mk hn5; simp only [List.getElem?_toArray, List.getElem?_cons_zero, List.getElem?_cons_succ] at hk0 hk1; have hy0 := pw_cell_below HB5.out HX0.out; have hy1 := pw_cell_below HB5.out HX1.out; clear hb5 hn5)
    refine bodyPost_ret (results_ct rfl _ _ w.heap.size 31 #[.int .i64 x.f0, .int .i64 x.f1] (0, 0) _ rfl (by refine blk_put (cs := #[.int .i64 x.f0, .int .i64 0]) ?_ 1 _ rfl; refine blk_put (cs := #[.int .i64 0, .int .i64 0]) ?_ 0 _ rfl; exact HN5.out) hu31 rfl (by kernel_rfl)) rfl ?_
    exact ⟨by rw [HP.out]; rfl, (HB5.out.setCell (Nat.le_refl _) _).setCell (Nat.le_refl _) _⟩
set_option maxRecDepth 100000 in
set_option maxHeartbeats 8000000 in
theorem pick_At.calls (A0 : Option Addr) (c0 : Nat) (l0 : List S31) (a1 : Int) (r1 : Int) (r2 : Bool) (w : World) (hr0 : Kd.C k31 w A0 l0.length l0) (hc0 : l0.length ≤ c0) (h : pick_At.f l0 a1 = some (r1, r2)) :
    Calls Tryd.prog 30 #[.slice A0 l0.length c0, .int .i64 a1] w fun e w' => e = .returned (.tuple #[.int .i64 r1, .bool r2]) ∧ Below w.heap.size w w' := by
  unfold pick_At.f at h
  by_cases hl : l0.length ≤ 1000000
  case neg => rw [if_neg hl] at h; cases h
  rw [if_pos hl] at h
  have e := (at_find l0 a1).symm.trans (Option.some.inj h)
  have HE1 := Aside0.mk (congrArg Prod.fst e)
  have HE2 := Aside0.mk (congrArg Prod.snd e)
  have hu31 := Tryd.underlying31
  have HR0 := Aside0.mk hr0
  have HC0 := Aside0.mk hc0
  have HL := Aside0.mk hl
  have HB := Aside0.mk ((Below.refl w.heap.size w).alloc (Nat.le_refl _) (.cells #[.int .i64 a1] 3))
  have HBX := Aside0.mk (show Boxed (w.alloc (.cells #[.int .i64 a1] 3)) w.heap.size 3 (.int .i64 a1) from heap_alloc_new w _)
  clear hr0 hc0 hl h e
  go_enter Tryd.func30, Tryd.ntmps30
  go_wp2_with (go_at_call 65; refine (findAt_calls w.heap.size a1 A0 c0 l0 _ (Kd.C_below HR0.out HB.out) HC0.out HL.out HBX.out).mono ?_; rintro e w5 ⟨rfl, hb5⟩; have HB5 := Aside0.mk (below_step HB.out hb5); clear hb5)
  refine bodyPost_ret (results_tmp2 rfl _ _ _) rfl ?_
  exact ⟨by rw [← HE1.out, ← HE2.out]; rfl, below_alloc HB5.out _⟩
end Go.Proofs.YtdmieaidheelbaaDoor.Q
end
/- QRa -/
section
namespace Go.Proofs.YtdmieaidheelbaaDoor.Q
open Go.RowKit Go.Proofs.YtdmieaidheelbaaDoorW.PrintWords Go.Proofs.YtdmieaidheelbaaDoorW.PrintLast Go.Proofs.YtdmieaidheelbaaDoorW.PrintMore
attribute [local go_sem] max2_int min2_int max_two min_two max_three min_three max_four min_four
set_option linter.unusedVariables false
set_option linter.unusedSimpArgs false

def mainsheetref04_SameInts.l0 : Nat → List Int → List Int → Int → Int → Option (Bool)
 | 0, _, _, _, _ => none
 | k + 1, x0, x1, x12, x13 => if x13 < x12 then (if 0 ≤ x13 then (if x13 < (x0.length : Int) then (if x13 < (x1.length : Int) then (if (rd x0 x13) = (rd x1 x13) then (mainsheetref04_SameInts.l0 k x0 x1 x12 (wrap64 (x13 + 1))) else (some false)) else (none)) else (none)) else (none)) else (some true)
def mainsheetref04_SameInts.f (k : Nat) (l0 : List Int) (l1 : List Int) : Option (Bool) := if (l0.length : Int) = (l1.length : Int) then (mainsheetref04_SameInts.l0 k l0 l1 (l0.length : Int) 0) else (some false)
set_option maxHeartbeats 8000000 in
set_option maxRecDepth 100000 in
theorem mainsheetref04_SameInts.calls (k : Nat) (A0 : Option Addr) (c0 : Nat) (l0 : List Int) (A1 : Option Addr) (c1 : Nat) (l1 : List Int) (r : Bool) (w : World) (hr0 : Kd.C (Kd.int .i64) w A0 l0.length l0) (hc0 : l0.length ≤ c0) (hr1 : Kd.C (Kd.int .i64) w A1 l1.length l1) (hc1 : l1.length ≤ c1) (h : mainsheetref04_SameInts.f k l0 l1 = some r) :
  Calls Tryd.prog 31 #[.slice A0 l0.length c0, .slice A1 l1.length c1] w fun e w' => e = .returned (.bool r) ∧ Drawn0 w w' := by
 have HR0 := Aside0.mk hr0
 have HC0 := Aside0.mk hc0
 clear hr0 hc0
 have HR1 := Aside0.mk hr1
 have HC1 := Aside0.mk hc1
 clear hr1 hc1
 have H : (if (l0.length : Int) = (l1.length : Int) then (mainsheetref04_SameInts.l0 k l0 l1 (l0.length : Int) 0) else (some false)) = some r := h
 clear h
 by_cases c3 : (l0.length : Int) = (l1.length : Int)
 ·rw [if_pos c3] at H
  have c3b0 : ((l0.length : Int) == (l1.length : Int)) = true := beq_iff_eq.mpr c3
  have c3b1 : ((l0.length : Int) != (l1.length : Int)) = false := bne_eq_false_iff_eq.mpr c3
  have c3b2 : (l0.length == l1.length) = true := by first | simpa using c3 | (simp at c3 ⊢; omega)
  clear c3
  have H' := Aside0.mk H
  clear H
  go_enter Tryd.func31, Tryd.ntmps31
  go_wp2
  repeat (go_quiet (fail); try go_wp2)
  go_loopg [13] k (fun kq v13 w' => ∃ (x13_1 : Int), v13 = .int .i64 x13_1 ∧ Aside0 (mainsheetref04_SameInts.l0 kq l0 l1 (l0.length : Int) x13_1 = some r) ∧ Aside0 (kq ≤ k) ∧ Drawn0 w w')
  case atStart => exact ⟨(0), (by first | rfl | (simp; done) | (simp [*]; done)), H', ⟨Nat.le_refl _⟩, by repeat (first | exact Drawn0.refl _ | apply Drawn0.step)⟩
  case round =>
   clear H'
   try clear c1
   try clear p2
   try clear c3
   try clear c3b0
   try clear c3b1
   try clear c3b2
   obtain ⟨x13_1, rfl, HA, HK1, ⟨m1, rfl⟩⟩ := hrel
   cases gk with
   | zero => exact absurd HA.out (by simp [mainsheetref04_SameInts.l0])
   | succ k1 =>
    have H := HA.out
    clear HA
    simp only [mainsheetref04_SameInts.l0] at H
    by_cases c4 : x13_1 < (l0.length : Int)
    ·rw [if_pos c4] at H
     have c4b0 : decide (x13_1 < (l0.length : Int)) = true := decide_eq_true c4
     clear c4
     by_cases c5 : 0 ≤ x13_1
     ·rw [if_pos c5] at H
      have c5b0 : decide (0 ≤ x13_1) = true := decide_eq_true c5
      clear c5
      by_cases c6 : x13_1 < (l0.length : Int)
      ·rw [if_pos c6] at H
       have c6b0 : decide (x13_1 < (l0.length : Int)) = true := decide_eq_true c6
       clear c6
       by_cases c7 : x13_1 < (l1.length : Int)
       ·rw [if_pos c7] at H
        have c7b0 : decide (x13_1 < (l1.length : Int)) = true := decide_eq_true c7
        clear c7
        by_cases c8 : (rd l0 x13_1) = (rd l1 x13_1)
        ·rw [if_pos c8] at H
         have c8b0 : ((rd l0 x13_1) == (rd l1 x13_1)) = true := beq_iff_eq.mpr c8
         have c8b1 : ((rd l0 x13_1) != (rd l1 x13_1)) = false := bne_eq_false_iff_eq.mpr c8
         clear c8
         have H' := Aside0.mk H
         clear H
         have p168 : 0 ≤ (x13_1 : Int) := of_decide_eq_true (by first | (with_reducible assumption) | assumption)
         have q168 : x13_1 < (l0.length : Int) := of_decide_eq_true (by first | (with_reducible assumption) | assumption)
         obtain ⟨ad168, e168, hx168_0⟩ := Kd.at_int HR0.out x13_1 p168 q168
         cases e168
         replace p168 := eq_true p168
         replace q168 := eq_true q168
         have p169 : 0 ≤ (x13_1 : Int) := of_decide_eq_true (by first | (with_reducible assumption) | assumption)
         have q169 : x13_1 < (l1.length : Int) := of_decide_eq_true (by first | (with_reducible assumption) | assumption)
         obtain ⟨ad169, e169, hx169_0⟩ := Kd.at_int HR1.out x13_1 p169 q169
         cases e169
         replace p169 := eq_true p169
         replace q169 := eq_true q169
         go_wp2
         repeat (go_quiet (fail); try go_wp2)
         go_roundg k1
         case measure => have := HK1.out; omega
         case rel => exact ⟨(wrap64 (x13_1 + 1)), (by first | rfl | (simp; done) | (simp [*]; done)), H', ⟨by have := HK1.out; omega⟩, by repeat (first | exact Drawn0.refl _ | apply Drawn0.step)⟩
        ·rw [if_neg c8] at H
         have c8b0 : ((rd l0 x13_1) == (rd l1 x13_1)) = false := beq_eq_false_iff_ne.mpr c8
         have c8b1 : ((rd l0 x13_1) != (rd l1 x13_1)) = true := bne_iff_ne.mpr c8
         obtain rfl := Option.some.inj H
         have p168 : 0 ≤ (x13_1 : Int) := of_decide_eq_true (by first | (with_reducible assumption) | assumption)
         have q168 : x13_1 < (l0.length : Int) := of_decide_eq_true (by first | (with_reducible assumption) | assumption)
         obtain ⟨ad168, e168, hx168_0⟩ := Kd.at_int HR0.out x13_1 p168 q168
         cases e168
         replace p168 := eq_true p168
         replace q168 := eq_true q168
         have p169 : 0 ≤ (x13_1 : Int) := of_decide_eq_true (by first | (with_reducible assumption) | assumption)
         have q169 : x13_1 < (l1.length : Int) := of_decide_eq_true (by first | (with_reducible assumption) | assumption)
         obtain ⟨ad169, e169, hx169_0⟩ := Kd.at_int HR1.out x13_1 p169 q169
         cases e169
         replace p169 := eq_true p169
         replace q169 := eq_true q169
         go_wp2
         repeat (go_quiet (fail); try go_wp2)
         go_ret
         exact ⟨by first | rfl | (simp; done) | (simp [*]; done), by repeat (first | exact Drawn0.refl _ | apply Drawn0.step)⟩
       ·rw [if_neg c7] at H
        exact absurd H (by simp)
      ·rw [if_neg c6] at H
       exact absurd H (by simp)
     ·rw [if_neg c5] at H
      exact absurd H (by simp)
    ·rw [if_neg c4] at H
     have c4b0 : decide (x13_1 < (l0.length : Int)) = false := decide_eq_false c4
     clear c4
     obtain rfl := Option.some.inj H
     go_wp2
     repeat (go_quiet (fail); try go_wp2)
     go_ret
     exact ⟨by first | rfl | (simp; done) | (simp [*]; done), by repeat (first | exact Drawn0.refl _ | apply Drawn0.step)⟩
 ·rw [if_neg c3] at H
  have c3b0 : ((l0.length : Int) == (l1.length : Int)) = false := beq_eq_false_iff_ne.mpr c3
  have c3b1 : ((l0.length : Int) != (l1.length : Int)) = true := bne_iff_ne.mpr c3
  have c3b2 : (l0.length == l1.length) = false := by first | simpa using c3 | (simp at c3 ⊢; omega)
  obtain rfl := Option.some.inj H
  go_enter Tryd.func31, Tryd.ntmps31
  go_wp2
  repeat (go_quiet (fail); try go_wp2)
  go_ret
  exact ⟨by first | rfl | (simp; done) | (simp [*]; done), by repeat (first | exact Drawn0.refl _ | apply Drawn0.step)⟩

def mainsheetref04_Right.f (a0 : Int) : Option (Bool) := some (decide (a0 < 256))
set_option maxHeartbeats 8000000 in
set_option maxRecDepth 100000 in
theorem mainsheetref04_Right.calls (a0 : Int) (r : Bool) (w : World) (h : mainsheetref04_Right.f a0 = some r) :
  Calls Tryd.prog 53 #[.int .u32 a0] w fun e w' => e = .returned (.bool r) ∧ Drawn0 w w' := by
 have H : (some (decide (a0 < 256))) = some r := h
 clear h
 obtain rfl := Option.some.inj H
 go_enter Tryd.func53, Tryd.ntmps53
 go_wp2
 go_ret
 exact ⟨by first | rfl | (simp; done) | (simp [*]; done), by repeat (first | exact Drawn0.refl _ | apply Drawn0.step)⟩

def mainsheetref07_Right.f (a0_0 : Int) (a0_1 : Int) : Option (Bool) := (mainsheetref04_Right.f a0_0).bind fun t171 => (if t171 = true then ((mainsheetref04_Right.f a0_1).bind fun t172 => (if t172 = true then (some (decide (a0_0 > 0))) else (some false))) else (some false))
set_option maxHeartbeats 8000000 in
set_option maxRecDepth 100000 in
theorem mainsheetref07_Right.calls (a0_0 : Int) (a0_1 : Int) (r : Bool) (w : World) (h : mainsheetref07_Right.f a0_0 a0_1 = some r) :
  Calls Tryd.prog 52 #[.agg #[.int .u32 a0_0, .int .u32 a0_1]] w fun e w' => e = .returned (.bool r) ∧ Below w.heap.size w w' := by
 have hu34 := Tryd.underlying34
 have HB := Aside0.mk (Below.refl w.heap.size w)
 have H : ((mainsheetref04_Right.f a0_0).bind fun t171 => (if t171 = true then ((mainsheetref04_Right.f a0_1).bind fun t172 => (if t172 = true then (some (decide (a0_0 > 0))) else (some false))) else (some false))) = some r := h
 clear h
 replace H := Option.bind_eq_some_iff.mp H
 obtain ⟨t171, A20, H⟩ := H
 replace H : (if t171 = true then ((mainsheetref04_Right.f a0_1).bind fun t172 => (if t172 = true then (some (decide (a0_0 > 0))) else (some false))) else (some false)) = some r := H
 have A2 := Aside0.mk A20
 clear A20
 by_cases c3 : t171 = true
 ·subst c3
  have H1 : ((mainsheetref04_Right.f a0_1).bind fun t172 => (if t172 = true then (some (decide (a0_0 > 0))) else (some false))) = some r := by rw [if_pos rfl] at H; exact H
  clear H
  have H := H1
  clear H1
  replace H := Option.bind_eq_some_iff.mp H
  obtain ⟨t172, A40, H⟩ := H
  replace H : (if t172 = true then (some (decide (a0_0 > 0))) else (some false)) = some r := H
  have A4 := Aside0.mk A40
  clear A40
  by_cases c5 : t172 = true
  ·subst c5
   have H1 : (some (decide (a0_0 > 0))) = some r := by rw [if_pos rfl] at H; exact H
   clear H
   have H := H1
   clear H1
   obtain rfl := Option.some.inj H
   go_enter Tryd.func52, Tryd.ntmps52
   go_wp2_with (first | ((with_reducible refine gate_dst (N := 1) rfl ?_); refine box_event ?hg (N := 1) ?hd (cs := #[.int .u32 a0_0, .int .u32 a0_1]) (t := 34) ?hr ?_; (case hd => rfl); (case hg => rfl); (case hr => first | (go_simp; done) | (go_simp; rfl)); intro gb170 hg w6 hbox hb; have n0_ := Aside0.mk (below_step (by repeat (first | (with_reducible first | exact HB.out | apply below_alloc | apply pw_below_drewN | apply below_drew1) | exact HB.out)) hb); have n1_ := Aside0.mk (hbox); have n2_ := Aside0.mk ((by rw [hg]; exact (below_size (by repeat (first | (with_reducible first | exact HB.out | apply below_alloc | apply pw_below_drewN | apply below_drew1) | exact HB.out))) : w.heap.size ≤ gb170)); have n3_ := Aside0.mk ((by rw [hg]; exact (below_size (by repeat (first | (with_reducible first | exact HB.out | apply below_alloc | apply pw_below_drewN | apply below_drew1) | exact HB.out))) : w.heap.size ≤ gb170)); clear HB; have HB := n0_; have BK170 := n1_; have GW170 := n2_; have GE170 := n3_; clear n0_ n1_ n2_ n3_; clear hb hbox hg; have hcz7_0 : w6.cell? ⟨gb170, 0, none⟩ = some (.int .u32 a0_0) := (blk_cell BK170.out 0).trans rfl; have hcz7_1 : w6.cell? ⟨gb170, 1, none⟩ = some (.int .u32 a0_1) := (blk_cell BK170.out 1).trans rfl; have hfz7_0 := blk_frozen BK170.out 0; have hfz7_1 := blk_frozen BK170.out 1) | ((with_reducible refine gate_callee (f := 53) rfl ?_); refine goesL_ (some 5) rfl rfl Tryd.func53 (by kernel_rfl) rfl #[.int .u32 a0_0] rfl (by (try simp only [List.map_toArray, List.map_cons, List.map_nil]); first | done | rfl | (simp only [List.length_drop, List.length_take]; rfl)) ?_; (with_reducible refine (mainsheetref04_Right.calls a0_0 true _ A2.out).mono ?_); rintro e w' ⟨rfl, ⟨nd, rfl⟩⟩; refine ⟨_, rfl, ?_⟩) | (go_at_call 53; (with_reducible refine (mainsheetref04_Right.calls a0_1 true _ A4.out).mono ?_); rintro e w' ⟨rfl, ⟨nd, rfl⟩⟩))
   go_ret
   exact ⟨by first | rfl | (simp [errW_none, errW_some] <;> rfl) | (simp [*, errW_none, errW_some] <;> rfl), by repeat (first | (with_reducible first | exact HB.out | apply below_alloc | apply pw_below_drewN | apply below_drew1 | refine below_set ?_ GE170.out) | exact HB.out)⟩
  ·replace c5 := Bool.eq_false_iff.mpr c5
   subst c5
   have H1 : (some false) = some r := by rw [if_neg (show ¬ (false = true) by decide)] at H; exact H
   clear H
   have H := H1
   clear H1
   obtain rfl := Option.some.inj H
   go_enter Tryd.func52, Tryd.ntmps52
   go_wp2_with (first | ((with_reducible refine gate_dst (N := 1) rfl ?_); refine box_event ?hg (N := 1) ?hd (cs := #[.int .u32 a0_0, .int .u32 a0_1]) (t := 34) ?hr ?_; (case hd => rfl); (case hg => rfl); (case hr => first | (go_simp; done) | (go_simp; rfl)); intro gb170 hg w8 hbox hb; have n0_ := Aside0.mk (below_step (by repeat (first | (with_reducible first | exact HB.out | apply below_alloc | apply pw_below_drewN | apply below_drew1) | exact HB.out)) hb); have n1_ := Aside0.mk (hbox); have n2_ := Aside0.mk ((by rw [hg]; exact (below_size (by repeat (first | (with_reducible first | exact HB.out | apply below_alloc | apply pw_below_drewN | apply below_drew1) | exact HB.out))) : w.heap.size ≤ gb170)); have n3_ := Aside0.mk ((by rw [hg]; exact (below_size (by repeat (first | (with_reducible first | exact HB.out | apply below_alloc | apply pw_below_drewN | apply below_drew1) | exact HB.out))) : w.heap.size ≤ gb170)); clear HB; have HB := n0_; have BK170 := n1_; have GW170 := n2_; have GE170 := n3_; clear n0_ n1_ n2_ n3_; clear hb hbox hg; have hcz9_0 : w8.cell? ⟨gb170, 0, none⟩ = some (.int .u32 a0_0) := (blk_cell BK170.out 0).trans rfl; have hcz9_1 : w8.cell? ⟨gb170, 1, none⟩ = some (.int .u32 a0_1) := (blk_cell BK170.out 1).trans rfl; have hfz9_0 := blk_frozen BK170.out 0; have hfz9_1 := blk_frozen BK170.out 1) | ((with_reducible refine gate_callee (f := 53) rfl ?_); refine goesL_ (some 5) rfl rfl Tryd.func53 (by kernel_rfl) rfl #[.int .u32 a0_0] rfl (by (try simp only [List.map_toArray, List.map_cons, List.map_nil]); first | done | rfl | (simp only [List.length_drop, List.length_take]; rfl)) ?_; (with_reducible refine (mainsheetref04_Right.calls a0_0 true _ A2.out).mono ?_); rintro e w' ⟨rfl, ⟨nd, rfl⟩⟩; refine ⟨_, rfl, ?_⟩) | (go_at_call 53; (with_reducible refine (mainsheetref04_Right.calls a0_1 false _ A4.out).mono ?_); rintro e w' ⟨rfl, ⟨nd, rfl⟩⟩))
   go_ret
   exact ⟨by first | rfl | (simp [errW_none, errW_some] <;> rfl) | (simp [*, errW_none, errW_some] <;> rfl), by repeat (first | (with_reducible first | exact HB.out | apply below_alloc | apply pw_below_drewN | apply below_drew1 | refine below_set ?_ GE170.out) | exact HB.out)⟩
 ·replace c3 := Bool.eq_false_iff.mpr c3
  subst c3
  have H1 : (some false) = some r := by rw [if_neg (show ¬ (false = true) by decide)] at H; exact H
  clear H
  have H := H1
  clear H1
  obtain rfl := Option.some.inj H
  go_enter Tryd.func52, Tryd.ntmps52
  go_wp2_with (first | ((with_reducible refine gate_dst (N := 1) rfl ?_); refine box_event ?hg (N := 1) ?hd (cs := #[.int .u32 a0_0, .int .u32 a0_1]) (t := 34) ?hr ?_; (case hd => rfl); (case hg => rfl); (case hr => first | (go_simp; done) | (go_simp; rfl)); intro gb170 hg w10 hbox hb; have n0_ := Aside0.mk (below_step (by repeat (first | (with_reducible first | exact HB.out | apply below_alloc | apply pw_below_drewN | apply below_drew1) | exact HB.out)) hb); have n1_ := Aside0.mk (hbox); have n2_ := Aside0.mk ((by rw [hg]; exact (below_size (by repeat (first | (with_reducible first | exact HB.out | apply below_alloc | apply pw_below_drewN | apply below_drew1) | exact HB.out))) : w.heap.size ≤ gb170)); have n3_ := Aside0.mk ((by rw [hg]; exact (below_size (by repeat (first | (with_reducible first | exact HB.out | apply below_alloc | apply pw_below_drewN | apply below_drew1) | exact HB.out))) : w.heap.size ≤ gb170)); clear HB; have HB := n0_; have BK170 := n1_; have GW170 := n2_; have GE170 := n3_; clear n0_ n1_ n2_ n3_; clear hb hbox hg; have hcz11_0 : w10.cell? ⟨gb170, 0, none⟩ = some (.int .u32 a0_0) := (blk_cell BK170.out 0).trans rfl; have hcz11_1 : w10.cell? ⟨gb170, 1, none⟩ = some (.int .u32 a0_1) := (blk_cell BK170.out 1).trans rfl; have hfz11_0 := blk_frozen BK170.out 0; have hfz11_1 := blk_frozen BK170.out 1) | ((with_reducible refine gate_callee (f := 53) rfl ?_); refine goesL_ (some 5) rfl rfl Tryd.func53 (by kernel_rfl) rfl #[.int .u32 a0_0] rfl (by (try simp only [List.map_toArray, List.map_cons, List.map_nil]); first | done | rfl | (simp only [List.length_drop, List.length_take]; rfl)) ?_; (with_reducible refine (mainsheetref04_Right.calls a0_0 false _ A2.out).mono ?_); rintro e w' ⟨rfl, ⟨nd, rfl⟩⟩; refine ⟨_, rfl, ?_⟩))
  go_ret
  exact ⟨by first | rfl | (simp [errW_none, errW_some] <;> rfl) | (simp [*, errW_none, errW_some] <;> rfl), by repeat (first | (with_reducible first | exact HB.out | apply below_alloc | apply pw_below_drewN | apply below_drew1 | refine below_set ?_ GE170.out) | exact HB.out)⟩

def mainsheetref04_Cpu.f (a0 : Int) : Option (Bool) := if a0 ≥ 0 then (some (decide (a0 < 8))) else (some false)
set_option maxHeartbeats 8000000 in
set_option maxRecDepth 100000 in
theorem mainsheetref04_Cpu.calls (a0 : Int) (r : Bool) (w : World) (h : mainsheetref04_Cpu.f a0 = some r) :
  Calls Tryd.prog 99 #[.int .i64 a0] w fun e w' => e = .returned (.bool r) ∧ Drawn0 w w' := by
 have H : (if a0 ≥ 0 then (some (decide (a0 < 8))) else (some false)) = some r := h
 clear h
 by_cases c2 : a0 ≥ 0
 ·rw [if_pos c2] at H
  have c2b0 : decide (0 ≤ a0) = true := decide_eq_true c2
  clear c2
  obtain rfl := Option.some.inj H
  go_enter Tryd.func99, Tryd.ntmps99
  go_wp2
  go_ret
  exact ⟨by first | rfl | (simp; done) | (simp [*]; done), by repeat (first | exact Drawn0.refl _ | apply Drawn0.step)⟩
 ·rw [if_neg c2] at H
  have c2b0 : decide (0 ≤ a0) = false := decide_eq_false c2
  clear c2
  obtain rfl := Option.some.inj H
  go_enter Tryd.func99, Tryd.ntmps99
  go_wp2
  go_ret
  exact ⟨by first | rfl | (simp; done) | (simp [*]; done), by repeat (first | exact Drawn0.refl _ | apply Drawn0.step)⟩

def mainsheetref04_Has.f (a0 : Int) (a1 : Int) : Option (Bool) := (mainsheetref04_Cpu.f a1).bind fun t180 => (if t180 = true then (if 0 ≤ a1 then (some ((Int.tmod (shr .u32 a0 a1) 2) == 1)) else (none)) else (some false))
set_option maxHeartbeats 8000000 in
set_option maxRecDepth 100000 in
theorem mainsheetref04_Has.calls (a0 : Int) (a1 : Int) (r : Bool) (w : World) (h : mainsheetref04_Has.f a0 a1 = some r) :
  Calls Tryd.prog 76 #[.int .u32 a0, .int .i64 a1] w fun e w' => e = .returned (.bool r) ∧ Drawn0 w w' := by
 have H : ((mainsheetref04_Cpu.f a1).bind fun t180 => (if t180 = true then (if 0 ≤ a1 then (some ((Int.tmod (shr .u32 a0 a1) 2) == 1)) else (none)) else (some false))) = some r := h
 clear h
 replace H := Option.bind_eq_some_iff.mp H
 obtain ⟨t180, A30, H⟩ := H
 replace H : (if t180 = true then (if 0 ≤ a1 then (some ((Int.tmod (shr .u32 a0 a1) 2) == 1)) else (none)) else (some false)) = some r := H
 have A3 := Aside0.mk A30
 clear A30
 by_cases c4 : t180 = true
 ·subst c4
  have H1 : (if 0 ≤ a1 then (some ((Int.tmod (shr .u32 a0 a1) 2) == 1)) else (none)) = some r := by rw [if_pos rfl] at H; exact H
  clear H
  have H := H1
  clear H1
  by_cases c5 : 0 ≤ a1
  ·rw [if_pos c5] at H
   have c5b0 := eq_true c5
   have c5b1 : decide (0 ≤ a1) = true := decide_eq_true c5
   clear c5
   obtain ⟨ji6, hji6⟩ : ∃ j_ : Int, (shr .u32 a0 a1) = j_ := ⟨_, rfl⟩
   replace H : (some ((Int.tmod (ji6) 2) == 1)) = some r := by first | (rw [hji6] at H; exact H) | (simp only [hji6] at H ⊢; exact H)
   (try rw [hji6] at A3)
   have hji6_ : (a0 / 2 ^ min a1.toNat 32) = ji6 := hji6
   have hji6z : a1 ≤ 32 → (a0 / 2 ^ a1.toNat) = ji6 := shr_small hji6
   obtain rfl := Option.some.inj H
   go_enter Tryd.func76, Tryd.ntmps76
   go_wp2_with (first | ((with_reducible refine gate_callee (f := 99) rfl ?_); refine goesL_ (some 6) rfl rfl Tryd.func99 (by kernel_rfl) rfl #[.int .i64 a1] rfl (by (try simp only [List.map_toArray, List.map_cons, List.map_nil]); first | done | rfl | (simp only [List.length_drop, List.length_take]; rfl)) ?_; (with_reducible refine (mainsheetref04_Cpu.calls a1 true _ A3.out).mono ?_); rintro e w' ⟨rfl, ⟨nd, rfl⟩⟩; refine ⟨_, rfl, ?_⟩))
   go_ret
   exact ⟨by first | rfl | (simp; done) | (simp only [← hji6] <;> (first | rfl | simp)) | (simp [*]; done), by repeat (first | exact Drawn0.refl _ | apply Drawn0.step)⟩
  ·rw [if_neg c5] at H
   exact absurd H (by simp)
 ·replace c4 := Bool.eq_false_iff.mpr c4
  subst c4
  have H1 : (some false) = some r := by rw [if_neg (show ¬ (false = true) by decide)] at H; exact H
  clear H
  have H := H1
  clear H1
  obtain rfl := Option.some.inj H
  go_enter Tryd.func76, Tryd.ntmps76
  go_wp2_with (first | ((with_reducible refine gate_callee (f := 99) rfl ?_); refine goesL_ (some 6) rfl rfl Tryd.func99 (by kernel_rfl) rfl #[.int .i64 a1] rfl (by (try simp only [List.map_toArray, List.map_cons, List.map_nil]); first | done | rfl | (simp only [List.length_drop, List.length_take]; rfl)) ?_; (with_reducible refine (mainsheetref04_Cpu.calls a1 false _ A3.out).mono ?_); rintro e w' ⟨rfl, ⟨nd, rfl⟩⟩; refine ⟨_, rfl, ?_⟩))
  go_ret
  exact ⟨by first | rfl | (simp; done) | (simp [*]; done), by repeat (first | exact Drawn0.refl _ | apply Drawn0.step)⟩

def mainsheetref07_Allows.f (a0_0 : Int) (a0_1 : Int) (a1 : Int) : Option (Int) := some (Go.bits .and .u32 a0_0 a1)
set_option maxHeartbeats 8000000 in
set_option maxRecDepth 100000 in
theorem mainsheetref07_Allows.calls (a0_0 : Int) (a0_1 : Int) (a1 : Int) (r : Int) (w : World) (h : mainsheetref07_Allows.f a0_0 a0_1 a1 = some r) :
  Calls Tryd.prog 77 #[.agg #[.int .u32 a0_0, .int .u32 a0_1], .int .u32 a1] w fun e w' => e = .returned (.int .u32 r) ∧ Below w.heap.size w w' := by
 have hu34 := Tryd.underlying34
 have HB := Aside0.mk (Below.refl w.heap.size w)
 have H : (some (Go.bits .and .u32 a0_0 a1)) = some r := h
 clear h
 obtain rfl := Option.some.inj H
 go_enter Tryd.func77, Tryd.ntmps77
 go_wp2_with (first | ((with_reducible refine gate_dst (N := 2) rfl ?_); refine box_event ?hg (N := 2) ?hd (cs := #[.int .u32 a0_0, .int .u32 a0_1]) (t := 34) ?hr ?_; (case hd => rfl); (case hg => rfl); (case hr => first | (go_simp; done) | (go_simp; rfl)); intro gb181 hg w3 hbox hb; have n0_ := Aside0.mk (below_step (by repeat (first | (with_reducible first | exact HB.out | apply below_alloc | apply pw_below_drewN | apply below_drew1) | exact HB.out)) hb); have n1_ := Aside0.mk (hbox); have n2_ := Aside0.mk ((by rw [hg]; exact (below_size (by repeat (first | (with_reducible first | exact HB.out | apply below_alloc | apply pw_below_drewN | apply below_drew1) | exact HB.out))) : w.heap.size ≤ gb181)); have n3_ := Aside0.mk ((by rw [hg]; exact (below_size (by repeat (first | (with_reducible first | exact HB.out | apply below_alloc | apply pw_below_drewN | apply below_drew1) | exact HB.out))) : w.heap.size ≤ gb181)); clear HB; have HB := n0_; have BK181 := n1_; have GW181 := n2_; have GE181 := n3_; clear n0_ n1_ n2_ n3_; clear hb hbox hg; have hcz4_0 : w3.cell? ⟨gb181, 0, none⟩ = some (.int .u32 a0_0) := (blk_cell BK181.out 0).trans rfl; have hcz4_1 : w3.cell? ⟨gb181, 1, none⟩ = some (.int .u32 a0_1) := (blk_cell BK181.out 1).trans rfl; have hfz4_0 := blk_frozen BK181.out 0; have hfz4_1 := blk_frozen BK181.out 1))
 go_ret
 exact ⟨by first | rfl | (simp [errW_none, errW_some] <;> rfl) | (simp [*, errW_none, errW_some] <;> rfl), by repeat (first | (with_reducible first | exact HB.out | apply below_alloc | apply pw_below_drewN | apply below_drew1 | refine below_set ?_ GE181.out) | exact HB.out)⟩

end Go.Proofs.YtdmieaidheelbaaDoor.Q
end
/- Turns -/
section
/- place.turns: the iterator over wishes and the pCPUs that they take, by its contract. -/
namespace Go.Proofs.YtdmieaidheelbaaDoor.Q
open Go Go.RowKit Go.Shelf Go.Proofs.YtdmieaidheelbaaDoor.Rng Go.Proofs.YtdmieaidheelbaaDoorW.PrintWords Go.Proofs.YtdmieaidheelbaaDoorW.PrintLast Go.Proofs.YtdmieaidheelbaaDoorW.PrintMore
set_option linter.unusedVariables false
set_option linter.unusedSimpArgs false

theorem add_block (a : Addr) (n : Nat) : (a.add n).block = a.block := by unfold Addr.add; split <;> rfl
end Go.Proofs.YtdmieaidheelbaaDoor.Q
end
/- QFplaceasked -/
section
namespace Go.Proofs.YtdmieaidheelbaaDoor.Q
open Go.RowKit Go.Proofs.YtdmieaidheelbaaDoorW.PrintWords Go.Proofs.YtdmieaidheelbaaDoorW.PrintLast Go.Proofs.YtdmieaidheelbaaDoorW.PrintMore
attribute [local go_sem] max2_int min2_int max_two min_two max_three min_three max_four min_four
set_option linter.unusedVariables false
set_option linter.unusedSimpArgs false

end Go.Proofs.YtdmieaidheelbaaDoor.Q
end
/- PlaceM -/
section
/- What package place answers, over lists and numbers; a row of placements of the call's own. Plain but for the memory's words. -/
namespace Go.Proofs.YtdmieaidheelbaaDoor.Q
open Go Go.RowKit Go.Shelf Go.Proofs.YtdmieaidheelbaaDoor.Rng Go.Proofs.YtdmieaidheelbaaDoorW.PrintWords Go.Proofs.YtdmieaidheelbaaDoorW.PrintLast Go.Proofs.YtdmieaidheelbaaDoorW.PrintMore
set_option linter.unusedVariables false
set_option linter.unusedSimpArgs false

def okArgs (l : List S36) (a : Int) : Prop := (∀ x ∈ l, Wf36 x) ∧ l.length ≤ 1000000 ∧ 0 ≤ a ∧ a < 4294967296
instance (l : List S36) (a : Int) : Decidable (okArgs l a) := inferInstanceAs (Decidable (_ ∧ _ ∧ _ ∧ _))
end Go.Proofs.YtdmieaidheelbaaDoor.Q
end
/- Place -/
section
/- place.Place by its contract. -/
namespace Go.Proofs.YtdmieaidheelbaaDoor.Q
open Go Go.RowKit Go.Shelf Go.Proofs.YtdmieaidheelbaaDoor.Rng Go.Proofs.YtdmieaidheelbaaDoorW.PrintWords Go.Proofs.YtdmieaidheelbaaDoorW.PrintLast Go.Proofs.YtdmieaidheelbaaDoorW.PrintMore
set_option linter.unusedVariables false
set_option linter.unusedSimpArgs false
attribute [local go_sem] Oper.semAt_some

end Go.Proofs.YtdmieaidheelbaaDoor.Q
end
/- QE1 -/
section
namespace Go.Proofs.YtdmieaidheelbaaDoor.Q
open Go.RowKit Go.Proofs.YtdmieaidheelbaaDoorW.PrintWords Go.Proofs.YtdmieaidheelbaaDoorW.PrintLast Go.Proofs.YtdmieaidheelbaaDoorW.PrintMore
attribute [local go_sem] max2_int min2_int max_two min_two max_three min_three max_four min_four
set_option linter.unusedVariables false
set_option linter.unusedSimpArgs false

theorem eqA31 (d : Nat) (w : World) (x0 y0 : Int) (x1 y1 : Int) :
  (Op.equalIn (d + 2) 31 (.agg #[.int .i64 x0, .int .i64 x1]) (.agg #[.int .i64 y0, .int .i64 y1])).run Tryd.prog w = .ok (x0 == y0 && (x1 == y1)) w := by
 refine eqA_of Tryd.underlying31 (by kernel_rfl) ?_
 refine eqf_cons (by rfl) (by go_simp; rfl) (by go_simp; rfl) (by go_simp) ?_
 exact eqf_last (by rfl) (by go_simp; rfl) (by go_simp; rfl) (by go_simp)
end Go.Proofs.YtdmieaidheelbaaDoor.Q
end
/- QFlaw13wakes -/
section
namespace Go.Proofs.YtdmieaidheelbaaDoor.Q
open Go.RowKit Go.Proofs.YtdmieaidheelbaaDoorW.PrintWords Go.Proofs.YtdmieaidheelbaaDoorW.PrintLast Go.Proofs.YtdmieaidheelbaaDoorW.PrintMore
attribute [local go_sem] max2_int min2_int max_two min_two max_three min_three max_four min_four
set_option linter.unusedVariables false
set_option linter.unusedSimpArgs false

attribute [local go_sem high] eqA31
end Go.Proofs.YtdmieaidheelbaaDoor.Q
end
/- PlaceP -/
section
/- The plain law of Place: rows in parts. -/
namespace Go.Proofs.YtdmieaidheelbaaDoor.Q
open Go Go.RowKit Go.Proofs.YtdmieaidheelbaaDoorW.PrintWords Go.Proofs.YtdmieaidheelbaaDoorW.PrintLast Go.Proofs.YtdmieaidheelbaaDoorW.PrintMore
set_option linter.unusedVariables false
set_option linter.unusedSimpArgs false

end Go.Proofs.YtdmieaidheelbaaDoor.Q
end
