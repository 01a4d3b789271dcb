/- Texts of the proof of PickBack, joined. -/
import Derived.WalkMore
import Derived.BigQuiet
import Derived.Deep.QuietTactic
import Derived.WalkSmall
import Derived.Test.YtdmieaidheelbaaDoorPkPickBackc
/- QFlaw19wakes -/
section
namespace Go.Proofs.YtdmieaidheelbaaDoor.Q
open Go.RowKit Go.Proofs.YtdmieaidheelbaaDoorW.PrintWords Go.Proofs.YtdmieaidheelbaaDoorW.PrintLast Go.Proofs.YtdmieaidheelbaaDoorW.PrintMore
attribute [local go_sem] max2_int min2_int max_two min_two max_three min_three max_four min_four
set_option linter.unusedVariables false
set_option linter.unusedSimpArgs false

attribute [local go_sem high] eqA31
def mainsheetlaw19_wakes.f  : Option (Bool) := (pick_Pick.f (([(⟨(([3] : List Int)), (⟨(⟨0, 0⟩ : S86), 0⟩ : S88), 0, false⟩ : S90), (⟨(([1, 2] : List Int)), (⟨(⟨0, 0⟩ : S86), 0⟩ : S88), 0, false⟩ : S90), (⟨(([4] : List Int)), (⟨(⟨0, 0⟩ : S86), 0⟩ : S88), 0, false⟩ : S90)] : List (S90))) (([(⟨1, (-1), (⟨3, 0⟩ : S34)⟩ : S36), (⟨2, (-1), (⟨3, 0⟩ : S34)⟩ : S36), (⟨3, 1, (⟨3, 0⟩ : S34)⟩ : S36), (⟨4, (-1), (⟨3, 0⟩ : S34)⟩ : S36)] : List (S36))) 3).bind fun bt337 => (if bt337.2.2 = 0 then (if (bt337.1.length : Int) = 2 then (if 0 < (bt337.1.length : Int) then (if (((rd_T31 bt337.1 0).f0) == 3 && (((rd_T31 bt337.1 0).f1) == 1)) = true then (if 1 < (bt337.1.length : Int) then (if (((rd_T31 bt337.1 1).f0) == 4 && (((rd_T31 bt337.1 1).f1) == 0)) = true then (some ((bt337.2.1.length : Int) == 2)) else (some false)) else (none)) else (some false)) else (none)) else (some false)) else (some false))
set_option maxHeartbeats 8000000 in
set_option maxRecDepth 100000 in
theorem mainsheetlaw19_wakes.calls  (r : Bool) (w : World) (hT : TabW w) (h : mainsheetlaw19_wakes.f  = some r) :
  Calls Tryd.prog 18 #[] w fun e w' => e = .returned (.bool r) ∧ Below w.heap.size w w' := by
 have HT := Aside0.mk hT
 clear hT
 have hu34 := Tryd.underlying34
 have hu90 := Tryd.underlying90
 have hu36 := Tryd.underlying36
 have hu31 := Tryd.underlying31
 have HB := Aside0.mk (Below.refl w.heap.size w)
 have H : ((pick_Pick.f (([(⟨(([3] : List Int)), (⟨(⟨0, 0⟩ : S86), 0⟩ : S88), 0, false⟩ : S90), (⟨(([1, 2] : List Int)), (⟨(⟨0, 0⟩ : S86), 0⟩ : S88), 0, false⟩ : S90), (⟨(([4] : List Int)), (⟨(⟨0, 0⟩ : S86), 0⟩ : S88), 0, false⟩ : S90)] : List (S90))) (([(⟨1, (-1), (⟨3, 0⟩ : S34)⟩ : S36), (⟨2, (-1), (⟨3, 0⟩ : S34)⟩ : S36), (⟨3, 1, (⟨3, 0⟩ : S34)⟩ : S36), (⟨4, (-1), (⟨3, 0⟩ : S34)⟩ : S36)] : List (S36))) 3).bind fun bt337 => (if bt337.2.2 = 0 then (if (bt337.1.length : Int) = 2 then (if 0 < (bt337.1.length : Int) then (if (((rd_T31 bt337.1 0).f0) == 3 && (((rd_T31 bt337.1 0).f1) == 1)) = true then (if 1 < (bt337.1.length : Int) then (if (((rd_T31 bt337.1 1).f0) == 4 && (((rd_T31 bt337.1 1).f1) == 0)) = true then (some ((bt337.2.1.length : Int) == 2)) else (some false)) else (none)) else (some false)) else (none)) else (some false)) else (some false))) = some r := h
 clear h
 obtain ⟨y322, hy322⟩ : ∃ y_ : List Int, y_ = (([3] : List Int)) := ⟨_, rfl⟩
 replace H : ((pick_Pick.f (([(⟨y322, (⟨(⟨0, 0⟩ : S86), 0⟩ : S88), 0, false⟩ : S90), (⟨(([1, 2] : List Int)), (⟨(⟨0, 0⟩ : S86), 0⟩ : S88), 0, false⟩ : S90), (⟨(([4] : List Int)), (⟨(⟨0, 0⟩ : S86), 0⟩ : S88), 0, false⟩ : S90)] : List (S90))) (([(⟨1, (-1), (⟨3, 0⟩ : S34)⟩ : S36), (⟨2, (-1), (⟨3, 0⟩ : S34)⟩ : S36), (⟨3, 1, (⟨3, 0⟩ : S34)⟩ : S36), (⟨4, (-1), (⟨3, 0⟩ : S34)⟩ : S36)] : List (S36))) 3).bind fun bt337 => (if bt337.2.2 = 0 then (if (bt337.1.length : Int) = 2 then (if 0 < (bt337.1.length : Int) then (if (((rd_T31 bt337.1 0).f0) == 3 && (((rd_T31 bt337.1 0).f1) == 1)) = true then (if 1 < (bt337.1.length : Int) then (if (((rd_T31 bt337.1 1).f0) == 4 && (((rd_T31 bt337.1 1).f1) == 0)) = true then (some ((bt337.2.1.length : Int) == 2)) else (some false)) else (none)) else (some false)) else (none)) else (some false)) else (some false))) = some r := by first | (rw [hy322]; with_reducible exact H) | (have H2_ := (Option.bind_some _ _).symm.trans H; rw [hy322]; with_reducible exact H2_) | (have H2_ := (Option.bind_some _ _).symm.trans H; with_reducible exact H2_) | with_reducible exact H | (rw [hy322]; exact H) | exact H
 have Ny322 := Aside0.mk hy322
 clear hy322
 obtain ⟨y325, hy325⟩ : ∃ y_ : List Int, y_ = (([1, 2] : List Int)) := ⟨_, rfl⟩
 replace H : ((pick_Pick.f (([(⟨y322, (⟨(⟨0, 0⟩ : S86), 0⟩ : S88), 0, false⟩ : S90), (⟨y325, (⟨(⟨0, 0⟩ : S86), 0⟩ : S88), 0, false⟩ : S90), (⟨(([4] : List Int)), (⟨(⟨0, 0⟩ : S86), 0⟩ : S88), 0, false⟩ : S90)] : List (S90))) (([(⟨1, (-1), (⟨3, 0⟩ : S34)⟩ : S36), (⟨2, (-1), (⟨3, 0⟩ : S34)⟩ : S36), (⟨3, 1, (⟨3, 0⟩ : S34)⟩ : S36), (⟨4, (-1), (⟨3, 0⟩ : S34)⟩ : S36)] : List (S36))) 3).bind fun bt337 => (if bt337.2.2 = 0 then (if (bt337.1.length : Int) = 2 then (if 0 < (bt337.1.length : Int) then (if (((rd_T31 bt337.1 0).f0) == 3 && (((rd_T31 bt337.1 0).f1) == 1)) = true then (if 1 < (bt337.1.length : Int) then (if (((rd_T31 bt337.1 1).f0) == 4 && (((rd_T31 bt337.1 1).f1) == 0)) = true then (some ((bt337.2.1.length : Int) == 2)) else (some false)) else (none)) else (some false)) else (none)) else (some false)) else (some false))) = some r := by first | (rw [hy325]; with_reducible exact H) | (have H2_ := (Option.bind_some _ _).symm.trans H; rw [hy325]; with_reducible exact H2_) | (have H2_ := (Option.bind_some _ _).symm.trans H; with_reducible exact H2_) | with_reducible exact H | (rw [hy325]; exact H) | exact H
 have Ny325 := Aside0.mk hy325
 clear hy325
 obtain ⟨y328, hy328⟩ : ∃ y_ : List Int, y_ = (([4] : List Int)) := ⟨_, rfl⟩
 replace H : ((pick_Pick.f (([(⟨y322, (⟨(⟨0, 0⟩ : S86), 0⟩ : S88), 0, false⟩ : S90), (⟨y325, (⟨(⟨0, 0⟩ : S86), 0⟩ : S88), 0, false⟩ : S90), (⟨y328, (⟨(⟨0, 0⟩ : S86), 0⟩ : S88), 0, false⟩ : S90)] : List (S90))) (([(⟨1, (-1), (⟨3, 0⟩ : S34)⟩ : S36), (⟨2, (-1), (⟨3, 0⟩ : S34)⟩ : S36), (⟨3, 1, (⟨3, 0⟩ : S34)⟩ : S36), (⟨4, (-1), (⟨3, 0⟩ : S34)⟩ : S36)] : List (S36))) 3).bind fun bt337 => (if bt337.2.2 = 0 then (if (bt337.1.length : Int) = 2 then (if 0 < (bt337.1.length : Int) then (if (((rd_T31 bt337.1 0).f0) == 3 && (((rd_T31 bt337.1 0).f1) == 1)) = true then (if 1 < (bt337.1.length : Int) then (if (((rd_T31 bt337.1 1).f0) == 4 && (((rd_T31 bt337.1 1).f1) == 0)) = true then (some ((bt337.2.1.length : Int) == 2)) else (some false)) else (none)) else (some false)) else (none)) else (some false)) else (some false))) = some r := by first | (rw [hy328]; with_reducible exact H) | (have H2_ := (Option.bind_some _ _).symm.trans H; rw [hy328]; with_reducible exact H2_) | (have H2_ := (Option.bind_some _ _).symm.trans H; with_reducible exact H2_) | with_reducible exact H | (rw [hy328]; exact H) | exact H
 have Ny328 := Aside0.mk hy328
 clear hy328
 obtain ⟨y331, hy331⟩ : ∃ y_ : List (S90), y_ = (([(⟨y322, (⟨(⟨0, 0⟩ : S86), 0⟩ : S88), 0, false⟩ : S90), (⟨y325, (⟨(⟨0, 0⟩ : S86), 0⟩ : S88), 0, false⟩ : S90), (⟨y328, (⟨(⟨0, 0⟩ : S86), 0⟩ : S88), 0, false⟩ : S90)] : List (S90))) := ⟨_, rfl⟩
 replace H : ((pick_Pick.f y331 (([(⟨1, (-1), (⟨3, 0⟩ : S34)⟩ : S36), (⟨2, (-1), (⟨3, 0⟩ : S34)⟩ : S36), (⟨3, 1, (⟨3, 0⟩ : S34)⟩ : S36), (⟨4, (-1), (⟨3, 0⟩ : S34)⟩ : S36)] : List (S36))) 3).bind fun bt337 => (if bt337.2.2 = 0 then (if (bt337.1.length : Int) = 2 then (if 0 < (bt337.1.length : Int) then (if (((rd_T31 bt337.1 0).f0) == 3 && (((rd_T31 bt337.1 0).f1) == 1)) = true then (if 1 < (bt337.1.length : Int) then (if (((rd_T31 bt337.1 1).f0) == 4 && (((rd_T31 bt337.1 1).f1) == 0)) = true then (some ((bt337.2.1.length : Int) == 2)) else (some false)) else (none)) else (some false)) else (none)) else (some false)) else (some false))) = some r := by first | (rw [hy331]; with_reducible exact H) | (have H2_ := (Option.bind_some _ _).symm.trans H; rw [hy331]; with_reducible exact H2_) | (have H2_ := (Option.bind_some _ _).symm.trans H; with_reducible exact H2_) | with_reducible exact H | (rw [hy331]; exact H) | exact H
 have Ny331 := Aside0.mk hy331
 clear hy331
 obtain ⟨y334, hy334⟩ : ∃ y_ : List (S36), y_ = (([(⟨1, (-1), (⟨3, 0⟩ : S34)⟩ : S36), (⟨2, (-1), (⟨3, 0⟩ : S34)⟩ : S36), (⟨3, 1, (⟨3, 0⟩ : S34)⟩ : S36), (⟨4, (-1), (⟨3, 0⟩ : S34)⟩ : S36)] : List (S36))) := ⟨_, rfl⟩
 replace H : ((pick_Pick.f y331 y334 3).bind fun bt337 => (if bt337.2.2 = 0 then (if (bt337.1.length : Int) = 2 then (if 0 < (bt337.1.length : Int) then (if (((rd_T31 bt337.1 0).f0) == 3 && (((rd_T31 bt337.1 0).f1) == 1)) = true then (if 1 < (bt337.1.length : Int) then (if (((rd_T31 bt337.1 1).f0) == 4 && (((rd_T31 bt337.1 1).f1) == 0)) = true then (some ((bt337.2.1.length : Int) == 2)) else (some false)) else (none)) else (some false)) else (none)) else (some false)) else (some false))) = some r := by first | (rw [hy334]; with_reducible exact H) | (have H2_ := (Option.bind_some _ _).symm.trans H; rw [hy334]; with_reducible exact H2_) | (have H2_ := (Option.bind_some _ _).symm.trans H; with_reducible exact H2_) | with_reducible exact H | (rw [hy334]; exact H) | exact H
 have Ny334 := Aside0.mk hy334
 clear hy334
 replace H := Option.bind_eq_some_iff.mp H
 obtain ⟨⟨t337, t338, t339⟩, A10, H⟩ := H
 replace H : (if t339 = 0 then (if (t337.length : Int) = 2 then (if 0 < (t337.length : Int) then (if (((rd_T31 t337 0).f0) == 3 && (((rd_T31 t337 0).f1) == 1)) = true then (if 1 < (t337.length : Int) then (if (((rd_T31 t337 1).f0) == 4 && (((rd_T31 t337 1).f1) == 0)) = true then (some ((t338.length : Int) == 2)) else (some false)) else (none)) else (some false)) else (none)) else (some false)) else (some false)) = some r := H
 have A1 := Aside0.mk A10
 clear A10
 by_cases c2 : t339 = 0
 ·rw [if_pos c2] at H
  have c2b0 : (t339 == 0) = true := beq_iff_eq.mpr c2
  have c2b1 : (t339 != 0) = false := bne_eq_false_iff_eq.mpr c2
  clear c2
  by_cases c3 : (t337.length : Int) = 2
  ·rw [if_pos c3] at H
   have c3b0 : ((t337.length : Int) == 2) = true := beq_iff_eq.mpr c3
   have c3b1 : ((t337.length : Int) != 2) = false := bne_eq_false_iff_eq.mpr c3
   clear c3
   by_cases c4 : 0 < (t337.length : Int)
   ·rw [if_pos c4] at H
    have c4b0 : decide (0 < (t337.length : Int)) = true := decide_eq_true c4
    have c4b1 : decide (0 < t337.length) = true := decide_eq_true (by omega)
    clear c4
    by_cases c5 : (((rd_T31 t337 0).f0) == 3 && (((rd_T31 t337 0).f1) == 1)) = true
    ·rw [if_pos c5] at H
     have c5b0 : (((rd_T31 t337 0).f0) == 3 && (((rd_T31 t337 0).f1) == 1)) = true := c5
     (try (have c5b1 : decide (((rd_T31 t337 0).f0) = 3 && (((rd_T31 t337 0).f1) == 1)) = true := by simpa using c5))
     (try (have c5b2 : (((rd_T31 t337 0).f0) == 3 && (((rd_T31 t337 0).f1) == 1)) = true := by simpa using c5))
     clear c5
     by_cases c6 : 1 < (t337.length : Int)
     ·rw [if_pos c6] at H
      have c6b0 : decide (1 < (t337.length : Int)) = true := decide_eq_true c6
      have c6b1 : decide (1 < t337.length) = true := decide_eq_true (by omega)
      clear c6
      by_cases c7 : (((rd_T31 t337 1).f0) == 4 && (((rd_T31 t337 1).f1) == 0)) = true
      ·rw [if_pos c7] at H
       have c7b0 : (((rd_T31 t337 1).f0) == 4 && (((rd_T31 t337 1).f1) == 0)) = true := c7
       (try (have c7b1 : decide (((rd_T31 t337 1).f0) = 4 && (((rd_T31 t337 1).f1) == 0)) = true := by simpa using c7))
       (try (have c7b2 : (((rd_T31 t337 1).f0) == 4 && (((rd_T31 t337 1).f1) == 0)) = true := by simpa using c7))
       clear c7
       obtain rfl := Option.some.inj H
       go_enter Tryd.func18, Tryd.ntmps18
       go_wp2_with (first | ((with_reducible refine gate_dst (N := 1) rfl ?_); (try (refine gate_guard (by rfl) ?_; dsimp only)); refine box_event ?hg (N := 1) ?hd (cs := #[.int .u32 0, .int .u32 0]) (t := 34) ?hr ?_; (case hd => rfl); (case hg => rfl); (case hr => first | (go_simp; done) | (go_simp; rfl)); intro gb321 hg w8 hbox hb; have n0_ := Aside0.mk (below_step (by repeat (first | (with_reducible first | exact HB.out | apply below_alloc | apply pw_below_drewN | apply below_drew1) | exact HB.out)) hb); have n1_ := Aside0.mk (hbox); have n2_ := Aside0.mk ((by rw [hg]; exact (below_size (by repeat (first | (with_reducible first | exact HB.out | apply below_alloc | apply pw_below_drewN | apply below_drew1) | exact HB.out))) : w.heap.size ≤ gb321)); have n3_ := Aside0.mk ((by rw [hg]; exact (below_size (by repeat (first | (with_reducible first | exact HB.out | apply below_alloc | apply pw_below_drewN | apply below_drew1) | exact HB.out))) : w.heap.size ≤ gb321)); clear HB; have HB := n0_; have BK321 := n1_; have GW321 := n2_; have GE321 := n3_; clear n0_ n1_ n2_ n3_; clear hb hbox hg; have hcz9_0 : w8.cell? ⟨gb321, 0, none⟩ = some (.int .u32 0) := (blk_cell BK321.out 0).trans rfl; have hcz9_1 : w8.cell? ⟨gb321, 1, none⟩ = some (.int .u32 0) := (blk_cell BK321.out 1).trans rfl; have hfz9_0 := blk_frozen BK321.out 0; have hfz9_1 := blk_frozen BK321.out 1) | ((with_reducible refine gate_dst (N := 8) rfl ?_); (try (refine gate_guard (by rfl) ?_; dsimp only)); refine Kd.R_lit (Kd.int .i64) _ 3 ?hg (N := 8) ?hd (xs := ([3] : List Int)) (inner := [.int .i64 3]) (ok := fun _ => True) (okp := fun _ => True) ?hr ?hp (fun _ hk => hk) trivial (Below.refl _ _) (Nat.le_refl _) (by simp) ?_; (case hd => rfl); (case hg => rfl); (case hr => first | (go_simp; done) | (go_simp; rfl)); (case hp => exact (Reps.one (show Kd.M (Kd.int .i64) _ _ _ 3 [.int .i64 3] from rfl) (Reps.none _ _))); intro v323 w10 ho11 hb hg_ hnew_; clear hg_ hnew_; (first | rw [← Ny322.out] at ho11 | (simp only [Int.reduceToNat] at ho11; rw [← Ny322.out] at ho11)); have n0_ := Aside0.mk (Kd.R_lower ho11 (below_size (by repeat (first | (with_reducible first | exact HB.out | apply below_alloc | apply pw_below_drewN | apply below_drew1 | refine below_set ?_ GE321.out) | exact HB.out)))); have n1_ := Aside0.mk (blk_below (g := gb321) (o := .cells #[.int .u32 3, .int .u32 0] 34 (0, 0)) (by (with_reducible repeat (first | refine blk_drewN ?_ _ | refine blk_drew ?_ | refine blk_alloc ?_ _)); refine blk_put (cs := #[.int .u32 3, .int .u32 0]) ?_ 1 _ rfl; (with_reducible repeat (first | refine blk_drewN ?_ _ | refine blk_drew ?_ | refine blk_alloc ?_ _)); refine blk_put (cs := #[.int .u32 0, .int .u32 0]) ?_ 0 _ rfl; (with_reducible repeat (first | refine blk_drewN ?_ _ | refine blk_drew ?_ | refine blk_alloc ?_ _)); exact BK321.out) hb); have n2_ := Aside0.mk (below_step (by repeat (first | (with_reducible first | exact HB.out | apply below_alloc | apply pw_below_drewN | apply below_drew1 | refine below_set ?_ GE321.out) | exact HB.out)) hb); clear BK321; clear HB; have HO324 := n0_; have BK321 := n1_; have HB := n2_; clear n0_ n1_ n2_; clear hb ho11; obtain ⟨Ao12, co12, eo12⟩ := Kd.R_slice HO324.out; subst eo12) | ((with_reducible refine gate_dst (N := 10) rfl ?_); (try (refine gate_guard (by rfl) ?_; dsimp only)); refine Kd.R_lit (Kd.int .i64) _ 3 ?hg (N := 10) ?hd (xs := ([1, 2] : List Int)) (inner := [.int .i64 1, .int .i64 2]) (ok := fun _ => True) (okp := fun _ => True) ?hr ?hp (fun _ hk => hk) trivial (Below.refl _ _) (Nat.le_refl _) (by simp) ?_; (case hd => rfl); (case hg => rfl); (case hr => first | (go_simp; done) | (go_simp; rfl)); (case hp => exact (Reps.one (show Kd.M (Kd.int .i64) _ _ _ 1 [.int .i64 1] from rfl) (Reps.one (show Kd.M (Kd.int .i64) _ _ _ 2 [.int .i64 2] from rfl) (Reps.none _ _)))); intro v326 w13 ho14 hb hg_ hnew_; clear hg_ hnew_; (first | rw [← Ny325.out] at ho14 | (simp only [Int.reduceToNat] at ho14; rw [← Ny325.out] at ho14)); have n0_ := Aside0.mk (Kd.R_elder' (by (with_reducible repeat (first | apply Kd.R_alloc | apply Kd.R_drewN | apply Kd.R_drew)); exact HO324.out) (Kd.R_base ho14) hb); have n1_ := Aside0.mk (Kd.R_lower (Kd.R_new' ho14 (Kd.R_lt (by (with_reducible repeat (first | apply Kd.R_alloc | apply Kd.R_drewN | apply Kd.R_drew)); exact HO324.out))) (below_size (by repeat (first | (with_reducible first | exact HB.out | apply below_alloc | apply pw_below_drewN | apply below_drew1 | refine below_set ?_ GE321.out) | exact HB.out)))); have n2_ := Aside0.mk (blk_below (g := gb321) (o := .cells #[.int .u32 3, .int .u32 0] 34 (0, 0)) (by (with_reducible repeat (first | refine blk_drewN ?_ _ | refine blk_drew ?_ | refine blk_alloc ?_ _)); exact BK321.out) hb); have n3_ := Aside0.mk (below_step (by repeat (first | (with_reducible first | exact HB.out | apply below_alloc | apply pw_below_drewN | apply below_drew1 | refine below_set ?_ GE321.out) | exact HB.out)) hb); clear HO324; clear BK321; clear HB; have HO324 := n0_; have HO327 := n1_; have BK321 := n2_; have HB := n3_; clear n0_ n1_ n2_ n3_; clear hb ho14; obtain ⟨Ao15, co15, eo15⟩ := Kd.R_slice HO327.out; subst eo15) | ((with_reducible refine gate_dst (N := 12) rfl ?_); (try (refine gate_guard (by rfl) ?_; dsimp only)); refine Kd.R_lit (Kd.int .i64) _ 3 ?hg (N := 12) ?hd (xs := ([4] : List Int)) (inner := [.int .i64 4]) (ok := fun _ => True) (okp := fun _ => True) ?hr ?hp (fun _ hk => hk) trivial (Below.refl _ _) (Nat.le_refl _) (by simp) ?_; (case hd => rfl); (case hg => rfl); (case hr => first | (go_simp; done) | (go_simp; rfl)); (case hp => exact (Reps.one (show Kd.M (Kd.int .i64) _ _ _ 4 [.int .i64 4] from rfl) (Reps.none _ _))); intro v329 w16 ho17 hb hg_ hnew_; clear hg_ hnew_; (first | rw [← Ny328.out] at ho17 | (simp only [Int.reduceToNat] at ho17; rw [← Ny328.out] at ho17)); have n0_ := Aside0.mk (Kd.R_elder' (by (with_reducible repeat (first | apply Kd.R_alloc | apply Kd.R_drewN | apply Kd.R_drew)); exact HO324.out) (Kd.R_base ho17) hb); have n1_ := Aside0.mk (Kd.R_elder' (by (with_reducible repeat (first | apply Kd.R_alloc | apply Kd.R_drewN | apply Kd.R_drew)); exact HO327.out) (Kd.R_base ho17) hb); have n2_ := Aside0.mk (Kd.R_lower (Kd.R_new' (Kd.R_new' ho17 (Kd.R_lt (by (with_reducible repeat (first | apply Kd.R_alloc | apply Kd.R_drewN | apply Kd.R_drew)); exact HO324.out))) (Kd.R_lt (by (with_reducible repeat (first | apply Kd.R_alloc | apply Kd.R_drewN | apply Kd.R_drew)); exact HO327.out))) (below_size (by repeat (first | (with_reducible first | exact HB.out | apply below_alloc | apply pw_below_drewN | apply below_drew1 | refine below_set ?_ GE321.out) | exact HB.out)))); have n3_ := Aside0.mk (blk_below (g := gb321) (o := .cells #[.int .u32 3, .int .u32 0] 34 (0, 0)) (by (with_reducible repeat (first | refine blk_drewN ?_ _ | refine blk_drew ?_ | refine blk_alloc ?_ _)); exact BK321.out) hb); have n4_ := Aside0.mk (below_step (by repeat (first | (with_reducible first | exact HB.out | apply below_alloc | apply pw_below_drewN | apply below_drew1 | refine below_set ?_ GE321.out) | exact HB.out)) hb); clear HO324; clear HO327; clear BK321; clear HB; have HO324 := n0_; have HO327 := n1_; have HO330 := n2_; have BK321 := n3_; have HB := n4_; clear n0_ n1_ n2_ n3_ n4_; clear hb ho17; obtain ⟨Ao18, co18, eo18⟩ := Kd.R_slice HO330.out; subst eo18) | ((with_reducible refine gate_dst (N := 14) rfl ?_); (try (refine gate_guard (by rfl) ?_; dsimp only)); refine Kd.N_lit k90 _ 90 ?hg (N' := 14) ?hd (xs := ([(⟨y322, (⟨(⟨0, 0⟩ : S86), 0⟩ : S88), 0, false⟩ : S90), (⟨y325, (⟨(⟨0, 0⟩ : S86), 0⟩ : S88), 0, false⟩ : S90), (⟨y328, (⟨(⟨0, 0⟩ : S86), 0⟩ : S88), 0, false⟩ : S90)] : List (S90))) (inner := [.slice Ao12 y322.length co12, .int .u64 0, .int .u64 0, .int .u64 0, .int .u64 0, .bool false, .slice Ao15 y325.length co15, .int .u64 0, .int .u64 0, .int .u64 0, .int .u64 0, .bool false, .slice Ao18 y328.length co18, .int .u64 0, .int .u64 0, .int .u64 0, .int .u64 0, .bool false]) (ok := (fun k_ => k_ ≠ gb321)) (okp := (fun k_ => k_ ≠ gb321)) ?hr ?hp (fun _ hk => hk) ((show ∀ k_, w16.heap.size ≤ k_ → (fun k_ => k_ ≠ gb321) k_ from fun k_ hk => Kd.freshB (g := gb321) (o := .cells #[.int .u32 3, .int .u32 0] 34 (0, 0)) (by (with_reducible repeat (first | refine blk_drewN ?_ _ | refine blk_drew ?_ | refine blk_alloc ?_ _)); exact BK321.out) k_ hk) _ (Nat.le_refl _)) (Below.refl _ _) (Nat.le_refl _) (by simp) ?_; (case hd => rfl); (case hg => rfl); (case hr => first | (go_simp; done) | (go_simp; rfl)); (case hp => exact (Reps.c6 (show Kd.FK k90 _ _ (⟨y322, (⟨(⟨0, 0⟩ : S86), 0⟩ : S88), 0, false⟩ : S90) [.slice Ao12 y322.length co12, .int .u64 0, .int .u64 0, .int .u64 0, .int .u64 0, .bool false] from (k90_mkF _ _ (⟨y322, (⟨(⟨0, 0⟩ : S86), 0⟩ : S88), 0, false⟩ : S90) (Kd.R_reads' (Kd.R_mono (ok' := (fun k_ => k_ ≠ gb321)) (Kd.R_types (HO324.out) BK321.out (by decide)) (fun k_ hk => hk.2))).2.1 (Kd.R_F (Kd.R_mono (ok' := (fun k_ => k_ ≠ gb321)) (Kd.R_types (HO324.out) BK321.out (by decide)) (fun k_ hk => hk.2))))) (Reps.c6 (show Kd.FK k90 _ _ (⟨y325, (⟨(⟨0, 0⟩ : S86), 0⟩ : S88), 0, false⟩ : S90) [.slice Ao15 y325.length co15, .int .u64 0, .int .u64 0, .int .u64 0, .int .u64 0, .bool false] from (k90_mkF _ _ (⟨y325, (⟨(⟨0, 0⟩ : S86), 0⟩ : S88), 0, false⟩ : S90) (Kd.R_reads' (Kd.R_mono (ok' := (fun k_ => k_ ≠ gb321)) (Kd.R_types (HO327.out) BK321.out (by decide)) (fun k_ hk => hk.2))).2.1 (Kd.R_F (Kd.R_mono (ok' := (fun k_ => k_ ≠ gb321)) (Kd.R_types (HO327.out) BK321.out (by decide)) (fun k_ hk => hk.2))))) (Reps.c6 (show Kd.FK k90 _ _ (⟨y328, (⟨(⟨0, 0⟩ : S86), 0⟩ : S88), 0, false⟩ : S90) [.slice Ao18 y328.length co18, .int .u64 0, .int .u64 0, .int .u64 0, .int .u64 0, .bool false] from (k90_mkF _ _ (⟨y328, (⟨(⟨0, 0⟩ : S86), 0⟩ : S88), 0, false⟩ : S90) (Kd.R_reads' (Kd.R_mono (ok' := (fun k_ => k_ ≠ gb321)) (Kd.R_types (HO330.out) BK321.out (by decide)) (fun k_ hk => hk.2))).2.1 (Kd.R_F (Kd.R_mono (ok' := (fun k_ => k_ ≠ gb321)) (Kd.R_types (HO330.out) BK321.out (by decide)) (fun k_ hk => hk.2))))) (Reps.none _ _))))); intro v332 w19 ho20 hb hg_ hnew_; clear hg_ hnew_; (first | rw [← Ny331.out] at ho20 | (simp only [Int.reduceToNat] at ho20; rw [← Ny331.out] at ho20)); have n0_ := Aside0.mk (Kd.N_lower ho20 (below_size (by repeat (first | (with_reducible first | exact HB.out | apply below_alloc | apply pw_below_drewN | apply below_drew1 | refine below_set ?_ GE321.out) | exact HB.out)))); have n1_ := Aside0.mk (blk_below (g := gb321) (o := .cells #[.int .u32 3, .int .u32 0] 34 (0, 0)) (by (with_reducible repeat (first | refine blk_drewN ?_ _ | refine blk_drew ?_ | refine blk_alloc ?_ _)); exact BK321.out) hb); have n2_ := Aside0.mk (below_step (by repeat (first | (with_reducible first | exact HB.out | apply below_alloc | apply pw_below_drewN | apply below_drew1 | refine below_set ?_ GE321.out) | exact HB.out)) hb); clear BK321; clear HB; clear HO324; clear HO327; clear HO330; have HO333 := n0_; have BK321 := n1_; have HB := n2_; clear n0_ n1_ n2_; clear hb ho20; have hcz21_0 : w19.cell? ⟨gb321, 0, none⟩ = some (.int .u32 3) := (blk_cell BK321.out 0).trans rfl; have hcz21_1 : w19.cell? ⟨gb321, 1, none⟩ = some (.int .u32 0) := (blk_cell BK321.out 1).trans rfl; have hfz21_0 := blk_frozen BK321.out 0; have hfz21_1 := blk_frozen BK321.out 1) | ((with_reducible refine gate_dst (N := 23) rfl ?_); (try (refine gate_guard (by rfl) ?_; dsimp only)); refine Kd.R_lit k36 _ 36 ?hg (N := 23) ?hd (xs := ([(⟨1, (-1), (⟨3, 0⟩ : S34)⟩ : S36), (⟨2, (-1), (⟨3, 0⟩ : S34)⟩ : S36), (⟨3, 1, (⟨3, 0⟩ : S34)⟩ : S36), (⟨4, (-1), (⟨3, 0⟩ : S34)⟩ : S36)] : List (S36))) (inner := [.int .i64 1, .int .i64 (-1), .int .u32 3, .int .u32 0, .int .i64 2, .int .i64 (-1), .int .u32 3, .int .u32 0, .int .i64 3, .int .i64 1, .int .u32 3, .int .u32 0, .int .i64 4, .int .i64 (-1), .int .u32 3, .int .u32 0]) (ok := fun _ => True) (okp := fun _ => True) ?hr ?hp (fun _ hk => hk) trivial (Below.refl _ _) (Nat.le_refl _) (by simp) ?_; (case hd => rfl); (case hg => rfl); (case hr => first | (go_simp; done) | (go_simp; rfl)); (case hp => exact (Reps.c4 (show Kd.M k36 _ _ _ (⟨1, (-1), (⟨3, 0⟩ : S34)⟩ : S36) [.int .i64 1, .int .i64 (-1), .int .u32 3, .int .u32 0] from (k36_mkM _ _ _ (⟨1, (-1), (⟨3, 0⟩ : S34)⟩ : S36) )) (Reps.c4 (show Kd.M k36 _ _ _ (⟨2, (-1), (⟨3, 0⟩ : S34)⟩ : S36) [.int .i64 2, .int .i64 (-1), .int .u32 3, .int .u32 0] from (k36_mkM _ _ _ (⟨2, (-1), (⟨3, 0⟩ : S34)⟩ : S36) )) (Reps.c4 (show Kd.M k36 _ _ _ (⟨3, 1, (⟨3, 0⟩ : S34)⟩ : S36) [.int .i64 3, .int .i64 1, .int .u32 3, .int .u32 0] from (k36_mkM _ _ _ (⟨3, 1, (⟨3, 0⟩ : S34)⟩ : S36) )) (Reps.c4 (show Kd.M k36 _ _ _ (⟨4, (-1), (⟨3, 0⟩ : S34)⟩ : S36) [.int .i64 4, .int .i64 (-1), .int .u32 3, .int .u32 0] from (k36_mkM _ _ _ (⟨4, (-1), (⟨3, 0⟩ : S34)⟩ : S36) )) (Reps.none _ _)))))); intro v335 w22 ho23 hb hg_ hnew_; clear hg_ hnew_; (first | rw [← Ny334.out] at ho23 | (simp only [Int.reduceToNat] at ho23; rw [← Ny334.out] at ho23)); have n0_ := Aside0.mk (Kd.N_elder' (by (with_reducible repeat (first | apply Kd.N_alloc | apply Kd.N_drewN | apply Kd.N_drew)); exact HO333.out) (Kd.R_base ho23) hb); have n1_ := Aside0.mk (Kd.R_lower ho23 (below_size (by repeat (first | (with_reducible first | exact HB.out | apply below_alloc | apply pw_below_drewN | apply below_drew1 | refine below_set ?_ GE321.out) | exact HB.out)))); have n2_ := Aside0.mk (blk_below (g := gb321) (o := .cells #[.int .u32 3, .int .u32 0] 34 (0, 0)) (by (with_reducible repeat (first | refine blk_drewN ?_ _ | refine blk_drew ?_ | refine blk_alloc ?_ _)); exact BK321.out) hb); have n3_ := Aside0.mk (below_step (by repeat (first | (with_reducible first | exact HB.out | apply below_alloc | apply pw_below_drewN | apply below_drew1 | refine below_set ?_ GE321.out) | exact HB.out)) hb); clear HO333; clear BK321; clear HB; have HO333 := n0_; have HO336 := n1_; have BK321 := n2_; have HB := n3_; clear n0_ n1_ n2_ n3_; clear hb ho23; obtain ⟨Ao24, co24, eo24⟩ := Kd.N_slice HO333.out; subst eo24; obtain ⟨Ao25, co25, eo25⟩ := Kd.R_slice HO336.out; subst eo25) | ((with_reducible refine gate_callee (f := 20) rfl ?_); refine goesL_ (some 27) rfl rfl Tryd.func20 (by kernel_rfl) rfl #[.slice Ao24 y331.length co24, .slice Ao25 y334.length co25, .int .u32 3] rfl (by (try simp only [List.map_toArray, List.map_cons, List.map_nil]); first | done | rfl | (simp only [List.length_drop, List.length_take]; rfl)) ?_; (with_reducible refine (pick_Pick.calls _ _ y331 _ _ y334 3 t337 t338 t339 _ ?side1 ?side2 ?side3 ?side4 ?tb A1.out).mono ?_); (case tb => exact HT.out.step (by repeat (first | (with_reducible first | exact HB.out | apply below_alloc | apply pw_below_drewN | apply below_drew1 | refine below_set ?_ GE321.out) | exact HB.out))); (case side1 => repeat (first | exact (Kd.N_reads' HO333.out).2.2 | (with_reducible refine Kd.C_alloc ?_ _) | (with_reducible refine Kd.C_drewN ?_ _) | (with_reducible refine Kd.C_drew ?_))); (case side2 => exact (Kd.N_reads' HO333.out).2.1); (case side3 => repeat (first | exact (Kd.R_reads' HO336.out).2.2 | (with_reducible refine Kd.C_alloc ?_ _) | (with_reducible refine Kd.C_drewN ?_ _) | (with_reducible refine Kd.C_drew ?_))); (case side4 => exact (Kd.R_reads' HO336.out).2.1); rintro e w26 ⟨v340, v342, rfl, ho0, ho1, hb⟩; refine ⟨_, rfl, ?_⟩; have n0_ := Aside0.mk (Kd.N_mono (Kd.N_told (Kd.N_told (Kd.N_old (by (with_reducible repeat (first | apply Kd.N_alloc | apply Kd.N_drewN | apply Kd.N_drew)); exact HO333.out) hb) (Kd.R_base ho0)) (Kd.R_base ho1)) (fun _ h_ => h_.1)); have n1_ := Aside0.mk (Kd.R_below (by (with_reducible repeat (first | apply Kd.R_alloc | apply Kd.R_drewN | apply Kd.R_drew)); exact HO336.out) hb); have n2_ := Aside0.mk (Kd.R_lower ho0 (below_size (by repeat (first | (with_reducible first | exact HB.out | apply below_alloc | apply pw_below_drewN | apply below_drew1 | refine below_set ?_ GE321.out) | exact HB.out)))); have n3_ := Aside0.mk (Kd.R_lower ho1 (below_size (by repeat (first | (with_reducible first | exact HB.out | apply below_alloc | apply pw_below_drewN | apply below_drew1 | refine below_set ?_ GE321.out) | exact HB.out)))); have n4_ := Aside0.mk (blk_below (g := gb321) (o := .cells #[.int .u32 3, .int .u32 0] 34 (0, 0)) (by (with_reducible repeat (first | refine blk_drewN ?_ _ | refine blk_drew ?_ | refine blk_alloc ?_ _)); exact BK321.out) hb); have n5_ := Aside0.mk (below_step (by repeat (first | (with_reducible first | exact HB.out | apply below_alloc | apply pw_below_drewN | apply below_drew1 | refine below_set ?_ GE321.out) | exact HB.out)) hb); clear HO333; clear HO336; clear BK321; clear HB; have HO333 := n0_; have HO336 := n1_; have HO341 := n2_; have HO343 := n3_; have BK321 := n4_; have HB := n5_; clear n0_ n1_ n2_ n3_ n4_ n5_; (try clear hb); (try clear hb2); (try clear hk); (try clear hi); (try clear ho0); (try clear ho1); obtain ⟨Ao27, co27, eo27⟩ := Kd.R_slice HO341.out; subst eo27; have p344 : 0 ≤ (0 : Int) := (by omega); have q344 : 0 < (t337.length : Int) := of_decide_eq_true (by first | (with_reducible assumption) | assumption); obtain ⟨ad344, e344, hx344_0, hx344_1⟩ := at_T31 (Kd.R_reads' HO341.out).2.2 0 p344 q344; cases e344; have qi344 : (0 < t337.length) = True := eq_true (by omega); (try rw [show ((0 : Int)).toNat = 0 from rfl] at hx344_0); (try rw [show 0 * 2 = 0 from rfl] at hx344_0); (try rw [Addr.add_zero'] at hx344_0); (try rw [show ((0 : Int)).toNat = 0 from rfl] at hx344_1); (try rw [show 0 * 2 = 0 from rfl] at hx344_1); (try rw [Addr.add_zero'] at hx344_1); replace p344 := eq_true p344; replace q344 := eq_true q344; have p345 : 0 ≤ (1 : Int) := (by omega); have q345 : 1 < (t337.length : Int) := of_decide_eq_true (by first | (with_reducible assumption) | assumption); obtain ⟨ad345, e345, hx345_0, hx345_1⟩ := at_T31 (Kd.R_reads' HO341.out).2.2 1 p345 q345; obtain rfl : ad344 = ad345 := (by injection e345); (try simp only [show (1 : Int).toNat = 1 from rfl, Nat.reduceMul, Nat.reduceEqDiff, Go.Addr.add, ↓reduceIte] at hx345_0); (try simp only [show (1 : Int).toNat = 1 from rfl, Nat.reduceMul, Nat.reduceEqDiff, Go.Addr.add, ↓reduceIte] at hx345_1); have qi345 : (1 < t337.length) = True := eq_true (by omega); (try rw [show ((1 : Int)).toNat = 1 from rfl] at hx345_0); (try rw [show 1 * 2 = 2 from rfl] at hx345_0); (try rw [show ((1 : Int)).toNat = 1 from rfl] at hx345_1); (try rw [show 1 * 2 = 2 from rfl] at hx345_1); replace p345 := eq_true p345; replace q345 := eq_true q345; obtain ⟨Ao28, co28, eo28⟩ := Kd.R_slice HO343.out; subst eo28))
       go_ret
       exact ⟨by first | rfl | (simp [errW_none, errW_some] <;> rfl) | (simp [*, errW_none, errW_some] <;> rfl), by repeat (first | (with_reducible first | exact HB.out | apply below_alloc | apply pw_below_drewN | apply below_drew1 | refine below_set ?_ GE321.out) | exact HB.out)⟩
      ·rw [if_neg c7] at H
       have c7b0 : (((rd_T31 t337 1).f0) == 4 && (((rd_T31 t337 1).f1) == 0)) = false := by simpa using c7
       (try (have c7b1 : decide (((rd_T31 t337 1).f0) = 4 && (((rd_T31 t337 1).f1) == 0)) = false := by simpa using c7))
       (try (have c7b2 : (((rd_T31 t337 1).f0) == 4 && (((rd_T31 t337 1).f1) == 0)) = false := by simpa using c7))
       (try (have c7b3 : ¬ (((rd_T31 t337 1).f0) = 4 && (((rd_T31 t337 1).f1) == 0)) := by simpa using c7))
       clear c7
       obtain rfl := Option.some.inj H
       go_enter Tryd.func18, Tryd.ntmps18
       go_wp2_with (first | ((with_reducible refine gate_dst (N := 1) rfl ?_); (try (refine gate_guard (by rfl) ?_; dsimp only)); refine box_event ?hg (N := 1) ?hd (cs := #[.int .u32 0, .int .u32 0]) (t := 34) ?hr ?_; (case hd => rfl); (case hg => rfl); (case hr => first | (go_simp; done) | (go_simp; rfl)); intro gb321 hg w29 hbox hb; have n0_ := Aside0.mk (below_step (by repeat (first | (with_reducible first | exact HB.out | apply below_alloc | apply pw_below_drewN | apply below_drew1) | exact HB.out)) hb); have n1_ := Aside0.mk (hbox); have n2_ := Aside0.mk ((by rw [hg]; exact (below_size (by repeat (first | (with_reducible first | exact HB.out | apply below_alloc | apply pw_below_drewN | apply below_drew1) | exact HB.out))) : w.heap.size ≤ gb321)); have n3_ := Aside0.mk ((by rw [hg]; exact (below_size (by repeat (first | (with_reducible first | exact HB.out | apply below_alloc | apply pw_below_drewN | apply below_drew1) | exact HB.out))) : w.heap.size ≤ gb321)); clear HB; have HB := n0_; have BK321 := n1_; have GW321 := n2_; have GE321 := n3_; clear n0_ n1_ n2_ n3_; clear hb hbox hg; have hcz30_0 : w29.cell? ⟨gb321, 0, none⟩ = some (.int .u32 0) := (blk_cell BK321.out 0).trans rfl; have hcz30_1 : w29.cell? ⟨gb321, 1, none⟩ = some (.int .u32 0) := (blk_cell BK321.out 1).trans rfl; have hfz30_0 := blk_frozen BK321.out 0; have hfz30_1 := blk_frozen BK321.out 1) | ((with_reducible refine gate_dst (N := 8) rfl ?_); (try (refine gate_guard (by rfl) ?_; dsimp only)); refine Kd.R_lit (Kd.int .i64) _ 3 ?hg (N := 8) ?hd (xs := ([3] : List Int)) (inner := [.int .i64 3]) (ok := fun _ => True) (okp := fun _ => True) ?hr ?hp (fun _ hk => hk) trivial (Below.refl _ _) (Nat.le_refl _) (by simp) ?_; (case hd => rfl); (case hg => rfl); (case hr => first | (go_simp; done) | (go_simp; rfl)); (case hp => exact (Reps.one (show Kd.M (Kd.int .i64) _ _ _ 3 [.int .i64 3] from rfl) (Reps.none _ _))); intro v323 w31 ho32 hb hg_ hnew_; clear hg_ hnew_; (first | rw [← Ny322.out] at ho32 | (simp only [Int.reduceToNat] at ho32; rw [← Ny322.out] at ho32)); have n0_ := Aside0.mk (Kd.R_lower ho32 (below_size (by repeat (first | (with_reducible first | exact HB.out | apply below_alloc | apply pw_below_drewN | apply below_drew1 | refine below_set ?_ GE321.out) | exact HB.out)))); have n1_ := Aside0.mk (blk_below (g := gb321) (o := .cells #[.int .u32 3, .int .u32 0] 34 (0, 0)) (by (with_reducible repeat (first | refine blk_drewN ?_ _ | refine blk_drew ?_ | refine blk_alloc ?_ _)); refine blk_put (cs := #[.int .u32 3, .int .u32 0]) ?_ 1 _ rfl; (with_reducible repeat (first | refine blk_drewN ?_ _ | refine blk_drew ?_ | refine blk_alloc ?_ _)); refine blk_put (cs := #[.int .u32 0, .int .u32 0]) ?_ 0 _ rfl; (with_reducible repeat (first | refine blk_drewN ?_ _ | refine blk_drew ?_ | refine blk_alloc ?_ _)); exact BK321.out) hb); have n2_ := Aside0.mk (below_step (by repeat (first | (with_reducible first | exact HB.out | apply below_alloc | apply pw_below_drewN | apply below_drew1 | refine below_set ?_ GE321.out) | exact HB.out)) hb); clear BK321; clear HB; have HO324 := n0_; have BK321 := n1_; have HB := n2_; clear n0_ n1_ n2_; clear hb ho32; obtain ⟨Ao33, co33, eo33⟩ := Kd.R_slice HO324.out; subst eo33) | ((with_reducible refine gate_dst (N := 10) rfl ?_); (try (refine gate_guard (by rfl) ?_; dsimp only)); refine Kd.R_lit (Kd.int .i64) _ 3 ?hg (N := 10) ?hd (xs := ([1, 2] : List Int)) (inner := [.int .i64 1, .int .i64 2]) (ok := fun _ => True) (okp := fun _ => True) ?hr ?hp (fun _ hk => hk) trivial (Below.refl _ _) (Nat.le_refl _) (by simp) ?_; (case hd => rfl); (case hg => rfl); (case hr => first | (go_simp; done) | (go_simp; rfl)); (case hp => exact (Reps.one (show Kd.M (Kd.int .i64) _ _ _ 1 [.int .i64 1] from rfl) (Reps.one (show Kd.M (Kd.int .i64) _ _ _ 2 [.int .i64 2] from rfl) (Reps.none _ _)))); intro v326 w34 ho35 hb hg_ hnew_; clear hg_ hnew_; (first | rw [← Ny325.out] at ho35 | (simp only [Int.reduceToNat] at ho35; rw [← Ny325.out] at ho35)); have n0_ := Aside0.mk (Kd.R_elder' (by (with_reducible repeat (first | apply Kd.R_alloc | apply Kd.R_drewN | apply Kd.R_drew)); exact HO324.out) (Kd.R_base ho35) hb); have n1_ := Aside0.mk (Kd.R_lower (Kd.R_new' ho35 (Kd.R_lt (by (with_reducible repeat (first | apply Kd.R_alloc | apply Kd.R_drewN | apply Kd.R_drew)); exact HO324.out))) (below_size (by repeat (first | (with_reducible first | exact HB.out | apply below_alloc | apply pw_below_drewN | apply below_drew1 | refine below_set ?_ GE321.out) | exact HB.out)))); have n2_ := Aside0.mk (blk_below (g := gb321) (o := .cells #[.int .u32 3, .int .u32 0] 34 (0, 0)) (by (with_reducible repeat (first | refine blk_drewN ?_ _ | refine blk_drew ?_ | refine blk_alloc ?_ _)); exact BK321.out) hb); have n3_ := Aside0.mk (below_step (by repeat (first | (with_reducible first | exact HB.out | apply below_alloc | apply pw_below_drewN | apply below_drew1 | refine below_set ?_ GE321.out) | exact HB.out)) hb); clear HO324; clear BK321; clear HB; have HO324 := n0_; have HO327 := n1_; have BK321 := n2_; have HB := n3_; clear n0_ n1_ n2_ n3_; clear hb ho35; obtain ⟨Ao36, co36, eo36⟩ := Kd.R_slice HO327.out; subst eo36) | ((with_reducible refine gate_dst (N := 12) rfl ?_); (try (refine gate_guard (by rfl) ?_; dsimp only)); refine Kd.R_lit (Kd.int .i64) _ 3 ?hg (N := 12) ?hd (xs := ([4] : List Int)) (inner := [.int .i64 4]) (ok := fun _ => True) (okp := fun _ => True) ?hr ?hp (fun _ hk => hk) trivial (Below.refl _ _) (Nat.le_refl _) (by simp) ?_; (case hd => rfl); (case hg => rfl); (case hr => first | (go_simp; done) | (go_simp; rfl)); (case hp => exact (Reps.one (show Kd.M (Kd.int .i64) _ _ _ 4 [.int .i64 4] from rfl) (Reps.none _ _))); intro v329 w37 ho38 hb hg_ hnew_; clear hg_ hnew_; (first | rw [← Ny328.out] at ho38 | (simp only [Int.reduceToNat] at ho38; rw [← Ny328.out] at ho38)); have n0_ := Aside0.mk (Kd.R_elder' (by (with_reducible repeat (first | apply Kd.R_alloc | apply Kd.R_drewN | apply Kd.R_drew)); exact HO324.out) (Kd.R_base ho38) hb); have n1_ := Aside0.mk (Kd.R_elder' (by (with_reducible repeat (first | apply Kd.R_alloc | apply Kd.R_drewN | apply Kd.R_drew)); exact HO327.out) (Kd.R_base ho38) hb); have n2_ := Aside0.mk (Kd.R_lower (Kd.R_new' (Kd.R_new' ho38 (Kd.R_lt (by (with_reducible repeat (first | apply Kd.R_alloc | apply Kd.R_drewN | apply Kd.R_drew)); exact HO324.out))) (Kd.R_lt (by (with_reducible repeat (first | apply Kd.R_alloc | apply Kd.R_drewN | apply Kd.R_drew)); exact HO327.out))) (below_size (by repeat (first | (with_reducible first | exact HB.out | apply below_alloc | apply pw_below_drewN | apply below_drew1 | refine below_set ?_ GE321.out) | exact HB.out)))); have n3_ := Aside0.mk (blk_below (g := gb321) (o := .cells #[.int .u32 3, .int .u32 0] 34 (0, 0)) (by (with_reducible repeat (first | refine blk_drewN ?_ _ | refine blk_drew ?_ | refine blk_alloc ?_ _)); exact BK321.out) hb); have n4_ := Aside0.mk (below_step (by repeat (first | (with_reducible first | exact HB.out | apply below_alloc | apply pw_below_drewN | apply below_drew1 | refine below_set ?_ GE321.out) | exact HB.out)) hb); clear HO324; clear HO327; clear BK321; clear HB; have HO324 := n0_; have HO327 := n1_; have HO330 := n2_; have BK321 := n3_; have HB := n4_; clear n0_ n1_ n2_ n3_ n4_; clear hb ho38; obtain ⟨Ao39, co39, eo39⟩ := Kd.R_slice HO330.out; subst eo39) | ((with_reducible refine gate_dst (N := 14) rfl ?_); (try (refine gate_guard (by rfl) ?_; dsimp only)); refine Kd.N_lit k90 _ 90 ?hg (N' := 14) ?hd (xs := ([(⟨y322, (⟨(⟨0, 0⟩ : S86), 0⟩ : S88), 0, false⟩ : S90), (⟨y325, (⟨(⟨0, 0⟩ : S86), 0⟩ : S88), 0, false⟩ : S90), (⟨y328, (⟨(⟨0, 0⟩ : S86), 0⟩ : S88), 0, false⟩ : S90)] : List (S90))) (inner := [.slice Ao33 y322.length co33, .int .u64 0, .int .u64 0, .int .u64 0, .int .u64 0, .bool false, .slice Ao36 y325.length co36, .int .u64 0, .int .u64 0, .int .u64 0, .int .u64 0, .bool false, .slice Ao39 y328.length co39, .int .u64 0, .int .u64 0, .int .u64 0, .int .u64 0, .bool false]) (ok := (fun k_ => k_ ≠ gb321)) (okp := (fun k_ => k_ ≠ gb321)) ?hr ?hp (fun _ hk => hk) ((show ∀ k_, w37.heap.size ≤ k_ → (fun k_ => k_ ≠ gb321) k_ from fun k_ hk => Kd.freshB (g := gb321) (o := .cells #[.int .u32 3, .int .u32 0] 34 (0, 0)) (by (with_reducible repeat (first | refine blk_drewN ?_ _ | refine blk_drew ?_ | refine blk_alloc ?_ _)); exact BK321.out) k_ hk) _ (Nat.le_refl _)) (Below.refl _ _) (Nat.le_refl _) (by simp) ?_; (case hd => rfl); (case hg => rfl); (case hr => first | (go_simp; done) | (go_simp; rfl)); (case hp => exact (Reps.c6 (show Kd.FK k90 _ _ (⟨y322, (⟨(⟨0, 0⟩ : S86), 0⟩ : S88), 0, false⟩ : S90) [.slice Ao33 y322.length co33, .int .u64 0, .int .u64 0, .int .u64 0, .int .u64 0, .bool false] from (k90_mkF _ _ (⟨y322, (⟨(⟨0, 0⟩ : S86), 0⟩ : S88), 0, false⟩ : S90) (Kd.R_reads' (Kd.R_mono (ok' := (fun k_ => k_ ≠ gb321)) (Kd.R_types (HO324.out) BK321.out (by decide)) (fun k_ hk => hk.2))).2.1 (Kd.R_F (Kd.R_mono (ok' := (fun k_ => k_ ≠ gb321)) (Kd.R_types (HO324.out) BK321.out (by decide)) (fun k_ hk => hk.2))))) (Reps.c6 (show Kd.FK k90 _ _ (⟨y325, (⟨(⟨0, 0⟩ : S86), 0⟩ : S88), 0, false⟩ : S90) [.slice Ao36 y325.length co36, .int .u64 0, .int .u64 0, .int .u64 0, .int .u64 0, .bool false] from (k90_mkF _ _ (⟨y325, (⟨(⟨0, 0⟩ : S86), 0⟩ : S88), 0, false⟩ : S90) (Kd.R_reads' (Kd.R_mono (ok' := (fun k_ => k_ ≠ gb321)) (Kd.R_types (HO327.out) BK321.out (by decide)) (fun k_ hk => hk.2))).2.1 (Kd.R_F (Kd.R_mono (ok' := (fun k_ => k_ ≠ gb321)) (Kd.R_types (HO327.out) BK321.out (by decide)) (fun k_ hk => hk.2))))) (Reps.c6 (show Kd.FK k90 _ _ (⟨y328, (⟨(⟨0, 0⟩ : S86), 0⟩ : S88), 0, false⟩ : S90) [.slice Ao39 y328.length co39, .int .u64 0, .int .u64 0, .int .u64 0, .int .u64 0, .bool false] from (k90_mkF _ _ (⟨y328, (⟨(⟨0, 0⟩ : S86), 0⟩ : S88), 0, false⟩ : S90) (Kd.R_reads' (Kd.R_mono (ok' := (fun k_ => k_ ≠ gb321)) (Kd.R_types (HO330.out) BK321.out (by decide)) (fun k_ hk => hk.2))).2.1 (Kd.R_F (Kd.R_mono (ok' := (fun k_ => k_ ≠ gb321)) (Kd.R_types (HO330.out) BK321.out (by decide)) (fun k_ hk => hk.2))))) (Reps.none _ _))))); intro v332 w40 ho41 hb hg_ hnew_; clear hg_ hnew_; (first | rw [← Ny331.out] at ho41 | (simp only [Int.reduceToNat] at ho41; rw [← Ny331.out] at ho41)); have n0_ := Aside0.mk (Kd.N_lower ho41 (below_size (by repeat (first | (with_reducible first | exact HB.out | apply below_alloc | apply pw_below_drewN | apply below_drew1 | refine below_set ?_ GE321.out) | exact HB.out)))); have n1_ := Aside0.mk (blk_below (g := gb321) (o := .cells #[.int .u32 3, .int .u32 0] 34 (0, 0)) (by (with_reducible repeat (first | refine blk_drewN ?_ _ | refine blk_drew ?_ | refine blk_alloc ?_ _)); exact BK321.out) hb); have n2_ := Aside0.mk (below_step (by repeat (first | (with_reducible first | exact HB.out | apply below_alloc | apply pw_below_drewN | apply below_drew1 | refine below_set ?_ GE321.out) | exact HB.out)) hb); clear BK321; clear HB; clear HO324; clear HO327; clear HO330; have HO333 := n0_; have BK321 := n1_; have HB := n2_; clear n0_ n1_ n2_; clear hb ho41; have hcz42_0 : w40.cell? ⟨gb321, 0, none⟩ = some (.int .u32 3) := (blk_cell BK321.out 0).trans rfl; have hcz42_1 : w40.cell? ⟨gb321, 1, none⟩ = some (.int .u32 0) := (blk_cell BK321.out 1).trans rfl; have hfz42_0 := blk_frozen BK321.out 0; have hfz42_1 := blk_frozen BK321.out 1) | ((with_reducible refine gate_dst (N := 23) rfl ?_); (try (refine gate_guard (by rfl) ?_; dsimp only)); refine Kd.R_lit k36 _ 36 ?hg (N := 23) ?hd (xs := ([(⟨1, (-1), (⟨3, 0⟩ : S34)⟩ : S36), (⟨2, (-1), (⟨3, 0⟩ : S34)⟩ : S36), (⟨3, 1, (⟨3, 0⟩ : S34)⟩ : S36), (⟨4, (-1), (⟨3, 0⟩ : S34)⟩ : S36)] : List (S36))) (inner := [.int .i64 1, .int .i64 (-1), .int .u32 3, .int .u32 0, .int .i64 2, .int .i64 (-1), .int .u32 3, .int .u32 0, .int .i64 3, .int .i64 1, .int .u32 3, .int .u32 0, .int .i64 4, .int .i64 (-1), .int .u32 3, .int .u32 0]) (ok := fun _ => True) (okp := fun _ => True) ?hr ?hp (fun _ hk => hk) trivial (Below.refl _ _) (Nat.le_refl _) (by simp) ?_; (case hd => rfl); (case hg => rfl); (case hr => first | (go_simp; done) | (go_simp; rfl)); (case hp => exact (Reps.c4 (show Kd.M k36 _ _ _ (⟨1, (-1), (⟨3, 0⟩ : S34)⟩ : S36) [.int .i64 1, .int .i64 (-1), .int .u32 3, .int .u32 0] from (k36_mkM _ _ _ (⟨1, (-1), (⟨3, 0⟩ : S34)⟩ : S36) )) (Reps.c4 (show Kd.M k36 _ _ _ (⟨2, (-1), (⟨3, 0⟩ : S34)⟩ : S36) [.int .i64 2, .int .i64 (-1), .int .u32 3, .int .u32 0] from (k36_mkM _ _ _ (⟨2, (-1), (⟨3, 0⟩ : S34)⟩ : S36) )) (Reps.c4 (show Kd.M k36 _ _ _ (⟨3, 1, (⟨3, 0⟩ : S34)⟩ : S36) [.int .i64 3, .int .i64 1, .int .u32 3, .int .u32 0] from (k36_mkM _ _ _ (⟨3, 1, (⟨3, 0⟩ : S34)⟩ : S36) )) (Reps.c4 (show Kd.M k36 _ _ _ (⟨4, (-1), (⟨3, 0⟩ : S34)⟩ : S36) [.int .i64 4, .int .i64 (-1), .int .u32 3, .int .u32 0] from (k36_mkM _ _ _ (⟨4, (-1), (⟨3, 0⟩ : S34)⟩ : S36) )) (Reps.none _ _)))))); intro v335 w43 ho44 hb hg_ hnew_; clear hg_ hnew_; (first | rw [← Ny334.out] at ho44 | (simp only [Int.reduceToNat] at ho44; rw [← Ny334.out] at ho44)); have n0_ := Aside0.mk (Kd.N_elder' (by (with_reducible repeat (first | apply Kd.N_alloc | apply Kd.N_drewN | apply Kd.N_drew)); exact HO333.out) (Kd.R_base ho44) hb); have n1_ := Aside0.mk (Kd.R_lower ho44 (below_size (by repeat (first | (with_reducible first | exact HB.out | apply below_alloc | apply pw_below_drewN | apply below_drew1 | refine below_set ?_ GE321.out) | exact HB.out)))); have n2_ := Aside0.mk (blk_below (g := gb321) (o := .cells #[.int .u32 3, .int .u32 0] 34 (0, 0)) (by (with_reducible repeat (first | refine blk_drewN ?_ _ | refine blk_drew ?_ | refine blk_alloc ?_ _)); exact BK321.out) hb); have n3_ := Aside0.mk (below_step (by repeat (first | (with_reducible first | exact HB.out | apply below_alloc | apply pw_below_drewN | apply below_drew1 | refine below_set ?_ GE321.out) | exact HB.out)) hb); clear HO333; clear BK321; clear HB; have HO333 := n0_; have HO336 := n1_; have BK321 := n2_; have HB := n3_; clear n0_ n1_ n2_ n3_; clear hb ho44; obtain ⟨Ao45, co45, eo45⟩ := Kd.N_slice HO333.out; subst eo45; obtain ⟨Ao46, co46, eo46⟩ := Kd.R_slice HO336.out; subst eo46) | ((with_reducible refine gate_callee (f := 20) rfl ?_); refine goesL_ (some 27) rfl rfl Tryd.func20 (by kernel_rfl) rfl #[.slice Ao45 y331.length co45, .slice Ao46 y334.length co46, .int .u32 3] rfl (by (try simp only [List.map_toArray, List.map_cons, List.map_nil]); first | done | rfl | (simp only [List.length_drop, List.length_take]; rfl)) ?_; (with_reducible refine (pick_Pick.calls _ _ y331 _ _ y334 3 t337 t338 t339 _ ?side1 ?side2 ?side3 ?side4 ?tb A1.out).mono ?_); (case tb => exact HT.out.step (by repeat (first | (with_reducible first | exact HB.out | apply below_alloc | apply pw_below_drewN | apply below_drew1 | refine below_set ?_ GE321.out) | exact HB.out))); (case side1 => repeat (first | exact (Kd.N_reads' HO333.out).2.2 | (with_reducible refine Kd.C_alloc ?_ _) | (with_reducible refine Kd.C_drewN ?_ _) | (with_reducible refine Kd.C_drew ?_))); (case side2 => exact (Kd.N_reads' HO333.out).2.1); (case side3 => repeat (first | exact (Kd.R_reads' HO336.out).2.2 | (with_reducible refine Kd.C_alloc ?_ _) | (with_reducible refine Kd.C_drewN ?_ _) | (with_reducible refine Kd.C_drew ?_))); (case side4 => exact (Kd.R_reads' HO336.out).2.1); rintro e w47 ⟨v340, v342, rfl, ho0, ho1, hb⟩; refine ⟨_, rfl, ?_⟩; have n0_ := Aside0.mk (Kd.N_mono (Kd.N_told (Kd.N_told (Kd.N_old (by (with_reducible repeat (first | apply Kd.N_alloc | apply Kd.N_drewN | apply Kd.N_drew)); exact HO333.out) hb) (Kd.R_base ho0)) (Kd.R_base ho1)) (fun _ h_ => h_.1)); have n1_ := Aside0.mk (Kd.R_below (by (with_reducible repeat (first | apply Kd.R_alloc | apply Kd.R_drewN | apply Kd.R_drew)); exact HO336.out) hb); have n2_ := Aside0.mk (Kd.R_lower ho0 (below_size (by repeat (first | (with_reducible first | exact HB.out | apply below_alloc | apply pw_below_drewN | apply below_drew1 | refine below_set ?_ GE321.out) | exact HB.out)))); have n3_ := Aside0.mk (Kd.R_lower ho1 (below_size (by repeat (first | (with_reducible first | exact HB.out | apply below_alloc | apply pw_below_drewN | apply below_drew1 | refine below_set ?_ GE321.out) | exact HB.out)))); have n4_ := Aside0.mk (blk_below (g := gb321) (o := .cells #[.int .u32 3, .int .u32 0] 34 (0, 0)) (by (with_reducible repeat (first | refine blk_drewN ?_ _ | refine blk_drew ?_ | refine blk_alloc ?_ _)); exact BK321.out) hb); have n5_ := Aside0.mk (below_step (by repeat (first | (with_reducible first | exact HB.out | apply below_alloc | apply pw_below_drewN | apply below_drew1 | refine below_set ?_ GE321.out) | exact HB.out)) hb); clear HO333; clear HO336; clear BK321; clear HB; have HO333 := n0_; have HO336 := n1_; have HO341 := n2_; have HO343 := n3_; have BK321 := n4_; have HB := n5_; clear n0_ n1_ n2_ n3_ n4_ n5_; (try clear hb); (try clear hb2); (try clear hk); (try clear hi); (try clear ho0); (try clear ho1); obtain ⟨Ao48, co48, eo48⟩ := Kd.R_slice HO341.out; subst eo48; have p344 : 0 ≤ (0 : Int) := (by omega); have q344 : 0 < (t337.length : Int) := of_decide_eq_true (by first | (with_reducible assumption) | assumption); obtain ⟨ad344, e344, hx344_0, hx344_1⟩ := at_T31 (Kd.R_reads' HO341.out).2.2 0 p344 q344; cases e344; have qi344 : (0 < t337.length) = True := eq_true (by omega); (try rw [show ((0 : Int)).toNat = 0 from rfl] at hx344_0); (try rw [show 0 * 2 = 0 from rfl] at hx344_0); (try rw [Addr.add_zero'] at hx344_0); (try rw [show ((0 : Int)).toNat = 0 from rfl] at hx344_1); (try rw [show 0 * 2 = 0 from rfl] at hx344_1); (try rw [Addr.add_zero'] at hx344_1); replace p344 := eq_true p344; replace q344 := eq_true q344; have p345 : 0 ≤ (1 : Int) := (by omega); have q345 : 1 < (t337.length : Int) := of_decide_eq_true (by first | (with_reducible assumption) | assumption); obtain ⟨ad345, e345, hx345_0, hx345_1⟩ := at_T31 (Kd.R_reads' HO341.out).2.2 1 p345 q345; obtain rfl : ad344 = ad345 := (by injection e345); (try simp only [show (1 : Int).toNat = 1 from rfl, Nat.reduceMul, Nat.reduceEqDiff, Go.Addr.add, ↓reduceIte] at hx345_0); (try simp only [show (1 : Int).toNat = 1 from rfl, Nat.reduceMul, Nat.reduceEqDiff, Go.Addr.add, ↓reduceIte] at hx345_1); have qi345 : (1 < t337.length) = True := eq_true (by omega); (try rw [show ((1 : Int)).toNat = 1 from rfl] at hx345_0); (try rw [show 1 * 2 = 2 from rfl] at hx345_0); (try rw [show ((1 : Int)).toNat = 1 from rfl] at hx345_1); (try rw [show 1 * 2 = 2 from rfl] at hx345_1); replace p345 := eq_true p345; replace q345 := eq_true q345))
       go_ret
       exact ⟨by first | rfl | (simp [errW_none, errW_some] <;> rfl) | (simp [*, errW_none, errW_some] <;> rfl), by repeat (first | (with_reducible first | exact HB.out | apply below_alloc | apply pw_below_drewN | apply below_drew1 | refine below_set ?_ GE321.out) | exact HB.out)⟩
     ·rw [if_neg c6] at H
      exact absurd H (by simp)
    ·rw [if_neg c5] at H
     have c5b0 : (((rd_T31 t337 0).f0) == 3 && (((rd_T31 t337 0).f1) == 1)) = false := by simpa using c5
     (try (have c5b1 : decide (((rd_T31 t337 0).f0) = 3 && (((rd_T31 t337 0).f1) == 1)) = false := by simpa using c5))
     (try (have c5b2 : (((rd_T31 t337 0).f0) == 3 && (((rd_T31 t337 0).f1) == 1)) = false := by simpa using c5))
     (try (have c5b3 : ¬ (((rd_T31 t337 0).f0) = 3 && (((rd_T31 t337 0).f1) == 1)) := by simpa using c5))
     clear c5
     obtain rfl := Option.some.inj H
     go_enter Tryd.func18, Tryd.ntmps18
     go_wp2_with (first | ((with_reducible refine gate_dst (N := 1) rfl ?_); (try (refine gate_guard (by rfl) ?_; dsimp only)); refine box_event ?hg (N := 1) ?hd (cs := #[.int .u32 0, .int .u32 0]) (t := 34) ?hr ?_; (case hd => rfl); (case hg => rfl); (case hr => first | (go_simp; done) | (go_simp; rfl)); intro gb321 hg w49 hbox hb; have n0_ := Aside0.mk (below_step (by repeat (first | (with_reducible first | exact HB.out | apply below_alloc | apply pw_below_drewN | apply below_drew1) | exact HB.out)) hb); have n1_ := Aside0.mk (hbox); have n2_ := Aside0.mk ((by rw [hg]; exact (below_size (by repeat (first | (with_reducible first | exact HB.out | apply below_alloc | apply pw_below_drewN | apply below_drew1) | exact HB.out))) : w.heap.size ≤ gb321)); have n3_ := Aside0.mk ((by rw [hg]; exact (below_size (by repeat (first | (with_reducible first | exact HB.out | apply below_alloc | apply pw_below_drewN | apply below_drew1) | exact HB.out))) : w.heap.size ≤ gb321)); clear HB; have HB := n0_; have BK321 := n1_; have GW321 := n2_; have GE321 := n3_; clear n0_ n1_ n2_ n3_; clear hb hbox hg; have hcz50_0 : w49.cell? ⟨gb321, 0, none⟩ = some (.int .u32 0) := (blk_cell BK321.out 0).trans rfl; have hcz50_1 : w49.cell? ⟨gb321, 1, none⟩ = some (.int .u32 0) := (blk_cell BK321.out 1).trans rfl; have hfz50_0 := blk_frozen BK321.out 0; have hfz50_1 := blk_frozen BK321.out 1) | ((with_reducible refine gate_dst (N := 8) rfl ?_); (try (refine gate_guard (by rfl) ?_; dsimp only)); refine Kd.R_lit (Kd.int .i64) _ 3 ?hg (N := 8) ?hd (xs := ([3] : List Int)) (inner := [.int .i64 3]) (ok := fun _ => True) (okp := fun _ => True) ?hr ?hp (fun _ hk => hk) trivial (Below.refl _ _) (Nat.le_refl _) (by simp) ?_; (case hd => rfl); (case hg => rfl); (case hr => first | (go_simp; done) | (go_simp; rfl)); (case hp => exact (Reps.one (show Kd.M (Kd.int .i64) _ _ _ 3 [.int .i64 3] from rfl) (Reps.none _ _))); intro v323 w51 ho52 hb hg_ hnew_; clear hg_ hnew_; (first | rw [← Ny322.out] at ho52 | (simp only [Int.reduceToNat] at ho52; rw [← Ny322.out] at ho52)); have n0_ := Aside0.mk (Kd.R_lower ho52 (below_size (by repeat (first | (with_reducible first | exact HB.out | apply below_alloc | apply pw_below_drewN | apply below_drew1 | refine below_set ?_ GE321.out) | exact HB.out)))); have n1_ := Aside0.mk (blk_below (g := gb321) (o := .cells #[.int .u32 3, .int .u32 0] 34 (0, 0)) (by (with_reducible repeat (first | refine blk_drewN ?_ _ | refine blk_drew ?_ | refine blk_alloc ?_ _)); refine blk_put (cs := #[.int .u32 3, .int .u32 0]) ?_ 1 _ rfl; (with_reducible repeat (first | refine blk_drewN ?_ _ | refine blk_drew ?_ | refine blk_alloc ?_ _)); refine blk_put (cs := #[.int .u32 0, .int .u32 0]) ?_ 0 _ rfl; (with_reducible repeat (first | refine blk_drewN ?_ _ | refine blk_drew ?_ | refine blk_alloc ?_ _)); exact BK321.out) hb); have n2_ := Aside0.mk (below_step (by repeat (first | (with_reducible first | exact HB.out | apply below_alloc | apply pw_below_drewN | apply below_drew1 | refine below_set ?_ GE321.out) | exact HB.out)) hb); clear BK321; clear HB; have HO324 := n0_; have BK321 := n1_; have HB := n2_; clear n0_ n1_ n2_; clear hb ho52; obtain ⟨Ao53, co53, eo53⟩ := Kd.R_slice HO324.out; subst eo53) | ((with_reducible refine gate_dst (N := 10) rfl ?_); (try (refine gate_guard (by rfl) ?_; dsimp only)); refine Kd.R_lit (Kd.int .i64) _ 3 ?hg (N := 10) ?hd (xs := ([1, 2] : List Int)) (inner := [.int .i64 1, .int .i64 2]) (ok := fun _ => True) (okp := fun _ => True) ?hr ?hp (fun _ hk => hk) trivial (Below.refl _ _) (Nat.le_refl _) (by simp) ?_; (case hd => rfl); (case hg => rfl); (case hr => first | (go_simp; done) | (go_simp; rfl)); (case hp => exact (Reps.one (show Kd.M (Kd.int .i64) _ _ _ 1 [.int .i64 1] from rfl) (Reps.one (show Kd.M (Kd.int .i64) _ _ _ 2 [.int .i64 2] from rfl) (Reps.none _ _)))); intro v326 w54 ho55 hb hg_ hnew_; clear hg_ hnew_; (first | rw [← Ny325.out] at ho55 | (simp only [Int.reduceToNat] at ho55; rw [← Ny325.out] at ho55)); have n0_ := Aside0.mk (Kd.R_elder' (by (with_reducible repeat (first | apply Kd.R_alloc | apply Kd.R_drewN | apply Kd.R_drew)); exact HO324.out) (Kd.R_base ho55) hb); have n1_ := Aside0.mk (Kd.R_lower (Kd.R_new' ho55 (Kd.R_lt (by (with_reducible repeat (first | apply Kd.R_alloc | apply Kd.R_drewN | apply Kd.R_drew)); exact HO324.out))) (below_size (by repeat (first | (with_reducible first | exact HB.out | apply below_alloc | apply pw_below_drewN | apply below_drew1 | refine below_set ?_ GE321.out) | exact HB.out)))); have n2_ := Aside0.mk (blk_below (g := gb321) (o := .cells #[.int .u32 3, .int .u32 0] 34 (0, 0)) (by (with_reducible repeat (first | refine blk_drewN ?_ _ | refine blk_drew ?_ | refine blk_alloc ?_ _)); exact BK321.out) hb); have n3_ := Aside0.mk (below_step (by repeat (first | (with_reducible first | exact HB.out | apply below_alloc | apply pw_below_drewN | apply below_drew1 | refine below_set ?_ GE321.out) | exact HB.out)) hb); clear HO324; clear BK321; clear HB; have HO324 := n0_; have HO327 := n1_; have BK321 := n2_; have HB := n3_; clear n0_ n1_ n2_ n3_; clear hb ho55; obtain ⟨Ao56, co56, eo56⟩ := Kd.R_slice HO327.out; subst eo56) | ((with_reducible refine gate_dst (N := 12) rfl ?_); (try (refine gate_guard (by rfl) ?_; dsimp only)); refine Kd.R_lit (Kd.int .i64) _ 3 ?hg (N := 12) ?hd (xs := ([4] : List Int)) (inner := [.int .i64 4]) (ok := fun _ => True) (okp := fun _ => True) ?hr ?hp (fun _ hk => hk) trivial (Below.refl _ _) (Nat.le_refl _) (by simp) ?_; (case hd => rfl); (case hg => rfl); (case hr => first | (go_simp; done) | (go_simp; rfl)); (case hp => exact (Reps.one (show Kd.M (Kd.int .i64) _ _ _ 4 [.int .i64 4] from rfl) (Reps.none _ _))); intro v329 w57 ho58 hb hg_ hnew_; clear hg_ hnew_; (first | rw [← Ny328.out] at ho58 | (simp only [Int.reduceToNat] at ho58; rw [← Ny328.out] at ho58)); have n0_ := Aside0.mk (Kd.R_elder' (by (with_reducible repeat (first | apply Kd.R_alloc | apply Kd.R_drewN | apply Kd.R_drew)); exact HO324.out) (Kd.R_base ho58) hb); have n1_ := Aside0.mk (Kd.R_elder' (by (with_reducible repeat (first | apply Kd.R_alloc | apply Kd.R_drewN | apply Kd.R_drew)); exact HO327.out) (Kd.R_base ho58) hb); have n2_ := Aside0.mk (Kd.R_lower (Kd.R_new' (Kd.R_new' ho58 (Kd.R_lt (by (with_reducible repeat (first | apply Kd.R_alloc | apply Kd.R_drewN | apply Kd.R_drew)); exact HO324.out))) (Kd.R_lt (by (with_reducible repeat (first | apply Kd.R_alloc | apply Kd.R_drewN | apply Kd.R_drew)); exact HO327.out))) (below_size (by repeat (first | (with_reducible first | exact HB.out | apply below_alloc | apply pw_below_drewN | apply below_drew1 | refine below_set ?_ GE321.out) | exact HB.out)))); have n3_ := Aside0.mk (blk_below (g := gb321) (o := .cells #[.int .u32 3, .int .u32 0] 34 (0, 0)) (by (with_reducible repeat (first | refine blk_drewN ?_ _ | refine blk_drew ?_ | refine blk_alloc ?_ _)); exact BK321.out) hb); have n4_ := Aside0.mk (below_step (by repeat (first | (with_reducible first | exact HB.out | apply below_alloc | apply pw_below_drewN | apply below_drew1 | refine below_set ?_ GE321.out) | exact HB.out)) hb); clear HO324; clear HO327; clear BK321; clear HB; have HO324 := n0_; have HO327 := n1_; have HO330 := n2_; have BK321 := n3_; have HB := n4_; clear n0_ n1_ n2_ n3_ n4_; clear hb ho58; obtain ⟨Ao59, co59, eo59⟩ := Kd.R_slice HO330.out; subst eo59) | ((with_reducible refine gate_dst (N := 14) rfl ?_); (try (refine gate_guard (by rfl) ?_; dsimp only)); refine Kd.N_lit k90 _ 90 ?hg (N' := 14) ?hd (xs := ([(⟨y322, (⟨(⟨0, 0⟩ : S86), 0⟩ : S88), 0, false⟩ : S90), (⟨y325, (⟨(⟨0, 0⟩ : S86), 0⟩ : S88), 0, false⟩ : S90), (⟨y328, (⟨(⟨0, 0⟩ : S86), 0⟩ : S88), 0, false⟩ : S90)] : List (S90))) (inner := [.slice Ao53 y322.length co53, .int .u64 0, .int .u64 0, .int .u64 0, .int .u64 0, .bool false, .slice Ao56 y325.length co56, .int .u64 0, .int .u64 0, .int .u64 0, .int .u64 0, .bool false, .slice Ao59 y328.length co59, .int .u64 0, .int .u64 0, .int .u64 0, .int .u64 0, .bool false]) (ok := (fun k_ => k_ ≠ gb321)) (okp := (fun k_ => k_ ≠ gb321)) ?hr ?hp (fun _ hk => hk) ((show ∀ k_, w57.heap.size ≤ k_ → (fun k_ => k_ ≠ gb321) k_ from fun k_ hk => Kd.freshB (g := gb321) (o := .cells #[.int .u32 3, .int .u32 0] 34 (0, 0)) (by (with_reducible repeat (first | refine blk_drewN ?_ _ | refine blk_drew ?_ | refine blk_alloc ?_ _)); exact BK321.out) k_ hk) _ (Nat.le_refl _)) (Below.refl _ _) (Nat.le_refl _) (by simp) ?_; (case hd => rfl); (case hg => rfl); (case hr => first | (go_simp; done) | (go_simp; rfl)); (case hp => exact (Reps.c6 (show Kd.FK k90 _ _ (⟨y322, (⟨(⟨0, 0⟩ : S86), 0⟩ : S88), 0, false⟩ : S90) [.slice Ao53 y322.length co53, .int .u64 0, .int .u64 0, .int .u64 0, .int .u64 0, .bool false] from (k90_mkF _ _ (⟨y322, (⟨(⟨0, 0⟩ : S86), 0⟩ : S88), 0, false⟩ : S90) (Kd.R_reads' (Kd.R_mono (ok' := (fun k_ => k_ ≠ gb321)) (Kd.R_types (HO324.out) BK321.out (by decide)) (fun k_ hk => hk.2))).2.1 (Kd.R_F (Kd.R_mono (ok' := (fun k_ => k_ ≠ gb321)) (Kd.R_types (HO324.out) BK321.out (by decide)) (fun k_ hk => hk.2))))) (Reps.c6 (show Kd.FK k90 _ _ (⟨y325, (⟨(⟨0, 0⟩ : S86), 0⟩ : S88), 0, false⟩ : S90) [.slice Ao56 y325.length co56, .int .u64 0, .int .u64 0, .int .u64 0, .int .u64 0, .bool false] from (k90_mkF _ _ (⟨y325, (⟨(⟨0, 0⟩ : S86), 0⟩ : S88), 0, false⟩ : S90) (Kd.R_reads' (Kd.R_mono (ok' := (fun k_ => k_ ≠ gb321)) (Kd.R_types (HO327.out) BK321.out (by decide)) (fun k_ hk => hk.2))).2.1 (Kd.R_F (Kd.R_mono (ok' := (fun k_ => k_ ≠ gb321)) (Kd.R_types (HO327.out) BK321.out (by decide)) (fun k_ hk => hk.2))))) (Reps.c6 (show Kd.FK k90 _ _ (⟨y328, (⟨(⟨0, 0⟩ : S86), 0⟩ : S88), 0, false⟩ : S90) [.slice Ao59 y328.length co59, .int .u64 0, .int .u64 0, .int .u64 0, .int .u64 0, .bool false] from (k90_mkF _ _ (⟨y328, (⟨(⟨0, 0⟩ : S86), 0⟩ : S88), 0, false⟩ : S90) (Kd.R_reads' (Kd.R_mono (ok' := (fun k_ => k_ ≠ gb321)) (Kd.R_types (HO330.out) BK321.out (by decide)) (fun k_ hk => hk.2))).2.1 (Kd.R_F (Kd.R_mono (ok' := (fun k_ => k_ ≠ gb321)) (Kd.R_types (HO330.out) BK321.out (by decide)) (fun k_ hk => hk.2))))) (Reps.none _ _))))); intro v332 w60 ho61 hb hg_ hnew_; clear hg_ hnew_; (first | rw [← Ny331.out] at ho61 | (simp only [Int.reduceToNat] at ho61; rw [← Ny331.out] at ho61)); have n0_ := Aside0.mk (Kd.N_lower ho61 (below_size (by repeat (first | (with_reducible first | exact HB.out | apply below_alloc | apply pw_below_drewN | apply below_drew1 | refine below_set ?_ GE321.out) | exact HB.out)))); have n1_ := Aside0.mk (blk_below (g := gb321) (o := .cells #[.int .u32 3, .int .u32 0] 34 (0, 0)) (by (with_reducible repeat (first | refine blk_drewN ?_ _ | refine blk_drew ?_ | refine blk_alloc ?_ _)); exact BK321.out) hb); have n2_ := Aside0.mk (below_step (by repeat (first | (with_reducible first | exact HB.out | apply below_alloc | apply pw_below_drewN | apply below_drew1 | refine below_set ?_ GE321.out) | exact HB.out)) hb); clear BK321; clear HB; clear HO324; clear HO327; clear HO330; have HO333 := n0_; have BK321 := n1_; have HB := n2_; clear n0_ n1_ n2_; clear hb ho61; have hcz62_0 : w60.cell? ⟨gb321, 0, none⟩ = some (.int .u32 3) := (blk_cell BK321.out 0).trans rfl; have hcz62_1 : w60.cell? ⟨gb321, 1, none⟩ = some (.int .u32 0) := (blk_cell BK321.out 1).trans rfl; have hfz62_0 := blk_frozen BK321.out 0; have hfz62_1 := blk_frozen BK321.out 1) | ((with_reducible refine gate_dst (N := 23) rfl ?_); (try (refine gate_guard (by rfl) ?_; dsimp only)); refine Kd.R_lit k36 _ 36 ?hg (N := 23) ?hd (xs := ([(⟨1, (-1), (⟨3, 0⟩ : S34)⟩ : S36), (⟨2, (-1), (⟨3, 0⟩ : S34)⟩ : S36), (⟨3, 1, (⟨3, 0⟩ : S34)⟩ : S36), (⟨4, (-1), (⟨3, 0⟩ : S34)⟩ : S36)] : List (S36))) (inner := [.int .i64 1, .int .i64 (-1), .int .u32 3, .int .u32 0, .int .i64 2, .int .i64 (-1), .int .u32 3, .int .u32 0, .int .i64 3, .int .i64 1, .int .u32 3, .int .u32 0, .int .i64 4, .int .i64 (-1), .int .u32 3, .int .u32 0]) (ok := fun _ => True) (okp := fun _ => True) ?hr ?hp (fun _ hk => hk) trivial (Below.refl _ _) (Nat.le_refl _) (by simp) ?_; (case hd => rfl); (case hg => rfl); (case hr => first | (go_simp; done) | (go_simp; rfl)); (case hp => exact (Reps.c4 (show Kd.M k36 _ _ _ (⟨1, (-1), (⟨3, 0⟩ : S34)⟩ : S36) [.int .i64 1, .int .i64 (-1), .int .u32 3, .int .u32 0] from (k36_mkM _ _ _ (⟨1, (-1), (⟨3, 0⟩ : S34)⟩ : S36) )) (Reps.c4 (show Kd.M k36 _ _ _ (⟨2, (-1), (⟨3, 0⟩ : S34)⟩ : S36) [.int .i64 2, .int .i64 (-1), .int .u32 3, .int .u32 0] from (k36_mkM _ _ _ (⟨2, (-1), (⟨3, 0⟩ : S34)⟩ : S36) )) (Reps.c4 (show Kd.M k36 _ _ _ (⟨3, 1, (⟨3, 0⟩ : S34)⟩ : S36) [.int .i64 3, .int .i64 1, .int .u32 3, .int .u32 0] from (k36_mkM _ _ _ (⟨3, 1, (⟨3, 0⟩ : S34)⟩ : S36) )) (Reps.c4 (show Kd.M k36 _ _ _ (⟨4, (-1), (⟨3, 0⟩ : S34)⟩ : S36) [.int .i64 4, .int .i64 (-1), .int .u32 3, .int .u32 0] from (k36_mkM _ _ _ (⟨4, (-1), (⟨3, 0⟩ : S34)⟩ : S36) )) (Reps.none _ _)))))); intro v335 w63 ho64 hb hg_ hnew_; clear hg_ hnew_; (first | rw [← Ny334.out] at ho64 | (simp only [Int.reduceToNat] at ho64; rw [← Ny334.out] at ho64)); have n0_ := Aside0.mk (Kd.N_elder' (by (with_reducible repeat (first | apply Kd.N_alloc | apply Kd.N_drewN | apply Kd.N_drew)); exact HO333.out) (Kd.R_base ho64) hb); have n1_ := Aside0.mk (Kd.R_lower ho64 (below_size (by repeat (first | (with_reducible first | exact HB.out | apply below_alloc | apply pw_below_drewN | apply below_drew1 | refine below_set ?_ GE321.out) | exact HB.out)))); have n2_ := Aside0.mk (blk_below (g := gb321) (o := .cells #[.int .u32 3, .int .u32 0] 34 (0, 0)) (by (with_reducible repeat (first | refine blk_drewN ?_ _ | refine blk_drew ?_ | refine blk_alloc ?_ _)); exact BK321.out) hb); have n3_ := Aside0.mk (below_step (by repeat (first | (with_reducible first | exact HB.out | apply below_alloc | apply pw_below_drewN | apply below_drew1 | refine below_set ?_ GE321.out) | exact HB.out)) hb); clear HO333; clear BK321; clear HB; have HO333 := n0_; have HO336 := n1_; have BK321 := n2_; have HB := n3_; clear n0_ n1_ n2_ n3_; clear hb ho64; obtain ⟨Ao65, co65, eo65⟩ := Kd.N_slice HO333.out; subst eo65; obtain ⟨Ao66, co66, eo66⟩ := Kd.R_slice HO336.out; subst eo66) | ((with_reducible refine gate_callee (f := 20) rfl ?_); refine goesL_ (some 27) rfl rfl Tryd.func20 (by kernel_rfl) rfl #[.slice Ao65 y331.length co65, .slice Ao66 y334.length co66, .int .u32 3] rfl (by (try simp only [List.map_toArray, List.map_cons, List.map_nil]); first | done | rfl | (simp only [List.length_drop, List.length_take]; rfl)) ?_; (with_reducible refine (pick_Pick.calls _ _ y331 _ _ y334 3 t337 t338 t339 _ ?side1 ?side2 ?side3 ?side4 ?tb A1.out).mono ?_); (case tb => exact HT.out.step (by repeat (first | (with_reducible first | exact HB.out | apply below_alloc | apply pw_below_drewN | apply below_drew1 | refine below_set ?_ GE321.out) | exact HB.out))); (case side1 => repeat (first | exact (Kd.N_reads' HO333.out).2.2 | (with_reducible refine Kd.C_alloc ?_ _) | (with_reducible refine Kd.C_drewN ?_ _) | (with_reducible refine Kd.C_drew ?_))); (case side2 => exact (Kd.N_reads' HO333.out).2.1); (case side3 => repeat (first | exact (Kd.R_reads' HO336.out).2.2 | (with_reducible refine Kd.C_alloc ?_ _) | (with_reducible refine Kd.C_drewN ?_ _) | (with_reducible refine Kd.C_drew ?_))); (case side4 => exact (Kd.R_reads' HO336.out).2.1); rintro e w67 ⟨v340, v342, rfl, ho0, ho1, hb⟩; refine ⟨_, rfl, ?_⟩; have n0_ := Aside0.mk (Kd.N_mono (Kd.N_told (Kd.N_told (Kd.N_old (by (with_reducible repeat (first | apply Kd.N_alloc | apply Kd.N_drewN | apply Kd.N_drew)); exact HO333.out) hb) (Kd.R_base ho0)) (Kd.R_base ho1)) (fun _ h_ => h_.1)); have n1_ := Aside0.mk (Kd.R_below (by (with_reducible repeat (first | apply Kd.R_alloc | apply Kd.R_drewN | apply Kd.R_drew)); exact HO336.out) hb); have n2_ := Aside0.mk (Kd.R_lower ho0 (below_size (by repeat (first | (with_reducible first | exact HB.out | apply below_alloc | apply pw_below_drewN | apply below_drew1 | refine below_set ?_ GE321.out) | exact HB.out)))); have n3_ := Aside0.mk (Kd.R_lower ho1 (below_size (by repeat (first | (with_reducible first | exact HB.out | apply below_alloc | apply pw_below_drewN | apply below_drew1 | refine below_set ?_ GE321.out) | exact HB.out)))); have n4_ := Aside0.mk (blk_below (g := gb321) (o := .cells #[.int .u32 3, .int .u32 0] 34 (0, 0)) (by (with_reducible repeat (first | refine blk_drewN ?_ _ | refine blk_drew ?_ | refine blk_alloc ?_ _)); exact BK321.out) hb); have n5_ := Aside0.mk (below_step (by repeat (first | (with_reducible first | exact HB.out | apply below_alloc | apply pw_below_drewN | apply below_drew1 | refine below_set ?_ GE321.out) | exact HB.out)) hb); clear HO333; clear HO336; clear BK321; clear HB; have HO333 := n0_; have HO336 := n1_; have HO341 := n2_; have HO343 := n3_; have BK321 := n4_; have HB := n5_; clear n0_ n1_ n2_ n3_ n4_ n5_; (try clear hb); (try clear hb2); (try clear hk); (try clear hi); (try clear ho0); (try clear ho1); obtain ⟨Ao68, co68, eo68⟩ := Kd.R_slice HO341.out; subst eo68; have p344 : 0 ≤ (0 : Int) := (by omega); have q344 : 0 < (t337.length : Int) := of_decide_eq_true (by first | (with_reducible assumption) | assumption); obtain ⟨ad344, e344, hx344_0, hx344_1⟩ := at_T31 (Kd.R_reads' HO341.out).2.2 0 p344 q344; cases e344; have qi344 : (0 < t337.length) = True := eq_true (by omega); (try rw [show ((0 : Int)).toNat = 0 from rfl] at hx344_0); (try rw [show 0 * 2 = 0 from rfl] at hx344_0); (try rw [Addr.add_zero'] at hx344_0); (try rw [show ((0 : Int)).toNat = 0 from rfl] at hx344_1); (try rw [show 0 * 2 = 0 from rfl] at hx344_1); (try rw [Addr.add_zero'] at hx344_1); replace p344 := eq_true p344; replace q344 := eq_true q344))
     go_ret
     exact ⟨by first | rfl | (simp [errW_none, errW_some] <;> rfl) | (simp [*, errW_none, errW_some] <;> rfl), by repeat (first | (with_reducible first | exact HB.out | apply below_alloc | apply pw_below_drewN | apply below_drew1 | refine below_set ?_ GE321.out) | exact HB.out)⟩
   ·rw [if_neg c4] at H
    exact absurd H (by simp)
  ·rw [if_neg c3] at H
   have c3b0 : ((t337.length : Int) == 2) = false := beq_eq_false_iff_ne.mpr c3
   have c3b1 : ((t337.length : Int) != 2) = true := bne_iff_ne.mpr c3
   obtain rfl := Option.some.inj H
   go_enter Tryd.func18, Tryd.ntmps18
   go_wp2_with (first | ((with_reducible refine gate_dst (N := 1) rfl ?_); (try (refine gate_guard (by rfl) ?_; dsimp only)); refine box_event ?hg (N := 1) ?hd (cs := #[.int .u32 0, .int .u32 0]) (t := 34) ?hr ?_; (case hd => rfl); (case hg => rfl); (case hr => first | (go_simp; done) | (go_simp; rfl)); intro gb321 hg w69 hbox hb; have n0_ := Aside0.mk (below_step (by repeat (first | (with_reducible first | exact HB.out | apply below_alloc | apply pw_below_drewN | apply below_drew1) | exact HB.out)) hb); have n1_ := Aside0.mk (hbox); have n2_ := Aside0.mk ((by rw [hg]; exact (below_size (by repeat (first | (with_reducible first | exact HB.out | apply below_alloc | apply pw_below_drewN | apply below_drew1) | exact HB.out))) : w.heap.size ≤ gb321)); have n3_ := Aside0.mk ((by rw [hg]; exact (below_size (by repeat (first | (with_reducible first | exact HB.out | apply below_alloc | apply pw_below_drewN | apply below_drew1) | exact HB.out))) : w.heap.size ≤ gb321)); clear HB; have HB := n0_; have BK321 := n1_; have GW321 := n2_; have GE321 := n3_; clear n0_ n1_ n2_ n3_; clear hb hbox hg; have hcz70_0 : w69.cell? ⟨gb321, 0, none⟩ = some (.int .u32 0) := (blk_cell BK321.out 0).trans rfl; have hcz70_1 : w69.cell? ⟨gb321, 1, none⟩ = some (.int .u32 0) := (blk_cell BK321.out 1).trans rfl; have hfz70_0 := blk_frozen BK321.out 0; have hfz70_1 := blk_frozen BK321.out 1) | ((with_reducible refine gate_dst (N := 8) rfl ?_); (try (refine gate_guard (by rfl) ?_; dsimp only)); refine Kd.R_lit (Kd.int .i64) _ 3 ?hg (N := 8) ?hd (xs := ([3] : List Int)) (inner := [.int .i64 3]) (ok := fun _ => True) (okp := fun _ => True) ?hr ?hp (fun _ hk => hk) trivial (Below.refl _ _) (Nat.le_refl _) (by simp) ?_; (case hd => rfl); (case hg => rfl); (case hr => first | (go_simp; done) | (go_simp; rfl)); (case hp => exact (Reps.one (show Kd.M (Kd.int .i64) _ _ _ 3 [.int .i64 3] from rfl) (Reps.none _ _))); intro v323 w71 ho72 hb hg_ hnew_; clear hg_ hnew_; (first | rw [← Ny322.out] at ho72 | (simp only [Int.reduceToNat] at ho72; rw [← Ny322.out] at ho72)); have n0_ := Aside0.mk (Kd.R_lower ho72 (below_size (by repeat (first | (with_reducible first | exact HB.out | apply below_alloc | apply pw_below_drewN | apply below_drew1 | refine below_set ?_ GE321.out) | exact HB.out)))); have n1_ := Aside0.mk (blk_below (g := gb321) (o := .cells #[.int .u32 3, .int .u32 0] 34 (0, 0)) (by (with_reducible repeat (first | refine blk_drewN ?_ _ | refine blk_drew ?_ | refine blk_alloc ?_ _)); refine blk_put (cs := #[.int .u32 3, .int .u32 0]) ?_ 1 _ rfl; (with_reducible repeat (first | refine blk_drewN ?_ _ | refine blk_drew ?_ | refine blk_alloc ?_ _)); refine blk_put (cs := #[.int .u32 0, .int .u32 0]) ?_ 0 _ rfl; (with_reducible repeat (first | refine blk_drewN ?_ _ | refine blk_drew ?_ | refine blk_alloc ?_ _)); exact BK321.out) hb); have n2_ := Aside0.mk (below_step (by repeat (first | (with_reducible first | exact HB.out | apply below_alloc | apply pw_below_drewN | apply below_drew1 | refine below_set ?_ GE321.out) | exact HB.out)) hb); clear BK321; clear HB; have HO324 := n0_; have BK321 := n1_; have HB := n2_; clear n0_ n1_ n2_; clear hb ho72; obtain ⟨Ao73, co73, eo73⟩ := Kd.R_slice HO324.out; subst eo73) | ((with_reducible refine gate_dst (N := 10) rfl ?_); (try (refine gate_guard (by rfl) ?_; dsimp only)); refine Kd.R_lit (Kd.int .i64) _ 3 ?hg (N := 10) ?hd (xs := ([1, 2] : List Int)) (inner := [.int .i64 1, .int .i64 2]) (ok := fun _ => True) (okp := fun _ => True) ?hr ?hp (fun _ hk => hk) trivial (Below.refl _ _) (Nat.le_refl _) (by simp) ?_; (case hd => rfl); (case hg => rfl); (case hr => first | (go_simp; done) | (go_simp; rfl)); (case hp => exact (Reps.one (show Kd.M (Kd.int .i64) _ _ _ 1 [.int .i64 1] from rfl) (Reps.one (show Kd.M (Kd.int .i64) _ _ _ 2 [.int .i64 2] from rfl) (Reps.none _ _)))); intro v326 w74 ho75 hb hg_ hnew_; clear hg_ hnew_; (first | rw [← Ny325.out] at ho75 | (simp only [Int.reduceToNat] at ho75; rw [← Ny325.out] at ho75)); have n0_ := Aside0.mk (Kd.R_elder' (by (with_reducible repeat (first | apply Kd.R_alloc | apply Kd.R_drewN | apply Kd.R_drew)); exact HO324.out) (Kd.R_base ho75) hb); have n1_ := Aside0.mk (Kd.R_lower (Kd.R_new' ho75 (Kd.R_lt (by (with_reducible repeat (first | apply Kd.R_alloc | apply Kd.R_drewN | apply Kd.R_drew)); exact HO324.out))) (below_size (by repeat (first | (with_reducible first | exact HB.out | apply below_alloc | apply pw_below_drewN | apply below_drew1 | refine below_set ?_ GE321.out) | exact HB.out)))); have n2_ := Aside0.mk (blk_below (g := gb321) (o := .cells #[.int .u32 3, .int .u32 0] 34 (0, 0)) (by (with_reducible repeat (first | refine blk_drewN ?_ _ | refine blk_drew ?_ | refine blk_alloc ?_ _)); exact BK321.out) hb); have n3_ := Aside0.mk (below_step (by repeat (first | (with_reducible first | exact HB.out | apply below_alloc | apply pw_below_drewN | apply below_drew1 | refine below_set ?_ GE321.out) | exact HB.out)) hb); clear HO324; clear BK321; clear HB; have HO324 := n0_; have HO327 := n1_; have BK321 := n2_; have HB := n3_; clear n0_ n1_ n2_ n3_; clear hb ho75; obtain ⟨Ao76, co76, eo76⟩ := Kd.R_slice HO327.out; subst eo76) | ((with_reducible refine gate_dst (N := 12) rfl ?_); (try (refine gate_guard (by rfl) ?_; dsimp only)); refine Kd.R_lit (Kd.int .i64) _ 3 ?hg (N := 12) ?hd (xs := ([4] : List Int)) (inner := [.int .i64 4]) (ok := fun _ => True) (okp := fun _ => True) ?hr ?hp (fun _ hk => hk) trivial (Below.refl _ _) (Nat.le_refl _) (by simp) ?_; (case hd => rfl); (case hg => rfl); (case hr => first | (go_simp; done) | (go_simp; rfl)); (case hp => exact (Reps.one (show Kd.M (Kd.int .i64) _ _ _ 4 [.int .i64 4] from rfl) (Reps.none _ _))); intro v329 w77 ho78 hb hg_ hnew_; clear hg_ hnew_; (first | rw [← Ny328.out] at ho78 | (simp only [Int.reduceToNat] at ho78; rw [← Ny328.out] at ho78)); have n0_ := Aside0.mk (Kd.R_elder' (by (with_reducible repeat (first | apply Kd.R_alloc | apply Kd.R_drewN | apply Kd.R_drew)); exact HO324.out) (Kd.R_base ho78) hb); have n1_ := Aside0.mk (Kd.R_elder' (by (with_reducible repeat (first | apply Kd.R_alloc | apply Kd.R_drewN | apply Kd.R_drew)); exact HO327.out) (Kd.R_base ho78) hb); have n2_ := Aside0.mk (Kd.R_lower (Kd.R_new' (Kd.R_new' ho78 (Kd.R_lt (by (with_reducible repeat (first | apply Kd.R_alloc | apply Kd.R_drewN | apply Kd.R_drew)); exact HO324.out))) (Kd.R_lt (by (with_reducible repeat (first | apply Kd.R_alloc | apply Kd.R_drewN | apply Kd.R_drew)); exact HO327.out))) (below_size (by repeat (first | (with_reducible first | exact HB.out | apply below_alloc | apply pw_below_drewN | apply below_drew1 | refine below_set ?_ GE321.out) | exact HB.out)))); have n3_ := Aside0.mk (blk_below (g := gb321) (o := .cells #[.int .u32 3, .int .u32 0] 34 (0, 0)) (by (with_reducible repeat (first | refine blk_drewN ?_ _ | refine blk_drew ?_ | refine blk_alloc ?_ _)); exact BK321.out) hb); have n4_ := Aside0.mk (below_step (by repeat (first | (with_reducible first | exact HB.out | apply below_alloc | apply pw_below_drewN | apply below_drew1 | refine below_set ?_ GE321.out) | exact HB.out)) hb); clear HO324; clear HO327; clear BK321; clear HB; have HO324 := n0_; have HO327 := n1_; have HO330 := n2_; have BK321 := n3_; have HB := n4_; clear n0_ n1_ n2_ n3_ n4_; clear hb ho78; obtain ⟨Ao79, co79, eo79⟩ := Kd.R_slice HO330.out; subst eo79) | ((with_reducible refine gate_dst (N := 14) rfl ?_); (try (refine gate_guard (by rfl) ?_; dsimp only)); refine Kd.N_lit k90 _ 90 ?hg (N' := 14) ?hd (xs := ([(⟨y322, (⟨(⟨0, 0⟩ : S86), 0⟩ : S88), 0, false⟩ : S90), (⟨y325, (⟨(⟨0, 0⟩ : S86), 0⟩ : S88), 0, false⟩ : S90), (⟨y328, (⟨(⟨0, 0⟩ : S86), 0⟩ : S88), 0, false⟩ : S90)] : List (S90))) (inner := [.slice Ao73 y322.length co73, .int .u64 0, .int .u64 0, .int .u64 0, .int .u64 0, .bool false, .slice Ao76 y325.length co76, .int .u64 0, .int .u64 0, .int .u64 0, .int .u64 0, .bool false, .slice Ao79 y328.length co79, .int .u64 0, .int .u64 0, .int .u64 0, .int .u64 0, .bool false]) (ok := (fun k_ => k_ ≠ gb321)) (okp := (fun k_ => k_ ≠ gb321)) ?hr ?hp (fun _ hk => hk) ((show ∀ k_, w77.heap.size ≤ k_ → (fun k_ => k_ ≠ gb321) k_ from fun k_ hk => Kd.freshB (g := gb321) (o := .cells #[.int .u32 3, .int .u32 0] 34 (0, 0)) (by (with_reducible repeat (first | refine blk_drewN ?_ _ | refine blk_drew ?_ | refine blk_alloc ?_ _)); exact BK321.out) k_ hk) _ (Nat.le_refl _)) (Below.refl _ _) (Nat.le_refl _) (by simp) ?_; (case hd => rfl); (case hg => rfl); (case hr => first | (go_simp; done) | (go_simp; rfl)); (case hp => exact (Reps.c6 (show Kd.FK k90 _ _ (⟨y322, (⟨(⟨0, 0⟩ : S86), 0⟩ : S88), 0, false⟩ : S90) [.slice Ao73 y322.length co73, .int .u64 0, .int .u64 0, .int .u64 0, .int .u64 0, .bool false] from (k90_mkF _ _ (⟨y322, (⟨(⟨0, 0⟩ : S86), 0⟩ : S88), 0, false⟩ : S90) (Kd.R_reads' (Kd.R_mono (ok' := (fun k_ => k_ ≠ gb321)) (Kd.R_types (HO324.out) BK321.out (by decide)) (fun k_ hk => hk.2))).2.1 (Kd.R_F (Kd.R_mono (ok' := (fun k_ => k_ ≠ gb321)) (Kd.R_types (HO324.out) BK321.out (by decide)) (fun k_ hk => hk.2))))) (Reps.c6 (show Kd.FK k90 _ _ (⟨y325, (⟨(⟨0, 0⟩ : S86), 0⟩ : S88), 0, false⟩ : S90) [.slice Ao76 y325.length co76, .int .u64 0, .int .u64 0, .int .u64 0, .int .u64 0, .bool false] from (k90_mkF _ _ (⟨y325, (⟨(⟨0, 0⟩ : S86), 0⟩ : S88), 0, false⟩ : S90) (Kd.R_reads' (Kd.R_mono (ok' := (fun k_ => k_ ≠ gb321)) (Kd.R_types (HO327.out) BK321.out (by decide)) (fun k_ hk => hk.2))).2.1 (Kd.R_F (Kd.R_mono (ok' := (fun k_ => k_ ≠ gb321)) (Kd.R_types (HO327.out) BK321.out (by decide)) (fun k_ hk => hk.2))))) (Reps.c6 (show Kd.FK k90 _ _ (⟨y328, (⟨(⟨0, 0⟩ : S86), 0⟩ : S88), 0, false⟩ : S90) [.slice Ao79 y328.length co79, .int .u64 0, .int .u64 0, .int .u64 0, .int .u64 0, .bool false] from (k90_mkF _ _ (⟨y328, (⟨(⟨0, 0⟩ : S86), 0⟩ : S88), 0, false⟩ : S90) (Kd.R_reads' (Kd.R_mono (ok' := (fun k_ => k_ ≠ gb321)) (Kd.R_types (HO330.out) BK321.out (by decide)) (fun k_ hk => hk.2))).2.1 (Kd.R_F (Kd.R_mono (ok' := (fun k_ => k_ ≠ gb321)) (Kd.R_types (HO330.out) BK321.out (by decide)) (fun k_ hk => hk.2))))) (Reps.none _ _))))); intro v332 w80 ho81 hb hg_ hnew_; clear hg_ hnew_; (first | rw [← Ny331.out] at ho81 | (simp only [Int.reduceToNat] at ho81; rw [← Ny331.out] at ho81)); have n0_ := Aside0.mk (Kd.N_lower ho81 (below_size (by repeat (first | (with_reducible first | exact HB.out | apply below_alloc | apply pw_below_drewN | apply below_drew1 | refine below_set ?_ GE321.out) | exact HB.out)))); have n1_ := Aside0.mk (blk_below (g := gb321) (o := .cells #[.int .u32 3, .int .u32 0] 34 (0, 0)) (by (with_reducible repeat (first | refine blk_drewN ?_ _ | refine blk_drew ?_ | refine blk_alloc ?_ _)); exact BK321.out) hb); have n2_ := Aside0.mk (below_step (by repeat (first | (with_reducible first | exact HB.out | apply below_alloc | apply pw_below_drewN | apply below_drew1 | refine below_set ?_ GE321.out) | exact HB.out)) hb); clear BK321; clear HB; clear HO324; clear HO327; clear HO330; have HO333 := n0_; have BK321 := n1_; have HB := n2_; clear n0_ n1_ n2_; clear hb ho81; have hcz82_0 : w80.cell? ⟨gb321, 0, none⟩ = some (.int .u32 3) := (blk_cell BK321.out 0).trans rfl; have hcz82_1 : w80.cell? ⟨gb321, 1, none⟩ = some (.int .u32 0) := (blk_cell BK321.out 1).trans rfl; have hfz82_0 := blk_frozen BK321.out 0; have hfz82_1 := blk_frozen BK321.out 1) | ((with_reducible refine gate_dst (N := 23) rfl ?_); (try (refine gate_guard (by rfl) ?_; dsimp only)); refine Kd.R_lit k36 _ 36 ?hg (N := 23) ?hd (xs := ([(⟨1, (-1), (⟨3, 0⟩ : S34)⟩ : S36), (⟨2, (-1), (⟨3, 0⟩ : S34)⟩ : S36), (⟨3, 1, (⟨3, 0⟩ : S34)⟩ : S36), (⟨4, (-1), (⟨3, 0⟩ : S34)⟩ : S36)] : List (S36))) (inner := [.int .i64 1, .int .i64 (-1), .int .u32 3, .int .u32 0, .int .i64 2, .int .i64 (-1), .int .u32 3, .int .u32 0, .int .i64 3, .int .i64 1, .int .u32 3, .int .u32 0, .int .i64 4, .int .i64 (-1), .int .u32 3, .int .u32 0]) (ok := fun _ => True) (okp := fun _ => True) ?hr ?hp (fun _ hk => hk) trivial (Below.refl _ _) (Nat.le_refl _) (by simp) ?_; (case hd => rfl); (case hg => rfl); (case hr => first | (go_simp; done) | (go_simp; rfl)); (case hp => exact (Reps.c4 (show Kd.M k36 _ _ _ (⟨1, (-1), (⟨3, 0⟩ : S34)⟩ : S36) [.int .i64 1, .int .i64 (-1), .int .u32 3, .int .u32 0] from (k36_mkM _ _ _ (⟨1, (-1), (⟨3, 0⟩ : S34)⟩ : S36) )) (Reps.c4 (show Kd.M k36 _ _ _ (⟨2, (-1), (⟨3, 0⟩ : S34)⟩ : S36) [.int .i64 2, .int .i64 (-1), .int .u32 3, .int .u32 0] from (k36_mkM _ _ _ (⟨2, (-1), (⟨3, 0⟩ : S34)⟩ : S36) )) (Reps.c4 (show Kd.M k36 _ _ _ (⟨3, 1, (⟨3, 0⟩ : S34)⟩ : S36) [.int .i64 3, .int .i64 1, .int .u32 3, .int .u32 0] from (k36_mkM _ _ _ (⟨3, 1, (⟨3, 0⟩ : S34)⟩ : S36) )) (Reps.c4 (show Kd.M k36 _ _ _ (⟨4, (-1), (⟨3, 0⟩ : S34)⟩ : S36) [.int .i64 4, .int .i64 (-1), .int .u32 3, .int .u32 0] from (k36_mkM _ _ _ (⟨4, (-1), (⟨3, 0⟩ : S34)⟩ : S36) )) (Reps.none _ _)))))); intro v335 w83 ho84 hb hg_ hnew_; clear hg_ hnew_; (first | rw [← Ny334.out] at ho84 | (simp only [Int.reduceToNat] at ho84; rw [← Ny334.out] at ho84)); have n0_ := Aside0.mk (Kd.N_elder' (by (with_reducible repeat (first | apply Kd.N_alloc | apply Kd.N_drewN | apply Kd.N_drew)); exact HO333.out) (Kd.R_base ho84) hb); have n1_ := Aside0.mk (Kd.R_lower ho84 (below_size (by repeat (first | (with_reducible first | exact HB.out | apply below_alloc | apply pw_below_drewN | apply below_drew1 | refine below_set ?_ GE321.out) | exact HB.out)))); have n2_ := Aside0.mk (blk_below (g := gb321) (o := .cells #[.int .u32 3, .int .u32 0] 34 (0, 0)) (by (with_reducible repeat (first | refine blk_drewN ?_ _ | refine blk_drew ?_ | refine blk_alloc ?_ _)); exact BK321.out) hb); have n3_ := Aside0.mk (below_step (by repeat (first | (with_reducible first | exact HB.out | apply below_alloc | apply pw_below_drewN | apply below_drew1 | refine below_set ?_ GE321.out) | exact HB.out)) hb); clear HO333; clear BK321; clear HB; have HO333 := n0_; have HO336 := n1_; have BK321 := n2_; have HB := n3_; clear n0_ n1_ n2_ n3_; clear hb ho84; obtain ⟨Ao85, co85, eo85⟩ := Kd.N_slice HO333.out; subst eo85; obtain ⟨Ao86, co86, eo86⟩ := Kd.R_slice HO336.out; subst eo86) | ((with_reducible refine gate_callee (f := 20) rfl ?_); refine goesL_ (some 27) rfl rfl Tryd.func20 (by kernel_rfl) rfl #[.slice Ao85 y331.length co85, .slice Ao86 y334.length co86, .int .u32 3] rfl (by (try simp only [List.map_toArray, List.map_cons, List.map_nil]); first | done | rfl | (simp only [List.length_drop, List.length_take]; rfl)) ?_; (with_reducible refine (pick_Pick.calls _ _ y331 _ _ y334 3 t337 t338 t339 _ ?side1 ?side2 ?side3 ?side4 ?tb A1.out).mono ?_); (case tb => exact HT.out.step (by repeat (first | (with_reducible first | exact HB.out | apply below_alloc | apply pw_below_drewN | apply below_drew1 | refine below_set ?_ GE321.out) | exact HB.out))); (case side1 => repeat (first | exact (Kd.N_reads' HO333.out).2.2 | (with_reducible refine Kd.C_alloc ?_ _) | (with_reducible refine Kd.C_drewN ?_ _) | (with_reducible refine Kd.C_drew ?_))); (case side2 => exact (Kd.N_reads' HO333.out).2.1); (case side3 => repeat (first | exact (Kd.R_reads' HO336.out).2.2 | (with_reducible refine Kd.C_alloc ?_ _) | (with_reducible refine Kd.C_drewN ?_ _) | (with_reducible refine Kd.C_drew ?_))); (case side4 => exact (Kd.R_reads' HO336.out).2.1); rintro e w87 ⟨v340, v342, rfl, ho0, ho1, hb⟩; refine ⟨_, rfl, ?_⟩; have n0_ := Aside0.mk (Kd.N_mono (Kd.N_told (Kd.N_told (Kd.N_old (by (with_reducible repeat (first | apply Kd.N_alloc | apply Kd.N_drewN | apply Kd.N_drew)); exact HO333.out) hb) (Kd.R_base ho0)) (Kd.R_base ho1)) (fun _ h_ => h_.1)); have n1_ := Aside0.mk (Kd.R_below (by (with_reducible repeat (first | apply Kd.R_alloc | apply Kd.R_drewN | apply Kd.R_drew)); exact HO336.out) hb); have n2_ := Aside0.mk (Kd.R_lower ho0 (below_size (by repeat (first | (with_reducible first | exact HB.out | apply below_alloc | apply pw_below_drewN | apply below_drew1 | refine below_set ?_ GE321.out) | exact HB.out)))); have n3_ := Aside0.mk (Kd.R_lower ho1 (below_size (by repeat (first | (with_reducible first | exact HB.out | apply below_alloc | apply pw_below_drewN | apply below_drew1 | refine below_set ?_ GE321.out) | exact HB.out)))); have n4_ := Aside0.mk (blk_below (g := gb321) (o := .cells #[.int .u32 3, .int .u32 0] 34 (0, 0)) (by (with_reducible repeat (first | refine blk_drewN ?_ _ | refine blk_drew ?_ | refine blk_alloc ?_ _)); exact BK321.out) hb); have n5_ := Aside0.mk (below_step (by repeat (first | (with_reducible first | exact HB.out | apply below_alloc | apply pw_below_drewN | apply below_drew1 | refine below_set ?_ GE321.out) | exact HB.out)) hb); clear HO333; clear HO336; clear BK321; clear HB; have HO333 := n0_; have HO336 := n1_; have HO341 := n2_; have HO343 := n3_; have BK321 := n4_; have HB := n5_; clear n0_ n1_ n2_ n3_ n4_ n5_; (try clear hb); (try clear hb2); (try clear hk); (try clear hi); (try clear ho0); (try clear ho1); obtain ⟨Ao88, co88, eo88⟩ := Kd.R_slice HO341.out; subst eo88))
   go_ret
   exact ⟨by first | rfl | (simp [errW_none, errW_some] <;> rfl) | (simp [*, errW_none, errW_some] <;> rfl), by repeat (first | (with_reducible first | exact HB.out | apply below_alloc | apply pw_below_drewN | apply below_drew1 | refine below_set ?_ GE321.out) | exact HB.out)⟩
 ·rw [if_neg c2] at H
  have c2b0 : (t339 == 0) = false := beq_eq_false_iff_ne.mpr c2
  have c2b1 : (t339 != 0) = true := bne_iff_ne.mpr c2
  obtain rfl := Option.some.inj H
  go_enter Tryd.func18, Tryd.ntmps18
  go_wp2_with (first | ((with_reducible refine gate_dst (N := 1) rfl ?_); (try (refine gate_guard (by rfl) ?_; dsimp only)); refine box_event ?hg (N := 1) ?hd (cs := #[.int .u32 0, .int .u32 0]) (t := 34) ?hr ?_; (case hd => rfl); (case hg => rfl); (case hr => first | (go_simp; done) | (go_simp; rfl)); intro gb321 hg w89 hbox hb; have n0_ := Aside0.mk (below_step (by repeat (first | (with_reducible first | exact HB.out | apply below_alloc | apply pw_below_drewN | apply below_drew1) | exact HB.out)) hb); have n1_ := Aside0.mk (hbox); have n2_ := Aside0.mk ((by rw [hg]; exact (below_size (by repeat (first | (with_reducible first | exact HB.out | apply below_alloc | apply pw_below_drewN | apply below_drew1) | exact HB.out))) : w.heap.size ≤ gb321)); have n3_ := Aside0.mk ((by rw [hg]; exact (below_size (by repeat (first | (with_reducible first | exact HB.out | apply below_alloc | apply pw_below_drewN | apply below_drew1) | exact HB.out))) : w.heap.size ≤ gb321)); clear HB; have HB := n0_; have BK321 := n1_; have GW321 := n2_; have GE321 := n3_; clear n0_ n1_ n2_ n3_; clear hb hbox hg; have hcz90_0 : w89.cell? ⟨gb321, 0, none⟩ = some (.int .u32 0) := (blk_cell BK321.out 0).trans rfl; have hcz90_1 : w89.cell? ⟨gb321, 1, none⟩ = some (.int .u32 0) := (blk_cell BK321.out 1).trans rfl; have hfz90_0 := blk_frozen BK321.out 0; have hfz90_1 := blk_frozen BK321.out 1) | ((with_reducible refine gate_dst (N := 8) rfl ?_); (try (refine gate_guard (by rfl) ?_; dsimp only)); refine Kd.R_lit (Kd.int .i64) _ 3 ?hg (N := 8) ?hd (xs := ([3] : List Int)) (inner := [.int .i64 3]) (ok := fun _ => True) (okp := fun _ => True) ?hr ?hp (fun _ hk => hk) trivial (Below.refl _ _) (Nat.le_refl _) (by simp) ?_; (case hd => rfl); (case hg => rfl); (case hr => first | (go_simp; done) | (go_simp; rfl)); (case hp => exact (Reps.one (show Kd.M (Kd.int .i64) _ _ _ 3 [.int .i64 3] from rfl) (Reps.none _ _))); intro v323 w91 ho92 hb hg_ hnew_; clear hg_ hnew_; (first | rw [← Ny322.out] at ho92 | (simp only [Int.reduceToNat] at ho92; rw [← Ny322.out] at ho92)); have n0_ := Aside0.mk (Kd.R_lower ho92 (below_size (by repeat (first | (with_reducible first | exact HB.out | apply below_alloc | apply pw_below_drewN | apply below_drew1 | refine below_set ?_ GE321.out) | exact HB.out)))); have n1_ := Aside0.mk (blk_below (g := gb321) (o := .cells #[.int .u32 3, .int .u32 0] 34 (0, 0)) (by (with_reducible repeat (first | refine blk_drewN ?_ _ | refine blk_drew ?_ | refine blk_alloc ?_ _)); refine blk_put (cs := #[.int .u32 3, .int .u32 0]) ?_ 1 _ rfl; (with_reducible repeat (first | refine blk_drewN ?_ _ | refine blk_drew ?_ | refine blk_alloc ?_ _)); refine blk_put (cs := #[.int .u32 0, .int .u32 0]) ?_ 0 _ rfl; (with_reducible repeat (first | refine blk_drewN ?_ _ | refine blk_drew ?_ | refine blk_alloc ?_ _)); exact BK321.out) hb); have n2_ := Aside0.mk (below_step (by repeat (first | (with_reducible first | exact HB.out | apply below_alloc | apply pw_below_drewN | apply below_drew1 | refine below_set ?_ GE321.out) | exact HB.out)) hb); clear BK321; clear HB; have HO324 := n0_; have BK321 := n1_; have HB := n2_; clear n0_ n1_ n2_; clear hb ho92; obtain ⟨Ao93, co93, eo93⟩ := Kd.R_slice HO324.out; subst eo93) | ((with_reducible refine gate_dst (N := 10) rfl ?_); (try (refine gate_guard (by rfl) ?_; dsimp only)); refine Kd.R_lit (Kd.int .i64) _ 3 ?hg (N := 10) ?hd (xs := ([1, 2] : List Int)) (inner := [.int .i64 1, .int .i64 2]) (ok := fun _ => True) (okp := fun _ => True) ?hr ?hp (fun _ hk => hk) trivial (Below.refl _ _) (Nat.le_refl _) (by simp) ?_; (case hd => rfl); (case hg => rfl); (case hr => first | (go_simp; done) | (go_simp; rfl)); (case hp => exact (Reps.one (show Kd.M (Kd.int .i64) _ _ _ 1 [.int .i64 1] from rfl) (Reps.one (show Kd.M (Kd.int .i64) _ _ _ 2 [.int .i64 2] from rfl) (Reps.none _ _)))); intro v326 w94 ho95 hb hg_ hnew_; clear hg_ hnew_; (first | rw [← Ny325.out] at ho95 | (simp only [Int.reduceToNat] at ho95; rw [← Ny325.out] at ho95)); have n0_ := Aside0.mk (Kd.R_elder' (by (with_reducible repeat (first | apply Kd.R_alloc | apply Kd.R_drewN | apply Kd.R_drew)); exact HO324.out) (Kd.R_base ho95) hb); have n1_ := Aside0.mk (Kd.R_lower (Kd.R_new' ho95 (Kd.R_lt (by (with_reducible repeat (first | apply Kd.R_alloc | apply Kd.R_drewN | apply Kd.R_drew)); exact HO324.out))) (below_size (by repeat (first | (with_reducible first | exact HB.out | apply below_alloc | apply pw_below_drewN | apply below_drew1 | refine below_set ?_ GE321.out) | exact HB.out)))); have n2_ := Aside0.mk (blk_below (g := gb321) (o := .cells #[.int .u32 3, .int .u32 0] 34 (0, 0)) (by (with_reducible repeat (first | refine blk_drewN ?_ _ | refine blk_drew ?_ | refine blk_alloc ?_ _)); exact BK321.out) hb); have n3_ := Aside0.mk (below_step (by repeat (first | (with_reducible first | exact HB.out | apply below_alloc | apply pw_below_drewN | apply below_drew1 | refine below_set ?_ GE321.out) | exact HB.out)) hb); clear HO324; clear BK321; clear HB; have HO324 := n0_; have HO327 := n1_; have BK321 := n2_; have HB := n3_; clear n0_ n1_ n2_ n3_; clear hb ho95; obtain ⟨Ao96, co96, eo96⟩ := Kd.R_slice HO327.out; subst eo96) | ((with_reducible refine gate_dst (N := 12) rfl ?_); (try (refine gate_guard (by rfl) ?_; dsimp only)); refine Kd.R_lit (Kd.int .i64) _ 3 ?hg (N := 12) ?hd (xs := ([4] : List Int)) (inner := [.int .i64 4]) (ok := fun _ => True) (okp := fun _ => True) ?hr ?hp (fun _ hk => hk) trivial (Below.refl _ _) (Nat.le_refl _) (by simp) ?_; (case hd => rfl); (case hg => rfl); (case hr => first | (go_simp; done) | (go_simp; rfl)); (case hp => exact (Reps.one (show Kd.M (Kd.int .i64) _ _ _ 4 [.int .i64 4] from rfl) (Reps.none _ _))); intro v329 w97 ho98 hb hg_ hnew_; clear hg_ hnew_; (first | rw [← Ny328.out] at ho98 | (simp only [Int.reduceToNat] at ho98; rw [← Ny328.out] at ho98)); have n0_ := Aside0.mk (Kd.R_elder' (by (with_reducible repeat (first | apply Kd.R_alloc | apply Kd.R_drewN | apply Kd.R_drew)); exact HO324.out) (Kd.R_base ho98) hb); have n1_ := Aside0.mk (Kd.R_elder' (by (with_reducible repeat (first | apply Kd.R_alloc | apply Kd.R_drewN | apply Kd.R_drew)); exact HO327.out) (Kd.R_base ho98) hb); have n2_ := Aside0.mk (Kd.R_lower (Kd.R_new' (Kd.R_new' ho98 (Kd.R_lt (by (with_reducible repeat (first | apply Kd.R_alloc | apply Kd.R_drewN | apply Kd.R_drew)); exact HO324.out))) (Kd.R_lt (by (with_reducible repeat (first | apply Kd.R_alloc | apply Kd.R_drewN | apply Kd.R_drew)); exact HO327.out))) (below_size (by repeat (first | (with_reducible first | exact HB.out | apply below_alloc | apply pw_below_drewN | apply below_drew1 | refine below_set ?_ GE321.out) | exact HB.out)))); have n3_ := Aside0.mk (blk_below (g := gb321) (o := .cells #[.int .u32 3, .int .u32 0] 34 (0, 0)) (by (with_reducible repeat (first | refine blk_drewN ?_ _ | refine blk_drew ?_ | refine blk_alloc ?_ _)); exact BK321.out) hb); have n4_ := Aside0.mk (below_step (by repeat (first | (with_reducible first | exact HB.out | apply below_alloc | apply pw_below_drewN | apply below_drew1 | refine below_set ?_ GE321.out) | exact HB.out)) hb); clear HO324; clear HO327; clear BK321; clear HB; have HO324 := n0_; have HO327 := n1_; have HO330 := n2_; have BK321 := n3_; have HB := n4_; clear n0_ n1_ n2_ n3_ n4_; clear hb ho98; obtain ⟨Ao99, co99, eo99⟩ := Kd.R_slice HO330.out; subst eo99) | ((with_reducible refine gate_dst (N := 14) rfl ?_); (try (refine gate_guard (by rfl) ?_; dsimp only)); refine Kd.N_lit k90 _ 90 ?hg (N' := 14) ?hd (xs := ([(⟨y322, (⟨(⟨0, 0⟩ : S86), 0⟩ : S88), 0, false⟩ : S90), (⟨y325, (⟨(⟨0, 0⟩ : S86), 0⟩ : S88), 0, false⟩ : S90), (⟨y328, (⟨(⟨0, 0⟩ : S86), 0⟩ : S88), 0, false⟩ : S90)] : List (S90))) (inner := [.slice Ao93 y322.length co93, .int .u64 0, .int .u64 0, .int .u64 0, .int .u64 0, .bool false, .slice Ao96 y325.length co96, .int .u64 0, .int .u64 0, .int .u64 0, .int .u64 0, .bool false, .slice Ao99 y328.length co99, .int .u64 0, .int .u64 0, .int .u64 0, .int .u64 0, .bool false]) (ok := (fun k_ => k_ ≠ gb321)) (okp := (fun k_ => k_ ≠ gb321)) ?hr ?hp (fun _ hk => hk) ((show ∀ k_, w97.heap.size ≤ k_ → (fun k_ => k_ ≠ gb321) k_ from fun k_ hk => Kd.freshB (g := gb321) (o := .cells #[.int .u32 3, .int .u32 0] 34 (0, 0)) (by (with_reducible repeat (first | refine blk_drewN ?_ _ | refine blk_drew ?_ | refine blk_alloc ?_ _)); exact BK321.out) k_ hk) _ (Nat.le_refl _)) (Below.refl _ _) (Nat.le_refl _) (by simp) ?_; (case hd => rfl); (case hg => rfl); (case hr => first | (go_simp; done) | (go_simp; rfl)); (case hp => exact (Reps.c6 (show Kd.FK k90 _ _ (⟨y322, (⟨(⟨0, 0⟩ : S86), 0⟩ : S88), 0, false⟩ : S90) [.slice Ao93 y322.length co93, .int .u64 0, .int .u64 0, .int .u64 0, .int .u64 0, .bool false] from (k90_mkF _ _ (⟨y322, (⟨(⟨0, 0⟩ : S86), 0⟩ : S88), 0, false⟩ : S90) (Kd.R_reads' (Kd.R_mono (ok' := (fun k_ => k_ ≠ gb321)) (Kd.R_types (HO324.out) BK321.out (by decide)) (fun k_ hk => hk.2))).2.1 (Kd.R_F (Kd.R_mono (ok' := (fun k_ => k_ ≠ gb321)) (Kd.R_types (HO324.out) BK321.out (by decide)) (fun k_ hk => hk.2))))) (Reps.c6 (show Kd.FK k90 _ _ (⟨y325, (⟨(⟨0, 0⟩ : S86), 0⟩ : S88), 0, false⟩ : S90) [.slice Ao96 y325.length co96, .int .u64 0, .int .u64 0, .int .u64 0, .int .u64 0, .bool false] from (k90_mkF _ _ (⟨y325, (⟨(⟨0, 0⟩ : S86), 0⟩ : S88), 0, false⟩ : S90) (Kd.R_reads' (Kd.R_mono (ok' := (fun k_ => k_ ≠ gb321)) (Kd.R_types (HO327.out) BK321.out (by decide)) (fun k_ hk => hk.2))).2.1 (Kd.R_F (Kd.R_mono (ok' := (fun k_ => k_ ≠ gb321)) (Kd.R_types (HO327.out) BK321.out (by decide)) (fun k_ hk => hk.2))))) (Reps.c6 (show Kd.FK k90 _ _ (⟨y328, (⟨(⟨0, 0⟩ : S86), 0⟩ : S88), 0, false⟩ : S90) [.slice Ao99 y328.length co99, .int .u64 0, .int .u64 0, .int .u64 0, .int .u64 0, .bool false] from (k90_mkF _ _ (⟨y328, (⟨(⟨0, 0⟩ : S86), 0⟩ : S88), 0, false⟩ : S90) (Kd.R_reads' (Kd.R_mono (ok' := (fun k_ => k_ ≠ gb321)) (Kd.R_types (HO330.out) BK321.out (by decide)) (fun k_ hk => hk.2))).2.1 (Kd.R_F (Kd.R_mono (ok' := (fun k_ => k_ ≠ gb321)) (Kd.R_types (HO330.out) BK321.out (by decide)) (fun k_ hk => hk.2))))) (Reps.none _ _))))); intro v332 w100 ho101 hb hg_ hnew_; clear hg_ hnew_; (first | rw [← Ny331.out] at ho101 | (simp only [Int.reduceToNat] at ho101; rw [← Ny331.out] at ho101)); have n0_ := Aside0.mk (Kd.N_lower ho101 (below_size (by repeat (first | (with_reducible first | exact HB.out | apply below_alloc | apply pw_below_drewN | apply below_drew1 | refine below_set ?_ GE321.out) | exact HB.out)))); have n1_ := Aside0.mk (blk_below (g := gb321) (o := .cells #[.int .u32 3, .int .u32 0] 34 (0, 0)) (by (with_reducible repeat (first | refine blk_drewN ?_ _ | refine blk_drew ?_ | refine blk_alloc ?_ _)); exact BK321.out) hb); have n2_ := Aside0.mk (below_step (by repeat (first | (with_reducible first | exact HB.out | apply below_alloc | apply pw_below_drewN | apply below_drew1 | refine below_set ?_ GE321.out) | exact HB.out)) hb); clear BK321; clear HB; clear HO324; clear HO327; clear HO330; have HO333 := n0_; have BK321 := n1_; have HB := n2_; clear n0_ n1_ n2_; clear hb ho101; have hcz102_0 : w100.cell? ⟨gb321, 0, none⟩ = some (.int .u32 3) := (blk_cell BK321.out 0).trans rfl; have hcz102_1 : w100.cell? ⟨gb321, 1, none⟩ = some (.int .u32 0) := (blk_cell BK321.out 1).trans rfl; have hfz102_0 := blk_frozen BK321.out 0; have hfz102_1 := blk_frozen BK321.out 1) | ((with_reducible refine gate_dst (N := 23) rfl ?_); (try (refine gate_guard (by rfl) ?_; dsimp only)); refine Kd.R_lit k36 _ 36 ?hg (N := 23) ?hd (xs := ([(⟨1, (-1), (⟨3, 0⟩ : S34)⟩ : S36), (⟨2, (-1), (⟨3, 0⟩ : S34)⟩ : S36), (⟨3, 1, (⟨3, 0⟩ : S34)⟩ : S36), (⟨4, (-1), (⟨3, 0⟩ : S34)⟩ : S36)] : List (S36))) (inner := [.int .i64 1, .int .i64 (-1), .int .u32 3, .int .u32 0, .int .i64 2, .int .i64 (-1), .int .u32 3, .int .u32 0, .int .i64 3, .int .i64 1, .int .u32 3, .int .u32 0, .int .i64 4, .int .i64 (-1), .int .u32 3, .int .u32 0]) (ok := fun _ => True) (okp := fun _ => True) ?hr ?hp (fun _ hk => hk) trivial (Below.refl _ _) (Nat.le_refl _) (by simp) ?_; (case hd => rfl); (case hg => rfl); (case hr => first | (go_simp; done) | (go_simp; rfl)); (case hp => exact (Reps.c4 (show Kd.M k36 _ _ _ (⟨1, (-1), (⟨3, 0⟩ : S34)⟩ : S36) [.int .i64 1, .int .i64 (-1), .int .u32 3, .int .u32 0] from (k36_mkM _ _ _ (⟨1, (-1), (⟨3, 0⟩ : S34)⟩ : S36) )) (Reps.c4 (show Kd.M k36 _ _ _ (⟨2, (-1), (⟨3, 0⟩ : S34)⟩ : S36) [.int .i64 2, .int .i64 (-1), .int .u32 3, .int .u32 0] from (k36_mkM _ _ _ (⟨2, (-1), (⟨3, 0⟩ : S34)⟩ : S36) )) (Reps.c4 (show Kd.M k36 _ _ _ (⟨3, 1, (⟨3, 0⟩ : S34)⟩ : S36) [.int .i64 3, .int .i64 1, .int .u32 3, .int .u32 0] from (k36_mkM _ _ _ (⟨3, 1, (⟨3, 0⟩ : S34)⟩ : S36) )) (Reps.c4 (show Kd.M k36 _ _ _ (⟨4, (-1), (⟨3, 0⟩ : S34)⟩ : S36) [.int .i64 4, .int .i64 (-1), .int .u32 3, .int .u32 0] from (k36_mkM _ _ _ (⟨4, (-1), (⟨3, 0⟩ : S34)⟩ : S36) )) (Reps.none _ _)))))); intro v335 w103 ho104 hb hg_ hnew_; clear hg_ hnew_; (first | rw [← Ny334.out] at ho104 | (simp only [Int.reduceToNat] at ho104; rw [← Ny334.out] at ho104)); have n0_ := Aside0.mk (Kd.N_elder' (by (with_reducible repeat (first | apply Kd.N_alloc | apply Kd.N_drewN | apply Kd.N_drew)); exact HO333.out) (Kd.R_base ho104) hb); have n1_ := Aside0.mk (Kd.R_lower ho104 (below_size (by repeat (first | (with_reducible first | exact HB.out | apply below_alloc | apply pw_below_drewN | apply below_drew1 | refine below_set ?_ GE321.out) | exact HB.out)))); have n2_ := Aside0.mk (blk_below (g := gb321) (o := .cells #[.int .u32 3, .int .u32 0] 34 (0, 0)) (by (with_reducible repeat (first | refine blk_drewN ?_ _ | refine blk_drew ?_ | refine blk_alloc ?_ _)); exact BK321.out) hb); have n3_ := Aside0.mk (below_step (by repeat (first | (with_reducible first | exact HB.out | apply below_alloc | apply pw_below_drewN | apply below_drew1 | refine below_set ?_ GE321.out) | exact HB.out)) hb); clear HO333; clear BK321; clear HB; have HO333 := n0_; have HO336 := n1_; have BK321 := n2_; have HB := n3_; clear n0_ n1_ n2_ n3_; clear hb ho104; obtain ⟨Ao105, co105, eo105⟩ := Kd.N_slice HO333.out; subst eo105; obtain ⟨Ao106, co106, eo106⟩ := Kd.R_slice HO336.out; subst eo106) | ((with_reducible refine gate_callee (f := 20) rfl ?_); refine goesL_ (some 27) rfl rfl Tryd.func20 (by kernel_rfl) rfl #[.slice Ao105 y331.length co105, .slice Ao106 y334.length co106, .int .u32 3] rfl (by (try simp only [List.map_toArray, List.map_cons, List.map_nil]); first | done | rfl | (simp only [List.length_drop, List.length_take]; rfl)) ?_; (with_reducible refine (pick_Pick.calls _ _ y331 _ _ y334 3 t337 t338 t339 _ ?side1 ?side2 ?side3 ?side4 ?tb A1.out).mono ?_); (case tb => exact HT.out.step (by repeat (first | (with_reducible first | exact HB.out | apply below_alloc | apply pw_below_drewN | apply below_drew1 | refine below_set ?_ GE321.out) | exact HB.out))); (case side1 => repeat (first | exact (Kd.N_reads' HO333.out).2.2 | (with_reducible refine Kd.C_alloc ?_ _) | (with_reducible refine Kd.C_drewN ?_ _) | (with_reducible refine Kd.C_drew ?_))); (case side2 => exact (Kd.N_reads' HO333.out).2.1); (case side3 => repeat (first | exact (Kd.R_reads' HO336.out).2.2 | (with_reducible refine Kd.C_alloc ?_ _) | (with_reducible refine Kd.C_drewN ?_ _) | (with_reducible refine Kd.C_drew ?_))); (case side4 => exact (Kd.R_reads' HO336.out).2.1); rintro e w107 ⟨v340, v342, rfl, ho0, ho1, hb⟩; refine ⟨_, rfl, ?_⟩; have n0_ := Aside0.mk (Kd.N_mono (Kd.N_told (Kd.N_told (Kd.N_old (by (with_reducible repeat (first | apply Kd.N_alloc | apply Kd.N_drewN | apply Kd.N_drew)); exact HO333.out) hb) (Kd.R_base ho0)) (Kd.R_base ho1)) (fun _ h_ => h_.1)); have n1_ := Aside0.mk (Kd.R_below (by (with_reducible repeat (first | apply Kd.R_alloc | apply Kd.R_drewN | apply Kd.R_drew)); exact HO336.out) hb); have n2_ := Aside0.mk (Kd.R_lower ho0 (below_size (by repeat (first | (with_reducible first | exact HB.out | apply below_alloc | apply pw_below_drewN | apply below_drew1 | refine below_set ?_ GE321.out) | exact HB.out)))); have n3_ := Aside0.mk (Kd.R_lower ho1 (below_size (by repeat (first | (with_reducible first | exact HB.out | apply below_alloc | apply pw_below_drewN | apply below_drew1 | refine below_set ?_ GE321.out) | exact HB.out)))); have n4_ := Aside0.mk (blk_below (g := gb321) (o := .cells #[.int .u32 3, .int .u32 0] 34 (0, 0)) (by (with_reducible repeat (first | refine blk_drewN ?_ _ | refine blk_drew ?_ | refine blk_alloc ?_ _)); exact BK321.out) hb); have n5_ := Aside0.mk (below_step (by repeat (first | (with_reducible first | exact HB.out | apply below_alloc | apply pw_below_drewN | apply below_drew1 | refine below_set ?_ GE321.out) | exact HB.out)) hb); clear HO333; clear HO336; clear BK321; clear HB; have HO333 := n0_; have HO336 := n1_; have HO341 := n2_; have HO343 := n3_; have BK321 := n4_; have HB := n5_; clear n0_ n1_ n2_ n3_ n4_ n5_; (try clear hb); (try clear hb2); (try clear hk); (try clear hi); (try clear ho0); (try clear ho1)))
  go_ret
  exact ⟨by first | rfl | (simp [errW_none, errW_some] <;> rfl) | (simp [*, errW_none, errW_some] <;> rfl), by repeat (first | (with_reducible first | exact HB.out | apply below_alloc | apply pw_below_drewN | apply below_drew1 | refine below_set ?_ GE321.out) | exact HB.out)⟩

end Go.Proofs.YtdmieaidheelbaaDoor.Q
end
/- PureChoices -/
section
/- PickChoices, the plain law: a member's choices are the document's. -/
namespace Go.Proofs.YtdmieaidheelbaaDoor.Q
open Go Go.RowKit Go.Proofs.YtdmieaidheelbaaDoorW.PrintWords Go.Proofs.YtdmieaidheelbaaDoorW.PrintLast Go.Proofs.YtdmieaidheelbaaDoorW.PrintMore
set_option linter.unusedVariables false
set_option linter.unusedSimpArgs false

theorem wakes19 : mainsheetlaw19_wakes.f = some true := by decide +kernel
end Go.Proofs.YtdmieaidheelbaaDoor.Q
end
/- QFlaw19same -/
section
namespace Go.Proofs.YtdmieaidheelbaaDoor.Q
open Go.RowKit Go.Proofs.YtdmieaidheelbaaDoorW.PrintWords Go.Proofs.YtdmieaidheelbaaDoorW.PrintLast Go.Proofs.YtdmieaidheelbaaDoorW.PrintMore
attribute [local go_sem] max2_int min2_int max_two min_two max_three min_three max_four min_four
set_option linter.unusedVariables false
set_option linter.unusedSimpArgs false

attribute [local go_sem high] eqA31
def mainsheetlaw19_same.l0 : Nat → List (S31) → List (S31) → Int → Int → Option (Bool)
 | 0, _, _, _, _ => none
 | k + 1, x0, x1, x12, x13 => if x13 < x12 then (if 0 ≤ x13 then (if x13 < (x0.length : Int) then (if x13 < (x1.length : Int) then (if (!(((rd_T31 x0 x13).f0) == ((rd_T31 x1 x13).f0)) || (!(((rd_T31 x0 x13).f1) == ((rd_T31 x1 x13).f1)))) = true then (some false) else (mainsheetlaw19_same.l0 k x0 x1 x12 (wrap64 (x13 + 1)))) else (none)) else (none)) else (none)) else (some true)
def mainsheetlaw19_same.f (k : Nat) (l0 : List (S31)) (l1 : List (S31)) : Option (Bool) := if (l0.length : Int) = (l1.length : Int) then (mainsheetlaw19_same.l0 k l0 l1 (l0.length : Int) 0) else (some false)
set_option maxHeartbeats 8000000 in
set_option maxRecDepth 100000 in
theorem mainsheetlaw19_same.calls (k : Nat) (A0 : Option Addr) (c0 : Nat) (l0 : List (S31)) (A1 : Option Addr) (c1 : Nat) (l1 : List (S31)) (r : Bool) (w : World) (hr0 : Kd.C k31 w A0 l0.length l0) (hc0 : l0.length ≤ c0) (hr1 : Kd.C k31 w A1 l1.length l1) (hc1 : l1.length ≤ c1) (h : mainsheetlaw19_same.f k l0 l1 = some r) :
  Calls Tryd.prog 56 #[.slice A0 l0.length c0, .slice A1 l1.length c1] w fun e w' => e = .returned (.bool r) ∧ Drawn0 w w' := by
 have hu31 := Tryd.underlying31
 have HR0 := Aside0.mk hr0
 have HC0 := Aside0.mk hc0
 clear hr0 hc0
 have HR1 := Aside0.mk hr1
 have HC1 := Aside0.mk hc1
 clear hr1 hc1
 have H : (if (l0.length : Int) = (l1.length : Int) then (mainsheetlaw19_same.l0 k l0 l1 (l0.length : Int) 0) else (some false)) = some r := h
 clear h
 by_cases c3 : (l0.length : Int) = (l1.length : Int)
 ·rw [if_pos c3] at H
  have c3b0 : ((l0.length : Int) == (l1.length : Int)) = true := beq_iff_eq.mpr c3
  have c3b1 : ((l0.length : Int) != (l1.length : Int)) = false := bne_eq_false_iff_eq.mpr c3
  have c3b2 : (l0.length == l1.length) = true := by first | simpa using c3 | (simp at c3 ⊢; omega)
  clear c3
  have H' := Aside0.mk H
  clear H
  go_enter Tryd.func56, Tryd.ntmps56
  go_wp2
  repeat (go_quiet (fail); try go_wp2)
  go_loopg [13] k (fun kq v13 w' => ∃ (x13_1 : Int), v13 = .int .i64 x13_1 ∧ Aside0 (mainsheetlaw19_same.l0 kq l0 l1 (l0.length : Int) x13_1 = some r) ∧ Aside0 (kq ≤ k) ∧ Drawn0 w w')
  case atStart => exact ⟨(0), (by first | rfl | (simp; done) | (simp [*]; done)), H', ⟨Nat.le_refl _⟩, by repeat (first | exact Drawn0.refl _ | apply Drawn0.step)⟩
  case round =>
   clear H'
   try clear c1
   try clear p2
   try clear c3
   try clear c3b0
   try clear c3b1
   try clear c3b2
   obtain ⟨x13_1, rfl, HA, HK1, ⟨m1, rfl⟩⟩ := hrel
   cases gk with
   | zero => exact absurd HA.out (by simp [mainsheetlaw19_same.l0])
   | succ k1 =>
    have H := HA.out
    clear HA
    simp only [mainsheetlaw19_same.l0] at H
    by_cases c4 : x13_1 < (l0.length : Int)
    ·rw [if_pos c4] at H
     have c4b0 : decide (x13_1 < (l0.length : Int)) = true := decide_eq_true c4
     clear c4
     by_cases c5 : 0 ≤ x13_1
     ·rw [if_pos c5] at H
      have c5b0 : decide (0 ≤ x13_1) = true := decide_eq_true c5
      clear c5
      by_cases c6 : x13_1 < (l0.length : Int)
      ·rw [if_pos c6] at H
       have c6b0 : decide (x13_1 < (l0.length : Int)) = true := decide_eq_true c6
       clear c6
       by_cases c7 : x13_1 < (l1.length : Int)
       ·rw [if_pos c7] at H
        have c7b0 : decide (x13_1 < (l1.length : Int)) = true := decide_eq_true c7
        clear c7
        by_cases c8 : (!(((rd_T31 l0 x13_1).f0) == ((rd_T31 l1 x13_1).f0)) || (!(((rd_T31 l0 x13_1).f1) == ((rd_T31 l1 x13_1).f1)))) = true
        ·rw [if_pos c8] at H
         have c8b0 : (!(((rd_T31 l0 x13_1).f0) == ((rd_T31 l1 x13_1).f0)) || (!(((rd_T31 l0 x13_1).f1) == ((rd_T31 l1 x13_1).f1)))) = true := c8
         clear c8
         obtain rfl := Option.some.inj H
         have p690 : 0 ≤ (x13_1 : Int) := of_decide_eq_true (by first | (with_reducible assumption) | assumption)
         have q690 : x13_1 < (l0.length : Int) := of_decide_eq_true (by first | (with_reducible assumption) | assumption)
         obtain ⟨ad690, e690, hx690_0, hx690_1⟩ := at_T31 HR0.out x13_1 p690 q690
         cases e690
         replace p690 := eq_true p690
         replace q690 := eq_true q690
         have p691 : 0 ≤ (x13_1 : Int) := of_decide_eq_true (by first | (with_reducible assumption) | assumption)
         have q691 : x13_1 < (l1.length : Int) := of_decide_eq_true (by first | (with_reducible assumption) | assumption)
         obtain ⟨ad691, e691, hx691_0, hx691_1⟩ := at_T31 HR1.out x13_1 p691 q691
         cases e691
         replace p691 := eq_true p691
         replace q691 := eq_true q691
         go_wp2
         repeat (go_quiet (fail); try go_wp2)
         go_ret
         exact ⟨by first | rfl | (simp; done) | (simp [*]; done), by repeat (first | exact Drawn0.refl _ | apply Drawn0.step)⟩
        ·rw [if_neg c8] at H
         have c8b0 : (!(((rd_T31 l0 x13_1).f0) == ((rd_T31 l1 x13_1).f0)) || (!(((rd_T31 l0 x13_1).f1) == ((rd_T31 l1 x13_1).f1)))) = false := by simpa using c8
         clear c8
         have H' := Aside0.mk H
         clear H
         have p690 : 0 ≤ (x13_1 : Int) := of_decide_eq_true (by first | (with_reducible assumption) | assumption)
         have q690 : x13_1 < (l0.length : Int) := of_decide_eq_true (by first | (with_reducible assumption) | assumption)
         obtain ⟨ad690, e690, hx690_0, hx690_1⟩ := at_T31 HR0.out x13_1 p690 q690
         cases e690
         replace p690 := eq_true p690
         replace q690 := eq_true q690
         have p691 : 0 ≤ (x13_1 : Int) := of_decide_eq_true (by first | (with_reducible assumption) | assumption)
         have q691 : x13_1 < (l1.length : Int) := of_decide_eq_true (by first | (with_reducible assumption) | assumption)
         obtain ⟨ad691, e691, hx691_0, hx691_1⟩ := at_T31 HR1.out x13_1 p691 q691
         cases e691
         replace p691 := eq_true p691
         replace q691 := eq_true q691
         go_wp2
         repeat (go_quiet (fail); try go_wp2)
         go_roundg k1
         case measure => have := HK1.out; omega
         case rel => exact ⟨(wrap64 (x13_1 + 1)), (by first | rfl | (simp; done) | (simp [*]; done)), H', ⟨by have := HK1.out; omega⟩, by repeat (first | exact Drawn0.refl _ | apply Drawn0.step)⟩
       ·rw [if_neg c7] at H
        exact absurd H (by simp)
      ·rw [if_neg c6] at H
       exact absurd H (by simp)
     ·rw [if_neg c5] at H
      exact absurd H (by simp)
    ·rw [if_neg c4] at H
     have c4b0 : decide (x13_1 < (l0.length : Int)) = false := decide_eq_false c4
     clear c4
     obtain rfl := Option.some.inj H
     go_wp2
     repeat (go_quiet (fail); try go_wp2)
     go_ret
     exact ⟨by first | rfl | (simp; done) | (simp [*]; done), by repeat (first | exact Drawn0.refl _ | apply Drawn0.step)⟩
 ·rw [if_neg c3] at H
  have c3b0 : ((l0.length : Int) == (l1.length : Int)) = false := beq_eq_false_iff_ne.mpr c3
  have c3b1 : ((l0.length : Int) != (l1.length : Int)) = true := bne_iff_ne.mpr c3
  have c3b2 : (l0.length == l1.length) = false := by first | simpa using c3 | (simp at c3 ⊢; omega)
  obtain rfl := Option.some.inj H
  go_enter Tryd.func56, Tryd.ntmps56
  go_wp2
  repeat (go_quiet (fail); try go_wp2)
  go_ret
  exact ⟨by first | rfl | (simp; done) | (simp [*]; done), by repeat (first | exact Drawn0.refl _ | apply Drawn0.step)⟩

end Go.Proofs.YtdmieaidheelbaaDoor.Q
end
/- Backs -/
section
/- mainsheetlaw19.PickBack by hand: the law's own walk. -/
namespace Go.Proofs.YtdmieaidheelbaaDoor.Q
open Go Go.RowKit Go.Proofs.YtdmieaidheelbaaDoorW.PrintWords Go.Proofs.YtdmieaidheelbaaDoorW.PrintLast Go.Proofs.YtdmieaidheelbaaDoorW.PrintMore
set_option linter.unusedVariables false
set_option linter.unusedSimpArgs false

theorem fixed_C {w0 w : World} (hb : Below w0.heap.size w0 w) {A : Option Addr} {n : Nat} {xs : List Ent} (h : (Kd.fixed k90 w0).C w A n xs) : k90.C w A n xs :=
  Kd.C_read (d := k90) (dm := Kd.fixed k90 w0) rfl (fun x cs hk => k90.K_below hb hk) h
theorem same_call (k : Nat) (A0 : Option Addr) (c0 : Nat) (l0 : List S31) (A1 : Option Addr) (c1 : Nat) (l1 : List S31) (n : Nat) (r : Bool) (w : World) (hn : l1.length = n) (hr0 : Kd.C k31 w A0 l0.length l0) (hc0 : l0.length ≤ c0) (hr1 : Kd.C k31 w A1 l1.length l1) (hc1 : n ≤ c1) (h : mainsheetlaw19_same.f k l0 l1 = some r) :
    Calls Tryd.prog 56 #[.slice A0 l0.length c0, .slice A1 n c1] w fun e w' => e = .returned (.bool r) ∧ Drawn0 w w' := by
  subst hn
  exact mainsheetlaw19_same.calls k A0 c0 l0 A1 c1 l1 r w hr0 hc0 hr1 hc1 h
def onB (P : List S31) (x : Ent) : Bool := (onP P (rd x.f0 0)).2
theorem info31B : (Tryd.prog.info? 31).map (fun i => (i.zero, i.size, i.bytes)) = some (some (.agg #[.int .i64 0, .int .i64 0]), 2, 16) := by kernel_rfl
set_option maxRecDepth 100000 in
set_option maxHeartbeats 20000000 in
theorem back_walk (A0 : Option Addr) (c0 : Nat) (l0 : List Ent) (A1 : Option Addr) (c1 : Nat) (l1 : List S36) (a : Int) (P : List S31) (Wt : List Int) (K : Nat) (w : World) (hr0 : Kd.C k90 w A0 l0.length l0) (hc0 : l0.length ≤ c0) (hr1 : Kd.C k36 w A1 l1.length l1) (hc1 : l1.length ≤ c1) (hT : TabW w) (hlm : l0.length ≤ 40) (hpm : P.length ≤ 1000000)
    (ho : mainsheetlaw19_Ask_over.f 100 l0 l1 a = some false) (hP : pick_Pick.f l0 l1 a = some (P, Wt, 0)) (hne : ∀ x ∈ l0, 1 ≤ x.f0.length) (hsm : mainsheetlaw19_same.f K P P = some true)
    (hloop : ∀ i, i < l0.length → onB P (rd_T90 l0 (i : Int)) = false → ∃ l' w' W', mainsheetlaw19_Ask_without.f l0 l1 a (i : Int) = some (l', w', a) ∧ pick_Pick.f l' w' a = some (P, W', 0))
    (hlast : 0 < l0.length → ∃ l' w' P' W', mainsheetlaw19_Ask_without.f l0 l1 a ((l0.length : Int) - 1) = some (l', w', a) ∧ pick_Pick.f l' w' a = some (P', W', 0) ∧ P'.length ≤ P.length ∧ mainsheetlaw19_same.f K P' (P.take P'.length) = some true) :
    Calls Tryd.prog 12 #[.agg #[.slice A0 l0.length c0, .slice A1 l1.length c1, .int .u32 a]] w fun e w' => e = .returned (.bool true) ∧ Below w.heap.size w w' := by
  have hu41 := Tryd.underlying41
  have hu90 := Tryd.underlying90
  have HR0 := Aside0.mk hr0
  have HR1 := Aside0.mk hr1
  have HC0 := Aside0.mk hc0
  have HC1 := Aside0.mk hc1
  have HO := Aside0.mk ho
  have HP := Aside0.mk hP
  have HNE := Aside0.mk hne
  have HSM := Aside0.mk hsm
  have HLO := Aside0.mk hloop
  have HLA := Aside0.mk hlast
  have HPM := Aside0.mk hpm
  have HBA := Aside0.mk ((Below.refl w.heap.size w).alloc (Nat.le_refl _) (.cells #[.slice A0 l0.length c0, .slice A1 l1.length c1, .int .u32 a] 41))
  have HTA := Aside0.mk hT
  have HX := Aside0.mk (heap_alloc_new w (.cells #[.slice A0 l0.length c0, .slice A1 l1.length c1, .int .u32 a] 41))
  clear hr0 hr1 hc0 hc1 ho hT hP hne hsm hloop hlast hpm
  go_enter Tryd.func12, Tryd.ntmps12
  go_wp2_with (first
    | (go_at_call 18; refine (mainsheetlaw19_wakes.calls true _ (HTA.out.step HBA.out) wakes19).mono ?_; rintro e w1 ⟨rfl, hb1⟩; have HB1 := Aside0.mk (below_step HBA.out hb1); have HX1 := Aside0.mk ((hb1.block _ (blk_lt HX.out)).trans HX.out); have hk0 := blk_cell HX1.out 0; have hk1 := blk_cell HX1.out 1; have hk2 := blk_cell HX1.out 2; simp only [List.getElem?_toArray, List.getElem?_cons_zero, List.getElem?_cons_succ] at hk0 hk1 hk2; clear hb1)
    | (go_at_call 19; refine (mainsheetlaw19_Ask_over.calls 100 A0 c0 l0 A1 c1 l1 a false _ (Kd.C_below HR0.out HB1.out) HC0.out (Kd.C_below HR1.out HB1.out) HC1.out HO.out).mono ?_; rintro e w2 ⟨rfl, hb2⟩; have HB2 := Aside0.mk (below_step HB1.out hb2); have HX2 := Aside0.mk ((hb2.block _ (blk_lt HX1.out)).trans HX1.out); clear hk0 hk1 hk2; have hj0 := blk_cell HX2.out 0; have hj1 := blk_cell HX2.out 1; have hj2 := blk_cell HX2.out 2; simp only [List.getElem?_toArray, List.getElem?_cons_zero, List.getElem?_cons_succ] at hj0 hj1 hj2; clear hb2)
    | (go_at_call 20; refine (pick_Pick.calls A0 c0 l0 A1 c1 l1 a P Wt 0 _ (Kd.C_below HR0.out HB2.out) HC0.out (Kd.C_below HR1.out HB2.out) HC1.out (HTA.out.step HB2.out) HP.out).mono ?_; rintro e w4 ⟨v2, v3, rfl, hP4, hW4, hb4⟩; obtain ⟨A4, c4, rfl, hc4, hC4⟩ := Kd.R_reads hP4; obtain ⟨A5, c5, rfl, hc5, hC5⟩ := Kd.R_reads hW4; have HC4 := Aside0.mk hC4; have HK4 := Aside0.mk hc4; have HB4 := Aside0.mk (below_step HB2.out hb4); have HX4 := Aside0.mk ((hb4.block _ (blk_lt HX2.out)).trans HX2.out); clear hj0 hj1 hj2; have hi0 := blk_cell HX4.out 0; simp only [List.getElem?_toArray, List.getElem?_cons_zero, List.getElem?_cons_succ] at hi0; clear hP4 hW4 hc4 hc5 hC4 hC5 hb4))
  clear HX HX1 HX2 HB1 HB2 HBA hi0
  go_loopw [40] (fun s40 wr => ∃ (k : Nat), k ≤ l0.length ∧ s40 = .int .i64 k ∧ Aside0 (Below w4.heap.size w4 wr))
    (fun s40 _ => l0.length - (intOf s40).toNat)
  case atStart => exact ⟨0, Nat.zero_le _, rfl, ⟨Below.refl _ w4⟩⟩
  case round =>
    obtain ⟨k, hk, rfl, HB⟩ := hrel
    have HXK := Aside0.mk ((HB.out.block _ (blk_lt HX4.out)).trans HX4.out)
    have HBW := Aside0.mk (below_step HB4.out HB.out)
    by_cases hlt : k < l0.length
    case neg =>
      obtain rfl : k = l0.length := by omega
      have hq0 := blk_cell HXK.out 0
      have hq1 := blk_cell HXK.out 1
      have hq2 := blk_cell HXK.out 2
      simp only [List.getElem?_toArray, List.getElem?_cons_zero, List.getElem?_cons_succ] at hq0 hq1 hq2
      clear hlt hk
      by_cases hl0 : l0.length = 0
      · have hz : ((l0.length : Int) == 0) = true := by simp [hl0]
        have hz2 : (l0.length == 0) = true := by simp [hl0]
        clear hl0
        go_wp2
        go_ret
        exact ⟨rfl, HBW.out⟩
      · obtain ⟨l', w', P', W', hwo, hpk, hle, hsl⟩ := HLA.out (by omega)
        have hz : ((l0.length : Int) == 0) = false := by simp only [beq_eq_false_iff_ne]; omega
        have hz2 : (l0.length == 0) = false := by simp only [beq_eq_false_iff_ne]; omega
        have HWO := Aside0.mk hwo
        have HPK := Aside0.mk hpk
        have HSL := Aside0.mk hsl
        have HLE := Aside0.mk hle
        have hle1 : decide ((P'.length : Int) ≤ (P.length : Int)) = true := decide_eq_true (by omega)
        have hle2 : decide (P'.length ≤ P.length) = true := decide_eq_true hle
        obtain ⟨i1, hi1, _, _, _⟩ := info_parts info31B
        have hcut := cut_to (P := Tryd.prog) 26 31 .i64 Tryd.underlying26 hi1 A4 P.length c4 (P'.length : Int) (by omega) (by omega) HK4.out
        rw [Int.toNat_natCast] at hcut
        have HQX := HB
        have HBX := HBW
        have hl1 : 1 ≤ l0.length := by omega
        clear hwo hpk hsl hle hl0 HB HBW hi1
        go_wp2_with (first
    | (go_at_call 55; refine (mainsheetlaw19_Ask_without.calls w A0 c0 l0 A1 c1 l1 a ((l0.length : Int) - 1) l' w' a _ HR0.out HBX.out HC0.out (Kd.C_below HR1.out HBX.out) HC1.out HWO.out).mono ?_; rintro e w7 ⟨v7, v8, rfl, hS7, hR8, hb7⟩; obtain ⟨A7, c7, rfl, hc7, hC7⟩ := Kd.R_reads (Kd.S_R hS7); obtain ⟨A8, c8, rfl, hc8, hC8⟩ := Kd.R_reads hR8; have HB7 := Aside0.mk (below_step HBX.out hb7); have HQ7 := Aside0.mk (below_step HQX.out hb7); have HC7 := Aside0.mk (fixed_C HB7.out hC7); have HC8 := Aside0.mk hC8; have HK7 := Aside0.mk hc7; have HK8 := Aside0.mk hc8; clear hq0 hq1 hq2 hS7 hR8 hc7 hc8 hC7 hC8 hb7)
    | (go_at_call 20; refine (pick_Pick.calls A7 c7 l' A8 c8 w' a P' W' 0 _ (Kd.C_alloc HC7.out _) HK7.out (Kd.C_alloc HC8.out _) HK8.out (HTA.out.step (below_alloc HB7.out _)) HPK.out).mono ?_; rintro e w9 ⟨v9, u9, rfl, hP9, hW9, hb9⟩; obtain ⟨A9, c9, rfl, hc9, hC9⟩ := Kd.R_reads hP9; obtain ⟨Aw, cw, rfl, hcw, hCw⟩ := Kd.R_reads hW9; have HC9 := Aside0.mk hC9; have HK9 := Aside0.mk hc9; have HB9 := Aside0.mk (below_step (below_alloc HB7.out _) hb9); have HQ9 := Aside0.mk (below_step (below_alloc HQ7.out _) hb9); clear hP9 hW9 hc9 hcw hC9 hCw hb9)
    | (go_at_call 56; refine (same_call K A9 c9 P' A4 c4 (P.take P'.length) P'.length true _ (by rw [List.length_take]; exact Nat.min_eq_left HLE.out) HC9.out HK9.out (Kd.C_take (Kd.C_below HC4.out HQ9.out) HLE.out) (by have := HLE.out; have := HK4.out; omega) HSL.out).mono ?_; rintro e w10 ⟨rfl, ⟨n1, rfl⟩⟩))
        go_ret
        exact ⟨rfl, pw_below_drewN HB9.out _⟩
    case pos =>
      obtain ⟨ad, Am, cm, rfl, hx0, hx1, hx2, hx3, hx4, hx5, hcm, hCm⟩ := at_T90 HR0.out (k : Int) (by omega) (by omega)
      rw [Int.toNat_natCast] at hx0 hx1 hx2 hx3 hx4 hx5
      replace hx0 := pw_cell_below HBW.out hx0
      replace hx1 := pw_cell_below HBW.out hx1
      replace hx2 := pw_cell_below HBW.out hx2
      replace hx3 := pw_cell_below HBW.out hx3
      replace hx4 := pw_cell_below HBW.out hx4
      replace hx5 := pw_cell_below HBW.out hx5
      have hxe := HNE.out _ (ent_inW l0 k hlt)
      have hlo := HLO.out k hlt
      generalize rd_T90 l0 (k : Int) = x at *
      obtain ⟨ms, ⟨⟨t1, t2⟩, t3⟩, t4, t5⟩ := x
      simp only at hx0 hx1 hx2 hx3 hx4 hx5 hcm hCm hxe
      obtain ⟨ai, rfl, hv0⟩ := Kd.at_int (Kd.C_below hCm HBW.out) (0 : Int) (by omega) (by omega)
      have ea : ai.add (0 : Int).toNat = ai := by unfold Addr.add; simp
      rw [ea] at hv0
      have hB5 := HB.out.alloc HB.out.size (.cells #[.slice (some ai) ms.length cm, .int .u64 t1, .int .u64 t2, .int .u64 t3, .int .u64 t4, .bool t5] 90)
      have HB5 := Aside0.mk hB5
      have hv0' := pw_cell_below ((Below.refl wr.heap.size wr).alloc (Nat.le_refl _) (.cells #[.slice (some ai) ms.length cm, .int .u64 t1, .int .u64 t2, .int .u64 t3, .int .u64 t4, .bool t5] 90)) hv0
      have hov : pick_On.f P (rd ms 0) = some ((onP P (rd ms 0)).1, onB P ⟨ms, ⟨⟨t1, t2⟩, t3⟩, t4, t5⟩) := by unfold pick_On.f; rw [if_pos HPM.out]; rfl
      have HXL := Aside0.mk (blk_alloc HXK.out (.cells #[.slice (some ai) ms.length cm, .int .u64 t1, .int .u64 t2, .int .u64 t3, .int .u64 t4, .bool t5] 90))
      clear ea hCm hB5 hv0
      cases hb : onB P ⟨ms, ⟨⟨t1, t2⟩, t3⟩, t4, t5⟩ with
      | true =>
        rw [hb] at hov
        have HOV := Aside0.mk hov
        clear hov hlo hb
        go_wp2_with (go_at_call 24; refine (pick_On.calls A4 c4 P (rd ms 0) (onP P (rd ms 0)).1 true _ (Kd.C_below HC4.out HB5.out) HK4.out HOV.out).mono ?_; rintro e w6 ⟨rfl, hb6⟩; have HB6 := Aside0.mk (below_step HB5.out hb6); clear hb6)
        go_roundw
        case measure => simp only [intOf]; omega
        case rel => exact ⟨k + 1, by omega, by go_num, HB6⟩
      | false =>
        obtain ⟨l', w', W', hwo, hpk⟩ := hlo hb
        rw [hb] at hov
        have HOV := Aside0.mk hov
        have HWO := Aside0.mk hwo
        have HPK := Aside0.mk hpk
        clear hov hlo hb hwo hpk
        go_wp2_with (first
    | (go_at_call 24; refine (pick_On.calls A4 c4 P (rd ms 0) (onP P (rd ms 0)).1 false _ (Kd.C_below HC4.out HB5.out) HK4.out HOV.out).mono ?_; rintro e w6 ⟨rfl, hb6⟩; have HQX := Aside0.mk (below_step HB5.out hb6); have HBX := Aside0.mk (below_step HB4.out HQX.out); have hx6 := (hb6.block _ (blk_lt HXL.out)).trans HXL.out; have hg0 := blk_cell hx6 0; have hg1 := blk_cell hx6 1; have hg2 := blk_cell hx6 2; simp only [List.getElem?_toArray, List.getElem?_cons_zero, List.getElem?_cons_succ] at hg0 hg1 hg2; clear hb6 hx6)
    | (go_at_call 55; refine (mainsheetlaw19_Ask_without.calls w (some ad) c0 l0 A1 c1 l1 a (k : Int) l' w' a _ HR0.out HBX.out HC0.out (Kd.C_below HR1.out HBX.out) HC1.out HWO.out).mono ?_; rintro e w7 ⟨v7, v8, rfl, hS7, hR8, hb7⟩; obtain ⟨A7, c7, rfl, hc7, hC7⟩ := Kd.R_reads (Kd.S_R hS7); obtain ⟨A8, c8, rfl, hc8, hC8⟩ := Kd.R_reads hR8; have HB7 := Aside0.mk (below_step HBX.out hb7); have HQ7 := Aside0.mk (below_step HQX.out hb7); have HC7 := Aside0.mk (fixed_C HB7.out hC7); have HC8 := Aside0.mk hC8; have HK7 := Aside0.mk hc7; have HK8 := Aside0.mk hc8; clear hg0 hg1 hg2 hS7 hR8 hc7 hc8 hC7 hC8 hb7)
    | (go_at_call 20; refine (pick_Pick.calls A7 c7 l' A8 c8 w' a P W' 0 _ (Kd.C_alloc HC7.out _) HK7.out (Kd.C_alloc HC8.out _) HK8.out (HTA.out.step (below_alloc HB7.out _)) HPK.out).mono ?_; rintro e w9 ⟨v9, u9, rfl, hP9, hW9, hb9⟩; obtain ⟨A9, c9, rfl, hc9, hC9⟩ := Kd.R_reads hP9; obtain ⟨Aw, cw, rfl, hcw, hCw⟩ := Kd.R_reads hW9; have HC9 := Aside0.mk hC9; have HK9 := Aside0.mk hc9; have HB9 := Aside0.mk (below_step (below_alloc HB7.out _) hb9); have HQ9 := Aside0.mk (below_step (below_alloc HQ7.out _) hb9); clear hP9 hW9 hc9 hcw hC9 hCw hb9)
    | (go_at_call 56; refine (mainsheetlaw19_same.calls K A9 c9 P A4 c4 P true _ HC9.out HK9.out (Kd.C_below HC4.out HQ9.out) HK4.out HSM.out).mono ?_; rintro e w10 ⟨rfl, ⟨n1, rfl⟩⟩))
        go_roundw
        case measure => simp only [intOf]; omega
        case rel => exact ⟨k + 1, by omega, by go_num, ⟨pw_below_drewN HQ9.out _⟩⟩
end Go.Proofs.YtdmieaidheelbaaDoor.Q
end
/- PickFacts -/
section
/- What the turns of pick.Pick are: who is where, what is free when. Lists and numbers alone. -/
namespace Go.Proofs.YtdmieaidheelbaaDoor.Q
open Go Go.RowKit Go.Proofs.YtdmieaidheelbaaDoorW.PrintWords Go.Proofs.YtdmieaidheelbaaDoorW.PrintLast Go.Proofs.YtdmieaidheelbaaDoorW.PrintMore
set_option linter.unusedVariables false
set_option linter.unusedSimpArgs false

abbrev Turns := List (Ent × Option (List Int))
section
variable {l0 : List Ent} {w : List S36} (hs : Shape l0 w)
include hs
theorem wish_unique : ∀ x ∈ w, ∀ y ∈ w, x.f0 = y.f0 → x = y := by
  have h := hs.wrise
  clear hs
  induction w with
  | nil => intro x hx; simp at hx
  | cons z w ih =>
    obtain ⟨h1, h2⟩ := List.pairwise_cons.1 h
    intro x hx y hy e
    rcases List.mem_cons.1 hx with rfl | hx2
    · rcases List.mem_cons.1 hy with rfl | hy2
      · rfl
      · have := h1 y hy2; omega
    · rcases List.mem_cons.1 hy with e2 | hy2
      · subst e2; have := h1 x hx2; omega
      · exact ih h2 x hx2 y hy2 e
theorem wishOf_eq (y : S36) (hy : y ∈ w) : wishOf w y.f0 = y := by
  have hm : y ∈ wishesN w [y.f0] := List.mem_filter.2 ⟨hy, by simp⟩
  unfold wishOf
  match hq : wishesN w [y.f0], hm with
  | z :: rest, hm =>
    have hz : z ∈ wishesN w [y.f0] := by rw [hq]; simp
    obtain ⟨z1, z2⟩ := List.mem_filter.1 hz
    exact wish_unique hs z z1 y hy (by simpa using z2)
theorem wishes_get (x : Ent) (hx : x ∈ l0) (j : Nat) (hj : j < x.f0.length) : ∃ h : j < (wishesN w x.f0).length, (wishesN w x.f0)[j] = wishOf w x.f0[j] := by
  have hl := hs.wishes_len x hx
  refine ⟨by omega, ?_⟩
  have hm0 : (wishesN w x.f0)[j]'(by omega) ∈ wishesN w x.f0 := List.getElem_mem _
  have hm : (wishesN w x.f0)[j]'(by omega) ∈ w := (List.mem_filter.1 hm0).1
  have hf : ((wishesN w x.f0)[j]'(by omega)).f0 = x.f0[j] := by
    have := hs.wishes x hx
    have h2 : ((wishesN w x.f0).map (·.f0))[j]? = x.f0[j]? := by rw [this]
    rw [List.getElem?_map, List.getElem?_eq_getElem (show j < (wishesN w x.f0).length by omega), List.getElem?_eq_getElem hj] at h2
    simpa using h2
  rw [← hf]; exact (wishOf_eq hs _ hm).symm
end
def mayN (w : List S36) (v : Int) (free : Nat) : Nat := allowsN (wishOf w v).f2.f0.toNat (wishOf w v).f2.f1.toNat free
structure Took (w : List S36) (free : Nat) (x : Ent) (m : List Int) : Prop where
  len : m.length = x.f0.length
  nodup : m.Nodup
  may : ∀ j (h : j < x.f0.length), hasN (mayN w x.f0[j] free) (m.getD j 0) = true
theorem sdr_nodup (rows : List (List Int)) (f : List Int) (h : Sdr rows [] f) : f.Nodup := by
  obtain ⟨hl, _⟩ := sdr_mem rows [] f h
  have h2 := (sdr_fun rows [] f h).2
  rw [List.nodup_iff_pairwise_ne, List.pairwise_iff_getElem]
  intro i j hi hj hij e
  have := h2 i j (by omega) (by omega) (by simpa [List.getD_eq_getElem?_getD, hi, hj] using e)
  omega
theorem took {l0 : List Ent} {w : List S36} (hs : Shape l0 w) (x : Ent) (hx : x ∈ l0) (free : Nat) (m : List Int) (h : atOf w free x = some m) : Took w free x m := by
  have hw := hs.wishes_len x hx
  have hlen := (hs.len x hx).1
  obtain ⟨r1, r2⟩ := at_range w free x hw m h (by omega)
  unfold atOf at h
  split at h
  case isFalse => cases h
  case isTrue ht =>
  have hm := Option.some.inj h
  clear h
  unfold takesP at ht hm
  by_cases h1 : 1 < (wishesN w x.f0).length
  · rw [if_pos h1] at ht hm
    unfold matchP at ht hm
    cases hq : matchFrom ((wishesN w x.f0).map (choicesN free)) [] with
    | none => rw [hq] at ht; cases ht
    | some m' =>
      rw [hq] at hm
      obtain rfl : m' = m := hm
      obtain ⟨f, e, hf⟩ := match_sdr _ _ _ hq
      rw [List.nil_append] at e
      subst e
      refine ⟨r1, sdr_nodup _ _ hf, fun j hj => ?_⟩
      obtain ⟨hl, hmm⟩ := sdr_mem _ _ _ hf
      obtain ⟨g1, g2⟩ := wishes_get hs x hx j hj
      have := hmm j (by omega)
      unfold rowAt at this
      rw [List.getD_eq_getElem?_getD, List.getElem?_map, List.getElem?_eq_getElem g1, g2] at this
      have h3 : m'[j]'(by omega) ∈ choicesM (wishOf w x.f0[j]).f2.f0.toNat (wishOf w x.f0[j]).f2.f1.toNat free (wishOf w x.f0[j]).f1 := this
      rw [mem_choicesM] at h3
      rw [List.getD_eq_getElem?_getD, List.getElem?_eq_getElem (by omega)]
      exact h3
  · rw [if_neg h1] at ht hm
    obtain ⟨g1, g2⟩ := wishes_get hs x hx 0 (by omega)
    match hws : wishesN w x.f0, hw, h1 with
    | [], hw, _ => simp at hw; omega
    | [y], hw, _ =>
      simp only [hws] at ht hm g2
      have hb := best_range _ _ _ _ ht
      obtain rfl : [_] = m := hm
      refine ⟨r1, by simp, fun j hj => ?_⟩
      have hj0 : j = 0 := by simp at hw; omega
      subst hj0
      have g3 : y = wishOf w x.f0[0] := by simpa using g2
      unfold mayN
      rw [← g3]
      exact hb
    | _ :: _ :: _, _, h1 => simp at h1
def freeAt (w : List S36) : Nat → List Ent → Nat → Nat
  | free, [], _ => free
  | free, _ :: _, 0 => free
  | free, x :: l, i + 1 => freeAt w (lessAll free ((atOf w free x).getD [])) l i
theorem turns_get (w : List S36) (l : List Ent) : ∀ (free i : Nat) (h : i < l.length), (pickTurns w free l)[i]? = some (l[i], atOf w (freeAt w free l i) l[i]) := by
  induction l with
  | nil => intro free i h; simp at h
  | cons x l ih =>
    intro free i h
    cases i with
    | zero => rfl
    | succ i =>
      rw [pickTurns, List.getElem?_cons_succ, ih _ i (by simpa using h)]
      rfl
theorem find_zip_none (v : Int) : ∀ (vs cs : List Int), v ∉ vs → (zipP vs cs).find? (fun x => x.f0 == v) = none := by
  intro vs
  induction vs with
  | nil => intro cs _; rfl
  | cons u vs ih =>
    intro cs hv
    cases cs with
    | nil => rfl
    | cons c cs =>
      have hu : (u == v) = false := by simp at hv ⊢; omega
      show List.find? _ (⟨u, c⟩ :: zipP vs cs) = none
      rw [List.find?_cons]
      simp only [hu]
      exact ih cs (fun h => hv (by simp [h]))
theorem find_zip : ∀ (vs cs : List Int), vs.Nodup → vs.length = cs.length → ∀ j (h : j < vs.length), (zipP vs cs).find? (fun x => x.f0 == vs[j]) = some ⟨vs[j], cs.getD j 0⟩ := by
  intro vs
  induction vs with
  | nil => intro cs _ _ j h; simp at h
  | cons u vs ih =>
    intro cs hn hl j h
    cases cs with
    | nil => simp at hl
    | cons c cs =>
      obtain ⟨h1, h2⟩ := List.nodup_cons.1 hn
      cases j with
      | zero => show List.find? _ (⟨u, c⟩ :: zipP vs cs) = _; rw [List.find?_cons]; simp
      | succ j =>
        have hj : j < vs.length := by simpa using h
        have hu : (u == vs[j]) = false := by
          simp only [beq_eq_false_iff_ne]
          intro e; exact h1 (e ▸ List.getElem_mem hj)
        show List.find? (fun x => x.f0 == vs[j]) (⟨u, c⟩ :: zipP vs cs) = _
        rw [List.find?_cons]
        simp only [hu]
        rw [ih cs h2 (by simpa using hl) j hj]
        simp
def TsOk (ts : Turns) : Prop := (∀ p ∈ ts, p.1.f0.Nodup ∧ ∀ m, p.2 = some m → m.length = p.1.f0.length) ∧ ts.Pairwise (fun p q => ∀ v ∈ p.1.f0, v ∉ q.1.f0)
theorem puts_cons (p : Ent × Option (List Int)) (ts : Turns) : pickPuts (p :: ts) = putsP p ++ pickPuts ts := by simp [pickPuts]
theorem find_none_ts (v : Int) : ∀ (ts : Turns), (∀ p ∈ ts, v ∉ p.1.f0) → (pickPuts ts).find? (fun x => x.f0 == v) = none := by
  intro ts
  induction ts with
  | nil => intro _; rfl
  | cons p ts ih =>
    intro h
    rw [puts_cons, List.find?_append, ih (fun q hq => h q (by simp [hq]))]
    have hp := h p (by simp)
    unfold putsP
    cases p.2 with
    | none => rfl
    | some m => simp [find_zip_none v _ _ hp]
theorem on_ts : ∀ (ts : Turns), TsOk ts → ∀ p ∈ ts, ∀ j (h : j < p.1.f0.length), onP (pickPuts ts) p.1.f0[j] = match p.2 with | none => (0, false) | some m => (m.getD j 0, true) := by
  intro ts
  induction ts with
  | nil => intro _ p hp; simp at hp
  | cons q ts ih =>
    intro ⟨h1, h2⟩ p hp j hj
    obtain ⟨h3, h4⟩ := List.pairwise_cons.1 h2
    rcases List.mem_cons.1 hp with rfl | hp
    · have hn := (h1 p (by simp)).1
      unfold onP
      rw [puts_cons, List.find?_append, find_none_ts _ ts (fun r hr => h3 r hr _ (List.getElem_mem hj))]
      unfold putsP
      cases hq : p.2 with
      | none => rfl
      | some m =>
        have hl := (h1 p (by simp)).2 m hq
        simp only
        rw [find_zip _ _ hn hl.symm j hj]
        rfl
    · have := ih ⟨fun r hr => h1 r (by simp [hr]), h4⟩ p hp j hj
      rw [← this]
      unfold onP
      rw [puts_cons, List.find?_append]
      have hv : p.1.f0[j] ∉ q.1.f0 := fun hm => h3 p hp _ hm (List.getElem_mem hj)
      have : (putsP q).find? (fun x => x.f0 == p.1.f0[j]) = none := by
        unfold putsP
        cases q.2 with
        | none => rfl
        | some m => exact find_zip_none _ _ _ hv
      rw [this]; rfl
theorem turns_ok {l0 : List Ent} {w : List S36} (hs : Shape l0 w) (free : Nat) (l : List Ent) (hl : ∀ x ∈ l, x ∈ l0) (hp : l.Pairwise (fun x y => ∀ v ∈ x.f0, v ∉ y.f0)) : TsOk (pickTurns w free l) := by
  induction l generalizing free with
  | nil => exact ⟨by simp [pickTurns], List.Pairwise.nil⟩
  | cons x l ih =>
    obtain ⟨h1, h2⟩ := List.pairwise_cons.1 hp
    obtain ⟨g1, g2⟩ := ih (lessAll free ((atOf w free x).getD [])) (fun y hy => hl y (by simp [hy])) h2
    refine ⟨fun p hp => ?_, List.pairwise_cons.2 ⟨fun p hp => ?_, g2⟩⟩
    · rcases List.mem_cons.1 hp with rfl | hp
      · exact ⟨rising_nodup (hs.rise x (hl x (by simp))), fun m hm => (took hs x (hl x (by simp)) free m hm).len⟩
      · exact g1 p hp
    · have : p.1 ∈ (pickTurns w (lessAll free ((atOf w free x).getD [])) l).map (·.1) := List.mem_map.2 ⟨p, hp, rfl⟩
      rw [turns_fst] at this
      exact h1 p.1 this
theorem on_at {l : List Ent} {w : List S36} (hs : Shape l w) (free i : Nat) (hi : i < l.length) (j : Nat) (hj : j < l[i].f0.length) :
    onP (pickPuts (pickTurns w free l)) l[i].f0[j] = match atOf w (freeAt w free l i) l[i] with | none => (0, false) | some m => (m.getD j 0, true) := by
  have h := turns_get w l free i hi
  have hm := List.mem_of_getElem? h
  exact on_ts _ (turns_ok hs free l (fun _ h => h) hs.apart) _ hm j hj
end Go.Proofs.YtdmieaidheelbaaDoor.Q
end
/- PlaceWM -/
section
/- place.Waits and place.Moves by their contracts. -/
namespace Go.Proofs.YtdmieaidheelbaaDoor.Q
open Go Go.RowKit Go.Shelf Go.Proofs.YtdmieaidheelbaaDoor.Rng Go.Proofs.YtdmieaidheelbaaDoorW.PrintWords Go.Proofs.YtdmieaidheelbaaDoorW.PrintLast Go.Proofs.YtdmieaidheelbaaDoorW.PrintMore
set_option linter.unusedVariables false
set_option linter.unusedSimpArgs false
attribute [local go_sem] Oper.semAt_some

end Go.Proofs.YtdmieaidheelbaaDoor.Q
end
/- QFlaw19PickAlone -/
section
namespace Go.Proofs.YtdmieaidheelbaaDoor.Q
open Go.RowKit Go.Proofs.YtdmieaidheelbaaDoorW.PrintWords Go.Proofs.YtdmieaidheelbaaDoorW.PrintLast Go.Proofs.YtdmieaidheelbaaDoorW.PrintMore
attribute [local go_sem] max2_int min2_int max_two min_two max_three min_three max_four min_four
set_option linter.unusedVariables false
set_option linter.unusedSimpArgs false

end Go.Proofs.YtdmieaidheelbaaDoor.Q
end
/- PurePickAlone -/
section
/- PickAlone, the plain law. -/
namespace Go.Proofs.YtdmieaidheelbaaDoor.Q
open Go Go.RowKit Go.Proofs.YtdmieaidheelbaaDoorW.PrintWords Go.Proofs.YtdmieaidheelbaaDoorW.PrintLast Go.Proofs.YtdmieaidheelbaaDoorW.PrintMore
set_option linter.unusedVariables false
set_option linter.unusedSimpArgs false

theorem same19_loop (a : List S31) (hl : a.length ≤ 1000000) (d : Nat) : ∀ (k i : Nat), i + d = a.length → d < k → mainsheetlaw19_same.l0 k a a (a.length : Int) (i : Int) = some true := by
  induction d with
  | zero =>
    intro k i hi hk
    obtain ⟨k, rfl⟩ : ∃ m, k = m + 1 := ⟨k - 1, by omega⟩
    rw [mainsheetlaw19_same.l0, if_neg (by omega)]
  | succ d ih =>
    intro k i hi hk
    obtain ⟨k, rfl⟩ : ∃ m, k = m + 1 := ⟨k - 1, by omega⟩
    rw [mainsheetlaw19_same.l0, if_pos (by omega), if_pos (by omega), if_pos (by omega), if_pos (by omega), if_neg (by simp), w64 _ (by omega) (by omega), show (i : Int) + 1 = ((i + 1 : Nat) : Int) by omega, ih k (i + 1) (by omega) (by omega)]
theorem same19_refl (a : List S31) (hl : a.length ≤ 1000000) (k : Nat) (hk : a.length < k) : mainsheetlaw19_same.f k a a = some true := by
  unfold mainsheetlaw19_same.f
  rw [if_pos rfl]
  exact same19_loop a hl a.length k 0 (by omega) hk

def OwnOk (x : S36) : Prop := 1 ≤ x.f0 ∧ x.f0 ≤ 16 ∧ -1 ≤ x.f1 ∧ x.f1 < 8 ∧ okM x.f2 = true
def Apart (x y : S36) : Prop := x.f0 ≠ y.f0 ∧ (-1 < x.f1 → x.f1 ≠ y.f1)
def GoodFrom (ms ts : List Bool) (l : List S36) : Prop := (∀ x ∈ l, OwnOk x ∧ ms.getD x.f0.toNat false = false ∧ (-1 < x.f1 → ts.getD x.f1.toNat false = false)) ∧ l.Pairwise Apart
theorem badWish_iff (ms ts : List Bool) (x : S36) : badWish ms ts x = false ↔ OwnOk x ∧ ms.getD x.f0.toNat false = false ∧ (-1 < x.f1 → ts.getD x.f1.toNat false = false) := by
  unfold badWish OwnOk
  simp only [Bool.or_eq_false_iff, decide_eq_false_iff_not, Bool.not_eq_false', Bool.and_eq_false_iff]
  constructor
  · rintro ⟨⟨⟨⟨⟨⟨h1, h2⟩, h3⟩, h4⟩, h5⟩, h6⟩, h7⟩
    exact ⟨⟨by omega, by omega, by omega, by omega, h6⟩, h3, fun h => h7.resolve_left (fun g => g h)⟩
  · rintro ⟨⟨h1, h2, h4, h5, h6⟩, h3, h7⟩
    refine ⟨⟨⟨⟨⟨⟨by omega, by omega⟩, h3⟩, by omega⟩, by omega⟩, h6⟩, ?_⟩
    by_cases g : -1 < x.f1
    · exact .inr (h7 g)
    · exact .inl g
theorem getD_set (bs : List Bool) (i j : Nat) (hi : i < bs.length) : (bs.set i true).getD j false = (bs.getD j false || decide (i = j)) := by
  rw [List.getD_eq_getElem?_getD, List.getElem?_set, List.getD_eq_getElem?_getD]
  by_cases e : i = j
  · subst e; rw [if_pos rfl, if_pos hi]; simp
  · rw [if_neg e]; simp [e]
theorem good_iff (l : List S36) : ∀ (ms ts : List Bool), ms.length = 17 → ts.length = 8 → (checkFrom ms ts l = 0 ↔ GoodFrom ms ts l) := by
  induction l with
  | nil => intro ms ts _ _; exact ⟨fun _ => ⟨by simp, List.Pairwise.nil⟩, fun _ => rfl⟩
  | cons x l ih =>
    intro ms ts hm ht
    rw [checkFrom]
    by_cases hb : badWish ms ts x = false
    · rw [if_neg (by simp [hb])]
      have hx := (badWish_iff ms ts x).1 hb
      obtain ⟨⟨o1, o2, o3, o4, o5⟩, hx2, hx3⟩ := hx
      have hl2 : (if -1 < x.f1 then ts.set x.f1.toNat true else ts).length = 8 := by split <;> simp [ht]
      rw [ih (ms.set x.f0.toNat true) _ (by simp [hm]) hl2]
      constructor
      · rintro ⟨g1, g2⟩
        refine ⟨fun y hy => ?_, List.pairwise_cons.2 ⟨fun y hy => ?_, g2⟩⟩
        · rcases List.mem_cons.1 hy with rfl | hy
          · exact ⟨⟨o1, o2, o3, o4, o5⟩, hx2, hx3⟩
          · obtain ⟨q1, q2, q3⟩ := g1 y hy
            rw [getD_set _ _ _ (by omega)] at q2
            simp only [Bool.or_eq_false_iff] at q2
            refine ⟨q1, q2.1, fun h => ?_⟩
            have := q3 h
            split at this
            · rw [getD_set _ _ _ (by omega)] at this
              simp only [Bool.or_eq_false_iff] at this
              exact this.1
            · exact this
        · obtain ⟨⟨p1, p2, p3, p4, p5⟩, q2, q3⟩ := g1 y hy
          rw [getD_set _ _ _ (by omega)] at q2
          simp only [Bool.or_eq_false_iff, decide_eq_false_iff_not] at q2
          refine ⟨fun e => q2.2 (by rw [e]), fun h e => ?_⟩
          have := q3 (by omega)
          rw [if_pos h, getD_set _ _ _ (by omega)] at this
          simp only [Bool.or_eq_false_iff, decide_eq_false_iff_not] at this
          exact this.2 (by rw [e])
      · rintro ⟨g1, g2⟩
        obtain ⟨g3, g4⟩ := List.pairwise_cons.1 g2
        refine ⟨fun y hy => ?_, g4⟩
        obtain ⟨⟨p1, p2, p3, p4, p5⟩, q2, q3⟩ := g1 y (by simp [hy])
        obtain ⟨a1, a2⟩ := g3 y hy
        refine ⟨⟨p1, p2, p3, p4, p5⟩, ?_, fun h => ?_⟩
        · rw [getD_set _ _ _ (by omega), q2, decide_eq_false (by omega)]; rfl
        · split
          · next hx => rw [getD_set _ _ _ (by omega), q3 h, decide_eq_false (by have := a2 hx; omega)]; rfl
          · exact q3 h
    · have hb' : badWish ms ts x = true := by simpa using hb
      rw [if_pos hb']
      exact ⟨(fun h => by cases h), (fun h => absurd ((badWish_iff ms ts x).2 (h.1 x (by simp))) hb)⟩
theorem pair_any {α : Type} {R : α → α → Prop} (hs : ∀ x y, R x y → R y x) : ∀ {l : List α}, l.Pairwise R → ∀ x ∈ l, ∀ y ∈ l, x ≠ y → R x y := by
  intro l
  induction l with
  | nil => intro _ x hx; simp at hx
  | cons z l ih =>
    intro h x hx y hy hne
    obtain ⟨h1, h2⟩ := List.pairwise_cons.1 h
    rcases List.mem_cons.1 hx with e | hx2
    · subst e
      rcases List.mem_cons.1 hy with e | hy
      · exact absurd e.symm hne
      · exact h1 y hy
    · rcases List.mem_cons.1 hy with e | hy
      · subst e; exact hs _ _ (h1 x hx2)
      · exact ih h2 x hx2 y hy hne
theorem apart_symm (x y : S36) (h : Apart x y) : Apart y x := ⟨fun e => h.1 e.symm, fun g e => h.2 (by omega) e.symm⟩
theorem check_some {w row : List S36} (h : checkFrom (List.replicate 17 false) (List.replicate 8 false) w = 0) (hr : ∀ x ∈ row, x ∈ w) (hd : row.Pairwise (fun x y => x.f0 ≠ y.f0)) : checkFrom (List.replicate 17 false) (List.replicate 8 false) row = 0 := by
  obtain ⟨g1, g2⟩ := (good_iff w _ _ (by simp) (by simp)).1 h
  refine (good_iff row _ _ (by simp) (by simp)).2 ⟨fun x hx => g1 x (hr x hx), ?_⟩
  exact hd.imp_of_mem (fun {x y} hx hy e => pair_any apart_symm g2 x (hr x hx) y (hr y hy) (fun q => e (by rw [q])))

end Go.Proofs.YtdmieaidheelbaaDoor.Q
end
/- PureBack -/
section
/- PickBack, the plain law, joined to the law's walk. -/
namespace Go.Proofs.YtdmieaidheelbaaDoor.Q
open Go Go.RowKit Go.Proofs.YtdmieaidheelbaaDoorW.PrintWords Go.Proofs.YtdmieaidheelbaaDoorW.PrintLast Go.Proofs.YtdmieaidheelbaaDoorW.PrintMore
set_option linter.unusedVariables false
set_option linter.unusedSimpArgs false
set_option linter.unusedSectionVars false

theorem members_append (a b : List Ent) : members (a ++ b) = members a ++ members b := by simp [members]
theorem split_at (l : List Ent) (i : Nat) (hi : i < l.length) : l = l.take i ++ l[i] :: l.drop (i + 1) := by
  rw [← List.drop_eq_getElem_cons hi, List.take_append_drop]
theorem erase_at (l : List Ent) (i : Nat) : l.eraseIdx i = l.take i ++ l.drop (i + 1) := List.eraseIdx_eq_take_drop_succ ..
theorem filter_parts (p : S36 → Bool) : ∀ w : List S36, (w.filter p).length + (w.filter fun x => !p x).length = w.length := by
  intro w
  induction w with
  | nil => rfl
  | cons x w ih =>
    rw [List.filter_cons, List.filter_cons]
    cases p x <;> simp <;> omega
section
variable {l : List Ent} {w : List S36} (hs : Shape l w) (i : Nat) (hi : i < l.length)
include hs
theorem apart_at (x : Ent) (hx : x ∈ l.eraseIdx i) : ∀ v ∈ x.f0, v ∉ l[i].f0 := by
  have h := hs.apart
  rw [split_at l i hi] at h
  obtain ⟨h1, h2, h3⟩ := List.pairwise_append.1 h
  obtain ⟨h4, h5⟩ := List.pairwise_cons.1 h2
  rw [erase_at] at hx
  intro v hv hn
  rcases List.mem_append.1 hx with hx | hx
  · exact h3 x hx l[i] List.mem_cons_self v hv hn
  · exact h4 x hx v hn hv
theorem shape_less : Shape (l.eraseIdx i) (stays l[i].f0 w) := by
  have hmem : ∀ x ∈ l.eraseIdx i, x ∈ l := fun x hx => List.mem_of_mem_eraseIdx hx
  refine ⟨fun x hx => hs.len x (hmem x hx), fun x hx => hs.rise x (hmem x hx), fun x hx => hs.range x (hmem x hx), List.Pairwise.sublist (List.eraseIdx_sublist l i) hs.apart, List.Pairwise.filter _ hs.wrise, fun x hx => ?_, ?_⟩
  · obtain ⟨h1, h2⟩ := List.mem_filter.1 hx
    have h3 := hs.wmem x h1
    rw [split_at l i hi, members_append] at h3
    rw [erase_at, members_append]
    have h4 : x.f0 ∉ l[i].f0 := by simpa using h2
    rcases List.mem_append.1 h3 with h | h
    · exact List.mem_append.2 (.inl h)
    · have : members (l[i] :: l.drop (i + 1)) = l[i].f0 ++ members (l.drop (i + 1)) := List.flatMap_cons ..
      rw [this] at h
      rcases List.mem_append.1 h with h | h
      · exact absurd h h4
      · exact List.mem_append.2 (.inr h)
  · have h1 := filter_parts (fun y => decide (y.f0 ∈ l[i].f0)) w
    have h2 := hs.wishes_len l[i] (List.getElem_mem hi)
    have h3 := hs.count
    have h4 : (members l).length = (members (l.eraseIdx i)).length + l[i].f0.length := by
      have : members l = members (l.take i) ++ (l[i].f0 ++ members (l.drop (i + 1))) := by
        conv => lhs; rw [split_at l i hi, members_append]
        exact congrArg _ (List.flatMap_cons ..)
      rw [this, erase_at, members_append]
      simp only [List.length_append]; omega
    have h5 : (stays l[i].f0 w).length = (w.filter fun x => !decide (x.f0 ∈ l[i].f0)).length := by
      unfold stays
      congr 1
      exact List.filter_congr (fun x _ => by simp)
    unfold wishesN at h2
    omega
theorem wishes_less (x : Ent) (hx : x ∈ l.eraseIdx i) : wishesN (stays l[i].f0 w) x.f0 = wishesN w x.f0 := by
  have h := apart_at hs i hi x hx
  unfold wishesN stays
  rw [List.filter_filter]
  exact List.filter_congr (fun y _ => by
    by_cases e : y.f0 ∈ x.f0
    · have := h _ e
      simp [e, this]
    · simp [e])
end
theorem turns_same (w w' : List S36) (L : List Ent) (h : ∀ x ∈ L, wishesN w' x.f0 = wishesN w x.f0) : ∀ free, pickTurns w' free L = pickTurns w free L := by
  induction L with
  | nil => intro free; rfl
  | cons x L ih =>
    intro free
    have e : atOf w' free x = atOf w free x := by unfold atOf; rw [h x (by simp)]
    rw [pickTurns, pickTurns, e, ih (fun y hy => h y (by simp [hy]))]
theorem turns_split (w : List S36) (l : List Ent) : ∀ (free i : Nat) (B : List Ent), i ≤ l.length → pickTurns w free (l.take i ++ B) = pickTurns w free (l.take i) ++ pickTurns w (freeAt w free l i) B := by
  induction l with
  | nil => intro free i B hi
           obtain rfl : i = 0 := by simpa using hi
           rfl
  | cons x l ih =>
    intro free i B hi
    cases i with
    | zero => rfl
    | succ i =>
      show (x, atOf w free x) :: pickTurns w _ (l.take i ++ B) = (x, atOf w free x) :: pickTurns w _ (l.take i) ++ _
      rw [ih _ i B (by simpa using hi)]
      rfl
theorem puts_app (a b : Turns) : pickPuts (a ++ b) = pickPuts a ++ pickPuts b := by simp [pickPuts]
section
variable {l : List Ent} {w : List S36} (hs : Shape l w) (hwf : ∀ x ∈ w, Wf36 x) (hl : l.length ≤ 40) (hw : w.length ≤ 60) (hpc : placeChk w = 0) (a : Int) (h0 : 0 ≤ a) (ha : a < 256)
include hs hwf hl hw hpc h0 ha
theorem pick_less (i : Nat) (hi : i < l.length) : pick_Pick.f (l.eraseIdx i) (stays l[i].f0 w) a = some (pickPuts (pickTurns w a.toNat (l.eraseIdx i)), pickWaits (pickTurns w a.toNat (l.eraseIdx i)), 0) := by
  have hsh := shape_less hs i hi
  have hsub : ∀ x ∈ stays l[i].f0 w, x ∈ w := fun x hx => (List.mem_filter.1 hx).1
  have hlen : (stays l[i].f0 w).length ≤ w.length := List.length_filter_le _ _
  have hle : (l.eraseIdx i).length ≤ l.length := List.length_eraseIdx_le l i
  have hok : okPickArgs (l.eraseIdx i) (stays l[i].f0 w) a := ⟨⟨fun x hx => hwf x (hsub x hx), by omega, by omega⟩, h0, by omega⟩
  have hchk : placeChk (stays l[i].f0 w) = 0 := check_some hpc hsub ((hsh.wrise).imp (fun h => by omega))
  have he : askedP (l.eraseIdx i) (stays l[i].f0 w) a = 0 := askedP_ok.2 ⟨(pickCheck_zero _ _).2 ⟨hsh, hchk⟩, ha⟩
  have ht := turns_same w (stays l[i].f0 w) (l.eraseIdx i) (fun x hx => wishes_less hs i hi x hx) a.toNat
  unfold pick_Pick.f
  rw [if_pos hok, if_pos he, ht]
theorem without_val (i : Nat) (hi : i < l.length) : mainsheetlaw19_Ask_without.f l w a (i : Int) = some (l.eraseIdx i, stays l[i].f0 w, a) := by
  have hok : okWithout l w (i : Int) := by
    refine ⟨by omega, by omega, by omega, by omega, fun x hx => ⟨by have := (hs.len x hx).2; omega, fun v hv => by have := hs.range x hx v hv; omega⟩, fun y hy => ?_⟩
    obtain ⟨x, hx, hv⟩ := List.mem_flatMap.1 (hs.wmem y hy)
    have := hs.range x hx _ hv
    omega
  unfold mainsheetlaw19_Ask_without.f
  rw [if_pos hok, Int.toNat_natCast, rd90_eq l i hi]
theorem back_wait (i : Nat) (hi : i < l.length) (hb : onB (pickPuts (pickTurns w a.toNat l)) l[i] = false) : pickPuts (pickTurns w a.toNat (l.eraseIdx i)) = pickPuts (pickTurns w a.toNat l) := by
  have h1 := (hs.len l[i] (List.getElem_mem hi)).1
  have hon := on_at hs a.toNat i hi 0 (by omega)
  have hr0 : rd l[i].f0 0 = l[i].f0[0]'(by omega) := rd_eq l[i].f0 0 (by omega)
  unfold onB at hb
  rw [hr0, hon] at hb
  have hat : atOf w (freeAt w a.toNat l i) l[i] = none := by
    cases hq : atOf w (freeAt w a.toNat l i) l[i] with
    | none => rfl
    | some m => rw [hq] at hb; cases hb
  have e1 := turns_split w l a.toNat i (l.drop (i + 1)) (by omega)
  have e2 := turns_split w l a.toNat i (l[i] :: l.drop (i + 1)) (by omega)
  rw [← split_at l i hi, pickTurns, hat] at e2
  rw [erase_at, e1, e2, puts_app, puts_app, puts_cons]
  rfl
theorem back_last (hi : 0 < l.length) : ∃ r, pickPuts (pickTurns w a.toNat l) = pickPuts (pickTurns w a.toNat (l.eraseIdx (l.length - 1))) ++ r := by
  have e2 := turns_split w l a.toNat (l.length - 1) (l[l.length - 1] :: l.drop (l.length - 1 + 1)) (by omega)
  rw [← split_at l (l.length - 1) (by omega)] at e2
  have e3 : l.eraseIdx (l.length - 1) = l.take (l.length - 1) := by rw [erase_at, List.drop_eq_nil_of_le (by omega), List.append_nil]
  rw [e2, e3, puts_app]
  exact ⟨_, rfl⟩
end

set_option maxRecDepth 100000 in
set_option maxHeartbeats 20000000 in
theorem back_over (A0 : Option Addr) (c0 : Nat) (l0 : List Ent) (A1 : Option Addr) (c1 : Nat) (l1 : List S36) (a : Int) (w : World) (hr0 : Kd.C k90 w A0 l0.length l0) (hc0 : l0.length ≤ c0) (hr1 : Kd.C k36 w A1 l1.length l1) (hc1 : l1.length ≤ c1) (hT : TabW w) (ho : mainsheetlaw19_Ask_over.f 100 l0 l1 a = some true) :
    Calls Tryd.prog 12 #[.agg #[.slice A0 l0.length c0, .slice A1 l1.length c1, .int .u32 a]] w fun e w' => e = .returned (.bool true) ∧ Below w.heap.size w w' := by
  have hu41 := Tryd.underlying41
  have HR0 := Aside0.mk hr0
  have HR1 := Aside0.mk hr1
  have HC0 := Aside0.mk hc0
  have HC1 := Aside0.mk hc1
  have HO := Aside0.mk ho
  have HBA := Aside0.mk ((Below.refl w.heap.size w).alloc (Nat.le_refl _) (.cells #[.slice A0 l0.length c0, .slice A1 l1.length c1, .int .u32 a] 41))
  have HTA := Aside0.mk (hT.step HBA.out)
  have HX := Aside0.mk (heap_alloc_new w (.cells #[.slice A0 l0.length c0, .slice A1 l1.length c1, .int .u32 a] 41))
  clear hr0 hr1 hc0 hc1 ho hT
  go_enter Tryd.func12, Tryd.ntmps12
  go_wp2_with (first
    | (go_at_call 18; refine (mainsheetlaw19_wakes.calls true _ HTA.out wakes19).mono ?_; rintro e w1 ⟨rfl, hb1⟩; have HB1 := Aside0.mk (below_step HBA.out hb1); have hx1 := (hb1.block _ (blk_lt HX.out)).trans HX.out; have hk0 := blk_cell hx1 0; have hk1 := blk_cell hx1 1; have hk2 := blk_cell hx1 2; simp only [List.getElem?_toArray, List.getElem?_cons_zero, List.getElem?_cons_succ] at hk0 hk1 hk2; clear hb1 hx1)
    | (go_at_call 19; refine (mainsheetlaw19_Ask_over.calls 100 A0 c0 l0 A1 c1 l1 a true _ (Kd.C_below HR0.out HB1.out) HC0.out (Kd.C_below HR1.out HB1.out) HC1.out HO.out).mono ?_; rintro e w2 ⟨rfl, hb2⟩; have HB2 := Aside0.mk (below_step HB1.out hb2); clear hb2))
  go_ret
  exact ⟨rfl, HB2.out⟩
set_option maxRecDepth 100000 in
set_option maxHeartbeats 20000000 in
theorem back_no (A0 : Option Addr) (c0 : Nat) (l0 : List Ent) (A1 : Option Addr) (c1 : Nat) (l1 : List S36) (a q : Int) (w : World) (hr0 : Kd.C k90 w A0 l0.length l0) (hc0 : l0.length ≤ c0) (hr1 : Kd.C k36 w A1 l1.length l1) (hc1 : l1.length ≤ c1) (hT : TabW w) (ho : mainsheetlaw19_Ask_over.f 100 l0 l1 a = some false) (hq : q ≠ 0) (hP : pick_Pick.f l0 l1 a = some ([], [], q)) :
    Calls Tryd.prog 12 #[.agg #[.slice A0 l0.length c0, .slice A1 l1.length c1, .int .u32 a]] w fun e w' => e = .returned (.bool true) ∧ Below w.heap.size w w' := by
  have hu41 := Tryd.underlying41
  have HR0 := Aside0.mk hr0
  have HR1 := Aside0.mk hr1
  have HC0 := Aside0.mk hc0
  have HC1 := Aside0.mk hc1
  have HO := Aside0.mk ho
  have HP := Aside0.mk hP
  have hqn : (q != 0) = true := by simpa using hq
  have HBA := Aside0.mk ((Below.refl w.heap.size w).alloc (Nat.le_refl _) (.cells #[.slice A0 l0.length c0, .slice A1 l1.length c1, .int .u32 a] 41))
  have HTA := Aside0.mk hT
  have HX := Aside0.mk (heap_alloc_new w (.cells #[.slice A0 l0.length c0, .slice A1 l1.length c1, .int .u32 a] 41))
  clear hr0 hr1 hc0 hc1 ho hT hP hq
  go_enter Tryd.func12, Tryd.ntmps12
  go_wp2_with (first
    | (go_at_call 18; refine (mainsheetlaw19_wakes.calls true _ (HTA.out.step HBA.out) wakes19).mono ?_; rintro e w1 ⟨rfl, hb1⟩; have HB1 := Aside0.mk (below_step HBA.out hb1); have HX1 := Aside0.mk ((hb1.block _ (blk_lt HX.out)).trans HX.out); have hk0 := blk_cell HX1.out 0; have hk1 := blk_cell HX1.out 1; have hk2 := blk_cell HX1.out 2; simp only [List.getElem?_toArray, List.getElem?_cons_zero, List.getElem?_cons_succ] at hk0 hk1 hk2; clear hb1)
    | (go_at_call 19; refine (mainsheetlaw19_Ask_over.calls 100 A0 c0 l0 A1 c1 l1 a false _ (Kd.C_below HR0.out HB1.out) HC0.out (Kd.C_below HR1.out HB1.out) HC1.out HO.out).mono ?_; rintro e w2 ⟨rfl, hb2⟩; have HB2 := Aside0.mk (below_step HB1.out hb2); have hx2 := ((hb2.block _ (blk_lt HX1.out)).trans HX1.out); clear hk0 hk1 hk2; have hj0 := blk_cell hx2 0; have hj1 := blk_cell hx2 1; have hj2 := blk_cell hx2 2; simp only [List.getElem?_toArray, List.getElem?_cons_zero, List.getElem?_cons_succ] at hj0 hj1 hj2; clear hb2 hx2)
    | (go_at_call 20; refine (pick_Pick.calls A0 c0 l0 A1 c1 l1 a [] [] q _ (Kd.C_below HR0.out HB2.out) HC0.out (Kd.C_below HR1.out HB2.out) HC1.out (HTA.out.step HB2.out) HP.out).mono ?_; rintro e w4 ⟨v2, v3, rfl, hP4, hW4, hb4⟩; obtain ⟨A4, c4, rfl, hc4, hC4⟩ := Kd.R_reads hP4; obtain ⟨A5, c5, rfl, hc5, hC5⟩ := Kd.R_reads hW4; have HB4 := Aside0.mk (below_step HB2.out hb4); clear hj0 hj1 hj2 hP4 hW4 hc4 hc5 hC4 hC5 hb4))
  go_ret
  exact ⟨rfl, HB4.out⟩
theorem mainsheetlaw19_PickBack.calls (A0 : Option Addr) (c0 : Nat) (l0 : List Ent) (A1 : Option Addr) (c1 : Nat) (l1 : List S36) (a : Int) (w : World) (hr0 : Kd.C k90 w A0 l0.length l0) (hc0 : l0.length ≤ c0) (hr1 : Kd.C k36 w A1 l1.length l1) (hc1 : l1.length ≤ c1) (hwf : ∀ x ∈ l1, Wf36 x) (h0 : 0 ≤ a) (h1 : a < 4294967296) (hT : TabW w) :
    Calls Tryd.prog 12 #[.agg #[.slice A0 l0.length c0, .slice A1 l1.length c1, .int .u32 a]] w fun e w' => e = .returned (.bool true) ∧ Below w.heap.size w w' := by
  rcases over_val l0 l1 a 100 (by omega) with ho | ⟨ho, hl, hw, hm⟩
  · exact back_over A0 c0 l0 A1 c1 l1 a w hr0 hc0 hr1 hc1 hT ho
  · have hok : okPickArgs l0 l1 a := ⟨⟨hwf, by omega, by omega⟩, h0, h1⟩
    have hP : pick_Pick.f l0 l1 a = some (if askedP l0 l1 a = 0 then (pickPuts (pickTurns l1 a.toNat l0), pickWaits (pickTurns l1 a.toNat l0), 0) else ([], [], askedP l0 l1 a)) := by unfold pick_Pick.f; exact if_pos hok
    by_cases he : askedP l0 l1 a = 0
    · obtain ⟨hc, ha⟩ := askedP_ok.1 he
      obtain ⟨hs, hpc⟩ := (pickCheck_zero l0 l1).1 hc
      obtain ⟨hpl, hwtl⟩ := pickPuts_le (pickTurns l1 a.toNat l0)
      rw [turns_fst, ← hs.count] at hpl hwtl
      rw [if_pos he] at hP
      refine back_walk A0 c0 l0 A1 c1 l1 a _ _ 1000 w hr0 hc0 hr1 hc1 hT hl (by omega) ho hP (fun x hx => (hs.len x hx).1) (same19_refl _ (by omega) 1000 (by omega)) (fun i hi hb => ?_) (fun hi => ?_)
      · rw [rd90_eq l0 i hi] at hb
        refine ⟨_, _, pickWaits (pickTurns l1 a.toNat (l0.eraseIdx i)), without_val hs hwf hl hw hpc a h0 ha i hi, ?_⟩
        rw [pick_less hs hwf hl hw hpc a h0 ha i hi, back_wait hs hwf hl hw hpc a h0 ha i hi hb]
      · obtain ⟨r, hr⟩ := back_last hs hwf hl hw hpc a h0 ha hi
        refine ⟨_, _, pickPuts (pickTurns l1 a.toNat (l0.eraseIdx (l0.length - 1))), pickWaits (pickTurns l1 a.toNat (l0.eraseIdx (l0.length - 1))), ?_, pick_less hs hwf hl hw hpc a h0 ha (l0.length - 1) (by omega), ?_, ?_⟩
        · rw [show (l0.length : Int) - 1 = ((l0.length - 1 : Nat) : Int) by omega]
          exact without_val hs hwf hl hw hpc a h0 ha (l0.length - 1) (by omega)
        · rw [hr]; simp
        · rw [hr, List.take_left]
          have : (pickPuts (pickTurns l1 a.toNat (l0.eraseIdx (l0.length - 1)))).length ≤ (pickPuts (pickTurns l1 a.toNat l0)).length := by rw [hr]; simp
          exact same19_refl _ (by omega) 1000 (by omega)
    · rw [if_neg he] at hP
      exact back_no A0 c0 l0 A1 c1 l1 a _ w hr0 hc0 hr1 hc1 hT ho he hP
end Go.Proofs.YtdmieaidheelbaaDoor.Q
end
/- OpenPick -/
section
/- What a law of layer 19 is handed: a wish, and an ask (its two rows and the free pCPUs), opened to the words of the walks. -/
namespace Go.Proofs.YtdmieaidheelbaaDoor.Q
open Go Go.ChangeShapes Go.WideShapes Go.ChangeAt Go.RowKit
set_option linter.unusedVariables false
set_option maxRecDepth 100000
open Go.Proofs.YtdmieaidheelbaaDoorW.PrintWords
section
variable {H : Type} {enc : TypeId × Value → H} {w : World} {base : Nat} {spare : Nat → Bool} {held : Bool}
theorem three_of {α : Type} {l : List α} (h : l.length = 3) : ∃ a b c, l = [a, b, c] := by
  match l, h with
  | [a, b, c], _ => exact ⟨a, b, c, rfl⟩
theorem open_row {α : Type} {t e : TypeId} {d : Kd α} {Wf : α → Prop} (ht : Tryd.prog.underlying t = some (.slice e)) (hC : Tryd.prog.cellsOf e = d.sz) (hE : Elem enc w base spare held e d Wf)
    {fuel : Nat} {c : Value} {x : DataW H × List MemPlace} (h : DataW.trod enc Tryd.prog w base spare held fuel t [c] = some x) :
    ∃ (A : Option Addr) (l : List α) (cap : Nat), c = .slice A l.length cap ∧ l.length ≤ cap ∧ Kd.C d w A l.length l ∧ ∀ y ∈ l, Wf y := by
  obtain ⟨A, len, cap, rfl⟩ : ∃ A len cap, c = .slice A len cap := by
    rcases Go.Deep.open_slice ht h with ⟨e, _⟩ | ⟨a, l, c, _, _, _, _, e, _⟩
    · injection e with e; exact ⟨_, _, _, e⟩
    · injection e with e; exact ⟨_, _, _, e⟩
  obtain ⟨l, hml, hcap, hC, hw⟩ := rowOf ht hC hE h
  subst hml
  exact ⟨A, l, cap, rfl, hcap, hC, hw⟩
theorem open_ask {v : Value} {b2 : Nat} {d : DataW H} {p : List MemPlace} (ok : Value.okWide Tryd.prog w .any b2 41 v) (h : DataW.Trod enc Tryd.prog w base spare held 41 v d p) :
    ∃ (A : Option Addr) (l : List S90) (c : Nat) (B : Option Addr) (m : List S36) (b : Nat) (a : Int), v = .agg #[.slice A l.length c, .slice B m.length b, .int .u32 a] ∧ l.length ≤ c ∧ m.length ≤ b ∧ Kd.C k90 w A l.length l ∧ Kd.C k36 w B m.length m ∧ (∀ x ∈ m, Wf36 x) ∧ (Lit.int .u32 a).wf = true := by
  obtain ⟨cs, rfl, hsz⟩ := okWide_struct Tryd.underlying41 ok
  obtain ⟨fuel, hf⟩ := h
  obtain ⟨xs, n, _, _, hlen, hxl, hg⟩ := DataW.trod_struct Tryd.underlying41 hf
  have hc : Tryd.prog.cellsOf 41 = 3 := by kernel_rfl
  have ce : Tryd.prog.cellsOf 39 = 1 := by kernel_rfl
  have cw : Tryd.prog.cellsOf 22 = 1 := by kernel_rfl
  have cu : Tryd.prog.cellsOf 24 = 1 := by kernel_rfl
  have c1 : Tryd.prog.cellsOf 90 = k90.sz := by kernel_rfl
  have c2 : Tryd.prog.cellsOf 36 = k36.sz := by kernel_rfl
  obtain ⟨c0, c1', c2', hcs⟩ := three_of (hlen.trans hc)
  have hcs' : cs.toList = [c0, c1', c2'] := hcs
  rw [show (Value.agg cs).cells.toList = [c0, c1', c2'] from hcs] at hg
  have h0 : DataW.trod enc Tryd.prog w base spare held n 39 (([c0, c1', c2'].drop 0).take (Tryd.prog.cellsOf 39)) = xs[0]? := hg 0 _ rfl
  rw [ce] at h0
  have h1 : DataW.trod enc Tryd.prog w base spare held n 22 (([c0, c1', c2'].drop 1).take (Tryd.prog.cellsOf 22)) = xs[1]? := hg 1 _ rfl
  rw [cw] at h1
  have h2 : DataW.trod enc Tryd.prog w base spare held n 24 (([c0, c1', c2'].drop 2).take (Tryd.prog.cellsOf 24)) = xs[2]? := hg 2 _ rfl
  rw [cu] at h2
  have hx2 : xs.length = 3 := hxl
  obtain ⟨a, rfl, wa⟩ := int_field (by omega) Tryd.underlying24 h2
  rw [List.getElem?_eq_getElem (by omega)] at h0 h1
  obtain ⟨A, l, c, rfl, hlc, hC, _⟩ := open_row Tryd.underlying39 c1 elem_entity h0
  obtain ⟨B, m, b, rfl, hmb, hD, hw⟩ := open_row Tryd.underlying22 c2 elem_wish h1
  refine ⟨A, l, c, B, m, b, a, ?_, hlc, hmb, hC, hD, hw, wa⟩
  obtain ⟨q⟩ := cs
  simp only at hcs'
  rw [hcs']
end
end Go.Proofs.YtdmieaidheelbaaDoor.Q
end
