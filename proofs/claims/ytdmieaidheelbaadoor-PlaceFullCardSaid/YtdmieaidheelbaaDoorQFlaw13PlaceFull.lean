-- Written by a program of this session (hprint.py), which drives the kit's print over hand-proved contracts. Lean checks it.
import Derived.Test.YtdmieaidheelbaaDoorQ0
import Derived.Test.YtdmieaidheelbaaDoorQFlaw13wakes
import Derived.Test.YtdmieaidheelbaaDoorQFcpusetCount
import Derived.Test.YtdmieaidheelbaaDoorPlace
import Derived.Test.YtdmieaidheelbaaDoorSet
namespace Go.Proofs.YtdmieaidheelbaaDoor.Q
open Go.RowKit Go.Proofs.YtdmieaidheelbaaDoorW.PrintWords Go.Proofs.YtdmieaidheelbaaDoorW.PrintLast Go.Proofs.YtdmieaidheelbaaDoorW.PrintMore
attribute [local go_sem] max2_int min2_int max_two min_two max_three min_three max_four min_four   -- for this text's walks alone
set_option linter.unusedVariables false
set_option linter.unusedSimpArgs false

/-! ### mainsheetlaw13_PlaceFull: function 4 -/
mutual
def mainsheetlaw13_PlaceFull.l0 : Nat → List (S36) → Int → Int → Int → Option (Bool)
  | 0, _, _, _, _ => none
  | k + 1, x0, x1, x20, x21 => if x21 < x20 then (if 0 ≤ x21 then (if x21 < (x0.length : Int) then (mainsheetlaw13_PlaceFull.l0 k (x0.set (x21 : Int).toNat (⟨(rd_T36 x0 x21).f0, (rd_T36 x0 x21).f1, (⟨255, (rd_T36 x0 x21).f2.f1⟩ : S34)⟩ : S36)) x1 x20 (wrap64 (x21 + 1))) else (none)) else (none)) else ((place_Place.f x0 x1).bind fun bt159 => (if bt159.2.2 = 0 then ((cpuset_Count.f x1).bind fun t164 => (if (bt159.1.length : Int) = (mn (x0.length : Int) t164) then (if (bt159.1.length : Int) < (x0.length : Int) then (mainsheetlaw13_PlaceFull.j1 k x0 bt159.1 (bt159.2.1 != 0)) else (mainsheetlaw13_PlaceFull.j1 k x0 bt159.1 false)) else (mainsheetlaw13_PlaceFull.j1 k x0 bt159.1 true))) else (some ((bt159.1.length : Int) == 0))))
def mainsheetlaw13_PlaceFull.j1 : Nat → List (S36) → List (S31) → Bool → Option (Bool)
  | 0, _, _, _ => none
  | k + 1, x0, x6, x60 => if x60 = true then (some false) else (mainsheetlaw13_PlaceFull.l1 k x0 x6 (x6.length : Int) 0)
def mainsheetlaw13_PlaceFull.l1 : Nat → List (S36) → List (S31) → Int → Int → Option (Bool)
  | 0, _, _, _, _ => none
  | k + 1, x0, x61, x62, x63 => if x63 < x62 then (if 0 ≤ x63 then (if x63 < (x61.length : Int) then (if x63 < (x0.length : Int) then (if ((rd_T31 x61 x63).f0) = ((rd_T36 x0 x63).f0) then (mainsheetlaw13_PlaceFull.l1 k x0 x61 x62 (wrap64 (x63 + 1))) else (some false)) else (none)) else (none)) else (none)) else (some true)
end
def mainsheetlaw13_PlaceFull.f (k : Nat) (l0 : List (S36)) (a1 : Int) : Option (Bool) := (mainsheetlaw13_wakes.f).bind fun t151 => (if t151 = true then (if (l0.length : Int) > 60 then (some true) else ((some (([] : List (S36)) : List (S36))).bind fun y152 => (if y152.length + l0.length < 5864062014805 then ((some (y152 ++ l0 : List (S36))).bind fun y155 => (mainsheetlaw13_PlaceFull.l0 k y155 a1 (y155.length : Int) 0)) else (none)))) else (some false))
theorem mainsheetlaw13_PlaceFull.mono_l : ∀ k, (∀ y0 y1 y2 y3, LeO (mainsheetlaw13_PlaceFull.l0 k y0 y1 y2 y3) (mainsheetlaw13_PlaceFull.l0 (k + 1) y0 y1 y2 y3)) ∧ (∀ y0 y1 y2, LeO (mainsheetlaw13_PlaceFull.j1 k y0 y1 y2) (mainsheetlaw13_PlaceFull.j1 (k + 1) y0 y1 y2)) ∧ (∀ y0 y1 y2 y3, LeO (mainsheetlaw13_PlaceFull.l1 k y0 y1 y2 y3) (mainsheetlaw13_PlaceFull.l1 (k + 1) y0 y1 y2 y3))
  | 0 => ⟨fun _ _ _ _ r h => by simp [mainsheetlaw13_PlaceFull.l0] at h, fun _ _ _ r h => by simp [mainsheetlaw13_PlaceFull.j1] at h, fun _ _ _ _ r h => by simp [mainsheetlaw13_PlaceFull.l1] at h⟩
  | k + 1 => by
    obtain ⟨ih0, ih1, ih2⟩ := mainsheetlaw13_PlaceFull.mono_l k
    refine ⟨?_, ?_, ?_⟩
    · intro y0 y1 y2 y3
      unfold mainsheetlaw13_PlaceFull.l0
      repeat' first
      | (with_reducible exact ih0 _ _ _ _)
      | (with_reducible exact ih1 _ _ _)
      | (with_reducible exact ih2 _ _ _ _)
      | (with_reducible exact LeO.refl _)
      | (with_reducible exact LeO.none _)
      | (with_reducible refine LeO.ite ?_ ?_)
      | (with_reducible refine LeO.bind ?_ (fun _ => ?_))
      | exact ih0 _ _ _ _
      | exact ih1 _ _ _
      | exact ih2 _ _ _ _
      | exact LeO.none _
      | refine LeO.ite ?_ ?_
      | refine LeO.bind ?_ (fun _ => ?_)
    · intro y0 y1 y2
      unfold mainsheetlaw13_PlaceFull.j1
      repeat' first
      | (with_reducible exact ih0 _ _ _ _)
      | (with_reducible exact ih1 _ _ _)
      | (with_reducible exact ih2 _ _ _ _)
      | (with_reducible exact LeO.refl _)
      | (with_reducible exact LeO.none _)
      | (with_reducible refine LeO.ite ?_ ?_)
      | (with_reducible refine LeO.bind ?_ (fun _ => ?_))
      | exact ih0 _ _ _ _
      | exact ih1 _ _ _
      | exact ih2 _ _ _ _
      | exact LeO.none _
      | refine LeO.ite ?_ ?_
      | refine LeO.bind ?_ (fun _ => ?_)
    · intro y0 y1 y2 y3
      unfold mainsheetlaw13_PlaceFull.l1
      repeat' first
      | (with_reducible exact ih0 _ _ _ _)
      | (with_reducible exact ih1 _ _ _)
      | (with_reducible exact ih2 _ _ _ _)
      | (with_reducible exact LeO.refl _)
      | (with_reducible exact LeO.none _)
      | (with_reducible refine LeO.ite ?_ ?_)
      | (with_reducible refine LeO.bind ?_ (fun _ => ?_))
      | exact ih0 _ _ _ _
      | exact ih1 _ _ _
      | exact ih2 _ _ _ _
      | exact LeO.none _
      | refine LeO.ite ?_ ?_
      | refine LeO.bind ?_ (fun _ => ?_)
theorem mainsheetlaw13_PlaceFull.mono : ∀ a0 a1 k, LeO (mainsheetlaw13_PlaceFull.f k a0 a1) (mainsheetlaw13_PlaceFull.f (k + 1) a0 a1) := by
  intro a0 a1 k
  obtain ⟨ih0, ih1, ih2⟩ := mainsheetlaw13_PlaceFull.mono_l k
  unfold mainsheetlaw13_PlaceFull.f
  repeat' first
      | (with_reducible exact ih0 _ _ _ _)
      | (with_reducible exact ih1 _ _ _)
      | (with_reducible exact ih2 _ _ _ _)
      | (with_reducible exact LeO.refl _)
      | (with_reducible exact LeO.none _)
      | (with_reducible refine LeO.ite ?_ ?_)
      | (with_reducible refine LeO.bind ?_ (fun _ => ?_))
      | exact ih0 _ _ _ _
      | exact ih1 _ _ _
      | exact ih2 _ _ _ _
      | exact LeO.none _
      | refine LeO.ite ?_ ?_
      | refine LeO.bind ?_ (fun _ => ?_)
set_option maxHeartbeats 8000000 in
set_option maxRecDepth 100000 in
theorem mainsheetlaw13_PlaceFull.calls (k : Nat) (A0 : Option Addr) (c0 : Nat) (l0 : List (S36)) (a1 : Int) (r : Bool) (w : World) (hr0 : Kd.C k36 w A0 l0.length l0) (hc0 : l0.length ≤ c0) (hT : TabW w) (h : mainsheetlaw13_PlaceFull.f k l0 a1 = some r) :
    Calls Tryd.prog 4 #[.slice A0 l0.length c0, .int .u32 a1] w fun e w' => e = .returned (.bool r) ∧ Below w.heap.size w w' := by
  have HT := Aside0.mk hT
  clear hT
  have hu31 := Tryd.underlying31
  have HR0 := Aside0.mk hr0
  have HC0 := Aside0.mk hc0
  clear hr0 hc0
  have HB := Aside0.mk (Below.refl w.heap.size w)
  have H : ((mainsheetlaw13_wakes.f).bind fun t151 => (if t151 = true then (if (l0.length : Int) > 60 then (some true) else ((some (([] : List (S36)) : List (S36))).bind fun y152 => (if y152.length + l0.length < 5864062014805 then ((some (y152 ++ l0 : List (S36))).bind fun y155 => (mainsheetlaw13_PlaceFull.l0 k y155 a1 (y155.length : Int) 0)) else (none)))) else (some false))) = some r := h
  clear h
  replace H := Option.bind_eq_some_iff.mp H
  obtain ⟨t151, A30, H⟩ := H
  replace H : (if t151 = true then (if (l0.length : Int) > 60 then (some true) else ((some (([] : List (S36)) : List (S36))).bind fun y152 => (if y152.length + l0.length < 5864062014805 then ((some (y152 ++ l0 : List (S36))).bind fun y155 => (mainsheetlaw13_PlaceFull.l0 k y155 a1 (y155.length : Int) 0)) else (none)))) else (some false)) = some r := H
  have A3 := Aside0.mk A30
  clear A30
  by_cases c4 : t151 = true
  · subst c4
    have H1 : (if (l0.length : Int) > 60 then (some true) else ((some (([] : List (S36)) : List (S36))).bind fun y152 => (if y152.length + l0.length < 5864062014805 then ((some (y152 ++ l0 : List (S36))).bind fun y155 => (mainsheetlaw13_PlaceFull.l0 k y155 a1 (y155.length : Int) 0)) else (none)))) = some r := by rw [if_pos rfl] at H; exact H
    clear H
    have H := H1
    clear H1
    by_cases c5 : (l0.length : Int) > 60
    · rw [if_pos c5] at H
      have c5b0 : decide (60 < (l0.length : Int)) = true := decide_eq_true c5
      have c5b1 : decide (60 < l0.length) = true := decide_eq_true (by omega)
      clear c5
      obtain rfl := Option.some.inj H
      go_enter Tryd.func4, Tryd.ntmps4
      go_wp2_with (first | (go_at_call 15; (with_reducible refine (mainsheetlaw13_wakes.calls  true _ ?tb A3.out).mono ?_); (case tb => exact HT.out.step (by repeat (first | (with_reducible first | exact HB.out | apply below_alloc | apply pw_below_drewN | apply below_drew1) | exact HB.out))); rintro e w6 ⟨rfl, hb⟩; have n0_ := Aside0.mk (below_step (by repeat (first | (with_reducible first | exact HB.out | apply below_alloc | apply pw_below_drewN | apply below_drew1) | exact HB.out)) hb); clear HB; have HB := n0_; clear n0_; (try clear hb); (try clear hb2); (try clear hk); (try clear hi)))
      repeat (go_quiet (first | (go_at_call 15; (with_reducible refine (mainsheetlaw13_wakes.calls  true _ ?tb A3.out).mono ?_); (case tb => exact HT.out.step (by repeat (first | (with_reducible first | exact HB.out | apply below_alloc | apply pw_below_drewN | apply below_drew1) | exact HB.out))); rintro e w6 ⟨rfl, hb⟩; have n0_ := Aside0.mk (below_step (by repeat (first | (with_reducible first | exact HB.out | apply below_alloc | apply pw_below_drewN | apply below_drew1) | exact HB.out)) hb); clear HB; have HB := n0_; clear n0_; (try clear hb); (try clear hb2); (try clear hk); (try clear hi))); try go_wp2_with (first | (go_at_call 15; (with_reducible refine (mainsheetlaw13_wakes.calls  true _ ?tb A3.out).mono ?_); (case tb => exact HT.out.step (by repeat (first | (with_reducible first | exact HB.out | apply below_alloc | apply pw_below_drewN | apply below_drew1) | exact HB.out))); rintro e w6 ⟨rfl, hb⟩; have n0_ := Aside0.mk (below_step (by repeat (first | (with_reducible first | exact HB.out | apply below_alloc | apply pw_below_drewN | apply below_drew1) | exact HB.out)) hb); clear HB; have HB := n0_; clear n0_; (try clear hb); (try clear hb2); (try clear hk); (try clear hi))))
      go_ret
      exact ⟨by first | rfl | (simp [errW_none, errW_some] <;> rfl) | (simp [*, errW_none, errW_some] <;> rfl), by repeat (first | (with_reducible first | exact HB.out | apply below_alloc | apply pw_below_drewN | apply below_drew1) | exact HB.out)⟩
    · rw [if_neg c5] at H
      have c5b0 : decide (60 < (l0.length : Int)) = false := decide_eq_false c5
      have c5b1 : decide (60 < l0.length) = false := decide_eq_false (by omega)
      clear c5
      obtain ⟨y152, hy152⟩ : ∃ y_ : List (S36), y_ = (([] : List (S36))) := ⟨_, rfl⟩
      replace H : (if y152.length + l0.length < 5864062014805 then ((some (y152 ++ l0 : List (S36))).bind fun y155 => (mainsheetlaw13_PlaceFull.l0 k y155 a1 (y155.length : Int) 0)) else (none)) = some r := by first | (rw [hy152]; with_reducible exact H) | (have H2_ := (Option.bind_some _ _).symm.trans H; rw [hy152]; with_reducible exact H2_) | (have H2_ := (Option.bind_some _ _).symm.trans H; with_reducible exact H2_) | with_reducible exact H | (rw [hy152]; exact H) | exact H
      have Ny152 := Aside0.mk hy152
      clear hy152
      by_cases c7 : y152.length + l0.length < 5864062014805
      · rw [if_pos c7] at H
        have LMc7 := Aside0.mk c7
        clear c7
        obtain ⟨y155, hy155⟩ : ∃ y_ : List (S36), y_ = (y152 ++ l0) := ⟨_, rfl⟩
        replace H : (mainsheetlaw13_PlaceFull.l0 k y155 a1 (y155.length : Int) 0) = some r := by first | (rw [hy155]; with_reducible exact H) | (have H2_ := (Option.bind_some _ _).symm.trans H; rw [hy155]; with_reducible exact H2_) | (have H2_ := (Option.bind_some _ _).symm.trans H; with_reducible exact H2_) | with_reducible exact H | (rw [hy155]; exact H) | exact H
        have Ny155 := Aside0.mk hy155
        clear hy155
        have H' := Aside0.mk H
        clear H
        go_enter Tryd.func4, Tryd.ntmps4
        go_wp2_with (first | (go_at_call 15; (with_reducible refine (mainsheetlaw13_wakes.calls  true _ ?tb A3.out).mono ?_); (case tb => exact HT.out.step (by repeat (first | (with_reducible first | exact HB.out | apply below_alloc | apply pw_below_drewN | apply below_drew1) | exact HB.out))); rintro e w8 ⟨rfl, hb⟩; have n0_ := Aside0.mk (below_step (by repeat (first | (with_reducible first | exact HB.out | apply below_alloc | apply pw_below_drewN | apply below_drew1) | exact HB.out)) hb); clear HB; have HB := n0_; clear n0_; (try clear hb); (try clear hb2); (try clear hk); (try clear hi)) | ((with_reducible refine gate_dst (N := 16) rfl ?_); (try (refine gate_guard (by rfl) ?_; dsimp only)); refine Kd.R_lit k36 _ 36 ?hg (N := 16) ?hd (xs := ([] : List (S36))) (inner := []) (ok := fun _ => True) (okp := fun _ => True) ?hr ?hp (fun _ hk => hk) trivial (Below.refl _ _) (Nat.le_refl _) (by simp) ?_; (case hd => rfl); (case hg => rfl); (case hr => first | (go_simp; done) | (go_simp; rfl)); (case hp => exact (Reps.none _ _)); intro v153 w9 ho10 hb hg_ hnew_; clear hg_ hnew_; (first | rw [← Ny152.out] at ho10 | (simp only [Int.reduceToNat] at ho10; rw [← Ny152.out] at ho10)); have n0_ := Aside0.mk (Kd.R_lower ho10 (below_size (by repeat (first | (with_reducible first | exact HB.out | apply below_alloc | apply pw_below_drewN | apply below_drew1) | exact HB.out)))); have n1_ := Aside0.mk (below_step (by repeat (first | (with_reducible first | exact HB.out | apply below_alloc | apply pw_below_drewN | apply below_drew1) | exact HB.out)) hb); clear HB; have HO154 := n0_; have HB := n1_; clear n0_ n1_; clear hb ho10) | ((with_reducible refine gate_builtin (b := .append) (xs := #[.tmp 16, .tmp 17]) rfl ?_); (try (refine gate_guard (by rfl) ?_; dsimp only)); at_builtin; refine Kd.R_append_rows k36 (w0 := w) w.heap.size rfl (.tmp 16) (.tmp 17) 22 36 (.agg #[(.int .i64 0), (.int .i64 0), (.int .u32 0), (.int .u32 0)]) 24 rfl Tryd.underlying22 info36 rfl (by decide) (by omega) v153 y152 l0 _ _ _ (fun _ => True) (fun _ => False) rfl rfl ?aO ?aR (fun _ _ h => h) (fun _ h => h.elim) ?aF ?aB ?aS ?aL ?_; (case aR => repeat (first | exact (Kd.C_below HR0.out HB.out) | (with_reducible refine Kd.C_alloc ?_ _) | (with_reducible refine Kd.C_drewN ?_ _) | (with_reducible refine Kd.C_drew ?_))); (case aB => exact (by repeat (first | (with_reducible first | exact HB.out | apply below_alloc | apply pw_below_drewN | apply below_drew1) | exact HB.out))); (case aF => exact (fun _ _ => trivial)); (case aO => exact (by (with_reducible repeat (first | apply Kd.R_alloc | apply Kd.R_drewN | apply Kd.R_drew)); exact HO154.out)); (case aS => exact (below_size (by repeat (first | (with_reducible first | exact HB.out | apply below_alloc | apply pw_below_drewN | apply below_drew1) | exact HB.out)))); (case aL => have := LMc7.out; omega); intro v156 w11 ho hb hg hat; rw [← Ny155.out] at ho; have n0_ := Aside0.mk (hb); have n1_ := Aside0.mk (ho); clear HB; clear HO154; have HB := n0_; have HO157 := n1_; clear n0_ n1_; clear ho hb hg hat; obtain ⟨Ao12, co12, eo12⟩ := Kd.R_slice HO157.out; subst eo12))
        repeat (go_quiet (first | (go_at_call 15; (with_reducible refine (mainsheetlaw13_wakes.calls  true _ ?tb A3.out).mono ?_); (case tb => exact HT.out.step (by repeat (first | (with_reducible first | exact HB.out | apply below_alloc | apply pw_below_drewN | apply below_drew1) | exact HB.out))); rintro e w8 ⟨rfl, hb⟩; have n0_ := Aside0.mk (below_step (by repeat (first | (with_reducible first | exact HB.out | apply below_alloc | apply pw_below_drewN | apply below_drew1) | exact HB.out)) hb); clear HB; have HB := n0_; clear n0_; (try clear hb); (try clear hb2); (try clear hk); (try clear hi)) | ((with_reducible refine gate_dst (N := 16) rfl ?_); (try (refine gate_guard (by rfl) ?_; dsimp only)); refine Kd.R_lit k36 _ 36 ?hg (N := 16) ?hd (xs := ([] : List (S36))) (inner := []) (ok := fun _ => True) (okp := fun _ => True) ?hr ?hp (fun _ hk => hk) trivial (Below.refl _ _) (Nat.le_refl _) (by simp) ?_; (case hd => rfl); (case hg => rfl); (case hr => first | (go_simp; done) | (go_simp; rfl)); (case hp => exact (Reps.none _ _)); intro v153 w9 ho10 hb hg_ hnew_; clear hg_ hnew_; (first | rw [← Ny152.out] at ho10 | (simp only [Int.reduceToNat] at ho10; rw [← Ny152.out] at ho10)); have n0_ := Aside0.mk (Kd.R_lower ho10 (below_size (by repeat (first | (with_reducible first | exact HB.out | apply below_alloc | apply pw_below_drewN | apply below_drew1) | exact HB.out)))); have n1_ := Aside0.mk (below_step (by repeat (first | (with_reducible first | exact HB.out | apply below_alloc | apply pw_below_drewN | apply below_drew1) | exact HB.out)) hb); clear HB; have HO154 := n0_; have HB := n1_; clear n0_ n1_; clear hb ho10) | ((with_reducible refine gate_builtin (b := .append) (xs := #[.tmp 16, .tmp 17]) rfl ?_); (try (refine gate_guard (by rfl) ?_; dsimp only)); at_builtin; refine Kd.R_append_rows k36 (w0 := w) w.heap.size rfl (.tmp 16) (.tmp 17) 22 36 (.agg #[(.int .i64 0), (.int .i64 0), (.int .u32 0), (.int .u32 0)]) 24 rfl Tryd.underlying22 info36 rfl (by decide) (by omega) v153 y152 l0 _ _ _ (fun _ => True) (fun _ => False) rfl rfl ?aO ?aR (fun _ _ h => h) (fun _ h => h.elim) ?aF ?aB ?aS ?aL ?_; (case aR => repeat (first | exact (Kd.C_below HR0.out HB.out) | (with_reducible refine Kd.C_alloc ?_ _) | (with_reducible refine Kd.C_drewN ?_ _) | (with_reducible refine Kd.C_drew ?_))); (case aB => exact (by repeat (first | (with_reducible first | exact HB.out | apply below_alloc | apply pw_below_drewN | apply below_drew1) | exact HB.out))); (case aF => exact (fun _ _ => trivial)); (case aO => exact (by (with_reducible repeat (first | apply Kd.R_alloc | apply Kd.R_drewN | apply Kd.R_drew)); exact HO154.out)); (case aS => exact (below_size (by repeat (first | (with_reducible first | exact HB.out | apply below_alloc | apply pw_below_drewN | apply below_drew1) | exact HB.out)))); (case aL => have := LMc7.out; omega); intro v156 w11 ho hb hg hat; rw [← Ny155.out] at ho; have n0_ := Aside0.mk (hb); have n1_ := Aside0.mk (ho); clear HB; clear HO154; have HB := n0_; have HO157 := n1_; clear n0_ n1_; clear ho hb hg hat; obtain ⟨Ao12, co12, eo12⟩ := Kd.R_slice HO157.out; subst eo12)); try go_wp2_with (first | (go_at_call 15; (with_reducible refine (mainsheetlaw13_wakes.calls  true _ ?tb A3.out).mono ?_); (case tb => exact HT.out.step (by repeat (first | (with_reducible first | exact HB.out | apply below_alloc | apply pw_below_drewN | apply below_drew1) | exact HB.out))); rintro e w8 ⟨rfl, hb⟩; have n0_ := Aside0.mk (below_step (by repeat (first | (with_reducible first | exact HB.out | apply below_alloc | apply pw_below_drewN | apply below_drew1) | exact HB.out)) hb); clear HB; have HB := n0_; clear n0_; (try clear hb); (try clear hb2); (try clear hk); (try clear hi)) | ((with_reducible refine gate_dst (N := 16) rfl ?_); (try (refine gate_guard (by rfl) ?_; dsimp only)); refine Kd.R_lit k36 _ 36 ?hg (N := 16) ?hd (xs := ([] : List (S36))) (inner := []) (ok := fun _ => True) (okp := fun _ => True) ?hr ?hp (fun _ hk => hk) trivial (Below.refl _ _) (Nat.le_refl _) (by simp) ?_; (case hd => rfl); (case hg => rfl); (case hr => first | (go_simp; done) | (go_simp; rfl)); (case hp => exact (Reps.none _ _)); intro v153 w9 ho10 hb hg_ hnew_; clear hg_ hnew_; (first | rw [← Ny152.out] at ho10 | (simp only [Int.reduceToNat] at ho10; rw [← Ny152.out] at ho10)); have n0_ := Aside0.mk (Kd.R_lower ho10 (below_size (by repeat (first | (with_reducible first | exact HB.out | apply below_alloc | apply pw_below_drewN | apply below_drew1) | exact HB.out)))); have n1_ := Aside0.mk (below_step (by repeat (first | (with_reducible first | exact HB.out | apply below_alloc | apply pw_below_drewN | apply below_drew1) | exact HB.out)) hb); clear HB; have HO154 := n0_; have HB := n1_; clear n0_ n1_; clear hb ho10) | ((with_reducible refine gate_builtin (b := .append) (xs := #[.tmp 16, .tmp 17]) rfl ?_); (try (refine gate_guard (by rfl) ?_; dsimp only)); at_builtin; refine Kd.R_append_rows k36 (w0 := w) w.heap.size rfl (.tmp 16) (.tmp 17) 22 36 (.agg #[(.int .i64 0), (.int .i64 0), (.int .u32 0), (.int .u32 0)]) 24 rfl Tryd.underlying22 info36 rfl (by decide) (by omega) v153 y152 l0 _ _ _ (fun _ => True) (fun _ => False) rfl rfl ?aO ?aR (fun _ _ h => h) (fun _ h => h.elim) ?aF ?aB ?aS ?aL ?_; (case aR => repeat (first | exact (Kd.C_below HR0.out HB.out) | (with_reducible refine Kd.C_alloc ?_ _) | (with_reducible refine Kd.C_drewN ?_ _) | (with_reducible refine Kd.C_drew ?_))); (case aB => exact (by repeat (first | (with_reducible first | exact HB.out | apply below_alloc | apply pw_below_drewN | apply below_drew1) | exact HB.out))); (case aF => exact (fun _ _ => trivial)); (case aO => exact (by (with_reducible repeat (first | apply Kd.R_alloc | apply Kd.R_drewN | apply Kd.R_drew)); exact HO154.out)); (case aS => exact (below_size (by repeat (first | (with_reducible first | exact HB.out | apply below_alloc | apply pw_below_drewN | apply below_drew1) | exact HB.out)))); (case aL => have := LMc7.out; omega); intro v156 w11 ho hb hg hat; rw [← Ny155.out] at ho; have n0_ := Aside0.mk (hb); have n1_ := Aside0.mk (ho); clear HB; clear HO154; have HB := n0_; have HO157 := n1_; clear n0_ n1_; clear ho hb hg hat; obtain ⟨Ao12, co12, eo12⟩ := Kd.R_slice HO157.out; subst eo12)))
        go_loopg [21] k (fun kq v21 w' => ∃ (x0_1 : List (S36)) (x21_1 : Int), v21 = .int .i64 x21_1 ∧ Aside0 (mainsheetlaw13_PlaceFull.l0 kq x0_1 a1 (y155.length : Int) x21_1 = some r) ∧ Aside0 (kq ≤ k) ∧ Aside0 (Kd.R k36 36 w' w.heap.size (fun _ => True) (.slice Ao12 y155.length co12) x0_1) ∧ Aside0 (Below w.heap.size w w'))
        case atStart => exact ⟨(y155), (0), (by first | rfl | (simp; done) | (simp [*]; done)), H', ⟨Nat.le_refl _⟩, ⟨by (with_reducible repeat (first | apply Kd.R_alloc | apply Kd.R_drewN | apply Kd.R_drew)); exact HO157.out⟩, ⟨by repeat (first | (with_reducible first | exact HB.out | apply below_alloc | apply pw_below_drewN | apply below_drew1) | exact HB.out)⟩⟩
        case round =>
          clear H'
          try clear p2
          try clear c4
          try clear c5
          try clear c5b0
          try clear c5b1
          try clear c7
          obtain ⟨x0_1, x21_1, rfl, HA, HK1, HO_0, HB⟩ := hrel
          have hl0_1 := (Kd.R_reads' HO_0.out).1
          rw [hl0_1] at HO_0
          (try simp only [hl0_1])
          cases gk with
          | zero => exact absurd HA.out (by simp [mainsheetlaw13_PlaceFull.l0])
          | succ k1 =>
            have H := HA.out
            clear HA
            simp only [mainsheetlaw13_PlaceFull.l0] at H
            by_cases c13 : x21_1 < (y155.length : Int)
            · rw [if_pos c13] at H
              have c13b0 : decide (x21_1 < (y155.length : Int)) = true := decide_eq_true c13
              clear c13
              by_cases c14 : 0 ≤ x21_1
              · rw [if_pos c14] at H
                have c14b0 : decide (0 ≤ x21_1) = true := decide_eq_true c14
                clear c14
                by_cases c15 : x21_1 < (x0_1.length : Int)
                · rw [if_pos c15] at H
                  have c15b0 : decide (x21_1 < (x0_1.length : Int)) = true := decide_eq_true c15
                  clear c15
                  obtain ⟨y158, hy158⟩ : ∃ y_ : List (S36), y_ = (x0_1.set (x21_1 : Int).toNat (⟨(rd_T36 x0_1 x21_1).f0, (rd_T36 x0_1 x21_1).f1, (⟨255, (rd_T36 x0_1 x21_1).f2.f1⟩ : S34)⟩ : S36)) := ⟨_, rfl⟩
                  replace H : (mainsheetlaw13_PlaceFull.l0 k1 y158 a1 (y155.length : Int) (wrap64 (x21_1 + 1))) = some r := by first | (rw [hy158]; with_reducible exact H) | (have H2_ := (Option.bind_some _ _).symm.trans H; rw [hy158]; with_reducible exact H2_) | (have H2_ := (Option.bind_some _ _).symm.trans H; with_reducible exact H2_) | with_reducible exact H | (rw [hy158]; exact H) | exact H
                  have Ny158 := Aside0.mk hy158
                  clear hy158
                  have H' := Aside0.mk H
                  clear H
                  have p16 : 0 ≤ (x21_1 : Int) := of_decide_eq_true (by first | (with_reducible assumption) | assumption)
                  have q16 : (x21_1 : Int) < ((x0_1.length : Int) : Int) := of_decide_eq_true (by first | (with_reducible assumption) | assumption)
                  obtain ⟨go16, co16, eo16, gb16, gl16, cl16, HG16⟩ := Kd.R_form HO_0.out (by omega)
                  (first | cases eo16 | (injection eo16 with ea_ en_ ec_; (first | subst ea_ | (injection ea_ with ea_; subst ea_)); subst ec_; clear en_))
                  have GB16 := Aside0.mk gb16
                  have GG16 := Aside0.mk HG16
                  clear gb16 gl16 HG16
                  obtain ⟨ce16, hcl16, hM16, hcc16, hfr16⟩ := Kd.R_elem HO_0.out z36 (x21_1 : Int) p16 q16
                  obtain rfl := k36_openM hM16
                  have hx16_0 : wr.cell? ⟨go16, (x21_1 : Int).toNat * 4, none⟩ = some (.int .i64 ((rd_T36 x0_1 x21_1).f0)) := hcc16 0 _ rfl
                  have hx16_1 : wr.cell? ⟨go16, (x21_1 : Int).toNat * 4 + 1, none⟩ = some (.int .i64 ((rd_T36 x0_1 x21_1).f1)) := hcc16 1 _ rfl
                  have hx16_2 : wr.cell? ⟨go16, (x21_1 : Int).toNat * 4 + 2, none⟩ = some (.int .u32 ((rd_T36 x0_1 x21_1).f2.f0)) := hcc16 2 _ rfl
                  have hx16_3 : wr.cell? ⟨go16, (x21_1 : Int).toNat * 4 + 3, none⟩ = some (.int .u32 ((rd_T36 x0_1 x21_1).f2.f1)) := hcc16 3 _ rfl
                  have hf16_0 : wr.frozen? ⟨go16, (x21_1 : Int).toNat * 4, none⟩ = false := hfr16 0
                  have hf16_1 : wr.frozen? ⟨go16, (x21_1 : Int).toNat * 4 + 1, none⟩ = false := hfr16 1
                  have hf16_2 : wr.frozen? ⟨go16, (x21_1 : Int).toNat * 4 + 2, none⟩ = false := hfr16 2
                  have hf16_3 : wr.frozen? ⟨go16, (x21_1 : Int).toNat * 4 + 3, none⟩ = false := hfr16 3
                  clear hcl16 hcc16 hfr16 hM16
                  replace p16 := eq_true p16
                  replace q16 := eq_true q16
                  have HX17 := Aside0.mk (show Kd.R k36 36 wr w.heap.size (fun _ => True) (.slice (some ⟨go16, 0, none⟩) x0_1.length co12) x0_1 from (by (with_reducible repeat (first | apply Kd.R_alloc | apply Kd.R_drewN | apply Kd.R_drew)); exact HO_0.out))
                  obtain ⟨ce17, hcl17, hM17, hcc17, hfr17⟩ := Kd.R_elem HX17.out z36 (x21_1 : Int) (of_decide_eq_true (by first | (with_reducible assumption) | assumption)) (by have h_ : (x21_1 : Int) < ((x0_1.length : Int) : Int) := of_decide_eq_true (by first | (with_reducible assumption) | assumption); first | exact h_ | (have e_ := (Kd.R_reads' HO_0.out).1; omega) | simpa using h_)
                  obtain rfl := k36_openM hM17
                  have HP17 := Kd.R_seg HX17.out (x21_1 : Int) (of_decide_eq_true (by first | (with_reducible assumption) | assumption)) (by have h_ : (x21_1 : Int) < ((x0_1.length : Int) : Int) := of_decide_eq_true (by first | (with_reducible assumption) | assumption); first | exact h_ | (have e_ := (Kd.R_reads' HO_0.out).1; omega) | simpa using h_) (seg := [.int .u32 255]) (j := 2) hcl17 hcc17 (show 3 ≤ 4 from by decide) (x' := (⟨(rd_T36 x0_1 x21_1).f0, (rd_T36 x0_1 x21_1).f1, (⟨255, (rd_T36 x0_1 x21_1).f2.f1⟩ : S34)⟩ : S36)) (k36_mkM _ _ _ (⟨(rd_T36 x0_1 x21_1).f0, (rd_T36 x0_1 x21_1).f1, (⟨255, (rd_T36 x0_1 x21_1).f2.f1⟩ : S34)⟩ : S36) ) (fun _ hk => hk)
                  have hx17_2 := hcc17 2 _ rfl
                  (try simp only [show (k36).sz = 4 from rfl, Nat.mul_one, Nat.add_zero] at hx17_2)
                  have hf17_2 := hfr17 2
                  (try simp only [show (k36).sz = 4 from rfl, Nat.mul_one, Nat.add_zero] at hf17_2)
                  clear hcl17 hcc17 hfr17 hM17
                  go_wp2_with (first | ((with_reducible refine gate_store (t := 24) (p := 28) rfl ?_); (try (rw [drewN_self wr]; generalize hq_ : World.drewN wr _ = wr; have n0_ := Aside0.mk (Kd.R_at hq_ HO_0.out); have n1_ := Aside0.mk (below_at hq_ HB.out); clear hq_ HO_0 HB; have HO_0 := n0_; have HB := n1_; clear n0_ n1_; (try (have HX17 := Aside0.mk (show Kd.R k36 36 wr w.heap.size (fun _ => True) (.slice (some ⟨go16, 0, none⟩) x0_1.length co12) x0_1 from (by (with_reducible repeat (first | apply Kd.R_alloc | apply Kd.R_drewN | apply Kd.R_drew)); exact HO_0.out)))); (try (obtain ⟨ce17, hcl17, hM17, hcc17, hfr17⟩ := Kd.R_elem HX17.out z36 (x21_1 : Int) (of_decide_eq_true (by first | (with_reducible assumption) | assumption)) (by have h_ : (x21_1 : Int) < ((x0_1.length : Int) : Int) := of_decide_eq_true (by first | (with_reducible assumption) | assumption); first | exact h_ | (have e_ := (Kd.R_reads' HO_0.out).1; omega) | simpa using h_))); (try (obtain rfl := k36_openM hM17)); (try (have HP17 := Kd.R_seg HX17.out (x21_1 : Int) (of_decide_eq_true (by first | (with_reducible assumption) | assumption)) (by have h_ : (x21_1 : Int) < ((x0_1.length : Int) : Int) := of_decide_eq_true (by first | (with_reducible assumption) | assumption); first | exact h_ | (have e_ := (Kd.R_reads' HO_0.out).1; omega) | simpa using h_) (seg := [.int .u32 255]) (j := 2) hcl17 hcc17 (show 3 ≤ 4 from by decide) (x' := (⟨(rd_T36 x0_1 x21_1).f0, (rd_T36 x0_1 x21_1).f1, (⟨255, (rd_T36 x0_1 x21_1).f2.f1⟩ : S34)⟩ : S36)) (k36_mkM _ _ _ (⟨(rd_T36 x0_1 x21_1).f0, (rd_T36 x0_1 x21_1).f1, (⟨255, (rd_T36 x0_1 x21_1).f2.f1⟩ : S34)⟩ : S36) ) (fun _ hk => hk))); (try (have hx17_2 := hcc17 2 _ rfl)); (try (try simp only [show (k36).sz = 4 from rfl, Nat.mul_one, Nat.add_zero] at hx17_2)); (try (have hf17_2 := hfr17 2)); (try (try simp only [show (k36).sz = 4 from rfl, Nat.mul_one, Nat.add_zero] at hf17_2)); (try (clear hcl17 hcc17 hfr17 hM17)))); refine store_event (t := 24) (p := 28) (v := ?vo_w18) (w1 := (wr.setCell ⟨go16, (x21_1 : Int).toNat * 4 + 2, none⟩ (.int .u32 255))) ?hg ?ho ?hn ?hr ?_; (case ho => rfl); (case hg => rfl); (case hn => rfl); (case hr => first | (go_simp; done) | (go_simp; rfl)); intro w18 hw; have hg : wr.grownBy w18 (some go16) := (by rw [hw]; exact HP17.2); have hp_ : Kd.R k36 36 w18 w.heap.size (fun _ => True) (.slice (some ⟨go16, 0, none⟩) x0_1.length co12) y158 := (by rw [hw, Ny158.out]; exact HP17.1); clear HP17; have n0_ := Aside0.mk (hp_); have n1_ := Aside0.mk ((by rw [hw]; exact below_set (HB.out) GB16.out : Below w.heap.size w w18)); clear HO_0; clear HB; have HO_0 := n0_; have HB := n1_; clear n0_ n1_; clear hg hw hp_))
                  repeat (go_quiet (first | ((with_reducible refine gate_store (t := 24) (p := 28) rfl ?_); (try (rw [drewN_self wr]; generalize hq_ : World.drewN wr _ = wr; have n0_ := Aside0.mk (Kd.R_at hq_ HO_0.out); have n1_ := Aside0.mk (below_at hq_ HB.out); clear hq_ HO_0 HB; have HO_0 := n0_; have HB := n1_; clear n0_ n1_; (try (have HX17 := Aside0.mk (show Kd.R k36 36 wr w.heap.size (fun _ => True) (.slice (some ⟨go16, 0, none⟩) x0_1.length co12) x0_1 from (by (with_reducible repeat (first | apply Kd.R_alloc | apply Kd.R_drewN | apply Kd.R_drew)); exact HO_0.out)))); (try (obtain ⟨ce17, hcl17, hM17, hcc17, hfr17⟩ := Kd.R_elem HX17.out z36 (x21_1 : Int) (of_decide_eq_true (by first | (with_reducible assumption) | assumption)) (by have h_ : (x21_1 : Int) < ((x0_1.length : Int) : Int) := of_decide_eq_true (by first | (with_reducible assumption) | assumption); first | exact h_ | (have e_ := (Kd.R_reads' HO_0.out).1; omega) | simpa using h_))); (try (obtain rfl := k36_openM hM17)); (try (have HP17 := Kd.R_seg HX17.out (x21_1 : Int) (of_decide_eq_true (by first | (with_reducible assumption) | assumption)) (by have h_ : (x21_1 : Int) < ((x0_1.length : Int) : Int) := of_decide_eq_true (by first | (with_reducible assumption) | assumption); first | exact h_ | (have e_ := (Kd.R_reads' HO_0.out).1; omega) | simpa using h_) (seg := [.int .u32 255]) (j := 2) hcl17 hcc17 (show 3 ≤ 4 from by decide) (x' := (⟨(rd_T36 x0_1 x21_1).f0, (rd_T36 x0_1 x21_1).f1, (⟨255, (rd_T36 x0_1 x21_1).f2.f1⟩ : S34)⟩ : S36)) (k36_mkM _ _ _ (⟨(rd_T36 x0_1 x21_1).f0, (rd_T36 x0_1 x21_1).f1, (⟨255, (rd_T36 x0_1 x21_1).f2.f1⟩ : S34)⟩ : S36) ) (fun _ hk => hk))); (try (have hx17_2 := hcc17 2 _ rfl)); (try (try simp only [show (k36).sz = 4 from rfl, Nat.mul_one, Nat.add_zero] at hx17_2)); (try (have hf17_2 := hfr17 2)); (try (try simp only [show (k36).sz = 4 from rfl, Nat.mul_one, Nat.add_zero] at hf17_2)); (try (clear hcl17 hcc17 hfr17 hM17)))); refine store_event (t := 24) (p := 28) (v := ?vo_w18) (w1 := (wr.setCell ⟨go16, (x21_1 : Int).toNat * 4 + 2, none⟩ (.int .u32 255))) ?hg ?ho ?hn ?hr ?_; (case ho => rfl); (case hg => rfl); (case hn => rfl); (case hr => first | (go_simp; done) | (go_simp; rfl)); intro w18 hw; have hg : wr.grownBy w18 (some go16) := (by rw [hw]; exact HP17.2); have hp_ : Kd.R k36 36 w18 w.heap.size (fun _ => True) (.slice (some ⟨go16, 0, none⟩) x0_1.length co12) y158 := (by rw [hw, Ny158.out]; exact HP17.1); clear HP17; have n0_ := Aside0.mk (hp_); have n1_ := Aside0.mk ((by rw [hw]; exact below_set (HB.out) GB16.out : Below w.heap.size w w18)); clear HO_0; clear HB; have HO_0 := n0_; have HB := n1_; clear n0_ n1_; clear hg hw hp_)); try go_wp2_with (first | ((with_reducible refine gate_store (t := 24) (p := 28) rfl ?_); (try (rw [drewN_self wr]; generalize hq_ : World.drewN wr _ = wr; have n0_ := Aside0.mk (Kd.R_at hq_ HO_0.out); have n1_ := Aside0.mk (below_at hq_ HB.out); clear hq_ HO_0 HB; have HO_0 := n0_; have HB := n1_; clear n0_ n1_; (try (have HX17 := Aside0.mk (show Kd.R k36 36 wr w.heap.size (fun _ => True) (.slice (some ⟨go16, 0, none⟩) x0_1.length co12) x0_1 from (by (with_reducible repeat (first | apply Kd.R_alloc | apply Kd.R_drewN | apply Kd.R_drew)); exact HO_0.out)))); (try (obtain ⟨ce17, hcl17, hM17, hcc17, hfr17⟩ := Kd.R_elem HX17.out z36 (x21_1 : Int) (of_decide_eq_true (by first | (with_reducible assumption) | assumption)) (by have h_ : (x21_1 : Int) < ((x0_1.length : Int) : Int) := of_decide_eq_true (by first | (with_reducible assumption) | assumption); first | exact h_ | (have e_ := (Kd.R_reads' HO_0.out).1; omega) | simpa using h_))); (try (obtain rfl := k36_openM hM17)); (try (have HP17 := Kd.R_seg HX17.out (x21_1 : Int) (of_decide_eq_true (by first | (with_reducible assumption) | assumption)) (by have h_ : (x21_1 : Int) < ((x0_1.length : Int) : Int) := of_decide_eq_true (by first | (with_reducible assumption) | assumption); first | exact h_ | (have e_ := (Kd.R_reads' HO_0.out).1; omega) | simpa using h_) (seg := [.int .u32 255]) (j := 2) hcl17 hcc17 (show 3 ≤ 4 from by decide) (x' := (⟨(rd_T36 x0_1 x21_1).f0, (rd_T36 x0_1 x21_1).f1, (⟨255, (rd_T36 x0_1 x21_1).f2.f1⟩ : S34)⟩ : S36)) (k36_mkM _ _ _ (⟨(rd_T36 x0_1 x21_1).f0, (rd_T36 x0_1 x21_1).f1, (⟨255, (rd_T36 x0_1 x21_1).f2.f1⟩ : S34)⟩ : S36) ) (fun _ hk => hk))); (try (have hx17_2 := hcc17 2 _ rfl)); (try (try simp only [show (k36).sz = 4 from rfl, Nat.mul_one, Nat.add_zero] at hx17_2)); (try (have hf17_2 := hfr17 2)); (try (try simp only [show (k36).sz = 4 from rfl, Nat.mul_one, Nat.add_zero] at hf17_2)); (try (clear hcl17 hcc17 hfr17 hM17)))); refine store_event (t := 24) (p := 28) (v := ?vo_w18) (w1 := (wr.setCell ⟨go16, (x21_1 : Int).toNat * 4 + 2, none⟩ (.int .u32 255))) ?hg ?ho ?hn ?hr ?_; (case ho => rfl); (case hg => rfl); (case hn => rfl); (case hr => first | (go_simp; done) | (go_simp; rfl)); intro w18 hw; have hg : wr.grownBy w18 (some go16) := (by rw [hw]; exact HP17.2); have hp_ : Kd.R k36 36 w18 w.heap.size (fun _ => True) (.slice (some ⟨go16, 0, none⟩) x0_1.length co12) y158 := (by rw [hw, Ny158.out]; exact HP17.1); clear HP17; have n0_ := Aside0.mk (hp_); have n1_ := Aside0.mk ((by rw [hw]; exact below_set (HB.out) GB16.out : Below w.heap.size w w18)); clear HO_0; clear HB; have HO_0 := n0_; have HB := n1_; clear n0_ n1_; clear hg hw hp_)))
                  (try simp only [← hl0_1])
                  go_roundg k1
                  case measure => have := HK1.out; omega
                  case rel => exact ⟨(y158), (wrap64 (x21_1 + 1)), (by first | rfl | (simp; done) | (simp [*]; done)), H', ⟨by have := HK1.out; omega⟩, ⟨by (try simp only [hl0_1]); (with_reducible repeat (first | apply Kd.R_alloc | apply Kd.R_drewN | apply Kd.R_drew)); exact HO_0.out⟩, ⟨by repeat (first | (with_reducible first | exact HB.out | apply below_alloc | apply pw_below_drewN | apply below_drew1) | exact HB.out)⟩⟩
                · rw [if_neg c15] at H
                  exact absurd H (by simp)
              · rw [if_neg c14] at H
                exact absurd H (by simp)
            · rw [if_neg c13] at H
              have c13b0 : decide (x21_1 < (y155.length : Int)) = false := decide_eq_false c13
              (try have c13b2 : decide (x21_1 < (x0_1.length : Int)) = false := decide_eq_false (by have e_ := hl0_1; omega))
              clear c13
              replace H := Option.bind_eq_some_iff.mp H
              obtain ⟨⟨t159, t160, t161⟩, A190, H⟩ := H
              replace H : (if t161 = 0 then ((cpuset_Count.f a1).bind fun t164 => (if (t159.length : Int) = (mn (x0_1.length : Int) t164) then (if (t159.length : Int) < (x0_1.length : Int) then (mainsheetlaw13_PlaceFull.j1 k1 x0_1 t159 (t160 != 0)) else (mainsheetlaw13_PlaceFull.j1 k1 x0_1 t159 false)) else (mainsheetlaw13_PlaceFull.j1 k1 x0_1 t159 true))) else (some ((t159.length : Int) == 0))) = some r := H
              have A19 := Aside0.mk A190
              clear A190
              by_cases c20 : t161 = 0
              · rw [if_pos c20] at H
                have c20b0 : (t161 == 0) = true := beq_iff_eq.mpr c20
                have c20b1 : (t161 != 0) = false := bne_eq_false_iff_eq.mpr c20
                clear c20
                have HC21 := Aside0.mk H
                clear H
                go_upto_region 14 with (first | (go_at_call 16; (with_reducible refine (place_Place.calls _ _ x0_1 a1 t159 t160 t161 _ ?side1 ?side2 ?tb A19.out).mono ?_); (case tb => exact HT.out.step (by repeat (first | (with_reducible first | exact HB.out | apply below_alloc | apply pw_below_drewN | apply below_drew1) | exact HB.out))); (case side1 => repeat (first | exact (Kd.R_reads' HO_0.out).2.2 | (with_reducible refine Kd.C_alloc ?_ _) | (with_reducible refine Kd.C_drewN ?_ _) | (with_reducible refine Kd.C_drew ?_))); (case side2 => exact (Kd.R_reads' HO_0.out).2.1); rintro e w22 ⟨v162, rfl, ho0, hb⟩; have n0_ := Aside0.mk (Kd.R_below (by (with_reducible repeat (first | apply Kd.R_alloc | apply Kd.R_drewN | apply Kd.R_drew)); exact HO_0.out) hb); have n1_ := Aside0.mk (Kd.R_lower ho0 (below_size (by repeat (first | (with_reducible first | exact HB.out | apply below_alloc | apply pw_below_drewN | apply below_drew1) | exact HB.out)))); have n2_ := Aside0.mk (below_step (by repeat (first | (with_reducible first | exact HB.out | apply below_alloc | apply pw_below_drewN | apply below_drew1) | exact HB.out)) hb); clear HO_0; clear HB; have HO_0 := n0_; have HO163 := n1_; have HB := n2_; clear n0_ n1_ n2_; (try clear hb); (try clear hb2); (try clear hk); (try clear hi); (try clear ho0)))
                repeat (go_quiet (first | (go_at_call 16; (with_reducible refine (place_Place.calls _ _ x0_1 a1 t159 t160 t161 _ ?side1 ?side2 ?tb A19.out).mono ?_); (case tb => exact HT.out.step (by repeat (first | (with_reducible first | exact HB.out | apply below_alloc | apply pw_below_drewN | apply below_drew1) | exact HB.out))); (case side1 => repeat (first | exact (Kd.R_reads' HO_0.out).2.2 | (with_reducible refine Kd.C_alloc ?_ _) | (with_reducible refine Kd.C_drewN ?_ _) | (with_reducible refine Kd.C_drew ?_))); (case side2 => exact (Kd.R_reads' HO_0.out).2.1); rintro e w22 ⟨v162, rfl, ho0, hb⟩; have n0_ := Aside0.mk (Kd.R_below (by (with_reducible repeat (first | apply Kd.R_alloc | apply Kd.R_drewN | apply Kd.R_drew)); exact HO_0.out) hb); have n1_ := Aside0.mk (Kd.R_lower ho0 (below_size (by repeat (first | (with_reducible first | exact HB.out | apply below_alloc | apply pw_below_drewN | apply below_drew1) | exact HB.out)))); have n2_ := Aside0.mk (below_step (by repeat (first | (with_reducible first | exact HB.out | apply below_alloc | apply pw_below_drewN | apply below_drew1) | exact HB.out)) hb); clear HO_0; clear HB; have HO_0 := n0_; have HO163 := n1_; have HB := n2_; clear n0_ n1_ n2_; (try clear hb); (try clear hb2); (try clear hk); (try clear hi); (try clear ho0))); go_upto_region 14 with (first | (go_at_call 16; (with_reducible refine (place_Place.calls _ _ x0_1 a1 t159 t160 t161 _ ?side1 ?side2 ?tb A19.out).mono ?_); (case tb => exact HT.out.step (by repeat (first | (with_reducible first | exact HB.out | apply below_alloc | apply pw_below_drewN | apply below_drew1) | exact HB.out))); (case side1 => repeat (first | exact (Kd.R_reads' HO_0.out).2.2 | (with_reducible refine Kd.C_alloc ?_ _) | (with_reducible refine Kd.C_drewN ?_ _) | (with_reducible refine Kd.C_drew ?_))); (case side2 => exact (Kd.R_reads' HO_0.out).2.1); rintro e w22 ⟨v162, rfl, ho0, hb⟩; have n0_ := Aside0.mk (Kd.R_below (by (with_reducible repeat (first | apply Kd.R_alloc | apply Kd.R_drewN | apply Kd.R_drew)); exact HO_0.out) hb); have n1_ := Aside0.mk (Kd.R_lower ho0 (below_size (by repeat (first | (with_reducible first | exact HB.out | apply below_alloc | apply pw_below_drewN | apply below_drew1) | exact HB.out)))); have n2_ := Aside0.mk (below_step (by repeat (first | (with_reducible first | exact HB.out | apply below_alloc | apply pw_below_drewN | apply below_drew1) | exact HB.out)) hb); clear HO_0; clear HB; have HO_0 := n0_; have HO163 := n1_; have HB := n2_; clear n0_ n1_ n2_; (try clear hb); (try clear hb2); (try clear hk); (try clear hi); (try clear ho0))))
                (try simp only [Act.put, List.setIfInBounds_toArray, List.set_cons_zero, List.set_cons_succ])
                go_cut [60] (fun v60 wc => ∃ (kq : Nat) (x60_20 : Bool), v60 = .bool x60_20 ∧ Aside0 (mainsheetlaw13_PlaceFull.j1 kq x0_1 t159 x60_20 = some r) ∧ Aside0 (kq ≤ k1) ∧ Aside0 (Kd.R k36 36 wc w.heap.size (fun _ => True) (.slice Ao12 x0_1.length co12) x0_1) ∧ Aside0 (Kd.R k31 31 wc w.heap.size (fun _ => True) v162 t159) ∧ Aside0 (Below w.heap.size w wc))
                case first =>
                  have H := HC21.out
                  clear HC21
                  replace H := Option.bind_eq_some_iff.mp H
                  obtain ⟨t164, A230, H⟩ := H
                  replace H : (if (t159.length : Int) = (mn (x0_1.length : Int) t164) then (if (t159.length : Int) < (x0_1.length : Int) then (mainsheetlaw13_PlaceFull.j1 k1 x0_1 t159 (t160 != 0)) else (mainsheetlaw13_PlaceFull.j1 k1 x0_1 t159 false)) else (mainsheetlaw13_PlaceFull.j1 k1 x0_1 t159 true)) = some r := H
                  have A23 := Aside0.mk A230
                  clear A230
                  obtain ⟨ji24, hji24⟩ : ∃ j_ : Int, (mn (x0_1.length : Int) t164) = j_ := ⟨_, rfl⟩
                  replace H : (if (t159.length : Int) = (ji24) then (if (t159.length : Int) < (x0_1.length : Int) then (mainsheetlaw13_PlaceFull.j1 k1 x0_1 t159 (t160 != 0)) else (mainsheetlaw13_PlaceFull.j1 k1 x0_1 t159 false)) else (mainsheetlaw13_PlaceFull.j1 k1 x0_1 t159 true)) = some r := by first | (rw [hji24] at H; exact H) | (simp only [hji24] at H ⊢; exact H)
                  (try rw [hji24] at A23)
                  have hji24_ : (if t164 < (x0_1.length : Int) then t164 else (x0_1.length : Int)) = ji24 := hji24
                  by_cases c25 : (t159.length : Int) = (ji24)
                  · rw [if_pos c25] at H
                    have c25b0 : ((t159.length : Int) == (ji24)) = true := beq_iff_eq.mpr c25
                    have c25b1 : ((t159.length : Int) != (ji24)) = false := bne_eq_false_iff_eq.mpr c25
                    clear c25
                    (first | rw [c25b0] | (simp only [i64_w, i32_w]; rw [c25b0]) | skip)
                    by_cases c26 : (t159.length : Int) < (x0_1.length : Int)
                    · rw [if_pos c26] at H
                      have c26b0 : decide ((t159.length : Int) < (x0_1.length : Int)) = true := decide_eq_true c26
                      have c26b1 : decide (t159.length < x0_1.length) = true := decide_eq_true (Int.ofNat_lt.mp c26)
                      clear c26
                      have H' := Aside0.mk H
                      clear H
                      obtain ⟨Ao27, co27, eo27⟩ := Kd.R_slice HO163.out
                      subst eo27
                      go_wp2_with (first | (go_at_call 17; (with_reducible refine (cpuset_Count.calls a1 t164 _ A23.out).mono ?_); rintro e w' ⟨rfl, ⟨nd, rfl⟩⟩; (try first | exact ⟨rfl, _, World.drewN_drewN _ _ _⟩ | exact ⟨rfl, _, Eq.trans (World.drewN_drewN _ _ _) (congrArg (World.drewN _) (Nat.add_assoc _ _ _))⟩)))
                      repeat (go_quiet (first | (go_at_call 17; (with_reducible refine (cpuset_Count.calls a1 t164 _ A23.out).mono ?_); rintro e w' ⟨rfl, ⟨nd, rfl⟩⟩; (try first | exact ⟨rfl, _, World.drewN_drewN _ _ _⟩ | exact ⟨rfl, _, Eq.trans (World.drewN_drewN _ _ _) (congrArg (World.drewN _) (Nat.add_assoc _ _ _))⟩))); try go_wp2_with (first | (go_at_call 17; (with_reducible refine (cpuset_Count.calls a1 t164 _ A23.out).mono ?_); rintro e w' ⟨rfl, ⟨nd, rfl⟩⟩; (try first | exact ⟨rfl, _, World.drewN_drewN _ _ _⟩ | exact ⟨rfl, _, Eq.trans (World.drewN_drewN _ _ _) (congrArg (World.drewN _) (Nat.add_assoc _ _ _))⟩))))
                      go_meet
                      case rel => exact ⟨_, ((t160 != 0)), (by first | rfl | (simp; done) | (simp [*]; done)), H', ⟨by have := HK1.out; first | omega | exact Nat.le_refl _⟩, ⟨by (try simp only [hl0_1]); (with_reducible repeat (first | apply Kd.R_alloc | apply Kd.R_drewN | apply Kd.R_drew)); exact HO_0.out⟩, ⟨by (try simp only [hl0_1]); (with_reducible repeat (first | apply Kd.R_alloc | apply Kd.R_drewN | apply Kd.R_drew)); exact HO163.out⟩, ⟨by repeat (first | (with_reducible first | exact HB.out | apply below_alloc | apply pw_below_drewN | apply below_drew1) | exact HB.out)⟩⟩
                    · rw [if_neg c26] at H
                      have c26b0 : decide ((t159.length : Int) < (x0_1.length : Int)) = false := decide_eq_false c26
                      have c26b1 : decide (t159.length < x0_1.length) = false := decide_eq_false (fun h => c26 (Int.ofNat_lt.mpr h))
                      clear c26
                      have H' := Aside0.mk H
                      clear H
                      obtain ⟨Ao28, co28, eo28⟩ := Kd.R_slice HO163.out
                      subst eo28
                      go_wp2_with (first | (go_at_call 17; (with_reducible refine (cpuset_Count.calls a1 t164 _ A23.out).mono ?_); rintro e w' ⟨rfl, ⟨nd, rfl⟩⟩; (try first | exact ⟨rfl, _, World.drewN_drewN _ _ _⟩ | exact ⟨rfl, _, Eq.trans (World.drewN_drewN _ _ _) (congrArg (World.drewN _) (Nat.add_assoc _ _ _))⟩)))
                      repeat (go_quiet (first | (go_at_call 17; (with_reducible refine (cpuset_Count.calls a1 t164 _ A23.out).mono ?_); rintro e w' ⟨rfl, ⟨nd, rfl⟩⟩; (try first | exact ⟨rfl, _, World.drewN_drewN _ _ _⟩ | exact ⟨rfl, _, Eq.trans (World.drewN_drewN _ _ _) (congrArg (World.drewN _) (Nat.add_assoc _ _ _))⟩))); try go_wp2_with (first | (go_at_call 17; (with_reducible refine (cpuset_Count.calls a1 t164 _ A23.out).mono ?_); rintro e w' ⟨rfl, ⟨nd, rfl⟩⟩; (try first | exact ⟨rfl, _, World.drewN_drewN _ _ _⟩ | exact ⟨rfl, _, Eq.trans (World.drewN_drewN _ _ _) (congrArg (World.drewN _) (Nat.add_assoc _ _ _))⟩))))
                      go_meet
                      case rel => exact ⟨_, (false), (by first | rfl | (simp; done) | (simp [*]; done)), H', ⟨by have := HK1.out; first | omega | exact Nat.le_refl _⟩, ⟨by (try simp only [hl0_1]); (with_reducible repeat (first | apply Kd.R_alloc | apply Kd.R_drewN | apply Kd.R_drew)); exact HO_0.out⟩, ⟨by (try simp only [hl0_1]); (with_reducible repeat (first | apply Kd.R_alloc | apply Kd.R_drewN | apply Kd.R_drew)); exact HO163.out⟩, ⟨by repeat (first | (with_reducible first | exact HB.out | apply below_alloc | apply pw_below_drewN | apply below_drew1) | exact HB.out)⟩⟩
                  · rw [if_neg c25] at H
                    have c25b0 : ((t159.length : Int) == (ji24)) = false := beq_eq_false_iff_ne.mpr c25
                    have c25b1 : ((t159.length : Int) != (ji24)) = true := bne_iff_ne.mpr c25
                    (first | rw [c25b0] | (simp only [i64_w, i32_w]; rw [c25b0]) | skip)
                    have H' := Aside0.mk H
                    clear H
                    obtain ⟨Ao29, co29, eo29⟩ := Kd.R_slice HO163.out
                    subst eo29
                    go_wp2_with (first | (go_at_call 17; (with_reducible refine (cpuset_Count.calls a1 t164 _ A23.out).mono ?_); rintro e w' ⟨rfl, ⟨nd, rfl⟩⟩; (try first | exact ⟨rfl, _, World.drewN_drewN _ _ _⟩ | exact ⟨rfl, _, Eq.trans (World.drewN_drewN _ _ _) (congrArg (World.drewN _) (Nat.add_assoc _ _ _))⟩)))
                    repeat (go_quiet (first | (go_at_call 17; (with_reducible refine (cpuset_Count.calls a1 t164 _ A23.out).mono ?_); rintro e w' ⟨rfl, ⟨nd, rfl⟩⟩; (try first | exact ⟨rfl, _, World.drewN_drewN _ _ _⟩ | exact ⟨rfl, _, Eq.trans (World.drewN_drewN _ _ _) (congrArg (World.drewN _) (Nat.add_assoc _ _ _))⟩))); try go_wp2_with (first | (go_at_call 17; (with_reducible refine (cpuset_Count.calls a1 t164 _ A23.out).mono ?_); rintro e w' ⟨rfl, ⟨nd, rfl⟩⟩; (try first | exact ⟨rfl, _, World.drewN_drewN _ _ _⟩ | exact ⟨rfl, _, Eq.trans (World.drewN_drewN _ _ _) (congrArg (World.drewN _) (Nat.add_assoc _ _ _))⟩))))
                    go_meet
                    case rel => exact ⟨_, (true), (by first | rfl | (simp; done) | (simp [*]; done)), H', ⟨by have := HK1.out; first | omega | exact Nat.le_refl _⟩, ⟨by (try simp only [hl0_1]); (with_reducible repeat (first | apply Kd.R_alloc | apply Kd.R_drewN | apply Kd.R_drew)); exact HO_0.out⟩, ⟨by (try simp only [hl0_1]); (with_reducible repeat (first | apply Kd.R_alloc | apply Kd.R_drewN | apply Kd.R_drew)); exact HO163.out⟩, ⟨by repeat (first | (with_reducible first | exact HB.out | apply below_alloc | apply pw_below_drewN | apply below_drew1) | exact HB.out)⟩⟩
                case rest =>
                  clear HC21
                  try clear c1
                  try clear p1
                  try clear q1
                  try clear hx1
                  try clear c2
                  try clear p2
                  try clear c4
                  try clear c5
                  try clear c5b0
                  try clear c5b1
                  try clear p6
                  try clear c7
                  try clear c13
                  try clear c13b0
                  try clear c14
                  try clear c14b0
                  try clear c15
                  try clear c15b0
                  try clear c16
                  try clear p16
                  try clear q16
                  try clear hx16
                  try clear hf16
                  try clear c17
                  try clear hx17
                  try clear hf17
                  try clear c20
                  try clear c20b0
                  try clear c20b1
                  try clear c25
                  try clear c25b0
                  try clear c25b1
                  try clear c26
                  try clear c26b0
                  try clear c26b1
                  try clear hx16_0
                  try clear hx16_1
                  try clear hx16_2
                  try clear hx16_3
                  try clear hx17_2
                  try clear p16
                  try clear p2
                  try clear q16
                  obtain ⟨kq, x60_20, rfl, HA, HJ20, HO_0, HO_6, HB⟩ := hcut
                  cases kq with
                  | zero => exact absurd HA.out (by simp [mainsheetlaw13_PlaceFull.j1])
                  | succ kj20 =>
                    have H := HA.out
                    clear HA
                    simp only [mainsheetlaw13_PlaceFull.j1] at H
                    by_cases c30 : x60_20 = true
                    · subst c30
                      have H1 : (some false) = some r := by rw [if_pos rfl] at H; exact H
                      clear H
                      have H := H1
                      clear H1
                      obtain rfl := Option.some.inj H
                      go_wp2
                      repeat (go_quiet (fail); try go_wp2)
                      go_ret
                      exact ⟨by first | rfl | (simp [errW_none, errW_some] <;> rfl) | (simp [*, errW_none, errW_some] <;> rfl), by repeat (first | (with_reducible first | exact HB.out | apply below_alloc | apply pw_below_drewN | apply below_drew1) | exact HB.out)⟩
                    · replace c30 := Bool.eq_false_iff.mpr c30
                      subst c30
                      have H1 : (mainsheetlaw13_PlaceFull.l1 kj20 x0_1 t159 (t159.length : Int) 0) = some r := by rw [if_neg (show ¬ (false = true) by decide)] at H; exact H
                      clear H
                      have H := H1
                      clear H1
                      have H' := Aside0.mk H
                      clear H
                      obtain ⟨Ao31, co31, eo31⟩ := Kd.R_slice HO_6.out
                      subst eo31
                      go_wp2
                      repeat (go_quiet (fail); try go_wp2)
                      go_loopg [63] kj20 (fun kq v63 w' => ∃ (x63_3 : Int), v63 = .int .i64 x63_3 ∧ Aside0 (mainsheetlaw13_PlaceFull.l1 kq x0_1 t159 (t159.length : Int) x63_3 = some r) ∧ Aside0 (kq ≤ kj20) ∧ Aside0 (Kd.R k36 36 w' w.heap.size (fun _ => True) (.slice Ao12 x0_1.length co12) x0_1) ∧ Aside0 (Kd.R k31 31 w' w.heap.size (fun _ => True) (.slice Ao31 t159.length co31) t159) ∧ Aside0 (Below w.heap.size w w'))
                      case atStart => exact ⟨(0), (by first | rfl | (simp; done) | (simp [*]; done)), H', ⟨Nat.le_refl _⟩, ⟨by (try simp only [hl0_1]); (with_reducible repeat (first | apply Kd.R_alloc | apply Kd.R_drewN | apply Kd.R_drew)); exact HO_0.out⟩, ⟨by (try simp only [hl0_1]); (with_reducible repeat (first | apply Kd.R_alloc | apply Kd.R_drewN | apply Kd.R_drew)); exact HO_6.out⟩, ⟨by repeat (first | (with_reducible first | exact HB.out | apply below_alloc | apply pw_below_drewN | apply below_drew1) | exact HB.out)⟩⟩
                      case round =>
                        clear H'
                        try clear c1
                        try clear p1
                        try clear q1
                        try clear hx1
                        try clear c2
                        try clear p2
                        try clear c3
                        try clear c4
                        try clear c5
                        try clear c5b0
                        try clear c5b1
                        try clear p6
                        try clear c7
                        try clear c13
                        try clear c13b0
                        try clear c14
                        try clear c14b0
                        try clear c15
                        try clear c15b0
                        try clear c16
                        try clear p16
                        try clear q16
                        try clear hx16
                        try clear hf16
                        try clear c17
                        try clear hx17
                        try clear hf17
                        try clear c20
                        try clear c20b0
                        try clear c20b1
                        try clear c25
                        try clear c25b0
                        try clear c25b1
                        try clear c26
                        try clear c26b0
                        try clear c26b1
                        try clear c30
                        try clear hx16_0
                        try clear hx16_1
                        try clear hx16_2
                        try clear hx16_3
                        try clear hx17_2
                        try clear p1
                        try clear p16
                        try clear p2
                        try clear p6
                        try clear q1
                        try clear q16
                        obtain ⟨x63_3, rfl, HA, HK3, HO_0, HO_61, HB⟩ := hrel
                        cases gk with
                        | zero => exact absurd HA.out (by simp [mainsheetlaw13_PlaceFull.l1])
                        | succ k3 =>
                          have H := HA.out
                          clear HA
                          simp only [mainsheetlaw13_PlaceFull.l1] at H
                          by_cases c32 : x63_3 < (t159.length : Int)
                          · rw [if_pos c32] at H
                            have c32b0 : decide (x63_3 < (t159.length : Int)) = true := decide_eq_true c32
                            clear c32
                            by_cases c33 : 0 ≤ x63_3
                            · rw [if_pos c33] at H
                              have c33b0 : decide (0 ≤ x63_3) = true := decide_eq_true c33
                              clear c33
                              by_cases c34 : x63_3 < (t159.length : Int)
                              · rw [if_pos c34] at H
                                have c34b0 : decide (x63_3 < (t159.length : Int)) = true := decide_eq_true c34
                                clear c34
                                by_cases c35 : x63_3 < (x0_1.length : Int)
                                · rw [if_pos c35] at H
                                  have c35b0 : decide (x63_3 < (x0_1.length : Int)) = true := decide_eq_true c35
                                  clear c35
                                  by_cases c36 : ((rd_T31 t159 x63_3).f0) = ((rd_T36 x0_1 x63_3).f0)
                                  · rw [if_pos c36] at H
                                    have c36b0 : (((rd_T31 t159 x63_3).f0) == ((rd_T36 x0_1 x63_3).f0)) = true := beq_iff_eq.mpr c36
                                    have c36b1 : (((rd_T31 t159 x63_3).f0) != ((rd_T36 x0_1 x63_3).f0)) = false := bne_eq_false_iff_eq.mpr c36
                                    clear c36
                                    have H' := Aside0.mk H
                                    clear H
                                    have p165 : 0 ≤ (x63_3 : Int) := of_decide_eq_true (by first | (with_reducible assumption) | assumption)
                                    have q165 : x63_3 < (t159.length : Int) := of_decide_eq_true (by first | (with_reducible assumption) | assumption)
                                    obtain ⟨ad165, e165, hx165_0, hx165_1⟩ := at_T31 (Kd.R_reads' HO_61.out).2.2 x63_3 p165 q165
                                    cases e165
                                    replace p165 := eq_true p165
                                    replace q165 := eq_true q165
                                    go_wp2_with (first | ((with_reducible refine gate_dst (N := 10) rfl ?_); (try (refine gate_guard (by rfl) ?_; dsimp only)); refine box_event ?hg (N := 10) ?hd (cs := #[.int .i64 0, .int .i64 0]) (t := 31) ?hr ?_; (case hd => rfl); (case hg => rfl); (case hr => first | (go_simp; done) | (go_simp; rfl)); intro gb166 hg w37 hbox hb; have n0_ := Aside0.mk (Kd.R_below (by (with_reducible repeat (first | apply Kd.R_alloc | apply Kd.R_drewN | apply Kd.R_drew)); exact HO_0.out) hb); have n1_ := Aside0.mk (Kd.R_below (Kd.R_elderB (by (with_reducible repeat (first | apply Kd.R_alloc | apply Kd.R_drewN | apply Kd.R_drew)); exact HO_61.out) gb166 (Nat.le_of_eq hg.symm)) hb); have n2_ := Aside0.mk (below_step (by repeat (first | (with_reducible first | exact HB.out | apply below_alloc | apply pw_below_drewN | apply below_drew1) | exact HB.out)) hb); have n3_ := Aside0.mk (hbox); have n4_ := Aside0.mk ((by rw [hg]; exact (below_size (by repeat (first | (with_reducible first | exact HB.out | apply below_alloc | apply pw_below_drewN | apply below_drew1) | exact HB.out))) : w.heap.size ≤ gb166)); have n5_ := Aside0.mk ((by rw [hg]; exact (below_size (by repeat (first | (with_reducible first | exact HB.out | apply below_alloc | apply pw_below_drewN | apply below_drew1) | exact HB.out))) : w.heap.size ≤ gb166)); clear HO_0; clear HO_61; clear HB; have HO_0 := n0_; have HO_61 := n1_; have HB := n2_; have BK166 := n3_; have GW166 := n4_; have GE166 := n5_; clear n0_ n1_ n2_ n3_ n4_ n5_; clear hb hbox hg; have hcz38_0 : w37.cell? ⟨gb166, 0, none⟩ = some (.int .i64 0) := (blk_cell BK166.out 0).trans rfl; have hcz38_1 : w37.cell? ⟨gb166, 1, none⟩ = some (.int .i64 0) := (blk_cell BK166.out 1).trans rfl; have hfz38_0 := blk_frozen BK166.out 0; have hfz38_1 := blk_frozen BK166.out 1; have p167 : 0 ≤ (x63_3 : Int) := of_decide_eq_true (by first | (with_reducible assumption) | assumption); have q167 : x63_3 < (x0_1.length : Int) := of_decide_eq_true (by first | (with_reducible assumption) | assumption); obtain ⟨ad167, e167, hx167_0, hx167_1, hx167_2, hx167_3⟩ := at_T36 (Kd.R_reads' HO_0.out).2.2 x63_3 p167 q167; cases e167; have hn167_0 : ad167.block ≠ gb166 := Kd.own_blk (Kd.R_ne HO_0.out BK166.out (by decide)); have hn167_1 : ad167.block ≠ gb166 := Kd.own_blk (Kd.R_ne HO_0.out BK166.out (by decide)); replace hx167_0 := (cell_far (p := ⟨gb166, 0, none⟩) (by first | (rw [add_block]; exact hn167_0) | (show (Addr.add _ _).block ≠ _; rw [add_block]; exact hn167_0) | exact hn167_0) (.int .i64 ((rd_T31 t159 x63_3).f0))).trans hx167_0; replace hx167_1 := (cell_far (p := ⟨gb166, 0, none⟩) (by first | (rw [add_block]; exact hn167_0) | (show (Addr.add _ _).block ≠ _; rw [add_block]; exact hn167_0) | exact hn167_0) (.int .i64 ((rd_T31 t159 x63_3).f0))).trans hx167_1; replace hx167_2 := (cell_far (p := ⟨gb166, 0, none⟩) (by first | (rw [add_block]; exact hn167_0) | (show (Addr.add _ _).block ≠ _; rw [add_block]; exact hn167_0) | exact hn167_0) (.int .i64 ((rd_T31 t159 x63_3).f0))).trans hx167_2; replace hx167_3 := (cell_far (p := ⟨gb166, 0, none⟩) (by first | (rw [add_block]; exact hn167_0) | (show (Addr.add _ _).block ≠ _; rw [add_block]; exact hn167_0) | exact hn167_0) (.int .i64 ((rd_T31 t159 x63_3).f0))).trans hx167_3; replace hx167_0 := (cell_far (p := ⟨gb166, 1, none⟩) (by first | (rw [add_block]; exact hn167_1) | (show (Addr.add _ _).block ≠ _; rw [add_block]; exact hn167_1) | exact hn167_1) (.int .i64 ((rd_T31 t159 x63_3).f1))).trans hx167_0; replace hx167_1 := (cell_far (p := ⟨gb166, 1, none⟩) (by first | (rw [add_block]; exact hn167_1) | (show (Addr.add _ _).block ≠ _; rw [add_block]; exact hn167_1) | exact hn167_1) (.int .i64 ((rd_T31 t159 x63_3).f1))).trans hx167_1; replace hx167_2 := (cell_far (p := ⟨gb166, 1, none⟩) (by first | (rw [add_block]; exact hn167_1) | (show (Addr.add _ _).block ≠ _; rw [add_block]; exact hn167_1) | exact hn167_1) (.int .i64 ((rd_T31 t159 x63_3).f1))).trans hx167_2; replace hx167_3 := (cell_far (p := ⟨gb166, 1, none⟩) (by first | (rw [add_block]; exact hn167_1) | (show (Addr.add _ _).block ≠ _; rw [add_block]; exact hn167_1) | exact hn167_1) (.int .i64 ((rd_T31 t159 x63_3).f1))).trans hx167_3; (try have hy167_0 := fun (n_ : Nat) => (show ((((w37.drewN n_).setCell ⟨gb166, 0, none⟩ (.int .i64 ((rd_T31 t159 x63_3).f0))).setCell ⟨gb166, 1, none⟩ (.int .i64 ((rd_T31 t159 x63_3).f1)))).cell? _ = some _ from hx167_0)); (try have hy167_1 := fun (n_ : Nat) => (show ((((w37.drewN n_).setCell ⟨gb166, 0, none⟩ (.int .i64 ((rd_T31 t159 x63_3).f0))).setCell ⟨gb166, 1, none⟩ (.int .i64 ((rd_T31 t159 x63_3).f1)))).cell? _ = some _ from hx167_1)); (try have hy167_2 := fun (n_ : Nat) => (show ((((w37.drewN n_).setCell ⟨gb166, 0, none⟩ (.int .i64 ((rd_T31 t159 x63_3).f0))).setCell ⟨gb166, 1, none⟩ (.int .i64 ((rd_T31 t159 x63_3).f1)))).cell? _ = some _ from hx167_2)); (try have hy167_3 := fun (n_ : Nat) => (show ((((w37.drewN n_).setCell ⟨gb166, 0, none⟩ (.int .i64 ((rd_T31 t159 x63_3).f0))).setCell ⟨gb166, 1, none⟩ (.int .i64 ((rd_T31 t159 x63_3).f1)))).cell? _ = some _ from hx167_3)); clear hn167_0; clear hn167_1; replace p167 := eq_true p167; replace q167 := eq_true q167))
                                    repeat (go_quiet (first | ((with_reducible refine gate_dst (N := 10) rfl ?_); (try (refine gate_guard (by rfl) ?_; dsimp only)); refine box_event ?hg (N := 10) ?hd (cs := #[.int .i64 0, .int .i64 0]) (t := 31) ?hr ?_; (case hd => rfl); (case hg => rfl); (case hr => first | (go_simp; done) | (go_simp; rfl)); intro gb166 hg w37 hbox hb; have n0_ := Aside0.mk (Kd.R_below (by (with_reducible repeat (first | apply Kd.R_alloc | apply Kd.R_drewN | apply Kd.R_drew)); exact HO_0.out) hb); have n1_ := Aside0.mk (Kd.R_below (Kd.R_elderB (by (with_reducible repeat (first | apply Kd.R_alloc | apply Kd.R_drewN | apply Kd.R_drew)); exact HO_61.out) gb166 (Nat.le_of_eq hg.symm)) hb); have n2_ := Aside0.mk (below_step (by repeat (first | (with_reducible first | exact HB.out | apply below_alloc | apply pw_below_drewN | apply below_drew1) | exact HB.out)) hb); have n3_ := Aside0.mk (hbox); have n4_ := Aside0.mk ((by rw [hg]; exact (below_size (by repeat (first | (with_reducible first | exact HB.out | apply below_alloc | apply pw_below_drewN | apply below_drew1) | exact HB.out))) : w.heap.size ≤ gb166)); have n5_ := Aside0.mk ((by rw [hg]; exact (below_size (by repeat (first | (with_reducible first | exact HB.out | apply below_alloc | apply pw_below_drewN | apply below_drew1) | exact HB.out))) : w.heap.size ≤ gb166)); clear HO_0; clear HO_61; clear HB; have HO_0 := n0_; have HO_61 := n1_; have HB := n2_; have BK166 := n3_; have GW166 := n4_; have GE166 := n5_; clear n0_ n1_ n2_ n3_ n4_ n5_; clear hb hbox hg; have hcz38_0 : w37.cell? ⟨gb166, 0, none⟩ = some (.int .i64 0) := (blk_cell BK166.out 0).trans rfl; have hcz38_1 : w37.cell? ⟨gb166, 1, none⟩ = some (.int .i64 0) := (blk_cell BK166.out 1).trans rfl; have hfz38_0 := blk_frozen BK166.out 0; have hfz38_1 := blk_frozen BK166.out 1; have p167 : 0 ≤ (x63_3 : Int) := of_decide_eq_true (by first | (with_reducible assumption) | assumption); have q167 : x63_3 < (x0_1.length : Int) := of_decide_eq_true (by first | (with_reducible assumption) | assumption); obtain ⟨ad167, e167, hx167_0, hx167_1, hx167_2, hx167_3⟩ := at_T36 (Kd.R_reads' HO_0.out).2.2 x63_3 p167 q167; cases e167; have hn167_0 : ad167.block ≠ gb166 := Kd.own_blk (Kd.R_ne HO_0.out BK166.out (by decide)); have hn167_1 : ad167.block ≠ gb166 := Kd.own_blk (Kd.R_ne HO_0.out BK166.out (by decide)); replace hx167_0 := (cell_far (p := ⟨gb166, 0, none⟩) (by first | (rw [add_block]; exact hn167_0) | (show (Addr.add _ _).block ≠ _; rw [add_block]; exact hn167_0) | exact hn167_0) (.int .i64 ((rd_T31 t159 x63_3).f0))).trans hx167_0; replace hx167_1 := (cell_far (p := ⟨gb166, 0, none⟩) (by first | (rw [add_block]; exact hn167_0) | (show (Addr.add _ _).block ≠ _; rw [add_block]; exact hn167_0) | exact hn167_0) (.int .i64 ((rd_T31 t159 x63_3).f0))).trans hx167_1; replace hx167_2 := (cell_far (p := ⟨gb166, 0, none⟩) (by first | (rw [add_block]; exact hn167_0) | (show (Addr.add _ _).block ≠ _; rw [add_block]; exact hn167_0) | exact hn167_0) (.int .i64 ((rd_T31 t159 x63_3).f0))).trans hx167_2; replace hx167_3 := (cell_far (p := ⟨gb166, 0, none⟩) (by first | (rw [add_block]; exact hn167_0) | (show (Addr.add _ _).block ≠ _; rw [add_block]; exact hn167_0) | exact hn167_0) (.int .i64 ((rd_T31 t159 x63_3).f0))).trans hx167_3; replace hx167_0 := (cell_far (p := ⟨gb166, 1, none⟩) (by first | (rw [add_block]; exact hn167_1) | (show (Addr.add _ _).block ≠ _; rw [add_block]; exact hn167_1) | exact hn167_1) (.int .i64 ((rd_T31 t159 x63_3).f1))).trans hx167_0; replace hx167_1 := (cell_far (p := ⟨gb166, 1, none⟩) (by first | (rw [add_block]; exact hn167_1) | (show (Addr.add _ _).block ≠ _; rw [add_block]; exact hn167_1) | exact hn167_1) (.int .i64 ((rd_T31 t159 x63_3).f1))).trans hx167_1; replace hx167_2 := (cell_far (p := ⟨gb166, 1, none⟩) (by first | (rw [add_block]; exact hn167_1) | (show (Addr.add _ _).block ≠ _; rw [add_block]; exact hn167_1) | exact hn167_1) (.int .i64 ((rd_T31 t159 x63_3).f1))).trans hx167_2; replace hx167_3 := (cell_far (p := ⟨gb166, 1, none⟩) (by first | (rw [add_block]; exact hn167_1) | (show (Addr.add _ _).block ≠ _; rw [add_block]; exact hn167_1) | exact hn167_1) (.int .i64 ((rd_T31 t159 x63_3).f1))).trans hx167_3; (try have hy167_0 := fun (n_ : Nat) => (show ((((w37.drewN n_).setCell ⟨gb166, 0, none⟩ (.int .i64 ((rd_T31 t159 x63_3).f0))).setCell ⟨gb166, 1, none⟩ (.int .i64 ((rd_T31 t159 x63_3).f1)))).cell? _ = some _ from hx167_0)); (try have hy167_1 := fun (n_ : Nat) => (show ((((w37.drewN n_).setCell ⟨gb166, 0, none⟩ (.int .i64 ((rd_T31 t159 x63_3).f0))).setCell ⟨gb166, 1, none⟩ (.int .i64 ((rd_T31 t159 x63_3).f1)))).cell? _ = some _ from hx167_1)); (try have hy167_2 := fun (n_ : Nat) => (show ((((w37.drewN n_).setCell ⟨gb166, 0, none⟩ (.int .i64 ((rd_T31 t159 x63_3).f0))).setCell ⟨gb166, 1, none⟩ (.int .i64 ((rd_T31 t159 x63_3).f1)))).cell? _ = some _ from hx167_2)); (try have hy167_3 := fun (n_ : Nat) => (show ((((w37.drewN n_).setCell ⟨gb166, 0, none⟩ (.int .i64 ((rd_T31 t159 x63_3).f0))).setCell ⟨gb166, 1, none⟩ (.int .i64 ((rd_T31 t159 x63_3).f1)))).cell? _ = some _ from hx167_3)); clear hn167_0; clear hn167_1; replace p167 := eq_true p167; replace q167 := eq_true q167)); try go_wp2_with (first | ((with_reducible refine gate_dst (N := 10) rfl ?_); (try (refine gate_guard (by rfl) ?_; dsimp only)); refine box_event ?hg (N := 10) ?hd (cs := #[.int .i64 0, .int .i64 0]) (t := 31) ?hr ?_; (case hd => rfl); (case hg => rfl); (case hr => first | (go_simp; done) | (go_simp; rfl)); intro gb166 hg w37 hbox hb; have n0_ := Aside0.mk (Kd.R_below (by (with_reducible repeat (first | apply Kd.R_alloc | apply Kd.R_drewN | apply Kd.R_drew)); exact HO_0.out) hb); have n1_ := Aside0.mk (Kd.R_below (Kd.R_elderB (by (with_reducible repeat (first | apply Kd.R_alloc | apply Kd.R_drewN | apply Kd.R_drew)); exact HO_61.out) gb166 (Nat.le_of_eq hg.symm)) hb); have n2_ := Aside0.mk (below_step (by repeat (first | (with_reducible first | exact HB.out | apply below_alloc | apply pw_below_drewN | apply below_drew1) | exact HB.out)) hb); have n3_ := Aside0.mk (hbox); have n4_ := Aside0.mk ((by rw [hg]; exact (below_size (by repeat (first | (with_reducible first | exact HB.out | apply below_alloc | apply pw_below_drewN | apply below_drew1) | exact HB.out))) : w.heap.size ≤ gb166)); have n5_ := Aside0.mk ((by rw [hg]; exact (below_size (by repeat (first | (with_reducible first | exact HB.out | apply below_alloc | apply pw_below_drewN | apply below_drew1) | exact HB.out))) : w.heap.size ≤ gb166)); clear HO_0; clear HO_61; clear HB; have HO_0 := n0_; have HO_61 := n1_; have HB := n2_; have BK166 := n3_; have GW166 := n4_; have GE166 := n5_; clear n0_ n1_ n2_ n3_ n4_ n5_; clear hb hbox hg; have hcz38_0 : w37.cell? ⟨gb166, 0, none⟩ = some (.int .i64 0) := (blk_cell BK166.out 0).trans rfl; have hcz38_1 : w37.cell? ⟨gb166, 1, none⟩ = some (.int .i64 0) := (blk_cell BK166.out 1).trans rfl; have hfz38_0 := blk_frozen BK166.out 0; have hfz38_1 := blk_frozen BK166.out 1; have p167 : 0 ≤ (x63_3 : Int) := of_decide_eq_true (by first | (with_reducible assumption) | assumption); have q167 : x63_3 < (x0_1.length : Int) := of_decide_eq_true (by first | (with_reducible assumption) | assumption); obtain ⟨ad167, e167, hx167_0, hx167_1, hx167_2, hx167_3⟩ := at_T36 (Kd.R_reads' HO_0.out).2.2 x63_3 p167 q167; cases e167; have hn167_0 : ad167.block ≠ gb166 := Kd.own_blk (Kd.R_ne HO_0.out BK166.out (by decide)); have hn167_1 : ad167.block ≠ gb166 := Kd.own_blk (Kd.R_ne HO_0.out BK166.out (by decide)); replace hx167_0 := (cell_far (p := ⟨gb166, 0, none⟩) (by first | (rw [add_block]; exact hn167_0) | (show (Addr.add _ _).block ≠ _; rw [add_block]; exact hn167_0) | exact hn167_0) (.int .i64 ((rd_T31 t159 x63_3).f0))).trans hx167_0; replace hx167_1 := (cell_far (p := ⟨gb166, 0, none⟩) (by first | (rw [add_block]; exact hn167_0) | (show (Addr.add _ _).block ≠ _; rw [add_block]; exact hn167_0) | exact hn167_0) (.int .i64 ((rd_T31 t159 x63_3).f0))).trans hx167_1; replace hx167_2 := (cell_far (p := ⟨gb166, 0, none⟩) (by first | (rw [add_block]; exact hn167_0) | (show (Addr.add _ _).block ≠ _; rw [add_block]; exact hn167_0) | exact hn167_0) (.int .i64 ((rd_T31 t159 x63_3).f0))).trans hx167_2; replace hx167_3 := (cell_far (p := ⟨gb166, 0, none⟩) (by first | (rw [add_block]; exact hn167_0) | (show (Addr.add _ _).block ≠ _; rw [add_block]; exact hn167_0) | exact hn167_0) (.int .i64 ((rd_T31 t159 x63_3).f0))).trans hx167_3; replace hx167_0 := (cell_far (p := ⟨gb166, 1, none⟩) (by first | (rw [add_block]; exact hn167_1) | (show (Addr.add _ _).block ≠ _; rw [add_block]; exact hn167_1) | exact hn167_1) (.int .i64 ((rd_T31 t159 x63_3).f1))).trans hx167_0; replace hx167_1 := (cell_far (p := ⟨gb166, 1, none⟩) (by first | (rw [add_block]; exact hn167_1) | (show (Addr.add _ _).block ≠ _; rw [add_block]; exact hn167_1) | exact hn167_1) (.int .i64 ((rd_T31 t159 x63_3).f1))).trans hx167_1; replace hx167_2 := (cell_far (p := ⟨gb166, 1, none⟩) (by first | (rw [add_block]; exact hn167_1) | (show (Addr.add _ _).block ≠ _; rw [add_block]; exact hn167_1) | exact hn167_1) (.int .i64 ((rd_T31 t159 x63_3).f1))).trans hx167_2; replace hx167_3 := (cell_far (p := ⟨gb166, 1, none⟩) (by first | (rw [add_block]; exact hn167_1) | (show (Addr.add _ _).block ≠ _; rw [add_block]; exact hn167_1) | exact hn167_1) (.int .i64 ((rd_T31 t159 x63_3).f1))).trans hx167_3; (try have hy167_0 := fun (n_ : Nat) => (show ((((w37.drewN n_).setCell ⟨gb166, 0, none⟩ (.int .i64 ((rd_T31 t159 x63_3).f0))).setCell ⟨gb166, 1, none⟩ (.int .i64 ((rd_T31 t159 x63_3).f1)))).cell? _ = some _ from hx167_0)); (try have hy167_1 := fun (n_ : Nat) => (show ((((w37.drewN n_).setCell ⟨gb166, 0, none⟩ (.int .i64 ((rd_T31 t159 x63_3).f0))).setCell ⟨gb166, 1, none⟩ (.int .i64 ((rd_T31 t159 x63_3).f1)))).cell? _ = some _ from hx167_1)); (try have hy167_2 := fun (n_ : Nat) => (show ((((w37.drewN n_).setCell ⟨gb166, 0, none⟩ (.int .i64 ((rd_T31 t159 x63_3).f0))).setCell ⟨gb166, 1, none⟩ (.int .i64 ((rd_T31 t159 x63_3).f1)))).cell? _ = some _ from hx167_2)); (try have hy167_3 := fun (n_ : Nat) => (show ((((w37.drewN n_).setCell ⟨gb166, 0, none⟩ (.int .i64 ((rd_T31 t159 x63_3).f0))).setCell ⟨gb166, 1, none⟩ (.int .i64 ((rd_T31 t159 x63_3).f1)))).cell? _ = some _ from hx167_3)); clear hn167_0; clear hn167_1; replace p167 := eq_true p167; replace q167 := eq_true q167)))
                                    go_roundg k3
                                    case measure => have := HK1.out; have := HJ20.out; have := HK3.out; omega
                                    case rel => exact ⟨(wrap64 (x63_3 + 1)), (by first | rfl | (simp; done) | (simp [*]; done)), H', ⟨by have := HK1.out; have := HJ20.out; have := HK3.out; omega⟩, ⟨by (try simp only [hl0_1]); (with_reducible repeat (first | apply Kd.R_alloc | apply Kd.R_drewN | apply Kd.R_drew)); exact Kd.R_mono (Kd.R_far (p := ⟨gb166, 1, none⟩) (Kd.R_far (p := ⟨gb166, 0, none⟩) (Kd.R_types HO_0.out BK166.out (by decide)) (fun _ hk => hk.2) (.int .i64 ((rd_T31 t159 x63_3).f0))) (fun _ hk => hk.2) (.int .i64 ((rd_T31 t159 x63_3).f1))) (fun _ hk => trivial)⟩, ⟨by (try simp only [hl0_1]); (with_reducible repeat (first | apply Kd.R_alloc | apply Kd.R_drewN | apply Kd.R_drew)); exact Kd.R_mono (Kd.R_far (p := ⟨gb166, 1, none⟩) (Kd.R_far (p := ⟨gb166, 0, none⟩) (Kd.R_mono HO_61.out (fun k_ hk => (⟨hk, hk.2⟩ : _ ∧ k_ ≠ gb166))) (fun _ hk => hk.2) (.int .i64 ((rd_T31 t159 x63_3).f0))) (fun _ hk => hk.2) (.int .i64 ((rd_T31 t159 x63_3).f1))) (fun _ hk => trivial)⟩, ⟨by repeat (first | (with_reducible first | exact HB.out | apply below_alloc | apply pw_below_drewN | apply below_drew1 | refine below_set ?_ GE166.out) | exact HB.out)⟩⟩
                                  · rw [if_neg c36] at H
                                    have c36b0 : (((rd_T31 t159 x63_3).f0) == ((rd_T36 x0_1 x63_3).f0)) = false := beq_eq_false_iff_ne.mpr c36
                                    have c36b1 : (((rd_T31 t159 x63_3).f0) != ((rd_T36 x0_1 x63_3).f0)) = true := bne_iff_ne.mpr c36
                                    obtain rfl := Option.some.inj H
                                    have p165 : 0 ≤ (x63_3 : Int) := of_decide_eq_true (by first | (with_reducible assumption) | assumption)
                                    have q165 : x63_3 < (t159.length : Int) := of_decide_eq_true (by first | (with_reducible assumption) | assumption)
                                    obtain ⟨ad165, e165, hx165_0, hx165_1⟩ := at_T31 (Kd.R_reads' HO_61.out).2.2 x63_3 p165 q165
                                    cases e165
                                    replace p165 := eq_true p165
                                    replace q165 := eq_true q165
                                    go_wp2_with (first | ((with_reducible refine gate_dst (N := 10) rfl ?_); (try (refine gate_guard (by rfl) ?_; dsimp only)); refine box_event ?hg (N := 10) ?hd (cs := #[.int .i64 0, .int .i64 0]) (t := 31) ?hr ?_; (case hd => rfl); (case hg => rfl); (case hr => first | (go_simp; done) | (go_simp; rfl)); intro gb166 hg w39 hbox hb; have n0_ := Aside0.mk (Kd.R_below (by (with_reducible repeat (first | apply Kd.R_alloc | apply Kd.R_drewN | apply Kd.R_drew)); exact HO_0.out) hb); have n1_ := Aside0.mk (Kd.R_below (Kd.R_elderB (by (with_reducible repeat (first | apply Kd.R_alloc | apply Kd.R_drewN | apply Kd.R_drew)); exact HO_61.out) gb166 (Nat.le_of_eq hg.symm)) hb); have n2_ := Aside0.mk (below_step (by repeat (first | (with_reducible first | exact HB.out | apply below_alloc | apply pw_below_drewN | apply below_drew1) | exact HB.out)) hb); have n3_ := Aside0.mk (hbox); have n4_ := Aside0.mk ((by rw [hg]; exact (below_size (by repeat (first | (with_reducible first | exact HB.out | apply below_alloc | apply pw_below_drewN | apply below_drew1) | exact HB.out))) : w.heap.size ≤ gb166)); have n5_ := Aside0.mk ((by rw [hg]; exact (below_size (by repeat (first | (with_reducible first | exact HB.out | apply below_alloc | apply pw_below_drewN | apply below_drew1) | exact HB.out))) : w.heap.size ≤ gb166)); clear HO_0; clear HO_61; clear HB; have HO_0 := n0_; have HO_61 := n1_; have HB := n2_; have BK166 := n3_; have GW166 := n4_; have GE166 := n5_; clear n0_ n1_ n2_ n3_ n4_ n5_; clear hb hbox hg; have hcz40_0 : w39.cell? ⟨gb166, 0, none⟩ = some (.int .i64 0) := (blk_cell BK166.out 0).trans rfl; have hcz40_1 : w39.cell? ⟨gb166, 1, none⟩ = some (.int .i64 0) := (blk_cell BK166.out 1).trans rfl; have hfz40_0 := blk_frozen BK166.out 0; have hfz40_1 := blk_frozen BK166.out 1; have p167 : 0 ≤ (x63_3 : Int) := of_decide_eq_true (by first | (with_reducible assumption) | assumption); have q167 : x63_3 < (x0_1.length : Int) := of_decide_eq_true (by first | (with_reducible assumption) | assumption); obtain ⟨ad167, e167, hx167_0, hx167_1, hx167_2, hx167_3⟩ := at_T36 (Kd.R_reads' HO_0.out).2.2 x63_3 p167 q167; cases e167; have hn167_0 : ad167.block ≠ gb166 := Kd.own_blk (Kd.R_ne HO_0.out BK166.out (by decide)); have hn167_1 : ad167.block ≠ gb166 := Kd.own_blk (Kd.R_ne HO_0.out BK166.out (by decide)); replace hx167_0 := (cell_far (p := ⟨gb166, 0, none⟩) (by first | (rw [add_block]; exact hn167_0) | (show (Addr.add _ _).block ≠ _; rw [add_block]; exact hn167_0) | exact hn167_0) (.int .i64 ((rd_T31 t159 x63_3).f0))).trans hx167_0; replace hx167_1 := (cell_far (p := ⟨gb166, 0, none⟩) (by first | (rw [add_block]; exact hn167_0) | (show (Addr.add _ _).block ≠ _; rw [add_block]; exact hn167_0) | exact hn167_0) (.int .i64 ((rd_T31 t159 x63_3).f0))).trans hx167_1; replace hx167_2 := (cell_far (p := ⟨gb166, 0, none⟩) (by first | (rw [add_block]; exact hn167_0) | (show (Addr.add _ _).block ≠ _; rw [add_block]; exact hn167_0) | exact hn167_0) (.int .i64 ((rd_T31 t159 x63_3).f0))).trans hx167_2; replace hx167_3 := (cell_far (p := ⟨gb166, 0, none⟩) (by first | (rw [add_block]; exact hn167_0) | (show (Addr.add _ _).block ≠ _; rw [add_block]; exact hn167_0) | exact hn167_0) (.int .i64 ((rd_T31 t159 x63_3).f0))).trans hx167_3; replace hx167_0 := (cell_far (p := ⟨gb166, 1, none⟩) (by first | (rw [add_block]; exact hn167_1) | (show (Addr.add _ _).block ≠ _; rw [add_block]; exact hn167_1) | exact hn167_1) (.int .i64 ((rd_T31 t159 x63_3).f1))).trans hx167_0; replace hx167_1 := (cell_far (p := ⟨gb166, 1, none⟩) (by first | (rw [add_block]; exact hn167_1) | (show (Addr.add _ _).block ≠ _; rw [add_block]; exact hn167_1) | exact hn167_1) (.int .i64 ((rd_T31 t159 x63_3).f1))).trans hx167_1; replace hx167_2 := (cell_far (p := ⟨gb166, 1, none⟩) (by first | (rw [add_block]; exact hn167_1) | (show (Addr.add _ _).block ≠ _; rw [add_block]; exact hn167_1) | exact hn167_1) (.int .i64 ((rd_T31 t159 x63_3).f1))).trans hx167_2; replace hx167_3 := (cell_far (p := ⟨gb166, 1, none⟩) (by first | (rw [add_block]; exact hn167_1) | (show (Addr.add _ _).block ≠ _; rw [add_block]; exact hn167_1) | exact hn167_1) (.int .i64 ((rd_T31 t159 x63_3).f1))).trans hx167_3; (try have hy167_0 := fun (n_ : Nat) => (show ((((w39.drewN n_).setCell ⟨gb166, 0, none⟩ (.int .i64 ((rd_T31 t159 x63_3).f0))).setCell ⟨gb166, 1, none⟩ (.int .i64 ((rd_T31 t159 x63_3).f1)))).cell? _ = some _ from hx167_0)); (try have hy167_1 := fun (n_ : Nat) => (show ((((w39.drewN n_).setCell ⟨gb166, 0, none⟩ (.int .i64 ((rd_T31 t159 x63_3).f0))).setCell ⟨gb166, 1, none⟩ (.int .i64 ((rd_T31 t159 x63_3).f1)))).cell? _ = some _ from hx167_1)); (try have hy167_2 := fun (n_ : Nat) => (show ((((w39.drewN n_).setCell ⟨gb166, 0, none⟩ (.int .i64 ((rd_T31 t159 x63_3).f0))).setCell ⟨gb166, 1, none⟩ (.int .i64 ((rd_T31 t159 x63_3).f1)))).cell? _ = some _ from hx167_2)); (try have hy167_3 := fun (n_ : Nat) => (show ((((w39.drewN n_).setCell ⟨gb166, 0, none⟩ (.int .i64 ((rd_T31 t159 x63_3).f0))).setCell ⟨gb166, 1, none⟩ (.int .i64 ((rd_T31 t159 x63_3).f1)))).cell? _ = some _ from hx167_3)); clear hn167_0; clear hn167_1; replace p167 := eq_true p167; replace q167 := eq_true q167))
                                    repeat (go_quiet (first | ((with_reducible refine gate_dst (N := 10) rfl ?_); (try (refine gate_guard (by rfl) ?_; dsimp only)); refine box_event ?hg (N := 10) ?hd (cs := #[.int .i64 0, .int .i64 0]) (t := 31) ?hr ?_; (case hd => rfl); (case hg => rfl); (case hr => first | (go_simp; done) | (go_simp; rfl)); intro gb166 hg w39 hbox hb; have n0_ := Aside0.mk (Kd.R_below (by (with_reducible repeat (first | apply Kd.R_alloc | apply Kd.R_drewN | apply Kd.R_drew)); exact HO_0.out) hb); have n1_ := Aside0.mk (Kd.R_below (Kd.R_elderB (by (with_reducible repeat (first | apply Kd.R_alloc | apply Kd.R_drewN | apply Kd.R_drew)); exact HO_61.out) gb166 (Nat.le_of_eq hg.symm)) hb); have n2_ := Aside0.mk (below_step (by repeat (first | (with_reducible first | exact HB.out | apply below_alloc | apply pw_below_drewN | apply below_drew1) | exact HB.out)) hb); have n3_ := Aside0.mk (hbox); have n4_ := Aside0.mk ((by rw [hg]; exact (below_size (by repeat (first | (with_reducible first | exact HB.out | apply below_alloc | apply pw_below_drewN | apply below_drew1) | exact HB.out))) : w.heap.size ≤ gb166)); have n5_ := Aside0.mk ((by rw [hg]; exact (below_size (by repeat (first | (with_reducible first | exact HB.out | apply below_alloc | apply pw_below_drewN | apply below_drew1) | exact HB.out))) : w.heap.size ≤ gb166)); clear HO_0; clear HO_61; clear HB; have HO_0 := n0_; have HO_61 := n1_; have HB := n2_; have BK166 := n3_; have GW166 := n4_; have GE166 := n5_; clear n0_ n1_ n2_ n3_ n4_ n5_; clear hb hbox hg; have hcz40_0 : w39.cell? ⟨gb166, 0, none⟩ = some (.int .i64 0) := (blk_cell BK166.out 0).trans rfl; have hcz40_1 : w39.cell? ⟨gb166, 1, none⟩ = some (.int .i64 0) := (blk_cell BK166.out 1).trans rfl; have hfz40_0 := blk_frozen BK166.out 0; have hfz40_1 := blk_frozen BK166.out 1; have p167 : 0 ≤ (x63_3 : Int) := of_decide_eq_true (by first | (with_reducible assumption) | assumption); have q167 : x63_3 < (x0_1.length : Int) := of_decide_eq_true (by first | (with_reducible assumption) | assumption); obtain ⟨ad167, e167, hx167_0, hx167_1, hx167_2, hx167_3⟩ := at_T36 (Kd.R_reads' HO_0.out).2.2 x63_3 p167 q167; cases e167; have hn167_0 : ad167.block ≠ gb166 := Kd.own_blk (Kd.R_ne HO_0.out BK166.out (by decide)); have hn167_1 : ad167.block ≠ gb166 := Kd.own_blk (Kd.R_ne HO_0.out BK166.out (by decide)); replace hx167_0 := (cell_far (p := ⟨gb166, 0, none⟩) (by first | (rw [add_block]; exact hn167_0) | (show (Addr.add _ _).block ≠ _; rw [add_block]; exact hn167_0) | exact hn167_0) (.int .i64 ((rd_T31 t159 x63_3).f0))).trans hx167_0; replace hx167_1 := (cell_far (p := ⟨gb166, 0, none⟩) (by first | (rw [add_block]; exact hn167_0) | (show (Addr.add _ _).block ≠ _; rw [add_block]; exact hn167_0) | exact hn167_0) (.int .i64 ((rd_T31 t159 x63_3).f0))).trans hx167_1; replace hx167_2 := (cell_far (p := ⟨gb166, 0, none⟩) (by first | (rw [add_block]; exact hn167_0) | (show (Addr.add _ _).block ≠ _; rw [add_block]; exact hn167_0) | exact hn167_0) (.int .i64 ((rd_T31 t159 x63_3).f0))).trans hx167_2; replace hx167_3 := (cell_far (p := ⟨gb166, 0, none⟩) (by first | (rw [add_block]; exact hn167_0) | (show (Addr.add _ _).block ≠ _; rw [add_block]; exact hn167_0) | exact hn167_0) (.int .i64 ((rd_T31 t159 x63_3).f0))).trans hx167_3; replace hx167_0 := (cell_far (p := ⟨gb166, 1, none⟩) (by first | (rw [add_block]; exact hn167_1) | (show (Addr.add _ _).block ≠ _; rw [add_block]; exact hn167_1) | exact hn167_1) (.int .i64 ((rd_T31 t159 x63_3).f1))).trans hx167_0; replace hx167_1 := (cell_far (p := ⟨gb166, 1, none⟩) (by first | (rw [add_block]; exact hn167_1) | (show (Addr.add _ _).block ≠ _; rw [add_block]; exact hn167_1) | exact hn167_1) (.int .i64 ((rd_T31 t159 x63_3).f1))).trans hx167_1; replace hx167_2 := (cell_far (p := ⟨gb166, 1, none⟩) (by first | (rw [add_block]; exact hn167_1) | (show (Addr.add _ _).block ≠ _; rw [add_block]; exact hn167_1) | exact hn167_1) (.int .i64 ((rd_T31 t159 x63_3).f1))).trans hx167_2; replace hx167_3 := (cell_far (p := ⟨gb166, 1, none⟩) (by first | (rw [add_block]; exact hn167_1) | (show (Addr.add _ _).block ≠ _; rw [add_block]; exact hn167_1) | exact hn167_1) (.int .i64 ((rd_T31 t159 x63_3).f1))).trans hx167_3; (try have hy167_0 := fun (n_ : Nat) => (show ((((w39.drewN n_).setCell ⟨gb166, 0, none⟩ (.int .i64 ((rd_T31 t159 x63_3).f0))).setCell ⟨gb166, 1, none⟩ (.int .i64 ((rd_T31 t159 x63_3).f1)))).cell? _ = some _ from hx167_0)); (try have hy167_1 := fun (n_ : Nat) => (show ((((w39.drewN n_).setCell ⟨gb166, 0, none⟩ (.int .i64 ((rd_T31 t159 x63_3).f0))).setCell ⟨gb166, 1, none⟩ (.int .i64 ((rd_T31 t159 x63_3).f1)))).cell? _ = some _ from hx167_1)); (try have hy167_2 := fun (n_ : Nat) => (show ((((w39.drewN n_).setCell ⟨gb166, 0, none⟩ (.int .i64 ((rd_T31 t159 x63_3).f0))).setCell ⟨gb166, 1, none⟩ (.int .i64 ((rd_T31 t159 x63_3).f1)))).cell? _ = some _ from hx167_2)); (try have hy167_3 := fun (n_ : Nat) => (show ((((w39.drewN n_).setCell ⟨gb166, 0, none⟩ (.int .i64 ((rd_T31 t159 x63_3).f0))).setCell ⟨gb166, 1, none⟩ (.int .i64 ((rd_T31 t159 x63_3).f1)))).cell? _ = some _ from hx167_3)); clear hn167_0; clear hn167_1; replace p167 := eq_true p167; replace q167 := eq_true q167)); try go_wp2_with (first | ((with_reducible refine gate_dst (N := 10) rfl ?_); (try (refine gate_guard (by rfl) ?_; dsimp only)); refine box_event ?hg (N := 10) ?hd (cs := #[.int .i64 0, .int .i64 0]) (t := 31) ?hr ?_; (case hd => rfl); (case hg => rfl); (case hr => first | (go_simp; done) | (go_simp; rfl)); intro gb166 hg w39 hbox hb; have n0_ := Aside0.mk (Kd.R_below (by (with_reducible repeat (first | apply Kd.R_alloc | apply Kd.R_drewN | apply Kd.R_drew)); exact HO_0.out) hb); have n1_ := Aside0.mk (Kd.R_below (Kd.R_elderB (by (with_reducible repeat (first | apply Kd.R_alloc | apply Kd.R_drewN | apply Kd.R_drew)); exact HO_61.out) gb166 (Nat.le_of_eq hg.symm)) hb); have n2_ := Aside0.mk (below_step (by repeat (first | (with_reducible first | exact HB.out | apply below_alloc | apply pw_below_drewN | apply below_drew1) | exact HB.out)) hb); have n3_ := Aside0.mk (hbox); have n4_ := Aside0.mk ((by rw [hg]; exact (below_size (by repeat (first | (with_reducible first | exact HB.out | apply below_alloc | apply pw_below_drewN | apply below_drew1) | exact HB.out))) : w.heap.size ≤ gb166)); have n5_ := Aside0.mk ((by rw [hg]; exact (below_size (by repeat (first | (with_reducible first | exact HB.out | apply below_alloc | apply pw_below_drewN | apply below_drew1) | exact HB.out))) : w.heap.size ≤ gb166)); clear HO_0; clear HO_61; clear HB; have HO_0 := n0_; have HO_61 := n1_; have HB := n2_; have BK166 := n3_; have GW166 := n4_; have GE166 := n5_; clear n0_ n1_ n2_ n3_ n4_ n5_; clear hb hbox hg; have hcz40_0 : w39.cell? ⟨gb166, 0, none⟩ = some (.int .i64 0) := (blk_cell BK166.out 0).trans rfl; have hcz40_1 : w39.cell? ⟨gb166, 1, none⟩ = some (.int .i64 0) := (blk_cell BK166.out 1).trans rfl; have hfz40_0 := blk_frozen BK166.out 0; have hfz40_1 := blk_frozen BK166.out 1; have p167 : 0 ≤ (x63_3 : Int) := of_decide_eq_true (by first | (with_reducible assumption) | assumption); have q167 : x63_3 < (x0_1.length : Int) := of_decide_eq_true (by first | (with_reducible assumption) | assumption); obtain ⟨ad167, e167, hx167_0, hx167_1, hx167_2, hx167_3⟩ := at_T36 (Kd.R_reads' HO_0.out).2.2 x63_3 p167 q167; cases e167; have hn167_0 : ad167.block ≠ gb166 := Kd.own_blk (Kd.R_ne HO_0.out BK166.out (by decide)); have hn167_1 : ad167.block ≠ gb166 := Kd.own_blk (Kd.R_ne HO_0.out BK166.out (by decide)); replace hx167_0 := (cell_far (p := ⟨gb166, 0, none⟩) (by first | (rw [add_block]; exact hn167_0) | (show (Addr.add _ _).block ≠ _; rw [add_block]; exact hn167_0) | exact hn167_0) (.int .i64 ((rd_T31 t159 x63_3).f0))).trans hx167_0; replace hx167_1 := (cell_far (p := ⟨gb166, 0, none⟩) (by first | (rw [add_block]; exact hn167_0) | (show (Addr.add _ _).block ≠ _; rw [add_block]; exact hn167_0) | exact hn167_0) (.int .i64 ((rd_T31 t159 x63_3).f0))).trans hx167_1; replace hx167_2 := (cell_far (p := ⟨gb166, 0, none⟩) (by first | (rw [add_block]; exact hn167_0) | (show (Addr.add _ _).block ≠ _; rw [add_block]; exact hn167_0) | exact hn167_0) (.int .i64 ((rd_T31 t159 x63_3).f0))).trans hx167_2; replace hx167_3 := (cell_far (p := ⟨gb166, 0, none⟩) (by first | (rw [add_block]; exact hn167_0) | (show (Addr.add _ _).block ≠ _; rw [add_block]; exact hn167_0) | exact hn167_0) (.int .i64 ((rd_T31 t159 x63_3).f0))).trans hx167_3; replace hx167_0 := (cell_far (p := ⟨gb166, 1, none⟩) (by first | (rw [add_block]; exact hn167_1) | (show (Addr.add _ _).block ≠ _; rw [add_block]; exact hn167_1) | exact hn167_1) (.int .i64 ((rd_T31 t159 x63_3).f1))).trans hx167_0; replace hx167_1 := (cell_far (p := ⟨gb166, 1, none⟩) (by first | (rw [add_block]; exact hn167_1) | (show (Addr.add _ _).block ≠ _; rw [add_block]; exact hn167_1) | exact hn167_1) (.int .i64 ((rd_T31 t159 x63_3).f1))).trans hx167_1; replace hx167_2 := (cell_far (p := ⟨gb166, 1, none⟩) (by first | (rw [add_block]; exact hn167_1) | (show (Addr.add _ _).block ≠ _; rw [add_block]; exact hn167_1) | exact hn167_1) (.int .i64 ((rd_T31 t159 x63_3).f1))).trans hx167_2; replace hx167_3 := (cell_far (p := ⟨gb166, 1, none⟩) (by first | (rw [add_block]; exact hn167_1) | (show (Addr.add _ _).block ≠ _; rw [add_block]; exact hn167_1) | exact hn167_1) (.int .i64 ((rd_T31 t159 x63_3).f1))).trans hx167_3; (try have hy167_0 := fun (n_ : Nat) => (show ((((w39.drewN n_).setCell ⟨gb166, 0, none⟩ (.int .i64 ((rd_T31 t159 x63_3).f0))).setCell ⟨gb166, 1, none⟩ (.int .i64 ((rd_T31 t159 x63_3).f1)))).cell? _ = some _ from hx167_0)); (try have hy167_1 := fun (n_ : Nat) => (show ((((w39.drewN n_).setCell ⟨gb166, 0, none⟩ (.int .i64 ((rd_T31 t159 x63_3).f0))).setCell ⟨gb166, 1, none⟩ (.int .i64 ((rd_T31 t159 x63_3).f1)))).cell? _ = some _ from hx167_1)); (try have hy167_2 := fun (n_ : Nat) => (show ((((w39.drewN n_).setCell ⟨gb166, 0, none⟩ (.int .i64 ((rd_T31 t159 x63_3).f0))).setCell ⟨gb166, 1, none⟩ (.int .i64 ((rd_T31 t159 x63_3).f1)))).cell? _ = some _ from hx167_2)); (try have hy167_3 := fun (n_ : Nat) => (show ((((w39.drewN n_).setCell ⟨gb166, 0, none⟩ (.int .i64 ((rd_T31 t159 x63_3).f0))).setCell ⟨gb166, 1, none⟩ (.int .i64 ((rd_T31 t159 x63_3).f1)))).cell? _ = some _ from hx167_3)); clear hn167_0; clear hn167_1; replace p167 := eq_true p167; replace q167 := eq_true q167)))
                                    go_ret
                                    exact ⟨by first | rfl | (simp [errW_none, errW_some] <;> rfl) | (simp [*, errW_none, errW_some] <;> rfl), by repeat (first | (with_reducible first | exact HB.out | apply below_alloc | apply pw_below_drewN | apply below_drew1 | refine below_set ?_ GE166.out) | exact HB.out)⟩
                                · rw [if_neg c35] at H
                                  exact absurd H (by simp)
                              · rw [if_neg c34] at H
                                exact absurd H (by simp)
                            · rw [if_neg c33] at H
                              exact absurd H (by simp)
                          · rw [if_neg c32] at H
                            have c32b0 : decide (x63_3 < (t159.length : Int)) = false := decide_eq_false c32
                            clear c32
                            obtain rfl := Option.some.inj H
                            go_wp2
                            repeat (go_quiet (fail); try go_wp2)
                            go_ret
                            exact ⟨by first | rfl | (simp [errW_none, errW_some] <;> rfl) | (simp [*, errW_none, errW_some] <;> rfl), by repeat (first | (with_reducible first | exact HB.out | apply below_alloc | apply pw_below_drewN | apply below_drew1) | exact HB.out)⟩
              · rw [if_neg c20] at H
                have c20b0 : (t161 == 0) = false := beq_eq_false_iff_ne.mpr c20
                have c20b1 : (t161 != 0) = true := bne_iff_ne.mpr c20
                obtain rfl := Option.some.inj H
                go_wp2_with (first | (go_at_call 16; (with_reducible refine (place_Place.calls _ _ x0_1 a1 t159 t160 t161 _ ?side1 ?side2 ?tb A19.out).mono ?_); (case tb => exact HT.out.step (by repeat (first | (with_reducible first | exact HB.out | apply below_alloc | apply pw_below_drewN | apply below_drew1) | exact HB.out))); (case side1 => repeat (first | exact (Kd.R_reads' HO_0.out).2.2 | (with_reducible refine Kd.C_alloc ?_ _) | (with_reducible refine Kd.C_drewN ?_ _) | (with_reducible refine Kd.C_drew ?_))); (case side2 => exact (Kd.R_reads' HO_0.out).2.1); rintro e w41 ⟨v162, rfl, ho0, hb⟩; have n0_ := Aside0.mk (Kd.R_below (by (with_reducible repeat (first | apply Kd.R_alloc | apply Kd.R_drewN | apply Kd.R_drew)); exact HO_0.out) hb); have n1_ := Aside0.mk (Kd.R_lower ho0 (below_size (by repeat (first | (with_reducible first | exact HB.out | apply below_alloc | apply pw_below_drewN | apply below_drew1) | exact HB.out)))); have n2_ := Aside0.mk (below_step (by repeat (first | (with_reducible first | exact HB.out | apply below_alloc | apply pw_below_drewN | apply below_drew1) | exact HB.out)) hb); clear HO_0; clear HB; have HO_0 := n0_; have HO163 := n1_; have HB := n2_; clear n0_ n1_ n2_; (try clear hb); (try clear hb2); (try clear hk); (try clear hi); (try clear ho0); obtain ⟨Ao42, co42, eo42⟩ := Kd.R_slice HO163.out; subst eo42))
                repeat (go_quiet (first | (go_at_call 16; (with_reducible refine (place_Place.calls _ _ x0_1 a1 t159 t160 t161 _ ?side1 ?side2 ?tb A19.out).mono ?_); (case tb => exact HT.out.step (by repeat (first | (with_reducible first | exact HB.out | apply below_alloc | apply pw_below_drewN | apply below_drew1) | exact HB.out))); (case side1 => repeat (first | exact (Kd.R_reads' HO_0.out).2.2 | (with_reducible refine Kd.C_alloc ?_ _) | (with_reducible refine Kd.C_drewN ?_ _) | (with_reducible refine Kd.C_drew ?_))); (case side2 => exact (Kd.R_reads' HO_0.out).2.1); rintro e w41 ⟨v162, rfl, ho0, hb⟩; have n0_ := Aside0.mk (Kd.R_below (by (with_reducible repeat (first | apply Kd.R_alloc | apply Kd.R_drewN | apply Kd.R_drew)); exact HO_0.out) hb); have n1_ := Aside0.mk (Kd.R_lower ho0 (below_size (by repeat (first | (with_reducible first | exact HB.out | apply below_alloc | apply pw_below_drewN | apply below_drew1) | exact HB.out)))); have n2_ := Aside0.mk (below_step (by repeat (first | (with_reducible first | exact HB.out | apply below_alloc | apply pw_below_drewN | apply below_drew1) | exact HB.out)) hb); clear HO_0; clear HB; have HO_0 := n0_; have HO163 := n1_; have HB := n2_; clear n0_ n1_ n2_; (try clear hb); (try clear hb2); (try clear hk); (try clear hi); (try clear ho0); obtain ⟨Ao42, co42, eo42⟩ := Kd.R_slice HO163.out; subst eo42)); try go_wp2_with (first | (go_at_call 16; (with_reducible refine (place_Place.calls _ _ x0_1 a1 t159 t160 t161 _ ?side1 ?side2 ?tb A19.out).mono ?_); (case tb => exact HT.out.step (by repeat (first | (with_reducible first | exact HB.out | apply below_alloc | apply pw_below_drewN | apply below_drew1) | exact HB.out))); (case side1 => repeat (first | exact (Kd.R_reads' HO_0.out).2.2 | (with_reducible refine Kd.C_alloc ?_ _) | (with_reducible refine Kd.C_drewN ?_ _) | (with_reducible refine Kd.C_drew ?_))); (case side2 => exact (Kd.R_reads' HO_0.out).2.1); rintro e w41 ⟨v162, rfl, ho0, hb⟩; have n0_ := Aside0.mk (Kd.R_below (by (with_reducible repeat (first | apply Kd.R_alloc | apply Kd.R_drewN | apply Kd.R_drew)); exact HO_0.out) hb); have n1_ := Aside0.mk (Kd.R_lower ho0 (below_size (by repeat (first | (with_reducible first | exact HB.out | apply below_alloc | apply pw_below_drewN | apply below_drew1) | exact HB.out)))); have n2_ := Aside0.mk (below_step (by repeat (first | (with_reducible first | exact HB.out | apply below_alloc | apply pw_below_drewN | apply below_drew1) | exact HB.out)) hb); clear HO_0; clear HB; have HO_0 := n0_; have HO163 := n1_; have HB := n2_; clear n0_ n1_ n2_; (try clear hb); (try clear hb2); (try clear hk); (try clear hi); (try clear ho0); obtain ⟨Ao42, co42, eo42⟩ := Kd.R_slice HO163.out; subst eo42)))
                go_ret
                exact ⟨by first | rfl | (simp [errW_none, errW_some] <;> rfl) | (simp [*, errW_none, errW_some] <;> rfl), by repeat (first | (with_reducible first | exact HB.out | apply below_alloc | apply pw_below_drewN | apply below_drew1) | exact HB.out)⟩
      · rw [if_neg c7] at H
        exact absurd H (by simp)
  · replace c4 := Bool.eq_false_iff.mpr c4
    subst c4
    have H1 : (some false) = some r := by rw [if_neg (show ¬ (false = true) by decide)] at H; exact H
    clear H
    have H := H1
    clear H1
    obtain rfl := Option.some.inj H
    go_enter Tryd.func4, Tryd.ntmps4
    go_wp2_with (first | (go_at_call 15; (with_reducible refine (mainsheetlaw13_wakes.calls  false _ ?tb A3.out).mono ?_); (case tb => exact HT.out.step (by repeat (first | (with_reducible first | exact HB.out | apply below_alloc | apply pw_below_drewN | apply below_drew1) | exact HB.out))); rintro e w43 ⟨rfl, hb⟩; have n0_ := Aside0.mk (below_step (by repeat (first | (with_reducible first | exact HB.out | apply below_alloc | apply pw_below_drewN | apply below_drew1) | exact HB.out)) hb); clear HB; have HB := n0_; clear n0_; (try clear hb); (try clear hb2); (try clear hk); (try clear hi)))
    repeat (go_quiet (first | (go_at_call 15; (with_reducible refine (mainsheetlaw13_wakes.calls  false _ ?tb A3.out).mono ?_); (case tb => exact HT.out.step (by repeat (first | (with_reducible first | exact HB.out | apply below_alloc | apply pw_below_drewN | apply below_drew1) | exact HB.out))); rintro e w43 ⟨rfl, hb⟩; have n0_ := Aside0.mk (below_step (by repeat (first | (with_reducible first | exact HB.out | apply below_alloc | apply pw_below_drewN | apply below_drew1) | exact HB.out)) hb); clear HB; have HB := n0_; clear n0_; (try clear hb); (try clear hb2); (try clear hk); (try clear hi))); try go_wp2_with (first | (go_at_call 15; (with_reducible refine (mainsheetlaw13_wakes.calls  false _ ?tb A3.out).mono ?_); (case tb => exact HT.out.step (by repeat (first | (with_reducible first | exact HB.out | apply below_alloc | apply pw_below_drewN | apply below_drew1) | exact HB.out))); rintro e w43 ⟨rfl, hb⟩; have n0_ := Aside0.mk (below_step (by repeat (first | (with_reducible first | exact HB.out | apply below_alloc | apply pw_below_drewN | apply below_drew1) | exact HB.out)) hb); clear HB; have HB := n0_; clear n0_; (try clear hb); (try clear hb2); (try clear hk); (try clear hi))))
    go_ret
    exact ⟨by first | rfl | (simp [errW_none, errW_some] <;> rfl) | (simp [*, errW_none, errW_some] <;> rfl), by repeat (first | (with_reducible first | exact HB.out | apply below_alloc | apply pw_below_drewN | apply below_drew1) | exact HB.out)⟩

end Go.Proofs.YtdmieaidheelbaaDoor.Q
