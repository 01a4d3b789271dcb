/- Texts of the proof of PickWhole, joined. -/
import Derived.WalkMore
import Derived.BigQuiet
import Derived.Deep.QuietTactic
import Derived.Test.YtdmieaidheelbaaDoorPkPickWholeb
/- QFgangMatch -/
section
-- Written by a program of this session (hprint.py), which drives the kit's print over hand-proved contracts. Lean checks it.
namespace Go.Proofs.YtdmieaidheelbaaDoor.Q
open Go.RowKit Go.Proofs.YtdmieaidheelbaaDoorW.PrintWords Go.Proofs.YtdmieaidheelbaaDoorW.PrintLast Go.Proofs.YtdmieaidheelbaaDoorW.PrintMore
attribute [local go_sem] max2_int min2_int max_two min_two max_three min_three max_four min_four   -- for this text's walks alone
set_option linter.unusedVariables false
set_option linter.unusedSimpArgs false

/-! ### gang_Match: function 105 -/
mutual
def gang_Match.j0 : Nat → List (List Int) → Bool → Option (List Int × Bool)
  | 0, _, _ => none
  | k + 1, x0, x17 => if x17 = true then (some (([] : List Int), false)) else ((slices_Clone_int_int.f x0).bind fun t812 => (gang_Match.l0 k t812 ([] : List Int) x0 (x0.length : Int) 0))
def gang_Match.l0 : Nat → List (List Int) → List Int → List (List Int) → Int → Int → Option (List Int × Bool)
  | 0, _, _, _, _, _ => none
  | k + 1, x4, x5, x20, x21, x22 => if x22 < x21 then (if 0 ≤ x22 then (if x22 < (x20.length : Int) then (gang_Match.l1 k x4 x5 x22 x20 x21 x22 (rd_L7 x20 x22) ((rd_L7 x20 x22).length : Int) 0) else (none)) else (none)) else (some (x5, true))
def gang_Match.l1 : Nat → List (List Int) → List Int → Int → List (List Int) → Int → Int → List Int → Int → Int → Option (List Int × Bool)
  | 0, _, _, _, _, _, _, _, _, _ => none
  | k + 1, x4, x5, x6, x20, x21, x22, x27, x28, x29 => if x29 < x28 then (if 0 ≤ x29 then (if x29 < (x27.length : Int) then ((slices_Contains_int_int.f k x5 (rd x27 x29)).bind fun t817 => (if t817 = true then (gang_Match.l1 k x4 x5 x6 x20 x21 x22 x27 x28 (wrap64 (x29 + 1))) else (if 0 ≤ x6 then (if x6 < (x4.length : Int) then ((some (x4.set (x6 : Int).toNat (([rd x27 x29] : List Int)) : List (List Int))).bind fun y821 => ((gang_matching.f y821).bind fun t822 => (if t822 = true then (if x5.length < 17592186044416 then (gang_Match.l0 k y821 (x5 ++ [rd x27 x29]) x20 x21 (wrap64 (x22 + 1))) else (none)) else (gang_Match.l1 k y821 x5 x6 x20 x21 x22 x27 x28 (wrap64 (x29 + 1)))))) else (none)) else (none)))) else (none)) else (none)) else (gang_Match.l0 k x4 x5 x20 x21 (wrap64 (x22 + 1)))
end
def gang_Match.f (k : Nat) (l0 : List (List Int)) : Option (List Int × Bool) := (gang_choices.f k l0).bind fun t810 => (if t810 = true then ((gang_matching.f l0).bind fun t811 => (gang_Match.j0 k l0 (!t811))) else (gang_Match.j0 k l0 true))
theorem gang_Match.mono_l : ∀ k, (∀ y0 y1, LeO (gang_Match.j0 k y0 y1) (gang_Match.j0 (k + 1) y0 y1)) ∧ (∀ y0 y1 y2 y3 y4, LeO (gang_Match.l0 k y0 y1 y2 y3 y4) (gang_Match.l0 (k + 1) y0 y1 y2 y3 y4)) ∧ (∀ y0 y1 y2 y3 y4 y5 y6 y7 y8, LeO (gang_Match.l1 k y0 y1 y2 y3 y4 y5 y6 y7 y8) (gang_Match.l1 (k + 1) y0 y1 y2 y3 y4 y5 y6 y7 y8))
  | 0 => ⟨fun _ _ r h => by simp [gang_Match.j0] at h, fun _ _ _ _ _ r h => by simp [gang_Match.l0] at h, fun _ _ _ _ _ _ _ _ _ r h => by simp [gang_Match.l1] at h⟩
  | k + 1 => by
    obtain ⟨ih0, ih1, ih2⟩ := gang_Match.mono_l k
    refine ⟨?_, ?_, ?_⟩
    · intro y0 y1
      unfold gang_Match.j0
      repeat' first
      | (with_reducible exact ih0 _ _)
      | (with_reducible exact ih1 _ _ _ _ _)
      | (with_reducible exact ih2 _ _ _ _ _ _ _ _ _)
      | (with_reducible exact gang_choices.mono _ _)
      | (with_reducible exact slices_Contains_int_int.mono _ _ _)
      | (with_reducible exact LeO.refl _)
      | (with_reducible exact LeO.none _)
      | (with_reducible refine LeO.ite ?_ ?_)
      | (with_reducible refine LeO.bind ?_ (fun _ => ?_))
      | exact ih0 _ _
      | exact ih1 _ _ _ _ _
      | exact ih2 _ _ _ _ _ _ _ _ _
      | exact gang_choices.mono _ _
      | exact slices_Contains_int_int.mono _ _ _
      | exact LeO.none _
      | refine LeO.ite ?_ ?_
      | refine LeO.bind ?_ (fun _ => ?_)
    · intro y0 y1 y2 y3 y4
      unfold gang_Match.l0
      repeat' first
      | (with_reducible exact ih0 _ _)
      | (with_reducible exact ih1 _ _ _ _ _)
      | (with_reducible exact ih2 _ _ _ _ _ _ _ _ _)
      | (with_reducible exact gang_choices.mono _ _)
      | (with_reducible exact slices_Contains_int_int.mono _ _ _)
      | (with_reducible exact LeO.refl _)
      | (with_reducible exact LeO.none _)
      | (with_reducible refine LeO.ite ?_ ?_)
      | (with_reducible refine LeO.bind ?_ (fun _ => ?_))
      | exact ih0 _ _
      | exact ih1 _ _ _ _ _
      | exact ih2 _ _ _ _ _ _ _ _ _
      | exact gang_choices.mono _ _
      | exact slices_Contains_int_int.mono _ _ _
      | exact LeO.none _
      | refine LeO.ite ?_ ?_
      | refine LeO.bind ?_ (fun _ => ?_)
    · intro y0 y1 y2 y3 y4 y5 y6 y7 y8
      unfold gang_Match.l1
      repeat' first
      | (with_reducible exact ih0 _ _)
      | (with_reducible exact ih1 _ _ _ _ _)
      | (with_reducible exact ih2 _ _ _ _ _ _ _ _ _)
      | (with_reducible exact gang_choices.mono _ _)
      | (with_reducible exact slices_Contains_int_int.mono _ _ _)
      | (with_reducible exact LeO.refl _)
      | (with_reducible exact LeO.none _)
      | (with_reducible refine LeO.ite ?_ ?_)
      | (with_reducible refine LeO.bind ?_ (fun _ => ?_))
      | exact ih0 _ _
      | exact ih1 _ _ _ _ _
      | exact ih2 _ _ _ _ _ _ _ _ _
      | exact gang_choices.mono _ _
      | exact slices_Contains_int_int.mono _ _ _
      | exact LeO.none _
      | refine LeO.ite ?_ ?_
      | refine LeO.bind ?_ (fun _ => ?_)
theorem gang_Match.mono : ∀ a0 k, LeO (gang_Match.f k a0) (gang_Match.f (k + 1) a0) := by
  intro a0 k
  obtain ⟨ih0, ih1, ih2⟩ := gang_Match.mono_l k
  unfold gang_Match.f
  repeat' first
      | (with_reducible exact ih0 _ _)
      | (with_reducible exact ih1 _ _ _ _ _)
      | (with_reducible exact ih2 _ _ _ _ _ _ _ _ _)
      | (with_reducible exact gang_choices.mono _ _)
      | (with_reducible exact slices_Contains_int_int.mono _ _ _)
      | (with_reducible exact LeO.refl _)
      | (with_reducible exact LeO.none _)
      | (with_reducible refine LeO.ite ?_ ?_)
      | (with_reducible refine LeO.bind ?_ (fun _ => ?_))
      | exact ih0 _ _
      | exact ih1 _ _ _ _ _
      | exact ih2 _ _ _ _ _ _ _ _ _
      | exact gang_choices.mono _ _
      | exact slices_Contains_int_int.mono _ _ _
      | exact LeO.none _
      | refine LeO.ite ?_ ?_
      | refine LeO.bind ?_ (fun _ => ?_)
set_option maxHeartbeats 8000000 in
set_option maxRecDepth 100000 in
theorem gang_Match.calls (k : Nat) (A0 : Option Addr) (c0 : Nat) (l0 : List (List Int)) (r1 : List Int) (r2 : Bool) (w : World) (hr0 : Kd.C (Kd.slice 3 (Kd.int .i64)) w A0 l0.length l0) (hc0 : l0.length ≤ c0) (h : gang_Match.f k l0 = some (r1, r2)) :
    Calls Tryd.prog 105 #[.slice A0 l0.length c0] w fun e w' => ∃ v0_ : Value, e = .returned (.tuple #[v0_, .bool r2]) ∧ Kd.R (Kd.int .i64) 3 w' w.heap.size (fun _ => True) v0_ r1 ∧ Below w.heap.size w w' := by
  have HR0 := Aside0.mk hr0
  have HC0 := Aside0.mk hc0
  clear hr0 hc0
  have HB := Aside0.mk (Below.refl w.heap.size w)
  have H : ((gang_choices.f k l0).bind fun t810 => (if t810 = true then ((gang_matching.f l0).bind fun t811 => (gang_Match.j0 k l0 (!t811))) else (gang_Match.j0 k l0 true))) = some (r1, r2) := h
  clear h
  have HC2 := Aside0.mk H
  clear H
  go_enter Tryd.func105, Tryd.ntmps105
  go_upto_region 1 with (fail)
  go_cut [17] (fun v17 wc => ∃ (kq : Nat) (x17_1 : Bool), v17 = .bool x17_1 ∧ Aside0 (gang_Match.j0 kq l0 x17_1 = some (r1, r2)) ∧ Aside0 (kq ≤ k) ∧ Aside0 (Below w.heap.size w wc))
  case first =>
    have H := HC2.out
    clear HC2
    replace H := Option.bind_eq_some_iff.mp H
    obtain ⟨t810, A30, H⟩ := H
    replace H : (if t810 = true then ((gang_matching.f l0).bind fun t811 => (gang_Match.j0 k l0 (!t811))) else (gang_Match.j0 k l0 true)) = some (r1, r2) := H
    have A3 := Aside0.mk A30
    clear A30
    by_cases c4 : t810 = true
    · subst c4
      have H1 : ((gang_matching.f l0).bind fun t811 => (gang_Match.j0 k l0 (!t811))) = some (r1, r2) := by rw [if_pos rfl] at H; exact H
      clear H
      have H := H1
      clear H1
      replace H := Option.bind_eq_some_iff.mp H
      obtain ⟨t811, A50, H⟩ := H
      replace H : (gang_Match.j0 k l0 (!t811)) = some (r1, r2) := H
      have A5 := Aside0.mk A50
      clear A50
      have H' := Aside0.mk H
      clear H
      go_wp2_with (first | ((with_reducible refine gate_callee (f := 123) rfl ?_); refine goesL_ (some 11) rfl rfl Tryd.func123 (by kernel_rfl) rfl #[.slice A0 l0.length c0] rfl (by (try simp only [List.map_toArray, List.map_cons, List.map_nil]); first | done | rfl | (simp only [List.length_drop, List.length_take]; rfl)) ?_; (with_reducible refine (gang_choices.calls k _ _ l0 true _ ?side1 ?side2 A3.out).mono ?_); (case side1 => repeat (first | exact (Kd.C_below HR0.out HB.out) | (with_reducible refine Kd.C_alloc ?_ _) | (with_reducible refine Kd.C_drewN ?_ _) | (with_reducible refine Kd.C_drew ?_))); (case side2 => exact HC0.out); rintro e w' ⟨rfl, ⟨nd, rfl⟩⟩; refine ⟨_, rfl, ?_⟩) | (go_at_call 124; (with_reducible refine (gang_matching.calls _ _ l0 t811 _ ?side1 ?side2 A5.out).mono ?_); (case side1 => repeat (first | exact (Kd.C_below HR0.out (by repeat (first | (with_reducible first | exact HB.out | apply below_alloc | apply pw_below_drewN | apply below_drew1) | exact HB.out))) | (with_reducible refine Kd.C_alloc ?_ _) | (with_reducible refine Kd.C_drewN ?_ _) | (with_reducible refine Kd.C_drew ?_))); (case side2 => exact HC0.out); rintro e w6 ⟨rfl, hb⟩; have n0_ := Aside0.mk (below_step (by repeat (first | (with_reducible first | exact HB.out | apply below_alloc | apply pw_below_drewN | apply below_drew1) | exact HB.out)) hb); clear HB; have HB := n0_; clear n0_; (try clear hb); (try clear hb2); (try clear hk); (try clear hi)))
      go_meet
      case rel => exact ⟨_, (!t811), (by first | rfl | (simp; done) | (simp [*]; done)), H', ⟨by first | omega | exact Nat.le_refl _⟩, ⟨by repeat (first | (with_reducible first | exact HB.out | apply below_alloc | apply pw_below_drewN | apply below_drew1) | exact HB.out)⟩⟩
    · replace c4 := Bool.eq_false_iff.mpr c4
      subst c4
      have H1 : (gang_Match.j0 k l0 true) = some (r1, r2) := by rw [if_neg (show ¬ (false = true) by decide)] at H; exact H
      clear H
      have H := H1
      clear H1
      have H' := Aside0.mk H
      clear H
      go_wp2_with (first | ((with_reducible refine gate_callee (f := 123) rfl ?_); refine goesL_ (some 11) rfl rfl Tryd.func123 (by kernel_rfl) rfl #[.slice A0 l0.length c0] rfl (by (try simp only [List.map_toArray, List.map_cons, List.map_nil]); first | done | rfl | (simp only [List.length_drop, List.length_take]; rfl)) ?_; (with_reducible refine (gang_choices.calls k _ _ l0 false _ ?side1 ?side2 A3.out).mono ?_); (case side1 => repeat (first | exact (Kd.C_below HR0.out HB.out) | (with_reducible refine Kd.C_alloc ?_ _) | (with_reducible refine Kd.C_drewN ?_ _) | (with_reducible refine Kd.C_drew ?_))); (case side2 => exact HC0.out); rintro e w' ⟨rfl, ⟨nd, rfl⟩⟩; refine ⟨_, rfl, ?_⟩))
      go_meet
      case rel => exact ⟨_, (true), (by first | rfl | (simp; done) | (simp [*]; done)), H', ⟨by first | omega | exact Nat.le_refl _⟩, ⟨by repeat (first | (with_reducible first | exact HB.out | apply below_alloc | apply pw_below_drewN | apply below_drew1) | exact HB.out)⟩⟩
  case rest =>
    clear HC2
    try clear c1
    try clear p2
    try clear c4
    obtain ⟨kq, x17_1, rfl, HA, HJ1, HB⟩ := hcut
    cases kq with
    | zero => exact absurd HA.out (by simp [gang_Match.j0])
    | succ kj1 =>
      have H := HA.out
      clear HA
      simp only [gang_Match.j0] at H
      by_cases c7 : x17_1 = true
      · subst c7
        have H1 : (some (([] : List Int), false)) = some (r1, r2) := by rw [if_pos rfl] at H; exact H
        clear H
        have H := H1
        clear H1
        simp only [Option.some.injEq, Prod.mk.injEq] at H
        obtain ⟨rfl, rfl⟩ := H
        go_wp2
        go_ret2
        exact ⟨_, by first | rfl | (simp [errW_none, errW_some] <;> rfl) | (simp [*, errW_none, errW_some] <;> rfl), by first | exact Kd.R_nil _ _ _ _ _ | exact Kd.N_nil _ _ _ _ _ | exact Kd.V_nil _ _ _ _ _ | exact Kd.Q_nil _ _ _ _ _ | exact Kd.S_nil _ _ _ _ _, by repeat (first | (with_reducible first | exact HB.out | apply below_alloc | apply pw_below_drewN | apply below_drew1) | exact HB.out)⟩
      · replace c7 := Bool.eq_false_iff.mpr c7
        subst c7
        have H1 : ((slices_Clone_int_int.f l0).bind fun t812 => (gang_Match.l0 kj1 t812 ([] : List Int) l0 (l0.length : Int) 0)) = some (r1, r2) := by rw [if_neg (show ¬ (false = true) by decide)] at H; exact H
        clear H
        have H := H1
        clear H1
        replace H := Option.bind_eq_some_iff.mp H
        obtain ⟨t812, A80, H⟩ := H
        replace H : (gang_Match.l0 kj1 t812 ([] : List Int) l0 (l0.length : Int) 0) = some (r1, r2) := H
        have A8 := Aside0.mk A80
        clear A80
        have H' := Aside0.mk H
        clear H
        go_wp2_with (first | ((with_reducible refine gate_callee (f := 125) rfl ?_); refine goesL_ (some 19) rfl rfl Tryd.func125 (by kernel_rfl) rfl #[.slice A0 l0.length c0] rfl (by (try simp only [List.map_toArray, List.map_cons, List.map_nil]); first | done | rfl | (simp only [List.length_drop, List.length_take]; rfl)) ?_; (with_reducible refine (slices_Clone_int_int.calls w _ _ l0 t812 _ HR0.out ?side1 ?side2 A8.out).mono ?_); (case side1 => repeat (first | (with_reducible first | exact HB.out | apply below_alloc | apply pw_below_drewN | apply below_drew1) | exact HB.out)); (case side2 => exact HC0.out); rintro e w9 ⟨v813, rfl, ho0, hb⟩; refine ⟨_, rfl, ?_⟩; have n0_ := Aside0.mk (Kd.S_lower ho0 (below_size (by repeat (first | (with_reducible first | exact HB.out | apply below_alloc | apply pw_below_drewN | apply below_drew1) | exact HB.out)))); have n1_ := Aside0.mk (below_step (by repeat (first | (with_reducible first | exact HB.out | apply below_alloc | apply pw_below_drewN | apply below_drew1) | exact HB.out)) hb); clear HB; have HO814 := n0_; have HB := n1_; clear n0_ n1_; (try clear hb); (try clear hb2); (try clear hk); (try clear hi); (try clear ho0)))
        go_loopg [5, 22] kj1 (fun kq v5 v22 w' => ∃ (x4_2 : List (List Int)) (x5_2 : List Int) (x22_2 : Int), v22 = .int .i64 x22_2 ∧ Aside0 (gang_Match.l0 kq x4_2 x5_2 l0 (l0.length : Int) x22_2 = some (r1, r2)) ∧ Aside0 (kq ≤ kj1) ∧ Aside0 (Kd.S (KMix w) 42 w' w.heap.size (fun k_ => some k_ ≠ (v5 : Value).ownBlock) v813 x4_2) ∧ Aside0 (Kd.R (Kd.int .i64) 3 w' w.heap.size (fun _ => True) v5 x5_2) ∧ Aside0 (Below w.heap.size w w'))
        case atStart => exact ⟨(t812), (([] : List Int)), (0), (by first | rfl | (simp; done) | (simp [*]; done)), H', ⟨Nat.le_refl _⟩, ⟨by (with_reducible repeat (first | apply Kd.S_alloc | apply Kd.S_drewN | apply Kd.S_drew)); exact Kd.S_mono HO814.out (fun _ hk => (by simp [Value.ownBlock]))⟩, ⟨by first | exact Kd.R_nil _ _ _ _ _ | exact Kd.N_nil _ _ _ _ _ | exact Kd.V_nil _ _ _ _ _ | exact Kd.Q_nil _ _ _ _ _ | exact Kd.S_nil _ _ _ _ _⟩, ⟨by repeat (first | (with_reducible first | exact HB.out | apply below_alloc | apply pw_below_drewN | apply below_drew1) | exact HB.out)⟩⟩
        case round =>
          clear H'
          try clear c1
          try clear p2
          try clear c4
          try clear c7
          try clear p2
          obtain ⟨x4_2, x5_2, x22_2, rfl, HA, HK2, HO_4, HO_5, HB⟩ := hrel
          cases gk with
          | zero => exact absurd HA.out (by simp [gang_Match.l0])
          | succ k2 =>
            have H := HA.out
            clear HA
            simp only [gang_Match.l0] at H
            by_cases c10 : x22_2 < (l0.length : Int)
            · rw [if_pos c10] at H
              have c10b0 : decide (x22_2 < (l0.length : Int)) = true := decide_eq_true c10
              clear c10
              by_cases c11 : 0 ≤ x22_2
              · rw [if_pos c11] at H
                have c11b0 : decide (0 ≤ x22_2) = true := decide_eq_true c11
                clear c11
                by_cases c12 : x22_2 < (l0.length : Int)
                · rw [if_pos c12] at H
                  have c12b0 : decide (x22_2 < (l0.length : Int)) = true := decide_eq_true c12
                  clear c12
                  have H' := Aside0.mk H
                  clear H
                  have p815 : 0 ≤ (x22_2 : Int) := of_decide_eq_true (by first | (with_reducible assumption) | assumption)
                  have q815 : x22_2 < (l0.length : Int) := of_decide_eq_true (by first | (with_reducible assumption) | assumption)
                  obtain ⟨ad815, A815_0, c815_0, e815, hx815_0, hl815_0, hi815_0⟩ := at_L7 HR0.out x22_2 p815 q815
                  cases e815
                  replace hx815_0 := (HB.out.cell (World.block_lt_of_cell? w _ hx815_0)).trans hx815_0
                  have HR815_0 := Aside0.mk hi815_0
                  have HC815_0 := Aside0.mk hl815_0
                  clear hi815_0 hl815_0
                  replace p815 := eq_true p815
                  replace q815 := eq_true q815
                  go_wp2
                  go_loopg [5, 29] k2 (fun kq v5 v29 w' => ∃ (x4_3 : List (List Int)) (x5_3 : List Int) (x29_3 : Int), v29 = .int .i64 x29_3 ∧ Aside0 (gang_Match.l1 kq x4_3 x5_3 x22_2 l0 (l0.length : Int) x22_2 (rd_L7 l0 x22_2) ((rd_L7 l0 x22_2).length : Int) x29_3 = some (r1, r2)) ∧ Aside0 (kq ≤ k2) ∧ Aside0 (Kd.S (KMix w) 42 w' w.heap.size (fun k_ => some k_ ≠ (v5 : Value).ownBlock) v813 x4_3) ∧ Aside0 (Kd.R (Kd.int .i64) 3 w' w.heap.size (fun _ => True) v5 x5_3) ∧ Aside0 (Below w.heap.size w w'))
                  case atStart => exact ⟨(x4_2), (x5_2), (0), (by first | rfl | (simp; done) | (simp [*]; done)), H', ⟨Nat.le_refl _⟩, ⟨by (with_reducible repeat (first | apply Kd.S_alloc | apply Kd.S_drewN | apply Kd.S_drew)); exact HO_4.out⟩, ⟨by (with_reducible repeat (first | apply Kd.R_alloc | apply Kd.R_drewN | apply Kd.R_drew)); exact HO_5.out⟩, ⟨by repeat (first | (with_reducible first | exact HB.out | apply below_alloc | apply pw_below_drewN | apply below_drew1) | exact HB.out)⟩⟩
                  case round =>
                    clear H'
                    try clear c1
                    try clear p2
                    try clear c4
                    try clear c7
                    try clear c8
                    try clear p8
                    try clear q8
                    try clear hx8
                    try clear c10
                    try clear c10b0
                    try clear c11
                    try clear c11b0
                    try clear c12
                    try clear c12b0
                    try clear hx815_0
                    try clear p2
                    try clear p815
                    try clear q815
                    obtain ⟨x4_3, x5_3, x29_3, rfl, HA, HK3, HO_4, HO_5, HB⟩ := hrel
                    cases gk with
                    | zero => exact absurd HA.out (by simp [gang_Match.l1])
                    | succ k3 =>
                      have H := HA.out
                      clear HA
                      simp only [gang_Match.l1] at H
                      by_cases c13 : x29_3 < ((rd_L7 l0 x22_2).length : Int)
                      · rw [if_pos c13] at H
                        have c13b0 : decide (x29_3 < ((rd_L7 l0 x22_2).length : Int)) = true := decide_eq_true c13
                        clear c13
                        by_cases c14 : 0 ≤ x29_3
                        · rw [if_pos c14] at H
                          have c14b0 : decide (0 ≤ x29_3) = true := decide_eq_true c14
                          clear c14
                          by_cases c15 : x29_3 < ((rd_L7 l0 x22_2).length : Int)
                          · rw [if_pos c15] at H
                            have c15b0 : decide (x29_3 < ((rd_L7 l0 x22_2).length : Int)) = true := decide_eq_true c15
                            clear c15
                            replace H := Option.bind_eq_some_iff.mp H
                            obtain ⟨t817, A160, H⟩ := H
                            replace H : (if t817 = true then (gang_Match.l1 k3 x4_3 x5_3 x22_2 l0 (l0.length : Int) x22_2 (rd_L7 l0 x22_2) ((rd_L7 l0 x22_2).length : Int) (wrap64 (x29_3 + 1))) else (if 0 ≤ x22_2 then (if x22_2 < (x4_3.length : Int) then ((some (x4_3.set (x22_2 : Int).toNat (([rd (rd_L7 l0 x22_2) x29_3] : List Int)) : List (List Int))).bind fun y821 => ((gang_matching.f y821).bind fun t822 => (if t822 = true then (if x5_3.length < 17592186044416 then (gang_Match.l0 k3 y821 (x5_3 ++ [rd (rd_L7 l0 x22_2) x29_3]) l0 (l0.length : Int) (wrap64 (x22_2 + 1))) else (none)) else (gang_Match.l1 k3 y821 x5_3 x22_2 l0 (l0.length : Int) x22_2 (rd_L7 l0 x22_2) ((rd_L7 l0 x22_2).length : Int) (wrap64 (x29_3 + 1)))))) else (none)) else (none))) = some (r1, r2) := H
                            have A16 := Aside0.mk A160
                            clear A160
                            by_cases c17 : t817 = true
                            · subst c17
                              have H1 : (gang_Match.l1 k3 x4_3 x5_3 x22_2 l0 (l0.length : Int) x22_2 (rd_L7 l0 x22_2) ((rd_L7 l0 x22_2).length : Int) (wrap64 (x29_3 + 1))) = some (r1, r2) := by rw [if_pos rfl] at H; exact H
                              clear H
                              have H := H1
                              clear H1
                              have H' := Aside0.mk H
                              clear H
                              have p816 : 0 ≤ (x29_3 : Int) := of_decide_eq_true (by first | (with_reducible assumption) | assumption)
                              have q816 : x29_3 < ((rd_L7 l0 x22_2).length : Int) := of_decide_eq_true (by first | (with_reducible assumption) | assumption)
                              obtain ⟨ad816, e816, hx816_0⟩ := Kd.at_int HR815_0.out x29_3 p816 q816
                              cases e816
                              replace hx816_0 := (HB.out.cell (World.block_lt_of_cell? w _ hx816_0)).trans hx816_0
                              replace p816 := eq_true p816
                              replace q816 := eq_true q816
                              obtain ⟨Ao18, co18, eo18⟩ := Kd.R_slice HO_5.out
                              subst eo18
                              go_wp2_with (first | ((with_reducible refine gate_callee (f := 93) rfl ?_); refine goesL_ (some 35) rfl rfl Tryd.func93 (by kernel_rfl) rfl #[.slice Ao18 x5_3.length co18, .int .i64 (rd (rd_L7 l0 x22_2) x29_3)] rfl (by (try simp only [List.map_toArray, List.map_cons, List.map_nil]); first | done | rfl | (simp only [List.length_drop, List.length_take]; rfl)) ?_; (with_reducible refine (slices_Contains_int_int.calls k3 _ _ x5_3 (rd (rd_L7 l0 x22_2) x29_3) true _ ?side1 ?side2 A16.out).mono ?_); (case side1 => repeat (first | exact (Kd.R_reads' HO_5.out).2.2 | (with_reducible refine Kd.C_alloc ?_ _) | (with_reducible refine Kd.C_drewN ?_ _) | (with_reducible refine Kd.C_drew ?_))); (case side2 => exact (Kd.R_reads' HO_5.out).2.1); rintro e w' ⟨rfl, ⟨nd, rfl⟩⟩; refine ⟨_, rfl, ?_⟩))
                              go_roundg k3
                              case measure => have := HJ1.out; have := HK2.out; have := HK3.out; omega
                              case rel => exact ⟨(x4_3), (x5_3), (wrap64 (x29_3 + 1)), (by first | rfl | (simp; done) | (simp [*]; done)), H', ⟨by have := HJ1.out; have := HK2.out; have := HK3.out; omega⟩, ⟨by (with_reducible repeat (first | apply Kd.S_alloc | apply Kd.S_drewN | apply Kd.S_drew)); exact HO_4.out⟩, ⟨by (with_reducible repeat (first | apply Kd.R_alloc | apply Kd.R_drewN | apply Kd.R_drew)); exact HO_5.out⟩, ⟨by repeat (first | (with_reducible first | exact HB.out | apply below_alloc | apply pw_below_drewN | apply below_drew1) | exact HB.out)⟩⟩
                            · replace c17 := Bool.eq_false_iff.mpr c17
                              subst c17
                              have H1 : (if 0 ≤ x22_2 then (if x22_2 < (x4_3.length : Int) then ((some (x4_3.set (x22_2 : Int).toNat (([rd (rd_L7 l0 x22_2) x29_3] : List Int)) : List (List Int))).bind fun y821 => ((gang_matching.f y821).bind fun t822 => (if t822 = true then (if x5_3.length < 17592186044416 then (gang_Match.l0 k3 y821 (x5_3 ++ [rd (rd_L7 l0 x22_2) x29_3]) l0 (l0.length : Int) (wrap64 (x22_2 + 1))) else (none)) else (gang_Match.l1 k3 y821 x5_3 x22_2 l0 (l0.length : Int) x22_2 (rd_L7 l0 x22_2) ((rd_L7 l0 x22_2).length : Int) (wrap64 (x29_3 + 1)))))) else (none)) else (none)) = some (r1, r2) := by rw [if_neg (show ¬ (false = true) by decide)] at H; exact H
                              clear H
                              have H := H1
                              clear H1
                              obtain ⟨y818, hy818⟩ : ∃ y_ : List Int, y_ = (([rd (rd_L7 l0 x22_2) x29_3] : List Int)) := ⟨_, rfl⟩
                              replace H : (if 0 ≤ x22_2 then (if x22_2 < (x4_3.length : Int) then ((some (x4_3.set (x22_2 : Int).toNat y818 : List (List Int))).bind fun y821 => ((gang_matching.f y821).bind fun t822 => (if t822 = true then (if x5_3.length < 17592186044416 then (gang_Match.l0 k3 y821 (x5_3 ++ [rd (rd_L7 l0 x22_2) x29_3]) l0 (l0.length : Int) (wrap64 (x22_2 + 1))) else (none)) else (gang_Match.l1 k3 y821 x5_3 x22_2 l0 (l0.length : Int) x22_2 (rd_L7 l0 x22_2) ((rd_L7 l0 x22_2).length : Int) (wrap64 (x29_3 + 1)))))) else (none)) else (none)) = some (r1, r2) := by first | (rw [hy818]; with_reducible exact H) | (have H2_ := (Option.bind_some _ _).symm.trans H; rw [hy818]; with_reducible exact H2_) | (have H2_ := (Option.bind_some _ _).symm.trans H; with_reducible exact H2_) | with_reducible exact H | (rw [hy818]; exact H) | exact H
                              have Ny818 := Aside0.mk hy818
                              clear hy818
                              by_cases c19 : 0 ≤ x22_2
                              · rw [if_pos c19] at H
                                have c19b0 : decide (0 ≤ x22_2) = true := decide_eq_true c19
                                clear c19
                                by_cases c20 : x22_2 < (x4_3.length : Int)
                                · rw [if_pos c20] at H
                                  have c20b0 : decide (x22_2 < (x4_3.length : Int)) = true := decide_eq_true c20
                                  clear c20
                                  obtain ⟨y821, hy821⟩ : ∃ y_ : List (List Int), y_ = (x4_3.set (x22_2 : Int).toNat y818) := ⟨_, rfl⟩
                                  replace H : ((gang_matching.f y821).bind fun t822 => (if t822 = true then (if x5_3.length < 17592186044416 then (gang_Match.l0 k3 y821 (x5_3 ++ [rd (rd_L7 l0 x22_2) x29_3]) l0 (l0.length : Int) (wrap64 (x22_2 + 1))) else (none)) else (gang_Match.l1 k3 y821 x5_3 x22_2 l0 (l0.length : Int) x22_2 (rd_L7 l0 x22_2) ((rd_L7 l0 x22_2).length : Int) (wrap64 (x29_3 + 1))))) = some (r1, r2) := by first | (rw [hy821]; with_reducible exact H) | (have H2_ := (Option.bind_some _ _).symm.trans H; rw [hy821]; with_reducible exact H2_) | (have H2_ := (Option.bind_some _ _).symm.trans H; with_reducible exact H2_) | with_reducible exact H | (rw [hy821]; exact H) | exact H
                                  have Ny821 := Aside0.mk hy821
                                  clear hy821
                                  replace H := Option.bind_eq_some_iff.mp H
                                  obtain ⟨t822, A220, H⟩ := H
                                  replace H : (if t822 = true then (if x5_3.length < 17592186044416 then (gang_Match.l0 k3 y821 (x5_3 ++ [rd (rd_L7 l0 x22_2) x29_3]) l0 (l0.length : Int) (wrap64 (x22_2 + 1))) else (none)) else (gang_Match.l1 k3 y821 x5_3 x22_2 l0 (l0.length : Int) x22_2 (rd_L7 l0 x22_2) ((rd_L7 l0 x22_2).length : Int) (wrap64 (x29_3 + 1)))) = some (r1, r2) := H
                                  have A22 := Aside0.mk A220
                                  clear A220
                                  by_cases c23 : t822 = true
                                  · subst c23
                                    have H1 : (if x5_3.length < 17592186044416 then (gang_Match.l0 k3 y821 (x5_3 ++ [rd (rd_L7 l0 x22_2) x29_3]) l0 (l0.length : Int) (wrap64 (x22_2 + 1))) else (none)) = some (r1, r2) := by rw [if_pos rfl] at H; exact H
                                    clear H
                                    have H := H1
                                    clear H1
                                    by_cases c24 : x5_3.length < 17592186044416
                                    · rw [if_pos c24] at H
                                      have LMc24 := Aside0.mk c24
                                      clear c24
                                      obtain ⟨y823, hy823⟩ : ∃ y_ : List Int, y_ = (x5_3 ++ [rd (rd_L7 l0 x22_2) x29_3]) := ⟨_, rfl⟩
                                      replace H : (gang_Match.l0 k3 y821 y823 l0 (l0.length : Int) (wrap64 (x22_2 + 1))) = some (r1, r2) := by first | (rw [hy823]; with_reducible exact H) | (have H2_ := (Option.bind_some _ _).symm.trans H; rw [hy823]; with_reducible exact H2_) | (have H2_ := (Option.bind_some _ _).symm.trans H; with_reducible exact H2_) | with_reducible exact H | (rw [hy823]; exact H) | exact H
                                      have Ny823 := Aside0.mk hy823
                                      clear hy823
                                      have H' := Aside0.mk H
                                      clear H
                                      have p816 : 0 ≤ (x29_3 : Int) := of_decide_eq_true (by first | (with_reducible assumption) | assumption)
                                      have q816 : x29_3 < ((rd_L7 l0 x22_2).length : Int) := of_decide_eq_true (by first | (with_reducible assumption) | assumption)
                                      obtain ⟨ad816, e816, hx816_0⟩ := Kd.at_int HR815_0.out x29_3 p816 q816
                                      cases e816
                                      replace hx816_0 := (HB.out.cell (World.block_lt_of_cell? w _ hx816_0)).trans hx816_0
                                      replace p816 := eq_true p816
                                      replace q816 := eq_true q816
                                      obtain ⟨Ao25, co25, eo25⟩ := Kd.R_slice HO_5.out
                                      subst eo25
                                      go_wp2_with (first | ((with_reducible refine gate_callee (f := 93) rfl ?_); refine goesL_ (some 35) rfl rfl Tryd.func93 (by kernel_rfl) rfl #[.slice Ao25 x5_3.length co25, .int .i64 (rd (rd_L7 l0 x22_2) x29_3)] rfl (by (try simp only [List.map_toArray, List.map_cons, List.map_nil]); first | done | rfl | (simp only [List.length_drop, List.length_take]; rfl)) ?_; (with_reducible refine (slices_Contains_int_int.calls k3 _ _ x5_3 (rd (rd_L7 l0 x22_2) x29_3) false _ ?side1 ?side2 A16.out).mono ?_); (case side1 => repeat (first | exact (Kd.R_reads' HO_5.out).2.2 | (with_reducible refine Kd.C_alloc ?_ _) | (with_reducible refine Kd.C_drewN ?_ _) | (with_reducible refine Kd.C_drew ?_))); (case side2 => exact (Kd.R_reads' HO_5.out).2.1); rintro e w' ⟨rfl, ⟨nd, rfl⟩⟩; refine ⟨_, rfl, ?_⟩; (try (rw [drewN_self wr]; generalize hq_ : World.drewN wr _ = wr; have n0_ : Aside0 (Kd.S (KMix w) 42 wr w.heap.size (fun k_ => some k_ ≠ (.slice Ao25 x5_3.length co25 : Value).ownBlock) v813 x4_3) := ⟨by rw [← hq_]; exact (by (with_reducible repeat (first | apply Kd.S_alloc | apply Kd.S_drewN | apply Kd.S_drew)); exact HO_4.out)⟩; have n1_ : Aside0 (Kd.R (Kd.int .i64) 3 wr w.heap.size (fun _ => True) (.slice Ao25 x5_3.length co25) x5_3) := ⟨by rw [← hq_]; exact (by (with_reducible repeat (first | apply Kd.R_alloc | apply Kd.R_drewN | apply Kd.R_drew)); exact HO_5.out)⟩; have n2_ : Aside0 (Below w.heap.size w wr) := ⟨by rw [← hq_]; exact (by repeat (first | (with_reducible first | exact HB.out | apply below_alloc | apply pw_below_drewN | apply below_drew1) | exact HB.out))⟩; clear HO_4 HO_5 HB hq_; have HO_4 := n0_; have HO_5 := n1_; have HB := n2_; clear n0_ n1_ n2_))) | ((with_reducible refine gate_dst (N := 39) rfl ?_); refine Kd.R_lit (Kd.int .i64) _ 3 ?hg (N := 39) ?hd (xs := ([rd (rd_L7 l0 x22_2) x29_3] : List Int)) (inner := [.int .i64 (rd (rd_L7 l0 x22_2) x29_3)]) (ok := fun _ => True) (okp := fun _ => True) ?hr ?hp (fun _ hk => hk) trivial (Below.refl _ _) (Nat.le_refl _) (by simp) ?_; (case hd => rfl); (case hg => rfl); (case hr => first | (go_simp; done) | (go_simp; rfl)); (case hp => exact (Reps.one (show Kd.M (Kd.int .i64) _ _ _ (rd (rd_L7 l0 x22_2) x29_3) [.int .i64 (rd (rd_L7 l0 x22_2) x29_3)] from rfl) (Reps.none _ _))); intro v819 w26 ho27 hb hg_ hnew_; clear hg_ hnew_; (first | rw [← Ny818.out] at ho27 | (simp only [Int.reduceToNat] at ho27; rw [← Ny818.out] at ho27)); have n0_ := Aside0.mk (Kd.S_elder' (by (with_reducible repeat (first | apply Kd.S_alloc | apply Kd.S_drewN | apply Kd.S_drew)); exact HO_4.out) (Kd.R_base ho27) hb); have n1_ := Aside0.mk (Kd.R_elder' (by (with_reducible repeat (first | apply Kd.R_alloc | apply Kd.R_drewN | apply Kd.R_drew)); exact HO_5.out) (Kd.R_base ho27) hb); have n2_ := Aside0.mk (Kd.R_lower (Kd.R_new' ho27 (Kd.R_lt (by (with_reducible repeat (first | apply Kd.R_alloc | apply Kd.R_drewN | apply Kd.R_drew)); exact HO_5.out))) (below_size (by repeat (first | (with_reducible first | exact HB.out | apply below_alloc | apply pw_below_drewN | apply below_drew1) | exact HB.out)))); have n3_ := Aside0.mk (below_step (by repeat (first | (with_reducible first | exact HB.out | apply below_alloc | apply pw_below_drewN | apply below_drew1) | exact HB.out)) hb); clear HO_4; clear HO_5; clear HB; have HO_4 := n0_; have HO_5 := n1_; have HO820 := n2_; have HB := n3_; clear n0_ n1_ n2_ n3_; clear hb ho27; have p21 : 0 ≤ (x22_2 : Int) := of_decide_eq_true (by first | (with_reducible assumption) | assumption); have q21 : (x22_2 : Int) < ((x4_3.length : Int) : Int) := of_decide_eq_true (by first | (with_reducible assumption) | assumption); obtain ⟨go21, co21, eo21, gb21, gl21, cl21, HG21⟩ := Kd.S_form HO_4.out (by omega); (first | cases eo21 | (injection eo21 with ea_ en_ ec_; (first | subst ea_ | (injection ea_ with ea_; subst ea_)); subst ec_; clear en_)); have GB21 := Aside0.mk gb21; have GG21 := Aside0.mk HG21; clear gb21 gl21 HG21; obtain ⟨_, ce21, hcl21, hM21, hcc21, hfr21, _, _⟩ := Kd.S_elem HO_4.out [] (x22_2 : Int) p21 q21; obtain ⟨ve21_0, rfl⟩ := mix_one hM21; have hx21_0 := hcc21 0 _ rfl; have hf21_0 := hfr21 0; (try simp only [show ((KMix w)).sz = 1 from rfl, Nat.mul_one, Nat.add_zero] at hx21_0); (try simp only [show ((KMix w)).sz = 1 from rfl, Nat.mul_one, Nat.add_zero] at hf21_0); clear hcl21 hcc21 hfr21 hM21; replace p21 := eq_true p21; replace q21 := eq_true q21; have HX28 := Aside0.mk (show Kd.S (KMix w) 42 w26 w.heap.size (fun k_ => ((fun k_ => some k_ ≠ (.slice Ao25 x5_3.length co25 : Value).ownBlock)) k_ ∧ ¬ ((fun k_ => some k_ = (v819 : Value).ownBlock)) k_) (.slice (some ⟨go21, 0, none⟩) x4_3.length co21) x4_3 from (by (with_reducible repeat (first | apply Kd.S_alloc | apply Kd.S_drewN | apply Kd.S_drew)); exact Kd.S_mono HO_4.out (fun k_ hk => ⟨hk.1, fun e_ => hk.2 e_⟩))); obtain ⟨oki28, ce28, hcl28, hM28, hcc28, hfr28, hoki28, hH28⟩ := Kd.S_elem HX28.out [] (x22_2 : Int) (of_decide_eq_true (by first | (with_reducible assumption) | assumption)) (by have h_ : (x22_2 : Int) < ((x4_3.length : Int) : Int) := of_decide_eq_true (by first | (with_reducible assumption) | assumption); first | exact h_ | (have e_ := (Kd.S_reads' HO_4.out).1; omega) | simpa using h_); obtain ⟨ve28_0, rfl⟩ := mix_one hM28; have HP28 := Kd.S_seg hH28 (of_decide_eq_true (by first | (with_reducible assumption) | assumption)) (by have h_ : (x22_2 : Int) < ((x4_3.length : Int) : Int) := of_decide_eq_true (by first | (with_reducible assumption) | assumption); first | exact h_ | (have e_ := (Kd.S_reads' HO_4.out).1; omega) | simpa using h_) (seg := [v819]) (j := 0) (show 1 ≤ 1 from by decide) (x' := y818) (mix_row <| Kd.M_row (Kd.R_mono (Kd.R_tight rfl (Kd.R_mono (ok' := fun k_ => ((fun k_ => some k_ ≠ (.slice Ao25 x5_3.length co25 : Value).ownBlock)) k_ ∧ k_ ≠ go21) (Kd.R_apart' (HO820.out) (Kd.S_typed HO_4.out) (by decide)) (fun k_ hk => ⟨hk.1.2, fun e_ => (hk.2) (by rw [e_]; rfl)⟩))) (fun _ h_ => Or.inr (h_)))) (fun _ hk => hk) (fun k_ hk_ => ((Kd.R_mono (ok' := fun k_ => ((fun k_ => some k_ ≠ (.slice Ao25 x5_3.length co25 : Value).ownBlock)) k_ ∧ k_ ≠ go21) (Kd.R_apart' (HO820.out) (Kd.S_typed HO_4.out) (by decide)) (fun k_ hk => ⟨hk.1.2, fun e_ => (hk.2) (by rw [e_]; rfl)⟩))).1 k_ hk_.symm); have hx28_0 := hcc28 0 _ rfl; (try simp only [show ((KMix w)).sz = 1 from rfl, Nat.mul_one, Nat.add_zero] at hx28_0); have hf28_0 := hfr28 0; (try simp only [show ((KMix w)).sz = 1 from rfl, Nat.mul_one, Nat.add_zero] at hf28_0); clear hcl28 hcc28 hfr28 hM28 hoki28 hH28; (try simp only [show ((KMix w)).sz = 1 from rfl, Nat.mul_one, Nat.add_zero] at HP28)) | ((with_reducible refine gate_store (t := 42) (p := 40) rfl ?_); refine store_event (t := 42) (p := 40) (v := ?vo_w29) (w1 := (w26.setCell ⟨go21, (x22_2 : Int).toNat, none⟩ (v819))) ?hg ?ho ?hn ?hr ?_; (case ho => rfl); (case hg => rfl); (case hn => rfl); (case hr => (obtain ⟨Av_, cv_, hv_⟩ := Kd.R_slice HO820.out; subst hv_; first | (go_simp; done) | (go_simp; rfl))); intro w29 hw; have hg : w26.grownBy w29 (some go21) := (by rw [hw]; exact HP28.2); have hp_ : Kd.S (KMix w) 42 w29 w.heap.size (fun k_ => some k_ ≠ (.slice Ao25 x5_3.length co25 : Value).ownBlock) (.slice (some ⟨go21, 0, none⟩) x4_3.length co21) y821 := (by rw [hw, Ny821.out]; exact HP28.1); clear HP28; have n0_ := Aside0.mk (hp_); have n1_ := Aside0.mk (Kd.R_over' (v := (.slice (some ⟨go21, 0, none⟩) x4_3.length co21)) (by (with_reducible repeat (first | apply Kd.R_alloc | apply Kd.R_drewN | apply Kd.R_drew)); exact HO_5.out) (Kd.S_typed HO_4.out) (by decide) hg); have n2_ := Aside0.mk ((by rw [hw]; exact below_set (HB.out) GB21.out : Below w.heap.size w w29)); clear HO_4; clear HO_5; clear HB; clear HO820; have HO_4 := n0_; have HO_5 := n1_; have HB := n2_; clear n0_ n1_ n2_; clear hg hw hp_) | ((with_reducible refine gate_callee (f := 124) rfl ?_); refine goesL_ (some 42) rfl rfl Tryd.func124 (by kernel_rfl) rfl #[.slice (some ⟨go21, 0, none⟩) y821.length co21] rfl (by (try simp only [List.map_toArray, List.map_cons, List.map_nil]); first | done | (rw [show y821.length = x4_3.length from (Kd.S_reads' HO_4.out).1.symm] <;> rfl) | rfl | (simp only [List.length_drop, List.length_take]; rfl)) ?_; (with_reducible refine (gang_matching.calls _ _ y821 true _ ?side1 ?side2 A22.out).mono ?_); (case side1 => repeat (first | exact (mix_C HB.out (Kd.S_reads' HO_4.out).2.2) | (with_reducible refine Kd.C_alloc ?_ _) | (with_reducible refine Kd.C_drewN ?_ _) | (with_reducible refine Kd.C_drew ?_))); (case side2 => rw [show y821.length = x4_3.length from (Kd.S_reads' HO_4.out).1.symm]; exact (Kd.S_reads' HO_4.out).2.1); rintro e w30 ⟨rfl, hb⟩; refine ⟨_, rfl, ?_⟩; have n0_ := Aside0.mk (Kd.S_below (by (with_reducible repeat (first | apply Kd.S_alloc | apply Kd.S_drewN | apply Kd.S_drew)); exact HO_4.out) hb); have n1_ := Aside0.mk (Kd.R_below (by (with_reducible repeat (first | apply Kd.R_alloc | apply Kd.R_drewN | apply Kd.R_drew)); exact HO_5.out) hb); have n2_ := Aside0.mk (below_step (by repeat (first | (with_reducible first | exact HB.out | apply below_alloc | apply pw_below_drewN | apply below_drew1) | exact HB.out)) hb); clear HO_4; clear HO_5; clear HB; have HO_4 := n0_; have HO_5 := n1_; have HB := n2_; clear n0_ n1_ n2_; (try clear hb); (try clear hb2); (try clear hk); (try clear hi)) | ((with_reducible refine gate_builtin (b := .append) (xs := #[.tmp 43, .tmp 45]) rfl ?_); at_builtin; refine Kd.R_append (Kd.int .i64) (w0 := w) w.heap.size rfl (.tmp 43) (.tmp 45) 42 3 (.int .i64 0) 8 rfl Tryd.underlying42 info3 rfl (by decide) (by omega) (.slice Ao25 x5_3.length co25) x5_3 (rd (rd_L7 l0 x22_2) x29_3) [.int .i64 (rd (rd_L7 l0 x22_2) x29_3)] (fun _ => True) (fun _ => False) rfl rfl ?aP (fun _ hk => hk.elim) ?aF ?aO ?aB ?aS ?aL ?_; (case aP => exact rfl); (case aB => exact (by repeat (first | (with_reducible first | exact HB.out | apply below_alloc | apply pw_below_drewN | apply below_drew1) | exact HB.out))); (case aF => exact (fun _ _ => trivial)); (case aO => exact (by (with_reducible repeat (first | apply Kd.R_alloc | apply Kd.R_drewN | apply Kd.R_drew)); exact Kd.R_mono HO_5.out (fun _ hk => trivial))); (case aS => exact (below_size (by repeat (first | (with_reducible first | exact HB.out | apply below_alloc | apply pw_below_drewN | apply below_drew1) | exact HB.out)))); (case aL => have := LMc24.out; omega); intro v824 w31 ho hb hg hat; rw [← Ny823.out] at ho; have n0_ := Aside0.mk (Kd.S_after (ok := (fun _ => True)) (by (with_reducible repeat (first | apply Kd.S_alloc | apply Kd.S_drewN | apply Kd.S_drew)); exact Kd.S_mono HO_4.out (fun _ hk => ⟨trivial, hk⟩)) hg hat); have n1_ := Aside0.mk (hb); have n2_ := Aside0.mk (ho); clear HO_4; clear HB; clear HO_5; have HO_4 := n0_; have HB := n1_; have HO825 := n2_; clear n0_ n1_ n2_; clear ho hb hg hat))
                                      go_roundg k3
                                      case measure => have := HJ1.out; have := HK2.out; have := HK3.out; omega
                                      case rel => exact ⟨(y821), (y823), (wrap64 (x22_2 + 1)), (by first | rfl | (simp; done) | (simp [*]; done)), H', ⟨by have := HJ1.out; have := HK2.out; have := HK3.out; omega⟩, ⟨by (with_reducible repeat (first | apply Kd.S_alloc | apply Kd.S_drewN | apply Kd.S_drew)); exact Kd.S_mono HO_4.out (fun _ hk => hk.2)⟩, ⟨by (with_reducible repeat (first | apply Kd.R_alloc | apply Kd.R_drewN | apply Kd.R_drew)); exact HO825.out⟩, ⟨by repeat (first | (with_reducible first | exact HB.out | apply below_alloc | apply pw_below_drewN | apply below_drew1) | exact HB.out)⟩⟩
                                    · rw [if_neg c24] at H
                                      exact absurd H (by simp)
                                  · replace c23 := Bool.eq_false_iff.mpr c23
                                    subst c23
                                    have H1 : (gang_Match.l1 k3 y821 x5_3 x22_2 l0 (l0.length : Int) x22_2 (rd_L7 l0 x22_2) ((rd_L7 l0 x22_2).length : Int) (wrap64 (x29_3 + 1))) = some (r1, r2) := by rw [if_neg (show ¬ (false = true) by decide)] at H; exact H
                                    clear H
                                    have H := H1
                                    clear H1
                                    have H' := Aside0.mk H
                                    clear H
                                    have p816 : 0 ≤ (x29_3 : Int) := of_decide_eq_true (by first | (with_reducible assumption) | assumption)
                                    have q816 : x29_3 < ((rd_L7 l0 x22_2).length : Int) := of_decide_eq_true (by first | (with_reducible assumption) | assumption)
                                    obtain ⟨ad816, e816, hx816_0⟩ := Kd.at_int HR815_0.out x29_3 p816 q816
                                    cases e816
                                    replace hx816_0 := (HB.out.cell (World.block_lt_of_cell? w _ hx816_0)).trans hx816_0
                                    replace p816 := eq_true p816
                                    replace q816 := eq_true q816
                                    obtain ⟨Ao32, co32, eo32⟩ := Kd.R_slice HO_5.out
                                    subst eo32
                                    go_wp2_with (first | ((with_reducible refine gate_callee (f := 93) rfl ?_); refine goesL_ (some 35) rfl rfl Tryd.func93 (by kernel_rfl) rfl #[.slice Ao32 x5_3.length co32, .int .i64 (rd (rd_L7 l0 x22_2) x29_3)] rfl (by (try simp only [List.map_toArray, List.map_cons, List.map_nil]); first | done | rfl | (simp only [List.length_drop, List.length_take]; rfl)) ?_; (with_reducible refine (slices_Contains_int_int.calls k3 _ _ x5_3 (rd (rd_L7 l0 x22_2) x29_3) false _ ?side1 ?side2 A16.out).mono ?_); (case side1 => repeat (first | exact (Kd.R_reads' HO_5.out).2.2 | (with_reducible refine Kd.C_alloc ?_ _) | (with_reducible refine Kd.C_drewN ?_ _) | (with_reducible refine Kd.C_drew ?_))); (case side2 => exact (Kd.R_reads' HO_5.out).2.1); rintro e w' ⟨rfl, ⟨nd, rfl⟩⟩; refine ⟨_, rfl, ?_⟩; (try (rw [drewN_self wr]; generalize hq_ : World.drewN wr _ = wr; have n0_ : Aside0 (Kd.S (KMix w) 42 wr w.heap.size (fun k_ => some k_ ≠ (.slice Ao32 x5_3.length co32 : Value).ownBlock) v813 x4_3) := ⟨by rw [← hq_]; exact (by (with_reducible repeat (first | apply Kd.S_alloc | apply Kd.S_drewN | apply Kd.S_drew)); exact HO_4.out)⟩; have n1_ : Aside0 (Kd.R (Kd.int .i64) 3 wr w.heap.size (fun _ => True) (.slice Ao32 x5_3.length co32) x5_3) := ⟨by rw [← hq_]; exact (by (with_reducible repeat (first | apply Kd.R_alloc | apply Kd.R_drewN | apply Kd.R_drew)); exact HO_5.out)⟩; have n2_ : Aside0 (Below w.heap.size w wr) := ⟨by rw [← hq_]; exact (by repeat (first | (with_reducible first | exact HB.out | apply below_alloc | apply pw_below_drewN | apply below_drew1) | exact HB.out))⟩; clear HO_4 HO_5 HB hq_; have HO_4 := n0_; have HO_5 := n1_; have HB := n2_; clear n0_ n1_ n2_))) | ((with_reducible refine gate_dst (N := 39) rfl ?_); refine Kd.R_lit (Kd.int .i64) _ 3 ?hg (N := 39) ?hd (xs := ([rd (rd_L7 l0 x22_2) x29_3] : List Int)) (inner := [.int .i64 (rd (rd_L7 l0 x22_2) x29_3)]) (ok := fun _ => True) (okp := fun _ => True) ?hr ?hp (fun _ hk => hk) trivial (Below.refl _ _) (Nat.le_refl _) (by simp) ?_; (case hd => rfl); (case hg => rfl); (case hr => first | (go_simp; done) | (go_simp; rfl)); (case hp => exact (Reps.one (show Kd.M (Kd.int .i64) _ _ _ (rd (rd_L7 l0 x22_2) x29_3) [.int .i64 (rd (rd_L7 l0 x22_2) x29_3)] from rfl) (Reps.none _ _))); intro v819 w33 ho34 hb hg_ hnew_; clear hg_ hnew_; (first | rw [← Ny818.out] at ho34 | (simp only [Int.reduceToNat] at ho34; rw [← Ny818.out] at ho34)); have n0_ := Aside0.mk (Kd.S_elder' (by (with_reducible repeat (first | apply Kd.S_alloc | apply Kd.S_drewN | apply Kd.S_drew)); exact HO_4.out) (Kd.R_base ho34) hb); have n1_ := Aside0.mk (Kd.R_elder' (by (with_reducible repeat (first | apply Kd.R_alloc | apply Kd.R_drewN | apply Kd.R_drew)); exact HO_5.out) (Kd.R_base ho34) hb); have n2_ := Aside0.mk (Kd.R_lower (Kd.R_new' ho34 (Kd.R_lt (by (with_reducible repeat (first | apply Kd.R_alloc | apply Kd.R_drewN | apply Kd.R_drew)); exact HO_5.out))) (below_size (by repeat (first | (with_reducible first | exact HB.out | apply below_alloc | apply pw_below_drewN | apply below_drew1) | exact HB.out)))); have n3_ := Aside0.mk (below_step (by repeat (first | (with_reducible first | exact HB.out | apply below_alloc | apply pw_below_drewN | apply below_drew1) | exact HB.out)) hb); clear HO_4; clear HO_5; clear HB; have HO_4 := n0_; have HO_5 := n1_; have HO820 := n2_; have HB := n3_; clear n0_ n1_ n2_ n3_; clear hb ho34; have p21 : 0 ≤ (x22_2 : Int) := of_decide_eq_true (by first | (with_reducible assumption) | assumption); have q21 : (x22_2 : Int) < ((x4_3.length : Int) : Int) := of_decide_eq_true (by first | (with_reducible assumption) | assumption); obtain ⟨go21, co21, eo21, gb21, gl21, cl21, HG21⟩ := Kd.S_form HO_4.out (by omega); (first | cases eo21 | (injection eo21 with ea_ en_ ec_; (first | subst ea_ | (injection ea_ with ea_; subst ea_)); subst ec_; clear en_)); have GB21 := Aside0.mk gb21; have GG21 := Aside0.mk HG21; clear gb21 gl21 HG21; obtain ⟨_, ce21, hcl21, hM21, hcc21, hfr21, _, _⟩ := Kd.S_elem HO_4.out [] (x22_2 : Int) p21 q21; obtain ⟨ve21_0, rfl⟩ := mix_one hM21; have hx21_0 := hcc21 0 _ rfl; have hf21_0 := hfr21 0; (try simp only [show ((KMix w)).sz = 1 from rfl, Nat.mul_one, Nat.add_zero] at hx21_0); (try simp only [show ((KMix w)).sz = 1 from rfl, Nat.mul_one, Nat.add_zero] at hf21_0); clear hcl21 hcc21 hfr21 hM21; replace p21 := eq_true p21; replace q21 := eq_true q21; have HX35 := Aside0.mk (show Kd.S (KMix w) 42 w33 w.heap.size (fun k_ => ((fun k_ => some k_ ≠ (.slice Ao32 x5_3.length co32 : Value).ownBlock)) k_ ∧ ¬ ((fun k_ => some k_ = (v819 : Value).ownBlock)) k_) (.slice (some ⟨go21, 0, none⟩) x4_3.length co21) x4_3 from (by (with_reducible repeat (first | apply Kd.S_alloc | apply Kd.S_drewN | apply Kd.S_drew)); exact Kd.S_mono HO_4.out (fun k_ hk => ⟨hk.1, fun e_ => hk.2 e_⟩))); obtain ⟨oki35, ce35, hcl35, hM35, hcc35, hfr35, hoki35, hH35⟩ := Kd.S_elem HX35.out [] (x22_2 : Int) (of_decide_eq_true (by first | (with_reducible assumption) | assumption)) (by have h_ : (x22_2 : Int) < ((x4_3.length : Int) : Int) := of_decide_eq_true (by first | (with_reducible assumption) | assumption); first | exact h_ | (have e_ := (Kd.S_reads' HO_4.out).1; omega) | simpa using h_); obtain ⟨ve35_0, rfl⟩ := mix_one hM35; have HP35 := Kd.S_seg hH35 (of_decide_eq_true (by first | (with_reducible assumption) | assumption)) (by have h_ : (x22_2 : Int) < ((x4_3.length : Int) : Int) := of_decide_eq_true (by first | (with_reducible assumption) | assumption); first | exact h_ | (have e_ := (Kd.S_reads' HO_4.out).1; omega) | simpa using h_) (seg := [v819]) (j := 0) (show 1 ≤ 1 from by decide) (x' := y818) (mix_row <| Kd.M_row (Kd.R_mono (Kd.R_tight rfl (Kd.R_mono (ok' := fun k_ => ((fun k_ => some k_ ≠ (.slice Ao32 x5_3.length co32 : Value).ownBlock)) k_ ∧ k_ ≠ go21) (Kd.R_apart' (HO820.out) (Kd.S_typed HO_4.out) (by decide)) (fun k_ hk => ⟨hk.1.2, fun e_ => (hk.2) (by rw [e_]; rfl)⟩))) (fun _ h_ => Or.inr (h_)))) (fun _ hk => hk) (fun k_ hk_ => ((Kd.R_mono (ok' := fun k_ => ((fun k_ => some k_ ≠ (.slice Ao32 x5_3.length co32 : Value).ownBlock)) k_ ∧ k_ ≠ go21) (Kd.R_apart' (HO820.out) (Kd.S_typed HO_4.out) (by decide)) (fun k_ hk => ⟨hk.1.2, fun e_ => (hk.2) (by rw [e_]; rfl)⟩))).1 k_ hk_.symm); have hx35_0 := hcc35 0 _ rfl; (try simp only [show ((KMix w)).sz = 1 from rfl, Nat.mul_one, Nat.add_zero] at hx35_0); have hf35_0 := hfr35 0; (try simp only [show ((KMix w)).sz = 1 from rfl, Nat.mul_one, Nat.add_zero] at hf35_0); clear hcl35 hcc35 hfr35 hM35 hoki35 hH35; (try simp only [show ((KMix w)).sz = 1 from rfl, Nat.mul_one, Nat.add_zero] at HP35)) | ((with_reducible refine gate_store (t := 42) (p := 40) rfl ?_); refine store_event (t := 42) (p := 40) (v := ?vo_w36) (w1 := (w33.setCell ⟨go21, (x22_2 : Int).toNat, none⟩ (v819))) ?hg ?ho ?hn ?hr ?_; (case ho => rfl); (case hg => rfl); (case hn => rfl); (case hr => (obtain ⟨Av_, cv_, hv_⟩ := Kd.R_slice HO820.out; subst hv_; first | (go_simp; done) | (go_simp; rfl))); intro w36 hw; have hg : w33.grownBy w36 (some go21) := (by rw [hw]; exact HP35.2); have hp_ : Kd.S (KMix w) 42 w36 w.heap.size (fun k_ => some k_ ≠ (.slice Ao32 x5_3.length co32 : Value).ownBlock) (.slice (some ⟨go21, 0, none⟩) x4_3.length co21) y821 := (by rw [hw, Ny821.out]; exact HP35.1); clear HP35; have n0_ := Aside0.mk (hp_); have n1_ := Aside0.mk (Kd.R_over' (v := (.slice (some ⟨go21, 0, none⟩) x4_3.length co21)) (by (with_reducible repeat (first | apply Kd.R_alloc | apply Kd.R_drewN | apply Kd.R_drew)); exact HO_5.out) (Kd.S_typed HO_4.out) (by decide) hg); have n2_ := Aside0.mk ((by rw [hw]; exact below_set (HB.out) GB21.out : Below w.heap.size w w36)); clear HO_4; clear HO_5; clear HB; clear HO820; have HO_4 := n0_; have HO_5 := n1_; have HB := n2_; clear n0_ n1_ n2_; clear hg hw hp_) | ((with_reducible refine gate_callee (f := 124) rfl ?_); refine goesL_ (some 42) rfl rfl Tryd.func124 (by kernel_rfl) rfl #[.slice (some ⟨go21, 0, none⟩) y821.length co21] rfl (by (try simp only [List.map_toArray, List.map_cons, List.map_nil]); first | done | (rw [show y821.length = x4_3.length from (Kd.S_reads' HO_4.out).1.symm] <;> rfl) | rfl | (simp only [List.length_drop, List.length_take]; rfl)) ?_; (with_reducible refine (gang_matching.calls _ _ y821 false _ ?side1 ?side2 A22.out).mono ?_); (case side1 => repeat (first | exact (mix_C HB.out (Kd.S_reads' HO_4.out).2.2) | (with_reducible refine Kd.C_alloc ?_ _) | (with_reducible refine Kd.C_drewN ?_ _) | (with_reducible refine Kd.C_drew ?_))); (case side2 => rw [show y821.length = x4_3.length from (Kd.S_reads' HO_4.out).1.symm]; exact (Kd.S_reads' HO_4.out).2.1); rintro e w37 ⟨rfl, hb⟩; refine ⟨_, rfl, ?_⟩; have n0_ := Aside0.mk (Kd.S_below (by (with_reducible repeat (first | apply Kd.S_alloc | apply Kd.S_drewN | apply Kd.S_drew)); exact HO_4.out) hb); have n1_ := Aside0.mk (Kd.R_below (by (with_reducible repeat (first | apply Kd.R_alloc | apply Kd.R_drewN | apply Kd.R_drew)); exact HO_5.out) hb); have n2_ := Aside0.mk (below_step (by repeat (first | (with_reducible first | exact HB.out | apply below_alloc | apply pw_below_drewN | apply below_drew1) | exact HB.out)) hb); clear HO_4; clear HO_5; clear HB; have HO_4 := n0_; have HO_5 := n1_; have HB := n2_; clear n0_ n1_ n2_; (try clear hb); (try clear hb2); (try clear hk); (try clear hi)))
                                    go_roundg k3
                                    case measure => have := HJ1.out; have := HK2.out; have := HK3.out; omega
                                    case rel => exact ⟨(y821), (x5_3), (wrap64 (x29_3 + 1)), (by first | rfl | (simp; done) | (simp [*]; done)), H', ⟨by have := HJ1.out; have := HK2.out; have := HK3.out; omega⟩, ⟨by (with_reducible repeat (first | apply Kd.S_alloc | apply Kd.S_drewN | apply Kd.S_drew)); exact HO_4.out⟩, ⟨by (with_reducible repeat (first | apply Kd.R_alloc | apply Kd.R_drewN | apply Kd.R_drew)); exact Kd.R_mono HO_5.out (fun _ hk => trivial)⟩, ⟨by repeat (first | (with_reducible first | exact HB.out | apply below_alloc | apply pw_below_drewN | apply below_drew1) | exact HB.out)⟩⟩
                                · rw [if_neg c20] at H
                                  exact absurd H (by simp)
                              · rw [if_neg c19] at H
                                exact absurd H (by simp)
                          · rw [if_neg c15] at H
                            exact absurd H (by simp)
                        · rw [if_neg c14] at H
                          exact absurd H (by simp)
                      · rw [if_neg c13] at H
                        have c13b0 : decide (x29_3 < ((rd_L7 l0 x22_2).length : Int)) = false := decide_eq_false c13
                        clear c13
                        have H' := Aside0.mk H
                        clear H
                        go_wp2
                        go_roundg k3
                        case measure => have := HJ1.out; have := HK2.out; have := HK3.out; omega
                        case rel => exact ⟨(x4_3), (x5_3), (wrap64 (x22_2 + 1)), (by first | rfl | (simp; done) | (simp [*]; done)), H', ⟨by have := HJ1.out; have := HK2.out; have := HK3.out; omega⟩, ⟨by (with_reducible repeat (first | apply Kd.S_alloc | apply Kd.S_drewN | apply Kd.S_drew)); exact HO_4.out⟩, ⟨by (with_reducible repeat (first | apply Kd.R_alloc | apply Kd.R_drewN | apply Kd.R_drew)); exact HO_5.out⟩, ⟨by repeat (first | (with_reducible first | exact HB.out | apply below_alloc | apply pw_below_drewN | apply below_drew1) | exact HB.out)⟩⟩
                · rw [if_neg c12] at H
                  exact absurd H (by simp)
              · rw [if_neg c11] at H
                exact absurd H (by simp)
            · rw [if_neg c10] at H
              have c10b0 : decide (x22_2 < (l0.length : Int)) = false := decide_eq_false c10
              clear c10
              simp only [Option.some.injEq, Prod.mk.injEq] at H
              obtain ⟨rfl, rfl⟩ := H
              go_wp2
              go_ret2
              exact ⟨_, by first | rfl | (simp [errW_none, errW_some] <;> rfl) | (simp [*, errW_none, errW_some] <;> rfl), by (with_reducible repeat (first | apply Kd.R_alloc | apply Kd.R_drewN | apply Kd.R_drew)); exact HO_5.out, by repeat (first | (with_reducible first | exact HB.out | apply below_alloc | apply pw_below_drewN | apply below_drew1) | exact HB.out)⟩

end Go.Proofs.YtdmieaidheelbaaDoor.Q
end
/- QFpickChoices -/
section
-- Written by a program of this session (hprint.py), which drives the kit's print over hand-proved contracts. Lean checks it.
namespace Go.Proofs.YtdmieaidheelbaaDoor.Q
open Go.RowKit Go.Proofs.YtdmieaidheelbaaDoorW.PrintWords Go.Proofs.YtdmieaidheelbaaDoorW.PrintLast Go.Proofs.YtdmieaidheelbaaDoorW.PrintMore
attribute [local go_sem] max2_int min2_int max_two min_two max_three min_three max_four min_four   -- for this text's walks alone
set_option linter.unusedVariables false
set_option linter.unusedSimpArgs false

/-! ### pick_Choices: function 51 -/
def pick_Choices.f (k : Nat) (a0_0 : Int) (a0_1 : Int) (a0_2 : Int) (a0_3 : Int) (a1 : Int) : Option (List Int) := (mask_Allows.f k a0_2 a0_3 a1).bind fun t649 => ((mask_Likes.f k a0_2 a0_3 a1).bind fun t650 => ((cpuset_Has.f t649 a0_1).bind fun t651 => (if t651 = true then (if ([] : List Int).length < 17592186044416 then ((some (([] : List Int) ++ [a0_1] : List Int)).bind fun y652 => (if 0 ≤ a0_1 then ((cpuset_List.f (Go.bits .andNot .u32 t650 (shl .u32 1 a0_1))).bind fun t655 => (if y652.length + t655.length < 17592186044416 then ((some (y652 ++ t655 : List Int)).bind fun y658 => ((cpuset_List.f (Go.bits .andNot .u32 (Go.bits .andNot .u32 t649 (shl .u32 1 a0_1)) (Go.bits .andNot .u32 t650 (shl .u32 1 a0_1)))).bind fun t661 => (if y658.length + t661.length < 17592186044416 then (some (y658 ++ t661)) else (none)))) else (none))) else (none))) else (none)) else ((cpuset_List.f t650).bind fun t667 => (if ([] : List Int).length + t667.length < 17592186044416 then ((some (([] : List Int) ++ t667 : List Int)).bind fun y670 => ((cpuset_List.f (Go.bits .andNot .u32 t649 t650)).bind fun t673 => (if y670.length + t673.length < 17592186044416 then (some (y670 ++ t673)) else (none)))) else (none))))))
theorem pick_Choices.mono : ∀ a0 a1 a2 a3 a4 k, LeO (pick_Choices.f k a0 a1 a2 a3 a4) (pick_Choices.f (k + 1) a0 a1 a2 a3 a4) := by
  intro a0 a1 a2 a3 a4 k
  unfold pick_Choices.f
  repeat' first
      | (with_reducible exact mask_Allows.mono _ _ _ _)
      | (with_reducible exact mask_Likes.mono _ _ _ _)
      | (with_reducible exact LeO.refl _)
      | (with_reducible exact LeO.none _)
      | (with_reducible refine LeO.ite ?_ ?_)
      | (with_reducible refine LeO.bind ?_ (fun _ => ?_))
      | exact mask_Allows.mono _ _ _ _
      | exact mask_Likes.mono _ _ _ _
      | exact LeO.none _
      | refine LeO.ite ?_ ?_
      | refine LeO.bind ?_ (fun _ => ?_)
set_option maxHeartbeats 8000000 in
set_option maxRecDepth 100000 in
theorem pick_Choices.calls (k : Nat) (a0_0 : Int) (a0_1 : Int) (a0_2 : Int) (a0_3 : Int) (a1 : Int) (r : List Int) (w : World) (hT : TabW w) (h : pick_Choices.f k a0_0 a0_1 a0_2 a0_3 a1 = some r) :
    Calls Tryd.prog 51 #[.agg #[.int .i64 a0_0, .int .i64 a0_1, .int .u32 a0_2, .int .u32 a0_3], .int .u32 a1] w fun e w' => ∃ v0_ : Value, e = .returned (v0_) ∧ Kd.R (Kd.int .i64) 3 w' w.heap.size (fun _ => True) v0_ r ∧ Below w.heap.size w w' := by
  have HT := Aside0.mk hT
  clear hT
  have hu36 := Tryd.underlying36
  have hu34 := Tryd.underlying34
  have HB := Aside0.mk (Below.refl w.heap.size w)
  have H : ((mask_Allows.f k a0_2 a0_3 a1).bind fun t649 => ((mask_Likes.f k a0_2 a0_3 a1).bind fun t650 => ((cpuset_Has.f t649 a0_1).bind fun t651 => (if t651 = true then (if ([] : List Int).length < 17592186044416 then ((some (([] : List Int) ++ [a0_1] : List Int)).bind fun y652 => (if 0 ≤ a0_1 then ((cpuset_List.f (Go.bits .andNot .u32 t650 (shl .u32 1 a0_1))).bind fun t655 => (if y652.length + t655.length < 17592186044416 then ((some (y652 ++ t655 : List Int)).bind fun y658 => ((cpuset_List.f (Go.bits .andNot .u32 (Go.bits .andNot .u32 t649 (shl .u32 1 a0_1)) (Go.bits .andNot .u32 t650 (shl .u32 1 a0_1)))).bind fun t661 => (if y658.length + t661.length < 17592186044416 then (some (y658 ++ t661)) else (none)))) else (none))) else (none))) else (none)) else ((cpuset_List.f t650).bind fun t667 => (if ([] : List Int).length + t667.length < 17592186044416 then ((some (([] : List Int) ++ t667 : List Int)).bind fun y670 => ((cpuset_List.f (Go.bits .andNot .u32 t649 t650)).bind fun t673 => (if y670.length + t673.length < 17592186044416 then (some (y670 ++ t673)) else (none)))) else (none))))))) = some r := h
  clear h
  replace H := Option.bind_eq_some_iff.mp H
  obtain ⟨t649, A30, H⟩ := H
  replace H : ((mask_Likes.f k a0_2 a0_3 a1).bind fun t650 => ((cpuset_Has.f t649 a0_1).bind fun t651 => (if t651 = true then (if ([] : List Int).length < 17592186044416 then ((some (([] : List Int) ++ [a0_1] : List Int)).bind fun y652 => (if 0 ≤ a0_1 then ((cpuset_List.f (Go.bits .andNot .u32 t650 (shl .u32 1 a0_1))).bind fun t655 => (if y652.length + t655.length < 17592186044416 then ((some (y652 ++ t655 : List Int)).bind fun y658 => ((cpuset_List.f (Go.bits .andNot .u32 (Go.bits .andNot .u32 t649 (shl .u32 1 a0_1)) (Go.bits .andNot .u32 t650 (shl .u32 1 a0_1)))).bind fun t661 => (if y658.length + t661.length < 17592186044416 then (some (y658 ++ t661)) else (none)))) else (none))) else (none))) else (none)) else ((cpuset_List.f t650).bind fun t667 => (if ([] : List Int).length + t667.length < 17592186044416 then ((some (([] : List Int) ++ t667 : List Int)).bind fun y670 => ((cpuset_List.f (Go.bits .andNot .u32 t649 t650)).bind fun t673 => (if y670.length + t673.length < 17592186044416 then (some (y670 ++ t673)) else (none)))) else (none)))))) = some r := H
  have A3 := Aside0.mk A30
  clear A30
  replace H := Option.bind_eq_some_iff.mp H
  obtain ⟨t650, A40, H⟩ := H
  replace H : ((cpuset_Has.f t649 a0_1).bind fun t651 => (if t651 = true then (if ([] : List Int).length < 17592186044416 then ((some (([] : List Int) ++ [a0_1] : List Int)).bind fun y652 => (if 0 ≤ a0_1 then ((cpuset_List.f (Go.bits .andNot .u32 t650 (shl .u32 1 a0_1))).bind fun t655 => (if y652.length + t655.length < 17592186044416 then ((some (y652 ++ t655 : List Int)).bind fun y658 => ((cpuset_List.f (Go.bits .andNot .u32 (Go.bits .andNot .u32 t649 (shl .u32 1 a0_1)) (Go.bits .andNot .u32 t650 (shl .u32 1 a0_1)))).bind fun t661 => (if y658.length + t661.length < 17592186044416 then (some (y658 ++ t661)) else (none)))) else (none))) else (none))) else (none)) else ((cpuset_List.f t650).bind fun t667 => (if ([] : List Int).length + t667.length < 17592186044416 then ((some (([] : List Int) ++ t667 : List Int)).bind fun y670 => ((cpuset_List.f (Go.bits .andNot .u32 t649 t650)).bind fun t673 => (if y670.length + t673.length < 17592186044416 then (some (y670 ++ t673)) else (none)))) else (none))))) = some r := H
  have A4 := Aside0.mk A40
  clear A40
  replace H := Option.bind_eq_some_iff.mp H
  obtain ⟨t651, A50, H⟩ := H
  replace H : (if t651 = true then (if ([] : List Int).length < 17592186044416 then ((some (([] : List Int) ++ [a0_1] : List Int)).bind fun y652 => (if 0 ≤ a0_1 then ((cpuset_List.f (Go.bits .andNot .u32 t650 (shl .u32 1 a0_1))).bind fun t655 => (if y652.length + t655.length < 17592186044416 then ((some (y652 ++ t655 : List Int)).bind fun y658 => ((cpuset_List.f (Go.bits .andNot .u32 (Go.bits .andNot .u32 t649 (shl .u32 1 a0_1)) (Go.bits .andNot .u32 t650 (shl .u32 1 a0_1)))).bind fun t661 => (if y658.length + t661.length < 17592186044416 then (some (y658 ++ t661)) else (none)))) else (none))) else (none))) else (none)) else ((cpuset_List.f t650).bind fun t667 => (if ([] : List Int).length + t667.length < 17592186044416 then ((some (([] : List Int) ++ t667 : List Int)).bind fun y670 => ((cpuset_List.f (Go.bits .andNot .u32 t649 t650)).bind fun t673 => (if y670.length + t673.length < 17592186044416 then (some (y670 ++ t673)) else (none)))) else (none)))) = some r := H
  have A5 := Aside0.mk A50
  clear A50
  by_cases c6 : t651 = true
  · subst c6
    have H1 : (if ([] : List Int).length < 17592186044416 then ((some (([] : List Int) ++ [a0_1] : List Int)).bind fun y652 => (if 0 ≤ a0_1 then ((cpuset_List.f (Go.bits .andNot .u32 t650 (shl .u32 1 a0_1))).bind fun t655 => (if y652.length + t655.length < 17592186044416 then ((some (y652 ++ t655 : List Int)).bind fun y658 => ((cpuset_List.f (Go.bits .andNot .u32 (Go.bits .andNot .u32 t649 (shl .u32 1 a0_1)) (Go.bits .andNot .u32 t650 (shl .u32 1 a0_1)))).bind fun t661 => (if y658.length + t661.length < 17592186044416 then (some (y658 ++ t661)) else (none)))) else (none))) else (none))) else (none)) = some r := by rw [if_pos rfl] at H; exact H
    clear H
    have H := H1
    clear H1
    by_cases c7 : ([] : List Int).length < 17592186044416
    · rw [if_pos c7] at H
      have LMc7 := Aside0.mk c7
      clear c7
      obtain ⟨y652, hy652⟩ : ∃ y_ : List Int, y_ = (([] : List Int) ++ [a0_1]) := ⟨_, rfl⟩
      replace H : (if 0 ≤ a0_1 then ((cpuset_List.f (Go.bits .andNot .u32 t650 (shl .u32 1 a0_1))).bind fun t655 => (if y652.length + t655.length < 17592186044416 then ((some (y652 ++ t655 : List Int)).bind fun y658 => ((cpuset_List.f (Go.bits .andNot .u32 (Go.bits .andNot .u32 t649 (shl .u32 1 a0_1)) (Go.bits .andNot .u32 t650 (shl .u32 1 a0_1)))).bind fun t661 => (if y658.length + t661.length < 17592186044416 then (some (y658 ++ t661)) else (none)))) else (none))) else (none)) = some r := by first | (rw [hy652]; with_reducible exact H) | (have H2_ := (Option.bind_some _ _).symm.trans H; rw [hy652]; with_reducible exact H2_) | (have H2_ := (Option.bind_some _ _).symm.trans H; with_reducible exact H2_) | with_reducible exact H | (rw [hy652]; exact H) | exact H
      have Ny652 := Aside0.mk hy652
      clear hy652
      by_cases c8 : 0 ≤ a0_1
      · rw [if_pos c8] at H
        have c8b0 := eq_true c8
        have c8b1 : decide (0 ≤ a0_1) = true := decide_eq_true c8
        clear c8
        obtain ⟨ji9, hji9⟩ : ∃ j_ : Int, (shl .u32 1 a0_1) = j_ := ⟨_, rfl⟩
        replace H : ((cpuset_List.f (Go.bits .andNot .u32 t650 (ji9))).bind fun t655 => (if y652.length + t655.length < 17592186044416 then ((some (y652 ++ t655 : List Int)).bind fun y658 => ((cpuset_List.f (Go.bits .andNot .u32 (Go.bits .andNot .u32 t649 (ji9)) (Go.bits .andNot .u32 t650 (ji9)))).bind fun t661 => (if y658.length + t661.length < 17592186044416 then (some (y658 ++ t661)) else (none)))) else (none))) = some r := by first | (rw [hji9] at H; exact H) | (simp only [hji9] at H ⊢; exact H)
        (try rw [hji9] at A3)
        (try rw [hji9] at A4)
        (try rw [hji9] at A5)
        have hji9_ : (IntKind.u32.wrap (1 * 2 ^ min a0_1.toNat 32)) = ji9 := hji9
        have hji9z : a0_1 ≤ 32 → (IntKind.u32.wrap (1 * 2 ^ a0_1.toNat)) = ji9 := shl_small hji9
        have hji9u : (IntKind.u32.wrap (2 ^ min a0_1.toNat 32)) = ji9 := by have h_ := hji9_; rw [Int.one_mul] at h_; exact h_
        have hji9v : a0_1 ≤ 32 → (IntKind.u32.wrap (2 ^ a0_1.toNat)) = ji9 := fun hle_ => by have h_ := hji9z hle_; rw [Int.one_mul] at h_; exact h_
        have c10b0 := eq_true (of_decide_eq_true (by first | (with_reducible assumption) | assumption) : 0 ≤ a0_1)
        replace H := Option.bind_eq_some_iff.mp H
        obtain ⟨t655, A120, H⟩ := H
        replace H : (if y652.length + t655.length < 17592186044416 then ((some (y652 ++ t655 : List Int)).bind fun y658 => ((cpuset_List.f (Go.bits .andNot .u32 (Go.bits .andNot .u32 t649 (ji9)) (Go.bits .andNot .u32 t650 (ji9)))).bind fun t661 => (if y658.length + t661.length < 17592186044416 then (some (y658 ++ t661)) else (none)))) else (none)) = some r := H
        have A12 := Aside0.mk A120
        clear A120
        by_cases c13 : y652.length + t655.length < 17592186044416
        · rw [if_pos c13] at H
          have LMc13 := Aside0.mk c13
          clear c13
          obtain ⟨y658, hy658⟩ : ∃ y_ : List Int, y_ = (y652 ++ t655) := ⟨_, rfl⟩
          replace H : ((cpuset_List.f (Go.bits .andNot .u32 (Go.bits .andNot .u32 t649 (ji9)) (Go.bits .andNot .u32 t650 (ji9)))).bind fun t661 => (if y658.length + t661.length < 17592186044416 then (some (y658 ++ t661)) else (none))) = some r := by first | (rw [hy658]; with_reducible exact H) | (have H2_ := (Option.bind_some _ _).symm.trans H; rw [hy658]; with_reducible exact H2_) | (have H2_ := (Option.bind_some _ _).symm.trans H; with_reducible exact H2_) | with_reducible exact H | (rw [hy658]; exact H) | exact H
          have Ny658 := Aside0.mk hy658
          clear hy658
          replace H := Option.bind_eq_some_iff.mp H
          obtain ⟨t661, A140, H⟩ := H
          replace H : (if y658.length + t661.length < 17592186044416 then (some (y658 ++ t661)) else (none)) = some r := H
          have A14 := Aside0.mk A140
          clear A140
          by_cases c15 : y658.length + t661.length < 17592186044416
          · rw [if_pos c15] at H
            have LMc15 := Aside0.mk c15
            clear c15
            obtain ⟨y664, hy664⟩ : ∃ y_ : List Int, y_ = (y658 ++ t661) := ⟨_, rfl⟩
            replace H : (some y664) = some r := by first | (rw [hy664]; with_reducible exact H) | (have H2_ := (Option.bind_some _ _).symm.trans H; rw [hy664]; with_reducible exact H2_) | (have H2_ := (Option.bind_some _ _).symm.trans H; with_reducible exact H2_) | with_reducible exact H | (rw [hy664]; exact H) | exact H
            have Ny664 := Aside0.mk hy664
            clear hy664
            obtain rfl := Option.some.inj H
            go_enter Tryd.func51, Tryd.ntmps51
            go_wp2_with (first | ((with_reducible refine gate_dst (N := 2) rfl ?_); refine box_event ?hg (N := 2) ?hd (cs := #[.int .i64 a0_0, .int .i64 a0_1, .int .u32 a0_2, .int .u32 a0_3]) (t := 36) ?hr ?_; (case hd => rfl); (case hg => rfl); (case hr => first | (go_simp; done) | (go_simp; rfl)); intro gb648 hg w16 hbox hb; have n0_ := Aside0.mk (below_step (by repeat (first | (with_reducible first | exact HB.out | apply below_alloc | apply pw_below_drewN | apply below_drew1) | exact HB.out)) hb); have n1_ := Aside0.mk (hbox); have n2_ := Aside0.mk ((by rw [hg]; exact (below_size (by repeat (first | (with_reducible first | exact HB.out | apply below_alloc | apply pw_below_drewN | apply below_drew1) | exact HB.out))) : w.heap.size ≤ gb648)); have n3_ := Aside0.mk ((by rw [hg]; exact (below_size (by repeat (first | (with_reducible first | exact HB.out | apply below_alloc | apply pw_below_drewN | apply below_drew1) | exact HB.out))) : w.heap.size ≤ gb648)); clear HB; have HB := n0_; have BK648 := n1_; have GW648 := n2_; have GE648 := n3_; clear n0_ n1_ n2_ n3_; clear hb hbox hg; have hcz17_0 : w16.cell? ⟨gb648, 0, none⟩ = some (.int .i64 a0_0) := (blk_cell BK648.out 0).trans rfl; have hcz17_1 : w16.cell? ⟨gb648, 1, none⟩ = some (.int .i64 a0_1) := (blk_cell BK648.out 1).trans rfl; have hcz17_2 : w16.cell? ⟨gb648, 2, none⟩ = some (.int .u32 a0_2) := (blk_cell BK648.out 2).trans rfl; have hcz17_3 : w16.cell? ⟨gb648, 3, none⟩ = some (.int .u32 a0_3) := (blk_cell BK648.out 3).trans rfl; have hfz17_0 := blk_frozen BK648.out 0; have hfz17_1 := blk_frozen BK648.out 1; have hfz17_2 := blk_frozen BK648.out 2; have hfz17_3 := blk_frozen BK648.out 3) | ((with_reducible refine gate_callee (f := 22) rfl ?_); refine goesL_ (some 11) rfl rfl Tryd.func22 (by kernel_rfl) rfl #[.agg #[.int .u32 a0_2, .int .u32 a0_3], .int .u32 a1] rfl (by (try simp only [List.map_toArray, List.map_cons, List.map_nil]); first | done | rfl | (simp only [List.length_drop, List.length_take]; rfl)) ?_; (with_reducible refine (mask_Allows.calls k a0_2 a0_3 a1 t649 _ A3.out).mono ?_); rintro e w18 ⟨rfl, hb⟩; refine ⟨_, rfl, ?_⟩; have n0_ := Aside0.mk (blk_below (g := gb648) (o := .cells #[.int .i64 a0_0, .int .i64 a0_1, .int .u32 a0_2, .int .u32 a0_3] 36 (0, 0)) (by (with_reducible repeat (first | refine blk_drewN ?_ _ | refine blk_drew ?_ | refine blk_alloc ?_ _)); exact BK648.out) hb); have n1_ := Aside0.mk (below_step (by repeat (first | (with_reducible first | exact HB.out | apply below_alloc | apply pw_below_drewN | apply below_drew1 | refine below_set ?_ GE648.out) | exact HB.out)) hb); clear BK648; clear HB; have BK648 := n0_; have HB := n1_; clear n0_ n1_; (try clear hb); (try clear hb2); (try clear hk); (try clear hi); have hcz19_0 : w18.cell? ⟨gb648, 0, none⟩ = some (.int .i64 a0_0) := (blk_cell BK648.out 0).trans rfl; have hcz19_1 : w18.cell? ⟨gb648, 1, none⟩ = some (.int .i64 a0_1) := (blk_cell BK648.out 1).trans rfl; have hcz19_2 : w18.cell? ⟨gb648, 2, none⟩ = some (.int .u32 a0_2) := (blk_cell BK648.out 2).trans rfl; have hcz19_3 : w18.cell? ⟨gb648, 3, none⟩ = some (.int .u32 a0_3) := (blk_cell BK648.out 3).trans rfl; have hfz19_0 := blk_frozen BK648.out 0; have hfz19_1 := blk_frozen BK648.out 1; have hfz19_2 := blk_frozen BK648.out 2; have hfz19_3 := blk_frozen BK648.out 3) | ((with_reducible refine gate_callee (f := 86) rfl ?_); refine goesL_ (some 15) rfl rfl Tryd.func86 (by kernel_rfl) rfl #[.agg #[.int .u32 a0_2, .int .u32 a0_3], .int .u32 a1] rfl (by (try simp only [List.map_toArray, List.map_cons, List.map_nil]); first | done | rfl | (simp only [List.length_drop, List.length_take]; rfl)) ?_; (with_reducible refine (mask_Likes.calls k a0_2 a0_3 a1 t650 _ A4.out).mono ?_); rintro e w20 ⟨rfl, hb⟩; refine ⟨_, rfl, ?_⟩; have n0_ := Aside0.mk (blk_below (g := gb648) (o := .cells #[.int .i64 a0_0, .int .i64 a0_1, .int .u32 a0_2, .int .u32 a0_3] 36 (0, 0)) (by (with_reducible repeat (first | refine blk_drewN ?_ _ | refine blk_drew ?_ | refine blk_alloc ?_ _)); exact BK648.out) hb); have n1_ := Aside0.mk (below_step (by repeat (first | (with_reducible first | exact HB.out | apply below_alloc | apply pw_below_drewN | apply below_drew1 | refine below_set ?_ GE648.out) | exact HB.out)) hb); clear BK648; clear HB; have BK648 := n0_; have HB := n1_; clear n0_ n1_; (try clear hb); (try clear hb2); (try clear hk); (try clear hi); have hcz21_0 : w20.cell? ⟨gb648, 0, none⟩ = some (.int .i64 a0_0) := (blk_cell BK648.out 0).trans rfl; have hcz21_1 : w20.cell? ⟨gb648, 1, none⟩ = some (.int .i64 a0_1) := (blk_cell BK648.out 1).trans rfl; have hcz21_2 : w20.cell? ⟨gb648, 2, none⟩ = some (.int .u32 a0_2) := (blk_cell BK648.out 2).trans rfl; have hcz21_3 : w20.cell? ⟨gb648, 3, none⟩ = some (.int .u32 a0_3) := (blk_cell BK648.out 3).trans rfl; have hfz21_0 := blk_frozen BK648.out 0; have hfz21_1 := blk_frozen BK648.out 1; have hfz21_2 := blk_frozen BK648.out 2; have hfz21_3 := blk_frozen BK648.out 3) | ((with_reducible refine gate_callee (f := 21) rfl ?_); refine goesL_ (some 19) rfl rfl Tryd.func21 (by kernel_rfl) rfl #[.int .u32 t649, .int .i64 a0_1] rfl (by (try simp only [List.map_toArray, List.map_cons, List.map_nil]); first | done | rfl | (simp only [List.length_drop, List.length_take]; rfl)) ?_; (with_reducible refine (cpuset_Has.calls t649 a0_1 true _ A5.out).mono ?_); rintro e w' ⟨rfl, ⟨nd, rfl⟩⟩; refine ⟨_, rfl, ?_⟩) | ((with_reducible refine gate_builtin (b := .append) (xs := #[.tmp 20, .tmp 23]) rfl ?_); at_builtin; refine Kd.R_append (Kd.int .i64) (w0 := w) w.heap.size rfl (.tmp 20) (.tmp 23) 42 3 (.int .i64 0) 8 rfl Tryd.underlying42 info3 rfl (by decide) (by omega) (.slice none 0 0) ([] : List Int) a0_1 [.int .i64 a0_1] (fun _ => True) (fun _ => False) rfl rfl ?aP (fun _ hk => hk.elim) ?aF ?aO ?aB ?aS ?aL ?_; (case aP => exact rfl); (case aB => exact (by repeat (first | (with_reducible first | exact HB.out | apply below_alloc | apply pw_below_drewN | apply below_drew1 | refine below_set ?_ GE648.out) | exact HB.out))); (case aF => exact (fun _ _ => trivial)); (case aO => exact ((Kd.R_nil _ _ _ _ (fun _ => True)))); (case aS => exact (below_size (by repeat (first | (with_reducible first | exact HB.out | apply below_alloc | apply pw_below_drewN | apply below_drew1 | refine below_set ?_ GE648.out) | exact HB.out)))); (case aL => have := LMc7.out; omega); intro v653 w22 ho hb hg hat; rw [← Ny652.out] at ho; have n0_ := Aside0.mk (blk_grown (g := gb648) (o := .cells #[.int .i64 a0_0, .int .i64 a0_1, .int .u32 a0_2, .int .u32 a0_3] 36 (0, 0)) (by (with_reducible repeat (first | refine blk_drewN ?_ _ | refine blk_drew ?_ | refine blk_alloc ?_ _)); exact BK648.out) hg (by simp [Value.ownBlock])); have n1_ := Aside0.mk (hb); have n2_ := Aside0.mk (ho); clear BK648; clear HB; have BK648 := n0_; have HB := n1_; have HO654 := n2_; clear n0_ n1_ n2_; clear ho hb hg hat; have hcz23_0 : w22.cell? ⟨gb648, 0, none⟩ = some (.int .i64 a0_0) := (blk_cell BK648.out 0).trans rfl; have hcz23_1 : w22.cell? ⟨gb648, 1, none⟩ = some (.int .i64 a0_1) := (blk_cell BK648.out 1).trans rfl; have hcz23_2 : w22.cell? ⟨gb648, 2, none⟩ = some (.int .u32 a0_2) := (blk_cell BK648.out 2).trans rfl; have hcz23_3 : w22.cell? ⟨gb648, 3, none⟩ = some (.int .u32 a0_3) := (blk_cell BK648.out 3).trans rfl; have hfz23_0 := blk_frozen BK648.out 0; have hfz23_1 := blk_frozen BK648.out 1; have hfz23_2 := blk_frozen BK648.out 2; have hfz23_3 := blk_frozen BK648.out 3) | ((with_reducible refine gate_callee (f := 68) rfl ?_); refine goesL_ (some 37) rfl rfl Tryd.func68 (by kernel_rfl) rfl #[.int .u32 (Go.bits .andNot .u32 t650 (ji9))] rfl (by (try simp only [List.map_toArray, List.map_cons, List.map_nil]); first | done | (simp only [hji9]; rfl) | rfl | (simp only [List.length_drop, List.length_take]; rfl)) ?_; (with_reducible refine (cpuset_List.calls (Go.bits .andNot .u32 t650 (ji9)) t655 _ ?tb A12.out).mono ?_); (case tb => exact HT.out.step (by repeat (first | (with_reducible first | exact HB.out | apply below_alloc | apply pw_below_drewN | apply below_drew1 | refine below_set ?_ GE648.out) | exact HB.out))); rintro e w24 ⟨v656, rfl, ho0, hb⟩; refine ⟨_, rfl, ?_⟩; have n0_ := Aside0.mk (Kd.R_elder' (by (with_reducible repeat (first | apply Kd.R_alloc | apply Kd.R_drewN | apply Kd.R_drew)); exact HO654.out) (Kd.R_base ho0) hb); have n1_ := Aside0.mk (Kd.R_lower (Kd.R_new' ho0 (Kd.R_lt (by (with_reducible repeat (first | apply Kd.R_alloc | apply Kd.R_drewN | apply Kd.R_drew)); exact HO654.out))) (below_size (by repeat (first | (with_reducible first | exact HB.out | apply below_alloc | apply pw_below_drewN | apply below_drew1 | refine below_set ?_ GE648.out) | exact HB.out)))); have n2_ := Aside0.mk (blk_below (g := gb648) (o := .cells #[.int .i64 a0_0, .int .i64 a0_1, .int .u32 a0_2, .int .u32 a0_3] 36 (0, 0)) (by (with_reducible repeat (first | refine blk_drewN ?_ _ | refine blk_drew ?_ | refine blk_alloc ?_ _)); exact BK648.out) hb); have n3_ := Aside0.mk (below_step (by repeat (first | (with_reducible first | exact HB.out | apply below_alloc | apply pw_below_drewN | apply below_drew1 | refine below_set ?_ GE648.out) | exact HB.out)) hb); clear HO654; clear BK648; clear HB; have HO654 := n0_; have HO657 := n1_; have BK648 := n2_; have HB := n3_; clear n0_ n1_ n2_ n3_; (try clear hb); (try clear hb2); (try clear hk); (try clear hi); (try clear ho0); obtain ⟨Ao26, co26, eo26⟩ := Kd.R_slice HO657.out; subst eo26) | ((with_reducible refine gate_builtin (b := .append) (xs := #[.tmp 35, .tmp 37]) rfl ?_); at_builtin; refine Kd.R_append_rows (Kd.int .i64) (w0 := w) w.heap.size rfl (.tmp 35) (.tmp 37) 42 3 (.int .i64 0) 8 rfl Tryd.underlying42 info3 rfl (by decide) (by omega) v653 y652 t655 _ _ _ (fun k_ => some k_ ≠ (.slice Ao26 t655.length co26 : Value).ownBlock) (fun _ => False) rfl rfl ?aO ?aR (fun _ _ h => h) (fun _ h => h.elim) ?aF ?aB ?aS ?aL ?_; (case aR => repeat (first | exact (Kd.R_reads' HO657.out).2.2 | (with_reducible refine Kd.C_alloc ?_ _) | (with_reducible refine Kd.C_drewN ?_ _) | (with_reducible refine Kd.C_drew ?_))); (case aB => exact (by repeat (first | (with_reducible first | exact HB.out | apply below_alloc | apply pw_below_drewN | apply below_drew1 | refine below_set ?_ GE648.out) | exact HB.out))); (case aF => exact (fun k_ hk => Kd.fresh' (Kd.R_lt (by (with_reducible repeat (first | apply Kd.R_alloc | apply Kd.R_drewN | apply Kd.R_drew)); exact HO657.out)) k_ hk)); (case aO => exact (by (with_reducible repeat (first | apply Kd.R_alloc | apply Kd.R_drewN | apply Kd.R_drew)); exact Kd.R_mono HO654.out (fun _ hk => hk.2))); (case aS => exact (below_size (by repeat (first | (with_reducible first | exact HB.out | apply below_alloc | apply pw_below_drewN | apply below_drew1 | refine below_set ?_ GE648.out) | exact HB.out)))); (case aL => have := LMc13.out; omega); intro v659 w25 ho hb hg hat; rw [← Ny658.out] at ho; have n0_ := Aside0.mk (blk_grown (g := gb648) (o := .cells #[.int .i64 a0_0, .int .i64 a0_1, .int .u32 a0_2, .int .u32 a0_3] 36 (0, 0)) (by (with_reducible repeat (first | refine blk_drewN ?_ _ | refine blk_drew ?_ | refine blk_alloc ?_ _)); exact BK648.out) hg (Kd.R_ne HO654.out BK648.out (by decide))); have n1_ := Aside0.mk (Kd.R_after (ok := (fun _ => True)) (by (with_reducible repeat (first | apply Kd.R_alloc | apply Kd.R_drewN | apply Kd.R_drew)); exact HO657.out) hg hat); have n2_ := Aside0.mk (hb); have n3_ := Aside0.mk (ho); clear BK648; clear HO657; clear HB; clear HO654; have BK648 := n0_; have HO657 := n1_; have HB := n2_; have HO660 := n3_; clear n0_ n1_ n2_ n3_; clear ho hb hg hat) | ((with_reducible refine gate_callee (f := 68) rfl ?_); refine goesL_ (some 43) rfl rfl Tryd.func68 (by kernel_rfl) rfl #[.int .u32 (Go.bits .andNot .u32 (Go.bits .andNot .u32 t649 (ji9)) (Go.bits .andNot .u32 t650 (ji9)))] rfl (by (try simp only [List.map_toArray, List.map_cons, List.map_nil]); first | done | (simp only [hji9]; rfl) | rfl | (simp only [List.length_drop, List.length_take]; rfl)) ?_; (with_reducible refine (cpuset_List.calls (Go.bits .andNot .u32 (Go.bits .andNot .u32 t649 (ji9)) (Go.bits .andNot .u32 t650 (ji9))) t661 _ ?tb A14.out).mono ?_); (case tb => exact HT.out.step (by repeat (first | (with_reducible first | exact HB.out | apply below_alloc | apply pw_below_drewN | apply below_drew1 | refine below_set ?_ GE648.out) | exact HB.out))); rintro e w27 ⟨v662, rfl, ho0, hb⟩; refine ⟨_, rfl, ?_⟩; have n0_ := Aside0.mk (Kd.R_elder' (by (with_reducible repeat (first | apply Kd.R_alloc | apply Kd.R_drewN | apply Kd.R_drew)); exact HO657.out) (Kd.R_base ho0) hb); have n1_ := Aside0.mk (Kd.R_elder' (by (with_reducible repeat (first | apply Kd.R_alloc | apply Kd.R_drewN | apply Kd.R_drew)); exact HO660.out) (Kd.R_base ho0) hb); have n2_ := Aside0.mk (Kd.R_lower (Kd.R_new' (Kd.R_new' ho0 (Kd.R_lt (by (with_reducible repeat (first | apply Kd.R_alloc | apply Kd.R_drewN | apply Kd.R_drew)); exact HO657.out))) (Kd.R_lt (by (with_reducible repeat (first | apply Kd.R_alloc | apply Kd.R_drewN | apply Kd.R_drew)); exact HO660.out))) (below_size (by repeat (first | (with_reducible first | exact HB.out | apply below_alloc | apply pw_below_drewN | apply below_drew1 | refine below_set ?_ GE648.out) | exact HB.out)))); have n3_ := Aside0.mk (blk_below (g := gb648) (o := .cells #[.int .i64 a0_0, .int .i64 a0_1, .int .u32 a0_2, .int .u32 a0_3] 36 (0, 0)) (by (with_reducible repeat (first | refine blk_drewN ?_ _ | refine blk_drew ?_ | refine blk_alloc ?_ _)); exact BK648.out) hb); have n4_ := Aside0.mk (below_step (by repeat (first | (with_reducible first | exact HB.out | apply below_alloc | apply pw_below_drewN | apply below_drew1 | refine below_set ?_ GE648.out) | exact HB.out)) hb); clear HO657; clear HO660; clear BK648; clear HB; have HO657 := n0_; have HO660 := n1_; have HO663 := n2_; have BK648 := n3_; have HB := n4_; clear n0_ n1_ n2_ n3_ n4_; (try clear hb); (try clear hb2); (try clear hk); (try clear hi); (try clear ho0); obtain ⟨Ao29, co29, eo29⟩ := Kd.R_slice HO663.out; subst eo29) | ((with_reducible refine gate_builtin (b := .append) (xs := #[.tmp 39, .tmp 43]) rfl ?_); at_builtin; refine Kd.R_append_rows (Kd.int .i64) (w0 := w) w.heap.size rfl (.tmp 39) (.tmp 43) 42 3 (.int .i64 0) 8 rfl Tryd.underlying42 info3 rfl (by decide) (by omega) v659 y658 t661 _ _ _ (fun k_ => some k_ ≠ (.slice Ao26 t655.length co26 : Value).ownBlock ∧ some k_ ≠ (.slice Ao29 t661.length co29 : Value).ownBlock) (fun _ => False) rfl rfl ?aO ?aR (fun _ _ h => h) (fun _ h => h.elim) ?aF ?aB ?aS ?aL ?_; (case aR => repeat (first | exact (Kd.R_reads' HO663.out).2.2 | (with_reducible refine Kd.C_alloc ?_ _) | (with_reducible refine Kd.C_drewN ?_ _) | (with_reducible refine Kd.C_drew ?_))); (case aB => exact (by repeat (first | (with_reducible first | exact HB.out | apply below_alloc | apply pw_below_drewN | apply below_drew1 | refine below_set ?_ GE648.out) | exact HB.out))); (case aF => exact (fun k_ hk => ⟨Kd.fresh' (Kd.R_lt (by (with_reducible repeat (first | apply Kd.R_alloc | apply Kd.R_drewN | apply Kd.R_drew)); exact HO657.out)) k_ hk, Kd.fresh' (Kd.R_lt (by (with_reducible repeat (first | apply Kd.R_alloc | apply Kd.R_drewN | apply Kd.R_drew)); exact HO663.out)) k_ hk⟩)); (case aO => exact (by (with_reducible repeat (first | apply Kd.R_alloc | apply Kd.R_drewN | apply Kd.R_drew)); exact HO660.out)); (case aS => exact (below_size (by repeat (first | (with_reducible first | exact HB.out | apply below_alloc | apply pw_below_drewN | apply below_drew1 | refine below_set ?_ GE648.out) | exact HB.out)))); (case aL => have := LMc15.out; omega); intro v665 w28 ho hb hg hat; rw [← Ny664.out] at ho; have n0_ := Aside0.mk (blk_grown (g := gb648) (o := .cells #[.int .i64 a0_0, .int .i64 a0_1, .int .u32 a0_2, .int .u32 a0_3] 36 (0, 0)) (by (with_reducible repeat (first | refine blk_drewN ?_ _ | refine blk_drew ?_ | refine blk_alloc ?_ _)); exact BK648.out) hg (Kd.R_ne HO660.out BK648.out (by decide))); have n1_ := Aside0.mk (Kd.R_after (ok := (fun k_ => some k_ ≠ (.slice Ao29 t661.length co29 : Value).ownBlock)) (by (with_reducible repeat (first | apply Kd.R_alloc | apply Kd.R_drewN | apply Kd.R_drew)); exact Kd.R_mono HO657.out (fun _ hk => ⟨hk.2, hk.1.2⟩)) hg hat); have n2_ := Aside0.mk (Kd.R_after (ok := (fun k_ => some k_ ≠ (.slice Ao26 t655.length co26 : Value).ownBlock)) (by (with_reducible repeat (first | apply Kd.R_alloc | apply Kd.R_drewN | apply Kd.R_drew)); exact Kd.R_mono HO663.out (fun _ hk => ⟨hk.1.2, hk.2⟩)) hg hat); have n3_ := Aside0.mk (hb); have n4_ := Aside0.mk (ho); clear BK648; clear HO657; clear HO663; clear HB; clear HO660; have BK648 := n0_; have HO657 := n1_; have HO663 := n2_; have HB := n3_; have HO666 := n4_; clear n0_ n1_ n2_ n3_ n4_; clear ho hb hg hat))
            go_ret
            exact ⟨_, by first | rfl | (simp [errW_none, errW_some] <;> rfl) | (simp only [← hji9]; first | rfl | (simp [errW_none, errW_some] <;> rfl)) | (simp [*, errW_none, errW_some] <;> rfl), by (with_reducible repeat (first | apply Kd.R_alloc | apply Kd.R_drewN | apply Kd.R_drew)); exact Kd.R_mono HO666.out (fun _ hk => trivial), by repeat (first | (with_reducible first | exact HB.out | apply below_alloc | apply pw_below_drewN | apply below_drew1 | refine below_set ?_ GE648.out) | exact HB.out)⟩
          · rw [if_neg c15] at H
            exact absurd H (by simp)
        · rw [if_neg c13] at H
          exact absurd H (by simp)
      · rw [if_neg c8] at H
        exact absurd H (by simp)
    · rw [if_neg c7] at H
      exact absurd H (by simp)
  · replace c6 := Bool.eq_false_iff.mpr c6
    subst c6
    have H1 : ((cpuset_List.f t650).bind fun t667 => (if ([] : List Int).length + t667.length < 17592186044416 then ((some (([] : List Int) ++ t667 : List Int)).bind fun y670 => ((cpuset_List.f (Go.bits .andNot .u32 t649 t650)).bind fun t673 => (if y670.length + t673.length < 17592186044416 then (some (y670 ++ t673)) else (none)))) else (none))) = some r := by rw [if_neg (show ¬ (false = true) by decide)] at H; exact H
    clear H
    have H := H1
    clear H1
    replace H := Option.bind_eq_some_iff.mp H
    obtain ⟨t667, A300, H⟩ := H
    replace H : (if ([] : List Int).length + t667.length < 17592186044416 then ((some (([] : List Int) ++ t667 : List Int)).bind fun y670 => ((cpuset_List.f (Go.bits .andNot .u32 t649 t650)).bind fun t673 => (if y670.length + t673.length < 17592186044416 then (some (y670 ++ t673)) else (none)))) else (none)) = some r := H
    have A30 := Aside0.mk A300
    clear A300
    by_cases c31 : ([] : List Int).length + t667.length < 17592186044416
    · rw [if_pos c31] at H
      have LMc31 := Aside0.mk c31
      clear c31
      obtain ⟨y670, hy670⟩ : ∃ y_ : List Int, y_ = (([] : List Int) ++ t667) := ⟨_, rfl⟩
      replace H : ((cpuset_List.f (Go.bits .andNot .u32 t649 t650)).bind fun t673 => (if y670.length + t673.length < 17592186044416 then (some (y670 ++ t673)) else (none))) = some r := by first | (rw [hy670]; with_reducible exact H) | (have H2_ := (Option.bind_some _ _).symm.trans H; rw [hy670]; with_reducible exact H2_) | (have H2_ := (Option.bind_some _ _).symm.trans H; with_reducible exact H2_) | with_reducible exact H | (rw [hy670]; exact H) | exact H
      have Ny670 := Aside0.mk hy670
      clear hy670
      replace H := Option.bind_eq_some_iff.mp H
      obtain ⟨t673, A320, H⟩ := H
      replace H : (if y670.length + t673.length < 17592186044416 then (some (y670 ++ t673)) else (none)) = some r := H
      have A32 := Aside0.mk A320
      clear A320
      by_cases c33 : y670.length + t673.length < 17592186044416
      · rw [if_pos c33] at H
        have LMc33 := Aside0.mk c33
        clear c33
        obtain ⟨y676, hy676⟩ : ∃ y_ : List Int, y_ = (y670 ++ t673) := ⟨_, rfl⟩
        replace H : (some y676) = some r := by first | (rw [hy676]; with_reducible exact H) | (have H2_ := (Option.bind_some _ _).symm.trans H; rw [hy676]; with_reducible exact H2_) | (have H2_ := (Option.bind_some _ _).symm.trans H; with_reducible exact H2_) | with_reducible exact H | (rw [hy676]; exact H) | exact H
        have Ny676 := Aside0.mk hy676
        clear hy676
        obtain rfl := Option.some.inj H
        go_enter Tryd.func51, Tryd.ntmps51
        go_wp2_with (first | ((with_reducible refine gate_dst (N := 2) rfl ?_); refine box_event ?hg (N := 2) ?hd (cs := #[.int .i64 a0_0, .int .i64 a0_1, .int .u32 a0_2, .int .u32 a0_3]) (t := 36) ?hr ?_; (case hd => rfl); (case hg => rfl); (case hr => first | (go_simp; done) | (go_simp; rfl)); intro gb648 hg w34 hbox hb; have n0_ := Aside0.mk (below_step (by repeat (first | (with_reducible first | exact HB.out | apply below_alloc | apply pw_below_drewN | apply below_drew1) | exact HB.out)) hb); have n1_ := Aside0.mk (hbox); have n2_ := Aside0.mk ((by rw [hg]; exact (below_size (by repeat (first | (with_reducible first | exact HB.out | apply below_alloc | apply pw_below_drewN | apply below_drew1) | exact HB.out))) : w.heap.size ≤ gb648)); have n3_ := Aside0.mk ((by rw [hg]; exact (below_size (by repeat (first | (with_reducible first | exact HB.out | apply below_alloc | apply pw_below_drewN | apply below_drew1) | exact HB.out))) : w.heap.size ≤ gb648)); clear HB; have HB := n0_; have BK648 := n1_; have GW648 := n2_; have GE648 := n3_; clear n0_ n1_ n2_ n3_; clear hb hbox hg; have hcz35_0 : w34.cell? ⟨gb648, 0, none⟩ = some (.int .i64 a0_0) := (blk_cell BK648.out 0).trans rfl; have hcz35_1 : w34.cell? ⟨gb648, 1, none⟩ = some (.int .i64 a0_1) := (blk_cell BK648.out 1).trans rfl; have hcz35_2 : w34.cell? ⟨gb648, 2, none⟩ = some (.int .u32 a0_2) := (blk_cell BK648.out 2).trans rfl; have hcz35_3 : w34.cell? ⟨gb648, 3, none⟩ = some (.int .u32 a0_3) := (blk_cell BK648.out 3).trans rfl; have hfz35_0 := blk_frozen BK648.out 0; have hfz35_1 := blk_frozen BK648.out 1; have hfz35_2 := blk_frozen BK648.out 2; have hfz35_3 := blk_frozen BK648.out 3) | ((with_reducible refine gate_callee (f := 22) rfl ?_); refine goesL_ (some 11) rfl rfl Tryd.func22 (by kernel_rfl) rfl #[.agg #[.int .u32 a0_2, .int .u32 a0_3], .int .u32 a1] rfl (by (try simp only [List.map_toArray, List.map_cons, List.map_nil]); first | done | rfl | (simp only [List.length_drop, List.length_take]; rfl)) ?_; (with_reducible refine (mask_Allows.calls k a0_2 a0_3 a1 t649 _ A3.out).mono ?_); rintro e w36 ⟨rfl, hb⟩; refine ⟨_, rfl, ?_⟩; have n0_ := Aside0.mk (blk_below (g := gb648) (o := .cells #[.int .i64 a0_0, .int .i64 a0_1, .int .u32 a0_2, .int .u32 a0_3] 36 (0, 0)) (by (with_reducible repeat (first | refine blk_drewN ?_ _ | refine blk_drew ?_ | refine blk_alloc ?_ _)); exact BK648.out) hb); have n1_ := Aside0.mk (below_step (by repeat (first | (with_reducible first | exact HB.out | apply below_alloc | apply pw_below_drewN | apply below_drew1 | refine below_set ?_ GE648.out) | exact HB.out)) hb); clear BK648; clear HB; have BK648 := n0_; have HB := n1_; clear n0_ n1_; (try clear hb); (try clear hb2); (try clear hk); (try clear hi); have hcz37_0 : w36.cell? ⟨gb648, 0, none⟩ = some (.int .i64 a0_0) := (blk_cell BK648.out 0).trans rfl; have hcz37_1 : w36.cell? ⟨gb648, 1, none⟩ = some (.int .i64 a0_1) := (blk_cell BK648.out 1).trans rfl; have hcz37_2 : w36.cell? ⟨gb648, 2, none⟩ = some (.int .u32 a0_2) := (blk_cell BK648.out 2).trans rfl; have hcz37_3 : w36.cell? ⟨gb648, 3, none⟩ = some (.int .u32 a0_3) := (blk_cell BK648.out 3).trans rfl; have hfz37_0 := blk_frozen BK648.out 0; have hfz37_1 := blk_frozen BK648.out 1; have hfz37_2 := blk_frozen BK648.out 2; have hfz37_3 := blk_frozen BK648.out 3) | ((with_reducible refine gate_callee (f := 86) rfl ?_); refine goesL_ (some 15) rfl rfl Tryd.func86 (by kernel_rfl) rfl #[.agg #[.int .u32 a0_2, .int .u32 a0_3], .int .u32 a1] rfl (by (try simp only [List.map_toArray, List.map_cons, List.map_nil]); first | done | rfl | (simp only [List.length_drop, List.length_take]; rfl)) ?_; (with_reducible refine (mask_Likes.calls k a0_2 a0_3 a1 t650 _ A4.out).mono ?_); rintro e w38 ⟨rfl, hb⟩; refine ⟨_, rfl, ?_⟩; have n0_ := Aside0.mk (blk_below (g := gb648) (o := .cells #[.int .i64 a0_0, .int .i64 a0_1, .int .u32 a0_2, .int .u32 a0_3] 36 (0, 0)) (by (with_reducible repeat (first | refine blk_drewN ?_ _ | refine blk_drew ?_ | refine blk_alloc ?_ _)); exact BK648.out) hb); have n1_ := Aside0.mk (below_step (by repeat (first | (with_reducible first | exact HB.out | apply below_alloc | apply pw_below_drewN | apply below_drew1 | refine below_set ?_ GE648.out) | exact HB.out)) hb); clear BK648; clear HB; have BK648 := n0_; have HB := n1_; clear n0_ n1_; (try clear hb); (try clear hb2); (try clear hk); (try clear hi); have hcz39_0 : w38.cell? ⟨gb648, 0, none⟩ = some (.int .i64 a0_0) := (blk_cell BK648.out 0).trans rfl; have hcz39_1 : w38.cell? ⟨gb648, 1, none⟩ = some (.int .i64 a0_1) := (blk_cell BK648.out 1).trans rfl; have hcz39_2 : w38.cell? ⟨gb648, 2, none⟩ = some (.int .u32 a0_2) := (blk_cell BK648.out 2).trans rfl; have hcz39_3 : w38.cell? ⟨gb648, 3, none⟩ = some (.int .u32 a0_3) := (blk_cell BK648.out 3).trans rfl; have hfz39_0 := blk_frozen BK648.out 0; have hfz39_1 := blk_frozen BK648.out 1; have hfz39_2 := blk_frozen BK648.out 2; have hfz39_3 := blk_frozen BK648.out 3) | ((with_reducible refine gate_callee (f := 21) rfl ?_); refine goesL_ (some 19) rfl rfl Tryd.func21 (by kernel_rfl) rfl #[.int .u32 t649, .int .i64 a0_1] rfl (by (try simp only [List.map_toArray, List.map_cons, List.map_nil]); first | done | rfl | (simp only [List.length_drop, List.length_take]; rfl)) ?_; (with_reducible refine (cpuset_Has.calls t649 a0_1 false _ A5.out).mono ?_); rintro e w' ⟨rfl, ⟨nd, rfl⟩⟩; refine ⟨_, rfl, ?_⟩) | ((with_reducible refine gate_callee (f := 68) rfl ?_); refine goesL_ (some 37) rfl rfl Tryd.func68 (by kernel_rfl) rfl #[.int .u32 t650] rfl (by (try simp only [List.map_toArray, List.map_cons, List.map_nil]); first | done | rfl | (simp only [List.length_drop, List.length_take]; rfl)) ?_; (with_reducible refine (cpuset_List.calls t650 t667 _ ?tb A30.out).mono ?_); (case tb => exact HT.out.step (by repeat (first | (with_reducible first | exact HB.out | apply below_alloc | apply pw_below_drewN | apply below_drew1 | refine below_set ?_ GE648.out) | exact HB.out))); rintro e w40 ⟨v668, rfl, ho0, hb⟩; refine ⟨_, rfl, ?_⟩; have n0_ := Aside0.mk (Kd.R_lower ho0 (below_size (by repeat (first | (with_reducible first | exact HB.out | apply below_alloc | apply pw_below_drewN | apply below_drew1 | refine below_set ?_ GE648.out) | exact HB.out)))); have n1_ := Aside0.mk (blk_below (g := gb648) (o := .cells #[.int .i64 a0_0, .int .i64 a0_1, .int .u32 a0_2, .int .u32 a0_3] 36 (0, 0)) (by (with_reducible repeat (first | refine blk_drewN ?_ _ | refine blk_drew ?_ | refine blk_alloc ?_ _)); exact BK648.out) hb); have n2_ := Aside0.mk (below_step (by repeat (first | (with_reducible first | exact HB.out | apply below_alloc | apply pw_below_drewN | apply below_drew1 | refine below_set ?_ GE648.out) | exact HB.out)) hb); clear BK648; clear HB; have HO669 := n0_; have BK648 := n1_; have HB := n2_; clear n0_ n1_ n2_; (try clear hb); (try clear hb2); (try clear hk); (try clear hi); (try clear ho0); obtain ⟨Ao42, co42, eo42⟩ := Kd.R_slice HO669.out; subst eo42) | ((with_reducible refine gate_builtin (b := .append) (xs := #[.tmp 35, .tmp 37]) rfl ?_); at_builtin; refine Kd.R_append_rows (Kd.int .i64) (w0 := w) w.heap.size rfl (.tmp 35) (.tmp 37) 42 3 (.int .i64 0) 8 rfl Tryd.underlying42 info3 rfl (by decide) (by omega) (.slice none 0 0) ([] : List Int) t667 _ _ _ (fun k_ => some k_ ≠ (.slice Ao42 t667.length co42 : Value).ownBlock) (fun _ => False) rfl rfl ?aO ?aR (fun _ _ h => h) (fun _ h => h.elim) ?aF ?aB ?aS ?aL ?_; (case aR => repeat (first | exact (Kd.R_reads' HO669.out).2.2 | (with_reducible refine Kd.C_alloc ?_ _) | (with_reducible refine Kd.C_drewN ?_ _) | (with_reducible refine Kd.C_drew ?_))); (case aB => exact (by repeat (first | (with_reducible first | exact HB.out | apply below_alloc | apply pw_below_drewN | apply below_drew1 | refine below_set ?_ GE648.out) | exact HB.out))); (case aF => exact (fun k_ hk => Kd.fresh' (Kd.R_lt (by (with_reducible repeat (first | apply Kd.R_alloc | apply Kd.R_drewN | apply Kd.R_drew)); exact HO669.out)) k_ hk)); (case aO => exact ((Kd.R_nil _ _ _ _ (fun k_ => some k_ ≠ (.slice Ao42 t667.length co42 : Value).ownBlock)))); (case aS => exact (below_size (by repeat (first | (with_reducible first | exact HB.out | apply below_alloc | apply pw_below_drewN | apply below_drew1 | refine below_set ?_ GE648.out) | exact HB.out)))); (case aL => have := LMc31.out; omega); intro v671 w41 ho hb hg hat; rw [← Ny670.out] at ho; have n0_ := Aside0.mk (blk_grown (g := gb648) (o := .cells #[.int .i64 a0_0, .int .i64 a0_1, .int .u32 a0_2, .int .u32 a0_3] 36 (0, 0)) (by (with_reducible repeat (first | refine blk_drewN ?_ _ | refine blk_drew ?_ | refine blk_alloc ?_ _)); exact BK648.out) hg (by simp [Value.ownBlock])); have n1_ := Aside0.mk (Kd.R_after (Kd.R_apart_nil (by (with_reducible repeat (first | apply Kd.R_alloc | apply Kd.R_drewN | apply Kd.R_drew)); exact HO669.out)) hg hat); have n2_ := Aside0.mk (hb); have n3_ := Aside0.mk (ho); clear BK648; clear HO669; clear HB; have BK648 := n0_; have HO669 := n1_; have HB := n2_; have HO672 := n3_; clear n0_ n1_ n2_ n3_; clear ho hb hg hat) | ((with_reducible refine gate_callee (f := 68) rfl ?_); refine goesL_ (some 43) rfl rfl Tryd.func68 (by kernel_rfl) rfl #[.int .u32 (Go.bits .andNot .u32 t649 t650)] rfl (by (try simp only [List.map_toArray, List.map_cons, List.map_nil]); first | done | rfl | (simp only [List.length_drop, List.length_take]; rfl)) ?_; (with_reducible refine (cpuset_List.calls (Go.bits .andNot .u32 t649 t650) t673 _ ?tb A32.out).mono ?_); (case tb => exact HT.out.step (by repeat (first | (with_reducible first | exact HB.out | apply below_alloc | apply pw_below_drewN | apply below_drew1 | refine below_set ?_ GE648.out) | exact HB.out))); rintro e w43 ⟨v674, rfl, ho0, hb⟩; refine ⟨_, rfl, ?_⟩; have n0_ := Aside0.mk (Kd.R_elder' (by (with_reducible repeat (first | apply Kd.R_alloc | apply Kd.R_drewN | apply Kd.R_drew)); exact HO669.out) (Kd.R_base ho0) hb); have n1_ := Aside0.mk (Kd.R_elder' (by (with_reducible repeat (first | apply Kd.R_alloc | apply Kd.R_drewN | apply Kd.R_drew)); exact HO672.out) (Kd.R_base ho0) hb); have n2_ := Aside0.mk (Kd.R_lower (Kd.R_new' (Kd.R_new' ho0 (Kd.R_lt (by (with_reducible repeat (first | apply Kd.R_alloc | apply Kd.R_drewN | apply Kd.R_drew)); exact HO669.out))) (Kd.R_lt (by (with_reducible repeat (first | apply Kd.R_alloc | apply Kd.R_drewN | apply Kd.R_drew)); exact HO672.out))) (below_size (by repeat (first | (with_reducible first | exact HB.out | apply below_alloc | apply pw_below_drewN | apply below_drew1 | refine below_set ?_ GE648.out) | exact HB.out)))); have n3_ := Aside0.mk (blk_below (g := gb648) (o := .cells #[.int .i64 a0_0, .int .i64 a0_1, .int .u32 a0_2, .int .u32 a0_3] 36 (0, 0)) (by (with_reducible repeat (first | refine blk_drewN ?_ _ | refine blk_drew ?_ | refine blk_alloc ?_ _)); exact BK648.out) hb); have n4_ := Aside0.mk (below_step (by repeat (first | (with_reducible first | exact HB.out | apply below_alloc | apply pw_below_drewN | apply below_drew1 | refine below_set ?_ GE648.out) | exact HB.out)) hb); clear HO669; clear HO672; clear BK648; clear HB; have HO669 := n0_; have HO672 := n1_; have HO675 := n2_; have BK648 := n3_; have HB := n4_; clear n0_ n1_ n2_ n3_ n4_; (try clear hb); (try clear hb2); (try clear hk); (try clear hi); (try clear ho0); obtain ⟨Ao45, co45, eo45⟩ := Kd.R_slice HO675.out; subst eo45) | ((with_reducible refine gate_builtin (b := .append) (xs := #[.tmp 39, .tmp 43]) rfl ?_); at_builtin; refine Kd.R_append_rows (Kd.int .i64) (w0 := w) w.heap.size rfl (.tmp 39) (.tmp 43) 42 3 (.int .i64 0) 8 rfl Tryd.underlying42 info3 rfl (by decide) (by omega) v671 y670 t673 _ _ _ (fun k_ => some k_ ≠ (.slice Ao42 t667.length co42 : Value).ownBlock ∧ some k_ ≠ (.slice Ao45 t673.length co45 : Value).ownBlock) (fun _ => False) rfl rfl ?aO ?aR (fun _ _ h => h) (fun _ h => h.elim) ?aF ?aB ?aS ?aL ?_; (case aR => repeat (first | exact (Kd.R_reads' HO675.out).2.2 | (with_reducible refine Kd.C_alloc ?_ _) | (with_reducible refine Kd.C_drewN ?_ _) | (with_reducible refine Kd.C_drew ?_))); (case aB => exact (by repeat (first | (with_reducible first | exact HB.out | apply below_alloc | apply pw_below_drewN | apply below_drew1 | refine below_set ?_ GE648.out) | exact HB.out))); (case aF => exact (fun k_ hk => ⟨Kd.fresh' (Kd.R_lt (by (with_reducible repeat (first | apply Kd.R_alloc | apply Kd.R_drewN | apply Kd.R_drew)); exact HO669.out)) k_ hk, Kd.fresh' (Kd.R_lt (by (with_reducible repeat (first | apply Kd.R_alloc | apply Kd.R_drewN | apply Kd.R_drew)); exact HO675.out)) k_ hk⟩)); (case aO => exact (by (with_reducible repeat (first | apply Kd.R_alloc | apply Kd.R_drewN | apply Kd.R_drew)); exact HO672.out)); (case aS => exact (below_size (by repeat (first | (with_reducible first | exact HB.out | apply below_alloc | apply pw_below_drewN | apply below_drew1 | refine below_set ?_ GE648.out) | exact HB.out)))); (case aL => have := LMc33.out; omega); intro v677 w44 ho hb hg hat; rw [← Ny676.out] at ho; have n0_ := Aside0.mk (blk_grown (g := gb648) (o := .cells #[.int .i64 a0_0, .int .i64 a0_1, .int .u32 a0_2, .int .u32 a0_3] 36 (0, 0)) (by (with_reducible repeat (first | refine blk_drewN ?_ _ | refine blk_drew ?_ | refine blk_alloc ?_ _)); exact BK648.out) hg (Kd.R_ne HO672.out BK648.out (by decide))); have n1_ := Aside0.mk (Kd.R_after (ok := (fun k_ => some k_ ≠ (.slice Ao45 t673.length co45 : Value).ownBlock)) (by (with_reducible repeat (first | apply Kd.R_alloc | apply Kd.R_drewN | apply Kd.R_drew)); exact Kd.R_mono HO669.out (fun _ hk => ⟨hk.2, hk.1.2⟩)) hg hat); have n2_ := Aside0.mk (Kd.R_after (ok := (fun k_ => some k_ ≠ (.slice Ao42 t667.length co42 : Value).ownBlock)) (by (with_reducible repeat (first | apply Kd.R_alloc | apply Kd.R_drewN | apply Kd.R_drew)); exact Kd.R_mono HO675.out (fun _ hk => ⟨hk.1.2, hk.2⟩)) hg hat); have n3_ := Aside0.mk (hb); have n4_ := Aside0.mk (ho); clear BK648; clear HO669; clear HO675; clear HB; clear HO672; have BK648 := n0_; have HO669 := n1_; have HO675 := n2_; have HB := n3_; have HO678 := n4_; clear n0_ n1_ n2_ n3_ n4_; clear ho hb hg hat))
        go_ret
        exact ⟨_, by first | rfl | (simp [errW_none, errW_some] <;> rfl) | (simp [*, errW_none, errW_some] <;> rfl), by (with_reducible repeat (first | apply Kd.R_alloc | apply Kd.R_drewN | apply Kd.R_drew)); exact Kd.R_mono HO678.out (fun _ hk => trivial), by repeat (first | (with_reducible first | exact HB.out | apply below_alloc | apply pw_below_drewN | apply below_drew1 | refine below_set ?_ GE648.out) | exact HB.out)⟩
      · rw [if_neg c33] at H
        exact absurd H (by simp)
    · rw [if_neg c31] at H
      exact absurd H (by simp)

end Go.Proofs.YtdmieaidheelbaaDoor.Q
end
/- QFpickrows -/
section
-- Written by a program of this session (hprint.py), which drives the kit's print over hand-proved contracts. Lean checks it.
namespace Go.Proofs.YtdmieaidheelbaaDoor.Q
open Go.RowKit Go.Proofs.YtdmieaidheelbaaDoorW.PrintWords Go.Proofs.YtdmieaidheelbaaDoorW.PrintLast Go.Proofs.YtdmieaidheelbaaDoorW.PrintMore
attribute [local go_sem] max2_int min2_int max_two min_two max_three min_three max_four min_four   -- for this text's walks alone
set_option linter.unusedVariables false
set_option linter.unusedSimpArgs false

/-! ### pick_rows: function 106 -/
def pick_rows.l0 : Nat → Int → List (List Int) → List (S36) → Int → Int → Option ((List (List Int)))
  | 0, _, _, _, _, _ => none
  | k + 1, x0, x5, x8, x9, x10 => if x10 < x9 then (if 0 ≤ x10 then (if x10 < (x8.length : Int) then ((pick_Choices.f k ((rd_T36 x8 x10).f0) ((rd_T36 x8 x10).f1) ((rd_T36 x8 x10).f2.f0) ((rd_T36 x8 x10).f2.f1) x0).bind fun t828 => (if x5.length < 5864062014805 then (pick_rows.l0 k x0 (x5 ++ [t828]) x8 x9 (wrap64 (x10 + 1))) else (none))) else (none)) else (none)) else (some x5)
def pick_rows.f (k : Nat) (a0 : Int) (l1 : List (S36)) : Option ((List (List Int))) := pick_rows.l0 k a0 ([] : List (List Int)) l1 (l1.length : Int) 0
theorem pick_rows.mono_l : ∀ k, (∀ y0 y1 y2 y3 y4, LeO (pick_rows.l0 k y0 y1 y2 y3 y4) (pick_rows.l0 (k + 1) y0 y1 y2 y3 y4))
  | 0 => fun _ _ _ _ _ r h => by simp [pick_rows.l0] at h
  | k + 1 => by
    have ih0 := pick_rows.mono_l k
    · intro y0 y1 y2 y3 y4
      unfold pick_rows.l0
      repeat' first
      | (with_reducible exact ih0 _ _ _ _ _)
      | (with_reducible exact pick_Choices.mono _ _ _ _ _ _)
      | (with_reducible exact LeO.refl _)
      | (with_reducible exact LeO.none _)
      | (with_reducible refine LeO.ite ?_ ?_)
      | (with_reducible refine LeO.bind ?_ (fun _ => ?_))
      | exact ih0 _ _ _ _ _
      | exact pick_Choices.mono _ _ _ _ _ _
      | exact LeO.none _
      | refine LeO.ite ?_ ?_
      | refine LeO.bind ?_ (fun _ => ?_)
theorem pick_rows.mono : ∀ a0 a1 k, LeO (pick_rows.f k a0 a1) (pick_rows.f (k + 1) a0 a1) := by
  intro a0 a1 k
  have ih0 := pick_rows.mono_l k
  unfold pick_rows.f
  repeat' first
      | (with_reducible exact ih0 _ _ _ _ _)
      | (with_reducible exact pick_Choices.mono _ _ _ _ _ _)
      | (with_reducible exact LeO.refl _)
      | (with_reducible exact LeO.none _)
      | (with_reducible refine LeO.ite ?_ ?_)
      | (with_reducible refine LeO.bind ?_ (fun _ => ?_))
      | exact ih0 _ _ _ _ _
      | exact pick_Choices.mono _ _ _ _ _ _
      | exact LeO.none _
      | refine LeO.ite ?_ ?_
      | refine LeO.bind ?_ (fun _ => ?_)
set_option maxHeartbeats 8000000 in
set_option maxRecDepth 100000 in
theorem pick_rows.calls (k : Nat) (a0 : Int) (A1 : Option Addr) (c1 : Nat) (l1 : List (S36)) (r : List (List Int)) (w : World) (hr1 : Kd.C k36 w A1 l1.length l1) (hc1 : l1.length ≤ c1) (hT : TabW w) (h : pick_rows.f k a0 l1 = some r) :
    Calls Tryd.prog 106 #[.int .u32 a0, .slice A1 l1.length c1] w fun e w' => ∃ v0_ : Value, e = .returned (v0_) ∧ Kd.S (Kd.slice 3 (Kd.int .i64)) 42 w' w.heap.size (fun _ => True) v0_ r ∧ Below w.heap.size w w' := by
  have HT := Aside0.mk hT
  clear hT
  have hu36 := Tryd.underlying36
  have HR1 := Aside0.mk hr1
  have HC1 := Aside0.mk hc1
  clear hr1 hc1
  have HB := Aside0.mk (Below.refl w.heap.size w)
  have H : (pick_rows.l0 k a0 ([] : List (List Int)) l1 (l1.length : Int) 0) = some r := h
  clear h
  have H' := Aside0.mk H
  clear H
  go_enter Tryd.func106, Tryd.ntmps106
  go_wp2
  go_loopg [5, 10] k (fun kq v5 v10 w' => ∃ (x5_1 : List (List Int)) (x10_1 : Int), v10 = .int .i64 x10_1 ∧ Aside0 (pick_rows.l0 kq a0 x5_1 l1 (l1.length : Int) x10_1 = some r) ∧ Aside0 (kq ≤ k) ∧ Aside0 (Kd.S (Kd.slice 3 (Kd.int .i64)) 42 w' w.heap.size (fun _ => True) v5 x5_1) ∧ Aside0 (Below w.heap.size w w'))
  case atStart => exact ⟨(([] : List (List Int))), (0), (by first | rfl | (simp; done) | (simp [*]; done)), H', ⟨Nat.le_refl _⟩, ⟨by first | exact Kd.S_nil _ _ _ _ _ | exact Kd.N_nil _ _ _ _ _ | exact Kd.V_nil _ _ _ _ _ | exact Kd.Q_nil _ _ _ _ _ | exact Kd.R_nil _ _ _ _ _⟩, ⟨by repeat (first | (with_reducible first | exact HB.out | apply below_alloc | apply pw_below_drewN | apply below_drew1) | exact HB.out)⟩⟩
  case round =>
    clear H'
    try clear c1
    try clear p2
    obtain ⟨x5_1, x10_1, rfl, HA, HK1, HO_5, HB⟩ := hrel
    cases gk with
    | zero => exact absurd HA.out (by simp [pick_rows.l0])
    | succ k1 =>
      have H := HA.out
      clear HA
      simp only [pick_rows.l0] at H
      by_cases c3 : x10_1 < (l1.length : Int)
      · rw [if_pos c3] at H
        have c3b0 : decide (x10_1 < (l1.length : Int)) = true := decide_eq_true c3
        clear c3
        by_cases c4 : 0 ≤ x10_1
        · rw [if_pos c4] at H
          have c4b0 : decide (0 ≤ x10_1) = true := decide_eq_true c4
          clear c4
          by_cases c5 : x10_1 < (l1.length : Int)
          · rw [if_pos c5] at H
            have c5b0 : decide (x10_1 < (l1.length : Int)) = true := decide_eq_true c5
            clear c5
            replace H := Option.bind_eq_some_iff.mp H
            obtain ⟨t828, A60, H⟩ := H
            replace H : (if x5_1.length < 5864062014805 then (pick_rows.l0 k1 a0 (x5_1 ++ [t828]) l1 (l1.length : Int) (wrap64 (x10_1 + 1))) else (none)) = some r := H
            have A6 := Aside0.mk A60
            clear A60
            by_cases c7 : x5_1.length < 5864062014805
            · rw [if_pos c7] at H
              have LMc7 := Aside0.mk c7
              clear c7
              obtain ⟨y831, hy831⟩ : ∃ y_ : List (List Int), y_ = (x5_1 ++ [t828]) := ⟨_, rfl⟩
              replace H : (pick_rows.l0 k1 a0 y831 l1 (l1.length : Int) (wrap64 (x10_1 + 1))) = some r := by first | (rw [hy831]; with_reducible exact H) | (have H2_ := (Option.bind_some _ _).symm.trans H; rw [hy831]; with_reducible exact H2_) | (have H2_ := (Option.bind_some _ _).symm.trans H; with_reducible exact H2_) | with_reducible exact H | (rw [hy831]; exact H) | exact H
              have Ny831 := Aside0.mk hy831
              clear hy831
              have H' := Aside0.mk H
              clear H
              have p826 : 0 ≤ (x10_1 : Int) := of_decide_eq_true (by first | (with_reducible assumption) | assumption)
              have q826 : x10_1 < (l1.length : Int) := of_decide_eq_true (by first | (with_reducible assumption) | assumption)
              obtain ⟨ad826, e826, hx826_0, hx826_1, hx826_2, hx826_3⟩ := at_T36 HR1.out x10_1 p826 q826
              cases e826
              replace hx826_0 := (HB.out.cell (World.block_lt_of_cell? w _ hx826_0)).trans hx826_0
              replace hx826_1 := (HB.out.cell (World.block_lt_of_cell? w _ hx826_1)).trans hx826_1
              replace hx826_2 := (HB.out.cell (World.block_lt_of_cell? w _ hx826_2)).trans hx826_2
              replace hx826_3 := (HB.out.cell (World.block_lt_of_cell? w _ hx826_3)).trans hx826_3
              replace p826 := eq_true p826
              replace q826 := eq_true q826
              go_wp2_with (first | ((with_reducible refine gate_dst (N := 7) rfl ?_); refine box_event ?hg (N := 7) ?hd (cs := #[.int .i64 0, .int .i64 0, .int .u32 0, .int .u32 0]) (t := 36) ?hr ?_; (case hd => rfl); (case hg => rfl); (case hr => first | (go_simp; done) | (go_simp; rfl)); intro gb827 hg w8 hbox hb; have n0_ := Aside0.mk (Kd.S_below (by (with_reducible repeat (first | apply Kd.S_alloc | apply Kd.S_drewN | apply Kd.S_drew)); exact HO_5.out) hb); have n1_ := Aside0.mk (below_step (by repeat (first | (with_reducible first | exact HB.out | apply below_alloc | apply pw_below_drewN | apply below_drew1) | exact HB.out)) hb); have n2_ := Aside0.mk (hbox); have n3_ := Aside0.mk ((by rw [hg]; exact (below_size (by repeat (first | (with_reducible first | exact HB.out | apply below_alloc | apply pw_below_drewN | apply below_drew1) | exact HB.out))) : w.heap.size ≤ gb827)); have n4_ := Aside0.mk ((by rw [hg]; exact (below_size (by repeat (first | (with_reducible first | exact HB.out | apply below_alloc | apply pw_below_drewN | apply below_drew1) | exact HB.out))) : w.heap.size ≤ gb827)); clear HO_5; clear HB; have HO_5 := n0_; have HB := n1_; have BK827 := n2_; have GW827 := n3_; have GE827 := n4_; clear n0_ n1_ n2_ n3_ n4_; clear hb hbox hg; have hcz9_0 : w8.cell? ⟨gb827, 0, none⟩ = some (.int .i64 0) := (blk_cell BK827.out 0).trans rfl; have hcz9_1 : w8.cell? ⟨gb827, 1, none⟩ = some (.int .i64 0) := (blk_cell BK827.out 1).trans rfl; have hcz9_2 : w8.cell? ⟨gb827, 2, none⟩ = some (.int .u32 0) := (blk_cell BK827.out 2).trans rfl; have hcz9_3 : w8.cell? ⟨gb827, 3, none⟩ = some (.int .u32 0) := (blk_cell BK827.out 3).trans rfl; have hfz9_0 := blk_frozen BK827.out 0; have hfz9_1 := blk_frozen BK827.out 1; have hfz9_2 := blk_frozen BK827.out 2; have hfz9_3 := blk_frozen BK827.out 3) | ((with_reducible refine gate_callee (f := 51) rfl ?_); refine goesL_ (some 17) rfl rfl Tryd.func51 (by kernel_rfl) rfl #[.agg #[.int .i64 ((rd_T36 l1 x10_1).f0), .int .i64 ((rd_T36 l1 x10_1).f1), .int .u32 ((rd_T36 l1 x10_1).f2.f0), .int .u32 ((rd_T36 l1 x10_1).f2.f1)], .int .u32 a0] rfl (by (try simp only [List.map_toArray, List.map_cons, List.map_nil]); first | done | rfl | (simp only [List.length_drop, List.length_take]; rfl)) ?_; (with_reducible refine (pick_Choices.calls k1 ((rd_T36 l1 x10_1).f0) ((rd_T36 l1 x10_1).f1) ((rd_T36 l1 x10_1).f2.f0) ((rd_T36 l1 x10_1).f2.f1) a0 t828 _ ?tb A6.out).mono ?_); (case tb => exact HT.out.step (by repeat (first | (with_reducible first | exact HB.out | apply below_alloc | apply pw_below_drewN | apply below_drew1 | refine below_set ?_ GE827.out) | exact HB.out))); rintro e w10 ⟨v829, rfl, ho0, hb⟩; refine ⟨_, rfl, ?_⟩; have n0_ := Aside0.mk (Kd.S_elder' (by (with_reducible repeat (first | apply Kd.S_alloc | apply Kd.S_drewN | apply Kd.S_drew)); exact (Kd.S_mono (Kd.S_far (p := ⟨gb827, 3, none⟩) (Kd.S_far (p := ⟨gb827, 2, none⟩) (Kd.S_far (p := ⟨gb827, 1, none⟩) (Kd.S_far (p := ⟨gb827, 0, none⟩) (Kd.S_types HO_5.out BK827.out (by decide)) (fun _ hk => hk.2) (.int .i64 ((rd_T36 l1 x10_1).f0))) (fun _ hk => hk.2) (.int .i64 ((rd_T36 l1 x10_1).f1))) (fun _ hk => hk.2) (.int .u32 ((rd_T36 l1 x10_1).f2.f0))) (fun _ hk => hk.2) (.int .u32 ((rd_T36 l1 x10_1).f2.f1))) (fun _ h_ => h_.1))) (Kd.R_base ho0) hb); have n1_ := Aside0.mk (Kd.R_lower ho0 (below_size (by repeat (first | (with_reducible first | exact HB.out | apply below_alloc | apply pw_below_drewN | apply below_drew1 | refine below_set ?_ GE827.out) | exact HB.out)))); have n2_ := Aside0.mk (blk_below (g := gb827) (o := .cells #[.int .i64 ((rd_T36 l1 x10_1).f0), .int .i64 ((rd_T36 l1 x10_1).f1), .int .u32 ((rd_T36 l1 x10_1).f2.f0), .int .u32 ((rd_T36 l1 x10_1).f2.f1)] 36 (0, 0)) (by (with_reducible repeat (first | refine blk_drewN ?_ _ | refine blk_drew ?_ | refine blk_alloc ?_ _)); refine blk_put (cs := #[.int .i64 ((rd_T36 l1 x10_1).f0), .int .i64 ((rd_T36 l1 x10_1).f1), .int .u32 ((rd_T36 l1 x10_1).f2.f0), .int .u32 0]) ?_ 3 _ rfl; (with_reducible repeat (first | refine blk_drewN ?_ _ | refine blk_drew ?_ | refine blk_alloc ?_ _)); refine blk_put (cs := #[.int .i64 ((rd_T36 l1 x10_1).f0), .int .i64 ((rd_T36 l1 x10_1).f1), .int .u32 0, .int .u32 0]) ?_ 2 _ rfl; (with_reducible repeat (first | refine blk_drewN ?_ _ | refine blk_drew ?_ | refine blk_alloc ?_ _)); refine blk_put (cs := #[.int .i64 ((rd_T36 l1 x10_1).f0), .int .i64 0, .int .u32 0, .int .u32 0]) ?_ 1 _ rfl; (with_reducible repeat (first | refine blk_drewN ?_ _ | refine blk_drew ?_ | refine blk_alloc ?_ _)); refine blk_put (cs := #[.int .i64 0, .int .i64 0, .int .u32 0, .int .u32 0]) ?_ 0 _ rfl; (with_reducible repeat (first | refine blk_drewN ?_ _ | refine blk_drew ?_ | refine blk_alloc ?_ _)); exact BK827.out) hb); have n3_ := Aside0.mk (below_step (by repeat (first | (with_reducible first | exact HB.out | apply below_alloc | apply pw_below_drewN | apply below_drew1 | refine below_set ?_ GE827.out) | exact HB.out)) hb); clear HO_5; clear BK827; clear HB; have HO_5 := n0_; have HO830 := n1_; have BK827 := n2_; have HB := n3_; clear n0_ n1_ n2_ n3_; (try clear hb); (try clear hb2); (try clear hk); (try clear hi); (try clear ho0); obtain ⟨Ao12, co12, eo12⟩ := Kd.R_slice HO830.out; subst eo12) | ((with_reducible refine gate_builtin (b := .append) (xs := #[.tmp 14, .tmp 18]) rfl ?_); at_builtin; refine Kd.S_append (Kd.slice 3 (Kd.int .i64)) (w0 := w) w.heap.size rfl (.tmp 14) (.tmp 18) 141 42 (.slice none 0 0) 24 rfl Tryd.underlying141 info42 rfl (by decide) (by omega) u5 x5_1 t828 [.slice Ao12 t828.length co12] (fun _ => True) (fun k_ => some k_ = (.slice Ao12 t828.length co12 : Value).ownBlock) rfl rfl ?aP (fun k_ hk_ => ((Kd.R_mono (ok' := fun k_ => ((fun _ => True)) k_ ∧ some k_ ≠ (u5 : Value).ownBlock) (Kd.R_apart' (HO830.out) (Kd.S_typed HO_5.out) (by decide)) (fun k_ hk => ⟨trivial, hk.2⟩))).1 k_ hk_.symm) ?aF ?aO ?aB ?aS ?aL ?_; (case aP => exact Kd.M_row (Kd.R_mono (Kd.R_tight rfl (Kd.R_mono (ok' := fun k_ => ((fun _ => True)) k_ ∧ some k_ ≠ (u5 : Value).ownBlock) (Kd.R_apart' (HO830.out) (Kd.S_typed HO_5.out) (by decide)) (fun k_ hk => ⟨trivial, hk.2⟩))) (fun _ h_ => h_))); (case aB => exact (by repeat (first | (with_reducible first | exact HB.out | apply below_alloc | apply pw_below_drewN | apply below_drew1 | refine below_set ?_ GE827.out) | exact HB.out))); (case aF => exact (fun _ _ => trivial)); (case aO => exact (by (with_reducible repeat (first | apply Kd.S_alloc | apply Kd.S_drewN | apply Kd.S_drew)); exact Kd.S_mono HO_5.out (fun k_ hk => ⟨trivial, fun e_ => hk.2 e_⟩))); (case aS => exact (below_size (by repeat (first | (with_reducible first | exact HB.out | apply below_alloc | apply pw_below_drewN | apply below_drew1 | refine below_set ?_ GE827.out) | exact HB.out)))); (case aL => have := LMc7.out; omega); intro v832 w11 ho hb hg hat; rw [← Ny831.out] at ho; have n0_ := Aside0.mk (blk_grown (g := gb827) (o := .cells #[.int .i64 ((rd_T36 l1 x10_1).f0), .int .i64 ((rd_T36 l1 x10_1).f1), .int .u32 ((rd_T36 l1 x10_1).f2.f0), .int .u32 ((rd_T36 l1 x10_1).f2.f1)] 36 (0, 0)) (by (with_reducible repeat (first | refine blk_drewN ?_ _ | refine blk_drew ?_ | refine blk_alloc ?_ _)); exact BK827.out) hg (Kd.S_ne HO_5.out BK827.out (by decide))); have n1_ := Aside0.mk (hb); have n2_ := Aside0.mk (ho); clear BK827; clear HB; clear HO_5; clear HO830; have BK827 := n0_; have HB := n1_; have HO833 := n2_; clear n0_ n1_ n2_; clear ho hb hg hat))
              go_roundg k1
              case measure => have := HK1.out; omega
              case rel => exact ⟨(y831), (wrap64 (x10_1 + 1)), (by first | rfl | (simp; done) | (simp [*]; done)), H', ⟨by have := HK1.out; omega⟩, ⟨by (with_reducible repeat (first | apply Kd.S_alloc | apply Kd.S_drewN | apply Kd.S_drew)); exact HO833.out⟩, ⟨by repeat (first | (with_reducible first | exact HB.out | apply below_alloc | apply pw_below_drewN | apply below_drew1 | refine below_set ?_ GE827.out) | exact HB.out)⟩⟩
            · rw [if_neg c7] at H
              exact absurd H (by simp)
          · rw [if_neg c5] at H
            exact absurd H (by simp)
        · rw [if_neg c4] at H
          exact absurd H (by simp)
      · rw [if_neg c3] at H
        have c3b0 : decide (x10_1 < (l1.length : Int)) = false := decide_eq_false c3
        clear c3
        obtain rfl := Option.some.inj H
        go_wp2
        go_ret
        exact ⟨_, by first | rfl | (simp [errW_none, errW_some] <;> rfl) | (simp [*, errW_none, errW_some] <;> rfl), by (with_reducible repeat (first | apply Kd.S_alloc | apply Kd.S_drewN | apply Kd.S_drew)); exact HO_5.out, by repeat (first | (with_reducible first | exact HB.out | apply below_alloc | apply pw_below_drewN | apply below_drew1) | exact HB.out)⟩

end Go.Proofs.YtdmieaidheelbaaDoor.Q
end
/- QFpicktakes -/
section
-- Written by a program of this session (hprint.py), which drives the kit's print over hand-proved contracts. Lean checks it.
namespace Go.Proofs.YtdmieaidheelbaaDoor.Q
open Go.RowKit Go.Proofs.YtdmieaidheelbaaDoorW.PrintWords Go.Proofs.YtdmieaidheelbaaDoorW.PrintLast Go.Proofs.YtdmieaidheelbaaDoorW.PrintMore
attribute [local go_sem] max2_int min2_int max_two min_two max_three min_three max_four min_four   -- for this text's walks alone
set_option linter.unusedVariables false
set_option linter.unusedSimpArgs false

/-! ### pick_takes: function 91 -/
def pick_takes.f (k : Nat) (l0 : List (S36)) (a1 : Int) : Option (List Int × Bool) := if (l0.length : Int) > 1 then ((pick_rows.f k a1 l0).bind fun t834 => ((gang_Match.f k t834).bind fun bt837 => (some (bt837.1, bt837.2)))) else (if 0 < (l0.length : Int) then ((mask_Best.f k ((rd_T36 l0 0).f2.f0) ((rd_T36 l0 0).f2.f1) a1 ((rd_T36 l0 0).f1)).bind fun bt843 => (some ((([bt843.1] : List Int)), bt843.2))) else (none))
theorem pick_takes.mono : ∀ a0 a1 k, LeO (pick_takes.f k a0 a1) (pick_takes.f (k + 1) a0 a1) := by
  intro a0 a1 k
  unfold pick_takes.f
  repeat' first
      | (with_reducible exact gang_Match.mono _ _)
      | (with_reducible exact mask_Best.mono _ _ _ _ _)
      | (with_reducible exact pick_rows.mono _ _ _)
      | (with_reducible exact LeO.refl _)
      | (with_reducible exact LeO.none _)
      | (with_reducible refine LeO.ite ?_ ?_)
      | (with_reducible refine LeO.bind ?_ (fun _ => ?_))
      | exact gang_Match.mono _ _
      | exact mask_Best.mono _ _ _ _ _
      | exact pick_rows.mono _ _ _
      | exact LeO.none _
      | refine LeO.ite ?_ ?_
      | refine LeO.bind ?_ (fun _ => ?_)
def pick_takes.T3 : Bool × List (List Nat × List Nat) := (true, [([], []), ([0], [0]), ([1], [1]), ([2], [2]), ([], []), ([], []), ([5], [5]), ([6], [6]), ([7], [7]), ([3, 4, 8], [3, 4, 8]), ([9], [9]), ([10], [10]), ([10], [10]), ([11, 9, 0, 1, 2, 3, 4, 5, 6, 7, 8, 9, 10, 11], [11]), ([12, 13, 0, 1, 2, 3, 4, 5, 6, 7, 8, 9, 10, 11, 12, 13], [12])])
def pick_takes.B3 : List Nat := [0, 1, 3, 7, 0, 0, 32, 96, 224, 511, 1023, 2047, 2047, 4095, 16383]
theorem pick_takes.tab3 : rtab .any (opsOf Tryd.f91 3) = pick_takes.T3 := by kernel_rfl
theorem pick_takes.bits3 : waitsOk pick_takes.T3.2 pick_takes.B3 = true := by kernel_rfl
set_option maxHeartbeats 8000000 in
set_option maxRecDepth 100000 in
theorem pick_takes.calls (k : Nat) (A0 : Option Addr) (c0 : Nat) (l0 : List (S36)) (a1 : Int) (r1 : List Int) (r2 : Bool) (w : World) (hr0 : Kd.C k36 w A0 l0.length l0) (hc0 : l0.length ≤ c0) (hT : TabW w) (h : pick_takes.f k l0 a1 = some (r1, r2)) :
    Calls Tryd.prog 91 #[.slice A0 l0.length c0, .int .u32 a1] w fun e w' => ∃ v0_ : Value, e = .returned (.tuple #[v0_, .bool r2]) ∧ Kd.R (Kd.int .i64) 3 w' w.heap.size (fun _ => True) v0_ r1 ∧ Below w.heap.size w w' := by
  have HT := Aside0.mk hT
  clear hT
  have hu34 := Tryd.underlying34
  have HR0 := Aside0.mk hr0
  have HC0 := Aside0.mk hc0
  clear hr0 hc0
  have HB := Aside0.mk (Below.refl w.heap.size w)
  have H : (if (l0.length : Int) > 1 then ((pick_rows.f k a1 l0).bind fun t834 => ((gang_Match.f k t834).bind fun bt837 => (some (bt837.1, bt837.2)))) else (if 0 < (l0.length : Int) then ((mask_Best.f k ((rd_T36 l0 0).f2.f0) ((rd_T36 l0 0).f2.f1) a1 ((rd_T36 l0 0).f1)).bind fun bt843 => (some ((([bt843.1] : List Int)), bt843.2))) else (none))) = some (r1, r2) := h
  clear h
  by_cases c3 : (l0.length : Int) > 1
  · rw [if_pos c3] at H
    have c3b0 : decide (1 < (l0.length : Int)) = true := decide_eq_true c3
    have c3b1 : decide (1 < l0.length) = true := decide_eq_true (by omega)
    clear c3
    replace H := Option.bind_eq_some_iff.mp H
    obtain ⟨t834, A40, H⟩ := H
    replace H : ((gang_Match.f k t834).bind fun bt837 => (some (bt837.1, bt837.2))) = some (r1, r2) := H
    have A4 := Aside0.mk A40
    clear A40
    replace H := Option.bind_eq_some_iff.mp H
    obtain ⟨⟨t837, t838⟩, A50, H⟩ := H
    replace H : (some (t837, t838)) = some (r1, r2) := H
    have A5 := Aside0.mk A50
    clear A50
    simp only [Option.some.injEq, Prod.mk.injEq] at H
    obtain ⟨rfl, rfl⟩ := H
    go_enter Tryd.func91, Tryd.ntmps91
    go_wp2_with (first | ((with_reducible refine gate_callee (f := 106) rfl ?_); refine goesL_ (some 13) rfl rfl Tryd.func106 (by kernel_rfl) rfl #[.int .u32 a1, .slice A0 l0.length c0] rfl (by (try simp only [List.map_toArray, List.map_cons, List.map_nil]); first | done | rfl | (simp only [List.length_drop, List.length_take]; rfl)) ?_; (with_reducible refine (pick_rows.calls k a1 _ _ l0 t834 _ ?side1 ?side2 ?tb A4.out).mono ?_); (case tb => exact HT.out.step (by repeat (first | (with_reducible first | exact HB.out | apply below_alloc | apply pw_below_drewN | apply below_drew1) | exact HB.out))); (case side1 => repeat (first | exact HR0.out | (with_reducible refine Kd.C_alloc ?_ _) | (with_reducible refine Kd.C_drewN ?_ _) | (with_reducible refine Kd.C_drew ?_))); (case side2 => exact HC0.out); rintro e w6 ⟨v835, rfl, ho0, hb⟩; refine ⟨_, rfl, ?_⟩; have n0_ := Aside0.mk (Kd.S_lower ho0 (below_size (by repeat (first | (with_reducible first | exact HB.out | apply below_alloc | apply pw_below_drewN | apply below_drew1) | exact HB.out)))); have n1_ := Aside0.mk (below_step (by repeat (first | (with_reducible first | exact HB.out | apply below_alloc | apply pw_below_drewN | apply below_drew1) | exact HB.out)) hb); clear HB; have HO836 := n0_; have HB := n1_; clear n0_ n1_; (try clear hb); (try clear hb2); (try clear hk); (try clear hi); (try clear ho0); obtain ⟨Ao7, co7, eo7⟩ := Kd.S_slice HO836.out; subst eo7) | ((with_reducible refine gate_callee (f := 105) rfl ?_); refine goesL_ (some 14) rfl rfl Tryd.func105 (by kernel_rfl) rfl #[.slice Ao7 t834.length co7] rfl (by (try simp only [List.map_toArray, List.map_cons, List.map_nil]); first | done | rfl | (simp only [List.length_drop, List.length_take]; rfl)) ?_; (with_reducible refine (gang_Match.calls k _ _ t834 t837 t838 _ ?side1 ?side2 A5.out).mono ?_); (case side1 => repeat (first | exact (Kd.S_reads' HO836.out).2.2 | (with_reducible refine Kd.C_alloc ?_ _) | (with_reducible refine Kd.C_drewN ?_ _) | (with_reducible refine Kd.C_drew ?_))); (case side2 => exact (Kd.S_reads' HO836.out).2.1); rintro e w8 ⟨v839, rfl, ho0, hb⟩; refine ⟨_, rfl, ?_⟩; have n0_ := Aside0.mk (Kd.S_elder' (by (with_reducible repeat (first | apply Kd.S_alloc | apply Kd.S_drewN | apply Kd.S_drew)); exact HO836.out) (Kd.R_base ho0) hb); have n1_ := Aside0.mk (Kd.R_lower ho0 (below_size (by repeat (first | (with_reducible first | exact HB.out | apply below_alloc | apply pw_below_drewN | apply below_drew1) | exact HB.out)))); have n2_ := Aside0.mk (below_step (by repeat (first | (with_reducible first | exact HB.out | apply below_alloc | apply pw_below_drewN | apply below_drew1) | exact HB.out)) hb); clear HO836; clear HB; have HO836 := n0_; have HO840 := n1_; have HB := n2_; clear n0_ n1_ n2_; (try clear hb); (try clear hb2); (try clear hk); (try clear hi); (try clear ho0)))
    go_ret2
    exact ⟨_, by first | rfl | (simp [errW_none, errW_some] <;> rfl) | (simp [*, errW_none, errW_some] <;> rfl), by (with_reducible repeat (first | apply Kd.R_alloc | apply Kd.R_drewN | apply Kd.R_drew)); exact HO840.out, by repeat (first | (with_reducible first | exact HB.out | apply below_alloc | apply pw_below_drewN | apply below_drew1) | exact HB.out)⟩
  · rw [if_neg c3] at H
    have c3b0 : decide (1 < (l0.length : Int)) = false := decide_eq_false c3
    have c3b1 : decide (1 < l0.length) = false := decide_eq_false (by omega)
    clear c3
    by_cases c9 : 0 < (l0.length : Int)
    · rw [if_pos c9] at H
      have c9b0 : decide (0 < (l0.length : Int)) = true := decide_eq_true c9
      have c9b1 : decide (0 < l0.length) = true := decide_eq_true (by omega)
      clear c9
      replace H := Option.bind_eq_some_iff.mp H
      obtain ⟨⟨t843, t844⟩, A100, H⟩ := H
      replace H : (some ((([t843] : List Int)), t844)) = some (r1, r2) := H
      have A10 := Aside0.mk A100
      clear A100
      obtain ⟨y845, hy845⟩ : ∃ y_ : List Int, y_ = (([t843] : List Int)) := ⟨_, rfl⟩
      replace H : (some (y845, t844)) = some (r1, r2) := by first | (rw [hy845]; with_reducible exact H) | (have H2_ := (Option.bind_some _ _).symm.trans H; rw [hy845]; with_reducible exact H2_) | (have H2_ := (Option.bind_some _ _).symm.trans H; with_reducible exact H2_) | with_reducible exact H | (rw [hy845]; exact H) | exact H
      have Ny845 := Aside0.mk hy845
      clear hy845
      simp only [Option.some.injEq, Prod.mk.injEq] at H
      obtain ⟨rfl, rfl⟩ := H
      go_enter Tryd.func91, Tryd.ntmps91
      try go_wp2
      have n0_ := Aside0.mk (below_drew1 HB.out)
      clear HB
      have HB := n0_
      clear n0_
      have p841 : 0 ≤ (0 : Int) := (by omega)
      have q841 : 0 < (l0.length : Int) := of_decide_eq_true (by first | (with_reducible assumption) | assumption)
      obtain ⟨ad841, e841, hx841_0, hx841_1, hx841_2, hx841_3⟩ := at_T36 HR0.out 0 p841 q841
      have hw841_3 := hx841_3
      (try rw [show ((0 : Int)).toNat = 0 from rfl] at hw841_3)
      (try rw [show 0 * 4 = 0 from rfl] at hw841_3)
      (try rw [Addr.add_zero'] at hw841_3)
      have hw841_2 := hx841_2
      (try rw [show ((0 : Int)).toNat = 0 from rfl] at hw841_2)
      (try rw [show 0 * 4 = 0 from rfl] at hw841_2)
      (try rw [Addr.add_zero'] at hw841_2)
      have hw841_1 := hx841_1
      (try rw [show ((0 : Int)).toNat = 0 from rfl] at hw841_1)
      (try rw [show 0 * 4 = 0 from rfl] at hw841_1)
      (try rw [Addr.add_zero'] at hw841_1)
      have hw841_0 := hx841_0
      (try rw [show ((0 : Int)).toNat = 0 from rfl] at hw841_0)
      (try rw [show 0 * 4 = 0 from rfl] at hw841_0)
      (try rw [Addr.add_zero'] at hw841_0)
      cases e841
      have qi841 : (0 < l0.length) = True := eq_true (by omega)
      (try rw [show ((0 : Int)).toNat = 0 from rfl] at hx841_0)
      (try rw [show 0 * 4 = 0 from rfl] at hx841_0)
      (try rw [Addr.add_zero'] at hx841_0)
      (try rw [show ((0 : Int)).toNat = 0 from rfl] at hx841_1)
      (try rw [show 0 * 4 = 0 from rfl] at hx841_1)
      (try rw [Addr.add_zero'] at hx841_1)
      (try rw [show ((0 : Int)).toNat = 0 from rfl] at hx841_2)
      (try rw [show 0 * 4 = 0 from rfl] at hx841_2)
      (try rw [Addr.add_zero'] at hx841_2)
      (try rw [show ((0 : Int)).toNat = 0 from rfl] at hx841_3)
      (try rw [show 0 * 4 = 0 from rfl] at hx841_3)
      (try rw [Addr.add_zero'] at hx841_3)
      replace hx841_0 := (HB.out.cell (World.block_lt_of_cell? w _ hx841_0)).trans hx841_0
      replace hx841_1 := (HB.out.cell (World.block_lt_of_cell? w _ hx841_1)).trans hx841_1
      replace hx841_2 := (HB.out.cell (World.block_lt_of_cell? w _ hx841_2)).trans hx841_2
      replace hx841_3 := (HB.out.cell (World.block_lt_of_cell? w _ hx841_3)).trans hx841_3
      replace p841 := eq_true p841
      replace q841 := eq_true q841
      have p842 : 0 ≤ (0 : Int) := (by omega)
      have q842 : 0 < (l0.length : Int) := of_decide_eq_true (by first | (with_reducible assumption) | assumption)
      obtain ⟨ad842, e842, hx842_0, hx842_1, hx842_2, hx842_3⟩ := at_T36 HR0.out 0 p842 q842
      have hw842_3 := hx842_3
      (try rw [show ((0 : Int)).toNat = 0 from rfl] at hw842_3)
      (try rw [show 0 * 4 = 0 from rfl] at hw842_3)
      (try rw [Addr.add_zero'] at hw842_3)
      have hw842_2 := hx842_2
      (try rw [show ((0 : Int)).toNat = 0 from rfl] at hw842_2)
      (try rw [show 0 * 4 = 0 from rfl] at hw842_2)
      (try rw [Addr.add_zero'] at hw842_2)
      have hw842_1 := hx842_1
      (try rw [show ((0 : Int)).toNat = 0 from rfl] at hw842_1)
      (try rw [show 0 * 4 = 0 from rfl] at hw842_1)
      (try rw [Addr.add_zero'] at hw842_1)
      have hw842_0 := hx842_0
      (try rw [show ((0 : Int)).toNat = 0 from rfl] at hw842_0)
      (try rw [show 0 * 4 = 0 from rfl] at hw842_0)
      (try rw [Addr.add_zero'] at hw842_0)
      obtain rfl : ad841 = ad842 := (by injection e842)
      have qi842 : (0 < l0.length) = True := eq_true (by omega)
      (try rw [show ((0 : Int)).toNat = 0 from rfl] at hx842_0)
      (try rw [show 0 * 4 = 0 from rfl] at hx842_0)
      (try rw [Addr.add_zero'] at hx842_0)
      (try rw [show ((0 : Int)).toNat = 0 from rfl] at hx842_1)
      (try rw [show 0 * 4 = 0 from rfl] at hx842_1)
      (try rw [Addr.add_zero'] at hx842_1)
      (try rw [show ((0 : Int)).toNat = 0 from rfl] at hx842_2)
      (try rw [show 0 * 4 = 0 from rfl] at hx842_2)
      (try rw [Addr.add_zero'] at hx842_2)
      (try rw [show ((0 : Int)).toNat = 0 from rfl] at hx842_3)
      (try rw [show 0 * 4 = 0 from rfl] at hx842_3)
      (try rw [Addr.add_zero'] at hx842_3)
      replace hx842_0 := (HB.out.cell (World.block_lt_of_cell? w _ hx842_0)).trans hx842_0
      replace hx842_1 := (HB.out.cell (World.block_lt_of_cell? w _ hx842_1)).trans hx842_1
      replace hx842_2 := (HB.out.cell (World.block_lt_of_cell? w _ hx842_2)).trans hx842_2
      replace hx842_3 := (HB.out.cell (World.block_lt_of_cell? w _ hx842_3)).trans hx842_3
      replace p842 := eq_true p842
      replace q842 := eq_true q842
      refine start_ (n := 15) (S := fun w' => w'.cell? ad841 = some (.int .i64 ((rd_T36 l0 0).f0)) ∧ w'.cell? ⟨ad841.block, ad841.off + 1, none⟩ = some (.int .i64 ((rd_T36 l0 0).f1)) ∧ w'.cell? ⟨ad841.block, ad841.off + 2, none⟩ = some (.int .u32 ((rd_T36 l0 0).f2.f0)) ∧ w'.cell? ⟨ad841.block, ad841.off + 3, none⟩ = some (.int .u32 ((rd_T36 l0 0).f2.f1)) ∧ w'.cell? ad841 = some (.int .i64 ((rd_T36 l0 0).f0)) ∧ w'.cell? ⟨ad841.block, ad841.off + 1, none⟩ = some (.int .i64 ((rd_T36 l0 0).f1)) ∧ w'.cell? ⟨ad841.block, ad841.off + 2, none⟩ = some (.int .u32 ((rd_T36 l0 0).f2.f0)) ∧ w'.cell? ⟨ad841.block, ad841.off + 3, none⟩ = some (.int .u32 ((rd_T36 l0 0).f2.f1))) (ds := []) #[false, false, false, false, false, false, false, false, false, false, false, false, false, false, false] (by kernel_rfl) rfl rfl ⟨((HB.out.cell (World.block_lt_of_cell? w _ hw841_0)).trans hw841_0), ((HB.out.cell (World.block_lt_of_cell? w _ hw841_1)).trans hw841_1), ((HB.out.cell (World.block_lt_of_cell? w _ hw841_2)).trans hw841_2), ((HB.out.cell (World.block_lt_of_cell? w _ hw841_3)).trans hw841_3), ((HB.out.cell (World.block_lt_of_cell? w _ hw842_0)).trans hw842_0), ((HB.out.cell (World.block_lt_of_cell? w _ hw842_1)).trans hw842_1), ((HB.out.cell (World.block_lt_of_cell? w _ hw842_2)).trans hw842_2), ((HB.out.cell (World.block_lt_of_cell? w _ hw842_3)).trans hw842_3)⟩ (fun hHeld => ?_); refine with_tabW pick_takes.tab3 pick_takes.bits3 (fun HT_ HW_ => ?_)
      generalize w.drew = w11 at HB hx841_0 hx841_1 hx841_2 hx841_3 hx842_0 hx842_1 hx842_2 hx842_3 hHeld ⊢
      refine pure_ (i := 0) (N := some 18) (v := ?_) (a' := ?_) #[true, false, false, false, false, false, false, false, false, false, false, false, false, false, false] rfl rfl (any_of HT_.out (by kernel_rfl)) (fun _ _ _ h => h) (Or.inl ⟨by rfl, ?_⟩) ?_ ?_
      rotate_left
      · intro w'
        go_simp
        with_reducible rfl
      rotate_left
      · simp only [Act.put, List.setIfInBounds_toArray, List.set_cons_zero, List.set_cons_succ, i64_w, i32_w]
        rfl
      refine pure_ (i := 1) (N := some 19) (v := ?_) (a' := ?_) #[true, true, false, false, false, false, false, false, false, false, false, false, false, false, false] rfl rfl (any_of HT_.out (by kernel_rfl)) (fun _ _ _ h => h) (Or.inl ⟨by rfl, ?_⟩) ?_ ?_
      rotate_left
      · intro w'
        go_simp
        with_reducible rfl
      rotate_left
      · simp only [Act.put, List.setIfInBounds_toArray, List.set_cons_zero, List.set_cons_succ, i64_w, i32_w]
        rfl
      refine pure_ (i := 2) (N := some 20) (v := ?_) (a' := ?_) #[true, true, true, false, false, false, false, false, false, false, false, false, false, false, false] rfl rfl (any_of HT_.out (by kernel_rfl)) (fun _ _ _ h => h) (Or.inl ⟨by rfl, ?_⟩) ?_ ?_
      rotate_left
      · intro w'
        go_simp
        with_reducible rfl
      rotate_left
      · simp only [Act.put, List.setIfInBounds_toArray, List.set_cons_zero, List.set_cons_succ, i64_w, i32_w]
        rfl
      refine pure_ (i := 4) (N := some 22) (v := ?_) (a' := ?_) #[true, true, true, false, true, false, false, false, false, false, false, false, false, false, false] rfl rfl (any_of HT_.out (by kernel_rfl)) (fun _ _ _ h => h) (Or.inl ⟨by rfl, ?_⟩) ?_ ?_
      rotate_left
      · intro w'
        go_simp
        with_reducible rfl
      rotate_left
      · simp only [Act.put, List.setIfInBounds_toArray, List.set_cons_zero, List.set_cons_succ, i64_w, i32_w]
        rfl
      refine pure_ (i := 5) (N := some 23) (v := ?_) (a' := ?_) #[true, true, true, false, true, true, false, false, false, false, false, false, false, false, false] rfl rfl (any_of HT_.out (by kernel_rfl)) (fun _ _ _ h => h) (Or.inl ⟨by rfl, ?_⟩) ?_ ?_
      rotate_left
      · intro w'
        go_simp
        with_reducible rfl
      rotate_left
      · simp only [Act.put, List.setIfInBounds_toArray, List.set_cons_zero, List.set_cons_succ, i64_w, i32_w]
        rfl
      refine pure_ (i := 6) (N := some 24) (v := ?_) (a' := ?_) #[true, true, true, false, true, true, true, false, false, false, false, false, false, false, false] rfl rfl (any_of HT_.out (by kernel_rfl)) (fun _ _ _ h => h) (Or.inl ⟨by rfl, ?_⟩) ?_ ?_
      rotate_left
      · intro w'
        go_simp
        with_reducible rfl
      rotate_left
      · simp only [Act.put, List.setIfInBounds_toArray, List.set_cons_zero, List.set_cons_succ, i64_w, i32_w]
        rfl
      refine pure_ (i := 7) (N := some 25) (v := ?_) (a' := ?_) #[true, true, true, false, true, true, true, true, false, false, false, false, false, false, false] rfl rfl (any_of HT_.out (by kernel_rfl)) (fun _ _ _ h => h) (Or.inl ⟨by rfl, ?_⟩) ?_ ?_
      rotate_left
      · intro w'
        go_simp
        with_reducible rfl
      rotate_left
      · simp only [Act.put, List.setIfInBounds_toArray, List.set_cons_zero, List.set_cons_succ, i64_w, i32_w]
        rfl
      refine take_ (i := 3) (N := some 21) (v := ?_) (a' := ?_) #[true, true, true, true, true, true, true, true, false, false, false, false, false, false, false] rfl rfl (take_ofW HT_.out HW_.out (by kernel_rfl)) (fun _ _ _ h => h) (Or.inl ⟨by rfl, ?_⟩) hHeld ?_ ?_
      rotate_left
      · rintro w' ⟨s0, s1, s2, s3, s4, s5, s6, s7⟩
        go_simp
        with_reducible rfl
      rotate_left
      · simp only [Act.put, List.setIfInBounds_toArray, List.set_cons_zero, List.set_cons_succ, i64_w, i32_w]
        rfl
      refine take_ (i := 8) (N := some 26) (v := ?_) (a' := ?_) #[true, true, true, true, true, true, true, true, true, false, false, false, false, false, false] rfl rfl (take_ofW HT_.out HW_.out (by kernel_rfl)) (fun _ _ _ h => h) (Or.inl ⟨by rfl, ?_⟩) hHeld ?_ ?_
      rotate_left
      · rintro w' ⟨s0, s1, s2, s3, s4, s5, s6, s7⟩
        go_simp
        with_reducible rfl
      rotate_left
      · simp only [Act.put, List.setIfInBounds_toArray, List.set_cons_zero, List.set_cons_succ, i64_w, i32_w]
        rfl
      refine one_ (i := 9) (N := some 27) #[true, true, true, true, true, true, true, true, true, true, false, false, false, false, false] rfl rfl (one_of HT_.out (by kernel_rfl)) (by decide) (fun K hK => ?_)
      refine goes_ Tryd.func89 (by kernel_rfl) rfl #[.agg #[.int .u32 ((rd_T36 l0 0).f2.f0), .int .u32 ((rd_T36 l0 0).f2.f1)], .int .u32 a1, .int .i64 ((rd_T36 l0 0).f1)] (by rfl) rfl rfl (by (try simp only [List.map_toArray, List.map_cons, List.map_nil]); first | done | rfl | (simp only [List.length_drop, List.length_take]; rfl)) ?_
      with_reducible refine (mask_Best.calls k ((rd_T36 l0 0).f2.f0) ((rd_T36 l0 0).f2.f1) a1 ((rd_T36 l0 0).f1) t843 t844 _ ?tb A10.out).mono ?_
      case tb => exact HT.out.step (by repeat (first | (with_reducible first | exact HB.out | apply below_alloc | apply pw_below_drewN | apply below_drew1) | exact HB.out))
      rintro e w12 ⟨rfl, hb⟩
      refine ⟨_, rfl, ?_⟩
      have n0_ := Aside0.mk (below_step (by repeat (first | (with_reducible first | exact HB.out | apply below_alloc | apply pw_below_drewN | apply below_drew1) | exact HB.out)) hb)
      clear HB
      have HB := n0_
      clear n0_
      (try clear hb)
      (try clear hb2)
      (try clear hk)
      (try clear hi)
      refine hK.out _ _ ⟨((HB.out.cell (World.block_lt_of_cell? w _ hw841_0)).trans hw841_0), ((HB.out.cell (World.block_lt_of_cell? w _ hw841_1)).trans hw841_1), ((HB.out.cell (World.block_lt_of_cell? w _ hw841_2)).trans hw841_2), ((HB.out.cell (World.block_lt_of_cell? w _ hw841_3)).trans hw841_3), ((HB.out.cell (World.block_lt_of_cell? w _ hw842_0)).trans hw842_0), ((HB.out.cell (World.block_lt_of_cell? w _ hw842_1)).trans hw842_1), ((HB.out.cell (World.block_lt_of_cell? w _ hw842_2)).trans hw842_2), ((HB.out.cell (World.block_lt_of_cell? w _ hw842_3)).trans hw842_3)⟩ (fun hHeld => ?_)
      clear hK K
      refine norm_ (a' := ?_) ?_ ?_
      rotate_left
      · show Act.put _ (some 27) _ = _
        simp only [Act.put, List.setIfInBounds_toArray, List.set_cons_zero, List.set_cons_succ, i64_w, i32_w]
        rfl
      refine pure_ (i := 10) (N := some 17) (v := ?_) (a' := ?_) #[true, true, true, true, true, true, true, true, true, true, true, false, false, false, false] rfl rfl (any_of HT_.out (by kernel_rfl)) (fun _ _ _ h => h) (Or.inl ⟨by rfl, ?_⟩) ?_ ?_
      rotate_left
      · intro w'
        go_simp
        with_reducible rfl
      rotate_left
      · simp only [Act.put, List.setIfInBounds_toArray, List.set_cons_zero, List.set_cons_succ, i64_w, i32_w]
        rfl
      refine pure_ (i := 11) (N := some 28) (v := ?_) (a' := ?_) #[true, true, true, true, true, true, true, true, true, true, true, true, false, false, false] rfl rfl (any_of HT_.out (by kernel_rfl)) (fun _ _ _ h => h) (Or.inl ⟨by rfl, ?_⟩) ?_ ?_
      rotate_left
      · intro w'
        go_simp
        with_reducible rfl
      rotate_left
      · simp only [Act.put, List.setIfInBounds_toArray, List.set_cons_zero, List.set_cons_succ, i64_w, i32_w]
        rfl
      refine pure_ (i := 12) (N := some 29) (v := ?_) (a' := ?_) #[true, true, true, true, true, true, true, true, true, true, true, true, true, false, false] rfl rfl (any_of HT_.out (by kernel_rfl)) (fun _ _ _ h => h) (Or.inl ⟨by rfl, ?_⟩) ?_ ?_
      rotate_left
      · intro w'
        go_simp
        with_reducible rfl
      rotate_left
      · simp only [Act.put, List.setIfInBounds_toArray, List.set_cons_zero, List.set_cons_succ, i64_w, i32_w]
        rfl
      refine pure_ (i := 13) (N := some 6) (v := ?_) (a' := ?_) #[true, true, true, true, true, true, true, true, true, true, true, true, true, true, false] rfl rfl (any_of HT_.out (by kernel_rfl)) (fun _ _ _ h => h) (Or.inl ⟨by rfl, ?_⟩) ?_ ?_
      rotate_left
      · intro w'
        go_simp
        with_reducible rfl
      rotate_left
      · simp only [Act.put, List.setIfInBounds_toArray, List.set_cons_zero, List.set_cons_succ, i64_w, i32_w]
        rfl
      refine pure_ (i := 14) (N := some 7) (v := ?_) (a' := ?_) #[true, true, true, true, true, true, true, true, true, true, true, true, true, true, true] rfl rfl (any_of HT_.out (by kernel_rfl)) (fun _ _ _ h => h) (Or.inl ⟨by rfl, ?_⟩) ?_ ?_
      rotate_left
      · intro w'
        go_simp
        with_reducible rfl
      rotate_left
      · simp only [Act.put, List.setIfInBounds_toArray, List.set_cons_zero, List.set_cons_succ, i64_w, i32_w]
        rfl
      refine done_ (done_of HT_.out (by kernel_rfl)) ?_
      try go_wp2_with (first | ((with_reducible refine gate_dst (N := 31) rfl ?_); refine Kd.R_lit (Kd.int .i64) _ 3 ?hg (N := 31) ?hd (xs := ([t843] : List Int)) (inner := [.int .i64 t843]) (ok := fun _ => True) (okp := fun _ => True) ?hr ?hp (fun _ hk => hk) trivial (Below.refl _ _) (Nat.le_refl _) (by simp) ?_; (case hd => rfl); (case hg => rfl); (case hr => first | (go_simp; done) | (go_simp; rfl)); (case hp => exact (Reps.one (show Kd.M (Kd.int .i64) _ _ _ t843 [.int .i64 t843] from rfl) (Reps.none _ _))); intro v846 w13 ho14 hb hg_ hnew_; clear hg_ hnew_; (first | rw [← Ny845.out] at ho14 | (simp only [Int.reduceToNat] at ho14; rw [← Ny845.out] at ho14)); have n0_ := Aside0.mk (Kd.R_lower ho14 (below_size (by repeat (first | (with_reducible first | exact HB.out | apply below_alloc | apply pw_below_drewN | apply below_drew1) | exact HB.out)))); have n1_ := Aside0.mk (below_step (by repeat (first | (with_reducible first | exact HB.out | apply below_alloc | apply pw_below_drewN | apply below_drew1) | exact HB.out)) hb); clear HB; have HO847 := n0_; have HB := n1_; clear n0_ n1_; clear hb ho14))
      go_ret2
      exact ⟨_, by first | rfl | (simp [errW_none, errW_some] <;> rfl) | (simp [*, errW_none, errW_some] <;> rfl), by (with_reducible repeat (first | apply Kd.R_alloc | apply Kd.R_drewN | apply Kd.R_drew)); exact HO847.out, by repeat (first | (with_reducible first | exact HB.out | apply below_alloc | apply pw_below_drewN | apply below_drew1) | exact HB.out)⟩
    · rw [if_neg c9] at H
      exact absurd H (by simp)

end Go.Proofs.YtdmieaidheelbaaDoor.Q
end
/- QFpickwishes -/
section
-- Written by a program of this session (hprint.py), which drives the kit's print over hand-proved contracts. Lean checks it.
namespace Go.Proofs.YtdmieaidheelbaaDoor.Q
open Go.RowKit Go.Proofs.YtdmieaidheelbaaDoorW.PrintWords Go.Proofs.YtdmieaidheelbaaDoorW.PrintLast Go.Proofs.YtdmieaidheelbaaDoorW.PrintMore
attribute [local go_sem] max2_int min2_int max_two min_two max_three min_three max_four min_four   -- for this text's walks alone
set_option linter.unusedVariables false
set_option linter.unusedSimpArgs false

/-! ### pick_wishes: function 67 -/
def pick_wishes.l0 : Nat → List Int → List (S36) → List (S36) → Int → Int → Option ((List (S36)))
  | 0, _, _, _, _, _ => none
  | k + 1, x1, x5, x8, x9, x10 => if x10 < x9 then (if 0 ≤ x10 then (if x10 < (x8.length : Int) then ((slices_Contains_int_int.f k x1 ((rd_T36 x8 x10).f0)).bind fun t357 => (if t357 = true then (if x5.length < 5864062014805 then (pick_wishes.l0 k x1 (x5 ++ [(⟨(rd_T36 x8 x10).f0, (rd_T36 x8 x10).f1, (⟨(rd_T36 x8 x10).f2.f0, (rd_T36 x8 x10).f2.f1⟩ : S34)⟩ : S36)]) x8 x9 (wrap64 (x10 + 1))) else (none)) else (pick_wishes.l0 k x1 x5 x8 x9 (wrap64 (x10 + 1))))) else (none)) else (none)) else (some x5)
def pick_wishes.f (k : Nat) (l0 : List (S36)) (l1 : List Int) : Option ((List (S36))) := pick_wishes.l0 k l1 ([] : List (S36)) l0 (l0.length : Int) 0
theorem pick_wishes.mono_l : ∀ k, (∀ y0 y1 y2 y3 y4, LeO (pick_wishes.l0 k y0 y1 y2 y3 y4) (pick_wishes.l0 (k + 1) y0 y1 y2 y3 y4))
  | 0 => fun _ _ _ _ _ r h => by simp [pick_wishes.l0] at h
  | k + 1 => by
    have ih0 := pick_wishes.mono_l k
    · intro y0 y1 y2 y3 y4
      unfold pick_wishes.l0
      repeat' first
      | (with_reducible exact ih0 _ _ _ _ _)
      | (with_reducible exact slices_Contains_int_int.mono _ _ _)
      | (with_reducible exact LeO.refl _)
      | (with_reducible exact LeO.none _)
      | (with_reducible refine LeO.ite ?_ ?_)
      | (with_reducible refine LeO.bind ?_ (fun _ => ?_))
      | exact ih0 _ _ _ _ _
      | exact slices_Contains_int_int.mono _ _ _
      | exact LeO.none _
      | refine LeO.ite ?_ ?_
      | refine LeO.bind ?_ (fun _ => ?_)
theorem pick_wishes.mono : ∀ a0 a1 k, LeO (pick_wishes.f k a0 a1) (pick_wishes.f (k + 1) a0 a1) := by
  intro a0 a1 k
  have ih0 := pick_wishes.mono_l k
  unfold pick_wishes.f
  repeat' first
      | (with_reducible exact ih0 _ _ _ _ _)
      | (with_reducible exact slices_Contains_int_int.mono _ _ _)
      | (with_reducible exact LeO.refl _)
      | (with_reducible exact LeO.none _)
      | (with_reducible refine LeO.ite ?_ ?_)
      | (with_reducible refine LeO.bind ?_ (fun _ => ?_))
      | exact ih0 _ _ _ _ _
      | exact slices_Contains_int_int.mono _ _ _
      | exact LeO.none _
      | refine LeO.ite ?_ ?_
      | refine LeO.bind ?_ (fun _ => ?_)
set_option maxHeartbeats 8000000 in
set_option maxRecDepth 100000 in
theorem pick_wishes.calls (k : Nat) (A0 : Option Addr) (c0 : Nat) (l0 : List (S36)) (A1 : Option Addr) (c1 : Nat) (l1 : List Int) (r : List (S36)) (w : World) (hr0 : Kd.C k36 w A0 l0.length l0) (hc0 : l0.length ≤ c0) (hr1 : Kd.C (Kd.int .i64) w A1 l1.length l1) (hc1 : l1.length ≤ c1) (h : pick_wishes.f k l0 l1 = some r) :
    Calls Tryd.prog 67 #[.slice A0 l0.length c0, .slice A1 l1.length c1] w fun e w' => ∃ v0_ : Value, e = .returned (v0_) ∧ Kd.R k36 36 w' w.heap.size (fun _ => True) v0_ r ∧ Below w.heap.size w w' := by
  have hu36 := Tryd.underlying36
  have HR0 := Aside0.mk hr0
  have HC0 := Aside0.mk hc0
  clear hr0 hc0
  have HR1 := Aside0.mk hr1
  have HC1 := Aside0.mk hc1
  clear hr1 hc1
  have HB := Aside0.mk (Below.refl w.heap.size w)
  have H : (pick_wishes.l0 k l1 ([] : List (S36)) l0 (l0.length : Int) 0) = some r := h
  clear h
  have H' := Aside0.mk H
  clear H
  go_enter Tryd.func67, Tryd.ntmps67
  go_wp2
  go_loopg [5, 10] k (fun kq v5 v10 w' => ∃ (x5_1 : List (S36)) (x10_1 : Int), v10 = .int .i64 x10_1 ∧ Aside0 (pick_wishes.l0 kq l1 x5_1 l0 (l0.length : Int) x10_1 = some r) ∧ Aside0 (kq ≤ k) ∧ Aside0 (Kd.R k36 36 w' w.heap.size (fun _ => True) v5 x5_1) ∧ Aside0 (Below w.heap.size w w'))
  case atStart => exact ⟨(([] : List (S36))), (0), (by first | rfl | (simp; done) | (simp [*]; done)), H', ⟨Nat.le_refl _⟩, ⟨by first | exact Kd.R_nil _ _ _ _ _ | exact Kd.N_nil _ _ _ _ _ | exact Kd.V_nil _ _ _ _ _ | exact Kd.Q_nil _ _ _ _ _ | exact Kd.S_nil _ _ _ _ _⟩, ⟨by repeat (first | (with_reducible first | exact HB.out | apply below_alloc | apply pw_below_drewN | apply below_drew1) | exact HB.out)⟩⟩
  case round =>
    clear H'
    try clear c1
    try clear p2
    obtain ⟨x5_1, x10_1, rfl, HA, HK1, HO_5, HB⟩ := hrel
    cases gk with
    | zero => exact absurd HA.out (by simp [pick_wishes.l0])
    | succ k1 =>
      have H := HA.out
      clear HA
      simp only [pick_wishes.l0] at H
      by_cases c3 : x10_1 < (l0.length : Int)
      · rw [if_pos c3] at H
        have c3b0 : decide (x10_1 < (l0.length : Int)) = true := decide_eq_true c3
        clear c3
        by_cases c4 : 0 ≤ x10_1
        · rw [if_pos c4] at H
          have c4b0 : decide (0 ≤ x10_1) = true := decide_eq_true c4
          clear c4
          by_cases c5 : x10_1 < (l0.length : Int)
          · rw [if_pos c5] at H
            have c5b0 : decide (x10_1 < (l0.length : Int)) = true := decide_eq_true c5
            clear c5
            replace H := Option.bind_eq_some_iff.mp H
            obtain ⟨t357, A60, H⟩ := H
            replace H : (if t357 = true then (if x5_1.length < 5864062014805 then (pick_wishes.l0 k1 l1 (x5_1 ++ [(⟨(rd_T36 l0 x10_1).f0, (rd_T36 l0 x10_1).f1, (⟨(rd_T36 l0 x10_1).f2.f0, (rd_T36 l0 x10_1).f2.f1⟩ : S34)⟩ : S36)]) l0 (l0.length : Int) (wrap64 (x10_1 + 1))) else (none)) else (pick_wishes.l0 k1 l1 x5_1 l0 (l0.length : Int) (wrap64 (x10_1 + 1)))) = some r := H
            have A6 := Aside0.mk A60
            clear A60
            by_cases c7 : t357 = true
            · subst c7
              have H1 : (if x5_1.length < 5864062014805 then (pick_wishes.l0 k1 l1 (x5_1 ++ [(⟨(rd_T36 l0 x10_1).f0, (rd_T36 l0 x10_1).f1, (⟨(rd_T36 l0 x10_1).f2.f0, (rd_T36 l0 x10_1).f2.f1⟩ : S34)⟩ : S36)]) l0 (l0.length : Int) (wrap64 (x10_1 + 1))) else (none)) = some r := by rw [if_pos rfl] at H; exact H
              clear H
              have H := H1
              clear H1
              by_cases c8 : x5_1.length < 5864062014805
              · rw [if_pos c8] at H
                have LMc8 := Aside0.mk c8
                clear c8
                obtain ⟨y358, hy358⟩ : ∃ y_ : List (S36), y_ = (x5_1 ++ [(⟨(rd_T36 l0 x10_1).f0, (rd_T36 l0 x10_1).f1, (⟨(rd_T36 l0 x10_1).f2.f0, (rd_T36 l0 x10_1).f2.f1⟩ : S34)⟩ : S36)]) := ⟨_, rfl⟩
                replace H : (pick_wishes.l0 k1 l1 y358 l0 (l0.length : Int) (wrap64 (x10_1 + 1))) = some r := by first | (rw [hy358]; with_reducible exact H) | (have H2_ := (Option.bind_some _ _).symm.trans H; rw [hy358]; with_reducible exact H2_) | (have H2_ := (Option.bind_some _ _).symm.trans H; with_reducible exact H2_) | with_reducible exact H | (rw [hy358]; exact H) | exact H
                have Ny358 := Aside0.mk hy358
                clear hy358
                have H' := Aside0.mk H
                clear H
                have p355 : 0 ≤ (x10_1 : Int) := of_decide_eq_true (by first | (with_reducible assumption) | assumption)
                have q355 : x10_1 < (l0.length : Int) := of_decide_eq_true (by first | (with_reducible assumption) | assumption)
                obtain ⟨ad355, e355, hx355_0, hx355_1, hx355_2, hx355_3⟩ := at_T36 HR0.out x10_1 p355 q355
                cases e355
                replace hx355_0 := (HB.out.cell (World.block_lt_of_cell? w _ hx355_0)).trans hx355_0
                replace hx355_1 := (HB.out.cell (World.block_lt_of_cell? w _ hx355_1)).trans hx355_1
                replace hx355_2 := (HB.out.cell (World.block_lt_of_cell? w _ hx355_2)).trans hx355_2
                replace hx355_3 := (HB.out.cell (World.block_lt_of_cell? w _ hx355_3)).trans hx355_3
                replace p355 := eq_true p355
                replace q355 := eq_true q355
                go_wp2_with (first | ((with_reducible refine gate_dst (N := 7) rfl ?_); refine box_event ?hg (N := 7) ?hd (cs := #[.int .i64 0, .int .i64 0, .int .u32 0, .int .u32 0]) (t := 36) ?hr ?_; (case hd => rfl); (case hg => rfl); (case hr => first | (go_simp; done) | (go_simp; rfl)); intro gb356 hg w9 hbox hb; have n0_ := Aside0.mk (Kd.R_below (Kd.R_elderB (by (with_reducible repeat (first | apply Kd.R_alloc | apply Kd.R_drewN | apply Kd.R_drew)); exact HO_5.out) gb356 (Nat.le_of_eq hg.symm)) hb); have n1_ := Aside0.mk (below_step (by repeat (first | (with_reducible first | exact HB.out | apply below_alloc | apply pw_below_drewN | apply below_drew1) | exact HB.out)) hb); have n2_ := Aside0.mk (hbox); have n3_ := Aside0.mk ((by rw [hg]; exact (below_size (by repeat (first | (with_reducible first | exact HB.out | apply below_alloc | apply pw_below_drewN | apply below_drew1) | exact HB.out))) : w.heap.size ≤ gb356)); have n4_ := Aside0.mk ((by rw [hg]; exact (below_size (by repeat (first | (with_reducible first | exact HB.out | apply below_alloc | apply pw_below_drewN | apply below_drew1) | exact HB.out))) : w.heap.size ≤ gb356)); clear HO_5; clear HB; have HO_5 := n0_; have HB := n1_; have BK356 := n2_; have GW356 := n3_; have GE356 := n4_; clear n0_ n1_ n2_ n3_ n4_; clear hb hbox hg; have hcz10_0 : w9.cell? ⟨gb356, 0, none⟩ = some (.int .i64 0) := (blk_cell BK356.out 0).trans rfl; have hcz10_1 : w9.cell? ⟨gb356, 1, none⟩ = some (.int .i64 0) := (blk_cell BK356.out 1).trans rfl; have hcz10_2 : w9.cell? ⟨gb356, 2, none⟩ = some (.int .u32 0) := (blk_cell BK356.out 2).trans rfl; have hcz10_3 : w9.cell? ⟨gb356, 3, none⟩ = some (.int .u32 0) := (blk_cell BK356.out 3).trans rfl; have hfz10_0 := blk_frozen BK356.out 0; have hfz10_1 := blk_frozen BK356.out 1; have hfz10_2 := blk_frozen BK356.out 2; have hfz10_3 := blk_frozen BK356.out 3) | ((with_reducible refine gate_callee (f := 93) rfl ?_); refine goesL_ (some 17) rfl rfl Tryd.func93 (by kernel_rfl) rfl #[.slice A1 l1.length c1, .int .i64 ((rd_T36 l0 x10_1).f0)] rfl (by (try simp only [List.map_toArray, List.map_cons, List.map_nil]); first | done | rfl | (simp only [List.length_drop, List.length_take]; rfl)) ?_; (with_reducible refine (slices_Contains_int_int.calls k1 _ _ l1 ((rd_T36 l0 x10_1).f0) true _ ?side1 ?side2 A6.out).mono ?_); (case side1 => exact Kd.C_below HR1.out (by repeat (first | (with_reducible first | exact HB.out | apply below_alloc | apply pw_below_drewN | apply below_drew1 | refine below_set ?_ GE356.out) | exact HB.out))); (case side2 => exact HC1.out); rintro e w' ⟨rfl, ⟨nd, rfl⟩⟩; refine ⟨_, rfl, ?_⟩) | ((with_reducible refine gate_builtin (b := .append) (xs := #[.tmp 18, .tmp 20]) rfl ?_); at_builtin; refine Kd.R_append k36 (w0 := w) w.heap.size rfl (.tmp 18) (.tmp 20) 22 36 (.agg #[(.int .i64 0), (.int .i64 0), (.int .u32 0), (.int .u32 0)]) 24 rfl Tryd.underlying22 info36 rfl (by decide) (by omega) u5 x5_1 (⟨(rd_T36 l0 x10_1).f0, (rd_T36 l0 x10_1).f1, (⟨(rd_T36 l0 x10_1).f2.f0, (rd_T36 l0 x10_1).f2.f1⟩ : S34)⟩ : S36) [.int .i64 ((rd_T36 l0 x10_1).f0), .int .i64 ((rd_T36 l0 x10_1).f1), .int .u32 ((rd_T36 l0 x10_1).f2.f0), .int .u32 ((rd_T36 l0 x10_1).f2.f1)] (fun k_ => k_ ≠ gb356) (fun _ => False) rfl (by first | (go_simp; done) | (go_simp; rfl)) ?aP (fun _ hk => hk.elim) ?aF ?aO ?aB ?aS ?aL ?_; (case aP => exact k36_mkM _ _ _ (⟨(rd_T36 l0 x10_1).f0, (rd_T36 l0 x10_1).f1, (⟨(rd_T36 l0 x10_1).f2.f0, (rd_T36 l0 x10_1).f2.f1⟩ : S34)⟩ : S36)); (case aB => exact (by repeat (first | (with_reducible first | exact HB.out | apply below_alloc | apply pw_below_drewN | apply below_drew1 | refine below_set ?_ GE356.out) | exact HB.out))); (case aF => exact (fun k_ hk => Kd.freshB (g := gb356) (o := .cells #[.int .i64 ((rd_T36 l0 x10_1).f0), .int .i64 ((rd_T36 l0 x10_1).f1), .int .u32 ((rd_T36 l0 x10_1).f2.f0), .int .u32 ((rd_T36 l0 x10_1).f2.f1)] 36 (0, 0)) (by (with_reducible repeat (first | refine blk_drewN ?_ _ | refine blk_drew ?_ | refine blk_alloc ?_ _)); refine blk_put (cs := #[.int .i64 ((rd_T36 l0 x10_1).f0), .int .i64 ((rd_T36 l0 x10_1).f1), .int .u32 ((rd_T36 l0 x10_1).f2.f0), .int .u32 0]) ?_ 3 _ rfl; (with_reducible repeat (first | refine blk_drewN ?_ _ | refine blk_drew ?_ | refine blk_alloc ?_ _)); refine blk_put (cs := #[.int .i64 ((rd_T36 l0 x10_1).f0), .int .i64 ((rd_T36 l0 x10_1).f1), .int .u32 0, .int .u32 0]) ?_ 2 _ rfl; (with_reducible repeat (first | refine blk_drewN ?_ _ | refine blk_drew ?_ | refine blk_alloc ?_ _)); refine blk_put (cs := #[.int .i64 ((rd_T36 l0 x10_1).f0), .int .i64 0, .int .u32 0, .int .u32 0]) ?_ 1 _ rfl; (with_reducible repeat (first | refine blk_drewN ?_ _ | refine blk_drew ?_ | refine blk_alloc ?_ _)); refine blk_put (cs := #[.int .i64 0, .int .i64 0, .int .u32 0, .int .u32 0]) ?_ 0 _ rfl; (with_reducible repeat (first | refine blk_drewN ?_ _ | refine blk_drew ?_ | refine blk_alloc ?_ _)); exact BK356.out) k_ hk)); (case aO => exact (by (with_reducible repeat (first | apply Kd.R_alloc | apply Kd.R_drewN | apply Kd.R_drew)); exact Kd.R_mono (Kd.R_far (p := ⟨gb356, 3, none⟩) (Kd.R_far (p := ⟨gb356, 2, none⟩) (Kd.R_far (p := ⟨gb356, 1, none⟩) (Kd.R_far (p := ⟨gb356, 0, none⟩) (Kd.R_mono HO_5.out (fun k_ hk => (⟨hk, hk.2⟩ : _ ∧ k_ ≠ gb356))) (fun _ hk => hk.2) (.int .i64 ((rd_T36 l0 x10_1).f0))) (fun _ hk => hk.2) (.int .i64 ((rd_T36 l0 x10_1).f1))) (fun _ hk => hk.2) (.int .u32 ((rd_T36 l0 x10_1).f2.f0))) (fun _ hk => hk.2) (.int .u32 ((rd_T36 l0 x10_1).f2.f1))) (fun _ hk => hk.1.2))); (case aS => exact (below_size (by repeat (first | (with_reducible first | exact HB.out | apply below_alloc | apply pw_below_drewN | apply below_drew1 | refine below_set ?_ GE356.out) | exact HB.out)))); (case aL => have := LMc8.out; omega); intro v359 w11 ho hb hg hat; rw [← Ny358.out] at ho; have n0_ := Aside0.mk (blk_grown (g := gb356) (o := .cells #[.int .i64 ((rd_T36 l0 x10_1).f0), .int .i64 ((rd_T36 l0 x10_1).f1), .int .u32 ((rd_T36 l0 x10_1).f2.f0), .int .u32 ((rd_T36 l0 x10_1).f2.f1)] 36 (0, 0)) (by (with_reducible repeat (first | refine blk_drewN ?_ _ | refine blk_drew ?_ | refine blk_alloc ?_ _)); refine blk_put (cs := #[.int .i64 ((rd_T36 l0 x10_1).f0), .int .i64 ((rd_T36 l0 x10_1).f1), .int .u32 ((rd_T36 l0 x10_1).f2.f0), .int .u32 0]) ?_ 3 _ rfl; (with_reducible repeat (first | refine blk_drewN ?_ _ | refine blk_drew ?_ | refine blk_alloc ?_ _)); refine blk_put (cs := #[.int .i64 ((rd_T36 l0 x10_1).f0), .int .i64 ((rd_T36 l0 x10_1).f1), .int .u32 0, .int .u32 0]) ?_ 2 _ rfl; (with_reducible repeat (first | refine blk_drewN ?_ _ | refine blk_drew ?_ | refine blk_alloc ?_ _)); refine blk_put (cs := #[.int .i64 ((rd_T36 l0 x10_1).f0), .int .i64 0, .int .u32 0, .int .u32 0]) ?_ 1 _ rfl; (with_reducible repeat (first | refine blk_drewN ?_ _ | refine blk_drew ?_ | refine blk_alloc ?_ _)); refine blk_put (cs := #[.int .i64 0, .int .i64 0, .int .u32 0, .int .u32 0]) ?_ 0 _ rfl; (with_reducible repeat (first | refine blk_drewN ?_ _ | refine blk_drew ?_ | refine blk_alloc ?_ _)); exact BK356.out) hg (Kd.R_away HO_5.out (fun _ hk => hk.2))); have n1_ := Aside0.mk (hb); have n2_ := Aside0.mk (ho); clear BK356; clear HB; clear HO_5; have BK356 := n0_; have HB := n1_; have HO360 := n2_; clear n0_ n1_ n2_; clear ho hb hg hat))
                go_roundg k1
                case measure => have := HK1.out; omega
                case rel => exact ⟨(y358), (wrap64 (x10_1 + 1)), (by first | rfl | (simp; done) | (simp [*]; done)), H', ⟨by have := HK1.out; omega⟩, ⟨by (with_reducible repeat (first | apply Kd.R_alloc | apply Kd.R_drewN | apply Kd.R_drew)); exact Kd.R_mono HO360.out (fun _ hk => trivial)⟩, ⟨by repeat (first | (with_reducible first | exact HB.out | apply below_alloc | apply pw_below_drewN | apply below_drew1 | refine below_set ?_ GE356.out) | exact HB.out)⟩⟩
              · rw [if_neg c8] at H
                exact absurd H (by simp)
            · replace c7 := Bool.eq_false_iff.mpr c7
              subst c7
              have H1 : (pick_wishes.l0 k1 l1 x5_1 l0 (l0.length : Int) (wrap64 (x10_1 + 1))) = some r := by rw [if_neg (show ¬ (false = true) by decide)] at H; exact H
              clear H
              have H := H1
              clear H1
              have H' := Aside0.mk H
              clear H
              have p355 : 0 ≤ (x10_1 : Int) := of_decide_eq_true (by first | (with_reducible assumption) | assumption)
              have q355 : x10_1 < (l0.length : Int) := of_decide_eq_true (by first | (with_reducible assumption) | assumption)
              obtain ⟨ad355, e355, hx355_0, hx355_1, hx355_2, hx355_3⟩ := at_T36 HR0.out x10_1 p355 q355
              cases e355
              replace hx355_0 := (HB.out.cell (World.block_lt_of_cell? w _ hx355_0)).trans hx355_0
              replace hx355_1 := (HB.out.cell (World.block_lt_of_cell? w _ hx355_1)).trans hx355_1
              replace hx355_2 := (HB.out.cell (World.block_lt_of_cell? w _ hx355_2)).trans hx355_2
              replace hx355_3 := (HB.out.cell (World.block_lt_of_cell? w _ hx355_3)).trans hx355_3
              replace p355 := eq_true p355
              replace q355 := eq_true q355
              go_wp2_with (first | ((with_reducible refine gate_dst (N := 7) rfl ?_); refine box_event ?hg (N := 7) ?hd (cs := #[.int .i64 0, .int .i64 0, .int .u32 0, .int .u32 0]) (t := 36) ?hr ?_; (case hd => rfl); (case hg => rfl); (case hr => first | (go_simp; done) | (go_simp; rfl)); intro gb356 hg w12 hbox hb; have n0_ := Aside0.mk (Kd.R_below (Kd.R_elderB (by (with_reducible repeat (first | apply Kd.R_alloc | apply Kd.R_drewN | apply Kd.R_drew)); exact HO_5.out) gb356 (Nat.le_of_eq hg.symm)) hb); have n1_ := Aside0.mk (below_step (by repeat (first | (with_reducible first | exact HB.out | apply below_alloc | apply pw_below_drewN | apply below_drew1) | exact HB.out)) hb); have n2_ := Aside0.mk (hbox); have n3_ := Aside0.mk ((by rw [hg]; exact (below_size (by repeat (first | (with_reducible first | exact HB.out | apply below_alloc | apply pw_below_drewN | apply below_drew1) | exact HB.out))) : w.heap.size ≤ gb356)); have n4_ := Aside0.mk ((by rw [hg]; exact (below_size (by repeat (first | (with_reducible first | exact HB.out | apply below_alloc | apply pw_below_drewN | apply below_drew1) | exact HB.out))) : w.heap.size ≤ gb356)); clear HO_5; clear HB; have HO_5 := n0_; have HB := n1_; have BK356 := n2_; have GW356 := n3_; have GE356 := n4_; clear n0_ n1_ n2_ n3_ n4_; clear hb hbox hg; have hcz13_0 : w12.cell? ⟨gb356, 0, none⟩ = some (.int .i64 0) := (blk_cell BK356.out 0).trans rfl; have hcz13_1 : w12.cell? ⟨gb356, 1, none⟩ = some (.int .i64 0) := (blk_cell BK356.out 1).trans rfl; have hcz13_2 : w12.cell? ⟨gb356, 2, none⟩ = some (.int .u32 0) := (blk_cell BK356.out 2).trans rfl; have hcz13_3 : w12.cell? ⟨gb356, 3, none⟩ = some (.int .u32 0) := (blk_cell BK356.out 3).trans rfl; have hfz13_0 := blk_frozen BK356.out 0; have hfz13_1 := blk_frozen BK356.out 1; have hfz13_2 := blk_frozen BK356.out 2; have hfz13_3 := blk_frozen BK356.out 3) | ((with_reducible refine gate_callee (f := 93) rfl ?_); refine goesL_ (some 17) rfl rfl Tryd.func93 (by kernel_rfl) rfl #[.slice A1 l1.length c1, .int .i64 ((rd_T36 l0 x10_1).f0)] rfl (by (try simp only [List.map_toArray, List.map_cons, List.map_nil]); first | done | rfl | (simp only [List.length_drop, List.length_take]; rfl)) ?_; (with_reducible refine (slices_Contains_int_int.calls k1 _ _ l1 ((rd_T36 l0 x10_1).f0) false _ ?side1 ?side2 A6.out).mono ?_); (case side1 => exact Kd.C_below HR1.out (by repeat (first | (with_reducible first | exact HB.out | apply below_alloc | apply pw_below_drewN | apply below_drew1 | refine below_set ?_ GE356.out) | exact HB.out))); (case side2 => exact HC1.out); rintro e w' ⟨rfl, ⟨nd, rfl⟩⟩; refine ⟨_, rfl, ?_⟩))
              go_roundg k1
              case measure => have := HK1.out; omega
              case rel => exact ⟨(x5_1), (wrap64 (x10_1 + 1)), (by first | rfl | (simp; done) | (simp [*]; done)), H', ⟨by have := HK1.out; omega⟩, ⟨by (with_reducible repeat (first | apply Kd.R_alloc | apply Kd.R_drewN | apply Kd.R_drew)); exact Kd.R_mono (Kd.R_far (p := ⟨gb356, 3, none⟩) (Kd.R_far (p := ⟨gb356, 2, none⟩) (Kd.R_far (p := ⟨gb356, 1, none⟩) (Kd.R_far (p := ⟨gb356, 0, none⟩) (Kd.R_mono HO_5.out (fun k_ hk => (⟨hk, hk.2⟩ : _ ∧ k_ ≠ gb356))) (fun _ hk => hk.2) (.int .i64 ((rd_T36 l0 x10_1).f0))) (fun _ hk => hk.2) (.int .i64 ((rd_T36 l0 x10_1).f1))) (fun _ hk => hk.2) (.int .u32 ((rd_T36 l0 x10_1).f2.f0))) (fun _ hk => hk.2) (.int .u32 ((rd_T36 l0 x10_1).f2.f1))) (fun _ hk => trivial)⟩, ⟨by repeat (first | (with_reducible first | exact HB.out | apply below_alloc | apply pw_below_drewN | apply below_drew1 | refine below_set ?_ GE356.out) | exact HB.out)⟩⟩
          · rw [if_neg c5] at H
            exact absurd H (by simp)
        · rw [if_neg c4] at H
          exact absurd H (by simp)
      · rw [if_neg c3] at H
        have c3b0 : decide (x10_1 < (l0.length : Int)) = false := decide_eq_false c3
        clear c3
        obtain rfl := Option.some.inj H
        go_wp2
        go_ret
        exact ⟨_, by first | rfl | (simp [errW_none, errW_some] <;> rfl) | (simp [*, errW_none, errW_some] <;> rfl), by (with_reducible repeat (first | apply Kd.R_alloc | apply Kd.R_drewN | apply Kd.R_drew)); exact HO_5.out, by repeat (first | (with_reducible first | exact HB.out | apply below_alloc | apply pw_below_drewN | apply below_drew1) | exact HB.out)⟩

end Go.Proofs.YtdmieaidheelbaaDoor.Q
end
/- PickVals -/
section
/- What the functions that pick hands its work to answer: over lists and numbers alone. -/
namespace Go.Proofs.YtdmieaidheelbaaDoor.Q
open Go Go.RowKit Go.Proofs.YtdmieaidheelbaaDoorW.PrintWords Go.Proofs.YtdmieaidheelbaaDoorW.PrintLast Go.Proofs.YtdmieaidheelbaaDoorW.PrintMore
set_option linter.unusedVariables false
set_option linter.unusedSimpArgs false

theorem w64 (n : Int) (h0 : 0 ≤ n) (h1 : n ≤ 1000000000) : wrap64 n = n := wrap_small n (by omega) (by omega)
theorem rd_eq (xs : List Int) (i : Nat) (h : i < xs.length) : rd xs (i : Int) = xs[i] := by simp [rd, h]
theorem rd36_eq (xs : List S36) (i : Nat) (h : i < xs.length) : rd_T36 xs (i : Int) = xs[i] := by simp [rd_T36, h]
theorem rdL7_eq (xs : List (List Int)) (i : Nat) (h : i < xs.length) : rd_L7 xs (i : Int) = xs[i] := by simp [rd_L7, h]

theorem index_loop (xs : List Int) (v : Int) (hl : xs.length ≤ 1000000) (d : Nat) : ∀ (k i : Nat), i + d = xs.length → d < k → ∃ r, slices_Index_int_int.l0 k xs v (xs.length : Int) (i : Int) = some r ∧ decide (r ≥ 0) = decide (v ∈ xs.drop i) := by
  induction d with
  | zero =>
    intro k i hi hk
    obtain ⟨k, rfl⟩ : ∃ m, k = m + 1 := ⟨k - 1, by omega⟩
    refine ⟨-1, by rw [slices_Index_int_int.l0, if_neg (by omega)], ?_⟩
    rw [List.drop_eq_nil_of_le (by omega)]; simp
  | succ d ih =>
    intro k i hi hk
    obtain ⟨k, rfl⟩ : ∃ m, k = m + 1 := ⟨k - 1, by omega⟩
    have hlt : i < xs.length := by omega
    rw [List.drop_eq_getElem_cons hlt]
    by_cases e : v = xs[i]
    · refine ⟨(i : Int), by rw [slices_Index_int_int.l0, if_pos (by omega), if_pos (by omega), if_pos (by omega), rd_eq _ _ hlt, if_pos e], ?_⟩
      rw [decide_eq_true (by omega), decide_eq_true (by rw [e]; exact List.mem_cons_self)]
    · obtain ⟨r, hr, hq⟩ := ih k (i + 1) (by omega) (by omega)
      refine ⟨r, ?_, ?_⟩
      · rw [slices_Index_int_int.l0, if_pos (by omega), if_pos (by omega), if_pos (by omega), rd_eq _ _ hlt, if_neg e, w64 _ (by omega) (by omega), show (i : Int) + 1 = ((i + 1 : Nat) : Int) by omega]
        exact hr
      · rw [hq]
        congr 1
        exact propext ⟨fun h => List.mem_cons_of_mem _ h, fun h => (List.mem_cons.1 h).resolve_left e⟩
theorem Contains_val (xs : List Int) (v : Int) (hl : xs.length ≤ 1000000) (k : Nat) (hk : xs.length < k) : slices_Contains_int_int.f k xs v = some (decide (v ∈ xs)) := by
  obtain ⟨r, hr, hq⟩ := index_loop xs v hl xs.length k 0 (by omega) hk
  unfold slices_Contains_int_int.f slices_Index_int_int.f
  rw [show (0 : Int) = ((0 : Nat) : Int) from rfl, hr, Option.bind_some]
  rw [List.drop_zero] at hq
  exact congrArg some hq

def wishesN (w : List S36) (ms : List Int) : List S36 := w.filter fun x => decide (x.f0 ∈ ms)
theorem wishes_loop (w : List S36) (ms : List Int) (hl : w.length ≤ 1000000) (hm : ms.length ≤ 1000000) (d : Nat) : ∀ (k i : Nat) (acc : List S36), i + d = w.length → acc.length ≤ i → d + ms.length < k →
    pick_wishes.l0 k ms acc w (w.length : Int) (i : Int) = some (acc ++ wishesN (w.drop i) ms) := by
  induction d with
  | zero =>
    intro k i acc hi ha hk
    obtain ⟨k, rfl⟩ : ∃ m, k = m + 1 := ⟨k - 1, by omega⟩
    rw [pick_wishes.l0, if_neg (by omega), List.drop_eq_nil_of_le (by omega)]; simp [wishesN]
  | succ d ih =>
    intro k i acc hi ha hk
    obtain ⟨k, rfl⟩ : ∃ m, k = m + 1 := ⟨k - 1, by omega⟩
    have hlt : i < w.length := by omega
    rw [pick_wishes.l0, if_pos (by omega), if_pos (by omega), if_pos (by omega), rd36_eq _ _ hlt, Contains_val _ _ hm _ (by omega), Option.bind_some, List.drop_eq_getElem_cons hlt, wishesN, List.filter_cons, w64 _ (by omega) (by omega), show (i : Int) + 1 = ((i + 1 : Nat) : Int) by omega]
    by_cases e : w[i].f0 ∈ ms
    · rw [if_pos (by simpa using e), if_pos (by omega), ih k (i + 1) _ (by omega) (by simp; omega) (by omega), if_pos (by simpa using e)]
      simp [wishesN]
    · rw [if_neg (by simpa using e), ih k (i + 1) _ (by omega) (by omega) (by omega), if_neg (by simpa using e)]
      rfl
theorem wishes_val (w : List S36) (ms : List Int) (hl : w.length ≤ 1000000) (hm : ms.length ≤ 1000000) (k : Nat) (hk : w.length + ms.length < k) : pick_wishes.f k w ms = some (wishesN w ms) := by
  unfold pick_wishes.f
  rw [show (0 : Int) = ((0 : Nat) : Int) from rfl, wishes_loop w ms hl hm w.length k 0 [] (by omega) (by simp) (by omega)]
  simp

/-! the choices of a member -/
theorem mem_listOf (s : Nat) (c : Int) : c ∈ listOf (s : Int) ↔ 0 ≤ c ∧ c < 8 ∧ s.testBit c.toNat = true := by
  unfold listOf
  rw [List.mem_map]
  constructor
  · rintro ⟨n, hn, rfl⟩
    obtain ⟨h1, h2⟩ := List.mem_filter.1 hn
    have : n < 8 := by simpa using h1
    exact ⟨by omega, by omega, by simpa using h2⟩
  · rintro ⟨h0, h1, h2⟩
    exact ⟨c.toNat, List.mem_filter.2 ⟨by simp; omega, by simpa using h2⟩, by omega⟩
theorem mem_listOf_has (s : Nat) (c : Int) : c ∈ listOf (s : Int) ↔ hasN s c = true := by
  rw [mem_listOf]; unfold hasN; simp [and_assoc]
theorem listOf_nodup (s : Nat) : (listOf (s : Int)).Nodup := by
  unfold listOf
  exact List.Pairwise.map _ (fun a b h e => h (by omega)) (List.Pairwise.filter _ List.nodup_range)
def choicesM (h s p : Nat) (at_ : Int) : List Int :=
  if hasN (allowsN h s p) at_ then at_ :: (listOf (minus (likesN h s p) (2 ^ at_.toNat) : Nat) ++ listOf (minus (minus (allowsN h s p) (2 ^ at_.toNat)) (minus (likesN h s p) (2 ^ at_.toNat)) : Nat))
  else listOf (likesN h s p : Nat) ++ listOf (minus (allowsN h s p) (likesN h s p) : Nat)
def choicesN (free : Nat) (x : S36) : List Int := choicesM x.f2.f0.toNat x.f2.f1.toNat free x.f1
theorem likes_sub (h s p c : Nat) (hc : (likesN h s p).testBit c = true) : (allowsN h s p).testBit c = true := by
  unfold likesN at hc
  split at hc
  · exact hc
  · rw [Nat.testBit_and] at hc
    simp only [Bool.and_eq_true] at hc
    exact hc.1
theorem mem_choicesM (h s p : Nat) (at_ c : Int) : c ∈ choicesM h s p at_ ↔ hasN (allowsN h s p) c = true := by
  have hA := allowsN_lt h s p
  have hL := likesN_lt h s p
  unfold choicesM
  by_cases ha : hasN (allowsN h s p) at_ = true
  · rw [if_pos ha]
    have h8 : 0 ≤ at_ ∧ at_ < 8 := by unfold hasN at ha; simp only [Bool.and_eq_true, decide_eq_true_eq] at ha; exact ha.1
    have hp := pow_lt256 at_.toNat (by omega)
    rw [List.mem_cons, List.mem_append, mem_listOf_has, mem_listOf_has]
    constructor
    · rintro (rfl | h1 | h1)
      · exact ha
      · unfold hasN at h1 ⊢
        simp only [Bool.and_eq_true, decide_eq_true_eq] at h1 ⊢
        obtain ⟨⟨h2, h3⟩, h4⟩ := h1
        rw [minus_bit _ _ _ hp (by omega)] at h4
        simp only [Bool.and_eq_true] at h4
        exact ⟨⟨h2, h3⟩, likes_sub _ _ _ _ h4.1⟩
      · unfold hasN at h1 ⊢
        simp only [Bool.and_eq_true, decide_eq_true_eq] at h1 ⊢
        obtain ⟨⟨h2, h3⟩, h4⟩ := h1
        rw [minus_bit _ _ _ (minus_lt _ _ hL) (by omega), minus_bit _ _ _ hp (by omega)] at h4
        simp only [Bool.and_eq_true] at h4
        exact ⟨⟨h2, h3⟩, h4.1.1⟩
    · intro hc
      by_cases e : c = at_
      · exact .inl e
      · have hc' := hc
        unfold hasN at hc'
        simp only [Bool.and_eq_true, decide_eq_true_eq] at hc'
        obtain ⟨⟨h2, h3⟩, h4⟩ := hc'
        have hb : (2 ^ at_.toNat).testBit c.toNat = false := by rw [pow_bit]; exact decide_eq_false (by omega)
        by_cases hl : (likesN h s p).testBit c.toNat = true
        · refine .inr (.inl ?_)
          unfold hasN
          simp only [Bool.and_eq_true, decide_eq_true_eq]
          exact ⟨⟨h2, h3⟩, by rw [minus_bit _ _ _ hp (by omega), hl, hb]; rfl⟩
        · refine .inr (.inr ?_)
          unfold hasN
          simp only [Bool.and_eq_true, decide_eq_true_eq]
          refine ⟨⟨h2, h3⟩, ?_⟩
          rw [minus_bit _ _ _ (minus_lt _ _ hL) (by omega), minus_bit _ _ _ hp (by omega), minus_bit _ _ _ hp (by omega), h4, hb, Bool.eq_false_iff.2 hl]; rfl
  · rw [if_neg ha, List.mem_append, mem_listOf_has, mem_listOf_has]
    constructor
    · rintro (h1 | h1) <;> unfold hasN at h1 ⊢ <;> simp only [Bool.and_eq_true, decide_eq_true_eq] at h1 ⊢ <;> obtain ⟨⟨h2, h3⟩, h4⟩ := h1
      · exact ⟨⟨h2, h3⟩, likes_sub _ _ _ _ h4⟩
      · rw [minus_bit _ _ _ hL (by omega)] at h4
        simp only [Bool.and_eq_true] at h4
        exact ⟨⟨h2, h3⟩, h4.1⟩
    · intro hc
      unfold hasN at hc ⊢
      simp only [Bool.and_eq_true, decide_eq_true_eq] at hc ⊢
      obtain ⟨⟨h2, h3⟩, h4⟩ := hc
      by_cases hl : (likesN h s p).testBit c.toNat = true
      · exact .inl ⟨⟨h2, h3⟩, hl⟩
      · exact .inr ⟨⟨h2, h3⟩, by rw [minus_bit _ _ _ hL (by omega), h4, Bool.eq_false_iff.2 hl]; rfl⟩
theorem choicesM_nodup (h s p : Nat) (at_ : Int) : (choicesM h s p at_).Nodup := by
  have hA := allowsN_lt h s p
  have hL := likesN_lt h s p
  unfold choicesM
  by_cases ha : hasN (allowsN h s p) at_ = true
  · rw [if_pos ha]
    have h8 : 0 ≤ at_ ∧ at_ < 8 := by unfold hasN at ha; simp only [Bool.and_eq_true, decide_eq_true_eq] at ha; exact ha.1
    have hp := pow_lt256 at_.toNat (by omega)
    refine List.nodup_cons.2 ⟨fun hm => ?_, List.nodup_append.2 ⟨listOf_nodup _, listOf_nodup _, fun a h1 b h2 e => ?_⟩⟩
    · rcases List.mem_append.1 hm with h1 | h1
      · obtain ⟨h2, h3, h4⟩ := (mem_listOf _ _).1 h1
        rw [minus_bit _ _ _ hp (by omega), pow_bit] at h4
        simp at h4
      · obtain ⟨h2, h3, h4⟩ := (mem_listOf _ _).1 h1
        rw [minus_bit _ _ _ (minus_lt _ _ hL) (by omega), minus_bit _ _ _ hp (by omega), pow_bit] at h4
        simp at h4
    · subst e
      obtain ⟨_, h3, h4⟩ := (mem_listOf _ _).1 h1
      obtain ⟨_, _, h5⟩ := (mem_listOf _ _).1 h2
      rw [minus_bit _ _ _ (minus_lt _ _ hL) (by omega), h4] at h5
      simp at h5
  · rw [if_neg ha]
    refine List.nodup_append.2 ⟨listOf_nodup _, listOf_nodup _, fun a h1 b h2 e => ?_⟩
    subst e
    obtain ⟨_, h3, h4⟩ := (mem_listOf _ _).1 h1
    obtain ⟨_, _, h5⟩ := (mem_listOf _ _).1 h2
    rw [minus_bit _ _ _ hL (by omega), h4] at h5
    simp at h5
theorem Choices_val (h s p : Nat) (v at_ : Int) (hh : h < 4294967296) (hs : s < 4294967296) (hp : p < 4294967296) (k : Nat) (hk : 2 ≤ k) : pick_Choices.f k v at_ (h : Int) (s : Int) (p : Int) = some (choicesM h s p at_) := by
  have hA := allowsN_lt h s p
  have hL := likesN_lt h s p
  unfold pick_Choices.f
  rw [Allows_val h s p hh hs hp k hk, Option.bind_some, Likes_val h s p hh hs hp k hk, Option.bind_some, Has_val _ (by omega), Option.bind_some]
  unfold choicesM
  by_cases ha : hasN (allowsN h s p) at_ = true
  · have h8 : 0 ≤ at_ ∧ at_ < 8 := by unfold hasN at ha; simp only [Bool.and_eq_true, decide_eq_true_eq] at ha; exact ha.1
    have hpw := pow_lt256 at_.toNat (by omega)
    have hsh : shl .u32 1 at_ = ((2 ^ at_.toNat : Nat) : Int) := by
      have := shl_one at_.toNat (by omega)
      rwa [show ((at_.toNat : Nat) : Int) = at_ by omega] at this
    rw [if_pos ha, if_pos ha, if_pos (by simp), Option.bind_some, if_pos h8.1, hsh, andNot_byte _ _ hL hpw, andNot_byte _ _ hA hpw, andNot_byte _ _ (minus_lt _ _ hA) (minus_lt _ _ hL)]
    have l1 := listOf_len (minus (likesN h s p) (2 ^ at_.toNat) : Nat)
    have l2 := listOf_len (minus (minus (allowsN h s p) (2 ^ at_.toNat)) (minus (likesN h s p) (2 ^ at_.toNat)) : Nat)
    have m1 := minus_lt (likesN h s p) (2 ^ at_.toNat) hL
    have m2 := minus_lt (minus (allowsN h s p) (2 ^ at_.toNat)) (minus (likesN h s p) (2 ^ at_.toNat)) (minus_lt _ _ hA)
    rw [List_val _ (by omega), Option.bind_some, if_pos (by simp; omega), Option.bind_some, List_val _ (by omega), Option.bind_some, if_pos (by simp; omega)]
    simp
  · rw [if_neg ha, if_neg ha]
    have l1 := listOf_len (likesN h s p : Nat)
    have l2 := listOf_len (minus (allowsN h s p) (likesN h s p) : Nat)
    have m2 := minus_lt (allowsN h s p) (likesN h s p) hA
    rw [List_val _ (by omega), Option.bind_some, if_pos (by simp; omega), Option.bind_some, andNot_byte _ _ hA hL, List_val _ (by omega), Option.bind_some, if_pos (by simp; omega)]
    simp
theorem rows_loop (ws : List S36) (free : Nat) (hf : free < 4294967296) (hwf : ∀ x ∈ ws, Wf34 x.f2) (hl : ws.length ≤ 1000000) (d : Nat) : ∀ (k i : Nat) (acc : List (List Int)), i + d = ws.length → acc.length ≤ i → d + 2 < k →
    pick_rows.l0 k (free : Int) acc ws (ws.length : Int) (i : Int) = some (acc ++ (ws.drop i).map (choicesN free)) := by
  induction d with
  | zero =>
    intro k i acc hi ha hk
    obtain ⟨k, rfl⟩ : ∃ m, k = m + 1 := ⟨k - 1, by omega⟩
    rw [pick_rows.l0, if_neg (by omega), List.drop_eq_nil_of_le (by omega)]; simp
  | succ d ih =>
    intro k i acc hi ha hk
    obtain ⟨k, rfl⟩ : ∃ m, k = m + 1 := ⟨k - 1, by omega⟩
    have hlt : i < ws.length := by omega
    obtain ⟨q1, q2, q3, q4⟩ := hwf _ (List.getElem_mem hlt)
    have hc := Choices_val ws[i].f2.f0.toNat ws[i].f2.f1.toNat free ws[i].f0 ws[i].f1 (by omega) (by omega) hf k (by omega)
    rw [show ((ws[i].f2.f0.toNat : Nat) : Int) = ws[i].f2.f0 by omega, show ((ws[i].f2.f1.toNat : Nat) : Int) = ws[i].f2.f1 by omega] at hc
    rw [pick_rows.l0, if_pos (by omega), if_pos (by omega), if_pos (by omega), rd36_eq _ _ hlt, hc, Option.bind_some, if_pos (by omega), w64 _ (by omega) (by omega), show (i : Int) + 1 = ((i + 1 : Nat) : Int) by omega, ih k (i + 1) _ (by omega) (by simp; omega) (by omega), List.drop_eq_getElem_cons hlt, List.append_assoc]
    rfl
theorem rows_val (ws : List S36) (free : Nat) (hf : free < 4294967296) (hwf : ∀ x ∈ ws, Wf34 x.f2) (hl : ws.length ≤ 1000000) (k : Nat) (hk : ws.length + 2 < k) : pick_rows.f k (free : Int) ws = some (ws.map (choicesN free)) := by
  unfold pick_rows.f
  rw [show (0 : Int) = ((0 : Nat) : Int) from rfl, rows_loop ws free hf hwf hl ws.length k 0 [] (by omega) (by simp) (by omega)]
  simp

/-! gang.choices, gang.Match -/
def orRow (s : Nat) (row : List Int) : Nat := row.foldl (fun s c => s ||| 2 ^ c.toNat) s
theorem ones_or : ∀ s : Fin 256, ∀ c : Fin 8, s.val.testBit c.val = false → ones (s.val ||| 2 ^ c.val) = ones s.val + 1 := by decide +kernel
theorem bit_val (c : Int) (h0 : 0 ≤ c) (h8 : c < 8) : cpuset_bit.f c = some ((2 ^ c.toNat : Nat) : Int) := by
  unfold cpuset_bit.f
  have := shl_one c.toNat (by omega)
  rw [show ((c.toNat : Nat) : Int) = c by omega] at this
  rw [if_neg (by omega), if_neg (by omega), if_pos h0, this]
theorem of_loop (row : List Int) (hr : ∀ c ∈ row, 0 ≤ c ∧ c < 8) (hl : row.length ≤ 1000000) (d : Nat) : ∀ (k i s : Nat), i + d = row.length → s < 256 → d < k → cpuset_Of.l0 k (s : Int) row (row.length : Int) (i : Int) = some (((orRow s (row.drop i) : Nat) : Int), (0 : Int)) := by
  induction d with
  | zero =>
    intro k i s hi hs hk
    obtain ⟨k, rfl⟩ : ∃ m, k = m + 1 := ⟨k - 1, by omega⟩
    rw [cpuset_Of.l0, if_neg (by omega), List.drop_eq_nil_of_le (by omega)]; rfl
  | succ d ih =>
    intro k i s hi hs hk
    obtain ⟨k, rfl⟩ : ∃ m, k = m + 1 := ⟨k - 1, by omega⟩
    have hlt : i < row.length := by omega
    obtain ⟨h0, h8⟩ := hr _ (List.getElem_mem hlt)
    have hp := pow_lt256 row[i].toNat (by omega)
    have hpos : 0 < 2 ^ row[i].toNat := Nat.two_pow_pos _
    rw [cpuset_Of.l0, if_pos (by omega), if_pos (by omega), if_pos (by omega), rd_eq _ _ hlt, bit_val _ h0 h8, Option.bind_some, if_neg (by omega), or_nat _ _ (by omega) (by omega), w64 _ (by omega) (by omega), show (i : Int) + 1 = ((i + 1 : Nat) : Int) by omega, ih k (i + 1) _ (by omega) (or_lt256 _ _ hs hp) (by omega), List.drop_eq_getElem_cons hlt]
    rfl
theorem orRow_ones (row : List Int) (hr : ∀ c ∈ row, 0 ≤ c ∧ c < 8) (hn : row.Nodup) : ∀ s, s < 256 → (∀ c ∈ row, s.testBit c.toNat = false) → orRow s row < 256 ∧ ones (orRow s row) = ones s + row.length := by
  induction row with
  | nil => intro s hs _; exact ⟨hs, rfl⟩
  | cons c row ih =>
    intro s hs hb
    obtain ⟨h1, h2⟩ := List.nodup_cons.1 hn
    obtain ⟨h0, h8⟩ := hr c (by simp)
    have hp := pow_lt256 c.toNat (by omega)
    obtain ⟨g1, g2⟩ := ih (fun x hx => hr x (by simp [hx])) h2 (s ||| 2 ^ c.toNat) (or_lt256 _ _ hs hp) (fun x hx => by
      have hx8 := hr x (by simp [hx])
      rw [Nat.testBit_or, hb x (by simp [hx]), pow_bit, decide_eq_false]
      · rfl
      · intro e
        have : c = x := by omega
        exact h1 (this ▸ hx))
    refine ⟨g1, ?_⟩
    show ones (orRow (s ||| 2 ^ c.toNat) row) = _
    have h3 := ones_or ⟨s, hs⟩ ⟨c.toNat, by omega⟩ (hb c (by simp))
    simp only at h3
    rw [g2, h3, List.length_cons]
    omega
theorem Count_val2 (s : Nat) (hs : s < 256) : cpuset_Count.f (s : Int) = some ((ones s : Nat) : Int) := by
  unfold cpuset_Count.f
  rw [show (255 : Int) = ((255 : Nat) : Int) from rfl, and_nat s 255 (by omega) (by omega), show s &&& 255 = s by rw [Nat.and_two_pow_sub_one_eq_mod s 8]; omega]
  unfold bits_OnesCount32.f
  rw [if_pos (by omega)]
  simp
def okChoice (row : List Int) : Prop := row.Nodup ∧ ∀ c ∈ row, 0 ≤ c ∧ c < 8
theorem okChoice.len {row : List Int} (h : okChoice row) : row.length ≤ 8 := by
  have := nodup_le row [0, 1, 2, 3, 4, 5, 6, 7] h.1 (fun c hc => by
    obtain ⟨h0, h8⟩ := h.2 c hc
    have : c = 0 ∨ c = 1 ∨ c = 2 ∨ c = 3 ∨ c = 4 ∨ c = 5 ∨ c = 6 ∨ c = 7 := by omega
    simpa using this)
  simpa using this
theorem gchoices_loop (rows : List (List Int)) (hl : rows.length ≤ 8) (hr : ∀ r ∈ rows, okChoice r) (d : Nat) : ∀ (k i : Nat), i + d = rows.length → d + 9 < k → gang_choices.l0 k rows rows (rows.length : Int) (i : Int) = some true := by
  induction d with
  | zero =>
    intro k i hi hk
    obtain ⟨k, rfl⟩ : ∃ m, k = m + 1 := ⟨k - 1, by omega⟩
    rw [gang_choices.l0, if_neg (by omega), decide_eq_true (by omega)]
  | succ d ih =>
    intro k i hi hk
    obtain ⟨k, rfl⟩ : ∃ m, k = m + 1 := ⟨k - 1, by omega⟩
    have hlt : i < rows.length := by omega
    have hok := hr _ (List.getElem_mem hlt)
    have hlen := hok.len
    have ho := of_loop rows[i] hok.2 (by omega) rows[i].length k 0 0 (by omega) (by omega) (by omega)
    obtain ⟨g1, g2⟩ := orRow_ones rows[i] hok.2 hok.1 0 (by omega) (fun c _ => by simp)
    rw [List.drop_zero] at ho
    rw [gang_choices.l0, if_pos (by omega), if_pos (by omega), if_pos (by omega), rdL7_eq _ _ hlt, cpuset_Of.f, show (0 : Int) = ((0 : Nat) : Int) from rfl, ho, Option.bind_some]
    simp only [if_true, Int.ofNat_zero]
    rw [Count_val2 _ g1, Option.bind_some, g2, show ones 0 = 0 from by decide, Nat.zero_add, if_pos rfl, w64 _ (by omega) (by omega), show (i : Int) + 1 = ((i + 1 : Nat) : Int) by omega]
    exact ih k (i + 1) (by omega) (by omega)
theorem gchoices_val (rows : List (List Int)) (hl : rows.length ≤ 8) (hr : ∀ r ∈ rows, okChoice r) (k : Nat) (hk : rows.length + 9 < k) : gang_choices.f k rows = some true := by
  unfold gang_choices.f
  exact gchoices_loop rows hl hr rows.length k 0 (by omega) hk
theorem matching_val (rows : List (List Int)) (hl : rows.length ≤ 8) (hr : ∀ r ∈ rows, okChoice r) : gang_matching.f rows = some (matchFrom rows []).isSome := by
  unfold gang_matching.f
  rw [if_pos ⟨hl, fun r h => ⟨by have := (hr r h).len; omega, (hr r h).2⟩⟩]
theorem mem_one {x c : Int} (h : x ∈ [c]) : x = c := by simpa using h
theorem set_mid (out : List Int) (z : List Int) (rest : List (List Int)) (c : Int) : (out.map (fun c => [c]) ++ z :: rest).set out.length [c] = (out ++ [c]).map (fun c => [c]) ++ rest := by
  rw [List.set_append_right _ _ (by simp)]
  simp
/-- the rest of a search -/
theorem match_l0 (rows : List (List Int)) (hl : rows.length ≤ 8) (hr : ∀ r ∈ rows, okChoice r) (m : List Int) (d : Nat) : ∀ (i : Nat) (out : List Int), i + d = rows.length → out.length = i → out.Nodup → (∀ c ∈ out, 0 ≤ c ∧ c < 8) → matchFrom (rows.drop i) out = some m →
    ∃ K, ∀ k, K ≤ k → gang_Match.l0 k (out.map (fun c => [c]) ++ rows.drop i) out rows (rows.length : Int) (i : Int) = some (m, true) := by
  induction d with
  | zero =>
    intro i out hi ho hn hc hm
    refine ⟨1, fun k hk => ?_⟩
    obtain ⟨k, rfl⟩ : ∃ q, k = q + 1 := ⟨k - 1, by omega⟩
    rw [List.drop_eq_nil_of_le (by omega)] at hm
    obtain rfl : out = m := by simpa [matchFrom] using hm
    rw [gang_Match.l0, if_neg (by omega)]
  | succ d ih =>
    intro i out hi ho hn hc hm
    have hlt : i < rows.length := by omega
    have hok := hr _ (List.getElem_mem hlt)
    have hlen := hok.len
    -- a row, from a place on
    have inner : ∀ (e j : Nat) (z : List Int), j + e = rows[i].length → okChoice z → (rows[i].drop j).findSome? (fun c => if c ∈ out then none else matchFrom (rows.drop (i + 1)) (out ++ [c])) = some m →
        ∃ K, ∀ k, K ≤ k → gang_Match.l1 k (out.map (fun c => [c]) ++ z :: rows.drop (i + 1)) out (i : Int) rows (rows.length : Int) (i : Int) rows[i] (rows[i].length : Int) (j : Int) = some (m, true) := by
      intro e
      induction e with
      | zero =>
        intro j z hj hz hf
        rw [show rows[i].drop j = [] from List.drop_eq_nil_of_le (by omega)] at hf
        cases hf
      | succ e ih2 =>
        intro j z hj hz hf
        have hjl : j < rows[i].length := by omega
        rw [List.drop_eq_getElem_cons hjl, List.findSome?_cons] at hf
        have hcj := hok.2 _ (List.getElem_mem hjl)
        generalize hcc : rows[i][j] = c at *
        by_cases hin : c ∈ out
        · rw [if_pos hin] at hf
          obtain ⟨K, hK⟩ := ih2 (j + 1) z (by omega) hz hf
          refine ⟨K + 20, fun k hk => ?_⟩
          obtain ⟨k, rfl⟩ : ∃ q, k = q + 1 := ⟨k - 1, by omega⟩
          rw [gang_Match.l1, if_pos (by omega), if_pos (by omega), if_pos (by omega), rd_eq _ _ hjl, hcc, Contains_val _ _ (by omega) _ (by omega), Option.bind_some, if_pos (by simpa using hin), w64 _ (by omega) (by omega), show (j : Int) + 1 = ((j + 1 : Nat) : Int) by omega]
          exact hK k (by omega)
        · rw [if_neg hin] at hf
          have hn2 : (out ++ [c]).Nodup := List.nodup_append.2 ⟨hn, by simp, fun a ha b hb e => hin (mem_one hb ▸ e ▸ ha)⟩
          have hc2 : ∀ x ∈ out ++ [c], 0 ≤ x ∧ x < 8 := fun x hx => by
            rcases List.mem_append.1 hx with h | h
            · exact hc x h
            · have : x = c := by simpa using h
              rw [this]; exact hcj
          have hys : ∀ r ∈ (out ++ [c]).map (fun c => [c]) ++ rows.drop (i + 1), okChoice r := fun r h => by
            rcases List.mem_append.1 h with h | h
            · obtain ⟨x, hx, rfl⟩ := List.mem_map.1 h
              exact ⟨by simp, fun y hy => mem_one hy ▸ hc2 x hx⟩
            · exact hr r (List.mem_of_mem_drop h)
          have hyl : ((out ++ [c]).map (fun c => [c]) ++ rows.drop (i + 1)).length ≤ 8 := by simp; omega
          have hmv := matching_val _ hyl hys
          rw [match_singles _ _ _ (by simpa using hn2), List.nil_append] at hmv
          have hset := set_mid out z (rows.drop (i + 1)) c
          rw [ho] at hset
          cases hq : matchFrom (rows.drop (i + 1)) (out ++ [c]) with
          | some m2 =>
            rw [hq] at hf hmv
            obtain rfl : m2 = m := by simpa using hf
            obtain ⟨K, hK⟩ := ih (i + 1) (out ++ [c]) (by omega) (by simp [ho]) hn2 hc2 hq
            refine ⟨K + 20, fun k hk => ?_⟩
            obtain ⟨k, rfl⟩ : ∃ q, k = q + 1 := ⟨k - 1, by omega⟩
            rw [gang_Match.l1, if_pos (by omega), if_pos (by omega), if_pos (by omega), rd_eq _ _ hjl, hcc, Contains_val _ _ (by omega) _ (by omega), Option.bind_some, if_neg (by simpa using hin), if_pos (by omega), if_pos (by simp; omega), Int.toNat_natCast, hset, Option.bind_some, hmv, Option.bind_some, if_pos (by simp), if_pos (by omega), w64 _ (by omega) (by omega), show (i : Int) + 1 = ((i + 1 : Nat) : Int) by omega]
            exact hK k (by omega)
          | none =>
            rw [hq] at hf hmv
            obtain ⟨K, hK⟩ := ih2 (j + 1) [c] (by omega) ⟨by simp, fun y hy => mem_one hy ▸ hcj⟩ hf
            refine ⟨K + 20, fun k hk => ?_⟩
            obtain ⟨k, rfl⟩ : ∃ q, k = q + 1 := ⟨k - 1, by omega⟩
            rw [gang_Match.l1, if_pos (by omega), if_pos (by omega), if_pos (by omega), rd_eq _ _ hjl, hcc, Contains_val _ _ (by omega) _ (by omega), Option.bind_some, if_neg (by simpa using hin), if_pos (by omega), if_pos (by simp; omega), Int.toNat_natCast, hset, Option.bind_some, hmv, Option.bind_some, if_neg (by simp), w64 _ (by omega) (by omega), show (j : Int) + 1 = ((j + 1 : Nat) : Int) by omega]
            have := hK k (by omega)
            simpa using this
    have hm2 := hm
    rw [List.drop_eq_getElem_cons hlt, matchFrom] at hm2
    obtain ⟨K, hK⟩ := inner rows[i].length 0 rows[i] (by omega) hok (by rw [List.drop_zero]; exact hm2)
    refine ⟨K + 1, fun k hk => ?_⟩
    obtain ⟨k, rfl⟩ : ∃ q, k = q + 1 := ⟨k - 1, by omega⟩
    rw [gang_Match.l0, if_pos (by omega), if_pos (by omega), if_pos (by omega), rdL7_eq _ _ hlt, List.drop_eq_getElem_cons hlt]
    exact hK k (by omega)
def matchP (rows : List (List Int)) : List Int × Bool := match matchFrom rows [] with | some m => (m, true) | none => ([], false)
theorem Match_val (rows : List (List Int)) (h0 : 0 < rows.length) (hl : rows.length ≤ 8) (hr : ∀ r ∈ rows, okChoice r) : ∃ K, ∀ k, K ≤ k → gang_Match.f k rows = some (matchP rows) := by
  have hmv := matching_val rows hl hr
  unfold matchP
  cases hq : matchFrom rows [] with
  | none =>
    rw [hq] at hmv
    refine ⟨20, fun k hk => ?_⟩
    unfold gang_Match.f
    obtain ⟨k, rfl⟩ : ∃ q, k = q + 1 := ⟨k - 1, by omega⟩
    rw [gchoices_val rows hl hr _ (by omega), Option.bind_some, if_pos rfl, hmv, Option.bind_some, gang_Match.j0, if_pos (by simp)]
  | some m =>
    rw [hq] at hmv
    obtain ⟨K, hK⟩ := match_l0 rows hl hr m rows.length 0 [] (by omega) rfl (by simp) (by simp) hq
    refine ⟨K + 20, fun k hk => ?_⟩
    unfold gang_Match.f
    obtain ⟨k, rfl⟩ : ∃ q, k = q + 1 := ⟨k - 1, by omega⟩
    rw [gchoices_val rows hl hr _ (by omega), Option.bind_some, if_pos rfl, hmv, Option.bind_some, gang_Match.j0, if_neg (by simp)]
    unfold slices_Clone_int_int.f
    rw [if_pos ⟨h0, by omega⟩, Option.bind_some]
    have := hK k (by omega)
    simpa using this
def takesP (free : Nat) (ws : List S36) : List Int × Bool := if 1 < ws.length then matchP (ws.map (choicesN free)) else match ws with
  | x :: _ => ([(bestN x.f2.f0.toNat x.f2.f1.toNat free x.f1).1], (bestN x.f2.f0.toNat x.f2.f1.toNat free x.f1).2)
  | [] => ([], false)
theorem choice_ok (free : Nat) (x : S36) : okChoice (choicesN free x) := ⟨choicesM_nodup _ _ _ _, fun c hc => by
  have := (mem_choicesM _ _ _ _ c).1 hc
  unfold hasN at this
  simp only [Bool.and_eq_true, decide_eq_true_eq] at this
  exact this.1⟩
theorem takes_val (ws : List S36) (free : Nat) (hf : free < 4294967296) (hwf : ∀ x ∈ ws, Wf34 x.f2) (h0 : 0 < ws.length) (hl : ws.length ≤ 8) : ∃ K, ∀ k, K ≤ k → pick_takes.f k ws (free : Int) = some (takesP free ws) := by
  unfold takesP
  by_cases h1 : 1 < ws.length
  · obtain ⟨K, hK⟩ := Match_val (ws.map (choicesN free)) (by simpa using h0) (by simpa using hl) (fun r h => by
      obtain ⟨x, _, rfl⟩ := List.mem_map.1 h
      exact choice_ok free x)
    refine ⟨K + 20, fun k hk => ?_⟩
    unfold pick_takes.f
    rw [if_pos (by omega), if_pos h1, rows_val ws free hf hwf (by omega) k (by omega), Option.bind_some, hK k (by omega), Option.bind_some]
  · refine ⟨2, fun k hk => ?_⟩
    unfold pick_takes.f
    obtain ⟨x, rfl⟩ : ∃ x, ws = [x] := by
      match ws, h0, h1 with
      | [x], _, _ => exact ⟨x, rfl⟩
      | _ :: _ :: _, _, h => simp at h
    obtain ⟨q1, q2, q3, q4⟩ := hwf x (by simp)
    have hb := Best_val x.f2.f0.toNat x.f2.f1.toNat free x.f1 (by omega) (by omega) hf k hk
    rw [show ((x.f2.f0.toNat : Nat) : Int) = x.f2.f0 by omega, show ((x.f2.f1.toNat : Nat) : Int) = x.f2.f1 by omega] at hb
    rw [if_neg (by simp), if_pos (by simp), if_neg (by simp), show rd_T36 [x] 0 = x from rfl, hb, Option.bind_some]
end Go.Proofs.YtdmieaidheelbaaDoor.Q
end
/- QFlaw19Askover -/
section
-- Written by a program of this session (hprint.py), which drives the kit's print over hand-proved contracts. Lean checks it.
namespace Go.Proofs.YtdmieaidheelbaaDoor.Q
open Go.RowKit Go.Proofs.YtdmieaidheelbaaDoorW.PrintWords Go.Proofs.YtdmieaidheelbaaDoorW.PrintLast Go.Proofs.YtdmieaidheelbaaDoorW.PrintMore
attribute [local go_sem] max2_int min2_int max_two min_two max_three min_three max_four min_four   -- for this text's walks alone
set_option linter.unusedVariables false
set_option linter.unusedSimpArgs false

/-! ### mainsheetlaw19_Ask_over: function 19 -/
mutual
def mainsheetlaw19_Ask_over.j0 : Nat → Bool → List (S90) → List (S36) → Int → Option (Bool)
  | 0, _, _, _, _ => none
  | k + 1, x14, x347000, x347001, x347002 => if x14 = true then (some true) else (mainsheetlaw19_Ask_over.l0 k x347000 (x347000.length : Int) 0)
def mainsheetlaw19_Ask_over.l0 : Nat → List (S90) → Int → Int → Option (Bool)
  | 0, _, _, _ => none
  | k + 1, x16, x17, x18 => if x18 < x17 then (if 0 ≤ x18 then (if x18 < (x16.length : Int) then (if (((rd_T90 x16 x18).f0).length : Int) > 40 then (some true) else (mainsheetlaw19_Ask_over.l0 k x16 x17 (wrap64 (x18 + 1)))) else (none)) else (none)) else (some false)
end
def mainsheetlaw19_Ask_over.f (k : Nat) (l0_0 : List (S90)) (l0_1 : List (S36)) (a0_2 : Int) : Option (Bool) := if (l0_0.length : Int) > 40 then (mainsheetlaw19_Ask_over.j0 k true l0_0 l0_1 a0_2) else (mainsheetlaw19_Ask_over.j0 k (decide ((l0_1.length : Int) > 60)) l0_0 l0_1 a0_2)
theorem mainsheetlaw19_Ask_over.mono_l : ∀ k, (∀ y0 y1 y2 y3, LeO (mainsheetlaw19_Ask_over.j0 k y0 y1 y2 y3) (mainsheetlaw19_Ask_over.j0 (k + 1) y0 y1 y2 y3)) ∧ (∀ y0 y1 y2, LeO (mainsheetlaw19_Ask_over.l0 k y0 y1 y2) (mainsheetlaw19_Ask_over.l0 (k + 1) y0 y1 y2))
  | 0 => ⟨fun _ _ _ _ r h => by simp [mainsheetlaw19_Ask_over.j0] at h, fun _ _ _ r h => by simp [mainsheetlaw19_Ask_over.l0] at h⟩
  | k + 1 => by
    obtain ⟨ih0, ih1⟩ := mainsheetlaw19_Ask_over.mono_l k
    refine ⟨?_, ?_⟩
    · intro y0 y1 y2 y3
      unfold mainsheetlaw19_Ask_over.j0
      repeat' first
      | (with_reducible exact ih0 _ _ _ _)
      | (with_reducible exact ih1 _ _ _)
      | (with_reducible exact LeO.refl _)
      | (with_reducible exact LeO.none _)
      | (with_reducible refine LeO.ite ?_ ?_)
      | (with_reducible refine LeO.bind ?_ (fun _ => ?_))
      | exact ih0 _ _ _ _
      | exact ih1 _ _ _
      | exact LeO.none _
      | refine LeO.ite ?_ ?_
      | refine LeO.bind ?_ (fun _ => ?_)
    · intro y0 y1 y2
      unfold mainsheetlaw19_Ask_over.l0
      repeat' first
      | (with_reducible exact ih0 _ _ _ _)
      | (with_reducible exact ih1 _ _ _)
      | (with_reducible exact LeO.refl _)
      | (with_reducible exact LeO.none _)
      | (with_reducible refine LeO.ite ?_ ?_)
      | (with_reducible refine LeO.bind ?_ (fun _ => ?_))
      | exact ih0 _ _ _ _
      | exact ih1 _ _ _
      | exact LeO.none _
      | refine LeO.ite ?_ ?_
      | refine LeO.bind ?_ (fun _ => ?_)
theorem mainsheetlaw19_Ask_over.mono : ∀ a0 a1 a2 k, LeO (mainsheetlaw19_Ask_over.f k a0 a1 a2) (mainsheetlaw19_Ask_over.f (k + 1) a0 a1 a2) := by
  intro a0 a1 a2 k
  obtain ⟨ih0, ih1⟩ := mainsheetlaw19_Ask_over.mono_l k
  unfold mainsheetlaw19_Ask_over.f
  repeat' first
      | (with_reducible exact ih0 _ _ _ _)
      | (with_reducible exact ih1 _ _ _)
      | (with_reducible exact LeO.refl _)
      | (with_reducible exact LeO.none _)
      | (with_reducible refine LeO.ite ?_ ?_)
      | (with_reducible refine LeO.bind ?_ (fun _ => ?_))
      | exact ih0 _ _ _ _
      | exact ih1 _ _ _
      | exact LeO.none _
      | refine LeO.ite ?_ ?_
      | refine LeO.bind ?_ (fun _ => ?_)
set_option maxHeartbeats 8000000 in
set_option maxRecDepth 100000 in
theorem mainsheetlaw19_Ask_over.calls (k : Nat) (A0_0 : Option Addr) (c0_0 : Nat) (l0_0 : List (S90)) (A0_1 : Option Addr) (c0_1 : Nat) (l0_1 : List (S36)) (a0_2 : Int) (r : Bool) (w : World) (hr0_0 : Kd.C k90 w A0_0 l0_0.length l0_0) (hc0_0 : l0_0.length ≤ c0_0) (hr0_1 : Kd.C k36 w A0_1 l0_1.length l0_1) (hc0_1 : l0_1.length ≤ c0_1) (h : mainsheetlaw19_Ask_over.f k l0_0 l0_1 a0_2 = some r) :
    Calls Tryd.prog 19 #[.agg #[.slice A0_0 l0_0.length c0_0, .slice A0_1 l0_1.length c0_1, .int .u32 a0_2]] w fun e w' => e = .returned (.bool r) ∧ Below w.heap.size w w' := by
  have hu41 := Tryd.underlying41
  have hu90 := Tryd.underlying90
  have HR0_0 := Aside0.mk hr0_0
  have HC0_0 := Aside0.mk hc0_0
  clear hr0_0 hc0_0
  have HR0_1 := Aside0.mk hr0_1
  have HC0_1 := Aside0.mk hc0_1
  clear hr0_1 hc0_1
  have HB := Aside0.mk (Below.refl w.heap.size w)
  have H : (if (l0_0.length : Int) > 40 then (mainsheetlaw19_Ask_over.j0 k true l0_0 l0_1 a0_2) else (mainsheetlaw19_Ask_over.j0 k (decide ((l0_1.length : Int) > 60)) l0_0 l0_1 a0_2)) = some r := h
  clear h
  have HC2 := Aside0.mk H
  clear H
  go_enter Tryd.func19, Tryd.ntmps19
  go_upto_region 1 with (first | ((with_reducible refine gate_dst (N := 1) rfl ?_); (try (refine gate_guard (by rfl) ?_; dsimp only)); refine box_event ?hg (N := 1) ?hd (cs := #[.slice A0_0 l0_0.length c0_0, .slice A0_1 l0_1.length c0_1, .int .u32 a0_2]) (t := 41) ?hr ?_; (case hd => rfl); (case hg => rfl); (case hr => first | (go_simp; done) | (go_simp; rfl)); intro gb346 hg w3 hbox hb; have n0_ := Aside0.mk (below_step (by repeat (first | (with_reducible first | exact HB.out | apply below_alloc | apply pw_below_drewN | apply below_drew1) | exact HB.out)) hb); have n1_ := Aside0.mk (hbox); have n2_ := Aside0.mk ((by rw [hg]; exact (below_size (by repeat (first | (with_reducible first | exact HB.out | apply below_alloc | apply pw_below_drewN | apply below_drew1) | exact HB.out))) : w.heap.size ≤ gb346)); have n3_ := Aside0.mk ((by rw [hg]; exact (below_size (by repeat (first | (with_reducible first | exact HB.out | apply below_alloc | apply pw_below_drewN | apply below_drew1) | exact HB.out))) : w.heap.size ≤ gb346)); clear HB; have HB := n0_; have BK346 := n1_; have GW346 := n2_; have GE346 := n3_; clear n0_ n1_ n2_ n3_; clear hb hbox hg))
  (try simp only [Act.put, List.setIfInBounds_toArray, List.set_cons_zero, List.set_cons_succ])
  go_cut [14] (fun v14 wc => ∃ (kq : Nat) (x14_1 : Bool), v14 = .bool x14_1 ∧ Aside0 (mainsheetlaw19_Ask_over.j0 kq x14_1 l0_0 l0_1 a0_2 = some r) ∧ Aside0 (kq ≤ k) ∧ Aside0 (wc.heap[gb346]? = some (.cells #[(.slice A0_0 l0_0.length c0_0), (.slice A0_1 l0_1.length c0_1), .int .u32 a0_2] 41 (0, 0))) ∧ Aside0 (Below w.heap.size w wc))
  case first =>
    have H := HC2.out
    clear HC2
    by_cases c4 : (l0_0.length : Int) > 40
    · rw [if_pos c4] at H
      have c4b0 : decide (40 < (l0_0.length : Int)) = true := decide_eq_true c4
      have c4b1 : decide (40 < l0_0.length) = true := decide_eq_true (by omega)
      clear c4
      (first | rw [c4b0] | (simp only [i64_w, i32_w]; rw [c4b0]) | skip)
      have H' := Aside0.mk H
      clear H
      have hcz5_0 : w3.cell? ⟨gb346, 0, none⟩ = some (.slice A0_0 l0_0.length c0_0) := (blk_cell BK346.out 0).trans rfl
      have hcz5_1 : w3.cell? ⟨gb346, 1, none⟩ = some (.slice A0_1 l0_1.length c0_1) := (blk_cell BK346.out 1).trans rfl
      have hcz5_2 : w3.cell? ⟨gb346, 2, none⟩ = some (.int .u32 a0_2) := (blk_cell BK346.out 2).trans rfl
      have hfz5_0 := blk_frozen BK346.out 0
      have hfz5_1 := blk_frozen BK346.out 1
      have hfz5_2 := blk_frozen BK346.out 2
      go_wp2
      go_meet
      case rel => exact ⟨_, (true), (by first | rfl | (simp; done) | (simp [*]; done)), H', ⟨by first | omega | exact Nat.le_refl _⟩, ⟨by (with_reducible repeat (first | refine blk_drewN ?_ _ | refine blk_drew ?_ | refine blk_alloc ?_ _)); exact BK346.out⟩, ⟨by repeat (first | (with_reducible first | exact HB.out | apply below_alloc | apply pw_below_drewN | apply below_drew1 | refine below_set ?_ GE346.out) | exact HB.out)⟩⟩
    · rw [if_neg c4] at H
      have c4b0 : decide (40 < (l0_0.length : Int)) = false := decide_eq_false c4
      have c4b1 : decide (40 < l0_0.length) = false := decide_eq_false (by omega)
      clear c4
      (first | rw [c4b0] | (simp only [i64_w, i32_w]; rw [c4b0]) | skip)
      have H' := Aside0.mk H
      clear H
      have hcz6_0 : w3.cell? ⟨gb346, 0, none⟩ = some (.slice A0_0 l0_0.length c0_0) := (blk_cell BK346.out 0).trans rfl
      have hcz6_1 : w3.cell? ⟨gb346, 1, none⟩ = some (.slice A0_1 l0_1.length c0_1) := (blk_cell BK346.out 1).trans rfl
      have hcz6_2 : w3.cell? ⟨gb346, 2, none⟩ = some (.int .u32 a0_2) := (blk_cell BK346.out 2).trans rfl
      have hfz6_0 := blk_frozen BK346.out 0
      have hfz6_1 := blk_frozen BK346.out 1
      have hfz6_2 := blk_frozen BK346.out 2
      go_wp2
      go_meet
      case rel => exact ⟨_, (decide ((l0_1.length : Int) > 60)), (by first | rfl | (simp; done) | (simp [*]; done)), H', ⟨by first | omega | exact Nat.le_refl _⟩, ⟨by (with_reducible repeat (first | refine blk_drewN ?_ _ | refine blk_drew ?_ | refine blk_alloc ?_ _)); exact BK346.out⟩, ⟨by repeat (first | (with_reducible first | exact HB.out | apply below_alloc | apply pw_below_drewN | apply below_drew1 | refine below_set ?_ GE346.out) | exact HB.out)⟩⟩
  case rest =>
    clear HC2
    try clear c1
    try clear p2
    try clear c4
    try clear c4b0
    try clear c4b1
    try clear hcz5_0
    try clear hcz5_1
    try clear hcz5_2
    try clear hcz6_0
    try clear hcz6_1
    try clear hcz6_2
    try clear hfz5_0
    try clear hfz5_1
    try clear hfz5_2
    try clear hfz6_0
    try clear hfz6_1
    try clear hfz6_2
    obtain ⟨kq, x14_1, rfl, HA, HJ1, BK346, HB⟩ := hcut
    cases kq with
    | zero => exact absurd HA.out (by simp [mainsheetlaw19_Ask_over.j0])
    | succ kj1 =>
      have H := HA.out
      clear HA
      simp only [mainsheetlaw19_Ask_over.j0] at H
      by_cases c7 : x14_1 = true
      · subst c7
        have H1 : (some true) = some r := by rw [if_pos rfl] at H; exact H
        clear H
        have H := H1
        clear H1
        obtain rfl := Option.some.inj H
        go_wp2
        go_ret
        exact ⟨by first | rfl | (simp [errW_none, errW_some] <;> rfl) | (simp [*, errW_none, errW_some] <;> rfl), by repeat (first | (with_reducible first | exact HB.out | apply below_alloc | apply pw_below_drewN | apply below_drew1 | refine below_set ?_ GE346.out) | exact HB.out)⟩
      · replace c7 := Bool.eq_false_iff.mpr c7
        subst c7
        have H1 : (mainsheetlaw19_Ask_over.l0 kj1 l0_0 (l0_0.length : Int) 0) = some r := by rw [if_neg (show ¬ (false = true) by decide)] at H; exact H
        clear H
        have H := H1
        clear H1
        have H' := Aside0.mk H
        clear H
        have hcz8_0 : wc.cell? ⟨gb346, 0, none⟩ = some (.slice A0_0 l0_0.length c0_0) := (blk_cell BK346.out 0).trans rfl
        have hcz8_1 : wc.cell? ⟨gb346, 1, none⟩ = some (.slice A0_1 l0_1.length c0_1) := (blk_cell BK346.out 1).trans rfl
        have hcz8_2 : wc.cell? ⟨gb346, 2, none⟩ = some (.int .u32 a0_2) := (blk_cell BK346.out 2).trans rfl
        have hfz8_0 := blk_frozen BK346.out 0
        have hfz8_1 := blk_frozen BK346.out 1
        have hfz8_2 := blk_frozen BK346.out 2
        go_wp2
        go_loopg [18] kj1 (fun kq v18 w' => ∃ (x18_2 : Int), v18 = .int .i64 x18_2 ∧ Aside0 (mainsheetlaw19_Ask_over.l0 kq l0_0 (l0_0.length : Int) x18_2 = some r) ∧ Aside0 (kq ≤ kj1) ∧ Aside0 (w'.heap[gb346]? = some (.cells #[(.slice A0_0 l0_0.length c0_0), (.slice A0_1 l0_1.length c0_1), .int .u32 a0_2] 41 (0, 0))) ∧ Aside0 (Below w.heap.size w w'))
        case atStart => exact ⟨(0), (by first | rfl | (simp; done) | (simp [*]; done)), H', ⟨Nat.le_refl _⟩, ⟨by (with_reducible repeat (first | refine blk_drewN ?_ _ | refine blk_drew ?_ | refine blk_alloc ?_ _)); exact BK346.out⟩, ⟨by repeat (first | (with_reducible first | exact HB.out | apply below_alloc | apply pw_below_drewN | apply below_drew1 | refine below_set ?_ GE346.out) | exact HB.out)⟩⟩
        case round =>
          clear H'
          try clear c1
          try clear p2
          try clear c4
          try clear c4b0
          try clear c4b1
          try clear c7
          try clear hcz5_0
          try clear hcz5_1
          try clear hcz5_2
          try clear hcz6_0
          try clear hcz6_1
          try clear hcz6_2
          try clear hcz8_0
          try clear hcz8_1
          try clear hcz8_2
          try clear hfz5_0
          try clear hfz5_1
          try clear hfz5_2
          try clear hfz6_0
          try clear hfz6_1
          try clear hfz6_2
          try clear hfz8_0
          try clear hfz8_1
          try clear hfz8_2
          try clear p2
          obtain ⟨x18_2, rfl, HA, HK2, BK346, HB⟩ := hrel
          cases gk with
          | zero => exact absurd HA.out (by simp [mainsheetlaw19_Ask_over.l0])
          | succ k2 =>
            have H := HA.out
            clear HA
            simp only [mainsheetlaw19_Ask_over.l0] at H
            by_cases c9 : x18_2 < (l0_0.length : Int)
            · rw [if_pos c9] at H
              have c9b0 : decide (x18_2 < (l0_0.length : Int)) = true := decide_eq_true c9
              clear c9
              by_cases c10 : 0 ≤ x18_2
              · rw [if_pos c10] at H
                have c10b0 : decide (0 ≤ x18_2) = true := decide_eq_true c10
                clear c10
                by_cases c11 : x18_2 < (l0_0.length : Int)
                · rw [if_pos c11] at H
                  have c11b0 : decide (x18_2 < (l0_0.length : Int)) = true := decide_eq_true c11
                  clear c11
                  by_cases c12 : (((rd_T90 l0_0 x18_2).f0).length : Int) > 40
                  · rw [if_pos c12] at H
                    have c12b0 : decide (40 < (((rd_T90 l0_0 x18_2).f0).length : Int)) = true := decide_eq_true c12
                    have c12b1 : decide (40 < ((rd_T90 l0_0 x18_2).f0).length) = true := decide_eq_true (by omega)
                    clear c12
                    obtain rfl := Option.some.inj H
                    have p347 : 0 ≤ (x18_2 : Int) := of_decide_eq_true (by first | (with_reducible assumption) | assumption)
                    have q347 : x18_2 < (l0_0.length : Int) := of_decide_eq_true (by first | (with_reducible assumption) | assumption)
                    obtain ⟨ad347, A347_0, c347_0, e347, hx347_0, hx347_1, hx347_2, hx347_3, hx347_4, hx347_5, hl347_0, hi347_0⟩ := at_T90 HR0_0.out x18_2 p347 q347
                    cases e347
                    replace hx347_0 := (HB.out.cell (World.block_lt_of_cell? w _ hx347_0)).trans hx347_0
                    replace hx347_1 := (HB.out.cell (World.block_lt_of_cell? w _ hx347_1)).trans hx347_1
                    replace hx347_2 := (HB.out.cell (World.block_lt_of_cell? w _ hx347_2)).trans hx347_2
                    replace hx347_3 := (HB.out.cell (World.block_lt_of_cell? w _ hx347_3)).trans hx347_3
                    replace hx347_4 := (HB.out.cell (World.block_lt_of_cell? w _ hx347_4)).trans hx347_4
                    replace hx347_5 := (HB.out.cell (World.block_lt_of_cell? w _ hx347_5)).trans hx347_5
                    have HR347_0 := Aside0.mk hi347_0
                    have HC347_0 := Aside0.mk hl347_0
                    clear hi347_0 hl347_0
                    replace p347 := eq_true p347
                    replace q347 := eq_true q347
                    go_wp2_with (first | ((with_reducible refine gate_dst (N := 4) rfl ?_); (try (refine gate_guard (by rfl) ?_; dsimp only)); refine box_event ?hg (N := 4) ?hd (cs := #[.slice none 0 0, .int .u64 0, .int .u64 0, .int .u64 0, .int .u64 0, .bool false]) (t := 90) ?hr ?_; (case hd => rfl); (case hg => rfl); (case hr => first | (go_simp; done) | (go_simp; rfl)); intro gb348 hg w13 hbox hb; have n0_ := Aside0.mk (blk_below (g := gb346) (o := .cells #[.slice (some ad347) l0_0.length c0_0, .slice A0_1 l0_1.length c0_1, .int .u32 a0_2] 41 (0, 0)) (by (with_reducible repeat (first | refine blk_drewN ?_ _ | refine blk_drew ?_ | refine blk_alloc ?_ _)); exact BK346.out) hb); have n1_ := Aside0.mk (below_step (by repeat (first | (with_reducible first | exact HB.out | apply below_alloc | apply pw_below_drewN | apply below_drew1 | refine below_set ?_ GE346.out) | exact HB.out)) hb); have n2_ := Aside0.mk (hbox); have n3_ := Aside0.mk ((by rw [hg]; exact (below_size (by repeat (first | (with_reducible first | exact HB.out | apply below_alloc | apply pw_below_drewN | apply below_drew1 | refine below_set ?_ GE346.out) | exact HB.out))) : w.heap.size ≤ gb348)); have n4_ := Aside0.mk ((by rw [hg]; exact (below_size (by repeat (first | (with_reducible first | exact HB.out | apply below_alloc | apply pw_below_drewN | apply below_drew1 | refine below_set ?_ GE346.out) | exact HB.out))) : w.heap.size ≤ gb348)); have n5_ := Aside0.mk ((by rw [hg]; exact Nat.ne_of_lt (blk_lt (g := gb346) (o := .cells #[.slice (some ad347) l0_0.length c0_0, .slice A0_1 l0_1.length c0_1, .int .u32 a0_2] 41 (0, 0)) (by (with_reducible repeat (first | refine blk_drewN ?_ _ | refine blk_drew ?_ | refine blk_alloc ?_ _)); exact BK346.out)) : gb346 ≠ gb348)); have n6_ := Aside0.mk ((by rw [hg]; exact Nat.ne_of_gt (blk_lt (g := gb346) (o := .cells #[.slice (some ad347) l0_0.length c0_0, .slice A0_1 l0_1.length c0_1, .int .u32 a0_2] 41 (0, 0)) (by (with_reducible repeat (first | refine blk_drewN ?_ _ | refine blk_drew ?_ | refine blk_alloc ?_ _)); exact BK346.out)) : gb348 ≠ gb346)); clear BK346; clear HB; have BK346 := n0_; have HB := n1_; have BK348 := n2_; have GW348 := n3_; have GE348 := n4_; have NB346_348 := n5_; have NB348_346 := n6_; clear n0_ n1_ n2_ n3_ n4_ n5_ n6_; clear hb hbox hg; have hnb14 := NB348_346.out; have hnc14 := NB346_348.out; have hcz15_0 : w13.cell? ⟨gb348, 0, none⟩ = some (.slice none 0 0) := (blk_cell BK348.out 0).trans rfl; have hcz15_1 : w13.cell? ⟨gb348, 1, none⟩ = some (.int .u64 0) := (blk_cell BK348.out 1).trans rfl; have hcz15_2 : w13.cell? ⟨gb348, 2, none⟩ = some (.int .u64 0) := (blk_cell BK348.out 2).trans rfl; have hcz15_3 : w13.cell? ⟨gb348, 3, none⟩ = some (.int .u64 0) := (blk_cell BK348.out 3).trans rfl; have hcz15_4 : w13.cell? ⟨gb348, 4, none⟩ = some (.int .u64 0) := (blk_cell BK348.out 4).trans rfl; have hcz15_5 : w13.cell? ⟨gb348, 5, none⟩ = some (.bool false) := (blk_cell BK348.out 5).trans rfl; have hfz15_0 := blk_frozen BK348.out 0; have hfz15_1 := blk_frozen BK348.out 1; have hfz15_2 := blk_frozen BK348.out 2; have hfz15_3 := blk_frozen BK348.out 3; have hfz15_4 := blk_frozen BK348.out 4; have hfz15_5 := blk_frozen BK348.out 5))
                    go_ret
                    exact ⟨by first | rfl | (simp [errW_none, errW_some] <;> rfl) | (simp [*, errW_none, errW_some] <;> rfl), by repeat (first | (with_reducible first | exact HB.out | apply below_alloc | apply pw_below_drewN | apply below_drew1 | refine below_set ?_ GE346.out | refine below_set ?_ GE348.out) | exact HB.out)⟩
                  · rw [if_neg c12] at H
                    have c12b0 : decide (40 < (((rd_T90 l0_0 x18_2).f0).length : Int)) = false := decide_eq_false c12
                    have c12b1 : decide (40 < ((rd_T90 l0_0 x18_2).f0).length) = false := decide_eq_false (by omega)
                    clear c12
                    have H' := Aside0.mk H
                    clear H
                    have p347 : 0 ≤ (x18_2 : Int) := of_decide_eq_true (by first | (with_reducible assumption) | assumption)
                    have q347 : x18_2 < (l0_0.length : Int) := of_decide_eq_true (by first | (with_reducible assumption) | assumption)
                    obtain ⟨ad347, A347_0, c347_0, e347, hx347_0, hx347_1, hx347_2, hx347_3, hx347_4, hx347_5, hl347_0, hi347_0⟩ := at_T90 HR0_0.out x18_2 p347 q347
                    cases e347
                    replace hx347_0 := (HB.out.cell (World.block_lt_of_cell? w _ hx347_0)).trans hx347_0
                    replace hx347_1 := (HB.out.cell (World.block_lt_of_cell? w _ hx347_1)).trans hx347_1
                    replace hx347_2 := (HB.out.cell (World.block_lt_of_cell? w _ hx347_2)).trans hx347_2
                    replace hx347_3 := (HB.out.cell (World.block_lt_of_cell? w _ hx347_3)).trans hx347_3
                    replace hx347_4 := (HB.out.cell (World.block_lt_of_cell? w _ hx347_4)).trans hx347_4
                    replace hx347_5 := (HB.out.cell (World.block_lt_of_cell? w _ hx347_5)).trans hx347_5
                    have HR347_0 := Aside0.mk hi347_0
                    have HC347_0 := Aside0.mk hl347_0
                    clear hi347_0 hl347_0
                    replace p347 := eq_true p347
                    replace q347 := eq_true q347
                    go_wp2_with (first | ((with_reducible refine gate_dst (N := 4) rfl ?_); (try (refine gate_guard (by rfl) ?_; dsimp only)); refine box_event ?hg (N := 4) ?hd (cs := #[.slice none 0 0, .int .u64 0, .int .u64 0, .int .u64 0, .int .u64 0, .bool false]) (t := 90) ?hr ?_; (case hd => rfl); (case hg => rfl); (case hr => first | (go_simp; done) | (go_simp; rfl)); intro gb348 hg w16 hbox hb; have n0_ := Aside0.mk (blk_below (g := gb346) (o := .cells #[.slice (some ad347) l0_0.length c0_0, .slice A0_1 l0_1.length c0_1, .int .u32 a0_2] 41 (0, 0)) (by (with_reducible repeat (first | refine blk_drewN ?_ _ | refine blk_drew ?_ | refine blk_alloc ?_ _)); exact BK346.out) hb); have n1_ := Aside0.mk (below_step (by repeat (first | (with_reducible first | exact HB.out | apply below_alloc | apply pw_below_drewN | apply below_drew1 | refine below_set ?_ GE346.out) | exact HB.out)) hb); have n2_ := Aside0.mk (hbox); have n3_ := Aside0.mk ((by rw [hg]; exact (below_size (by repeat (first | (with_reducible first | exact HB.out | apply below_alloc | apply pw_below_drewN | apply below_drew1 | refine below_set ?_ GE346.out) | exact HB.out))) : w.heap.size ≤ gb348)); have n4_ := Aside0.mk ((by rw [hg]; exact (below_size (by repeat (first | (with_reducible first | exact HB.out | apply below_alloc | apply pw_below_drewN | apply below_drew1 | refine below_set ?_ GE346.out) | exact HB.out))) : w.heap.size ≤ gb348)); have n5_ := Aside0.mk ((by rw [hg]; exact Nat.ne_of_lt (blk_lt (g := gb346) (o := .cells #[.slice (some ad347) l0_0.length c0_0, .slice A0_1 l0_1.length c0_1, .int .u32 a0_2] 41 (0, 0)) (by (with_reducible repeat (first | refine blk_drewN ?_ _ | refine blk_drew ?_ | refine blk_alloc ?_ _)); exact BK346.out)) : gb346 ≠ gb348)); have n6_ := Aside0.mk ((by rw [hg]; exact Nat.ne_of_gt (blk_lt (g := gb346) (o := .cells #[.slice (some ad347) l0_0.length c0_0, .slice A0_1 l0_1.length c0_1, .int .u32 a0_2] 41 (0, 0)) (by (with_reducible repeat (first | refine blk_drewN ?_ _ | refine blk_drew ?_ | refine blk_alloc ?_ _)); exact BK346.out)) : gb348 ≠ gb346)); clear BK346; clear HB; have BK346 := n0_; have HB := n1_; have BK348 := n2_; have GW348 := n3_; have GE348 := n4_; have NB346_348 := n5_; have NB348_346 := n6_; clear n0_ n1_ n2_ n3_ n4_ n5_ n6_; clear hb hbox hg; have hnb17 := NB348_346.out; have hnc17 := NB346_348.out; have hcz18_0 : w16.cell? ⟨gb348, 0, none⟩ = some (.slice none 0 0) := (blk_cell BK348.out 0).trans rfl; have hcz18_1 : w16.cell? ⟨gb348, 1, none⟩ = some (.int .u64 0) := (blk_cell BK348.out 1).trans rfl; have hcz18_2 : w16.cell? ⟨gb348, 2, none⟩ = some (.int .u64 0) := (blk_cell BK348.out 2).trans rfl; have hcz18_3 : w16.cell? ⟨gb348, 3, none⟩ = some (.int .u64 0) := (blk_cell BK348.out 3).trans rfl; have hcz18_4 : w16.cell? ⟨gb348, 4, none⟩ = some (.int .u64 0) := (blk_cell BK348.out 4).trans rfl; have hcz18_5 : w16.cell? ⟨gb348, 5, none⟩ = some (.bool false) := (blk_cell BK348.out 5).trans rfl; have hfz18_0 := blk_frozen BK348.out 0; have hfz18_1 := blk_frozen BK348.out 1; have hfz18_2 := blk_frozen BK348.out 2; have hfz18_3 := blk_frozen BK348.out 3; have hfz18_4 := blk_frozen BK348.out 4; have hfz18_5 := blk_frozen BK348.out 5))
                    go_roundg k2
                    case measure => have := HJ1.out; have := HK2.out; omega
                    case rel => exact ⟨(wrap64 (x18_2 + 1)), (by first | rfl | (simp; done) | (simp [*]; done)), H', ⟨by have := HJ1.out; have := HK2.out; omega⟩, ⟨by (with_reducible repeat (first | refine blk_drewN ?_ _ | refine blk_drew ?_ | refine blk_alloc ?_ _)); refine blk_far ?_ NB346_348.out _; (with_reducible repeat (first | refine blk_drewN ?_ _ | refine blk_drew ?_ | refine blk_alloc ?_ _)); refine blk_far ?_ NB346_348.out _; (with_reducible repeat (first | refine blk_drewN ?_ _ | refine blk_drew ?_ | refine blk_alloc ?_ _)); refine blk_far ?_ NB346_348.out _; (with_reducible repeat (first | refine blk_drewN ?_ _ | refine blk_drew ?_ | refine blk_alloc ?_ _)); refine blk_far ?_ NB346_348.out _; (with_reducible repeat (first | refine blk_drewN ?_ _ | refine blk_drew ?_ | refine blk_alloc ?_ _)); refine blk_far ?_ NB346_348.out _; (with_reducible repeat (first | refine blk_drewN ?_ _ | refine blk_drew ?_ | refine blk_alloc ?_ _)); refine blk_far ?_ NB346_348.out _; (with_reducible repeat (first | refine blk_drewN ?_ _ | refine blk_drew ?_ | refine blk_alloc ?_ _)); exact BK346.out⟩, ⟨by repeat (first | (with_reducible first | exact HB.out | apply below_alloc | apply pw_below_drewN | apply below_drew1 | refine below_set ?_ GE346.out | refine below_set ?_ GE348.out) | exact HB.out)⟩⟩
                · rw [if_neg c11] at H
                  exact absurd H (by simp)
              · rw [if_neg c10] at H
                exact absurd H (by simp)
            · rw [if_neg c9] at H
              have c9b0 : decide (x18_2 < (l0_0.length : Int)) = false := decide_eq_false c9
              clear c9
              obtain rfl := Option.some.inj H
              go_wp2
              go_ret
              exact ⟨by first | rfl | (simp [errW_none, errW_some] <;> rfl) | (simp [*, errW_none, errW_some] <;> rfl), by repeat (first | (with_reducible first | exact HB.out | apply below_alloc | apply pw_below_drewN | apply below_drew1 | refine below_set ?_ GE346.out) | exact HB.out)⟩

end Go.Proofs.YtdmieaidheelbaaDoor.Q
end
/- QFlaw19Askwish -/
section
-- Written by a program of this session (hprint.py), which drives the kit's print over hand-proved contracts. Lean checks it.
namespace Go.Proofs.YtdmieaidheelbaaDoor.Q
open Go.RowKit Go.Proofs.YtdmieaidheelbaaDoorW.PrintWords Go.Proofs.YtdmieaidheelbaaDoorW.PrintLast Go.Proofs.YtdmieaidheelbaaDoorW.PrintMore
attribute [local go_sem] max2_int min2_int max_two min_two max_three min_three max_four min_four   -- for this text's walks alone
set_option linter.unusedVariables false
set_option linter.unusedSimpArgs false

/-! ### mainsheetlaw19_Ask_wish: function 23 -/
def mainsheetlaw19_Ask_wish.l0 : Nat → Int → List (S36) → Int → Int → Option (Int × Int × Int × Int)
  | 0, _, _, _, _ => none
  | k + 1, x1, x8, x9, x10 => if x10 < x9 then (if 0 ≤ x10 then (if x10 < (x8.length : Int) then (if ((rd_T36 x8 x10).f0) = x1 then (some ((rd_T36 x8 x10).f0, (rd_T36 x8 x10).f1, (rd_T36 x8 x10).f2.f0, (rd_T36 x8 x10).f2.f1)) else (mainsheetlaw19_Ask_wish.l0 k x1 x8 x9 (wrap64 (x10 + 1)))) else (none)) else (none)) else (some (0, 0, 0, 0))
def mainsheetlaw19_Ask_wish.f (k : Nat) (l0_0 : List (S90)) (l0_1 : List (S36)) (a0_2 : Int) (a1 : Int) : Option (Int × Int × Int × Int) := mainsheetlaw19_Ask_wish.l0 k a1 l0_1 (l0_1.length : Int) 0
theorem mainsheetlaw19_Ask_wish.mono_l : ∀ k, (∀ y0 y1 y2 y3, LeO (mainsheetlaw19_Ask_wish.l0 k y0 y1 y2 y3) (mainsheetlaw19_Ask_wish.l0 (k + 1) y0 y1 y2 y3))
  | 0 => fun _ _ _ _ r h => by simp [mainsheetlaw19_Ask_wish.l0] at h
  | k + 1 => by
    have ih0 := mainsheetlaw19_Ask_wish.mono_l k
    · intro y0 y1 y2 y3
      unfold mainsheetlaw19_Ask_wish.l0
      repeat' first
      | (with_reducible exact ih0 _ _ _ _)
      | (with_reducible exact LeO.refl _)
      | (with_reducible exact LeO.none _)
      | (with_reducible refine LeO.ite ?_ ?_)
      | (with_reducible refine LeO.bind ?_ (fun _ => ?_))
      | exact ih0 _ _ _ _
      | exact LeO.none _
      | refine LeO.ite ?_ ?_
      | refine LeO.bind ?_ (fun _ => ?_)
theorem mainsheetlaw19_Ask_wish.mono : ∀ a0 a1 a2 a3 k, LeO (mainsheetlaw19_Ask_wish.f k a0 a1 a2 a3) (mainsheetlaw19_Ask_wish.f (k + 1) a0 a1 a2 a3) := by
  intro a0 a1 a2 a3 k
  have ih0 := mainsheetlaw19_Ask_wish.mono_l k
  unfold mainsheetlaw19_Ask_wish.f
  repeat' first
      | (with_reducible exact ih0 _ _ _ _)
      | (with_reducible exact LeO.refl _)
      | (with_reducible exact LeO.none _)
      | (with_reducible refine LeO.ite ?_ ?_)
      | (with_reducible refine LeO.bind ?_ (fun _ => ?_))
      | exact ih0 _ _ _ _
      | exact LeO.none _
      | refine LeO.ite ?_ ?_
      | refine LeO.bind ?_ (fun _ => ?_)
set_option maxHeartbeats 8000000 in
set_option maxRecDepth 100000 in
theorem mainsheetlaw19_Ask_wish.calls (k : Nat) (A0_0 : Option Addr) (c0_0 : Nat) (l0_0 : List (S90)) (A0_1 : Option Addr) (c0_1 : Nat) (l0_1 : List (S36)) (a0_2 : Int) (a1 : Int) (r1 : Int) (r2 : Int) (r3 : Int) (r4 : Int) (w : World) (hr0_0 : Kd.C k90 w A0_0 l0_0.length l0_0) (hc0_0 : l0_0.length ≤ c0_0) (hr0_1 : Kd.C k36 w A0_1 l0_1.length l0_1) (hc0_1 : l0_1.length ≤ c0_1) (h : mainsheetlaw19_Ask_wish.f k l0_0 l0_1 a0_2 a1 = some (r1, r2, r3, r4)) :
    Calls Tryd.prog 23 #[.agg #[.slice A0_0 l0_0.length c0_0, .slice A0_1 l0_1.length c0_1, .int .u32 a0_2], .int .i64 a1] w fun e w' => e = .returned (.agg #[.int .i64 r1, .int .i64 r2, .int .u32 r3, .int .u32 r4]) ∧ Below w.heap.size w w' := by
  have hu41 := Tryd.underlying41
  have hu36 := Tryd.underlying36
  have HR0_0 := Aside0.mk hr0_0
  have HC0_0 := Aside0.mk hc0_0
  clear hr0_0 hc0_0
  have HR0_1 := Aside0.mk hr0_1
  have HC0_1 := Aside0.mk hc0_1
  clear hr0_1 hc0_1
  have HB := Aside0.mk (Below.refl w.heap.size w)
  have H : (mainsheetlaw19_Ask_wish.l0 k a1 l0_1 (l0_1.length : Int) 0) = some (r1, r2, r3, r4) := h
  clear h
  have H' := Aside0.mk H
  clear H
  go_enter Tryd.func23, Tryd.ntmps23
  go_wp2_with (first | ((with_reducible refine gate_dst (N := 2) rfl ?_); refine box_event ?hg (N := 2) ?hd (cs := #[.slice A0_0 l0_0.length c0_0, .slice A0_1 l0_1.length c0_1, .int .u32 a0_2]) (t := 41) ?hr ?_; (case hd => rfl); (case hg => rfl); (case hr => first | (go_simp; done) | (go_simp; rfl)); intro gb349 hg w3 hbox hb; have n0_ := Aside0.mk (below_step (by repeat (first | (with_reducible first | exact HB.out | apply below_alloc | apply pw_below_drewN | apply below_drew1) | exact HB.out)) hb); have n1_ := Aside0.mk (hbox); have n2_ := Aside0.mk ((by rw [hg]; exact (below_size (by repeat (first | (with_reducible first | exact HB.out | apply below_alloc | apply pw_below_drewN | apply below_drew1) | exact HB.out))) : w.heap.size ≤ gb349)); have n3_ := Aside0.mk ((by rw [hg]; exact (below_size (by repeat (first | (with_reducible first | exact HB.out | apply below_alloc | apply pw_below_drewN | apply below_drew1) | exact HB.out))) : w.heap.size ≤ gb349)); clear HB; have HB := n0_; have BK349 := n1_; have GW349 := n2_; have GE349 := n3_; clear n0_ n1_ n2_ n3_; clear hb hbox hg) | ((with_reducible refine gate_dst (N := 4) rfl ?_); refine box_event ?hg (N := 4) ?hd (cs := #[.int .i64 0, .int .i64 0, .int .u32 0, .int .u32 0]) (t := 36) ?hr ?_; (case hd => rfl); (case hg => rfl); (case hr => first | (go_simp; done) | (go_simp; rfl)); intro gb350 hg w4 hbox hb; have n0_ := Aside0.mk (blk_below (g := gb349) (o := .cells #[.slice A0_0 l0_0.length c0_0, .slice A0_1 l0_1.length c0_1, .int .u32 a0_2] 41 (0, 0)) (by (with_reducible repeat (first | refine blk_drewN ?_ _ | refine blk_drew ?_ | refine blk_alloc ?_ _)); exact BK349.out) hb); have n1_ := Aside0.mk (below_step (by repeat (first | (with_reducible first | exact HB.out | apply below_alloc | apply pw_below_drewN | apply below_drew1 | refine below_set ?_ GE349.out) | exact HB.out)) hb); have n2_ := Aside0.mk (hbox); have n3_ := Aside0.mk ((by rw [hg]; exact (below_size (by repeat (first | (with_reducible first | exact HB.out | apply below_alloc | apply pw_below_drewN | apply below_drew1 | refine below_set ?_ GE349.out) | exact HB.out))) : w.heap.size ≤ gb350)); have n4_ := Aside0.mk ((by rw [hg]; exact (below_size (by repeat (first | (with_reducible first | exact HB.out | apply below_alloc | apply pw_below_drewN | apply below_drew1 | refine below_set ?_ GE349.out) | exact HB.out))) : w.heap.size ≤ gb350)); have n5_ := Aside0.mk ((by rw [hg]; exact Nat.ne_of_lt (blk_lt (g := gb349) (o := .cells #[.slice A0_0 l0_0.length c0_0, .slice A0_1 l0_1.length c0_1, .int .u32 a0_2] 41 (0, 0)) (by (with_reducible repeat (first | refine blk_drewN ?_ _ | refine blk_drew ?_ | refine blk_alloc ?_ _)); exact BK349.out)) : gb349 ≠ gb350)); have n6_ := Aside0.mk ((by rw [hg]; exact Nat.ne_of_gt (blk_lt (g := gb349) (o := .cells #[.slice A0_0 l0_0.length c0_0, .slice A0_1 l0_1.length c0_1, .int .u32 a0_2] 41 (0, 0)) (by (with_reducible repeat (first | refine blk_drewN ?_ _ | refine blk_drew ?_ | refine blk_alloc ?_ _)); exact BK349.out)) : gb350 ≠ gb349)); clear BK349; clear HB; have BK349 := n0_; have HB := n1_; have BK350 := n2_; have GW350 := n3_; have GE350 := n4_; have NB349_350 := n5_; have NB350_349 := n6_; clear n0_ n1_ n2_ n3_ n4_ n5_ n6_; clear hb hbox hg; have hnb5 := NB349_350.out; have hnc5 := NB350_349.out; have hcz6_0 : w4.cell? ⟨gb349, 0, none⟩ = some (.slice A0_0 l0_0.length c0_0) := (blk_cell BK349.out 0).trans rfl; have hcz6_1 : w4.cell? ⟨gb349, 1, none⟩ = some (.slice A0_1 l0_1.length c0_1) := (blk_cell BK349.out 1).trans rfl; have hcz6_2 : w4.cell? ⟨gb349, 2, none⟩ = some (.int .u32 a0_2) := (blk_cell BK349.out 2).trans rfl; have hfz6_0 := blk_frozen BK349.out 0; have hfz6_1 := blk_frozen BK349.out 1; have hfz6_2 := blk_frozen BK349.out 2))
  go_loopg [10] k (fun kq v10 w' => ∃ (x10_1 : Int) (x351000_1 : Int) (x351001_1 : Int) (x351002_1 : Int) (x351003_1 : Int), v10 = .int .i64 x10_1 ∧ Aside0 (mainsheetlaw19_Ask_wish.l0 kq a1 l0_1 (l0_1.length : Int) x10_1 = some (r1, r2, r3, r4)) ∧ Aside0 (kq ≤ k) ∧ Aside0 (w'.heap[gb349]? = some (.cells #[(.slice A0_0 l0_0.length c0_0), (.slice A0_1 l0_1.length c0_1), .int .u32 a0_2] 41 (0, 0))) ∧ Aside0 (w'.heap[gb350]? = some (.cells #[.int .i64 x351000_1, .int .i64 x351001_1, .int .u32 x351002_1, .int .u32 x351003_1] 36 (0, 0))) ∧ Aside0 (Below w.heap.size w w'))
  case atStart => exact ⟨(0), (0), (0), (0), (0), (by first | rfl | (simp; done) | (simp [*]; done)), H', ⟨Nat.le_refl _⟩, ⟨by (with_reducible repeat (first | refine blk_drewN ?_ _ | refine blk_drew ?_ | refine blk_alloc ?_ _)); exact BK349.out⟩, ⟨by (with_reducible repeat (first | refine blk_drewN ?_ _ | refine blk_drew ?_ | refine blk_alloc ?_ _)); exact BK350.out⟩, ⟨by repeat (first | (with_reducible first | exact HB.out | apply below_alloc | apply pw_below_drewN | apply below_drew1 | refine below_set ?_ GE349.out | refine below_set ?_ GE350.out) | exact HB.out)⟩⟩
  case round =>
    clear H'
    try clear c2
    try clear p2
    try clear c5
    try clear hcz6_0
    try clear hcz6_1
    try clear hcz6_2
    try clear hfz6_0
    try clear hfz6_1
    try clear hfz6_2
    obtain ⟨x10_1, x351000_1, x351001_1, x351002_1, x351003_1, rfl, HA, HK1, BK349, BK350, HB⟩ := hrel
    cases gk with
    | zero => exact absurd HA.out (by simp [mainsheetlaw19_Ask_wish.l0])
    | succ k1 =>
      have H := HA.out
      clear HA
      simp only [mainsheetlaw19_Ask_wish.l0] at H
      by_cases c7 : x10_1 < (l0_1.length : Int)
      · rw [if_pos c7] at H
        have c7b0 : decide (x10_1 < (l0_1.length : Int)) = true := decide_eq_true c7
        clear c7
        by_cases c8 : 0 ≤ x10_1
        · rw [if_pos c8] at H
          have c8b0 : decide (0 ≤ x10_1) = true := decide_eq_true c8
          clear c8
          by_cases c9 : x10_1 < (l0_1.length : Int)
          · rw [if_pos c9] at H
            have c9b0 : decide (x10_1 < (l0_1.length : Int)) = true := decide_eq_true c9
            clear c9
            by_cases c10 : ((rd_T36 l0_1 x10_1).f0) = a1
            · rw [if_pos c10] at H
              have c10b0 : (((rd_T36 l0_1 x10_1).f0) == a1) = true := beq_iff_eq.mpr c10
              have c10b1 : (((rd_T36 l0_1 x10_1).f0) != a1) = false := bne_eq_false_iff_eq.mpr c10
              clear c10
              simp only [Option.some.injEq, Prod.mk.injEq] at H
              obtain ⟨rfl, rfl, rfl, rfl⟩ := H
              have p351 : 0 ≤ (x10_1 : Int) := of_decide_eq_true (by first | (with_reducible assumption) | assumption)
              have q351 : x10_1 < (l0_1.length : Int) := of_decide_eq_true (by first | (with_reducible assumption) | assumption)
              obtain ⟨ad351, e351, hx351_0, hx351_1, hx351_2, hx351_3⟩ := at_T36 HR0_1.out x10_1 p351 q351
              cases e351
              replace hx351_0 := (HB.out.cell (World.block_lt_of_cell? w _ hx351_0)).trans hx351_0
              replace hx351_1 := (HB.out.cell (World.block_lt_of_cell? w _ hx351_1)).trans hx351_1
              replace hx351_2 := (HB.out.cell (World.block_lt_of_cell? w _ hx351_2)).trans hx351_2
              replace hx351_3 := (HB.out.cell (World.block_lt_of_cell? w _ hx351_3)).trans hx351_3
              replace p351 := eq_true p351
              replace q351 := eq_true q351
              go_wp2_with (first | ((with_reducible refine gate_dst (N := 6) rfl ?_); refine box_event ?hg (N := 6) ?hd (cs := #[.int .i64 0, .int .i64 0, .int .u32 0, .int .u32 0]) (t := 36) ?hr ?_; (case hd => rfl); (case hg => rfl); (case hr => first | (go_simp; done) | (go_simp; rfl)); intro gb352 hg w11 hbox hb; have n0_ := Aside0.mk (blk_below (g := gb349) (o := .cells #[.slice A0_0 l0_0.length c0_0, .slice (some ad351) l0_1.length c0_1, .int .u32 a0_2] 41 (0, 0)) (by (with_reducible repeat (first | refine blk_drewN ?_ _ | refine blk_drew ?_ | refine blk_alloc ?_ _)); exact BK349.out) hb); have n1_ := Aside0.mk (blk_below (g := gb350) (o := .cells #[.int .i64 x351000_1, .int .i64 x351001_1, .int .u32 x351002_1, .int .u32 x351003_1] 36 (0, 0)) (by (with_reducible repeat (first | refine blk_drewN ?_ _ | refine blk_drew ?_ | refine blk_alloc ?_ _)); exact BK350.out) hb); have n2_ := Aside0.mk (below_step (by repeat (first | (with_reducible first | exact HB.out | apply below_alloc | apply pw_below_drewN | apply below_drew1 | refine below_set ?_ GE349.out | refine below_set ?_ GE350.out) | exact HB.out)) hb); have n3_ := Aside0.mk (hbox); have n4_ := Aside0.mk ((by rw [hg]; exact (below_size (by repeat (first | (with_reducible first | exact HB.out | apply below_alloc | apply pw_below_drewN | apply below_drew1 | refine below_set ?_ GE349.out | refine below_set ?_ GE350.out) | exact HB.out))) : w.heap.size ≤ gb352)); have n5_ := Aside0.mk ((by rw [hg]; exact (below_size (by repeat (first | (with_reducible first | exact HB.out | apply below_alloc | apply pw_below_drewN | apply below_drew1 | refine below_set ?_ GE349.out | refine below_set ?_ GE350.out) | exact HB.out))) : w.heap.size ≤ gb352)); have n6_ := Aside0.mk ((by rw [hg]; exact Nat.ne_of_lt (blk_lt (g := gb349) (o := .cells #[.slice A0_0 l0_0.length c0_0, .slice (some ad351) l0_1.length c0_1, .int .u32 a0_2] 41 (0, 0)) (by (with_reducible repeat (first | refine blk_drewN ?_ _ | refine blk_drew ?_ | refine blk_alloc ?_ _)); exact BK349.out)) : gb349 ≠ gb352)); have n7_ := Aside0.mk ((by rw [hg]; exact Nat.ne_of_gt (blk_lt (g := gb349) (o := .cells #[.slice A0_0 l0_0.length c0_0, .slice (some ad351) l0_1.length c0_1, .int .u32 a0_2] 41 (0, 0)) (by (with_reducible repeat (first | refine blk_drewN ?_ _ | refine blk_drew ?_ | refine blk_alloc ?_ _)); exact BK349.out)) : gb352 ≠ gb349)); have n8_ := Aside0.mk ((by rw [hg]; exact Nat.ne_of_lt (blk_lt (g := gb350) (o := .cells #[.int .i64 x351000_1, .int .i64 x351001_1, .int .u32 x351002_1, .int .u32 x351003_1] 36 (0, 0)) (by (with_reducible repeat (first | refine blk_drewN ?_ _ | refine blk_drew ?_ | refine blk_alloc ?_ _)); exact BK350.out)) : gb350 ≠ gb352)); have n9_ := Aside0.mk ((by rw [hg]; exact Nat.ne_of_gt (blk_lt (g := gb350) (o := .cells #[.int .i64 x351000_1, .int .i64 x351001_1, .int .u32 x351002_1, .int .u32 x351003_1] 36 (0, 0)) (by (with_reducible repeat (first | refine blk_drewN ?_ _ | refine blk_drew ?_ | refine blk_alloc ?_ _)); exact BK350.out)) : gb352 ≠ gb350)); clear BK349; clear BK350; clear HB; have BK349 := n0_; have BK350 := n1_; have HB := n2_; have BK352 := n3_; have GW352 := n4_; have GE352 := n5_; have NB349_352 := n6_; have NB352_349 := n7_; have NB350_352 := n8_; have NB352_350 := n9_; clear n0_ n1_ n2_ n3_ n4_ n5_ n6_ n7_ n8_ n9_; clear hb hbox hg; have hnb12 := NB352_349.out; have hnc12 := NB349_352.out; have hnb13 := NB352_350.out; have hnc13 := NB350_352.out; have hcz14_0 : w11.cell? ⟨gb352, 0, none⟩ = some (.int .i64 0) := (blk_cell BK352.out 0).trans rfl; have hcz14_1 : w11.cell? ⟨gb352, 1, none⟩ = some (.int .i64 0) := (blk_cell BK352.out 1).trans rfl; have hcz14_2 : w11.cell? ⟨gb352, 2, none⟩ = some (.int .u32 0) := (blk_cell BK352.out 2).trans rfl; have hcz14_3 : w11.cell? ⟨gb352, 3, none⟩ = some (.int .u32 0) := (blk_cell BK352.out 3).trans rfl; have hfz14_0 := blk_frozen BK352.out 0; have hfz14_1 := blk_frozen BK352.out 1; have hfz14_2 := blk_frozen BK352.out 2; have hfz14_3 := blk_frozen BK352.out 3; have hnb15 := NB350_349.out; have hnc15 := NB349_350.out; have hcz16_0 : w11.cell? ⟨gb350, 0, none⟩ = some (.int .i64 x351000_1) := (blk_cell BK350.out 0).trans rfl; have hcz16_1 : w11.cell? ⟨gb350, 1, none⟩ = some (.int .i64 x351001_1) := (blk_cell BK350.out 1).trans rfl; have hcz16_2 : w11.cell? ⟨gb350, 2, none⟩ = some (.int .u32 x351002_1) := (blk_cell BK350.out 2).trans rfl; have hcz16_3 : w11.cell? ⟨gb350, 3, none⟩ = some (.int .u32 x351003_1) := (blk_cell BK350.out 3).trans rfl; have hfz16_0 := blk_frozen BK350.out 0; have hfz16_1 := blk_frozen BK350.out 1; have hfz16_2 := blk_frozen BK350.out 2; have hfz16_3 := blk_frozen BK350.out 3))
              refine bodyPost_ret (results_cell_row rfl _ _ gb350 36 #[.int .i64 ((rd_T36 l0_1 x10_1).f0), .int .i64 ((rd_T36 l0_1 x10_1).f1), .int .u32 ((rd_T36 l0_1 x10_1).f2.f0), .int .u32 ((rd_T36 l0_1 x10_1).f2.f1)] (0, 0) _ rfl (by (with_reducible repeat (first | refine blk_drewN ?_ _ | refine blk_drew ?_ | refine blk_alloc ?_ _)); refine blk_put (cs := #[.int .i64 ((rd_T36 l0_1 x10_1).f0), .int .i64 ((rd_T36 l0_1 x10_1).f1), .int .u32 ((rd_T36 l0_1 x10_1).f2.f0), .int .u32 x351003_1]) ?_ 3 _ rfl; (with_reducible repeat (first | refine blk_drewN ?_ _ | refine blk_drew ?_ | refine blk_alloc ?_ _)); refine blk_put (cs := #[.int .i64 ((rd_T36 l0_1 x10_1).f0), .int .i64 ((rd_T36 l0_1 x10_1).f1), .int .u32 x351002_1, .int .u32 x351003_1]) ?_ 2 _ rfl; (with_reducible repeat (first | refine blk_drewN ?_ _ | refine blk_drew ?_ | refine blk_alloc ?_ _)); refine blk_put (cs := #[.int .i64 ((rd_T36 l0_1 x10_1).f0), .int .i64 x351001_1, .int .u32 x351002_1, .int .u32 x351003_1]) ?_ 1 _ rfl; (with_reducible repeat (first | refine blk_drewN ?_ _ | refine blk_drew ?_ | refine blk_alloc ?_ _)); refine blk_put (cs := #[.int .i64 x351000_1, .int .i64 x351001_1, .int .u32 x351002_1, .int .u32 x351003_1]) ?_ 0 _ rfl; (with_reducible repeat (first | refine blk_drewN ?_ _ | refine blk_drew ?_ | refine blk_alloc ?_ _)); refine blk_far ?_ NB350_352.out _; (with_reducible repeat (first | refine blk_drewN ?_ _ | refine blk_drew ?_ | refine blk_alloc ?_ _)); refine blk_far ?_ NB350_352.out _; (with_reducible repeat (first | refine blk_drewN ?_ _ | refine blk_drew ?_ | refine blk_alloc ?_ _)); refine blk_far ?_ NB350_352.out _; (with_reducible repeat (first | refine blk_drewN ?_ _ | refine blk_drew ?_ | refine blk_alloc ?_ _)); refine blk_far ?_ NB350_352.out _; (with_reducible repeat (first | refine blk_drewN ?_ _ | refine blk_drew ?_ | refine blk_alloc ?_ _)); exact BK350.out) Tryd.underlying36 rfl (by kernel_rfl)) rfl ?_
              exact ⟨by first | rfl | (simp [errW_none, errW_some] <;> rfl) | (simp [*, errW_none, errW_some] <;> rfl), by repeat (first | (with_reducible first | exact HB.out | apply below_alloc | apply pw_below_drewN | apply below_drew1 | refine below_set ?_ GE349.out | refine below_set ?_ GE350.out | refine below_set ?_ GE352.out) | exact HB.out)⟩
            · rw [if_neg c10] at H
              have c10b0 : (((rd_T36 l0_1 x10_1).f0) == a1) = false := beq_eq_false_iff_ne.mpr c10
              have c10b1 : (((rd_T36 l0_1 x10_1).f0) != a1) = true := bne_iff_ne.mpr c10
              have H' := Aside0.mk H
              clear H
              have p351 : 0 ≤ (x10_1 : Int) := of_decide_eq_true (by first | (with_reducible assumption) | assumption)
              have q351 : x10_1 < (l0_1.length : Int) := of_decide_eq_true (by first | (with_reducible assumption) | assumption)
              obtain ⟨ad351, e351, hx351_0, hx351_1, hx351_2, hx351_3⟩ := at_T36 HR0_1.out x10_1 p351 q351
              cases e351
              replace hx351_0 := (HB.out.cell (World.block_lt_of_cell? w _ hx351_0)).trans hx351_0
              replace hx351_1 := (HB.out.cell (World.block_lt_of_cell? w _ hx351_1)).trans hx351_1
              replace hx351_2 := (HB.out.cell (World.block_lt_of_cell? w _ hx351_2)).trans hx351_2
              replace hx351_3 := (HB.out.cell (World.block_lt_of_cell? w _ hx351_3)).trans hx351_3
              replace p351 := eq_true p351
              replace q351 := eq_true q351
              go_wp2_with (first | ((with_reducible refine gate_dst (N := 6) rfl ?_); refine box_event ?hg (N := 6) ?hd (cs := #[.int .i64 0, .int .i64 0, .int .u32 0, .int .u32 0]) (t := 36) ?hr ?_; (case hd => rfl); (case hg => rfl); (case hr => first | (go_simp; done) | (go_simp; rfl)); intro gb352 hg w17 hbox hb; have n0_ := Aside0.mk (blk_below (g := gb349) (o := .cells #[.slice A0_0 l0_0.length c0_0, .slice (some ad351) l0_1.length c0_1, .int .u32 a0_2] 41 (0, 0)) (by (with_reducible repeat (first | refine blk_drewN ?_ _ | refine blk_drew ?_ | refine blk_alloc ?_ _)); exact BK349.out) hb); have n1_ := Aside0.mk (blk_below (g := gb350) (o := .cells #[.int .i64 x351000_1, .int .i64 x351001_1, .int .u32 x351002_1, .int .u32 x351003_1] 36 (0, 0)) (by (with_reducible repeat (first | refine blk_drewN ?_ _ | refine blk_drew ?_ | refine blk_alloc ?_ _)); exact BK350.out) hb); have n2_ := Aside0.mk (below_step (by repeat (first | (with_reducible first | exact HB.out | apply below_alloc | apply pw_below_drewN | apply below_drew1 | refine below_set ?_ GE349.out | refine below_set ?_ GE350.out) | exact HB.out)) hb); have n3_ := Aside0.mk (hbox); have n4_ := Aside0.mk ((by rw [hg]; exact (below_size (by repeat (first | (with_reducible first | exact HB.out | apply below_alloc | apply pw_below_drewN | apply below_drew1 | refine below_set ?_ GE349.out | refine below_set ?_ GE350.out) | exact HB.out))) : w.heap.size ≤ gb352)); have n5_ := Aside0.mk ((by rw [hg]; exact (below_size (by repeat (first | (with_reducible first | exact HB.out | apply below_alloc | apply pw_below_drewN | apply below_drew1 | refine below_set ?_ GE349.out | refine below_set ?_ GE350.out) | exact HB.out))) : w.heap.size ≤ gb352)); have n6_ := Aside0.mk ((by rw [hg]; exact Nat.ne_of_lt (blk_lt (g := gb349) (o := .cells #[.slice A0_0 l0_0.length c0_0, .slice (some ad351) l0_1.length c0_1, .int .u32 a0_2] 41 (0, 0)) (by (with_reducible repeat (first | refine blk_drewN ?_ _ | refine blk_drew ?_ | refine blk_alloc ?_ _)); exact BK349.out)) : gb349 ≠ gb352)); have n7_ := Aside0.mk ((by rw [hg]; exact Nat.ne_of_gt (blk_lt (g := gb349) (o := .cells #[.slice A0_0 l0_0.length c0_0, .slice (some ad351) l0_1.length c0_1, .int .u32 a0_2] 41 (0, 0)) (by (with_reducible repeat (first | refine blk_drewN ?_ _ | refine blk_drew ?_ | refine blk_alloc ?_ _)); exact BK349.out)) : gb352 ≠ gb349)); have n8_ := Aside0.mk ((by rw [hg]; exact Nat.ne_of_lt (blk_lt (g := gb350) (o := .cells #[.int .i64 x351000_1, .int .i64 x351001_1, .int .u32 x351002_1, .int .u32 x351003_1] 36 (0, 0)) (by (with_reducible repeat (first | refine blk_drewN ?_ _ | refine blk_drew ?_ | refine blk_alloc ?_ _)); exact BK350.out)) : gb350 ≠ gb352)); have n9_ := Aside0.mk ((by rw [hg]; exact Nat.ne_of_gt (blk_lt (g := gb350) (o := .cells #[.int .i64 x351000_1, .int .i64 x351001_1, .int .u32 x351002_1, .int .u32 x351003_1] 36 (0, 0)) (by (with_reducible repeat (first | refine blk_drewN ?_ _ | refine blk_drew ?_ | refine blk_alloc ?_ _)); exact BK350.out)) : gb352 ≠ gb350)); clear BK349; clear BK350; clear HB; have BK349 := n0_; have BK350 := n1_; have HB := n2_; have BK352 := n3_; have GW352 := n4_; have GE352 := n5_; have NB349_352 := n6_; have NB352_349 := n7_; have NB350_352 := n8_; have NB352_350 := n9_; clear n0_ n1_ n2_ n3_ n4_ n5_ n6_ n7_ n8_ n9_; clear hb hbox hg; have hnb18 := NB352_349.out; have hnc18 := NB349_352.out; have hnb19 := NB352_350.out; have hnc19 := NB350_352.out; have hcz20_0 : w17.cell? ⟨gb352, 0, none⟩ = some (.int .i64 0) := (blk_cell BK352.out 0).trans rfl; have hcz20_1 : w17.cell? ⟨gb352, 1, none⟩ = some (.int .i64 0) := (blk_cell BK352.out 1).trans rfl; have hcz20_2 : w17.cell? ⟨gb352, 2, none⟩ = some (.int .u32 0) := (blk_cell BK352.out 2).trans rfl; have hcz20_3 : w17.cell? ⟨gb352, 3, none⟩ = some (.int .u32 0) := (blk_cell BK352.out 3).trans rfl; have hfz20_0 := blk_frozen BK352.out 0; have hfz20_1 := blk_frozen BK352.out 1; have hfz20_2 := blk_frozen BK352.out 2; have hfz20_3 := blk_frozen BK352.out 3))
              go_roundg k1
              case measure => have := HK1.out; omega
              case rel => exact ⟨(wrap64 (x10_1 + 1)), (x351000_1), (x351001_1), (x351002_1), (x351003_1), (by first | rfl | (simp; done) | (simp [*]; done)), H', ⟨by have := HK1.out; omega⟩, ⟨by (with_reducible repeat (first | refine blk_drewN ?_ _ | refine blk_drew ?_ | refine blk_alloc ?_ _)); refine blk_far ?_ NB349_352.out _; (with_reducible repeat (first | refine blk_drewN ?_ _ | refine blk_drew ?_ | refine blk_alloc ?_ _)); refine blk_far ?_ NB349_352.out _; (with_reducible repeat (first | refine blk_drewN ?_ _ | refine blk_drew ?_ | refine blk_alloc ?_ _)); refine blk_far ?_ NB349_352.out _; (with_reducible repeat (first | refine blk_drewN ?_ _ | refine blk_drew ?_ | refine blk_alloc ?_ _)); refine blk_far ?_ NB349_352.out _; (with_reducible repeat (first | refine blk_drewN ?_ _ | refine blk_drew ?_ | refine blk_alloc ?_ _)); exact BK349.out⟩, ⟨by (with_reducible repeat (first | refine blk_drewN ?_ _ | refine blk_drew ?_ | refine blk_alloc ?_ _)); refine blk_far ?_ NB350_352.out _; (with_reducible repeat (first | refine blk_drewN ?_ _ | refine blk_drew ?_ | refine blk_alloc ?_ _)); refine blk_far ?_ NB350_352.out _; (with_reducible repeat (first | refine blk_drewN ?_ _ | refine blk_drew ?_ | refine blk_alloc ?_ _)); refine blk_far ?_ NB350_352.out _; (with_reducible repeat (first | refine blk_drewN ?_ _ | refine blk_drew ?_ | refine blk_alloc ?_ _)); refine blk_far ?_ NB350_352.out _; (with_reducible repeat (first | refine blk_drewN ?_ _ | refine blk_drew ?_ | refine blk_alloc ?_ _)); exact BK350.out⟩, ⟨by repeat (first | (with_reducible first | exact HB.out | apply below_alloc | apply pw_below_drewN | apply below_drew1 | refine below_set ?_ GE349.out | refine below_set ?_ GE350.out | refine below_set ?_ GE352.out) | exact HB.out)⟩⟩
          · rw [if_neg c9] at H
            exact absurd H (by simp)
        · rw [if_neg c8] at H
          exact absurd H (by simp)
      · rw [if_neg c7] at H
        have c7b0 : decide (x10_1 < (l0_1.length : Int)) = false := decide_eq_false c7
        clear c7
        simp only [Option.some.injEq, Prod.mk.injEq] at H
        obtain ⟨rfl, rfl, rfl, rfl⟩ := H
        have hnb21 := NB350_349.out
        have hnc21 := NB349_350.out
        have hcz22_0 : wr.cell? ⟨gb350, 0, none⟩ = some (.int .i64 x351000_1) := (blk_cell BK350.out 0).trans rfl
        have hcz22_1 : wr.cell? ⟨gb350, 1, none⟩ = some (.int .i64 x351001_1) := (blk_cell BK350.out 1).trans rfl
        have hcz22_2 : wr.cell? ⟨gb350, 2, none⟩ = some (.int .u32 x351002_1) := (blk_cell BK350.out 2).trans rfl
        have hcz22_3 : wr.cell? ⟨gb350, 3, none⟩ = some (.int .u32 x351003_1) := (blk_cell BK350.out 3).trans rfl
        have hfz22_0 := blk_frozen BK350.out 0
        have hfz22_1 := blk_frozen BK350.out 1
        have hfz22_2 := blk_frozen BK350.out 2
        have hfz22_3 := blk_frozen BK350.out 3
        go_wp2
        refine bodyPost_ret (results_cell_row rfl _ _ gb350 36 #[.int .i64 0, .int .i64 0, .int .u32 0, .int .u32 0] (0, 0) _ rfl (by (with_reducible repeat (first | refine blk_drewN ?_ _ | refine blk_drew ?_ | refine blk_alloc ?_ _)); refine blk_put (cs := #[.int .i64 0, .int .i64 0, .int .u32 0, .int .u32 x351003_1]) ?_ 3 _ rfl; (with_reducible repeat (first | refine blk_drewN ?_ _ | refine blk_drew ?_ | refine blk_alloc ?_ _)); refine blk_put (cs := #[.int .i64 0, .int .i64 0, .int .u32 x351002_1, .int .u32 x351003_1]) ?_ 2 _ rfl; (with_reducible repeat (first | refine blk_drewN ?_ _ | refine blk_drew ?_ | refine blk_alloc ?_ _)); refine blk_put (cs := #[.int .i64 0, .int .i64 x351001_1, .int .u32 x351002_1, .int .u32 x351003_1]) ?_ 1 _ rfl; (with_reducible repeat (first | refine blk_drewN ?_ _ | refine blk_drew ?_ | refine blk_alloc ?_ _)); refine blk_put (cs := #[.int .i64 x351000_1, .int .i64 x351001_1, .int .u32 x351002_1, .int .u32 x351003_1]) ?_ 0 _ rfl; (with_reducible repeat (first | refine blk_drewN ?_ _ | refine blk_drew ?_ | refine blk_alloc ?_ _)); exact BK350.out) Tryd.underlying36 rfl (by kernel_rfl)) rfl ?_
        exact ⟨by first | rfl | (simp [errW_none, errW_some] <;> rfl) | (simp [*, errW_none, errW_some] <;> rfl), by repeat (first | (with_reducible first | exact HB.out | apply below_alloc | apply pw_below_drewN | apply below_drew1 | refine below_set ?_ GE349.out | refine below_set ?_ GE350.out) | exact HB.out)⟩

end Go.Proofs.YtdmieaidheelbaaDoor.Q
end
/- PureAsk -/
section
/- What the statements of layer 19 ask of an Ask: is it over, a vCPU's wish, are two rows of placements the same. Lists and numbers alone. -/
namespace Go.Proofs.YtdmieaidheelbaaDoor.Q
open Go Go.RowKit Go.Proofs.YtdmieaidheelbaaDoorW.PrintWords Go.Proofs.YtdmieaidheelbaaDoorW.PrintLast Go.Proofs.YtdmieaidheelbaaDoorW.PrintMore
set_option linter.unusedVariables false
set_option linter.unusedSimpArgs false

theorem rd90_eq (l : List S90) (i : Nat) (h : i < l.length) : rd_T90 l (i : Int) = l[i] := by simp [rd_T90, h]
theorem over_loop (l : List S90) (hl : l.length ≤ 40) (d : Nat) : ∀ (k i : Nat), i + d = l.length → d < k →
    mainsheetlaw19_Ask_over.l0 k l (l.length : Int) (i : Int) = some true ∨ (mainsheetlaw19_Ask_over.l0 k l (l.length : Int) (i : Int) = some false ∧ ∀ x ∈ l.drop i, x.f0.length ≤ 40) := by
  induction d with
  | zero =>
    intro k i hi hk
    obtain ⟨k, rfl⟩ : ∃ m, k = m + 1 := ⟨k - 1, by omega⟩
    refine .inr ⟨?_, by rw [List.drop_eq_nil_of_le (by omega)]; simp⟩
    rw [mainsheetlaw19_Ask_over.l0, if_neg (by omega)]
  | succ d ih =>
    intro k i hi hk
    obtain ⟨k, rfl⟩ : ∃ m, k = m + 1 := ⟨k - 1, by omega⟩
    have hlt : i < l.length := by omega
    rw [mainsheetlaw19_Ask_over.l0, if_pos (by omega), if_pos (by omega), if_pos (by omega), rd90_eq l i hlt]
    by_cases h : ((l[i].f0.length : Nat) : Int) > 40
    · rw [if_pos h]; exact .inl rfl
    · rw [if_neg h, w64 _ (by omega) (by omega), show (i : Int) + 1 = ((i + 1 : Nat) : Int) by omega]
      rcases ih k (i + 1) (by omega) (by omega) with g | ⟨g, g2⟩
      · exact .inl g
      · refine .inr ⟨g, fun x hx => ?_⟩
        rw [List.drop_eq_getElem_cons hlt] at hx
        rcases List.mem_cons.1 hx with rfl | hx
        · omega
        · exact g2 x hx
theorem over_val (l : List S90) (w : List S36) (a : Int) (k : Nat) (hk : 50 ≤ k) :
    mainsheetlaw19_Ask_over.f k l w a = some true ∨ (mainsheetlaw19_Ask_over.f k l w a = some false ∧ l.length ≤ 40 ∧ w.length ≤ 60 ∧ ∀ x ∈ l, x.f0.length ≤ 40) := by
  obtain ⟨k, rfl⟩ : ∃ m, k = m + 1 := ⟨k - 1, by omega⟩
  unfold mainsheetlaw19_Ask_over.f
  by_cases h1 : (l.length : Int) > 40
  · rw [if_pos h1]; exact .inl (by simp [mainsheetlaw19_Ask_over.j0])
  · rw [if_neg h1]
    by_cases h2 : (w.length : Int) > 60
    · exact .inl (by simp [mainsheetlaw19_Ask_over.j0, h2])
    · rw [mainsheetlaw19_Ask_over.j0, if_neg (by simpa using h2)]
      rcases over_loop l (by omega) l.length k 0 (by omega) (by omega) with g | ⟨g, g2⟩
      · exact .inl g
      · exact .inr ⟨g, by omega, by omega, by simpa using g2⟩


/-- a vCPU's wish -/
def wishOf (w : List S36) (v : Int) : S36 := (wishesN w [v]).headD z36
theorem wishOf_pos {x : S36} {w : List S36} {v : Int} (h : x.f0 = v) : wishOf (x :: w) v = x := by
  unfold wishOf wishesN
  rw [List.filter_cons, if_pos (by simp [h])]
  rfl
theorem wishOf_neg {x : S36} {w : List S36} {v : Int} (h : x.f0 ≠ v) : wishOf (x :: w) v = wishOf w v := by
  unfold wishOf wishesN
  rw [List.filter_cons, if_neg (by simp [h])]
theorem wish_loop (w : List S36) (hl : w.length ≤ 1000000) (v : Int) (d : Nat) : ∀ (k i : Nat), i + d = w.length → d < k →
    mainsheetlaw19_Ask_wish.l0 k v w (w.length : Int) (i : Int) = some ((wishOf (w.drop i) v).f0, (wishOf (w.drop i) v).f1, (wishOf (w.drop i) v).f2.f0, (wishOf (w.drop i) v).f2.f1) := by
  induction d with
  | zero =>
    intro k i hi hk
    obtain ⟨k, rfl⟩ : ∃ m, k = m + 1 := ⟨k - 1, by omega⟩
    rw [mainsheetlaw19_Ask_wish.l0, if_neg (by omega), List.drop_eq_nil_of_le (by omega)]
    rfl
  | succ d ih =>
    intro k i hi hk
    obtain ⟨k, rfl⟩ : ∃ m, k = m + 1 := ⟨k - 1, by omega⟩
    have hlt : i < w.length := by omega
    rw [mainsheetlaw19_Ask_wish.l0, if_pos (by omega), if_pos (by omega), if_pos (by omega), rd36_eq w i hlt, List.drop_eq_getElem_cons hlt]
    by_cases h : w[i].f0 = v
    · rw [if_pos h, wishOf_pos h]
    · rw [if_neg h, w64 _ (by omega) (by omega), show (i : Int) + 1 = ((i + 1 : Nat) : Int) by omega, ih k (i + 1) (by omega) (by omega), wishOf_neg h]
theorem wish_val (l : List S90) (w : List S36) (a v : Int) (hl : w.length ≤ 1000000) (k : Nat) (hk : w.length < k) :
    mainsheetlaw19_Ask_wish.f k l w a v = some ((wishOf w v).f0, (wishOf w v).f1, (wishOf w v).f2.f0, (wishOf w v).f2.f1) := by
  unfold mainsheetlaw19_Ask_wish.f
  have := wish_loop w hl v w.length k 0 (by omega) hk
  simpa using this
end Go.Proofs.YtdmieaidheelbaaDoor.Q
end
/- PickCheck -/
section
/- pick.Check by its contract: at every row of entities and every row of wishes. -/
namespace Go.Proofs.YtdmieaidheelbaaDoor.Q
open Go Go.RowKit Go.Proofs.YtdmieaidheelbaaDoorW.PrintWords Go.Proofs.YtdmieaidheelbaaDoorW.PrintLast Go.Proofs.YtdmieaidheelbaaDoorW.PrintMore
set_option linter.unusedVariables false
set_option linter.unusedSimpArgs false

/-- does it not rise? -/
def low (prev : Option Int) (v : Int) : Bool := match prev with | some p => decide (v ≤ p) | none => false
def badMem (met : List Bool) (prev : Option Int) (v : Int) : Bool := decide (v < 1) || decide (16 < v) || met.getD v.toNat false || low prev v
def checkMems : List Bool → Option Int → List Int → Option (List Bool)
  | met, _, [] => some met
  | met, prev, v :: l => if badMem met prev v then none else checkMems (met.set v.toNat true) (some v) l
def checkEnts : List Bool → Nat → List S90 → Option (List Bool × Nat)
  | met, n, [] => some (met, n)
  | met, n, x :: l => if x.f0.length < 1 ∨ 8 < x.f0.length then none else match checkMems met none x.f0 with
    | none => none
    | some met' => checkEnts met' (n + x.f0.length) l
def badW (met : List Bool) (prev : Option Int) (v : Int) : Bool := decide (v < 1) || decide (16 < v) || !met.getD v.toNat false || low prev v
def checkWs : List Bool → Option Int → List S36 → Bool
  | _, _, [] => true
  | met, prev, x :: l => if badW met prev x.f0 then false else checkWs met (some x.f0) l
def met0 : List Bool := List.replicate 17 false
def placeChk (l : List S36) : Int := checkFrom met0 (List.replicate 8 false) l
def pickEnd (w : List S36) : Option (List Bool × Nat) → Int
  | none => 290
  | some (met, n) => if checkWs met none w then (if w.length = n then placeChk w else 290) else 290
def pickCheck (l : List S90) (w : List S36) : Int := pickEnd w (checkEnts met0 0 l)
def okPick (l : List S90) (w : List S36) : Prop := (∀ x ∈ w, Wf36 x) ∧ w.length ≤ 1000000 ∧ l.length ≤ 1000000
instance (l : List S90) (w : List S36) : Decidable (okPick l w) := inferInstanceAs (Decidable (_ ∧ _ ∧ _))
def pick_Check.f (l0 : List S90) (l1 : List S36) : Option Int := if okPick l0 l1 then some (pickCheck l0 l1) else none

theorem ents_step (met : List Bool) (n : Nat) (l : List S90) (k : Nat) (hk : k < l.length) : checkEnts met n (l.drop k) =
    if (rd_T90 l k).f0.length < 1 ∨ 8 < (rd_T90 l k).f0.length then none else match checkMems met none (rd_T90 l k).f0 with
    | none => none
    | some met' => checkEnts met' (n + (rd_T90 l k).f0.length) (l.drop (k + 1)) := by
  rw [List.drop_eq_getElem_cons hk, checkEnts]
  have : rd_T90 l (k : Int) = l[k] := by simp [rd_T90, hk]
  rw [this]
/-- the one before -/
def prevAt (xs : List Int) (k : Nat) : Option Int := if k = 0 then none else some (rd xs ((k - 1 : Nat) : Int))
theorem mems_step (met : List Bool) (xs : List Int) (k : Nat) (hk : k < xs.length) : checkMems met (prevAt xs k) (xs.drop k) =
    if badMem met (prevAt xs k) (rd xs k) then none else checkMems (met.set (rd xs k).toNat true) (prevAt xs (k + 1)) (xs.drop (k + 1)) := by
  rw [List.drop_eq_getElem_cons hk, checkMems]
  have e : rd xs (k : Int) = xs[k] := by simp [rd, hk]
  have e2 : prevAt xs (k + 1) = some xs[k] := by unfold prevAt; rw [if_neg (by omega), ← e]; rfl
  rw [e, e2]

def prevW (l : List S36) (k : Nat) : Option Int := if k = 0 then none else some (rd_T36 l ((k - 1 : Nat) : Int)).f0
theorem ws_step (met : List Bool) (l : List S36) (k : Nat) (hk : k < l.length) : checkWs met (prevW l k) (l.drop k) =
    if badW met (prevW l k) (rd_T36 l k).f0 then false else checkWs met (prevW l (k + 1)) (l.drop (k + 1)) := by
  rw [List.drop_eq_getElem_cons hk, checkWs]
  have e : rd_T36 l (k : Int) = l[k] := by simp [rd_T36, hk]
  have e2 : prevW l (k + 1) = some l[k].f0 := by unfold prevW; rw [if_neg (by omega), ← e]; rfl
  rw [e, e2]

set_option maxRecDepth 100000 in
set_option maxHeartbeats 8000000 in
theorem pick_Check.calls (A0 : Option Addr) (c0 : Nat) (l0 : List (S90)) (A1 : Option Addr) (c1 : Nat) (l1 : List (S36)) (r : Int) (w : World) (hr0 : Kd.C k90 w A0 l0.length l0) (hc0 : l0.length ≤ c0) (hr1 : Kd.C k36 w A1 l1.length l1) (hc1 : l1.length ≤ c1) (h : pick_Check.f l0 l1 = some r) :
    Calls Tryd.prog 48 #[.slice A0 l0.length c0, .slice A1 l1.length c1] w fun e w' => e = .returned (.int .i64 r) ∧ Below w.heap.size w w' := by
  unfold pick_Check.f at h
  by_cases hok : okPick l0 l1
  case neg => rw [if_neg hok] at h; cases h
  rw [if_pos hok] at h
  have hR := Aside0.mk (Option.some.inj h)
  clear h
  obtain ⟨hwf, hl1m, hl0m⟩ := hok
  have hu36 := Tryd.underlying36
  have hu90 := Tryd.underlying90
  have HR0 := Aside0.mk hr0
  have HR1 := Aside0.mk hr1
  have HWF := Aside0.mk hwf
  have HC0 := Aside0.mk hc0
  have HC1 := Aside0.mk hc1
  clear hr0 hwf hc0 hr1 hc1
  go_enter Tryd.func48, Tryd.ntmps48
  go_wp2
  go_loopw [15, 6] (fun s15 s6 wr => ∃ (k n : Nat) (met : List Bool), k ≤ l0.length ∧ s15 = .int .i64 k ∧ s6 = .int .i64 n ∧ n ≤ 8 * k ∧ Aside0 (pickEnd l1 (checkEnts met n (l0.drop k)) = r) ∧ met.length = 17 ∧ Aside0 (Bools wr w.heap.size 114 met) ∧ Aside0 (Below w.heap.size w wr))
    (fun s15 _ _ => l0.length - (intOf s15).toNat)
  case atStart => exact ⟨0, 0, met0, Nat.zero_le _, rfl, rfl, Nat.zero_le _, hR, by simp [met0], ⟨heap_alloc_new w _⟩, ⟨(Below.refl _ w).alloc (Nat.le_refl _) _⟩⟩
  case round =>
    obtain ⟨k, n, met, hk, rfl, rfl, hn, HA, hml, HM, HB⟩ := hrel
    clear hR
    by_cases hlt : k < l0.length
    case neg =>
      obtain rfl : k = l0.length := by omega
      have ha := HA.out
      rw [List.drop_length, checkEnts] at ha
      have HAA : Aside0 ((if checkWs met none l1 then (if l1.length = n then placeChk l1 else 290) else 290) = r) := ⟨ha⟩
      clear ha HA hlt HR0 hu90
      have HM0 := HM
      have HB0 := HB
      clear HM HB
      go_wp2
      go_loopw [70] (fun s70 wi => ∃ (j : Nat), j ≤ l1.length ∧ s70 = .int .i64 j ∧ Aside0 (checkWs met (prevW l1 j) (l1.drop j) = checkWs met none l1) ∧ Aside0 (Bools wi w.heap.size 114 met) ∧ Aside0 (Below w.heap.size w wi))
        (fun s70 _ => l1.length - (intOf s70).toNat)
      case atStart => exact ⟨0, Nat.zero_le _, rfl, ⟨rfl⟩, HM0, HB0⟩
      case round =>
        obtain ⟨j, hj, rfl, HWS, HM1, HB1⟩ := hrel
        clear HM0 HB0
        by_cases hjl : j < l1.length
        case neg =>
          have hws := HWS.out
          rw [List.drop_eq_nil_of_le (by omega), checkWs] at hws
          obtain rfl : j = l1.length := by omega
          have haa := HAA.out
          rw [← hws, if_pos rfl] at haa
          clear hjl HWS
          by_cases hln : l1.length = n
          · rw [if_pos hln] at haa
            have hv : place_Check.f l1 = some r := by unfold place_Check.f; rw [if_pos ⟨HWF.out, hl1m⟩]; exact congrArg some haa
            have HV := Aside0.mk hv
            subst hln
            clear haa hv HAA hws
            go_wp2_with (go_at_call 37; refine (place_Check.calls A1 c1 l1 r _ (Kd.C_below HR1.out HB1.out) HC1.out HV.out).mono ?_; rintro e w5 ⟨rfl, hb5⟩; have HB5 := Aside0.mk (below_step HB1.out hb5); clear hb5)
            go_ret
            exact ⟨rfl, HB5.out⟩
          · rw [if_neg hln] at haa
            subst haa
            have hq : ((l1.length : Int) != (n : Int)) = true := by rw [bne_iff_ne]; omega
            clear HAA hws hln
            go_wp2
            go_ret
            exact ⟨rfl, HB1.out⟩
        case pos =>
          obtain ⟨ad, rfl, hx0, hx1, hx2, hx3⟩ := at_T36 (Kd.C_below HR1.out HB1.out) (j : Int) (by omega) (by omega)
          rw [Int.toNat_natCast] at hx0 hx1 hx2 hx3
          have hws := ws_step met l1 j hjl
          rw [HWS.out] at hws
          have hbad : badW met (prevW l1 j) (rd_T36 l1 (j : Int)).f0 = true → r = 290 := fun hb => by
            rw [← HAA.out, hws, if_pos hb]; rfl
          have HBAD := Aside0.mk hbad
          have HSTEP := Aside0.mk hws
          have hprev : ∀ m : Nat, j = m + 1 → wr.cell? (ad.add (m * 4)) = some (.int .i64 (rd_T36 l1 m).f0) := fun m e => by
            obtain ⟨ad2, e2, hv1, _⟩ := at_T36 (Kd.C_below HR1.out HB1.out) (m : Int) (by omega) (by omega)
            injection e2 with e2
            subst e2
            rw [Int.toNat_natCast] at hv1
            exact hv1
          have hpv : ∀ m : Nat, j = m + 1 → prevW l1 j = some (rd_T36 l1 m).f0 := fun m e => by unfold prevW; rw [if_neg (by omega), e]; rfl
          have hp0 : j = 0 → prevW l1 j = none := fun e => by unfold prevW; rw [if_pos e]
          have HPREV := Aside0.mk hprev
          have HPV := Aside0.mk hpv
          have HP0 := Aside0.mk hp0
          clear hws hbad hprev hpv hp0
          generalize rd_T36 l1 (j : Int) = x at *
          obtain ⟨v, f1, ⟨mh, ms⟩⟩ := x
          simp only at hx0 hx1 hx2 hx3
          have HBA := Aside0.mk (below_alloc HB1.out (.cells #[.int .i64 v, .int .i64 f1, .int .u32 mh, .int .u32 ms] 36))
          have HMA := Aside0.mk (HM1.out.alloc (.cells #[.int .i64 v, .int .i64 f1, .int .u32 mh, .int .u32 ms] 36))
          have hsz1 : w.heap.size < wr.heap.size := blk_lt HM1.out
          by_cases d1 : v < 1
          · obtain rfl := HBAD.out (by unfold badW; simp only [d1, decide_true, Bool.true_or])
            go_wp2
            go_quiet (fail)
            go_wp2
            go_ret
            exact ⟨rfl, pw_below_drewN HBA.out nq⟩
          replace d1 : 1 ≤ v := by omega
          have hn1 : decide (v < 1) = false := decide_eq_false (by omega)
          by_cases d2 : 16 < v
          · obtain rfl := HBAD.out (by unfold badW; simp only [d2, decide_true, Bool.true_or, Bool.or_true])
            go_wp2
            go_quiet (fail)
            go_wp2
            go_ret
            exact ⟨rfl, pw_below_drewN HBA.out nq⟩
          replace d2 : v ≤ 16 := by omega
          obtain ⟨v, rfl⟩ : ∃ u : Nat, v = u := ⟨v.toNat, by omega⟩
          have hmv := HMA.out.cell v (by omega)
          have hn2 : decide (16 < (v : Int)) = false := decide_eq_false (by omega)
          cases d3 : met.getD v false with
          | false =>
            obtain rfl := HBAD.out (by unfold badW; simp only [Int.toNat_natCast, d3, Bool.not_false, Bool.true_or, Bool.or_true])
            rw [d3] at hmv
            clear d3
            have hi0 : (0 : Int) ≤ v := by omega
            have hi1 : (v : Int) < 17 := by omega
            go_wp2
            go_quiet (fail)
            go_wp2
            go_ret
            exact ⟨rfl, pw_below_drewN HBA.out nq⟩
          | true =>
          rw [d3] at hmv
          have hi0 : (0 : Int) ≤ v := by omega
          have hi1 : (v : Int) < 17 := by omega
          have hfin : low (prevW l1 j) (v : Int) = false → Aside0 (checkWs met (prevW l1 (j + 1)) (l1.drop (j + 1)) = checkWs met none l1) := fun hl => ⟨by
            rw [HSTEP.out, if_neg (by
              unfold badW
              have a1 : ¬ ((v : Int) < 1) := by omega
              have a2 : ¬ (16 < (v : Int)) := by omega
              simp only [Int.toNat_natCast, d3, a1, a2, hl, decide_false, Bool.or_false, Bool.not_true]; decide)]⟩
          have HFIN := Aside0.mk hfin
          have hbad4 : low (prevW l1 j) (v : Int) = true → r = 290 := fun hl => HBAD.out (by unfold badW; simp only [hl, Bool.or_true])
          have HBAD4 := Aside0.mk hbad4
          clear hfin hbad4 d3
          cases j with
          | zero =>
            have HF := HFIN.out (by rw [HP0.out rfl]; rfl)
            have ea : ad.add (0 * 4) = ad := by unfold Addr.add; simp
            rw [ea] at hx0 hx1 hx2 hx3
            clear ea
            go_wp2
            go_quiet (fail)
            go_wp2
            go_roundw
            case measure => simp only [intOf]; omega
            case rel => exact ⟨1, by omega, rfl, HF, ⟨blk_at rfl HMA.out⟩, ⟨pw_below_drewN HBA.out nq⟩⟩
          | succ m =>
            have hpc := pw_cell_below ((Below.refl _ _).alloc (Nat.le_refl _) (.cells #[.int .i64 (v : Int), .int .i64 f1, .int .u32 mh, .int .u32 ms] 36)) (HPREV.out m rfl)
            have hpe := HPV.out m rfl
            have HPE := Aside0.mk hpe
            clear hpe
            generalize (rd_T36 l1 (m : Int)).f0 = u at *
            have hj1 : decide ((0 : Int) < (m : Int) + 1) = true := decide_eq_true (by omega)
            have hj2 : IntKind.i64.wrap ((m : Int) + 1 - 1) = (m : Int) := by rw [IntWalk.i64_in _ (by omega)]; omega
            by_cases d5 : (v : Int) ≤ u
            · obtain rfl := HBAD4.out (by rw [HPE.out]; unfold low; simp only [d5, decide_true])
              go_wp2
              go_quiet (fail)
              go_wp2
              go_ret
              exact ⟨rfl, pw_below_drewN HBA.out nq⟩
            · have HF := HFIN.out (by rw [HPE.out]; unfold low; simp only [d5, decide_false])
              have hd5 : decide ((v : Int) ≤ u) = false := decide_eq_false d5
              clear d5
              go_wp2
              go_quiet (fail)
              go_wp2
              go_roundw
              case measure => simp only [intOf]; omega
              case rel => exact ⟨m + 1 + 1, by omega, by go_num, HF, ⟨blk_at rfl HMA.out⟩, ⟨pw_below_drewN HBA.out nq⟩⟩
    case pos =>
    obtain ⟨ad, Am, cm, rfl, hx0, hx1, hx2, hx3, hx4, hx5, hcm, hCm⟩ := at_T90 HR0.out (k : Int) (by omega) (by omega)
    rw [Int.toNat_natCast] at hx0 hx1 hx2 hx3 hx4 hx5
    replace hx0 := pw_cell_below HB.out hx0
    replace hx1 := pw_cell_below HB.out hx1
    replace hx2 := pw_cell_below HB.out hx2
    replace hx3 := pw_cell_below HB.out hx3
    replace hx4 := pw_cell_below HB.out hx4
    replace hx5 := pw_cell_below HB.out hx5
    have hst := ents_step met n l0 k hlt
    generalize rd_T90 l0 (k : Int) = x at *
    obtain ⟨ms, ⟨⟨t1, t2⟩, t3⟩, t4, t5⟩ := x
    simp only at hx0 hx1 hx2 hx3 hx4 hx5 hcm hCm hst
    have hsz : w.heap.size < wr.heap.size := blk_lt HM.out
    by_cases c1 : ms.length < 1
    · obtain rfl : r = 290 := by rw [← HA.out, hst, if_pos (.inl c1)]; rfl
      clear hst HA
      go_wp2
      go_ret
      exact ⟨rfl, below_alloc HB.out _⟩
    by_cases c2 : 8 < ms.length
    · obtain rfl : r = 290 := by rw [← HA.out, hst, if_pos (.inr c2)]; rfl
      clear hst HA
      go_wp2
      go_ret
      exact ⟨rfl, below_alloc HB.out _⟩
    rw [if_neg (by omega)] at hst
    have HST := Aside0.mk hst
    have HCM := Aside0.mk hCm
    clear hst hCm
    go_wp2
    have H80 := Aside0.mk (heap_alloc_new wr (.cells #[.slice Am ms.length cm, .int .u64 t1, .int .u64 t2, .int .u64 t3, .int .u64 t4, .bool t5] 90))
    have HM0 := Aside0.mk (HM.out.alloc (.cells #[.slice Am ms.length cm, .int .u64 t1, .int .u64 t2, .int .u64 t3, .int .u64 t4, .bool t5] 90))
    have HB0 := Aside0.mk (below_alloc HB.out (.cells #[.slice Am ms.length cm, .int .u64 t1, .int .u64 t2, .int .u64 t3, .int .u64 t4, .bool t5] 90))
    have HHB := Aside0.mk HB.out
    clear hx0 hx1 hx2 hx3 hx4 hx5 HM HB
    generalize wr.alloc (.cells #[.slice Am ms.length cm, .int .u64 t1, .int .u64 t2, .int .u64 t3, .int .u64 t4, .bool t5] 90) = w1 at *
    generalize wr.heap.size = b8 at *
    go_loopw [32, 6] (fun s32 s6 wi => ∃ (j : Nat) (met1 : List Bool), j ≤ ms.length ∧ s32 = .int .i64 j ∧ s6 = .int .i64 ((n + j : Nat) : Int) ∧ Aside0 (checkMems met1 (prevAt ms j) (ms.drop j) = checkMems met none ms) ∧ met1.length = 17 ∧ Aside0 (Bools wi w.heap.size 114 met1) ∧
        Aside0 (wi.heap[b8]? = some (.cells #[.slice Am ms.length cm, .int .u64 t1, .int .u64 t2, .int .u64 t3, .int .u64 t4, .bool t5] 90 (0, 0))) ∧ Aside0 (Below w.heap.size w wi))
      (fun s32 _ _ => ms.length - (intOf s32).toNat)
    case atStart => exact ⟨0, met, Nat.zero_le _, rfl, rfl, ⟨rfl⟩, hml, HM0, H80, HB0⟩
    case round =>
      obtain ⟨j, met1, hj, rfl, rfl, HMS, hml1, HM1, H81, HB1⟩ := hrel
      clear HM0 H80 HB0
      by_cases hjl : j < ms.length
      case neg =>
        obtain rfl : j = ms.length := by omega
        have hms := HMS.out
        rw [List.drop_length, checkMems] at hms
        have hst2 := HST.out
        rw [← hms] at hst2
        simp only at hst2
        have hnew : pickEnd l1 (checkEnts met1 (n + ms.length) (l0.drop (k + 1))) = r := by rw [← HA.out, hst2]
        have HNEW := Aside0.mk hnew
        clear hms hst2 hnew HA HST HMS
        go_wp2
        go_roundw
        case measure => simp only [intOf]; omega
        case rel => exact ⟨k + 1, n + ms.length, met1, by omega, rfl, rfl, by omega, HNEW, hml1, HM1, HB1⟩
      case pos =>
        obtain ⟨ai, rfl, hv0⟩ := Kd.at_int (Kd.C_below HCM.out HB1.out) (j : Int) (by omega) (by omega)
        rw [Int.toNat_natCast] at hv0
        have hms := mems_step met1 ms j hjl
        rw [HMS.out] at hms
        have hbad : badMem met1 (prevAt ms j) (rd ms j) = true → r = 290 := fun hb => by
          rw [← HA.out, HST.out, hms, if_pos hb]; rfl
        have HBAD := Aside0.mk hbad
        have HSTEP := Aside0.mk hms
        have h8 := H81.out
        have k8 := blk_cell h8 0
        simp only [List.getElem?_toArray, List.getElem?_cons_zero] at k8
        have hsz1 : w.heap.size < wr.heap.size := blk_lt HM1.out
        -- the one before
        have hprev : ∀ m : Nat, j = m + 1 → wr.cell? (ai.add m) = some (.int .i64 (rd ms m)) := fun m e => by
          obtain ⟨ai2, e2, hv1⟩ := Kd.at_int (Kd.C_below HCM.out HB1.out) (m : Int) (by omega) (by omega)
          injection e2 with e2
          subst e2
          rw [Int.toNat_natCast] at hv1
          exact hv1
        have hpv : ∀ m : Nat, j = m + 1 → prevAt ms j = some (rd ms m) := fun m e => by unfold prevAt; rw [if_neg (by omega), e]; rfl
        have hp0 : j = 0 → prevAt ms j = none := fun e => by unfold prevAt; rw [if_pos e]
        have HPREV := Aside0.mk hprev
        have HPV := Aside0.mk hpv
        have HP0 := Aside0.mk hp0
        clear hms hbad hprev hpv hp0
        generalize hvv : rd ms (j : Int) = v at *
        have HVV := Aside0.mk hvv
        clear hvv
        by_cases d1 : v < 1
        · obtain rfl := HBAD.out (by unfold badMem; simp only [d1, decide_true, Bool.true_or])
          go_wp2
          go_ret
          exact ⟨rfl, HB1.out⟩
        replace d1 : 1 ≤ v := by omega
        by_cases d2 : 16 < v
        · obtain rfl := HBAD.out (by unfold badMem; simp only [d2, decide_true, Bool.true_or, Bool.or_true])
          go_wp2
          go_ret
          exact ⟨rfl, HB1.out⟩
        replace d2 : v ≤ 16 := by omega
        obtain ⟨v, rfl⟩ : ∃ u : Nat, v = u := ⟨v.toNat, by omega⟩
        have hmv := HM1.out.cell v (by omega)
        have hmf := HM1.out.frozen v
        cases d3 : met1.getD v false with
        | true =>
          obtain rfl := HBAD.out (by unfold badMem; simp only [Int.toNat_natCast, d3, Bool.true_or, Bool.or_true])
          rw [d3] at hmv
          clear d3
          go_wp2
          go_ret
          exact ⟨rfl, HB1.out⟩
        | false =>
        rw [d3] at hmv
        have hfin : low (prevAt ms j) (v : Int) = false → Aside0 (checkMems (met1.set v true) (prevAt ms (j + 1)) (ms.drop (j + 1)) = checkMems met none ms) := fun hl => ⟨by
          rw [HSTEP.out, if_neg (by
            unfold badMem
            have a1 : ¬ ((v : Int) < 1) := by omega
            have a2 : ¬ (16 < (v : Int)) := by omega
            simp only [Int.toNat_natCast, d3, a1, a2, hl, decide_false, Bool.or_false]; decide), Int.toNat_natCast]⟩
        have HFIN := Aside0.mk hfin
        have hbad4 : low (prevAt ms j) (v : Int) = true → r = 290 := fun hl => HBAD.out (by unfold badMem; simp only [hl, Bool.or_true])
        have HBAD4 := Aside0.mk hbad4
        clear hfin hbad4 d3
        cases j with
        | zero =>
          have HF := HFIN.out (by rw [HP0.out rfl]; rfl)
          have ea : ai.add 0 = ai := by unfold Addr.add; simp
          rw [ea] at hv0
          clear ea
          go_wp2
          go_roundw
          case measure => simp only [intOf]; omega
          case rel => exact ⟨1, met1.set v true, by omega, by go_num, by go_num, HF, by simpa using hml1, ⟨HM1.out.set v true⟩, ⟨blk_far h8 (by simp; omega) _⟩, ⟨HB1.out.setCell (p := ⟨w.heap.size, v, none⟩) (Nat.le_refl _) _⟩⟩
        | succ m =>
          have hpc := HPREV.out m rfl
          have hpe := HPV.out m rfl
          have ea : ai.add (m + 1) = ⟨ai.block, ai.off + (m + 1), none⟩ := by unfold Addr.add; simp
          rw [ea] at hv0
          clear ea
          have HPE := Aside0.mk hpe
          clear hpe
          generalize rd ms (m : Int) = u at *
          by_cases d5 : (v : Int) ≤ u
          · obtain rfl := HBAD4.out (by rw [HPE.out]; unfold low; simp only [d5, decide_true])
            go_wp2
            go_ret
            exact ⟨rfl, HB1.out⟩
          · have HF := HFIN.out (by rw [HPE.out]; unfold low; simp only [d5, decide_false])
            replace d5 : u < v := by omega
            go_wp2
            go_roundw
            case measure => simp only [intOf]; omega
            case rel => exact ⟨m + 1 + 1, met1.set v true, by omega, by go_num, by go_num, HF, by simpa using hml1, ⟨HM1.out.set v true⟩, ⟨blk_far h8 (by simp; omega) _⟩, ⟨HB1.out.setCell (p := ⟨w.heap.size, v, none⟩) (Nat.le_refl _) _⟩⟩
end Go.Proofs.YtdmieaidheelbaaDoor.Q
end
