-- Written by a program of this session (hprint.py), which drives the kit's print over hand-proved contracts. Lean checks it.
import Derived.Test.YtlfljoihcjmnkaaDoorQ0
import Derived.Test.YtlfljoihcjmnkaaDoorQCs
import Derived.Test.YtlfljoihcjmnkaaDoorQMk
import Derived.Test.YtlfljoihcjmnkaaDoorQFlaw07wakes
import Derived.Test.YtlfljoihcjmnkaaDoorQFcpusetCount
import Derived.Test.YtlfljoihcjmnkaaDoorChoice
import Derived.Test.YtlfljoihcjmnkaaDoorSet
namespace Go.Proofs.YtlfljoihcjmnkaaDoor.Q
open Go.RowKit Go.Proofs.YtlfljoihcjmnkaaDoorW.PrintWords Go.Proofs.YtlfljoihcjmnkaaDoorW.PrintLast Go.Proofs.YtlfljoihcjmnkaaDoorW.PrintMore
attribute [local go_sem] max2_int min2_int max_two min_two max_three min_three max_four min_four   -- for this text's walks alone
set_option linter.unusedVariables false
set_option linter.unusedSimpArgs false

/-! ### mainsheetlaw07_MaskHall: function 3 -/
mutual
def mainsheetlaw07_MaskHall.j0 : Nat → List (S31) → Int → Option (Bool)
  | 0, _, _ => none
  | k + 1, x0, x1 => (mask_Choice.f x0 x1).bind fun bt175 => (if bt175.2 = 0 then (mainsheetlaw07_MaskHall.j1 k x0 x1 bt175.1 bt175.2 false) else (mainsheetlaw07_MaskHall.j1 k x0 x1 bt175.1 bt175.2 (bt175.2 != 4)))
def mainsheetlaw07_MaskHall.j1 : Nat → List (S31) → Int → List Int → Int → Bool → Option (Bool)
  | 0, _, _, _, _, _ => none
  | k + 1, x0, x1, x5, x6, x34 => if x34 = true then (some ((x5.length : Int) == 0)) else (mainsheetlaw07_MaskHall.l0 k x0 x1 x5 x6 true (shl .i64 1 (x0.length : Int)) 0)
def mainsheetlaw07_MaskHall.l0 : Nat → List (S31) → Int → List Int → Int → Bool → Int → Int → Option (Bool)
  | 0, _, _, _, _, _, _, _ => none
  | k + 1, x0, x1, x5, x6, x7, x40, x41 => if x41 < x40 then (mainsheetlaw07_MaskHall.l1 k x0 x1 x5 x6 x7 x41 0 0 x40 x41 x0 (x0.length : Int) 0) else (if (x7 != (x6 == 0)) = true then (some false) else (mainsheetlaw07_MaskHall.l2 k x0 x1 x5 x6 0 x5 (x5.length : Int) 0))
def mainsheetlaw07_MaskHall.l1 : Nat → List (S31) → Int → List Int → Int → Bool → Int → Int → Int → Int → Int → List (S31) → Int → Int → Option (Bool)
  | 0, _, _, _, _, _, _, _, _, _, _, _, _, _ => none
  | k + 1, x0, x1, x5, x6, x7, x8, x9, x10, x40, x41, x44, x45, x46 => if x46 < x45 then (if 0 ≤ x46 then (if x46 < (x44.length : Int) then (if (Go.bits .and .i64 (shr .i64 x8 x46) 1) = 1 then ((mask_Allows.f k ((rd_T31 x44 x46).f0) ((rd_T31 x44 x46).f1) x1).bind fun t181 => (mainsheetlaw07_MaskHall.l1 k x0 x1 x5 x6 x7 x8 (wrap64 (x9 + 1)) (Go.bits .or .u32 x10 t181) x40 x41 x44 x45 (wrap64 (x46 + 1)))) else (mainsheetlaw07_MaskHall.l1 k x0 x1 x5 x6 x7 x8 x9 x10 x40 x41 x44 x45 (wrap64 (x46 + 1)))) else (none)) else (none)) else (if x7 = true then ((cpuset_Count.f x10).bind fun t182 => (mainsheetlaw07_MaskHall.l0 k x0 x1 x5 x6 (decide (t182 ≥ x9)) x40 (wrap64 (x41 + 1)))) else (mainsheetlaw07_MaskHall.l0 k x0 x1 x5 x6 false x40 (wrap64 (x41 + 1))))
def mainsheetlaw07_MaskHall.l2 : Nat → List (S31) → Int → List Int → Int → Int → List Int → Int → Int → Option (Bool)
  | 0, _, _, _, _, _, _, _, _ => none
  | k + 1, x0, x1, x5, x6, x13, x76, x77, x78 => if x78 < x77 then (if 0 ≤ x78 then (if x78 < (x76.length : Int) then (if x78 < (x0.length : Int) then ((mask_Allows.f k ((rd_T31 x0 x78).f0) ((rd_T31 x0 x78).f1) x1).bind fun t185 => ((cpuset_Has.f t185 (rd x76 x78)).bind fun t186 => (if t186 = true then ((cpuset_Has.f x13 (rd x76 x78)).bind fun t187 => (if t187 = true then (some false) else (if 0 ≤ (rd x76 x78) then (mainsheetlaw07_MaskHall.l2 k x0 x1 x5 x6 (Go.bits .or .u32 x13 (shl .u32 1 (rd x76 x78))) x76 x77 (wrap64 (x78 + 1))) else (none)))) else (some false)))) else (none)) else (none)) else (none)) else (if x6 = 0 then (some ((x5.length : Int) == (x0.length : Int))) else (some true))
end
def mainsheetlaw07_MaskHall.f (k : Nat) (l0 : List (S31)) (a1 : Int) : Option (Bool) := (mainsheetlaw07_wakes.f k).bind fun t169 => (if t169 = true then (if (l0.length : Int) > 10 then (if 10 ≤ (l0.length : Int) then (mainsheetlaw07_MaskHall.j0 k (l0.take 10) a1) else (none)) else (mainsheetlaw07_MaskHall.j0 k l0 a1)) else (some false))
theorem mainsheetlaw07_MaskHall.mono_l : ∀ k, (∀ y0 y1, LeO (mainsheetlaw07_MaskHall.j0 k y0 y1) (mainsheetlaw07_MaskHall.j0 (k + 1) y0 y1)) ∧ (∀ y0 y1 y2 y3 y4, LeO (mainsheetlaw07_MaskHall.j1 k y0 y1 y2 y3 y4) (mainsheetlaw07_MaskHall.j1 (k + 1) y0 y1 y2 y3 y4)) ∧ (∀ y0 y1 y2 y3 y4 y5 y6, LeO (mainsheetlaw07_MaskHall.l0 k y0 y1 y2 y3 y4 y5 y6) (mainsheetlaw07_MaskHall.l0 (k + 1) y0 y1 y2 y3 y4 y5 y6)) ∧ (∀ y0 y1 y2 y3 y4 y5 y6 y7 y8 y9 y10 y11 y12, LeO (mainsheetlaw07_MaskHall.l1 k y0 y1 y2 y3 y4 y5 y6 y7 y8 y9 y10 y11 y12) (mainsheetlaw07_MaskHall.l1 (k + 1) y0 y1 y2 y3 y4 y5 y6 y7 y8 y9 y10 y11 y12)) ∧ (∀ y0 y1 y2 y3 y4 y5 y6 y7, LeO (mainsheetlaw07_MaskHall.l2 k y0 y1 y2 y3 y4 y5 y6 y7) (mainsheetlaw07_MaskHall.l2 (k + 1) y0 y1 y2 y3 y4 y5 y6 y7))
  | 0 => ⟨fun _ _ r h => by simp [mainsheetlaw07_MaskHall.j0] at h, fun _ _ _ _ _ r h => by simp [mainsheetlaw07_MaskHall.j1] at h, fun _ _ _ _ _ _ _ r h => by simp [mainsheetlaw07_MaskHall.l0] at h, fun _ _ _ _ _ _ _ _ _ _ _ _ _ r h => by simp [mainsheetlaw07_MaskHall.l1] at h, fun _ _ _ _ _ _ _ _ r h => by simp [mainsheetlaw07_MaskHall.l2] at h⟩
  | k + 1 => by
    obtain ⟨ih0, ih1, ih2, ih3, ih4⟩ := mainsheetlaw07_MaskHall.mono_l k
    refine ⟨?_, ?_, ?_, ?_, ?_⟩
    · intro y0 y1
      unfold mainsheetlaw07_MaskHall.j0
      repeat' first
      | (with_reducible exact ih0 _ _)
      | (with_reducible exact ih1 _ _ _ _ _)
      | (with_reducible exact ih2 _ _ _ _ _ _ _)
      | (with_reducible exact ih3 _ _ _ _ _ _ _ _ _ _ _ _ _)
      | (with_reducible exact ih4 _ _ _ _ _ _ _ _)
      | (with_reducible exact mainsheetlaw07_wakes.mono _)
      | (with_reducible exact mask_Allows.mono _ _ _ _)
      | (with_reducible exact LeO.refl _)
      | (with_reducible exact LeO.none _)
      | (with_reducible refine LeO.ite ?_ ?_)
      | (with_reducible refine LeO.bind ?_ (fun _ => ?_))
      | exact ih0 _ _
      | exact ih1 _ _ _ _ _
      | exact ih2 _ _ _ _ _ _ _
      | exact ih3 _ _ _ _ _ _ _ _ _ _ _ _ _
      | exact ih4 _ _ _ _ _ _ _ _
      | exact mainsheetlaw07_wakes.mono _
      | exact mask_Allows.mono _ _ _ _
      | exact LeO.none _
      | refine LeO.ite ?_ ?_
      | refine LeO.bind ?_ (fun _ => ?_)
    · intro y0 y1 y2 y3 y4
      unfold mainsheetlaw07_MaskHall.j1
      repeat' first
      | (with_reducible exact ih0 _ _)
      | (with_reducible exact ih1 _ _ _ _ _)
      | (with_reducible exact ih2 _ _ _ _ _ _ _)
      | (with_reducible exact ih3 _ _ _ _ _ _ _ _ _ _ _ _ _)
      | (with_reducible exact ih4 _ _ _ _ _ _ _ _)
      | (with_reducible exact mainsheetlaw07_wakes.mono _)
      | (with_reducible exact mask_Allows.mono _ _ _ _)
      | (with_reducible exact LeO.refl _)
      | (with_reducible exact LeO.none _)
      | (with_reducible refine LeO.ite ?_ ?_)
      | (with_reducible refine LeO.bind ?_ (fun _ => ?_))
      | exact ih0 _ _
      | exact ih1 _ _ _ _ _
      | exact ih2 _ _ _ _ _ _ _
      | exact ih3 _ _ _ _ _ _ _ _ _ _ _ _ _
      | exact ih4 _ _ _ _ _ _ _ _
      | exact mainsheetlaw07_wakes.mono _
      | exact mask_Allows.mono _ _ _ _
      | exact LeO.none _
      | refine LeO.ite ?_ ?_
      | refine LeO.bind ?_ (fun _ => ?_)
    · intro y0 y1 y2 y3 y4 y5 y6
      unfold mainsheetlaw07_MaskHall.l0
      repeat' first
      | (with_reducible exact ih0 _ _)
      | (with_reducible exact ih1 _ _ _ _ _)
      | (with_reducible exact ih2 _ _ _ _ _ _ _)
      | (with_reducible exact ih3 _ _ _ _ _ _ _ _ _ _ _ _ _)
      | (with_reducible exact ih4 _ _ _ _ _ _ _ _)
      | (with_reducible exact mainsheetlaw07_wakes.mono _)
      | (with_reducible exact mask_Allows.mono _ _ _ _)
      | (with_reducible exact LeO.refl _)
      | (with_reducible exact LeO.none _)
      | (with_reducible refine LeO.ite ?_ ?_)
      | (with_reducible refine LeO.bind ?_ (fun _ => ?_))
      | exact ih0 _ _
      | exact ih1 _ _ _ _ _
      | exact ih2 _ _ _ _ _ _ _
      | exact ih3 _ _ _ _ _ _ _ _ _ _ _ _ _
      | exact ih4 _ _ _ _ _ _ _ _
      | exact mainsheetlaw07_wakes.mono _
      | exact mask_Allows.mono _ _ _ _
      | exact LeO.none _
      | refine LeO.ite ?_ ?_
      | refine LeO.bind ?_ (fun _ => ?_)
    · intro y0 y1 y2 y3 y4 y5 y6 y7 y8 y9 y10 y11 y12
      unfold mainsheetlaw07_MaskHall.l1
      repeat' first
      | (with_reducible exact ih0 _ _)
      | (with_reducible exact ih1 _ _ _ _ _)
      | (with_reducible exact ih2 _ _ _ _ _ _ _)
      | (with_reducible exact ih3 _ _ _ _ _ _ _ _ _ _ _ _ _)
      | (with_reducible exact ih4 _ _ _ _ _ _ _ _)
      | (with_reducible exact mainsheetlaw07_wakes.mono _)
      | (with_reducible exact mask_Allows.mono _ _ _ _)
      | (with_reducible exact LeO.refl _)
      | (with_reducible exact LeO.none _)
      | (with_reducible refine LeO.ite ?_ ?_)
      | (with_reducible refine LeO.bind ?_ (fun _ => ?_))
      | exact ih0 _ _
      | exact ih1 _ _ _ _ _
      | exact ih2 _ _ _ _ _ _ _
      | exact ih3 _ _ _ _ _ _ _ _ _ _ _ _ _
      | exact ih4 _ _ _ _ _ _ _ _
      | exact mainsheetlaw07_wakes.mono _
      | exact mask_Allows.mono _ _ _ _
      | exact LeO.none _
      | refine LeO.ite ?_ ?_
      | refine LeO.bind ?_ (fun _ => ?_)
    · intro y0 y1 y2 y3 y4 y5 y6 y7
      unfold mainsheetlaw07_MaskHall.l2
      repeat' first
      | (with_reducible exact ih0 _ _)
      | (with_reducible exact ih1 _ _ _ _ _)
      | (with_reducible exact ih2 _ _ _ _ _ _ _)
      | (with_reducible exact ih3 _ _ _ _ _ _ _ _ _ _ _ _ _)
      | (with_reducible exact ih4 _ _ _ _ _ _ _ _)
      | (with_reducible exact mainsheetlaw07_wakes.mono _)
      | (with_reducible exact mask_Allows.mono _ _ _ _)
      | (with_reducible exact LeO.refl _)
      | (with_reducible exact LeO.none _)
      | (with_reducible refine LeO.ite ?_ ?_)
      | (with_reducible refine LeO.bind ?_ (fun _ => ?_))
      | exact ih0 _ _
      | exact ih1 _ _ _ _ _
      | exact ih2 _ _ _ _ _ _ _
      | exact ih3 _ _ _ _ _ _ _ _ _ _ _ _ _
      | exact ih4 _ _ _ _ _ _ _ _
      | exact mainsheetlaw07_wakes.mono _
      | exact mask_Allows.mono _ _ _ _
      | exact LeO.none _
      | refine LeO.ite ?_ ?_
      | refine LeO.bind ?_ (fun _ => ?_)
theorem mainsheetlaw07_MaskHall.mono : ∀ a0 a1 k, LeO (mainsheetlaw07_MaskHall.f k a0 a1) (mainsheetlaw07_MaskHall.f (k + 1) a0 a1) := by
  intro a0 a1 k
  obtain ⟨ih0, ih1, ih2, ih3, ih4⟩ := mainsheetlaw07_MaskHall.mono_l k
  unfold mainsheetlaw07_MaskHall.f
  repeat' first
      | (with_reducible exact ih0 _ _)
      | (with_reducible exact ih1 _ _ _ _ _)
      | (with_reducible exact ih2 _ _ _ _ _ _ _)
      | (with_reducible exact ih3 _ _ _ _ _ _ _ _ _ _ _ _ _)
      | (with_reducible exact ih4 _ _ _ _ _ _ _ _)
      | (with_reducible exact mainsheetlaw07_wakes.mono _)
      | (with_reducible exact mask_Allows.mono _ _ _ _)
      | (with_reducible exact LeO.refl _)
      | (with_reducible exact LeO.none _)
      | (with_reducible refine LeO.ite ?_ ?_)
      | (with_reducible refine LeO.bind ?_ (fun _ => ?_))
      | exact ih0 _ _
      | exact ih1 _ _ _ _ _
      | exact ih2 _ _ _ _ _ _ _
      | exact ih3 _ _ _ _ _ _ _ _ _ _ _ _ _
      | exact ih4 _ _ _ _ _ _ _ _
      | exact mainsheetlaw07_wakes.mono _
      | exact mask_Allows.mono _ _ _ _
      | exact LeO.none _
      | refine LeO.ite ?_ ?_
      | refine LeO.bind ?_ (fun _ => ?_)
set_option maxHeartbeats 8000000 in
set_option maxRecDepth 100000 in
theorem mainsheetlaw07_MaskHall.calls (k : Nat) (P0_ : Nat → Prop) (A0 : Option Addr) (c0 : Nat) (l0 : List (S31)) (a1 : Int) (r : Bool) (w : World) (hs0 : Kd.V k31 31 w w.heap.size (fun k_ => P0_ k_) (.slice A0 l0.length c0) l0) (hT : TabW w) (h : mainsheetlaw07_MaskHall.f k l0 a1 = some r) :
    Calls Tryd.prog 3 #[.slice A0 l0.length c0, .int .u32 a1] w fun e w' => e = .returned (.bool r) ∧ Below w.heap.size w w' := by
  have HT := Aside0.mk hT
  clear hT
  have hu31 := Tryd.underlying31
  have HO0 := Aside0.mk (show Kd.V k31 31 w w.heap.size (fun k_ => (P0_ k_ ∨ w.heap.size ≤ k_)) (.slice A0 l0.length c0) l0 from Kd.V_mono hs0 (fun k_ hk => .inl hk))
  have HB := Aside0.mk (Below.refl w.heap.size w)
  have H : ((mainsheetlaw07_wakes.f k).bind fun t169 => (if t169 = true then (if (l0.length : Int) > 10 then (if 10 ≤ (l0.length : Int) then (mainsheetlaw07_MaskHall.j0 k (l0.take 10) a1) else (none)) else (mainsheetlaw07_MaskHall.j0 k l0 a1)) else (some false))) = some r := h
  clear h
  replace H := Option.bind_eq_some_iff.mp H
  obtain ⟨t169, A30, H⟩ := H
  replace H : (if t169 = true then (if (l0.length : Int) > 10 then (if 10 ≤ (l0.length : Int) then (mainsheetlaw07_MaskHall.j0 k (l0.take 10) a1) else (none)) else (mainsheetlaw07_MaskHall.j0 k l0 a1)) else (some false)) = some r := H
  have A3 := Aside0.mk A30
  clear A30
  by_cases c4 : t169 = true
  · subst c4
    have H1 : (if (l0.length : Int) > 10 then (if 10 ≤ (l0.length : Int) then (mainsheetlaw07_MaskHall.j0 k (l0.take 10) a1) else (none)) else (mainsheetlaw07_MaskHall.j0 k l0 a1)) = some r := by rw [if_pos rfl] at H; exact H
    clear H
    have H := H1
    clear H1
    have HC5 := Aside0.mk H
    clear H
    go_enter Tryd.func3, Tryd.ntmps3
    go_upto_if 20 with (first | ((with_reducible refine gate_callee (f := 8) rfl ?_); refine goesL_ (some 16) rfl rfl Tryd.func8 (by kernel_rfl) rfl #[] rfl (by (try simp only [List.map_toArray, List.map_cons, List.map_nil]); first | done | rfl | (simp only [List.length_drop, List.length_take]; rfl)) ?_; (with_reducible refine (mainsheetlaw07_wakes.calls k  true _ ?tb A3.out).mono ?_); (case tb => exact HT.out.step (by repeat (first | (with_reducible first | exact HB.out | apply below_alloc | apply pw_below_drewN | apply below_drew1) | exact HB.out))); rintro e w6 ⟨rfl, hb⟩; refine ⟨_, rfl, ?_⟩; have n0_ := Aside0.mk (Kd.V_below (by (with_reducible repeat (first | apply Kd.V_alloc | apply Kd.V_drewN | apply Kd.V_drew)); exact HO0.out) hb); have n1_ := Aside0.mk (below_step (by repeat (first | (with_reducible first | exact HB.out | apply below_alloc | apply pw_below_drewN | apply below_drew1) | exact HB.out)) hb); clear HO0; clear HB; have HO0 := n0_; have HB := n1_; clear n0_ n1_; (try clear hb); (try clear hb2); (try clear hk); (try clear hi)))
    (try simp only [Act.put, List.setIfInBounds_toArray, List.set_cons_zero, List.set_cons_succ])
    go_cut [0] (fun v0 wc => ∃ (kq : Nat) (x0_4 : List (S31)), Aside0 (mainsheetlaw07_MaskHall.j0 kq x0_4 a1 = some r) ∧ Aside0 (kq ≤ k) ∧ Aside0 (Kd.V k31 31 wc w.heap.size (fun k_ => (P0_ k_ ∨ w.heap.size ≤ k_)) v0 x0_4) ∧ Aside0 (Below w.heap.size w wc))
    case first =>
      have H := HC5.out
      clear HC5
      by_cases c7 : (l0.length : Int) > 10
      · rw [if_pos c7] at H
        have c7b0 : decide (10 < (l0.length : Int)) = true := decide_eq_true c7
        have c7b1 : decide (10 < l0.length) = true := decide_eq_true (by omega)
        clear c7
        (first | rw [c7b0] | (simp only [i64_w, i32_w]; rw [c7b0]) | skip)
        by_cases c8 : 10 ≤ (l0.length : Int)
        · rw [if_pos c8] at H
          have c8b0 := eq_true c8
          have c8b1 : decide (10 ≤ (l0.length : Int)) = true := decide_eq_true c8
          clear c8
          obtain ⟨y170, hy170⟩ : ∃ y_ : List (S31), y_ = (l0.take 10) := ⟨_, rfl⟩
          replace H : (mainsheetlaw07_MaskHall.j0 k y170 a1) = some r := by first | (rw [hy170]; with_reducible exact H) | (have H2_ := (Option.bind_some _ _).symm.trans H; rw [hy170]; with_reducible exact H2_) | (have H2_ := (Option.bind_some _ _).symm.trans H; with_reducible exact H2_) | with_reducible exact H | (rw [hy170]; exact H) | exact H
          have Ny170 := Aside0.mk hy170
          clear hy170
          have H' := Aside0.mk H
          clear H
          have q9 : (10 : Int) ≤ ((l0.length : Int) : Int) := of_decide_eq_true (by first | (with_reducible assumption) | assumption)
          obtain ⟨i09, hi09, _, hsz9, _⟩ := info_parts info31
          have hroom9 : l0.length ≤ c0 := (Kd.V_reads' HO0.out).2.1
          have hC9 : Kd.F k31 _ _ A0 l0.length l0 := (Kd.V_at (base := w.heap.size) HO0.out).2.2
          have hcut9 := cut_to (P := Tryd.prog) 22 31 .i64 Tryd.underlying22 hi09 A0 l0.length c0 10 (by omega) q9 hroom9
          have hr9 := Kd.F_take (m := 10) hC9 (by omega)
          have hy9 : y170.length = (10 : Int).toNat := (by rw [Ny170.out, List.length_take]; omega)
          rw [← Ny170.out] at hr9
          rw [← hy9] at hcut9
          have HO174 := Aside0.mk (show Kd.V k31 31 _ w.heap.size _ (.slice A0 y170.length c0) y170 from Kd.V_mk (by omega) hr9)
          have HC174 := Aside0.mk (show y170.length ≤ c0 from by omega)
          clear hr9 hC9 hroom9 hi09 hsz9
          have KY9 := Aside0.mk hy9
          clear hy9
          replace q9 := eq_true q9
          go_wp2
          go_meet
          case rel => exact ⟨_, (y170), H', ⟨by first | omega | exact Nat.le_refl _⟩, ⟨by (with_reducible repeat (first | apply Kd.V_alloc | apply Kd.V_drewN | apply Kd.V_drew)); exact HO174.out⟩, ⟨by repeat (first | (with_reducible first | exact HB.out | apply below_alloc | apply pw_below_drewN | apply below_drew1) | exact HB.out)⟩⟩
        · rw [if_neg c8] at H
          exact absurd H (by simp)
      · rw [if_neg c7] at H
        have c7b0 : decide (10 < (l0.length : Int)) = false := decide_eq_false c7
        have c7b1 : decide (10 < l0.length) = false := decide_eq_false (by omega)
        clear c7
        (first | rw [c7b0] | (simp only [i64_w, i32_w]; rw [c7b0]) | skip)
        have H' := Aside0.mk H
        clear H
        go_wp2
        go_meet
        case rel => exact ⟨_, (l0), H', ⟨by first | omega | exact Nat.le_refl _⟩, ⟨by (with_reducible repeat (first | apply Kd.V_alloc | apply Kd.V_drewN | apply Kd.V_drew)); exact HO0.out⟩, ⟨by repeat (first | (with_reducible first | exact HB.out | apply below_alloc | apply pw_below_drewN | apply below_drew1) | exact HB.out)⟩⟩
    case rest =>
      clear HC5
      try clear p2
      try clear c3
      try clear c4
      try clear c7
      try clear c7b0
      try clear c7b1
      try clear c8
      try clear c8b0
      try clear c8b1
      try clear q9
      try clear q9
      obtain ⟨kq, x0_4, HA, HJ4, HO_0, HB⟩ := hcut
      cases kq with
      | zero => exact absurd HA.out (by simp [mainsheetlaw07_MaskHall.j0])
      | succ kj4 =>
        have H := HA.out
        clear HA
        simp only [mainsheetlaw07_MaskHall.j0] at H
        replace H := Option.bind_eq_some_iff.mp H
        obtain ⟨⟨t175, t176⟩, A100, H⟩ := H
        replace H : (if t176 = 0 then (mainsheetlaw07_MaskHall.j1 kj4 x0_4 a1 t175 t176 false) else (mainsheetlaw07_MaskHall.j1 kj4 x0_4 a1 t175 t176 (t176 != 4))) = some r := H
        have A10 := Aside0.mk A100
        clear A100
        have HC11 := Aside0.mk H
        clear H
        obtain ⟨Ao12, co12, eo12⟩ := Kd.V_slice HO_0.out
        subst eo12
        go_upto_region 6 with (first | ((with_reducible refine gate_callee (f := 9) rfl ?_); refine goesL_ (some 26) rfl rfl Tryd.func9 (by kernel_rfl) rfl #[.slice Ao12 x0_4.length co12, .int .u32 a1] rfl (by (try simp only [List.map_toArray, List.map_cons, List.map_nil]); first | done | rfl | (simp only [List.length_drop, List.length_take]; rfl)) ?_; (with_reducible refine (mask_Choice.calls _ _ x0_4 a1 t175 t176 _ ?side1 ?side2 ?tb A10.out).mono ?_); (case tb => exact HT.out.step (by repeat (first | (with_reducible first | exact HB.out | apply below_alloc | apply pw_below_drewN | apply below_drew1) | exact HB.out))); (case side1 => repeat (first | exact (Kd.V_reads' HO_0.out).2.2 | (with_reducible refine Kd.C_alloc ?_ _) | (with_reducible refine Kd.C_drewN ?_ _) | (with_reducible refine Kd.C_drew ?_))); (case side2 => exact (Kd.V_reads' HO_0.out).2.1); rintro e w13 ⟨v177, rfl, ho0, hb⟩; refine ⟨_, rfl, ?_⟩; have n0_ := Aside0.mk (Kd.V_elder' (by (with_reducible repeat (first | apply Kd.V_alloc | apply Kd.V_drewN | apply Kd.V_drew)); exact HO_0.out) (Kd.R_base ho0) hb); have n1_ := Aside0.mk (Kd.R_lower (Kd.R_newM (M := fun k_ => (w.heap.size ≤ k_)) ho0 (below_size (by repeat (first | (with_reducible first | exact HB.out | apply below_alloc | apply pw_below_drewN | apply below_drew1) | exact HB.out))) (fun k_ h_ => h_)) (below_size (by repeat (first | (with_reducible first | exact HB.out | apply below_alloc | apply pw_below_drewN | apply below_drew1) | exact HB.out)))); have n2_ := Aside0.mk (below_step (by repeat (first | (with_reducible first | exact HB.out | apply below_alloc | apply pw_below_drewN | apply below_drew1) | exact HB.out)) hb); clear HO_0; clear HB; have HO_0 := n0_; have HO178 := n1_; have HB := n2_; clear n0_ n1_ n2_; (try clear hb); (try clear hb2); (try clear hk); (try clear hi); (try clear ho0)))
        (try simp only [Act.put, List.setIfInBounds_toArray, List.set_cons_zero, List.set_cons_succ])
        go_cut [34] (fun v34 wc => ∃ (kq : Nat) (x34_10 : Bool), v34 = .bool x34_10 ∧ Aside0 (mainsheetlaw07_MaskHall.j1 kq x0_4 a1 t175 t176 x34_10 = some r) ∧ Aside0 (kq ≤ kj4) ∧ Aside0 (Kd.V k31 31 wc w.heap.size (fun k_ => (P0_ k_ ∨ w.heap.size ≤ k_) ∧ some k_ ≠ (v177 : Value).ownBlock) (.slice Ao12 x0_4.length co12) x0_4) ∧ Aside0 (Kd.R (Kd.int .i64) 3 wc w.heap.size (fun k_ => (w.heap.size ≤ k_)) v177 t175) ∧ Aside0 (Below w.heap.size w wc))
        case first =>
          have H := HC11.out
          clear HC11
          by_cases c14 : t176 = 0
          · rw [if_pos c14] at H
            have c14b0 : (t176 == 0) = true := beq_iff_eq.mpr c14
            have c14b1 : (t176 != 0) = false := bne_eq_false_iff_eq.mpr c14
            clear c14
            (first | rw [c14b0] | (simp only [i64_w, i32_w]; rw [c14b0]) | skip)
            have H' := Aside0.mk H
            clear H
            go_wp2
            go_meet
            case rel => exact ⟨_, (false), (by first | rfl | (simp; done) | (simp [*]; done)), H', ⟨by have := HJ4.out; first | omega | exact Nat.le_refl _⟩, ⟨by (with_reducible repeat (first | apply Kd.V_alloc | apply Kd.V_drewN | apply Kd.V_drew)); exact HO_0.out⟩, ⟨by (with_reducible repeat (first | apply Kd.R_alloc | apply Kd.R_drewN | apply Kd.R_drew)); exact Kd.R_mono HO178.out (fun _ hk => hk.1)⟩, ⟨by repeat (first | (with_reducible first | exact HB.out | apply below_alloc | apply pw_below_drewN | apply below_drew1) | exact HB.out)⟩⟩
          · rw [if_neg c14] at H
            have c14b0 : (t176 == 0) = false := beq_eq_false_iff_ne.mpr c14
            have c14b1 : (t176 != 0) = true := bne_iff_ne.mpr c14
            (first | rw [c14b0] | (simp only [i64_w, i32_w]; rw [c14b0]) | skip)
            have H' := Aside0.mk H
            clear H
            go_wp2
            go_meet
            case rel => exact ⟨_, ((t176 != 4)), (by first | rfl | (simp; done) | (simp [*]; done)), H', ⟨by have := HJ4.out; first | omega | exact Nat.le_refl _⟩, ⟨by (with_reducible repeat (first | apply Kd.V_alloc | apply Kd.V_drewN | apply Kd.V_drew)); exact HO_0.out⟩, ⟨by (with_reducible repeat (first | apply Kd.R_alloc | apply Kd.R_drewN | apply Kd.R_drew)); exact Kd.R_mono HO178.out (fun _ hk => hk.1)⟩, ⟨by repeat (first | (with_reducible first | exact HB.out | apply below_alloc | apply pw_below_drewN | apply below_drew1) | exact HB.out)⟩⟩
        case rest =>
          clear HC11
          try clear c1
          try clear p2
          try clear c3
          try clear c4
          try clear c7
          try clear c7b0
          try clear c7b1
          try clear c8
          try clear c8b0
          try clear c8b1
          try clear c9
          try clear q9
          try clear c14
          try clear c14b0
          try clear c14b1
          try clear p2
          try clear q9
          obtain ⟨kq, x34_10, rfl, HA, HJ10, HO_0, HO_5, HB⟩ := hcut
          cases kq with
          | zero => exact absurd HA.out (by simp [mainsheetlaw07_MaskHall.j1])
          | succ kj10 =>
            have H := HA.out
            clear HA
            simp only [mainsheetlaw07_MaskHall.j1] at H
            by_cases c15 : x34_10 = true
            · subst c15
              have H1 : (some ((t175.length : Int) == 0)) = some r := by rw [if_pos rfl] at H; exact H
              clear H
              have H := H1
              clear H1
              obtain rfl := Option.some.inj H
              obtain ⟨Ao16, co16, eo16⟩ := Kd.R_slice HO_5.out
              subst eo16
              go_wp2
              go_ret
              exact ⟨by first | rfl | (simp [errW_none, errW_some] <;> rfl) | (simp [*, errW_none, errW_some] <;> rfl), by repeat (first | (with_reducible first | exact HB.out | apply below_alloc | apply pw_below_drewN | apply below_drew1) | exact HB.out)⟩
            · replace c15 := Bool.eq_false_iff.mpr c15
              subst c15
              have H1 : (mainsheetlaw07_MaskHall.l0 kj10 x0_4 a1 t175 t176 true (shl .i64 1 (x0_4.length : Int)) 0) = some r := by rw [if_neg (show ¬ (false = true) by decide)] at H; exact H
              clear H
              have H := H1
              clear H1
              obtain ⟨ji17, hji17⟩ : ∃ j_ : Int, (shl .i64 1 (x0_4.length : Int)) = j_ := ⟨_, rfl⟩
              replace H : (mainsheetlaw07_MaskHall.l0 kj10 x0_4 a1 t175 t176 true ji17 0) = some r := by first | (rw [hji17] at H; exact H) | (simp only [hji17] at H ⊢; exact H)
              have hji17_ : (IntKind.i64.wrap (1 * 2 ^ min (x0_4.length : Int).toNat 64)) = ji17 := hji17
              have hji17z : (x0_4.length : Int) ≤ 64 → (IntKind.i64.wrap (1 * 2 ^ (x0_4.length : Int).toNat)) = ji17 := shl_small hji17
              have hji17p : (IntKind.i64.wrap (1 * 2 ^ min x0_4.length 64)) = ji17 := hji17_
              have hji17q : (x0_4.length : Int) ≤ 64 → (IntKind.i64.wrap (1 * 2 ^ x0_4.length)) = ji17 := hji17z
              have hji17r : (IntKind.i64.wrap (2 ^ min x0_4.length 64)) = ji17 := by have h_ := hji17p; rw [Int.one_mul] at h_; exact h_
              have hji17s : (x0_4.length : Int) ≤ 64 → (IntKind.i64.wrap (2 ^ x0_4.length)) = ji17 := fun hle_ => by have h_ := hji17q hle_; rw [Int.one_mul] at h_; exact h_
              have hji17u : (IntKind.i64.wrap (2 ^ min (x0_4.length : Int).toNat 64)) = ji17 := by have h_ := hji17_; rw [Int.one_mul] at h_; exact h_
              have hji17v : (x0_4.length : Int) ≤ 64 → (IntKind.i64.wrap (2 ^ (x0_4.length : Int).toNat)) = ji17 := fun hle_ => by have h_ := hji17z hle_; rw [Int.one_mul] at h_; exact h_
              have hji17y : (wrap64 (1 * 2 ^ min (x0_4.length : Int).toNat 64)) = ji17 := (i64_w _).symm.trans hji17_
              have hji17x : (x0_4.length : Int) ≤ 64 → (wrap64 (1 * 2 ^ (x0_4.length : Int).toNat)) = ji17 := fun h_ => (i64_w _).symm.trans (hji17z h_)
              have H' := Aside0.mk H
              clear H
              go_wp2
              go_loopg [7, 41] kj10 (fun kq v7 v41 w' => ∃ (x7_3 : Bool) (x41_3 : Int), v7 = .bool x7_3 ∧ v41 = .int .i64 x41_3 ∧ Aside0 (mainsheetlaw07_MaskHall.l0 kq x0_4 a1 t175 t176 x7_3 ji17 x41_3 = some r) ∧ Aside0 (kq ≤ kj10) ∧ Aside0 (Kd.V k31 31 w' w.heap.size (fun k_ => (P0_ k_ ∨ w.heap.size ≤ k_) ∧ some k_ ≠ (v177 : Value).ownBlock) (.slice Ao12 x0_4.length co12) x0_4) ∧ Aside0 (Kd.R (Kd.int .i64) 3 w' w.heap.size (fun k_ => (w.heap.size ≤ k_)) v177 t175) ∧ Aside0 (Below w.heap.size w w'))
              case atStart => exact ⟨(true), (0), (by first | rfl | (simp; done) | (simp [*]; done)), (by first | rfl | (simp; done) | (simp [*]; done)), H', ⟨Nat.le_refl _⟩, ⟨by (with_reducible repeat (first | apply Kd.V_alloc | apply Kd.V_drewN | apply Kd.V_drew)); exact HO_0.out⟩, ⟨by (with_reducible repeat (first | apply Kd.R_alloc | apply Kd.R_drewN | apply Kd.R_drew)); exact HO_5.out⟩, ⟨by repeat (first | (with_reducible first | exact HB.out | apply below_alloc | apply pw_below_drewN | apply below_drew1) | exact HB.out)⟩⟩
              case round =>
                clear H'
                try clear c1
                try clear p2
                try clear c3
                try clear c4
                try clear p6
                try clear c7
                try clear c7b0
                try clear c7b1
                try clear c8
                try clear c8b0
                try clear c8b1
                try clear c9
                try clear q9
                try clear c14
                try clear c14b0
                try clear c14b1
                try clear c15
                try clear p2
                try clear q9
                obtain ⟨x7_3, x41_3, rfl, rfl, HA, HK3, HO_0, HO_5, HB⟩ := hrel
                cases gk with
                | zero => exact absurd HA.out (by simp [mainsheetlaw07_MaskHall.l0])
                | succ k3 =>
                  have H := HA.out
                  clear HA
                  simp only [mainsheetlaw07_MaskHall.l0] at H
                  by_cases c18 : x41_3 < ji17
                  · rw [if_pos c18] at H
                    have c18b0 : decide (x41_3 < ji17) = true := decide_eq_true c18
                    clear c18
                    have H' := Aside0.mk H
                    clear H
                    go_wp2
                    go_loopg [9, 10, 46] k3 (fun kq v9 v10 v46 w' => ∃ (x9_4 : Int) (x10_4 : Int) (x46_4 : Int), v9 = .int .i64 x9_4 ∧ v10 = .int .u32 x10_4 ∧ v46 = .int .i64 x46_4 ∧ Aside0 (mainsheetlaw07_MaskHall.l1 kq x0_4 a1 t175 t176 x7_3 x41_3 x9_4 x10_4 ji17 x41_3 x0_4 (x0_4.length : Int) x46_4 = some r) ∧ Aside0 (kq ≤ k3) ∧ Aside0 (Kd.V k31 31 w' w.heap.size (fun k_ => (P0_ k_ ∨ w.heap.size ≤ k_) ∧ some k_ ≠ (v177 : Value).ownBlock) (.slice Ao12 x0_4.length co12) x0_4) ∧ Aside0 (Kd.R (Kd.int .i64) 3 w' w.heap.size (fun k_ => (w.heap.size ≤ k_)) v177 t175) ∧ Aside0 (Kd.V k31 31 w' w.heap.size (fun k_ => (P0_ k_ ∨ w.heap.size ≤ k_) ∧ some k_ ≠ (v177 : Value).ownBlock) (.slice Ao12 x0_4.length co12) x0_4) ∧ Aside0 (Below w.heap.size w w'))
                    case atStart => exact ⟨(0), (0), (0), (by first | rfl | (simp; done) | (simp [*]; done)), (by first | rfl | (simp; done) | (simp [*]; done)), (by first | rfl | (simp; done) | (simp [*]; done)), H', ⟨Nat.le_refl _⟩, ⟨by (with_reducible repeat (first | apply Kd.V_alloc | apply Kd.V_drewN | apply Kd.V_drew)); exact HO_0.out⟩, ⟨by (with_reducible repeat (first | apply Kd.R_alloc | apply Kd.R_drewN | apply Kd.R_drew)); exact HO_5.out⟩, ⟨by (with_reducible repeat (first | apply Kd.V_alloc | apply Kd.V_drewN | apply Kd.V_drew)); exact HO_0.out⟩, ⟨by repeat (first | (with_reducible first | exact HB.out | apply below_alloc | apply pw_below_drewN | apply below_drew1) | exact HB.out)⟩⟩
                    case round =>
                      clear H'
                      try clear c1
                      try clear p2
                      try clear c3
                      try clear c4
                      try clear p6
                      try clear c7
                      try clear c7b0
                      try clear c7b1
                      try clear c8
                      try clear c8b0
                      try clear c8b1
                      try clear c9
                      try clear q9
                      try clear c14
                      try clear c14b0
                      try clear c14b1
                      try clear c15
                      try clear c18
                      try clear c18b0
                      try clear p2
                      try clear p6
                      try clear q9
                      obtain ⟨x9_4, x10_4, x46_4, rfl, rfl, rfl, HA, HK4, HO_0, HO_5, HO_44, HB⟩ := hrel
                      cases gk with
                      | zero => exact absurd HA.out (by simp [mainsheetlaw07_MaskHall.l1])
                      | succ k4 =>
                        have H := HA.out
                        clear HA
                        simp only [mainsheetlaw07_MaskHall.l1] at H
                        by_cases c19 : x46_4 < (x0_4.length : Int)
                        · rw [if_pos c19] at H
                          have c19b0 : decide (x46_4 < (x0_4.length : Int)) = true := decide_eq_true c19
                          clear c19
                          by_cases c20 : 0 ≤ x46_4
                          · rw [if_pos c20] at H
                            have c20b0 : decide (0 ≤ x46_4) = true := decide_eq_true c20
                            clear c20
                            by_cases c21 : x46_4 < (x0_4.length : Int)
                            · rw [if_pos c21] at H
                              have c21b0 : decide (x46_4 < (x0_4.length : Int)) = true := decide_eq_true c21
                              clear c21
                              have c22b0 := eq_true (of_decide_eq_true (by first | (with_reducible assumption) | assumption) : 0 ≤ x46_4)
                              obtain ⟨ji23, hji23⟩ : ∃ j_ : Int, (shr .i64 x41_3 x46_4) = j_ := ⟨_, rfl⟩
                              replace H : (if (Go.bits .and .i64 (ji23) 1) = 1 then ((mask_Allows.f k4 ((rd_T31 x0_4 x46_4).f0) ((rd_T31 x0_4 x46_4).f1) a1).bind fun t181 => (mainsheetlaw07_MaskHall.l1 k4 x0_4 a1 t175 t176 x7_3 x41_3 (wrap64 (x9_4 + 1)) (Go.bits .or .u32 x10_4 t181) ji17 x41_3 x0_4 (x0_4.length : Int) (wrap64 (x46_4 + 1)))) else (mainsheetlaw07_MaskHall.l1 k4 x0_4 a1 t175 t176 x7_3 x41_3 x9_4 x10_4 ji17 x41_3 x0_4 (x0_4.length : Int) (wrap64 (x46_4 + 1)))) = some r := by first | (rw [hji23] at H; exact H) | (simp only [hji23] at H ⊢; exact H)
                              have hji23_ : (x41_3 / 2 ^ min x46_4.toNat 64) = ji23 := hji23
                              have hji23z : x46_4 ≤ 64 → (x41_3 / 2 ^ x46_4.toNat) = ji23 := shr_small hji23
                              by_cases c24 : (Go.bits .and .i64 (ji23) 1) = 1
                              · rw [if_pos c24] at H
                                have c24b0 : ((Go.bits .and .i64 (ji23) 1) == 1) = true := beq_iff_eq.mpr c24
                                have c24b1 : ((Go.bits .and .i64 (ji23) 1) != 1) = false := bne_eq_false_iff_eq.mpr c24
                                clear c24
                                replace H := Option.bind_eq_some_iff.mp H
                                obtain ⟨t181, A250, H⟩ := H
                                replace H : (mainsheetlaw07_MaskHall.l1 k4 x0_4 a1 t175 t176 x7_3 x41_3 (wrap64 (x9_4 + 1)) (Go.bits .or .u32 x10_4 t181) ji17 x41_3 x0_4 (x0_4.length : Int) (wrap64 (x46_4 + 1))) = some r := H
                                have A25 := Aside0.mk A250
                                clear A250
                                have H' := Aside0.mk H
                                clear H
                                have p179 : 0 ≤ (x46_4 : Int) := of_decide_eq_true (by first | (with_reducible assumption) | assumption)
                                have q179 : x46_4 < (x0_4.length : Int) := of_decide_eq_true (by first | (with_reducible assumption) | assumption)
                                obtain ⟨ad179, e179, hx179_0, hx179_1⟩ := at_T31 (Kd.V_reads' HO_44.out).2.2 x46_4 p179 q179
                                cases e179
                                replace p179 := eq_true p179
                                replace q179 := eq_true q179
                                go_wp2_with (first | ((with_reducible refine gate_dst (N := 12) rfl ?_); (try (refine gate_guard (by rfl) ?_; dsimp only)); refine box_event ?hg (N := 12) ?hd (cs := #[.int .u32 0, .int .u32 0]) (t := 31) ?hr ?_; (case hd => rfl); (case hg => rfl); (case hr => first | (go_simp; done) | (go_simp; rfl)); intro gb180 hg w26 hbox hb; have n0_ := Aside0.mk (Kd.V_below (Kd.V_elderB (by (with_reducible repeat (first | apply Kd.V_alloc | apply Kd.V_drewN | apply Kd.V_drew)); exact HO_0.out) gb180 (Nat.le_of_eq hg.symm)) hb); have n1_ := Aside0.mk (Kd.R_below (by (with_reducible repeat (first | apply Kd.R_alloc | apply Kd.R_drewN | apply Kd.R_drew)); exact HO_5.out) hb); have n2_ := Aside0.mk (Kd.V_below (Kd.V_elderB (by (with_reducible repeat (first | apply Kd.V_alloc | apply Kd.V_drewN | apply Kd.V_drew)); exact HO_44.out) gb180 (Nat.le_of_eq hg.symm)) hb); have n3_ := Aside0.mk (below_step (by repeat (first | (with_reducible first | exact HB.out | apply below_alloc | apply pw_below_drewN | apply below_drew1) | exact HB.out)) hb); have n4_ := Aside0.mk (hbox); have n5_ := Aside0.mk ((by rw [hg]; exact (below_size (by repeat (first | (with_reducible first | exact HB.out | apply below_alloc | apply pw_below_drewN | apply below_drew1) | exact HB.out))) : w.heap.size ≤ gb180)); have n6_ := Aside0.mk ((by rw [hg]; exact (below_size (by repeat (first | (with_reducible first | exact HB.out | apply below_alloc | apply pw_below_drewN | apply below_drew1) | exact HB.out))) : w.heap.size ≤ gb180)); clear HO_0; clear HO_5; clear HO_44; clear HB; have HO_0 := n0_; have HO_5 := n1_; have HO_44 := n2_; have HB := n3_; have BK180 := n4_; have GW180 := n5_; have GE180 := n6_; clear n0_ n1_ n2_ n3_ n4_ n5_ n6_; clear hb hbox hg; have hcz27_0 : w26.cell? ⟨gb180, 0, none⟩ = some (.int .u32 0) := (blk_cell BK180.out 0).trans rfl; have hcz27_1 : w26.cell? ⟨gb180, 1, none⟩ = some (.int .u32 0) := (blk_cell BK180.out 1).trans rfl; have hfz27_0 := blk_frozen BK180.out 0; have hfz27_1 := blk_frozen BK180.out 1) | ((with_reducible refine gate_callee (f := 10) rfl ?_); refine goesL_ (some 61) rfl rfl Tryd.func10 (by kernel_rfl) rfl #[.agg #[.int .u32 ((rd_T31 x0_4 x46_4).f0), .int .u32 ((rd_T31 x0_4 x46_4).f1)], .int .u32 a1] rfl (by (try simp only [List.map_toArray, List.map_cons, List.map_nil]); first | done | rfl | (simp only [List.length_drop, List.length_take]; rfl)) ?_; (with_reducible refine (mask_Allows.calls k4 ((rd_T31 x0_4 x46_4).f0) ((rd_T31 x0_4 x46_4).f1) a1 t181 _ A25.out).mono ?_); rintro e w28 ⟨rfl, hb⟩; refine ⟨_, rfl, ?_⟩; have n0_ := Aside0.mk (Kd.V_below (by (with_reducible repeat (first | apply Kd.V_alloc | apply Kd.V_drewN | apply Kd.V_drew)); exact (Kd.V_mono (Kd.V_far (p := ⟨gb180, 1, none⟩) (Kd.V_far (p := ⟨gb180, 0, none⟩) (Kd.V_mono HO_0.out (fun k_ hk => (⟨hk, hk.2⟩ : _ ∧ k_ ≠ gb180))) (fun _ hk => hk.2) (.int .u32 ((rd_T31 x0_4 x46_4).f0))) (fun _ hk => hk.2) (.int .u32 ((rd_T31 x0_4 x46_4).f1))) (fun _ h_ => h_.1))) hb); have n1_ := Aside0.mk (Kd.R_below (by (with_reducible repeat (first | apply Kd.R_alloc | apply Kd.R_drewN | apply Kd.R_drew)); exact (Kd.R_mono (Kd.R_far (p := ⟨gb180, 1, none⟩) (Kd.R_far (p := ⟨gb180, 0, none⟩) (Kd.R_types HO_5.out BK180.out (by decide)) (fun _ hk => hk.2) (.int .u32 ((rd_T31 x0_4 x46_4).f0))) (fun _ hk => hk.2) (.int .u32 ((rd_T31 x0_4 x46_4).f1))) (fun _ h_ => h_.1))) hb); have n2_ := Aside0.mk (Kd.V_below (by (with_reducible repeat (first | apply Kd.V_alloc | apply Kd.V_drewN | apply Kd.V_drew)); exact (Kd.V_mono (Kd.V_far (p := ⟨gb180, 1, none⟩) (Kd.V_far (p := ⟨gb180, 0, none⟩) (Kd.V_mono HO_44.out (fun k_ hk => (⟨hk, hk.2⟩ : _ ∧ k_ ≠ gb180))) (fun _ hk => hk.2) (.int .u32 ((rd_T31 x0_4 x46_4).f0))) (fun _ hk => hk.2) (.int .u32 ((rd_T31 x0_4 x46_4).f1))) (fun _ h_ => h_.1))) hb); have n3_ := Aside0.mk (blk_below (g := gb180) (o := .cells #[.int .u32 ((rd_T31 x0_4 x46_4).f0), .int .u32 ((rd_T31 x0_4 x46_4).f1)] 31 (0, 0)) (by (with_reducible repeat (first | refine blk_drewN ?_ _ | refine blk_drew ?_ | refine blk_alloc ?_ _)); refine blk_put (cs := #[.int .u32 ((rd_T31 x0_4 x46_4).f0), .int .u32 0]) ?_ 1 _ rfl; (with_reducible repeat (first | refine blk_drewN ?_ _ | refine blk_drew ?_ | refine blk_alloc ?_ _)); refine blk_put (cs := #[.int .u32 0, .int .u32 0]) ?_ 0 _ rfl; (with_reducible repeat (first | refine blk_drewN ?_ _ | refine blk_drew ?_ | refine blk_alloc ?_ _)); exact BK180.out) hb); have n4_ := Aside0.mk (below_step (by repeat (first | (with_reducible first | exact HB.out | apply below_alloc | apply pw_below_drewN | apply below_drew1 | refine below_set ?_ GE180.out) | exact HB.out)) hb); clear HO_0; clear HO_5; clear HO_44; clear BK180; clear HB; have HO_0 := n0_; have HO_5 := n1_; have HO_44 := n2_; have BK180 := n3_; have HB := n4_; clear n0_ n1_ n2_ n3_ n4_; (try clear hb); (try clear hb2); (try clear hk); (try clear hi)))
                                go_roundg k4
                                case measure => have := HJ4.out; have := HJ10.out; have := HK3.out; have := HK4.out; omega
                                case rel => exact ⟨(wrap64 (x9_4 + 1)), (Go.bits .or .u32 x10_4 t181), (wrap64 (x46_4 + 1)), (by first | rfl | (simp; done) | (simp [*]; done)), (by first | rfl | (simp; done) | (simp [*]; done)), (by first | rfl | (simp; done) | (simp [*]; done)), H', ⟨by have := HJ4.out; have := HJ10.out; have := HK3.out; have := HK4.out; omega⟩, ⟨by (with_reducible repeat (first | apply Kd.V_alloc | apply Kd.V_drewN | apply Kd.V_drew)); exact Kd.V_mono HO_0.out (fun _ hk => ⟨hk.1.1, hk.1.2⟩)⟩, ⟨by (with_reducible repeat (first | apply Kd.R_alloc | apply Kd.R_drewN | apply Kd.R_drew)); exact HO_5.out⟩, ⟨by (with_reducible repeat (first | apply Kd.V_alloc | apply Kd.V_drewN | apply Kd.V_drew)); exact Kd.V_mono HO_44.out (fun _ hk => ⟨hk.1.1, hk.1.2⟩)⟩, ⟨by repeat (first | (with_reducible first | exact HB.out | apply below_alloc | apply pw_below_drewN | apply below_drew1 | refine below_set ?_ GE180.out) | exact HB.out)⟩⟩
                              · rw [if_neg c24] at H
                                have c24b0 : ((Go.bits .and .i64 (ji23) 1) == 1) = false := beq_eq_false_iff_ne.mpr c24
                                have c24b1 : ((Go.bits .and .i64 (ji23) 1) != 1) = true := bne_iff_ne.mpr c24
                                have H' := Aside0.mk H
                                clear H
                                have p179 : 0 ≤ (x46_4 : Int) := of_decide_eq_true (by first | (with_reducible assumption) | assumption)
                                have q179 : x46_4 < (x0_4.length : Int) := of_decide_eq_true (by first | (with_reducible assumption) | assumption)
                                obtain ⟨ad179, e179, hx179_0, hx179_1⟩ := at_T31 (Kd.V_reads' HO_44.out).2.2 x46_4 p179 q179
                                cases e179
                                replace p179 := eq_true p179
                                replace q179 := eq_true q179
                                go_wp2_with (first | ((with_reducible refine gate_dst (N := 12) rfl ?_); (try (refine gate_guard (by rfl) ?_; dsimp only)); refine box_event ?hg (N := 12) ?hd (cs := #[.int .u32 0, .int .u32 0]) (t := 31) ?hr ?_; (case hd => rfl); (case hg => rfl); (case hr => first | (go_simp; done) | (go_simp; rfl)); intro gb180 hg w29 hbox hb; have n0_ := Aside0.mk (Kd.V_below (Kd.V_elderB (by (with_reducible repeat (first | apply Kd.V_alloc | apply Kd.V_drewN | apply Kd.V_drew)); exact HO_0.out) gb180 (Nat.le_of_eq hg.symm)) hb); have n1_ := Aside0.mk (Kd.R_below (by (with_reducible repeat (first | apply Kd.R_alloc | apply Kd.R_drewN | apply Kd.R_drew)); exact HO_5.out) hb); have n2_ := Aside0.mk (Kd.V_below (Kd.V_elderB (by (with_reducible repeat (first | apply Kd.V_alloc | apply Kd.V_drewN | apply Kd.V_drew)); exact HO_44.out) gb180 (Nat.le_of_eq hg.symm)) hb); have n3_ := Aside0.mk (below_step (by repeat (first | (with_reducible first | exact HB.out | apply below_alloc | apply pw_below_drewN | apply below_drew1) | exact HB.out)) hb); have n4_ := Aside0.mk (hbox); have n5_ := Aside0.mk ((by rw [hg]; exact (below_size (by repeat (first | (with_reducible first | exact HB.out | apply below_alloc | apply pw_below_drewN | apply below_drew1) | exact HB.out))) : w.heap.size ≤ gb180)); have n6_ := Aside0.mk ((by rw [hg]; exact (below_size (by repeat (first | (with_reducible first | exact HB.out | apply below_alloc | apply pw_below_drewN | apply below_drew1) | exact HB.out))) : w.heap.size ≤ gb180)); clear HO_0; clear HO_5; clear HO_44; clear HB; have HO_0 := n0_; have HO_5 := n1_; have HO_44 := n2_; have HB := n3_; have BK180 := n4_; have GW180 := n5_; have GE180 := n6_; clear n0_ n1_ n2_ n3_ n4_ n5_ n6_; clear hb hbox hg; have hcz30_0 : w29.cell? ⟨gb180, 0, none⟩ = some (.int .u32 0) := (blk_cell BK180.out 0).trans rfl; have hcz30_1 : w29.cell? ⟨gb180, 1, none⟩ = some (.int .u32 0) := (blk_cell BK180.out 1).trans rfl; have hfz30_0 := blk_frozen BK180.out 0; have hfz30_1 := blk_frozen BK180.out 1))
                                go_roundg k4
                                case measure => have := HJ4.out; have := HJ10.out; have := HK3.out; have := HK4.out; omega
                                case rel => exact ⟨(x9_4), (x10_4), (wrap64 (x46_4 + 1)), (by first | rfl | (simp; done) | (simp [*]; done)), (by first | rfl | (simp; done) | (simp [*]; done)), (by first | rfl | (simp; done) | (simp [*]; done)), H', ⟨by have := HJ4.out; have := HJ10.out; have := HK3.out; have := HK4.out; omega⟩, ⟨by (with_reducible repeat (first | apply Kd.V_alloc | apply Kd.V_drewN | apply Kd.V_drew)); exact Kd.V_mono (Kd.V_far (p := ⟨gb180, 1, none⟩) (Kd.V_far (p := ⟨gb180, 0, none⟩) (Kd.V_mono HO_0.out (fun k_ hk => (⟨hk, hk.2⟩ : _ ∧ k_ ≠ gb180))) (fun _ hk => hk.2) (.int .u32 ((rd_T31 x0_4 x46_4).f0))) (fun _ hk => hk.2) (.int .u32 ((rd_T31 x0_4 x46_4).f1))) (fun _ hk => ⟨hk.1.1.1, hk.1.1.2⟩)⟩, ⟨by (with_reducible repeat (first | apply Kd.R_alloc | apply Kd.R_drewN | apply Kd.R_drew)); exact Kd.R_mono (Kd.R_far (p := ⟨gb180, 1, none⟩) (Kd.R_far (p := ⟨gb180, 0, none⟩) (Kd.R_types HO_5.out BK180.out (by decide)) (fun _ hk => hk.2) (.int .u32 ((rd_T31 x0_4 x46_4).f0))) (fun _ hk => hk.2) (.int .u32 ((rd_T31 x0_4 x46_4).f1))) (fun _ hk => hk.1)⟩, ⟨by (with_reducible repeat (first | apply Kd.V_alloc | apply Kd.V_drewN | apply Kd.V_drew)); exact Kd.V_mono (Kd.V_far (p := ⟨gb180, 1, none⟩) (Kd.V_far (p := ⟨gb180, 0, none⟩) (Kd.V_mono HO_44.out (fun k_ hk => (⟨hk, hk.2⟩ : _ ∧ k_ ≠ gb180))) (fun _ hk => hk.2) (.int .u32 ((rd_T31 x0_4 x46_4).f0))) (fun _ hk => hk.2) (.int .u32 ((rd_T31 x0_4 x46_4).f1))) (fun _ hk => ⟨hk.1.1.1, hk.1.1.2⟩)⟩, ⟨by repeat (first | (with_reducible first | exact HB.out | apply below_alloc | apply pw_below_drewN | apply below_drew1 | refine below_set ?_ GE180.out) | exact HB.out)⟩⟩
                            · rw [if_neg c21] at H
                              exact absurd H (by simp)
                          · rw [if_neg c20] at H
                            exact absurd H (by simp)
                        · rw [if_neg c19] at H
                          have c19b0 : decide (x46_4 < (x0_4.length : Int)) = false := decide_eq_false c19
                          clear c19
                          by_cases c31 : x7_3 = true
                          · subst c31
                            have H1 : ((cpuset_Count.f x10_4).bind fun t182 => (mainsheetlaw07_MaskHall.l0 k4 x0_4 a1 t175 t176 (decide (t182 ≥ x9_4)) ji17 (wrap64 (x41_3 + 1)))) = some r := by rw [if_pos rfl] at H; exact H
                            clear H
                            have H := H1
                            clear H1
                            replace H := Option.bind_eq_some_iff.mp H
                            obtain ⟨t182, A320, H⟩ := H
                            replace H : (mainsheetlaw07_MaskHall.l0 k4 x0_4 a1 t175 t176 (decide (t182 ≥ x9_4)) ji17 (wrap64 (x41_3 + 1))) = some r := H
                            have A32 := Aside0.mk A320
                            clear A320
                            have H' := Aside0.mk H
                            clear H
                            go_wp2_with (first | (go_at_call 11; (with_reducible refine (cpuset_Count.calls x10_4 t182 _ A32.out).mono ?_); rintro e w' ⟨rfl, ⟨nd, rfl⟩⟩))
                            go_roundg k4
                            case measure => have := HJ4.out; have := HJ10.out; have := HK3.out; have := HK4.out; omega
                            case rel => exact ⟨(decide (t182 ≥ x9_4)), (wrap64 (x41_3 + 1)), (by first | rfl | (simp; done) | (simp [*]; done)), (by first | rfl | (simp; done) | (simp [*]; done)), H', ⟨by have := HJ4.out; have := HJ10.out; have := HK3.out; have := HK4.out; omega⟩, ⟨by (with_reducible repeat (first | apply Kd.V_alloc | apply Kd.V_drewN | apply Kd.V_drew)); exact HO_0.out⟩, ⟨by (with_reducible repeat (first | apply Kd.R_alloc | apply Kd.R_drewN | apply Kd.R_drew)); exact HO_5.out⟩, ⟨by repeat (first | (with_reducible first | exact HB.out | apply below_alloc | apply pw_below_drewN | apply below_drew1) | exact HB.out)⟩⟩
                          · replace c31 := Bool.eq_false_iff.mpr c31
                            subst c31
                            have H1 : (mainsheetlaw07_MaskHall.l0 k4 x0_4 a1 t175 t176 false ji17 (wrap64 (x41_3 + 1))) = some r := by rw [if_neg (show ¬ (false = true) by decide)] at H; exact H
                            clear H
                            have H := H1
                            clear H1
                            have H' := Aside0.mk H
                            clear H
                            go_wp2
                            go_roundg k4
                            case measure => have := HJ4.out; have := HJ10.out; have := HK3.out; have := HK4.out; omega
                            case rel => exact ⟨(false), (wrap64 (x41_3 + 1)), (by first | rfl | (simp; done) | (simp [*]; done)), (by first | rfl | (simp; done) | (simp [*]; done)), H', ⟨by have := HJ4.out; have := HJ10.out; have := HK3.out; have := HK4.out; omega⟩, ⟨by (with_reducible repeat (first | apply Kd.V_alloc | apply Kd.V_drewN | apply Kd.V_drew)); exact HO_0.out⟩, ⟨by (with_reducible repeat (first | apply Kd.R_alloc | apply Kd.R_drewN | apply Kd.R_drew)); exact HO_5.out⟩, ⟨by repeat (first | (with_reducible first | exact HB.out | apply below_alloc | apply pw_below_drewN | apply below_drew1) | exact HB.out)⟩⟩
                  · rw [if_neg c18] at H
                    have c18b0 : decide (x41_3 < ji17) = false := decide_eq_false c18
                    clear c18
                    by_cases c33 : (x7_3 != (t176 == 0)) = true
                    · rw [if_pos c33] at H
                      have c33b0 : (x7_3 != (t176 == 0)) = true := c33
                      (try (have c33b1 : decide (x7_3 = (t176 == 0)) = false := by simpa using c33))
                      (try (have c33b2 : (x7_3 == (t176 == 0)) = false := by simpa using c33))
                      (try (have c33b3 : ¬ (x7_3 = (t176 == 0)) := by simpa using c33))
                      clear c33
                      obtain rfl := Option.some.inj H
                      go_wp2
                      go_ret
                      exact ⟨by first | rfl | (simp [errW_none, errW_some] <;> rfl) | (simp only [← hji17]; first | rfl | (simp [errW_none, errW_some] <;> rfl)) | (simp [*, errW_none, errW_some] <;> rfl), by repeat (first | (with_reducible first | exact HB.out | apply below_alloc | apply pw_below_drewN | apply below_drew1) | exact HB.out)⟩
                    · rw [if_neg c33] at H
                      have c33b0 : (x7_3 != (t176 == 0)) = false := by simpa using c33
                      (try (have c33b1 : decide (x7_3 = (t176 == 0)) = true := by simpa using c33))
                      (try (have c33b2 : (x7_3 == (t176 == 0)) = true := by simpa using c33))
                      clear c33
                      have H' := Aside0.mk H
                      clear H
                      obtain ⟨Ao34, co34, eo34⟩ := Kd.R_slice HO_5.out
                      subst eo34
                      go_wp2
                      go_loopg [13, 78] k3 (fun kq v13 v78 w' => ∃ (x13_4 : Int) (x78_4 : Int), v13 = .int .u32 x13_4 ∧ v78 = .int .i64 x78_4 ∧ Aside0 (mainsheetlaw07_MaskHall.l2 kq x0_4 a1 t175 t176 x13_4 t175 (t175.length : Int) x78_4 = some r) ∧ Aside0 (kq ≤ k3) ∧ Aside0 (Kd.V k31 31 w' w.heap.size (fun k_ => (P0_ k_ ∨ w.heap.size ≤ k_) ∧ some k_ ≠ ((.slice Ao34 t175.length co34) : Value).ownBlock ∧ some k_ ≠ ((.slice Ao34 t175.length co34) : Value).ownBlock) (.slice Ao12 x0_4.length co12) x0_4) ∧ Aside0 (Kd.R (Kd.int .i64) 3 w' w.heap.size (fun k_ => (w.heap.size ≤ k_)) (.slice Ao34 t175.length co34) t175) ∧ Aside0 (Kd.R (Kd.int .i64) 3 w' w.heap.size (fun k_ => (w.heap.size ≤ k_)) (.slice Ao34 t175.length co34) t175) ∧ Aside0 (Below w.heap.size w w'))
                      case atStart => exact ⟨(0), (0), (by first | rfl | (simp; done) | (simp [*]; done)), (by first | rfl | (simp; done) | (simp [*]; done)), H', ⟨Nat.le_refl _⟩, ⟨by (with_reducible repeat (first | apply Kd.V_alloc | apply Kd.V_drewN | apply Kd.V_drew)); exact Kd.V_mono HO_0.out (fun _ hk => ⟨hk.1, ⟨hk.2, hk.2⟩⟩)⟩, ⟨by (with_reducible repeat (first | apply Kd.R_alloc | apply Kd.R_drewN | apply Kd.R_drew)); exact HO_5.out⟩, ⟨by (with_reducible repeat (first | apply Kd.R_alloc | apply Kd.R_drewN | apply Kd.R_drew)); exact HO_5.out⟩, ⟨by repeat (first | (with_reducible first | exact HB.out | apply below_alloc | apply pw_below_drewN | apply below_drew1) | exact HB.out)⟩⟩
                      case round =>
                        clear H'
                        try clear c1
                        try clear p1
                        try clear q1
                        try clear hx1
                        try clear c2
                        try clear p2
                        try clear c3
                        try clear c4
                        try clear p6
                        try clear c7
                        try clear c7b0
                        try clear c7b1
                        try clear c8
                        try clear c8b0
                        try clear c8b1
                        try clear c9
                        try clear q9
                        try clear c10
                        try clear c14
                        try clear c14b0
                        try clear c14b1
                        try clear c15
                        try clear p17
                        try clear q17
                        try clear hx17
                        try clear c18
                        try clear c18b0
                        try clear c19
                        try clear c19b0
                        try clear c20
                        try clear c20b0
                        try clear c21
                        try clear c21b0
                        try clear c22
                        try clear c22b0
                        try clear c24
                        try clear c24b0
                        try clear c24b1
                        try clear c31
                        try clear c33
                        try clear c33b0
                        try clear c33b1
                        try clear c33b2
                        try clear hcz27_0
                        try clear hcz27_1
                        try clear hcz30_0
                        try clear hcz30_1
                        try clear hfz27_0
                        try clear hfz27_1
                        try clear hfz30_0
                        try clear hfz30_1
                        try clear hx179_0
                        try clear hx179_1
                        try clear p179
                        try clear p2
                        try clear p6
                        try clear q179
                        try clear q9
                        obtain ⟨x13_4, x78_4, rfl, rfl, HA, HK4, HO_0, HO_5, HO_76, HB⟩ := hrel
                        cases gk with
                        | zero => exact absurd HA.out (by simp [mainsheetlaw07_MaskHall.l2])
                        | succ k4 =>
                          have H := HA.out
                          clear HA
                          simp only [mainsheetlaw07_MaskHall.l2] at H
                          by_cases c35 : x78_4 < (t175.length : Int)
                          · rw [if_pos c35] at H
                            have c35b0 : decide (x78_4 < (t175.length : Int)) = true := decide_eq_true c35
                            clear c35
                            by_cases c36 : 0 ≤ x78_4
                            · rw [if_pos c36] at H
                              have c36b0 : decide (0 ≤ x78_4) = true := decide_eq_true c36
                              clear c36
                              by_cases c37 : x78_4 < (t175.length : Int)
                              · rw [if_pos c37] at H
                                have c37b0 : decide (x78_4 < (t175.length : Int)) = true := decide_eq_true c37
                                clear c37
                                by_cases c38 : x78_4 < (x0_4.length : Int)
                                · rw [if_pos c38] at H
                                  have c38b0 : decide (x78_4 < (x0_4.length : Int)) = true := decide_eq_true c38
                                  clear c38
                                  replace H := Option.bind_eq_some_iff.mp H
                                  obtain ⟨t185, A390, H⟩ := H
                                  replace H : ((cpuset_Has.f t185 (rd t175 x78_4)).bind fun t186 => (if t186 = true then ((cpuset_Has.f x13_4 (rd t175 x78_4)).bind fun t187 => (if t187 = true then (some false) else (if 0 ≤ (rd t175 x78_4) then (mainsheetlaw07_MaskHall.l2 k4 x0_4 a1 t175 t176 (Go.bits .or .u32 x13_4 (shl .u32 1 (rd t175 x78_4))) t175 (t175.length : Int) (wrap64 (x78_4 + 1))) else (none)))) else (some false))) = some r := H
                                  have A39 := Aside0.mk A390
                                  clear A390
                                  replace H := Option.bind_eq_some_iff.mp H
                                  obtain ⟨t186, A400, H⟩ := H
                                  replace H : (if t186 = true then ((cpuset_Has.f x13_4 (rd t175 x78_4)).bind fun t187 => (if t187 = true then (some false) else (if 0 ≤ (rd t175 x78_4) then (mainsheetlaw07_MaskHall.l2 k4 x0_4 a1 t175 t176 (Go.bits .or .u32 x13_4 (shl .u32 1 (rd t175 x78_4))) t175 (t175.length : Int) (wrap64 (x78_4 + 1))) else (none)))) else (some false)) = some r := H
                                  have A40 := Aside0.mk A400
                                  clear A400
                                  by_cases c41 : t186 = true
                                  · subst c41
                                    have H1 : ((cpuset_Has.f x13_4 (rd t175 x78_4)).bind fun t187 => (if t187 = true then (some false) else (if 0 ≤ (rd t175 x78_4) then (mainsheetlaw07_MaskHall.l2 k4 x0_4 a1 t175 t176 (Go.bits .or .u32 x13_4 (shl .u32 1 (rd t175 x78_4))) t175 (t175.length : Int) (wrap64 (x78_4 + 1))) else (none)))) = some r := by rw [if_pos rfl] at H; exact H
                                    clear H
                                    have H := H1
                                    clear H1
                                    replace H := Option.bind_eq_some_iff.mp H
                                    obtain ⟨t187, A420, H⟩ := H
                                    replace H : (if t187 = true then (some false) else (if 0 ≤ (rd t175 x78_4) then (mainsheetlaw07_MaskHall.l2 k4 x0_4 a1 t175 t176 (Go.bits .or .u32 x13_4 (shl .u32 1 (rd t175 x78_4))) t175 (t175.length : Int) (wrap64 (x78_4 + 1))) else (none))) = some r := H
                                    have A42 := Aside0.mk A420
                                    clear A420
                                    by_cases c43 : t187 = true
                                    · subst c43
                                      have H1 : (some false) = some r := by rw [if_pos rfl] at H; exact H
                                      clear H
                                      have H := H1
                                      clear H1
                                      obtain rfl := Option.some.inj H
                                      have p183 : 0 ≤ (x78_4 : Int) := of_decide_eq_true (by first | (with_reducible assumption) | assumption)
                                      have q183 : x78_4 < (t175.length : Int) := of_decide_eq_true (by first | (with_reducible assumption) | assumption)
                                      obtain ⟨ad183, e183, hx183_0⟩ := Kd.at_int (Kd.R_reads' HO_76.out).2.2 x78_4 p183 q183
                                      cases e183
                                      replace p183 := eq_true p183
                                      replace q183 := eq_true q183
                                      have p184 : 0 ≤ (x78_4 : Int) := of_decide_eq_true (by first | (with_reducible assumption) | assumption)
                                      have q184 : x78_4 < (x0_4.length : Int) := of_decide_eq_true (by first | (with_reducible assumption) | assumption)
                                      obtain ⟨ad184, e184, hx184_0, hx184_1⟩ := at_T31 (Kd.V_reads' HO_0.out).2.2 x78_4 p184 q184
                                      cases e184
                                      replace p184 := eq_true p184
                                      replace q184 := eq_true q184
                                      go_wp2_with (first | ((with_reducible refine gate_callee (f := 10) rfl ?_); refine goesL_ (some 88) rfl rfl Tryd.func10 (by kernel_rfl) rfl #[.agg #[.int .u32 ((rd_T31 x0_4 x78_4).f0), .int .u32 ((rd_T31 x0_4 x78_4).f1)], .int .u32 a1] rfl (by (try simp only [List.map_toArray, List.map_cons, List.map_nil]); first | done | rfl | (simp only [List.length_drop, List.length_take]; rfl)) ?_; (with_reducible refine (mask_Allows.calls k4 ((rd_T31 x0_4 x78_4).f0) ((rd_T31 x0_4 x78_4).f1) a1 t185 _ A39.out).mono ?_); rintro e w44 ⟨rfl, hb⟩; refine ⟨_, rfl, ?_⟩; have n0_ := Aside0.mk (Kd.V_below (by (with_reducible repeat (first | apply Kd.V_alloc | apply Kd.V_drewN | apply Kd.V_drew)); exact HO_0.out) hb); have n1_ := Aside0.mk (Kd.R_below (by (with_reducible repeat (first | apply Kd.R_alloc | apply Kd.R_drewN | apply Kd.R_drew)); exact HO_5.out) hb); have n2_ := Aside0.mk (Kd.R_below (by (with_reducible repeat (first | apply Kd.R_alloc | apply Kd.R_drewN | apply Kd.R_drew)); exact HO_76.out) hb); have n3_ := Aside0.mk (below_step (by repeat (first | (with_reducible first | exact HB.out | apply below_alloc | apply pw_below_drewN | apply below_drew1) | exact HB.out)) hb); clear HO_0; clear HO_5; clear HO_76; clear HB; have HO_0 := n0_; have HO_5 := n1_; have HO_76 := n2_; have HB := n3_; clear n0_ n1_ n2_ n3_; (try clear hb); (try clear hb2); (try clear hk); (try clear hi)) | ((with_reducible refine gate_callee (f := 12) rfl ?_); refine goesL_ (some 90) rfl rfl Tryd.func12 (by kernel_rfl) rfl #[.int .u32 t185, .int .i64 (rd t175 x78_4)] rfl (by (try simp only [List.map_toArray, List.map_cons, List.map_nil]); first | done | rfl | (simp only [List.length_drop, List.length_take]; rfl)) ?_; (with_reducible refine (cpuset_Has.calls t185 (rd t175 x78_4) true _ A40.out).mono ?_); rintro e w' ⟨rfl, ⟨nd, rfl⟩⟩; refine ⟨_, rfl, ?_⟩) | (go_at_call 12; (with_reducible refine (cpuset_Has.calls x13_4 (rd t175 x78_4) true _ A42.out).mono ?_); rintro e w' ⟨rfl, ⟨nd, rfl⟩⟩))
                                      go_ret
                                      exact ⟨by first | rfl | (simp [errW_none, errW_some] <;> rfl) | (simp only [← hji17]; first | rfl | (simp [errW_none, errW_some] <;> rfl)) | (simp [*, errW_none, errW_some] <;> rfl), by repeat (first | (with_reducible first | exact HB.out | apply below_alloc | apply pw_below_drewN | apply below_drew1) | exact HB.out)⟩
                                    · replace c43 := Bool.eq_false_iff.mpr c43
                                      subst c43
                                      have H1 : (if 0 ≤ (rd t175 x78_4) then (mainsheetlaw07_MaskHall.l2 k4 x0_4 a1 t175 t176 (Go.bits .or .u32 x13_4 (shl .u32 1 (rd t175 x78_4))) t175 (t175.length : Int) (wrap64 (x78_4 + 1))) else (none)) = some r := by rw [if_neg (show ¬ (false = true) by decide)] at H; exact H
                                      clear H
                                      have H := H1
                                      clear H1
                                      by_cases c45 : 0 ≤ (rd t175 x78_4)
                                      · rw [if_pos c45] at H
                                        have c45b0 := eq_true c45
                                        have c45b1 : decide (0 ≤ (rd t175 x78_4)) = true := decide_eq_true c45
                                        clear c45
                                        obtain ⟨ji46, hji46⟩ : ∃ j_ : Int, (shl .u32 1 (rd t175 x78_4)) = j_ := ⟨_, rfl⟩
                                        replace H : (mainsheetlaw07_MaskHall.l2 k4 x0_4 a1 t175 t176 (Go.bits .or .u32 x13_4 (ji46)) t175 (t175.length : Int) (wrap64 (x78_4 + 1))) = some r := by first | (rw [hji46] at H; exact H) | (simp only [hji46] at H ⊢; exact H)
                                        (try rw [hji46] at A39)
                                        (try rw [hji46] at A40)
                                        (try rw [hji46] at A42)
                                        have hji46_ : (IntKind.u32.wrap (1 * 2 ^ min (rd t175 x78_4).toNat 32)) = ji46 := hji46
                                        have hji46z : (rd t175 x78_4) ≤ 32 → (IntKind.u32.wrap (1 * 2 ^ (rd t175 x78_4).toNat)) = ji46 := shl_small hji46
                                        have hji46u : (IntKind.u32.wrap (2 ^ min (rd t175 x78_4).toNat 32)) = ji46 := by have h_ := hji46_; rw [Int.one_mul] at h_; exact h_
                                        have hji46v : (rd t175 x78_4) ≤ 32 → (IntKind.u32.wrap (2 ^ (rd t175 x78_4).toNat)) = ji46 := fun hle_ => by have h_ := hji46z hle_; rw [Int.one_mul] at h_; exact h_
                                        have H' := Aside0.mk H
                                        clear H
                                        have p183 : 0 ≤ (x78_4 : Int) := of_decide_eq_true (by first | (with_reducible assumption) | assumption)
                                        have q183 : x78_4 < (t175.length : Int) := of_decide_eq_true (by first | (with_reducible assumption) | assumption)
                                        obtain ⟨ad183, e183, hx183_0⟩ := Kd.at_int (Kd.R_reads' HO_76.out).2.2 x78_4 p183 q183
                                        cases e183
                                        replace p183 := eq_true p183
                                        replace q183 := eq_true q183
                                        have p184 : 0 ≤ (x78_4 : Int) := of_decide_eq_true (by first | (with_reducible assumption) | assumption)
                                        have q184 : x78_4 < (x0_4.length : Int) := of_decide_eq_true (by first | (with_reducible assumption) | assumption)
                                        obtain ⟨ad184, e184, hx184_0, hx184_1⟩ := at_T31 (Kd.V_reads' HO_0.out).2.2 x78_4 p184 q184
                                        cases e184
                                        replace p184 := eq_true p184
                                        replace q184 := eq_true q184
                                        go_wp2_with (first | ((with_reducible refine gate_callee (f := 10) rfl ?_); refine goesL_ (some 88) rfl rfl Tryd.func10 (by kernel_rfl) rfl #[.agg #[.int .u32 ((rd_T31 x0_4 x78_4).f0), .int .u32 ((rd_T31 x0_4 x78_4).f1)], .int .u32 a1] rfl (by (try simp only [List.map_toArray, List.map_cons, List.map_nil]); first | done | rfl | (simp only [List.length_drop, List.length_take]; rfl)) ?_; (with_reducible refine (mask_Allows.calls k4 ((rd_T31 x0_4 x78_4).f0) ((rd_T31 x0_4 x78_4).f1) a1 t185 _ A39.out).mono ?_); rintro e w47 ⟨rfl, hb⟩; refine ⟨_, rfl, ?_⟩; have n0_ := Aside0.mk (Kd.V_below (by (with_reducible repeat (first | apply Kd.V_alloc | apply Kd.V_drewN | apply Kd.V_drew)); exact HO_0.out) hb); have n1_ := Aside0.mk (Kd.R_below (by (with_reducible repeat (first | apply Kd.R_alloc | apply Kd.R_drewN | apply Kd.R_drew)); exact HO_5.out) hb); have n2_ := Aside0.mk (Kd.R_below (by (with_reducible repeat (first | apply Kd.R_alloc | apply Kd.R_drewN | apply Kd.R_drew)); exact HO_76.out) hb); have n3_ := Aside0.mk (below_step (by repeat (first | (with_reducible first | exact HB.out | apply below_alloc | apply pw_below_drewN | apply below_drew1) | exact HB.out)) hb); clear HO_0; clear HO_5; clear HO_76; clear HB; have HO_0 := n0_; have HO_5 := n1_; have HO_76 := n2_; have HB := n3_; clear n0_ n1_ n2_ n3_; (try clear hb); (try clear hb2); (try clear hk); (try clear hi)) | ((with_reducible refine gate_callee (f := 12) rfl ?_); refine goesL_ (some 90) rfl rfl Tryd.func12 (by kernel_rfl) rfl #[.int .u32 t185, .int .i64 (rd t175 x78_4)] rfl (by (try simp only [List.map_toArray, List.map_cons, List.map_nil]); first | done | rfl | (simp only [List.length_drop, List.length_take]; rfl)) ?_; (with_reducible refine (cpuset_Has.calls t185 (rd t175 x78_4) true _ A40.out).mono ?_); rintro e w' ⟨rfl, ⟨nd, rfl⟩⟩; refine ⟨_, rfl, ?_⟩) | (go_at_call 12; (with_reducible refine (cpuset_Has.calls x13_4 (rd t175 x78_4) false _ A42.out).mono ?_); rintro e w' ⟨rfl, ⟨nd, rfl⟩⟩))
                                        go_roundg k4
                                        case measure => have := HJ4.out; have := HJ10.out; have := HK3.out; have := HK4.out; omega
                                        case rel => exact ⟨(Go.bits .or .u32 x13_4 (ji46)), (wrap64 (x78_4 + 1)), (by first | rfl | (simp; done) | (simp only [← hji46] <;> (first | rfl | simp)) | (simp [*]; done)), (by first | rfl | (simp; done) | (simp [*]; done)), H', ⟨by have := HJ4.out; have := HJ10.out; have := HK3.out; have := HK4.out; omega⟩, ⟨by (with_reducible repeat (first | apply Kd.V_alloc | apply Kd.V_drewN | apply Kd.V_drew)); exact HO_0.out⟩, ⟨by (with_reducible repeat (first | apply Kd.R_alloc | apply Kd.R_drewN | apply Kd.R_drew)); exact HO_5.out⟩, ⟨by (with_reducible repeat (first | apply Kd.R_alloc | apply Kd.R_drewN | apply Kd.R_drew)); exact HO_76.out⟩, ⟨by repeat (first | (with_reducible first | exact HB.out | apply below_alloc | apply pw_below_drewN | apply below_drew1) | exact HB.out)⟩⟩
                                      · rw [if_neg c45] at H
                                        exact absurd H (by simp)
                                  · replace c41 := Bool.eq_false_iff.mpr c41
                                    subst c41
                                    have H1 : (some false) = some r := by rw [if_neg (show ¬ (false = true) by decide)] at H; exact H
                                    clear H
                                    have H := H1
                                    clear H1
                                    obtain rfl := Option.some.inj H
                                    have p183 : 0 ≤ (x78_4 : Int) := of_decide_eq_true (by first | (with_reducible assumption) | assumption)
                                    have q183 : x78_4 < (t175.length : Int) := of_decide_eq_true (by first | (with_reducible assumption) | assumption)
                                    obtain ⟨ad183, e183, hx183_0⟩ := Kd.at_int (Kd.R_reads' HO_76.out).2.2 x78_4 p183 q183
                                    cases e183
                                    replace p183 := eq_true p183
                                    replace q183 := eq_true q183
                                    have p184 : 0 ≤ (x78_4 : Int) := of_decide_eq_true (by first | (with_reducible assumption) | assumption)
                                    have q184 : x78_4 < (x0_4.length : Int) := of_decide_eq_true (by first | (with_reducible assumption) | assumption)
                                    obtain ⟨ad184, e184, hx184_0, hx184_1⟩ := at_T31 (Kd.V_reads' HO_0.out).2.2 x78_4 p184 q184
                                    cases e184
                                    replace p184 := eq_true p184
                                    replace q184 := eq_true q184
                                    go_wp2_with (first | ((with_reducible refine gate_callee (f := 10) rfl ?_); refine goesL_ (some 88) rfl rfl Tryd.func10 (by kernel_rfl) rfl #[.agg #[.int .u32 ((rd_T31 x0_4 x78_4).f0), .int .u32 ((rd_T31 x0_4 x78_4).f1)], .int .u32 a1] rfl (by (try simp only [List.map_toArray, List.map_cons, List.map_nil]); first | done | rfl | (simp only [List.length_drop, List.length_take]; rfl)) ?_; (with_reducible refine (mask_Allows.calls k4 ((rd_T31 x0_4 x78_4).f0) ((rd_T31 x0_4 x78_4).f1) a1 t185 _ A39.out).mono ?_); rintro e w48 ⟨rfl, hb⟩; refine ⟨_, rfl, ?_⟩; have n0_ := Aside0.mk (Kd.V_below (by (with_reducible repeat (first | apply Kd.V_alloc | apply Kd.V_drewN | apply Kd.V_drew)); exact HO_0.out) hb); have n1_ := Aside0.mk (Kd.R_below (by (with_reducible repeat (first | apply Kd.R_alloc | apply Kd.R_drewN | apply Kd.R_drew)); exact HO_5.out) hb); have n2_ := Aside0.mk (Kd.R_below (by (with_reducible repeat (first | apply Kd.R_alloc | apply Kd.R_drewN | apply Kd.R_drew)); exact HO_76.out) hb); have n3_ := Aside0.mk (below_step (by repeat (first | (with_reducible first | exact HB.out | apply below_alloc | apply pw_below_drewN | apply below_drew1) | exact HB.out)) hb); clear HO_0; clear HO_5; clear HO_76; clear HB; have HO_0 := n0_; have HO_5 := n1_; have HO_76 := n2_; have HB := n3_; clear n0_ n1_ n2_ n3_; (try clear hb); (try clear hb2); (try clear hk); (try clear hi)) | ((with_reducible refine gate_callee (f := 12) rfl ?_); refine goesL_ (some 90) rfl rfl Tryd.func12 (by kernel_rfl) rfl #[.int .u32 t185, .int .i64 (rd t175 x78_4)] rfl (by (try simp only [List.map_toArray, List.map_cons, List.map_nil]); first | done | rfl | (simp only [List.length_drop, List.length_take]; rfl)) ?_; (with_reducible refine (cpuset_Has.calls t185 (rd t175 x78_4) false _ A40.out).mono ?_); rintro e w' ⟨rfl, ⟨nd, rfl⟩⟩; refine ⟨_, rfl, ?_⟩))
                                    go_ret
                                    exact ⟨by first | rfl | (simp [errW_none, errW_some] <;> rfl) | (simp only [← hji17]; first | rfl | (simp [errW_none, errW_some] <;> rfl)) | (simp [*, errW_none, errW_some] <;> rfl), by repeat (first | (with_reducible first | exact HB.out | apply below_alloc | apply pw_below_drewN | apply below_drew1) | exact HB.out)⟩
                                · rw [if_neg c38] at H
                                  exact absurd H (by simp)
                              · rw [if_neg c37] at H
                                exact absurd H (by simp)
                            · rw [if_neg c36] at H
                              exact absurd H (by simp)
                          · rw [if_neg c35] at H
                            have c35b0 : decide (x78_4 < (t175.length : Int)) = false := decide_eq_false c35
                            clear c35
                            by_cases c49 : t176 = 0
                            · rw [if_pos c49] at H
                              have c49b0 : (t176 == 0) = true := beq_iff_eq.mpr c49
                              have c49b1 : (t176 != 0) = false := bne_eq_false_iff_eq.mpr c49
                              clear c49
                              obtain rfl := Option.some.inj H
                              go_wp2
                              go_ret
                              exact ⟨by first | rfl | (simp [errW_none, errW_some] <;> rfl) | (simp only [← hji17]; first | rfl | (simp [errW_none, errW_some] <;> rfl)) | (simp [*, errW_none, errW_some] <;> rfl), by repeat (first | (with_reducible first | exact HB.out | apply below_alloc | apply pw_below_drewN | apply below_drew1) | exact HB.out)⟩
                            · rw [if_neg c49] at H
                              have c49b0 : (t176 == 0) = false := beq_eq_false_iff_ne.mpr c49
                              have c49b1 : (t176 != 0) = true := bne_iff_ne.mpr c49
                              obtain rfl := Option.some.inj H
                              go_wp2
                              go_ret
                              exact ⟨by first | rfl | (simp [errW_none, errW_some] <;> rfl) | (simp only [← hji17]; first | rfl | (simp [errW_none, errW_some] <;> rfl)) | (simp [*, errW_none, errW_some] <;> rfl), by repeat (first | (with_reducible first | exact HB.out | apply below_alloc | apply pw_below_drewN | apply below_drew1) | exact HB.out)⟩
  · replace c4 := Bool.eq_false_iff.mpr c4
    subst c4
    have H1 : (some false) = some r := by rw [if_neg (show ¬ (false = true) by decide)] at H; exact H
    clear H
    have H := H1
    clear H1
    obtain rfl := Option.some.inj H
    go_enter Tryd.func3, Tryd.ntmps3
    go_wp2_with (first | ((with_reducible refine gate_callee (f := 8) rfl ?_); refine goesL_ (some 16) rfl rfl Tryd.func8 (by kernel_rfl) rfl #[] rfl (by (try simp only [List.map_toArray, List.map_cons, List.map_nil]); first | done | rfl | (simp only [List.length_drop, List.length_take]; rfl)) ?_; (with_reducible refine (mainsheetlaw07_wakes.calls k  false _ ?tb A3.out).mono ?_); (case tb => exact HT.out.step (by repeat (first | (with_reducible first | exact HB.out | apply below_alloc | apply pw_below_drewN | apply below_drew1) | exact HB.out))); rintro e w50 ⟨rfl, hb⟩; refine ⟨_, rfl, ?_⟩; have n0_ := Aside0.mk (Kd.V_below (by (with_reducible repeat (first | apply Kd.V_alloc | apply Kd.V_drewN | apply Kd.V_drew)); exact HO0.out) hb); have n1_ := Aside0.mk (below_step (by repeat (first | (with_reducible first | exact HB.out | apply below_alloc | apply pw_below_drewN | apply below_drew1) | exact HB.out)) hb); clear HO0; clear HB; have HO0 := n0_; have HB := n1_; clear n0_ n1_; (try clear hb); (try clear hb2); (try clear hk); (try clear hi)))
    go_ret
    exact ⟨by first | rfl | (simp [errW_none, errW_some] <;> rfl) | (simp [*, errW_none, errW_some] <;> rfl), by repeat (first | (with_reducible first | exact HB.out | apply below_alloc | apply pw_below_drewN | apply below_drew1) | exact HB.out)⟩

end Go.Proofs.YtlfljoihcjmnkaaDoor.Q
